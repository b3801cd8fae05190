/- Abstract values and states of the program, functions of the program and what their calls come to, and what follows from it: part 3 of the text that the law leans on; long names are written short. -/
import Derived.Test.YtobfemcdchmgeaaGreatP2
set_option linter.unusedVariables false
set_option linter.unusedSimpArgs false
set_option linter.unnecessarySimpa false
namespace Go.Proofs.YtobfemcdchmgeaaGreat
open Go
open Option renaming bind_some → f5i, map_some → f6x, getD_some → f6D, map_eq_some_iff → f6J
open List renaming getElem?_eq_getElem → f5j, replicate → f5k, getElem_mem → f5l, getElem?_eq_some_iff → f5o, mem_singleton → f5p, range → f5q, mem_cons → f5r, nodup_append → f5s, eq_nil_of_length_eq_zero → f5t, length_append → f5u, mem_of_getElem? → f5w, getD_eq_getElem?_getD → f5x, drop_eq_getElem_cons → f5z, getElem?_append_right → f5A, append_assoc → f5B, take_length → f5C, getElem?_set_ne → f5D, getElem?_append_left → f5E, drop_eq_nil_of_le → f5F, length_take → f5G, flatten_cons → f5L, take_succ_eq_append_getElem → f5N, getElem?_eq_none → f5O, map_cons → f5Q, append_nil → f5S, take_zero → f5T, any_eq_false → f5U, take_of_length_le → f5V, take_append_of_le_length → f5W, pairwise_iff_getElem → f5X, length_map → f5Y, mem_replicate → f5Z, findIdx?_eq_some_iff_getElem → f6a, nil_append → f6b, take_append_drop → f6e, getElem_of_mem → f6g, mem_flatten → f6h, getElem?_map → f6i, mem_of_mem_drop → f6j, mem_of_mem_take → f6k, getElem?_set_self → f6l, length_cons → f6n, length_singleton → f6o, getElem?_cons_zero → f6p, drop_zero → f6q, mem_take_iff_getElem → f6t, mem_range → f6u, map_append → f6v, getElem?_cons_succ → f6w, pairwise_cons → f6z, length_set → f6B, nodup_cons → f6C, any_eq_true → f6E, mem_append_left → f6G, getElem?_set → f6H, getElem?_drop → f6K, getElem?_take → f6L, find?_cons → f6N, length_nil → f6O, all_eq_false → f6Q, sublist_append_right → f6S, getElem?_of_mem → f6T, pairwise_append → f6U, Perm → f6W, drop_drop → f6X, cons_append → f6Z, getElem_map → f7a, take_succ_cons → f7b, replicate_succ → f7c, foldl_cons → f7d, drop_append_of_le_length → f7e, size_toArray → f7f, toArray → f7g, map_map → f7h, Sublist → f7i, set_getElem_self → f7j, length_replicate → f7l, getElem?_append → f7m, not_mem_nil → f7n, drop_length → f7p, mem_cons_of_mem → f7q, any_cons → f7r, flatten_append → f7s, findIdx?_eq_none_iff → f7t, mem_of_find?_eq_some → f7u, find?_eq_none → f7v, foldl_nil → f7x
open Bool renaming and_eq_true → f5m, not_true → f5n, true_and → f5v, not_false → f5J, false_or → f5R, not_eq_true' → f6c, or_eq_false_iff → f6s, false_eq_true → f6y, and_true → f6A, eq_iff_iff → f6P, and_assoc → f6Y, true_or → f7k, not_not → f7w
open Nat renaming le_refl → f5y, mul_le_mul_right → f5M, eq_of_beq_eq_true → f5P, zero_add → f6m, succ_mul → f6r, lt_of_lt_of_le → f6F, le_mul_of_pos_right → f6I, add_zero → f6M, le_succ_of_le → f6R, zero_le → f6V
open Int renaming le_refl → f5H, toNat_natCast → f5I, tmod → f5K, le_trans → f6d, tdiv → f7o
open Option.some renaming inj → f6f
noncomputable section
theorem e4K(list):LQ a2T d6j (e7Z list) (fun s=>b4I list s.1 s.2):=fun lc (out,i) h=>PK<|rg<|j5 3 h (fun h=>rg<|v5 q9 3 h fun vote N7 h=>J0 q9 8 N7<|j8 d1x e8N 11 h fun d h=>om (s8.deep false 158 8 1 [(e5X vote d)]=C3 158 8 a0G [(m7.mk vote.a7 d)]) rfl<|olR d.b7<|tl (13,{a:=.dck [none,none,none,none,some 2,some 2,none,none] [none,none,none,none,some 192,some 195,none,none],e:=some (C3 158 8 a0G [(m7.mk vote.a7 d)])})<|t8 h fun e1 h=>om (V.own 20 0 8 0 (out.length+1)=.own 20 0 8 0 (out++[(m7.mk vote.a7 d)]).length) (by simp)<|om (s8.deep false 158 8 (out.length+1) (out.map a0G++[a0G (m7.mk vote.a7 d)])=C3 158 8 a0G (out++[(m7.mk vote.a7 d)])) (c0M rfl)<|s6 out<|ob e1<|om (1=1) rfl<|tl (14,{a:=.dck [] [],v:=some (.own 20 0 8 0 (out++[(m7.mk vote.a7 d)]).length),e:=some (C3 158 8 a0G (out++[(m7.mk vote.a7 d)]))})<|rg<|(lc.nx h fun hI=>sk [] [0,3,4] [(20,0)] hI)) (fun h=>(lc.bk h fun hI=>sk [] [3] [(1,0)] hI))
def b6y(list:List m7):Option (List m7) :=
 ((p8 (fun s:(List m7)×Int=>b4I list s.1 s.2) (([]:List m7),0)).bind fun x=>x.go (fun r=>some r) fun s=>c6V s)
theorem f3q{list}:OK a2T [j9 8 q9 list] (b6y list) :=
 o7 _ fun r h=>n9<|om (s8.deep false 158 8 0 []=C3 158 8 a0G ([]:List m7)) rfl<|tl (0,{a:=.dck [] [],e:=some (C3 158 8 a0G ([]:List m7))})<|rg<|lp (e4K list) h (fun _ h=>a2T.rt h) (f0K r) fun hI=>om ((.own 2 0 8 0 0:V)=.own 2 0 8 0 ([]:List m7).length) (by simp)<|sk [.is (.tmp 3) (.own 2 0 8 0 ([]:List m7).length)] [0,3,4] [(2,0)] hI
def d5e:FS (j6×List l8):=⟨191,Tryz.f191,[.val B0 G9,.val [some 13] []],[none,none],[.val B0 G9,.val C0 []],fun r=>.tup [.agg (H0 r.1),j9 13 t0 r.2],fun _=>[none,none],Tryz.func191⟩
def b7L(n:j6)(m:l8):Option (j6×List l8) :=
 (a4D (b0J n.Acc m.a7) (fun no=>(bif (!no.2) then ((a5u m (l8.mk 6 0 0 n.Acc.g9 0 (m4.mk false (n7.mk 0 0) (n6.mk [] [] 0 0)) [])).bind fun a1J=>some (n,a1J)) else none)) (((a7z n.Acc m.a7).bind fun l6Promise=>(bif (!l6Promise.2) then none else ((b27 (j6.mk n.Id l6Promise.1 n.a5 n.Seq n.d8 n.a7 n.c9 n.i0 n.d6 n.a6 n.i9 n.i6 n.b8 n.f0) m.a7).bind fun r_=>(bif decide (m.g8<(l6Promise.1.a6.length:Int)) then (t5 ((0:Int)<=m.g8/\m.g8<=(l6Promise.1.a6.length:Int)) (((b6y ((l6Promise.1.a6.drop m.g8.toNat).take (l6Promise.1.a6.length-m.g8.toNat))).bind fun d=>((a5u m (l8.mk 2 0 0 m.a7 m.g8 (m4.mk false (n7.mk 0 0) (n6.mk [] [] 0 0)) d)).bind fun a5z=>some ((j6.mk r_.Id (z0.mk r_.Acc.g9 l6Promise.1.a6) r_.a5 r_.Seq r_.d8 r_.a7 r_.c9 r_.i0 r_.d6 r_.a6 r_.i9 r_.i6 r_.b8 r_.f0),a5z))))) else ((a5u m (l8.mk 2 0 0 m.a7 m.g8 (m4.mk false (n7.mk 0 0) (n6.mk [] [] 0 0)) ([]:List m7))).bind fun c6W=>some ((j6.mk r_.Id (z0.mk r_.Acc.g9 l6Promise.1.a6) r_.a5 r_.Seq r_.d8 r_.a7 r_.c9 r_.i0 r_.d6 r_.a6 r_.i9 r_.i6 r_.b8 r_.f0),c6W))))))))
set_option maxRecDepth 20000 in
theorem e6g{n m}:OK d5e [.agg (H0 n),.agg (t0 m)] (b7L n m) :=
 o7 _ fun r h=>n9<|cbA a5N.t c4H 4 true h (fun no h=>osc a5N no (by simp [a5N,K2,R6,N6,V.simple,vi,u9,Z4,eB,s7,eI,w8,v6,E6,Q7,q9]) (O9 2)<|s6 n.Acc.a6<|rg<|j5 1 h (fun h=>rg<|j8 a3C a72 6 h fun a1J h=>A2 n<|fE h) (fun h=>(nomatch h))) (fun h=>j8 b4d b7J 4 h fun l6Promise h=>s6 n.Acc.a6<|rg<|j5 1 h (fun h=>(nomatch h)) (fun h=>n9<|cb e8U f3c 3 false h fun r_ h=>J2 n<|rg<|tk 0 V5<|rg<|j5 5 h (fun h=>rg<|t8 h fun e1 h=>ob e1.1<|ob e1.2<|A9 h fun d hd h=>om (a0c cx.P 135 [.sl 8 (l6Promise.1.a6.length-m.g8.toNat) (((l6Promise.1.a6.map q9).drop (0+m.g8.toNat)).take (l6Promise.1.a6.length-m.g8.toNat))] (a2T.R d) (a2T.O d)) (by rw [f6m,b5C e1];exact (f3q d hd))<|osc a2T d (by simp [a2T,K2,R6,N6,V.simple,vi,u9,b8I,eB,s7,eI,w8,v6,E6,Q7,q9,a0G,a9w]) (O9 1)<|om ((0+m.g8.toNat)+(l6Promise.1.a6.length-m.g8.toNat)<=l6Promise.1.a6.length) (by omega)<|tl (a2T.t 5 true d)<|rg<|A9 h fun a5z f3b h=>om (a0c cx.P 216 [.agg (t0 m),.agg [vi 2,vi 0,vi 0,vi m.a7,vi m.g8,.b false,vi 0,vi 0,j9 2 v6 ([]:List r9),j9 2 w8 ([]:List p6),vi 0,vi 0,.sl 8 d.length (a0x (d.map a0G))]] (a3C.R a5z) (a3C.O a5z)) (by simp only [b06 e38];exact (a72 a5z f3b))<|s6 d<|tl (a3C.t 8 false a5z)<|s6 l6Promise.1.a6<|J2 r_<|fE h) (fun h=>rg<|j8 a3C a72 8 h fun c6W h=>A8 m7<|s6 l6Promise.1.a6<|J2 r_<|fE h)))
def d2J:FS (List m7):=⟨218,Tryz.f218,[.val [some 8] [some 158]],[none,none],[.val [some 8] [],.val [] []],fun r=>u9 158 8 q9 r,fun _=>[none,none],Tryz.func218⟩
def b7y(list:List m7)(slot:Int):Option (List m7) :=
 (t5 (0<=slot/\slot*96<=140737488355328) (((a7Q list).bind fun Y1=>(t5 (((f5k slot.toNat (m7.mk 0 (m4.mk false (n7.mk 0 0) (n6.mk [] [] 0 0)))).length+Y1.length)*96<=140737488355328) (some ((f5k slot.toNat (m7.mk 0 (m4.mk false (n7.mk 0 0) (n6.mk [] [] 0 0))))++Y1))))))
theorem e6I{list slot}:OK d2J [j9 8 q9 list,vi slot] (b7y list slot) :=
 o7 _ fun r h=>n9<|t8 h fun e1 h=>U0 1 3 158 8 96 q9 (m7.mk 0 (m4.mk false (n7.mk 0 0) (n6.mk [] [] 0 0))) b3d (.ck V5) e1 (by decide) (by rfl)<|rg<|j8 a3N b8B 2 h fun Y1 h=>t8 h fun e2 h=>apL 3 8 158 8 96 q9 (f5k slot.toNat (m7.mk 0 (m4.mk false (n7.mk 0 0) (n6.mk [] [] 0 0)))) Y1 e2<|s6 Y1<|s6 ((f5k slot.toNat (m7.mk 0 (m4.mk false (n7.mk 0 0) (n6.mk [] [] 0 0))))++Y1)<|fE h
def a15:FS (List m7):=⟨217,Tryz.f217,[.val [some 8] []],[none,none],[.val [some 8] [],.val [some 8] []],fun r=>j9 8 q9 r,fun _=>[none,none],Tryz.func217⟩
def b2t:(List m7)->KS:=fun out1=>⟨a15.k 4 [false],(bs 5 (.own 1 0 8 0 out1.length::(bs 52 []))),[some [],some [m6 158 8 q9 out1]]⟩
def c9K(out1:List m7):Option (List m7) :=
 some out1
theorem d7f(r):NF a15 r b2t (fun s=>c9K s):=fun out1 h=>PK<|rg<|s6 out1<|fE h
def c0b(a:List m7)(b:List m7):((List m7)×Int)->KS:=fun (out,i)=>⟨a15.k 3 [],(j9 8 q9 a::(j9 8 q9 b::(bs 3 (.own 1 0 8 0 out.length::(vi i::(bs 51 [])))))),[some [],some [m6 158 8 q9 out]]⟩
def e8G(a:List m7)(b:List m7)(out:List m7)(i:Int):Unit->KS:=fun _=>⟨a15.k 4 [true],(j9 8 q9 a::(j9 8 q9 b::(bs 3 (.own 1 0 8 0 out.length::(vi i::(bs 51 [])))))),[some [],some [m6 158 8 q9 out]]⟩
def f1R(a:List m7)(b:List m7)(out:List m7)(i:Int):m7->KS:=fun v_=>⟨a15.k 7 [true,true],(j9 8 q9 a::(j9 8 q9 b::(bs 3 (.own 1 0 8 0 out.length::(vi i::(.ptr 2 0 0::(bs 50 []))))))),[some [],some [m6 158 8 q9 out],some [.var 158 (d1W v_)]]⟩
def f2E(a:List m7)(b:List m7)(out:List m7)(i:Int):m7->KS:=fun v_1=>⟨a15.k 9 [true,true,true],(j9 8 q9 a::(j9 8 q9 b::(bs 3 (.own 1 0 8 0 out.length::(vi i::(.ptr 2 0 0::(bs 50 []))))))),[some [],some [m6 158 8 q9 out],some [.var 158 (d1W v_1)]]⟩
def b52(out:List m7)(i:Int)(v_1:m7):Option (l7 (List m7) ((List m7)×Int) (List m7)) :=
 ((W9 v_1.i4).bind fun l5Entry=>(t5 ((out.length+1)*96<=140737488355328) (some (l7.nxt (out++[(m7.mk v_1.a7 l5Entry)],m8 (i+1))))))
theorem e5o(a b out i)(lc:H2 a15 b2t (c0b a b)):NL lc (f2E a b out i) (fun s=>b52 out i s):=fun v_1 h=>PK<|rg<|j8 a0l a0R 5 h fun l5Entry h=>tk 7 V5<|t8 h fun e1 h=>F6 8 11 158 8 96 q9 out (m7.mk v_1.a7 l5Entry) e1<|E4 (m7.mk v_1.a7 l5Entry)<|rg<|(lc.nx h fun hI=>sk [] [0,1,5,6] [(11,0)] hI)
def b7t(b:List m7)(out:List m7)(i:Int)(v_:m7):Option (l7 (List m7) ((List m7)×Int) (List m7)) :=
 (((bif decide (i<(b.length:Int)) then ((idx b i).bind fun vote=>(bif decide (vote.a7>v_.a7) then some (l9.brk vote) else some (l9.brk v_))) else some (l9.brk v_)):Option (l9 (l7 (List m7) ((List m7)×Int) (List m7)) m7)).bind fun x=>x.go some fun j=>b52 out i j)
theorem e5T(a b out i)(lc:H2 a15 b2t (c0b a b)):NL lc (f1R a b out i) (fun s=>b7t b out i s):=fun v_ h=>PK<|A7 h (e5o a b out i lc) fun x2 h hc2=>rg<|j5 4 h (fun h=>v5 q9 7 h fun vote N7 h=>j5 13 h (fun h=>rg<|J0 q9 2 N7<|(p7 h hc2 fun hI=>sk [] [0,1,5,6,7] [(1,0),(2,0)] hI)) (fun h=>(p7 h hc2 fun hI=>sk [] [0,1,5,6,7] [(1,0),(2,0)] hI))) (fun h=>(p7 h hc2 fun hI=>sk [] [0,1,5,6,7] [(1,0),(2,0)] hI))
def b9F(a:List m7)(b:List m7)(out:List m7)(i:Int):Option (l7 (List m7) ((List m7)×Int) (List m7)) :=
 (((bif decide (i<(a.length:Int)) then ((idx a i).bind fun T3=>some (l9.brk T3)) else some (l9.brk (m7.mk 0 (m4.mk false (n7.mk 0 0) (n6.mk [] [] 0 0))))):Option (l9 (l7 (List m7) ((List m7)×Int) (List m7)) m7)).bind fun x=>x.go some fun j=>b7t b out i j)
theorem e9d(a b out i)(lc:H2 a15 b2t (c0b a b)):NL lc (e8G a b out i) (fun s=>b9F a b out i):=fun _ h=>PK<|rg<|A7 h (e5T a b out i lc) fun x2 h hc2=>rg<|j5 3 h (fun h=>rg<|v5 q9 2 h fun T3 a4b h=>(p7 h hc2 fun hI=>sk [] [0,1,5,6,7] [(1,0),(3,0)] hI)) (fun h=>(p7 h hc2 fun hI=>sk [.frz (.cell 3 0 4) (some 2),.frz (.cell 3 0 5) (some 2)] [0,1,5,6,7] [(1,0),(3,0)] hI))
def a7e(a:List m7)(b:List m7)(out:List m7)(i:Int):Option (l7 (List m7) ((List m7)×Int) (List m7)) :=
 (((bif decide (i<(a.length:Int)) then some (l9.brk ()) else (bif decide (i<(b.length:Int)) then some (l9.brk ()) else some (l9.ret (l7.brk out)))):Option (l9 (l7 (List m7) ((List m7)×Int) (List m7)) Unit)).bind fun x=>x.go some fun j=>b9F a b out i)
theorem d9N(a b):LQ a15 b2t (c0b a b) (fun s=>a7e a b s.1 s.2):=fun lc (out,i) h=>PK<|A7 h (e9d a b out i lc) fun x2 h hc2=>rg<|j5 4 h (fun h=>(p7 h hc2 fun hI=>sk [] [0,1,5,6] [(1,0)] hI)) (fun h=>j5 9 h (fun h=>(p7 h hc2 fun hI=>sk [] [0,1,5,6] [(1,0)] hI)) (fun h=>(C1 h hc2 fun h=>(lc.bk h fun hI=>sk [] [5] [(1,0)] hI))))
def b9A(a:List m7)(b:List m7):Option (List m7) :=
 ((p8 (fun s:(List m7)×Int=>a7e a b s.1 s.2) (([]:List m7),0)).bind fun x=>x.go (fun r=>some r) fun s=>c9K s)
theorem e0Y{a b}:OK a15 [j9 8 q9 a,j9 8 q9 b] (b9A a b) :=
 o7 _ fun r h=>n9<|tk 0 V5<|rg<|lp (d9N a b) h (fun _ h=>a15.rt h) (d7f r) fun hI=>om ((.own 2 0 8 0 0:V)=.own 2 0 8 0 ([]:List m7).length) (by simp)<|sk [.is (.tmp 5) (.own 2 0 8 0 ([]:List m7).length)] [0,1,5,6] [(2,0)] hI
def d0z:FS (Int):=⟨225,Tryz.f225,[.val [] []],[none],[.val [] []],fun r=>vi r,fun _=>[none],Tryz.func225⟩
def c29(b:Bool):Option Int :=
 (bif b then some 1 else some 0)
theorem f0Y{b}:OK d0z [.b b] (c29 b) :=
 o7 _ fun r h=>n9<|j5 0 h (fun h=>rg<|fE h) (fun h=>rg<|fE h)
def a6o:FS (Bool):=⟨219,Tryz.f219,[.val [] []],[none],[.val [some 1] []],fun r=>.b r,fun _=>[none],Tryz.func219⟩
def c9Y:Int->KS:=fun n1=>⟨a6o.k 4 [false],(bs 3 (vi n1::(bs 16 []))),[some []]⟩
def c4i(n1:Int):Option Bool :=
 some (decide (n1>=2))
theorem f2y(r):NF a6o r c9Y (fun s=>c4i s):=fun n1 h=>PK<|rg<|fE h
def e6z(list:List Bool):(Int×Int)->KS:=fun (n,i)=>⟨a6o.k 3 [],(j9 1 eB list::(bs 2 (vi n::(vi i::(bs 15 []))))),[some []]⟩
def a5t(list:List Bool)(n:Int)(i:Int):Option (l7 Bool (Int×Int) Int) :=
 (bif decide (i<(list.length:Int)) then ((idx list i).bind fun y=>((c29 y).bind fun d3X=>some (l7.nxt (m8 (n+d3X),m8 (i+1))))) else some (l7.brk n))
theorem e0E(list):LQ a6o c9Y (e6z list) (fun s=>a5t list s.1 s.2):=fun lc (n,i) h=>PK<|rg<|j5 3 h (fun h=>rg<|v5 eB 3 h fun y hy h=>j8 d0z f0Y 5 h fun d3X h=>rg<|(lc.nx h fun hI=>sk [] [0,3,4] [] hI)) (fun h=>(lc.bk h fun hI=>sk [] [3] [] hI))
def b11(list:List Bool):Option Bool :=
 ((p8 (fun s:Int×Int=>a5t list s.1 s.2) (0,0)).bind fun x=>x.go (fun r=>some r) fun s=>c4i s)
theorem d2D{list}:OK a6o [j9 1 eB list] (b11 list) :=
 o7 _ fun r h=>N1<|lp (e0E list) h (fun _ h=>a6o.rt h) (f2y r) fun hI=>sk [] [0,3,4] [] hI
def a5J:FS (Bool):=⟨222,Tryz.f222,[.val [] []],[none,none],[.val [some 8] [],.val [] []],fun r=>.b r,fun _=>[none,none],Tryz.func222⟩
def d4n:Unit->KS:=fun _=>⟨a5J.k 3 [false],(bs 19 []),[some []]⟩
def d5X:Option Bool :=
 some false
theorem e2p(r):NF a5J r d4n (fun s=>d5X):=fun _ h=>PK<|rg<|fE h
def e2S(list:List m7):Int->KS:=fun i=>⟨a5J.k 2 [],(j9 8 q9 list::(bs 4 (vi i::(bs 13 [])))),[some []]⟩
def a7U(list:List m7)(i:Int):Option (l7 Bool Int Unit) :=
 (bif decide (i<(list.length:Int)) then ((idx list i).bind fun vote=>(bif decide (vote.a7>0) then some (l7.ret true) else some (l7.nxt (m8 (i+1))))) else some (l7.brk ()))
theorem e2n(list):LQ a5J d4n (e2S list) (fun s=>a7U list s):=fun lc i h=>PK<|rg<|j5 3 h (fun h=>rg<|v5 q9 2 h fun vote N7 h=>j5 5 h (fun h=>rg<|fL lc h) (fun h=>rg<|(lc.nx h fun hI=>sk [] [0,5] [] hI))) (fun h=>(lc.bk h fun hI=>sk [] [] [] hI))
def b5G(list:List m7)(from_:Int):Option Bool :=
 ((p8 (fun s:Int=>a7U list s) from_).bind fun x=>x.go (fun r=>some r) fun s=>d5X)
theorem f4w{list from_}:OK a5J [j9 8 q9 list,vi from_] (b5G list from_) :=
 o7 _ fun r h=>n9<|lp (e2n list) h (fun _ h=>a5J.rt h) (e2p r) fun hI=>sk [] [0,5] [] hI
def a2n:FS (Bool):=⟨221,Tryz.f221,[.val [] []],[none,none],[.val B0 [],.val [] []],fun r=>.b r,fun _=>[none,none],Tryz.func221⟩
def c5R:Unit->KS:=fun _=>⟨a2n.k 3 [false],(bs 30 []),[some []]⟩
def d1Q:Option Bool :=
 some false
theorem f4c(r):NF a2n r c5R (fun s=>d1Q):=fun _ h=>PK<|rg<|fE h
def c8I(n:j6)(q:n7):Int->KS:=fun i=>⟨a2n.k 2 [],(bs 2 (.ptr 1 0 0::(.ptr 2 0 0::(bs 1 (vi i::(bs 24 [])))))),[some [],some [.var 58 (a8G n)],some [.var 50 [vi q.b9,vi q.Seq]]]⟩
def e4u(n:j6)(q:n7)(i:Int):Unit->KS:=fun _=>⟨a2n.k 4 [true,false],(bs 2 (.ptr 1 0 0::(.ptr 2 0 0::(bs 1 (vi i::(bs 24 [])))))),[some [],some [.var 58 (a8G n)],some [.var 50 [vi q.b9,vi q.Seq]]]⟩
def c3o(i:Int):Option (l7 Bool Int Unit) :=
 some (l7.nxt (m8 (i+1)))
theorem e7F(n q i)(lc:H2 a2n c5R (c8I n q)):NL lc (e4u n q i) (fun s=>c3o i):=fun _ h=>PK<|rg<|(lc.nx h fun hI=>sk [] [2,3,5] [(1,0),(2,0)] hI)
def b0P(n:j6)(q:n7)(i:Int):Option (l7 Bool Int Unit) :=
 (bif decide (i<(n.a5.length:Int)) then ((((idx n.a5 i).bind fun entry=>(bif (!entry.i7) then (bif (([entry.a0.b9,entry.a0.Seq]:List Int)==[q.b9,q.Seq]) then some (l9.ret (l7.ret true)) else some (l9.brk ())) else some (l9.brk ()))):Option (l9 (l7 Bool Int Unit) Unit)).bind fun x=>x.go some fun j=>c3o i) else some (l7.brk ()))
theorem e5a(n q):LQ a2n c5R (c8I n q) (fun s=>b0P n q s):=fun lc i h=>PK<|rg<|j5 4 h (fun h=>A7 h (e7F n q i lc) fun x2 h hc2=>rg<|v5 s7 3 h fun entry F8 h=>j5 7 h (fun h=>J0 s7 11 F8<|j5 16 h (fun h=>rg<|(C1 h hc2 fun h=>fL lc h)) (fun h=>(p7 h hc2 fun hI=>sk [] [2,3,5] [(1,0),(2,0)] hI))) (fun h=>(p7 h hc2 fun hI=>sk [] [2,3,5] [(1,0),(2,0)] hI))) (fun h=>(lc.bk h fun hI=>sk [] [] [] hI))
def a8T(n:j6)(q:n7):Option Bool :=
 ((p8 (fun s:Int=>b0P n q s) 0).bind fun x=>x.go (fun r=>some r) fun s=>d1Q)
theorem b78{n q}:OK a2n [.agg (A6 n),.agg (E6 q)] (a8T n q) :=
 o7 _ fun r h=>n9<|lp (e5a n q) h (fun _ h=>a2n.rt h) (f4c r) fun hI=>sk [] [2,3,5] [(1,0),(2,0)] hI
def a3n:FS (j6×m4×Bool):=⟨200,Tryz.f200,[.val B0 G9,.val K6 [],.val [] []],[none],[.val B0 G9],fun r=>.tup [.agg (H0 r.1),.agg (s7 r.2.1),.b r.2.2],fun _=>[none],Tryz.func200⟩
def f0t(n:j6):Unit->KS:=fun _=>⟨a3n.k 3 [false],(bs 1 (.ptr 1 0 0::(.ptr 2 0 0::(.ptr 3 0 0::(bs 1 (vi (n.a5.length:Int)::(bs 69 []))))))),[some (a7v n),some [.var 58 (a9c n)],some [.var 58 [vi 0,vi 0,.nil,.nil,vi 0,vi 0,vi 0,.nil,.nil,.b false,vi 0,vi 0,.nil,.nil,vi 0,vi 0,.nil,.b false,.nil,.b false,vi 0,vi 0,.nil,.nil,vi 0,vi 0,.nil]],some [.var 56 [.b false,vi 0,vi 0,.nil,.nil,vi 0,vi 0]]]⟩
def e54(n:j6):Unit->KS:=fun _=>⟨a3n.k 5 [false,false,false],(bs 1 (.ptr 1 0 0::(.ptr 2 0 0::(.ptr 3 0 0::(bs 71 []))))),[some (a7v n),some [.var 58 (a9c n)],some [.var 58 [vi 0,vi 0,.nil,.nil,vi 0,vi 0,vi 0,.nil,.nil,.b false,vi 0,vi 0,.nil,.nil,vi 0,vi 0,.nil,.b false,.nil,.b false,vi 0,vi 0,.nil,.nil,vi 0,vi 0,.nil]],some [.var 56 [.b false,vi 0,vi 0,.nil,.nil,vi 0,vi 0]]]⟩
def c9q(n:j6):(List m4)->KS:=fun a94=>⟨a3n.k 6 [false,false,false,false],(bs 1 (.ptr 1 0 0::(.ptr 3 0 0::(.ptr 4 0 0::(bs 71 []))))),[some [m6 158 8 q9 n.Acc.a6,m6 56 7 s7 n.a5,m6 4 1 eB n.c9,m6 4 1 eB n.a6,.dead],some [.var 58 ([vi n.Id,vi n.Acc.g9,.own 0 0 8 0 n.Acc.a6.length,.own 0 1 7 0 n.a5.length,vi n.Seq,vi n.d8,vi n.a7,.own 0 2 1 0 n.c9.length]++a6n n++[.own 0 3 1 0 n.a6.length]++a3w n++[.own 2 0 7 0 a94.length])],some [m6 56 7 s7 a94],some [.var 58 [vi 0,vi 0,.nil,.nil,vi 0,vi 0,vi 0,.nil,.nil,.b false,vi 0,vi 0,.nil,.nil,vi 0,vi 0,.nil,.b false,.nil,.b false,vi 0,vi 0,.nil,.nil,vi 0,vi 0,.nil]],some [.var 56 [.b false,vi 0,vi 0,.nil,.nil,vi 0,vi 0]]]⟩
def d0c(n:j6)(a94:List m4):Option (j6×m4×Bool) :=
 some ((j6.mk n.Id n.Acc n.a5 n.Seq n.d8 n.a7 n.c9 n.i0 n.d6 n.a6 n.i9 n.i6 n.b8 a94),(m4.mk false (n7.mk 0 0) (n6.mk [] [] 0 0)),false)
theorem e8y(n)(r):NF a3n r (c9q n) (fun s=>d0c n s):=fun a94 h=>PK<|rg<|s6 n.Acc.a6<|H1 n.a5 n.c9 n.a6 a94<|fE h
def f2U(n:j6):(List m4)->KS:=fun f0=>⟨a3n.k 5 [false,false,false],(bs 1 (.ptr 1 0 0::(.ptr 2 0 0::(.ptr 3 0 0::(bs 71 []))))),[some [m6 158 8 q9 n.Acc.a6,m6 56 7 s7 n.a5,m6 4 1 eB n.c9,m6 4 1 eB n.a6,.dead],some [.var 58 ([vi n.Id,vi n.Acc.g9,.own 0 0 8 0 n.Acc.a6.length,.own 0 1 7 0 n.a5.length,vi n.Seq,vi n.d8,vi n.a7,.own 0 2 1 0 n.c9.length]++a6n n++[.own 0 3 1 0 n.a6.length]++a3w n++[.own 4 0 7 0 f0.length])],some [.var 58 [vi 0,vi 0,.nil,.nil,vi 0,vi 0,vi 0,.nil,.nil,.b false,vi 0,vi 0,.nil,.nil,vi 0,vi 0,.nil,.b false,.nil,.b false,vi 0,vi 0,.nil,.nil,vi 0,vi 0,.nil]],some [.var 56 [.b false,vi 0,vi 0,.nil,.nil,vi 0,vi 0]],some [m6 56 7 s7 f0]]⟩
def b1e(n:j6)(f0:List m4):Option (l7 (j6×m4×Bool) (List m4) (List m4)) :=
 (bif decide ((f0.length:Int)>0) then ((idx f0 0).bind fun entry=>(t5 ((0:Int)<=1/\1<=(f0.length:Int)) ((t5 ((([]:List m4).length+(f0.length-(1:Int).toNat))*88<=140737488355328) (((a8T (j6.mk n.Id n.Acc n.a5 n.Seq n.d8 n.a7 n.c9 n.i0 n.d6 n.a6 n.i9 n.i6 n.b8 (([]:List m4)++(f0.drop (0+(1:Int).toNat)).take (f0.length-(1:Int).toNat))) entry.a0).bind fun a68=>(bif (!a68) then some (l7.ret ((j6.mk n.Id n.Acc n.a5 n.Seq n.d8 n.a7 n.c9 n.i0 n.d6 n.a6 n.i9 n.i6 n.b8 (([]:List m4)++(f0.drop (0+(1:Int).toNat)).take (f0.length-(1:Int).toNat))),entry,true)) else some (l7.nxt (([]:List m4)++(f0.drop (0+(1:Int).toNat)).take (f0.length-(1:Int).toNat)))))))))) else some (l7.brk f0))
theorem f0Q(n):LQ a3n (c9q n) (f2U n) (fun s=>b1e n s):=fun lc f0 h=>PK<|rg<|j5 3 h (fun h=>rg<|A9 h fun entry F8 h=>B9 F8<|H9 s7 3 F8<|rg<|tk 0 K6<|t8 h fun e1 h=>ob e1.1<|ob e1.2<|t8 h fun e2 h=>om (V.own 19 0 7 0 (([]:List m4).length+(f0.length-(1:Int).toNat))=.own 19 0 7 0 (([]:List m4)++(f0.drop (0+(1:Int).toNat)).take (f0.length-(1:Int).toNat)).length) (c2V (by omega))<|om (s8.row 56 7 (([]:List m4).length+(f0.length-(1:Int).toNat)) (([]:List m4).map s7++((f0.map s7).drop (0+(1:Int).toNat)).take (f0.length-(1:Int).toNat))=m6 56 7 s7 (([]:List m4)++(f0.drop (0+(1:Int).toNat)).take (f0.length-(1:Int).toNat))) (c3n (by omega))<|A8 m4<|ob e2<|om ((0+(1:Int).toNat)+(f0.length-(1:Int).toNat)<=f0.length) (by omega)<|tl (4,{a:=.part,v:=some (.own 19 0 7 0 (([]:List m4)++(f0.drop (0+(1:Int).toNat)).take (f0.length-(1:Int).toNat)).length),e:=some (m6 56 7 s7 (([]:List m4)++(f0.drop (0+(1:Int).toNat)).take (f0.length-(1:Int).toNat)))})<|rg<|R5 a2n b78 3 2 h fun a68 h=>s6 n.Acc.a6<|H1 n.a5 n.c9 n.a6 (([]:List m4)++(f0.drop (0+(1:Int).toNat)).take (f0.length-(1:Int).toNat))<|j5 4 h (fun h=>rg<|s6 n.Acc.a6<|H1 n.a5 n.c9 n.a6 (([]:List m4)++(f0.drop (0+(1:Int).toNat)).take (f0.length-(1:Int).toNat))<|fL lc h) (fun h=>(lc.nx h fun hI=>sk [] [1,2,3] [(1,0),(2,0),(3,0),(19,0)] hI))) (fun h=>(lc.bk h fun hI=>sk [] [1,2,3] [(1,0),(4,0),(2,0),(3,0)] hI))
def b9v(n:j6):Option (j6×m4×Bool) :=
 ((p8 (fun s:List m4=>b1e n s) n.f0).bind fun x=>x.go (fun r=>some r) fun s=>d0c n s)
theorem e0v(n)(r):NF a3n r (e54 n) (fun s=>b9v n):=fun _ h=>PK<|lp (f0Q n) h (fun _ h=>a3n.rt h) (e8y n r) fun hI=>sk [] [1,2,3] [(1,0),(2,0),(3,0),(0,4)] hI
def b8l(n:j6):Option (j6×m4×Bool) :=
 ((b5G n.i0 (n.a5.length:Int)).bind fun c0x=>(bif c0x then some (n,(m4.mk true (n7.mk 0 0) (n6.mk [] [] 0 0)),true) else (((bif n.i9 then ((a8T n n.b8.a0).bind fun d3A=>(bif (!d3A) then ((W9 n.b8).bind fun l5Entry=>some (l9.ret (n,l5Entry,true))) else some (l9.brk ()))) else some (l9.brk ())):Option (l9 (j6×m4×Bool) Unit)).bind fun x=>x.go some fun j=>b9v n)))
theorem e6h(n)(r):NF a3n r (f0t n) (fun s=>b8l n):=fun _ h=>PK<|rg<|cbE a5J.t f4w h fun c0x d1D h=>cdT (a5J.t 3 false c0x) h (fun _ h=>ob d1D<|rg<|A2 n<|fE h) (fun _ h=>ob d1D<|A7 h (e0v n r) fun x1 h hc1=>rg<|j5 2 h (fun h=>R5 a2n b78 7 2 h fun d3A h=>A2 n<|j5 9 h (fun h=>rg<|j8 a0l a0R 3 h fun l5Entry h=>(C1 h hc1 fun h=>A2 n<|fE h)) (fun h=>(p7 h hc1 fun hI=>sk [] [1,2,3] [(1,0),(2,0),(3,0)] hI))) (fun h=>(p7 h hc1 fun hI=>sk [] [1,2,3] [(1,0),(2,0),(3,0)] hI)))
def b8V(n:j6):Option (j6×m4×Bool) :=
 (((bif decide ((n.a5.length:Int)<(n.i0.length:Int)) then ((idx n.i0 (n.a5.length:Int)).bind fun vote=>(bif decide (vote.a7>0) then ((W9 vote.i4).bind fun b1P=>some (l9.ret (n,b1P,true))) else some (l9.brk ()))) else some (l9.brk ())):Option (l9 (j6×m4×Bool) Unit)).bind fun x=>x.go some fun j=>b8l n)
theorem d9A{n}:OK a3n [.agg (H0 n)] (b8V n) :=
 o7 _ fun r h=>n9<|A7 h (e6h n r) fun x1 h hc1=>rg<|j5 5 h (fun h=>v5 q9 9 h fun vote N7 h=>j5 13 h (fun h=>rg<|J0 q9 4 N7<|j8 a0l a0R 7 h fun b1P h=>(C1 h hc1 fun h=>A2 n<|fE h)) (fun h=>(p7 h hc1 fun hI=>sk [] [1,2,3,5] [(1,0),(2,0),(3,0)] hI))) (fun h=>(p7 h hc1 fun hI=>sk [] [1,2,3,5] [(1,0),(2,0),(3,0)] hI))
def a08:FS (Bool):=⟨162,Tryz.f162,[.val [] []],[none,none],[.val O2 [],.val O2 []],fun r=>.b r,fun _=>[none,none],Tryz.func162⟩
def c7s(a:n6)(b:n6):Unit->KS:=fun _=>⟨a08.k 4 [false,false],(bs 2 (.ptr 1 0 0::(.ptr 2 0 0::(bs 69 [])))),[some [],some [.var 54 (a0C a)],some [.var 54 (a0C b)]]⟩
def d4w:Unit->KS:=fun _=>⟨a08.k 6 [false,false,false],(bs 73 []),[some []]⟩
def d5k:Option Bool :=
 some true
theorem e5I(r):NF a08 r d4w (fun s=>d5k):=fun _ h=>PK<|rg<|fE h
def f3A(a:n6)(b:n6):Int->KS:=fun i1=>⟨a08.k 5 [false,false],(bs 2 (.ptr 1 0 0::(.ptr 2 0 0::(bs 2 (vi i1::(bs 66 [])))))),[some [],some [.var 54 (a0C a)],some [.var 54 (a0C b)]]⟩
def b3W(a:n6)(b:n6)(i1:Int):Option (l7 Bool Int Unit) :=
 (bif decide (i1<(a.b6.length:Int)) then ((idx a.b6 i1).bind fun put=>((idx b.b6 i1).bind fun put1=>(bif (!(([put.i5,put.d9]:List Int)==[put1.i5,put1.d9])) then some (l7.ret false) else some (l7.nxt (m8 (i1+1)))))) else some (l7.brk ()))
theorem e07(a b):LQ a08 d4w (f3A a b) (fun s=>b3W a b s):=fun lc i1 h=>PK<|rg<|j5 4 h (fun h=>rg<|v5 w8 3 h fun put hput h=>v5 w8 8 h fun put1 b2z h=>j5 10 h (fun h=>rg<|fL lc h) (fun h=>rg<|(lc.nx h fun hI=>sk [] [2,3,6] [(1,0),(2,0)] hI))) (fun h=>(lc.bk h fun hI=>sk [] [] [] hI))
def c3x(a:n6)(b:n6):Option Bool :=
 ((p8 (fun s:Int=>b3W a b s) 0).bind fun x=>x.go (fun r=>some r) fun s=>d5k)
theorem e0J(a b)(r):NF a08 r (c7s a b) (fun s=>c3x a b):=fun _ h=>PK<|rg<|lp (e07 a b) h (fun _ h=>a08.rt h) (e5I r) fun hI=>sk [] [2,3,6] [(1,0),(2,0)] hI
def d83(a:n6)(b:n6):Int->KS:=fun i=>⟨a08.k 3 [false],(bs 2 (.ptr 1 0 0::(.ptr 2 0 0::(bs 1 (vi i::(bs 67 [])))))),[some [],some [.var 54 (a0C a)],some [.var 54 (a0C b)]]⟩
def b4B(a:n6)(b:n6)(i:Int):Option (l7 Bool Int Unit) :=
 (bif decide (i<(a.b5.length:Int)) then ((idx a.b5 i).bind fun read=>((idx b.b5 i).bind fun U1=>(bif (!(([read.i5,read.j4]:List Int)==[U1.i5,U1.j4])) then some (l7.ret false) else some (l7.nxt (m8 (i+1)))))) else some (l7.brk ()))
theorem e1p(a b):LQ a08 (c7s a b) (d83 a b) (fun s=>b4B a b s):=fun lc i h=>PK<|rg<|j5 4 h (fun h=>rg<|v5 v6 3 h fun read a3D h=>v5 v6 8 h fun U1 d0I h=>j5 10 h (fun h=>rg<|fL lc h) (fun h=>rg<|(lc.nx h fun hI=>sk [] [2,3,5] [(1,0),(2,0)] hI))) (fun h=>(lc.bk h fun hI=>sk [] [2,3] [(1,0),(2,0)] hI))
def b0T(a:n6)(b:n6):Option Bool :=
 (bif (a.d9 != b.d9) then some false else (bif (a.Code != b.Code) then some false else (bif ((a.b5.length:Int) != (b.b5.length:Int)) then some false else (bif ((a.b6.length:Int) != (b.b6.length:Int)) then some false else ((p8 (fun s:Int=>b4B a b s) 0).bind fun x=>x.go (fun r=>some r) fun s=>c3x a b)))))
theorem c1c{a b}:OK a08 [.agg (Q7 a),.agg (Q7 b)] (b0T a b) :=
 o7 _ fun r h=>n9<|j5 5 h (fun h=>rg<|fE h) (fun h=>j5 12 h (fun h=>rg<|fE h) (fun h=>j5 21 h (fun h=>rg<|fE h) (fun h=>j5 29 h (fun h=>rg<|fE h) (fun h=>rg<|lp (e1p a b) h (fun _ h=>a08.rt h) (e0J a b r) fun hI=>sk [] [2,3,5] [(1,0),(2,0)] hI))))
def b9M:FS (Bool):=⟨74,Tryz.f74,[.val [] []],[none],[.val [] []],fun r=>.b r,fun _=>[none],Tryz.func74⟩
def a90(q:n7):Option Bool :=
 (bif decide (q.b9>=0) then (bif decide (q.b9<3) then (bif decide (q.Seq>=1) then some (decide (q.Seq<=1000)) else some false) else some false) else some false)
theorem c2O{q}:OK b9M [.agg (E6 q)] (a90 q) :=
 o7 _ fun r h=>n9<|j5 3 h (fun h=>j5 8 h (fun h=>j5 13 h (fun h=>fE h) (fun h=>fE h)) (fun h=>fE h)) (fun h=>fE h)
def a7L:FS (Bool):=⟨133,Tryz.f133,[.val [] []],[none],[.val [] []],fun r=>.b r,fun _=>[none],Tryz.func133⟩
def a6I(n:Int):Option Bool :=
 (bif decide (n>=(-1000000)) then some (decide (n<=1000000)) else some false)
theorem a9A{n}:OK a7L [vi n] (a6I n) :=
 o7 _ fun r h=>n9<|j5 2 h (fun h=>fE h) (fun h=>fE h)
def b4T:FS (Bool):=⟨189,Tryz.f189,[.val [] []],[none],[.val [] []],fun r=>.b r,fun _=>[none],Tryz.func189⟩
def a7s(n:Int):Option Bool :=
 (bif decide (n>=0) then some (decide (n<4)) else some false)
theorem b5Y{n}:OK b4T [vi n] (a7s n) :=
 o7 _ fun r h=>n9<|j5 2 h (fun h=>fE h) (fun h=>fE h)
def a69:FS (Bool):=⟨208,Tryz.f208,[.val [] []],[none,none],[.val [some 2] [],.val [] []],fun r=>.b r,fun _=>[none,none],Tryz.func208⟩
def c8w:Unit->KS:=fun _=>⟨a69.k 3 [false],(bs 19 []),[some []]⟩
def d1L:Option Bool :=
 some false
theorem f1x(r):NF a69 r c8w (fun s=>d1L):=fun _ h=>PK<|rg<|fE h
def f1u(list:List r9)(box:Int):Int->KS:=fun i=>⟨a69.k 2 [],(j9 2 v6 list::(vi box::(bs 3 (vi i::(bs 13 []))))),[some []]⟩
def b9G(list:List r9)(box:Int)(i:Int):Option (l7 Bool Int Unit) :=
 (bif decide (i<(list.length:Int)) then ((idx list i).bind fun read=>(bif (read.i5==box) then some (l7.ret true) else some (l7.nxt (m8 (i+1))))) else some (l7.brk ()))
theorem f3C(list box):LQ a69 c8w (f1u list box) (fun s=>b9G list box s):=fun lc i h=>PK<|rg<|j5 3 h (fun h=>rg<|v5 v6 2 h fun read a3D h=>j5 6 h (fun h=>rg<|fL lc h) (fun h=>rg<|(lc.nx h fun hI=>sk [] [0,1,5] [] hI))) (fun h=>(lc.bk h fun hI=>sk [] [] [] hI))
def b3j(list:List r9)(box:Int):Option Bool :=
 ((p8 (fun s:Int=>b9G list box s) 0).bind fun x=>x.go (fun r=>some r) fun s=>d1L)
theorem d2k{list box}:OK a69 [j9 2 v6 list,vi box] (b3j list box) :=
 o7 _ fun r h=>n9<|lp (f3C list box) h (fun _ h=>a69.rt h) (f1x r) fun hI=>sk [] [0,1,5] [] hI
def a4O:FS (Int):=⟨209,Tryz.f209,[.val [] []],[none,none],[.val [some 2] [],.val [] []],fun r=>vi r,fun _=>[none,none],Tryz.func209⟩
def d31:Unit->KS:=fun _=>⟨a4O.k 3 [false],(bs 20 []),[some []]⟩
def d1U:Option Int :=
 some (-1)
theorem e2X(r):NF a4O r d31 (fun s=>d1U):=fun _ h=>PK<|rg<|fE h
def e6D(list:List p6)(box:Int):Int->KS:=fun i=>⟨a4O.k 2 [],(j9 2 w8 list::(vi box::(bs 3 (vi i::(bs 14 []))))),[some []]⟩
def a1B(list:List p6)(box:Int)(i:Int):Option (l7 Int Int Unit) :=
 (bif decide (i<(list.length:Int)) then ((idx list i).bind fun put=>(bif (put.i5==box) then some (l7.ret i) else some (l7.nxt (m8 (i+1))))) else some (l7.brk ()))
theorem e0g(list box):LQ a4O d31 (e6D list box) (fun s=>a1B list box s):=fun lc i h=>PK<|rg<|j5 3 h (fun h=>rg<|v5 w8 2 h fun put hput h=>j5 6 h (fun h=>rg<|fL lc h) (fun h=>rg<|(lc.nx h fun hI=>sk [] [0,1,5] [] hI))) (fun h=>(lc.bk h fun hI=>sk [] [] [] hI))
def a2H(list:List p6)(box:Int):Option Int :=
 ((p8 (fun s:Int=>a1B list box s) 0).bind fun x=>x.go (fun r=>some r) fun s=>d1U)
theorem c36{list box}:OK a4O [j9 2 w8 list,vi box] (a2H list box) :=
 o7 _ fun r h=>n9<|lp (e0g list box) h (fun _ h=>a4O.rt h) (e2X r) fun hI=>sk [] [0,1,5] [] hI
def a0N:FS (Bool):=⟨163,Tryz.f163,[.val [] []],[none],[.val O2 []],fun r=>.b r,fun _=>[none],Tryz.func163⟩
def e5l(r_:n6):Unit->KS:=fun _=>⟨a0N.k 2 [false],(bs 1 (.ptr 1 0 0::(bs 129 []))),[some [],some [.var 54 (a0C r_)]]⟩
def c7W(r_:n6):Unit->KS:=fun _=>⟨a0N.k 4 [false,false],(bs 1 (.ptr 1 0 0::(bs 129 []))),[some [],some [.var 54 (a0C r_)]]⟩
def d2B:Unit->KS:=fun _=>⟨a0N.k 6 [false,false,false],(bs 131 []),[some []]⟩
def d5P:Option Bool :=
 some true
theorem d9U(r):NF a0N r d2B (fun s=>d5P):=fun _ h=>PK<|rg<|fE h
def f2f(r_:n6):Int->KS:=fun i1=>⟨a0N.k 5 [false,false],(bs 1 (.ptr 1 0 0::(bs 2 (vi i1::(bs 126 []))))),[some [],some [.var 54 (a0C r_)]]⟩
def b4E(r_:n6)(i1:Int):Option (l7 Bool Int Unit) :=
 (bif decide (i1<(r_.b6.length:Int)) then ((idx r_.b6 i1).bind fun put=>((a7s put.i5).bind fun b3X=>(bif (!b3X) then some (l7.ret false) else ((a6I put.d9).bind fun a04=>(bif (!a04) then some (l7.ret false) else (t5 ((0:Int)<=i1/\i1<=(r_.b6.length:Int)) (((a2H ((r_.b6.drop 0).take (i1.toNat-0)) put.i5).bind fun a2k=>(bif decide (a2k>=0) then some (l7.ret false) else some (l7.nxt (m8 (i1+1)))))))))))) else some (l7.brk ()))
theorem d61(r_):LQ a0N d2B (f2f r_) (fun s=>b4E r_ s):=fun lc i1 h=>PK<|rg<|j5 4 h (fun h=>rg<|v5 w8 3 h fun put hput h=>j8 b4T b5Y 6 h fun b3X h=>j5 8 h (fun h=>rg<|fL lc h) (fun h=>J0 w8 12 hput<|j8 a7L a9A 15 h fun a04 h=>j5 18 h (fun h=>rg<|fL lc h) (fun h=>t8 h fun e1 h=>om (V.sl 2 (i1.toNat-0) (((r_.b6.map w8).drop 0).take (i1.toNat-0))=j9 2 w8 ((r_.b6.drop 0).take (i1.toNat-0))) (b93 e1)<|ob e1.1<|ob e1.2<|tl (22,{v:=some (j9 2 w8 ((r_.b6.drop 0).take (i1.toNat-0)))})<|J0 w8 26 hput<|j8 a4O c36 29 h fun a2k h=>j5 31 h (fun h=>rg<|fL lc h) (fun h=>rg<|(lc.nx h fun hI=>sk [] [1,4] [(1,0)] hI))))) (fun h=>(lc.bk h fun hI=>sk [] [] [] hI))
def c32(r_:n6):Option Bool :=
 ((p8 (fun s:Int=>b4E r_ s) 0).bind fun x=>x.go (fun r=>some r) fun s=>d5P)
theorem d9y(r_)(r):NF a0N r (c7W r_) (fun s=>c32 r_):=fun _ h=>PK<|rg<|lp (d61 r_) h (fun _ h=>a0N.rt h) (d9U r) fun hI=>sk [] [1,4] [(1,0)] hI
def e2a(r_:n6):Int->KS:=fun i=>⟨a0N.k 3 [false],(bs 1 (.ptr 1 0 0::(bs 1 (vi i::(bs 127 []))))),[some [],some [.var 54 (a0C r_)]]⟩
def b4G(r_:n6)(i:Int):Option (l7 Bool Int Unit) :=
 (bif decide (i<(r_.b5.length:Int)) then ((idx r_.b5 i).bind fun read=>((a7s read.i5).bind fun b2m=>(bif (!b2m) then some (l7.ret false) else (bif decide (read.j4<0) then some (l7.ret false) else (bif decide (read.j4>1000000) then some (l7.ret false) else (t5 ((0:Int)<=i/\i<=(r_.b5.length:Int)) (((b3j ((r_.b5.drop 0).take (i.toNat-0)) read.i5).bind fun b38=>(bif b38 then some (l7.ret false) else some (l7.nxt (m8 (i+1)))))))))))) else some (l7.brk ()))
theorem e7u(r_):LQ a0N (c7W r_) (e2a r_) (fun s=>b4G r_ s):=fun lc i h=>PK<|rg<|j5 4 h (fun h=>rg<|v5 v6 3 h fun read a3D h=>j8 b4T b5Y 6 h fun b2m h=>j5 8 h (fun h=>rg<|fL lc h) (fun h=>J0 v6 12 a3D<|j5 17 h (fun h=>rg<|fL lc h) (fun h=>J0 v6 21 a3D<|j5 26 h (fun h=>rg<|fL lc h) (fun h=>t8 h fun e2 h=>om (V.sl 2 (i.toNat-0) (((r_.b5.map v6).drop 0).take (i.toNat-0))=j9 2 v6 ((r_.b5.drop 0).take (i.toNat-0))) (b93 e2)<|ob e2.1<|ob e2.2<|tl (30,{v:=some (j9 2 v6 ((r_.b5.drop 0).take (i.toNat-0)))})<|J0 v6 34 a3D<|j8 a69 d2k 37 h fun b38 h=>j5 38 h (fun h=>rg<|fL lc h) (fun h=>rg<|(lc.nx h fun hI=>sk [] [1,3] [(1,0)] hI)))))) (fun h=>(lc.bk h fun hI=>sk [] [1] [(1,0)] hI))
def b6h(r_:n6):Option Bool :=
 ((p8 (fun s:Int=>b4G r_ s) 0).bind fun x=>x.go (fun r=>some r) fun s=>c32 r_)
theorem f3i(r_)(r):NF a0N r (e5l r_) (fun s=>b6h r_):=fun _ h=>PK<|rg<|lp (e7u r_) h (fun _ h=>a0N.rt h) (d9y r_ r) fun hI=>sk [] [1,3] [(1,0)] hI
def b4O(r_:n6):Option Bool :=
 (((bif decide (r_.Code<0) then some (l9.ret false) else (bif decide (r_.Code>3) then some (l9.ret false) else ((a6I r_.d9).bind fun d3t=>(bif (!d3t) then some (l9.ret false) else (bif (r_.Code != 0) then (bif (r_.d9 != 0) then some (l9.ret false) else (bif decide ((r_.b6.length:Int)>0) then some (l9.ret false) else (bif (r_.Code==3) then (bif decide ((r_.b5.length:Int)>0) then some (l9.ret false) else some (l9.brk ())) else some (l9.brk ())))) else (bif (r_.Code==3) then (bif decide ((r_.b5.length:Int)>0) then some (l9.ret false) else some (l9.brk ())) else some (l9.brk ()))))))):Option (l9 Bool Unit)).bind fun x=>x.go some fun j=>b6h r_)
theorem c9f{r_}:OK a0N [.agg (Q7 r_)] (b4O r_) :=
 o7 _ fun r h=>rg<|A7 h (f3i r_ r) fun x1 h hc1=>rg<|j5 3 h (fun h=>rg<|(C1 h hc1 fun h=>fE h)) (fun h=>j5 8 h (fun h=>rg<|(C1 h hc1 fun h=>fE h)) (fun h=>j8 a7L a9A 11 h fun d3t h=>j5 14 h (fun h=>rg<|(C1 h hc1 fun h=>fE h)) (fun h=>j5 18 h (fun h=>j5 22 h (fun h=>rg<|(C1 h hc1 fun h=>fE h)) (fun h=>j5 30 h (fun h=>rg<|(C1 h hc1 fun h=>fE h)) (fun h=>j5 34 h (fun h=>j5 40 h (fun h=>rg<|(C1 h hc1 fun h=>fE h)) (fun h=>(p7 h hc1 fun hI=>sk [] [1] [(1,0)] hI))) (fun h=>(p7 h hc1 fun hI=>sk [] [1] [(1,0)] hI))))) (fun h=>j5 34 h (fun h=>j5 40 h (fun h=>rg<|(C1 h hc1 fun h=>fE h)) (fun h=>(p7 h hc1 fun hI=>sk [] [1] [(1,0)] hI))) (fun h=>(p7 h hc1 fun hI=>sk [] [1] [(1,0)] hI))))))
def a2c:FS (Bool):=⟨109,Tryz.f109,[.val [] []],[none],[.val K6 []],fun r=>.b r,fun _=>[none],Tryz.func109⟩
def a1e(e_:m4):Option Bool :=
 (bif e_.i7 then (bif (([e_.a0.b9,e_.a0.Seq]:List Int)==[0,0]) then ((b0T e_.b7 (n6.mk [] [] 0 0)).bind fun a3c=>some a3c) else some false) else ((a90 e_.a0).bind fun a6W=>(bif a6W then ((b4O e_.b7).bind fun a07=>(bif a07 then some (e_.b7.Code != 3) else some false)) else some false)))
theorem a2L{e_}:OK a2c [.agg (s7 e_)] (a1e e_) :=
 o7 _ fun r h=>n9<|j5 1 h (fun h=>rg<|j5 4 h (fun h=>j8 a08 c1c 8 h fun a3c h=>fE h) (fun h=>fE h)) (fun h=>rg<|j8 b9M c2O 2 h fun a6W h=>j5 3 h (fun h=>j8 a0N c9f 6 h fun a07 h=>j5 8 h (fun h=>fE h) (fun h=>fE h)) (fun h=>fE h))
def a7C:FS (z0×Bool):=⟨201,Tryz.f201,[.val [none,some 8] [none,some 9000000],.val [] []],[none,none,none,none],[.val [none,some 8] [],.val [] [],.val [] [],.val K6 []],fun r=>.tup [.agg [vi r.1.g9,.bot],.b r.2],fun _=>[none,none,none,none],Tryz.func201⟩
def b39(a:z0)(bal:Int)(slot:Int)(e_:m4):Option (z0×Bool) :=
 (bif decide (slot<0) then some (a,false) else (bif decide (slot>=40) then some (a,false) else ((a1e e_).bind fun E5=>(bif (!E5) then some (a,false) else ((b0J a bal).bind fun no=>(bif (!no.2) then some (a,false) else none))))))
theorem c7S{a bal slot e_}:OK a7C [.agg (Z4 a),vi bal,vi slot,.agg (s7 e_)] (b39 a bal slot e_) :=
 o7 _ fun r h=>n9<|j5 2 h (fun h=>rg<|fE h) (fun h=>j5 6 h (fun h=>rg<|fE h) (fun h=>j8 a2c a2L 8 h fun E5 h=>j5 10 h (fun h=>rg<|fE h) (fun h=>rg<|j8 a5N c4H 2 h fun no h=>rg<|j5 1 h (fun h=>rg<|fE h) (fun h=>(nomatch h)))))
def b5b:FS (j6):=⟨141,Tryz.f141,[.val B0 G9],[none],[.val B0 G9],fun r=>.agg (H0 r),fun _=>[none],Tryz.func141⟩
def b4n(n:j6):Option j6 :=
 some (j6.mk n.Id n.Acc n.a5 n.Seq 0 0 [] [] (m4.mk false (n7.mk 0 0) (n6.mk [] [] 0 0)) [] n.i9 n.i6 n.b8 n.f0)
theorem c5Z{n}:OK b5b [.agg (H0 n)] (b4n n) :=
 o7 _ fun r h=>rg4<|rg4<|W7 n.Acc.a6 n.a5 n.f0<|fE h
def a0y:FS (List l8):=⟨143,Tryz.f143,[.val [some 13] [some 66]],[none,none],[.val [] [],.val C0 []],fun r=>u9 66 13 t0 r,fun _=>[none,none],Tryz.func143⟩
def c1h:(List l8)->KS:=fun out1=>⟨a0y.k 4 [false],(bs 5 (.own 1 0 13 0 out1.length::(bs 21 []))),[some [],some [m6 66 13 t0 out1]]⟩
def d3i(out1:List l8):Option (List l8) :=
 some out1
theorem f4B(r):NF a0y r c1h (fun s=>d3i s):=fun out1 h=>PK<|rg<|s6 out1<|fE h
def c9e(id:Int)(m:l8):((List l8)×Int)->KS:=fun (out,t_)=>⟨a0y.k 3 [],(vi id::(bs 2 (.ptr 1 0 0::(bs 1 (.own 2 0 13 0 out.length::(vi t_::(bs 20 []))))))),[some [],some [.var 66 (a4M m)],some [m6 66 13 t0 out]]⟩
def e9V(id:Int)(m:l8)(t_:Int):(List l8)->KS:=fun out2=>⟨a0y.k 9 [true,true],(vi id::(bs 2 (.ptr 1 0 0::(bs 1 (.own 2 0 13 0 out2.length::(vi t_::(bs 20 []))))))),[some [],some [.var 66 (a4M m)],some [m6 66 13 t0 out2]]⟩
def c0y(t_:Int)(out2:List l8):Option (l7 (List l8) ((List l8)×Int) (List l8)) :=
 some (l7.nxt (out2,m8 (t_+1)))
theorem f0Z(id m t_)(lc:H2 a0y c1h (c9e id m)):NL lc (e9V id m t_) (fun s=>c0y t_ s):=fun out2 h=>PK<|rg<|(lc.nx h fun hI=>sk [] [0,3,5,6] [(1,0),(2,0)] hI)
def a5y(id:Int)(m:l8)(out:List l8)(t_:Int):Option (l7 (List l8) ((List l8)×Int) (List l8)) :=
 (bif decide (t_<3) then (((bif (t_ != id) then ((a7J m).bind fun G3=>(t5 ((out.length+1)*152<=140737488355328) (some (l9.brk (out++[(l8.mk G3.a8 id t_ G3.a7 G3.g8 G3.i4 G3.a6)]))))) else some (l9.brk out)):Option (l9 (l7 (List l8) ((List l8)×Int) (List l8)) (List l8))).bind fun x=>x.go some fun j=>c0y t_ j) else some (l7.brk out))
theorem d7q(id m):LQ a0y c1h (c9e id m) (fun s=>a5y id m s.1 s.2):=fun lc (out,t_) h=>PK<|rg<|j5 1 h (fun h=>A7 h (f0Z id m t_ lc) fun x2 h hc2=>rg<|j5 2 h (fun h=>rg<|j8 b2v b9m 1 h fun G3 h=>N1<|tk 2 C0<|t8 h fun e1 h=>F6 3 21 66 13 152 t0 out (l8.mk G3.a8 id t_ G3.a7 G3.g8 G3.i4 G3.a6) e1<|E4 (l8.mk G3.a8 id t_ G3.a7 G3.g8 G3.i4 G3.a6)<|(p7 h hc2 fun hI=>sk [] [0,3,5,6] [(1,0),(21,0)] hI)) (fun h=>(p7 h hc2 fun hI=>sk [] [0,3,5,6] [(1,0),(2,0)] hI))) (fun h=>(lc.bk h fun hI=>sk [] [5] [(2,0)] hI))
def a3m(id:Int)(m:l8):Option (List l8) :=
 ((p8 (fun s:(List l8)×Int=>a5y id m s.1 s.2) (([]:List l8),0)).bind fun x=>x.go (fun r=>some r) fun s=>d3i s)
theorem a5X{id m}:OK a0y [vi id,.agg (t0 m)] (a3m id m) :=
 o7 _ fun r h=>n9<|tk 0 C0<|rg<|lp (d7q id m) h (fun _ h=>a0y.rt h) (f4B r) fun hI=>om ((.own 3 0 13 0 0:V)=.own 3 0 13 0 ([]:List l8).length) (by simp)<|sk [.is (.tmp 5) (.own 3 0 13 0 ([]:List l8).length)] [0,3,5,6] [(1,0),(3,0)] hI
def a5Q:FS (z0×Bool):=⟨201,Tryz.f201,[.val [none,some 8] [none,some 158],.val [] []],[none,none,none,none],[.val [none,some 8] [none,some 158],.val [] [],.val [] [],.val K6 []],fun r=>.tup [.agg [vi r.1.g9,u9 158 8 q9 r.1.a6],.b r.2],fun _=>[none,none,none,none],Tryz.func201⟩
def d56(bal:Int)(slot:Int)(e_:m4)(l6Promise:z0×Bool):(List m7)->KS:=fun a0a=>⟨a5Q.k 5 [false,false,false],(bs 1 (vi bal::(vi slot::(bs 4 (.ptr 1 0 0::(.ptr 2 0 0::(bs 1 (.ptr 3 0 0::(bs 42 []))))))))),[some [.dead],some [.var 56 (a5d e_)],some [.var 46 [vi 0,.nil]],some [.var 46 [vi l6Promise.1.g9,.own 4 0 8 0 a0a.length]],some [m6 158 8 q9 a0a]]⟩
def c1K(bal:Int)(slot:Int)(e_:m4)(l6Promise:z0×Bool)(a0a:List m7):Option (z0×Bool) :=
 ((W9 e_).bind fun l5Entry=>((idx a0a slot).bind fun vote=>some ((z0.mk l6Promise.1.g9 (a0a.set slot.toNat (m7.mk bal l5Entry))),true)))
theorem e7s(bal slot e_ l6Promise)(r):NF a5Q r (d56 bal slot e_ l6Promise) (fun s=>c1K bal slot e_ l6Promise s):=fun a0a h=>PK<|rg<|j8 a0l a0R 5 h fun l5Entry h=>A9 h fun vote N7 h=>B9 N7<|Q4 158 8 q9 8 V5 (m7.mk bal l5Entry) N7<|rg<|om (a0a.length=(a0a.set slot.toNat (m7.mk bal l5Entry)).length) (by simp)<|fE h
def e3r(bal:Int)(slot:Int)(e_:m4)(l6Promise:z0×Bool):(List m7)->KS:=fun a6=>⟨a5Q.k 4 [false,false],(bs 1 (vi bal::(vi slot::(bs 4 (.ptr 1 0 0::(.ptr 2 0 0::(bs 1 (.ptr 3 0 0::(bs 42 []))))))))),[some [.dead],some [.var 56 (a5d e_)],some [.var 46 [vi 0,.nil]],some [.var 46 [vi l6Promise.1.g9,.own 4 0 8 0 a6.length]],some [m6 158 8 q9 a6]]⟩
def a75(slot:Int)(a6:List m7):Option (l7 (z0×Bool) (List m7) (List m7)) :=
 (bif decide ((a6.length:Int)<=slot) then (t5 ((a6.length+1)*96<=140737488355328) (some (l7.nxt (a6++[(m7.mk 0 (m4.mk false (n7.mk 0 0) (n6.mk [] [] 0 0)))])))) else some (l7.brk a6))
theorem f3y(bal slot e_ l6Promise):LQ a5Q (d56 bal slot e_ l6Promise) (e3r bal slot e_ l6Promise) (fun s=>a75 slot s):=fun lc a6 h=>PK<|rg<|j5 4 h (fun h=>rg<|tk 3 V5<|t8 h fun e1 h=>F6 4 14 158 8 96 q9 a6 (m7.mk 0 (m4.mk false (n7.mk 0 0) (n6.mk [] [] 0 0))) e1<|E4 (m7.mk 0 (m4.mk false (n7.mk 0 0) (n6.mk [] [] 0 0)))<|(lc.nx h fun hI=>sk [] [1,2,7,8,10] [(1,0),(2,0),(3,0),(14,0)] hI)) (fun h=>(lc.bk h fun hI=>sk [] [1,2,7,8,10] [(1,0),(2,0),(3,0),(4,0)] hI))
def b3p(a:z0)(bal:Int)(slot:Int)(e_:m4):Option (z0×Bool) :=
 (bif decide (slot<0) then some (a,false) else (bif decide (slot>=40) then some (a,false) else ((a1e e_).bind fun E5=>(bif (!E5) then some (a,false) else (a4D (b0J a bal) (fun no=>(bif (!no.2) then some (a,false) else none)) (((a7z a bal).bind fun l6Promise=>(bif (!l6Promise.2) then none else ((p8 (fun s:List m7=>a75 slot s) l6Promise.1.a6).bind fun x=>x.go (fun r=>some r) fun s=>c1K bal slot e_ l6Promise s)))))))))
theorem d0m{a bal slot e_}:OK a5Q [.agg [vi a.g9,u9 158 8 q9 a.a6],vi bal,vi slot,.agg (s7 e_)] (b3p a bal slot e_) :=
 o7 _ fun r h=>n9<|j5 2 h (fun h=>rg<|s6 a.a6<|fE h) (fun h=>j5 6 h (fun h=>rg<|s6 a.a6<|fE h) (fun h=>j8 a2c a2L 8 h fun E5 h=>j5 10 h (fun h=>rg<|s6 a.a6<|fE h) (fun h=>rg<|cbA a5N.t c4H 2 true h (fun no h=>osc a5N no (by simp [a5N,K2,R6,N6,V.simple,vi,u9,Z4,eB,s7,eI,w8,v6,E6,Q7,q9]) (O9 2)<|s6 a.a6<|rg<|j5 1 h (fun h=>rg<|s6 a.a6<|fE h) (fun h=>(nomatch h))) (fun h=>j8 b4d b7J 2 h fun l6Promise h=>s6 a.a6<|rg<|j5 1 h (fun h=>(nomatch h)) (fun h=>lp (f3y bal slot e_ l6Promise) h (fun _ h=>a5Q.rt h) (e7s bal slot e_ l6Promise r) fun hI=>sk [] [1,2,7,8,10] [(2,0),(3,0),(22,0),(18,0)] hI)))))
def a9y:FS (j6×List l8):=⟨144,Tryz.f144,[.val B0 G9,.val [some 13] []],[none],[.val B0 G9],fun r=>.tup [.agg (H0 r.1),j9 13 t0 r.2],fun _=>[none],Tryz.func144⟩
def a54(n:j6):Option (j6×List l8) :=
 (bif (n.d8 != 2) then some (n,([]:List l8)) else (bif decide ((n.a5.length:Int)>=40) then some (n,([]:List l8)) else ((b8V n).bind fun H7=>(bif (!H7.2.2) then some (H7.1,([]:List l8)) else (a4D (b39 H7.1.Acc H7.1.a7 (H7.1.a5.length:Int) H7.2.1) (fun no=>(bif (!no.2) then ((b4n H7.1).bind fun N2=>some (N2,([]:List l8))) else none)) (((b3p H7.1.Acc H7.1.a7 (H7.1.a5.length:Int) H7.2.1).bind fun a5w=>(bif (!a5w.2) then none else ((W9 H7.2.1).bind fun l5Entry=>(t5 (0<=(3:Int)/\(3:Int)*1<=140737488355328) (((idx (f5k (3:Int).toNat false) H7.1.Id).bind fun y=>((a3m H7.1.Id (l8.mk 3 0 0 H7.1.a7 (H7.1.a5.length:Int) H7.2.1 [])).bind fun J5=>some ((j6.mk H7.1.Id a5w.1 H7.1.a5 H7.1.Seq 3 H7.1.a7 H7.1.c9 H7.1.i0 l5Entry ((f5k (3:Int).toNat false).set H7.1.Id.toNat true) H7.1.i9 H7.1.i6 H7.1.b8 H7.1.f0),J5))))))))))))))
theorem b2q{n}:OK a9y [.agg (H0 n)] (a54 n) :=
 o7 _ fun r h=>n9<|j5 3 h (fun h=>rg<|tk 1 C0<|A2 n<|A8 l8<|fE h) (fun h=>j5 8 h (fun h=>rg<|tk 1 C0<|A2 n<|A8 l8<|fE h) (fun h=>rg<|j8 a3n d9A 1 h fun H7 h=>A2 n<|rg<|j5 1 h (fun h=>rg<|tk 1 C0<|A2 H7.1<|A8 l8<|fE h) (fun h=>rg<|cbA a7C.t c7S 8 true h (fun no h=>osc a7C no (by simp [a7C,K2,R6,N6,V.simple,vi,u9,Z4,eB,s7,eI,w8,v6,E6,Q7,q9]) (O9 4)<|s6 H7.1.Acc.a6<|rg<|j5 1 h (fun h=>rg<|j8 b5b c5Z 1 h fun N2 h=>A2 H7.1<|tk 2 C0<|A2 N2<|A8 l8<|fE h) (fun h=>(nomatch h))) (fun h=>j8 a5Q d0m 8 h fun a5w h=>s6 H7.1.Acc.a6<|rg<|j5 1 h (fun h=>(nomatch h)) (fun h=>N1<|j8 a0l a0R 1 h fun l5Entry h=>rg<|t8 h fun e1 h=>U0 0 52 4 1 1 eB false ti4 (.none) e1 (by decide) (by rfl)<|rg<|A9 h fun y hy h=>B9 hy<|Q4 4 1 eB 5 [] true hy<|rg<|j8 a0y a5X 10 h fun J5 h=>W7 a5w.1.a6 H7.1.a5 H7.1.c9<|om ((f5k (3:Int).toNat false).length=((f5k (3:Int).toNat false).set H7.1.Id.toNat true).length) (by simp)<|C7 H7.1.f0 J5<|fE h)))))
def c8d:FS (j6×List l8):=⟨192,Tryz.f192,[.val B0 G9,.val [some 13] []],[none,none],[.val B0 G9,.val C0 []],fun r=>.tup [.agg (H0 r.1),j9 13 t0 r.2],fun _=>[none,none],Tryz.func192⟩
def b6s(n:j6)(m:l8):Option (j6×List l8) :=
 (bif (n.d8 != 1) then some (n,([]:List l8)) else (bif (m.a7 != n.a7) then some (n,([]:List l8)) else ((idx n.c9 m.c9).bind fun y=>((b7y m.a6 m.g8).bind fun c3T=>((b9A n.i0 c3T).bind fun c4g=>((b11 (n.c9.set m.c9.toNat true)).bind fun b3B=>(bif (!b3B) then some ((j6.mk n.Id n.Acc n.a5 n.Seq n.d8 n.a7 (n.c9.set m.c9.toNat true) c4g n.d6 n.a6 n.i9 n.i6 n.b8 n.f0),([]:List l8)) else ((a54 (j6.mk n.Id n.Acc n.a5 n.Seq 2 n.a7 [] c4g n.d6 n.a6 n.i9 n.i6 n.b8 n.f0)).bind fun N8=>some (N8.1,N8.2)))))))))
theorem e2l{n m}:OK c8d [.agg (H0 n),.agg (t0 m)] (b6s n m) :=
 o7 _ fun r h=>n9<|j5 3 h (fun h=>rg<|tk 1 C0<|A2 n<|A8 l8<|fE h) (fun h=>j5 9 h (fun h=>rg<|tk 1 C0<|A2 n<|A8 l8<|fE h) (fun h=>rg<|A9 h fun y hy h=>B9 hy<|Q4 4 1 eB 5 [] true hy<|rg<|j8 d2J e6I 6 h fun c3T h=>j8 a15 e0Y 7 h fun c4g h=>s6 c3T<|rg<|R5 a6o d2D 2 1 h fun b3B h=>om (n.c9.length=(n.c9.set m.c9.toNat true).length) (by simp)<|j5 3 h (fun h=>rg<|tk 1 C0<|C7 n.Acc.a6 n.a5<|om (n.c9.length=(n.c9.set m.c9.toNat true).length) (by simp)<|C7 n.a6 n.f0<|A8 l8<|fE h) (fun h=>N1<|j8 a9y b2q 1 h fun N8 h=>H1 n.Acc.a6 n.a5 n.a6 n.f0<|A2 N8.1<|fE h)))
def b4J:FS (j6):=⟨196,Tryz.f196,[.val B0 G9],[none,none],[.val B0 G9,.val [] []],fun r=>.agg (H0 r),fun _=>[none,none],Tryz.func196⟩
def f1y(n:j6):Unit->KS:=fun _=>⟨b4J.k 2 [false],(bs 2 (.ptr 1 0 0::(bs 1 (.ptr 2 0 0::(bs 12 []))))),[some (a7v n),some [.var 58 (a9c n)],some [.var 58 [vi 0,vi 0,.nil,.nil,vi 0,vi 0,vi 0,.nil,.nil,.b false,vi 0,vi 0,.nil,.nil,vi 0,vi 0,.nil,.b false,.nil,.b false,vi 0,vi 0,.nil,.nil,vi 0,vi 0,.nil]]]⟩
def d58(n:j6):Option j6 :=
 some n
theorem e7c(n)(r):NF b4J r (f1y n) (fun s=>d58 n):=fun _ h=>PK<|rg<|A2 n<|fE h
def b2e(n:j6)(bal:Int):Option j6 :=
 (((bif (n.d8 != 0) then (bif decide (bal>n.a7) then ((b4n n).bind fun N2=>some (l9.ret N2)) else some (l9.brk ())) else some (l9.brk ())):Option (l9 j6 Unit)).bind fun x=>x.go some fun j=>d58 n)
theorem d5v{n bal}:OK b4J [.agg (H0 n),vi bal] (b2e n bal) :=
 o7 _ fun r h=>rg<|A7 h (e7c n r) fun x1 h hc1=>rg<|j5 3 h (fun h=>j5 8 h (fun h=>rg<|j8 b5b c5Z 1 h fun N2 h=>A2 n<|(C1 h hc1 fun h=>A2 N2<|fE h)) (fun h=>(p7 h hc1 fun hI=>sk [] [2,4] [(1,0),(2,0)] hI))) (fun h=>(p7 h hc1 fun hI=>sk [] [2,4] [(1,0),(2,0)] hI))
def d57:FS (j6×List l8):=⟨193,Tryz.f193,[.val B0 G9,.val [some 13] []],[none,none],[.val B0 G9,.val C0 []],fun r=>.tup [.agg (H0 r.1),j9 13 t0 r.2],fun _=>[none,none],Tryz.func193⟩
def b5t(n:j6)(m:l8):Option (j6×List l8) :=
 (a4D (b39 n.Acc m.a7 m.g8 m.i4) (fun no=>(bif (!no.2) then ((a5u m (l8.mk 6 0 0 n.Acc.g9 0 (m4.mk false (n7.mk 0 0) (n6.mk [] [] 0 0)) [])).bind fun a1J=>some (n,a1J)) else none)) (((b3p n.Acc m.a7 m.g8 m.i4).bind fun a5w=>(bif (!a5w.2) then none else ((b2e (j6.mk n.Id a5w.1 n.a5 n.Seq n.d8 n.a7 n.c9 n.i0 n.d6 n.a6 n.i9 n.i6 n.b8 n.f0) m.a7).bind fun J8=>((a5u m (l8.mk 4 0 0 m.a7 m.g8 (m4.mk false (n7.mk 0 0) (n6.mk [] [] 0 0)) [])).bind fun a5z=>some (J8,a5z)))))))
theorem d9B{n m}:OK d57 [.agg (H0 n),.agg (t0 m)] (b5t n m) :=
 o7 _ fun r h=>n9<|cbA a7C.t c7S 8 true h (fun no h=>osc a7C no (by simp [a7C,K2,R6,N6,V.simple,vi,u9,Z4,eB,s7,eI,w8,v6,E6,Q7,q9]) (O9 4)<|s6 n.Acc.a6<|rg<|j5 1 h (fun h=>rg<|j8 a3C a72 6 h fun a1J h=>A2 n<|fE h) (fun h=>(nomatch h))) (fun h=>j8 a5Q d0m 8 h fun a5w h=>s6 n.Acc.a6<|rg<|j5 1 h (fun h=>(nomatch h)) (fun h=>n9<|j8 b4J d5v 3 h fun J8 h=>s6 a5w.1.a6<|J2 n<|rg<|j8 a3C a72 7 h fun a5z h=>A2 J8<|fE h))
def c1t:FS (List m9):=⟨47,Tryz.f47,[.val [some 2] [some 140]],[],[],fun r=>u9 140 2 x7 r,fun _=>[],Tryz.func47⟩
def b31:Option (List m9) :=
 (t5 (0<=(4:Int)/\(4:Int)*16<=140737488355328) (some (f5k (4:Int).toNat (m9.mk 0 0))))
theorem c6s:OK c1t [] b31 :=
 o7 _ fun r h=>n9<|t8 h fun e1 h=>U0 0 2 140 2 16 x7 (m9.mk 0 0) b2U (.none) e1 (by decide) (by rfl)<|s6 (f5k (4:Int).toNat (m9.mk 0 0))<|fE h
def b2B:FS (u0):=⟨103,Tryz.f103,[.val [none,some 2,some 4] [none,some 140,none]],[],[],fun r=>.agg (b1R r),fun _=>[],Tryz.func103⟩
def a8Q:Option u0 :=
 ((b31).bind fun a0T=>some (u0.mk 0 a0T []))
theorem b8X:OK b2B [] a8Q :=
 o7 _ fun r h=>n9<|j8 c1t c6s 0 h fun a0T h=>s6 a0T<|fE h
def a62:FS (q8×Bool):=⟨157,Tryz.f157,[.val [] [],.val [] []],[none,none],[.val [none,some 2,some 4] [],.val [] []],fun r=>.tup [.agg (B7 r.1),.b r.2],fun _=>[none,none],Tryz.func157⟩
def d6p:Unit->KS:=fun _=>⟨a62.k 3 [false],(bs 4 (.ptr 1 0 0::(bs 24 []))),[some [],some [.var 174 [vi 0,vi 0,vi 0,vi 0]]]⟩
def c9G:Option (q8×Bool) :=
 some ((q8.mk (n7.mk 0 0) 0 0),false)
theorem f3j(r):NF a62 r d6p (fun s=>c9G):=fun _ h=>PK<|rg<|fE h
def e5g(s_:u0)(who:Int):Int->KS:=fun i=>⟨a62.k 2 [],(bs 1 (vi who::(.ptr 1 0 0::(bs 1 (.ptr 2 0 0::(bs 1 (vi i::(bs 22 [])))))))),[some [],some [.var 89 [vi s_.At,j9 2 x7 s_.g7,j9 4 B7 s_.i8]],some [.var 174 [vi 0,vi 0,vi 0,vi 0]]]⟩
def b6D(s_:u0)(who:Int)(i:Int):Option (l7 (q8×Bool) Int Unit) :=
 (bif decide (i<(s_.i8.length:Int)) then ((idx s_.i8 i).bind fun done=>(bif (done.a0.b9==who) then some (l7.ret (done,true)) else some (l7.nxt (m8 (i+1))))) else some (l7.brk ()))
theorem e7A(s_ who):LQ a62 d6p (e5g s_ who) (fun s=>b6D s_ who s):=fun lc i h=>PK<|rg<|j5 4 h (fun h=>rg<|v5 B7 3 h fun done b6e h=>j5 8 h (fun h=>rg<|J0 B7 3 b6e<|fL lc h) (fun h=>rg<|(lc.nx h fun hI=>sk [] [1,2,4,6] [(1,0),(2,0)] hI))) (fun h=>(lc.bk h fun hI=>sk [] [4] [(2,0)] hI))
def b9y(s_:u0)(who:Int):Option (q8×Bool) :=
 ((p8 (fun s:Int=>b6D s_ who s) 0).bind fun x=>x.go (fun r=>some r) fun s=>c9G)
theorem f2Q{s_ who}:OK a62 [.agg (a7X s_),vi who] (b9y s_ who) :=
 o7 _ fun r h=>n9<|lp (e7A s_ who) h (fun _ h=>a62.rt h) (f3j r) fun hI=>sk [] [1,2,4,6] [(1,0),(2,0)] hI
def a4T:FS (Bool):=⟨106,Tryz.f106,[.val [] []],[none],[.val [some 2] []],fun r=>.b r,fun _=>[none],Tryz.func106⟩
def c60:Unit->KS:=fun _=>⟨a4T.k 4 [false,false],(bs 36 []),[some []]⟩
def d3p:Option Bool :=
 some true
theorem f1r(r):NF a4T r c60 (fun s=>d3p):=fun _ h=>PK<|rg<|fE h
def e3M(list:List m9):Int->KS:=fun i=>⟨a4T.k 3 [false],(j9 2 x7 list::(bs 2 (vi i::(bs 32 [])))),[some []]⟩
def b9B(list:List m9)(i:Int):Option (l7 Bool Int Unit) :=
 (bif decide (i<(list.length:Int)) then ((idx list i).bind fun box=>(bif decide (box.j4<0) then some (l7.ret false) else (bif decide (box.j4>1000000) then some (l7.ret false) else ((a6I box.d9).bind fun a04=>(bif (!a04) then some (l7.ret false) else some (l7.nxt (m8 (i+1)))))))) else some (l7.brk ()))
theorem e4U(list):LQ a4T c60 (e3M list) (fun s=>b9B list s):=fun lc i h=>PK<|rg<|j5 3 h (fun h=>rg<|v5 x7 2 h fun box a14 h=>j5 6 h (fun h=>rg<|fL lc h) (fun h=>J0 x7 9 a14<|j5 14 h (fun h=>rg<|fL lc h) (fun h=>J0 x7 17 a14<|j8 a7L a9A 20 h fun a04 h=>j5 22 h (fun h=>rg<|fL lc h) (fun h=>rg<|(lc.nx h fun hI=>sk [] [0,3] [] hI))))) (fun h=>(lc.bk h fun hI=>sk [] [] [] hI))
def b1b(list:List m9):Option Bool :=
 (bif ((list.length:Int) != 4) then some false else ((p8 (fun s:Int=>b9B list s) 0).bind fun x=>x.go (fun r=>some r) fun s=>d3p))
theorem c4J{list}:OK a4T [j9 2 x7 list] (b1b list) :=
 o7 _ fun r h=>n9<|j5 2 h (fun h=>rg<|fE h) (fun h=>rg<|lp (e4U list) h (fun _ h=>a4T.rt h) (f1r r) fun hI=>sk [] [0,3] [] hI)
def a4c:FS (Bool):=⟨158,Tryz.f158,[.val [] []],[none,none],[.val [some 2] [],.val O2 []],fun r=>.b r,fun _=>[none,none],Tryz.func158⟩
def c6y:Unit->KS:=fun _=>⟨a4c.k 4 [false,false],(bs 38 []),[some []]⟩
def d55:Option Bool :=
 some true
theorem f0I(r):NF a4c r c6y (fun s=>d55):=fun _ h=>PK<|rg<|fE h
def e3C(list:List m9)(r_:n6):Int->KS:=fun i=>⟨a4c.k 3 [false],(j9 2 x7 list::(bs 2 (.ptr 1 0 0::(bs 1 (vi i::(bs 32 [])))))),[some [],some [.var 54 (a0C r_)]]⟩
def b6R(list:List m9)(r_:n6)(i:Int):Option (l7 Bool Int Unit) :=
 (bif decide (i<(r_.b5.length:Int)) then ((idx r_.b5 i).bind fun read=>((idx list read.i5).bind fun box=>(bif (box.j4 != read.j4) then some (l7.ret false) else some (l7.nxt (m8 (i+1)))))) else some (l7.brk ()))
theorem e0j(list r_):LQ a4c c6y (e3C list r_) (fun s=>b6R list r_ s):=fun lc i h=>PK<|rg<|j5 4 h (fun h=>rg<|v5 v6 4 h fun read a3D h=>v5 x7 7 h fun box a14 h=>J0 v6 13 a3D<|j5 16 h (fun h=>rg<|fL lc h) (fun h=>rg<|(lc.nx h fun hI=>sk [] [0,3,5] [(1,0)] hI))) (fun h=>(lc.bk h fun hI=>sk [] [] [] hI))
def b6n(list:List m9)(r_:n6):Option Bool :=
 ((b1b list).bind fun R9=>(bif (!R9) then some false else ((b4O r_).bind fun a07=>(bif (!a07) then some false else ((p8 (fun s:Int=>b6R list r_ s) 0).bind fun x=>x.go (fun r=>some r) fun s=>d55)))))
theorem e8Y{list r_}:OK a4c [j9 2 x7 list,.agg (Q7 r_)] (b6n list r_) :=
 o7 _ fun r h=>n9<|j8 a4T c4J 1 h fun R9 h=>j5 3 h (fun h=>rg<|fE h) (fun h=>j8 a0N c9f 5 h fun a07 h=>j5 7 h (fun h=>rg<|fE h) (fun h=>rg<|lp (e0j list r_) h (fun _ h=>a4c.rt h) (f0I r) fun hI=>sk [] [0,3,5] [(1,0)] hI))
def c9M:FS (Int):=⟨206,Tryz.f206,[.val [] []],[none,none],[.val [] [],.val [] []],fun r=>vi r,fun _=>[none,none],Tryz.func206⟩
def c0I(a:Int)(b:Int):Option Int :=
 (bif decide (a<b) then some a else some b)
theorem e7j{a b}:OK c9M [vi a,vi b] (c0I a b) :=
 o7 _ fun r h=>n9<|j5 2 h (fun h=>rg<|fE h) (fun h=>rg<|fE h)
def a5C:FS (List m9):=⟨159,Tryz.f159,[.val [some 2] [some 140]],[none,none],[.val [some 2] [some 140],.val O2 []],fun r=>u9 140 2 x7 r,fun _=>[none,none],Tryz.func159⟩
def c8k:(List m9)->KS:=fun b0Z=>⟨a5C.k 3 [false],(.own 0 0 2 0 b0Z.length::(bs 37 [])),[some [m6 140 2 x7 b0Z]]⟩
def d6g(b0Z:List m9):Option (List m9) :=
 some b0Z
theorem e3U(r):NF a5C r c8k (fun s=>d6g s):=fun b0Z h=>PK<|rg<|s6 b0Z<|fE h
def d9r(r_:n6):((List m9)×Int)->KS:=fun (list1,i)=>⟨a5C.k 2 [],(.own 0 0 2 0 list1.length::(bs 2 (.ptr 1 0 0::(bs 1 (vi i::(bs 32 [])))))),[some [m6 140 2 x7 list1],some [.var 54 (a0C r_)]]⟩
def b63(r_:n6)(list1:List m9)(i:Int):Option (l7 (List m9) ((List m9)×Int) (List m9)) :=
 (bif decide (i<(r_.b6.length:Int)) then ((idx r_.b6 i).bind fun put=>((idx list1 put.i5).bind fun box=>((c0I 1000000 (m8 (box.j4+1))).bind fun b1C=>some (l7.nxt (list1.set put.i5.toNat (m9.mk b1C put.d9),m8 (i+1)))))) else some (l7.brk list1))
theorem e0t(r_):LQ a5C c8k (d9r r_) (fun s=>b63 r_ s.1 s.2):=fun lc (list1,i) h=>PK<|rg<|j5 4 h (fun h=>rg<|v5 w8 3 h fun put hput h=>rg<|A9 h fun box a14 h=>B9 a14<|H9 x7 6 a14<|j8 c9M e7j 8 h fun b1C h=>J0 w8 12 hput<|B9 a14<|Q4 140 2 x7 17 [] (m9.mk b1C put.d9) a14<|rg<|(lc.nx h fun hI=>om ((.own 0 0 2 0 list1.length:V)=.own 0 0 2 0 (list1.set put.i5.toNat (m9.mk b1C put.d9)).length) (by simp)<|sk [.is (.tmp 0) (.own 0 0 2 0 (list1.set put.i5.toNat (m9.mk b1C put.d9)).length)] [0,3,5] [(1,0)] hI)) (fun h=>(lc.bk h fun hI=>sk [] [0] [] hI))
def b3D(list:List m9)(r_:n6):Option (List m9) :=
 ((p8 (fun s:(List m9)×Int=>b63 r_ s.1 s.2) (list,0)).bind fun x=>x.go (fun r=>some r) fun s=>d6g s)
theorem d3e{list r_}:OK a5C [u9 140 2 x7 list,.agg (Q7 r_)] (b3D list r_) :=
 o7 _ fun r h=>n9<|lp (e0t r_) h (fun _ h=>a5C.rt h) (e3U r) fun hI=>sk [] [0,3,5] [(1,0)] hI
def a12:FS (List q8):=⟨160,Tryz.f160,[.val [some 4] []],[none,none],[.val [some 4] [],.val [] []],fun r=>j9 4 B7 r,fun _=>[none,none],Tryz.func160⟩
def b7i(d:q8):((List q8)×Bool)->KS:=fun (out1,in_1)=>⟨a12.k 5 [false],(bs 3 (.ptr 1 0 0::(bs 1 (.own 2 0 4 0 out1.length::(.b in_1::(bs 50 [])))))),[some [],some [.var 174 [vi d.a0.b9,vi d.a0.Seq,vi d.Code,vi d.d9]],some [m6 174 4 B7 out1]]⟩
def f0G:(List q8)->KS:=fun out2=>⟨a12.k 7 [false,true],(bs 5 (.own 1 0 4 0 out2.length::(bs 51 []))),[some [],some [m6 174 4 B7 out2]]⟩
def c0O(out2:List q8):Option (List q8) :=
 some out2
theorem e5P(r):NF a12 r f0G (fun s=>c0O s):=fun out2 h=>PK<|rg<|s6 out2<|fE h
def c51(d:q8)(out1:List q8)(in_1:Bool):Option (List q8) :=
 (((bif (!in_1) then (t5 ((out1.length+1)*32<=140737488355328) (some (l9.brk (out1++[d])))) else some (l9.brk out1)):Option (l9 (List q8) (List q8))).bind fun x=>x.go some fun j=>c0O j)
theorem e1A(d)(r):NF a12 r (b7i d) (fun s=>c51 d s.1 s.2):=fun (out1,in_1) h=>PK<|A7 h (e5P r) fun x1 h hc1=>rg<|j5 1 h (fun h=>rg<|tk 2 []<|t8 h fun e1 h=>F6 3 8 174 4 32 B7 out1 d e1<|E4 d<|(p7 h hc1 fun hI=>sk [] [5] [(8,0)] hI)) (fun h=>(p7 h hc1 fun hI=>sk [] [5] [(2,0)] hI))
def c0C(list:List q8)(d:q8):((List q8)×Bool×Int)->KS:=fun (out,in_,i)=>⟨a12.k 4 [],(j9 4 B7 list::(bs 2 (.ptr 1 0 0::(bs 1 (.own 2 0 4 0 out.length::(.b in_::(vi i::(bs 49 [])))))))),[some [],some [.var 174 [vi d.a0.b9,vi d.a0.Seq,vi d.Code,vi d.d9]],some [m6 174 4 B7 out]]⟩
def e3e(list:List q8)(d:q8)(i:Int):((List q8)×Bool)->KS:=fun (out3,in_2)=>⟨a12.k 8 [true,true],(j9 4 B7 list::(bs 2 (.ptr 1 0 0::(bs 1 (.own 2 0 4 0 out3.length::(.b in_2::(vi i::(bs 49 [])))))))),[some [],some [.var 174 [vi d.a0.b9,vi d.a0.Seq,vi d.Code,vi d.d9]],some [m6 174 4 B7 out3]]⟩
def e78(list:List q8)(d:q8)(i:Int)(in_2:Bool):(List q8)->KS:=fun out4=>⟨a12.k 10 [true,true,true],(j9 4 B7 list::(bs 2 (.ptr 1 0 0::(bs 1 (.own 2 0 4 0 out4.length::(.b in_2::(vi i::(bs 49 [])))))))),[some [],some [.var 174 [vi d.a0.b9,vi d.a0.Seq,vi d.Code,vi d.d9]],some [m6 174 4 B7 out4]]⟩
def c3s(i:Int)(in_2:Bool)(out4:List q8):Option (l7 (List q8) ((List q8)×Bool×Int) ((List q8)×Bool)) :=
 some (l7.nxt (out4,in_2,m8 (i+1)))
theorem e1D(list d i in_2)(lc:H2 a12 (b7i d) (c0C list d)):NL lc (e78 list d i in_2) (fun s=>c3s i in_2 s):=fun out4 h=>PK<|rg<|(lc.nx h fun hI=>sk [] [0,3,5,6,7] [(1,0),(2,0)] hI)
def c3d(list:List q8)(d:q8)(i:Int)(out3:List q8)(in_2:Bool):Option (l7 (List q8) ((List q8)×Bool×Int) ((List q8)×Bool)) :=
 ((((idx list i).bind fun done=>(bif (done.a0.b9 != d.a0.b9) then (t5 ((out3.length+1)*32<=140737488355328) (some (l9.brk (out3++[done])))) else some (l9.brk out3))):Option (l9 (l7 (List q8) ((List q8)×Bool×Int) ((List q8)×Bool)) (List q8))).bind fun x=>x.go some fun j=>c3s i in_2 j)
theorem e8X(list d i)(lc:H2 a12 (b7i d) (c0C list d)):NL lc (e3e list d i) (fun s=>c3d list d i s.1 s.2):=fun (out3,in_2) h=>PK<|A7 h (e1D list d i in_2 lc) fun x2 h hc2=>rg<|v5 B7 2 h fun done b6e h=>j5 9 h (fun h=>rg<|J0 B7 3 b6e<|tk 5 []<|t8 h fun e2 h=>F6 6 19 174 4 32 B7 out3 done e2<|E4 done<|(p7 h hc2 fun hI=>sk [] [0,3,5,6,7] [(1,0),(19,0)] hI)) (fun h=>(p7 h hc2 fun hI=>sk [] [0,3,5,6,7] [(1,0),(2,0)] hI))
def b19(list:List q8)(d:q8)(out:List q8)(in_:Bool)(i:Int):Option (l7 (List q8) ((List q8)×Bool×Int) ((List q8)×Bool)) :=
 (bif decide (i<(list.length:Int)) then (((bif (!in_) then ((idx list i).bind fun a5i=>(bif decide (a5i.a0.b9>=d.a0.b9) then (t5 ((out.length+1)*32<=140737488355328) (some (l9.brk (out++[d],true)))) else some (l9.brk (out,in_)))) else some (l9.brk (out,in_))):Option (l9 (l7 (List q8) ((List q8)×Bool×Int) ((List q8)×Bool)) ((List q8)×Bool))).bind fun x=>x.go some fun j=>c3d list d i j.1 j.2) else some (l7.brk (out,in_)))
theorem d82(list d):LQ a12 (b7i d) (c0C list d) (fun s=>b19 list d s.1 s.2.1 s.2.2):=fun lc (out,in_,i) h=>PK<|rg<|j5 3 h (fun h=>A7 h (e8X list d i lc) fun x2 h hc2=>rg<|j5 2 h (fun h=>v5 B7 5 h fun a5i e2T h=>j5 13 h (fun h=>rg<|tk 2 []<|t8 h fun e3 h=>F6 3 24 174 4 32 B7 out d e3<|E4 d<|rg<|(p7 h hc2 fun hI=>sk [] [0,3,5,6,7] [(1,0),(24,0)] hI)) (fun h=>(p7 h hc2 fun hI=>sk [] [0,3,5,6,7] [(1,0),(2,0)] hI))) (fun h=>(p7 h hc2 fun hI=>sk [] [0,3,5,6,7] [(1,0),(2,0)] hI))) (fun h=>(lc.bk h fun hI=>sk [] [3,5,6] [(1,0),(2,0)] hI))
def b9b(list:List q8)(d:q8):Option (List q8) :=
 ((p8 (fun s:(List q8)×Bool×Int=>b19 list d s.1 s.2.1 s.2.2) (([]:List q8),false,0)).bind fun x=>x.go (fun r=>some r) fun s=>c51 d s.1 s.2)
theorem d6W{list d}:OK a12 [j9 4 B7 list,.agg (B7 d)] (b9b list d) :=
 o7 _ fun r h=>n9<|tk 0 []<|n9<|lp (d82 list d) h (fun _ h=>a12.rt h) (e1A d r) fun hI=>om ((.own 3 0 4 0 0:V)=.own 3 0 4 0 ([]:List q8).length) (by simp)<|sk [.is (.tmp 5) (.own 3 0 4 0 ([]:List q8).length)] [0,3,5,6,7] [(1,0),(3,0)] hI
def a2S:FS (u0×Int):=⟨104,Tryz.f104,[.val [none,some 2,some 4] [none,some 140,none],.val [] []],[none,none],[.val [none,some 2,some 4] [none,some 140,none],.val K6 []],fun r=>.tup [.agg (b1R r.1),vi r.2],fun _=>[none,none],Tryz.func104⟩
def f2I(s_:u0)(e_:m4):Unit->KS:=fun _=>⟨a2S.k 6 [false,false,false],(bs 2 (.ptr 1 0 0::(.ptr 2 0 0::(.ptr 3 0 0::(bs 78 []))))),[some [m6 140 2 x7 s_.g7],some [.var 89 [vi (m8 (s_.At+1)),.own 0 0 2 0 s_.g7.length,j9 4 B7 s_.i8]],some [.var 56 (a5d e_)],some [.var 89 [vi 0,.nil,.nil]]]⟩
def e8E(s_:u0)(e_:m4):Int->KS:=fun b1d=>⟨a2S.k 9 [false,false,false,true],(bs 2 (.ptr 1 0 0::(.ptr 2 0 0::(.ptr 3 0 0::(bs 3 (.ptr 4 0 0::(bs 74 []))))))),[some [m6 140 2 x7 s_.g7],some [.var 89 [vi (m8 (s_.At+1)),.own 0 0 2 0 s_.g7.length,j9 4 B7 s_.i8]],some [.var 56 (a5d e_)],some [.var 89 [vi 0,.nil,.nil]],some [.var 174 [vi e_.a0.b9,vi e_.a0.Seq,vi b1d,vi 0]]]⟩
def d8Z(s_:u0):(q8×List m9)->KS:=fun (d,g7)=>⟨a2S.k 13 [false,false,false,true,true],(bs 2 (.ptr 1 0 0::(bs 1 (.ptr 3 0 0::(bs 3 (.ptr 4 0 0::(bs 74 []))))))),[some [.dead],some [.var 89 [vi (m8 (s_.At+1)),.own 2 0 2 0 g7.length,j9 4 B7 s_.i8]],some [m6 140 2 x7 g7],some [.var 89 [vi 0,.nil,.nil]],some [.var 174 [vi d.a0.b9,vi d.a0.Seq,vi d.Code,vi d.d9]]]⟩
def c2k(s_:u0)(d:q8)(g7:List m9):Option (u0×Int) :=
 ((b9b s_.i8 d).bind fun c7d=>some ((u0.mk (m8 (s_.At+1)) g7 c7d),d.Code))
theorem e1l(s_)(r):NF a2S r (d8Z s_) (fun s=>c2k s_ s.1 s.2):=fun (d,g7) h=>PK<|rg<|j8 a12 d6W 3 h fun c7d h=>rg<|s6 g7<|fE h
def c2z(s_:u0)(e_:m4)(b1d:Int):Option (u0×Int) :=
 (((bif (b1d==2) then (bif (e_.b7.Code==0) then ((b3D s_.g7 e_.b7).bind fun a9F=>some (l9.brk ((q8.mk e_.a0 0 e_.b7.d9),a9F))) else some (l9.brk ((q8.mk e_.a0 b1d 0),s_.g7))) else some (l9.brk ((q8.mk e_.a0 b1d 0),s_.g7))):Option (l9 (u0×Int) (q8×List m9))).bind fun x=>x.go some fun j=>c2k s_ j.1 j.2)
theorem f1l(s_ e_)(r):NF a2S r (e8E s_ e_) (fun s=>c2z s_ e_ s):=fun b1d h=>PK<|A7 h (e1l s_ r) fun x1 h hc1=>rg<|j5 3 h (fun h=>j5 8 h (fun h=>N1<|j8 a5C d3e 4 h fun a9F h=>s6 s_.g7<|(p7 h hc1 fun hI=>sk [] [2,4,8] [(1,0),(25,0),(3,0),(4,0)] hI)) (fun h=>(p7 h hc1 fun hI=>sk [] [2,4,8] [(1,0),(0,0),(3,0),(4,0)] hI))) (fun h=>(p7 h hc1 fun hI=>sk [] [2,4,8] [(1,0),(0,0),(3,0),(4,0)] hI))
def b7c(s_:u0)(e_:m4):Option (u0×Int) :=
 ((((b6n s_.g7 e_.b7).bind fun a7l=>(bif a7l then some (l9.brk 2) else some (l9.brk 1))):Option (l9 (u0×Int) Int)).bind fun x=>x.go some fun j=>c2z s_ e_ j)
theorem e6p(s_ e_)(r):NF a2S r (f2I s_ e_) (fun s=>b7c s_ e_):=fun _ h=>PK<|rg<|A7 h (f1l s_ e_ r) fun x1 h hc1=>rg<|cbE a4c.t e8Y h fun a7l d5H h=>cdT (a4c.t 4 true a7l) h (fun _ h=>ob d5H<|osc a4c a7l rfl (O9 2)<|s6 s_.g7<|rg<|(p7 h hc1 fun hI=>sk [] [2,3,4,8] [(1,0),(2,0),(3,0),(7,0)] hI)) (fun _ h=>ob d5H<|osc a4c a7l rfl (O9 2)<|s6 s_.g7<|(p7 h hc1 fun hI=>sk [] [2,3,4,8] [(1,0),(2,0),(3,0),(7,0)] hI))
def a8f(s_:u0)(e_:m4):Option (u0×Int) :=
 (bif e_.i7 then some ((u0.mk (m8 (s_.At+1)) s_.g7 s_.i8),5) else ((b9y (u0.mk (m8 (s_.At+1)) s_.g7 s_.i8) e_.a0.b9).bind fun a61=>(((bif a61.2 then (bif (([a61.1.a0.b9,a61.1.a0.Seq]:List Int)==[e_.a0.b9,e_.a0.Seq]) then some (l9.ret ((u0.mk (m8 (s_.At+1)) s_.g7 s_.i8),3)) else (bif a61.2 then (bif decide (a61.1.a0.Seq>e_.a0.Seq) then some (l9.ret ((u0.mk (m8 (s_.At+1)) s_.g7 s_.i8),4)) else some (l9.brk ())) else some (l9.brk ()))) else (bif a61.2 then (bif decide (a61.1.a0.Seq>e_.a0.Seq) then some (l9.ret ((u0.mk (m8 (s_.At+1)) s_.g7 s_.i8),4)) else some (l9.brk ())) else some (l9.brk ()))):Option (l9 (u0×Int) Unit)).bind fun x=>x.go some fun j=>b7c s_ e_)))
theorem b8L{s_ e_}:OK a2S [.agg (b1R s_),.agg (s7 e_)] (a8f s_ e_) :=
 o7 _ fun r h=>N1<|j5 1 h (fun h=>rg<|s6 s_.g7<|fE h) (fun h=>rg<|cbS a62 f2Q 4 (fun _=>(by simp [a62,K2,R6,N6,V.simple,vi,u9,eB,B7,eI,E6])) (fun _=>(O9 2)) h fun a61 h=>s6 s_.g7<|A7 h (e6p s_ e_ r) fun x1 h hc1=>rg<|j5 1 h (fun h=>j5 8 h (fun h=>rg<|(C1 h hc1 fun h=>s6 s_.g7<|fE h)) (fun h=>rg<|j5 1 h (fun h=>j5 10 h (fun h=>rg<|(C1 h hc1 fun h=>s6 s_.g7<|fE h)) (fun h=>(p7 h hc1 fun hI=>sk [] [2,3,4] [(1,0),(2,0),(3,0)] hI))) (fun h=>(p7 h hc1 fun hI=>sk [] [2,3,4] [(1,0),(2,0),(3,0)] hI)))) (fun h=>rg<|j5 1 h (fun h=>j5 10 h (fun h=>rg<|(C1 h hc1 fun h=>s6 s_.g7<|fE h)) (fun h=>(p7 h hc1 fun hI=>sk [] [2,3,4] [(1,0),(2,0),(3,0)] hI))) (fun h=>(p7 h hc1 fun hI=>sk [] [2,3,4] [(1,0),(2,0),(3,0)] hI))))
def c8f:FS (j6):=⟨227,Tryz.f227,[.val B0 G9],[none],[.val B0 G9],fun r=>.agg (H0 r),fun _=>[none],Tryz.func227⟩
def d0i(n:j6):Option j6 :=
 some (j6.mk n.Id n.Acc n.a5 n.Seq n.d8 n.a7 n.c9 n.i0 n.d6 n.a6 false [] (m4.mk false (n7.mk 0 0) (n6.mk [] [] 0 0)) n.f0)
theorem f0j{n}:OK c8f [.agg (H0 n)] (d0i n) :=
 o7 _ fun r h=>rg4<|rg<|A2 n<|fE h
def a5A:FS (j6×List n5):=⟨226,Tryz.f226,[.val B0 G9,.val [some 5] []],[none],[.val B0 G9],fun r=>.tup [.agg (H0 r.1),j9 5 z4 r.2],fun _=>[none],Tryz.func226⟩
def c4d(n:j6):Unit->KS:=fun _=>⟨a5A.k 5 [false,false],(bs 1 (.ptr 1 0 0::(.ptr 2 0 0::(bs 81 [])))),[some (a7v n),some [.var 58 (a9c n)],some [.var 58 [vi 0,vi 0,.nil,.nil,vi 0,vi 0,vi 0,.nil,.nil,.b false,vi 0,vi 0,.nil,.nil,vi 0,vi 0,.nil,.b false,.nil,.b false,vi 0,vi 0,.nil,.nil,vi 0,vi 0,.nil]]]⟩
def d50(n:j6):Option (j6×List n5) :=
 some (n,([]:List n5))
theorem f1f(n)(r):NF a5A r (c4d n) (fun s=>d50 n):=fun _ h=>PK<|rg<|tk 1 []<|A2 n<|A8 n5<|fE h
def d6t(n:j6):((List m9)×Int×Int×List q8)->KS:=fun (g7,i,sAt,sDones)=>⟨a5A.k 4 [false],(bs 1 (.ptr 1 0 0::(.ptr 2 0 0::(bs 1 (.ptr 3 0 0::(vi i::(bs 78 []))))))),[some (a7v n),some [.var 58 (a9c n)],some [.var 58 [vi 0,vi 0,.nil,.nil,vi 0,vi 0,vi 0,.nil,.nil,.b false,vi 0,vi 0,.nil,.nil,vi 0,vi 0,.nil,.b false,.nil,.b false,vi 0,vi 0,.nil,.nil,vi 0,vi 0,.nil]],some [.var 89 [vi sAt,.own 4 0 2 0 g7.length,j9 4 B7 sDones]],some [m6 140 2 x7 g7]]⟩
def d9i(n:j6):(List n5)->KS:=fun out=>⟨a5A.k 11 [false,true,false,true],(bs 1 (.ptr 1 0 0::(.ptr 2 0 0::(bs 5 (.own 3 0 5 0 out.length::(bs 75 [])))))),[some (a7v n),some [.var 58 (a9c n)],some [.var 58 [vi 0,vi 0,.nil,.nil,vi 0,vi 0,vi 0,.nil,.nil,.b false,vi 0,vi 0,.nil,.nil,vi 0,vi 0,.nil,.b false,.nil,.b false,vi 0,vi 0,.nil,.nil,vi 0,vi 0,.nil]],some [m6 62 5 z4 out]]⟩
def c1L(n:j6)(out:List n5):Option (l7 (j6×List n5) ((List m9)×Int×Int×List q8) Unit) :=
 ((d0i n).bind fun c4j=>some (l7.ret (c4j,out)))
theorem e84(n)(lc:H2 a5A (c4d n) (d6t n)):NL lc (d9i n) (fun s=>c1L n s):=fun out h=>PK<|rg<|j8 c8f f0j 1 h fun c4j h=>A2 n<|A2 c4j<|s6 out<|fL lc h
def b0t(n:j6)(g7:List m9)(i:Int)(sAt:Int)(sDones:List q8):Option (l7 (j6×List n5) ((List m9)×Int×Int×List q8) Unit) :=
 (bif decide (i<(n.a5.length:Int)) then ((idx n.a5 i).bind fun entry=>((a8f (u0.mk sAt g7 sDones) entry).bind fun l5Apply=>(bif entry.i7 then some (l7.nxt (l5Apply.1.g7,m8 (i+1),l5Apply.1.At,l5Apply.1.i8)) else (bif (!(([entry.a0.b9,entry.a0.Seq]:List Int)==[n.b8.a0.b9,n.b8.a0.Seq])) then some (l7.nxt (l5Apply.1.g7,m8 (i+1),l5Apply.1.At,l5Apply.1.i8)) else (((bif (l5Apply.2==0) then ((idx [(n5.mk n.Id n.b8.a0 l5Apply.2 0)] 0).bind fun told=>some (l9.brk ([(n5.mk n.Id n.b8.a0 l5Apply.2 0)].set (0:Int).toNat (n5.mk told.Node told.a0 told.Code entry.b7.d9)))) else some (l9.brk [(n5.mk n.Id n.b8.a0 l5Apply.2 0)])):Option (l9 (l7 (j6×List n5) ((List m9)×Int×Int×List q8) Unit) (List n5))).bind fun x=>x.go some fun j=>c1L n j))))) else some (l7.brk ()))
theorem e1C(n):LQ a5A (c4d n) (d6t n) (fun s=>b0t n s.1 s.2.1 s.2.2.1 s.2.2.2):=fun lc (g7,i,sAt,sDones) h=>PK<|rg<|j5 4 h (fun h=>rg<|A9 h fun entry F8 h=>B9 F8<|H9 s7 5 F8<|j8 a2S b8L 6 h fun l5Apply h=>s6 g7<|n9<|B9 F8<|H9 s7 5 F8<|j5 6 h (fun h=>rg<|(lc.nx h fun hI=>sk [] [1,2,4,5] [(1,0),(2,0),(3,0),(16,0)] hI)) (fun h=>B9 F8<|H9 s7 12 F8<|j5 17 h (fun h=>rg<|(lc.nx h fun hI=>sk [] [1,2,4,5] [(1,0),(2,0),(3,0),(16,0)] hI)) (fun h=>rg<|tk 7 []<|A7 h (e84 n lc) fun x2 h hc2=>rg<|j5 1 h (fun h=>rg<|B9 F8<|H9 s7 7 F8<|A9 h fun told a3Q h=>ob (N9 a3Q)<|om (0<((1:Nat):Int)) (by simpa using b4a a3Q)<|Q4 62 5 z4 10 [] (n5.mk told.Node told.a0 told.Code entry.b7.d9) a3Q<|(p7 h hc2 fun hI=>om ((.own 50 0 5 0 1:V)=.own 50 0 5 0 ([(n5.mk n.Id n.b8.a0 l5Apply.2 0)].set (0:Int).toNat (n5.mk told.Node told.a0 told.Code entry.b7.d9)).length) (by simp)<|sk [.is (.tmp 8) (.own 50 0 5 0 ([(n5.mk n.Id n.b8.a0 l5Apply.2 0)].set (0:Int).toNat (n5.mk told.Node told.a0 told.Code entry.b7.d9)).length)] [1,2,8] [(1,0),(2,0),(50,0)] hI)) (fun h=>(p7 h hc2 fun hI=>om ((.own 50 0 5 0 1:V)=.own 50 0 5 0 ([(n5.mk n.Id n.b8.a0 l5Apply.2 0)].length)) (by simp)<|sk [.is (.tmp 8) (.own 50 0 5 0 ([(n5.mk n.Id n.b8.a0 l5Apply.2 0)].length))] [1,2,8] [(1,0),(2,0),(50,0)] hI))))) (fun h=>(lc.bk h fun hI=>sk [] [1,2] [(1,0),(2,0)] hI))
def c0n(n:j6):Option (j6×List n5) :=
 (bif (!n.i9) then some (n,([]:List n5)) else ((a8T n n.b8.a0).bind fun a68=>(bif (!a68) then some (n,([]:List n5)) else ((a8Q).bind fun Q0=>((p8 (fun s:(List m9)×Int×Int×List q8=>b0t n s.1 s.2.1 s.2.2.1 s.2.2.2) (Q0.g7,0,Q0.At,Q0.i8)).bind fun x=>x.go (fun r=>some r) fun s=>d50 n)))))
theorem f2s{n}:OK a5A [.agg (H0 n)] (c0n n) :=
 o7 _ fun r h=>n9<|j5 3 h (fun h=>rg<|tk 1 []<|A2 n<|A8 n5<|fE h) (fun h=>R5 a2n b78 8 2 h fun a68 h=>A2 n<|j5 10 h (fun h=>rg<|tk 1 []<|A2 n<|A8 n5<|fE h) (fun h=>rg<|j8 b2B b8X 0 h fun Q0 h=>rg<|lp (e1C n) h (fun _ h=>a5A.rt h) (f1f n r) fun hI=>sk [] [1,2,4,5] [(1,0),(2,0),(16,0),(15,0)] hI))
def b4c:FS (j6×(List l8)×List n5):=⟨220,Tryz.f220,[.val B0 G9,.val [some 13] [],.val [some 5] []],[none,none],[.val B0 G9,.val K6 []],fun r=>.tup [.agg (H0 r.1),j9 13 t0 r.2.1,j9 5 z4 r.2.2],fun _=>[none,none],Tryz.func220⟩
def f1T(n:j6)(l5Entry:m4):((List Bool)×Int×Int×(List r9)×(List p6)×Int×Int×Int×Bool)->KS:=fun (a6,nCur,nCur1,nCur2,nCur3,nCur4,nCur5,nPhase,nCur6)=>⟨b4c.k 6 [true],(bs 2 (.ptr 1 0 0::(bs 1 (.ptr 3 0 0::(bs 33 []))))),[some [m6 158 8 q9 n.Acc.a6,.dead,m6 4 1 eB n.c9,.dead,m6 56 7 s7 n.f0],some [.var 58 ([vi n.Id,vi n.Acc.g9,.own 0 0 8 0 n.Acc.a6.length,.own 2 0 7 0 (n.a5++[l5Entry]).length,vi n.Seq,vi nPhase,vi n.a7,.own 0 2 1 0 n.c9.length,j9 8 q9 n.i0,.b nCur6,vi nCur,vi nCur1,j9 2 v6 nCur2,j9 2 w8 nCur3,vi nCur4,vi nCur5,.own 4 0 1 0 a6.length]++a3w n++[.own 0 4 7 0 n.f0.length])],some [m6 56 7 s7 (n.a5++[l5Entry])],some [.var 58 [vi 0,vi 0,.nil,.nil,vi 0,vi 0,vi 0,.nil,.nil,.b false,vi 0,vi 0,.nil,.nil,vi 0,vi 0,.nil,.b false,.nil,.b false,vi 0,vi 0,.nil,.nil,vi 0,vi 0,.nil]],some [m6 4 1 eB a6]]⟩
def c0r(n:j6)(l5Entry:m4)(a6:List Bool)(nCur:Int)(nCur1:Int)(nCur2:List r9)(nCur3:List p6)(nCur4:Int)(nCur5:Int)(nPhase:Int)(nCur6:Bool):Option (j6×(List l8)×List n5) :=
 ((c0n (j6.mk n.Id n.Acc (n.a5++[l5Entry]) n.Seq nPhase n.a7 n.c9 n.i0 (m4.mk nCur6 (n7.mk nCur nCur1) (n6.mk nCur2 nCur3 nCur4 nCur5)) a6 n.i9 n.i6 n.b8 n.f0)).bind fun b8n=>((a54 b8n.1).bind fun N8=>some (N8.1,N8.2,b8n.2)))
theorem e6Q(n l5Entry)(r):NF b4c r (f1T n l5Entry) (fun s=>c0r n l5Entry s.1 s.2.1 s.2.2.1 s.2.2.2.1 s.2.2.2.2.1 s.2.2.2.2.2.1 s.2.2.2.2.2.2.1 s.2.2.2.2.2.2.2.1 s.2.2.2.2.2.2.2.2):=fun (a6,nCur,nCur1,nCur2,nCur3,nCur4,nCur5,nPhase,nCur6) h=>PK<|rg<|j8 a5A f2s 1 h fun b8n h=>H1 n.Acc.a6 (n.a5++[l5Entry]) n.c9 a6<|s6 n.f0<|rg<|j8 a9y b2q 1 h fun N8 h=>A2 b8n.1<|rg<|A2 N8.1<|fE h
def b2T(n:j6)(e_:m4):Option (j6×(List l8)×List n5) :=
 ((W9 e_).bind fun l5Entry=>(t5 ((n.a5.length+1)*88<=140737488355328) ((((bif (n.d8==3) then some (l9.brk ([],0,0,[],[],0,0,2,false)) else some (l9.brk (n.a6,n.d6.a0.b9,n.d6.a0.Seq,n.d6.b7.b5,n.d6.b7.b6,n.d6.b7.d9,n.d6.b7.Code,n.d8,n.d6.i7))):Option (l9 (j6×(List l8)×List n5) ((List Bool)×Int×Int×(List r9)×(List p6)×Int×Int×Int×Bool))).bind fun x=>x.go some fun j=>c0r n l5Entry j.1 j.2.1 j.2.2.1 j.2.2.2.1 j.2.2.2.2.1 j.2.2.2.2.2.1 j.2.2.2.2.2.2.1 j.2.2.2.2.2.2.2.1 j.2.2.2.2.2.2.2.2))))
theorem d6E{n e_}:OK b4c [.agg (H0 n),.agg (s7 e_)] (b2T n e_) :=
 o7 _ fun r h=>n9<|j8 a0l a0R 3 h fun l5Entry h=>tk 4 K6<|t8 h fun e1 h=>F6 5 11 56 7 88 s7 n.a5 l5Entry e1<|E4 l5Entry<|A7 h (e6Q n l5Entry r) fun x1 h hc1=>rg<|j5 2 h (fun h=>N1<|(p7 h hc1 fun hI=>sk [.frz (.cell 1 0 12) (some 2),.frz (.cell 1 0 13) (some 2),.own (.cell 1 0 16) 4 1,.kill 0 3] [2,4] [(1,0),(11,0),(3,0),(24,0)] hI)) (fun h=>(p7 h hc1 fun hI=>sk [] [2,4] [(1,0),(11,0),(3,0),(0,3)] hI))
def d26:FS (j6×(List l8)×List n5):=⟨194,Tryz.f194,[.val B0 G9,.val [some 13] [],.val [some 5] []],[none,none],[.val B0 G9,.val C0 []],fun r=>.tup [.agg (H0 r.1),j9 13 t0 r.2.1,j9 5 z4 r.2.2],fun _=>[none,none],Tryz.func194⟩
def b6l(n:j6)(m:l8):Option (j6×(List l8)×List n5) :=
 (bif (n.d8 != 3) then some (n,([]:List l8),([]:List n5)) else (bif (m.a7 != n.a7) then some (n,([]:List l8),([]:List n5)) else (bif (m.g8 != (n.a5.length:Int)) then some (n,([]:List l8),([]:List n5)) else ((idx n.a6 m.c9).bind fun y=>((b11 (n.a6.set m.c9.toNat true)).bind fun b3B=>(bif (!b3B) then some ((j6.mk n.Id n.Acc n.a5 n.Seq n.d8 n.a7 n.c9 n.i0 n.d6 (n.a6.set m.c9.toNat true) n.i9 n.i6 n.b8 n.f0),([]:List l8),([]:List n5)) else ((W9 n.d6).bind fun l5Entry=>((a3m n.Id (l8.mk 5 0 0 0 (n.a5.length:Int) l5Entry [])).bind fun J5=>((b2T (j6.mk n.Id n.Acc n.a5 n.Seq n.d8 n.a7 n.c9 n.i0 n.d6 (n.a6.set m.c9.toNat true) n.i9 n.i6 n.b8 n.f0) l5Entry).bind fun a1q=>(t5 ((J5.length+a1q.2.1.length)*152<=140737488355328) (some (a1q.1,J5++a1q.2.1,a1q.2.2))))))))))))
theorem e5F{n m}:OK d26 [.agg (H0 n),.agg (t0 m)] (b6l n m) :=
 o7 _ fun r h=>n9<|j5 3 h (fun h=>rg<|tk 1 C0<|tk 2 []<|A2 n<|A8 l8<|A8 n5<|fE h) (fun h=>j5 10 h (fun h=>rg<|tk 1 C0<|tk 2 []<|A2 n<|A8 l8<|A8 n5<|fE h) (fun h=>j5 17 h (fun h=>rg<|tk 1 C0<|tk 2 []<|A2 n<|A8 l8<|A8 n5<|fE h) (fun h=>rg<|A9 h fun y hy h=>B9 hy<|Q4 4 1 eB 5 [] true hy<|rg<|R5 a6o d2D 2 1 h fun b3B h=>om (n.a6.length=(n.a6.set m.c9.toNat true).length) (by simp)<|j5 3 h (fun h=>rg<|tk 1 C0<|tk 2 []<|W7 n.Acc.a6 n.a5 n.c9<|om (n.a6.length=(n.a6.set m.c9.toNat true).length) (by simp)<|s6 n.f0<|A8 l8<|A8 n5<|fE h) (fun h=>rg<|j8 a0l a0R 2 h fun l5Entry h=>rg<|j8 a0y a5X 7 h fun J5 h=>rg<|j8 b4c d6E 2 h fun a1q h=>W7 n.Acc.a6 n.a5 n.c9<|om (n.a6.length=(n.a6.set m.c9.toNat true).length) (by simp)<|s6 n.f0<|rg<|t8 h fun e1 h=>apL 3 62 66 13 152 t0 J5 a1q.2.1 e1<|A2 a1q.1<|s6 (J5++a1q.2.1)<|fE h))))
def c6n:FS (j6×(List l8)×List n5):=⟨195,Tryz.f195,[.val B0 G9,.val [some 13] [],.val [some 5] []],[none,none],[.val B0 G9,.val C0 []],fun r=>.tup [.agg (H0 r.1),j9 13 t0 r.2.1,j9 5 z4 r.2.2],fun _=>[none,none],Tryz.func195⟩
def b6x(n:j6)(m:l8):Option (j6×(List l8)×List n5) :=
 (bif decide (m.g8<(n.a5.length:Int)) then some (n,([]:List l8),([]:List n5)) else (bif decide (m.g8>(n.a5.length:Int)) then ((a5u m (l8.mk 8 0 0 0 (n.a5.length:Int) (m4.mk false (n7.mk 0 0) (n6.mk [] [] 0 0)) [])).bind fun a1J=>some (n,a1J,([]:List n5))) else ((b2T n m.i4).bind fun a1q=>some (a1q.1,a1q.2.1,a1q.2.2))))
theorem d7G{n m}:OK c6n [.agg (H0 n),.agg (t0 m)] (b6x n m) :=
 o7 _ fun r h=>n9<|j5 6 h (fun h=>rg<|tk 1 C0<|tk 2 []<|A2 n<|A8 l8<|A8 n5<|fE h) (fun h=>rg<|j5 6 h (fun h=>rg<|j8 a3C a72 6 h fun a1J h=>tk 7 []<|A2 n<|A8 n5<|fE h) (fun h=>rg<|j8 b4c d6E 3 h fun a1q h=>A2 n<|A2 a1q.1<|fE h))
def c6q:FS (j6×List l8):=⟨197,Tryz.f197,[.val B0 G9,.val [some 13] []],[none,none],[.val B0 G9,.val C0 []],fun r=>.tup [.agg (H0 r.1),j9 13 t0 r.2],fun _=>[none,none],Tryz.func197⟩
def b67(n:j6)(m:l8):Option (j6×List l8) :=
 (bif (n.d8==0) then some (n,([]:List l8)) else (bif decide ((n.f0.length:Int)>=4) then some (n,([]:List l8)) else ((a8T n m.i4.a0).bind fun a68=>(bif a68 then some (n,([]:List l8)) else ((W9 m.i4).bind fun l5Entry=>(t5 ((n.f0.length+1)*88<=140737488355328) (((a54 (j6.mk n.Id n.Acc n.a5 n.Seq n.d8 n.a7 n.c9 n.i0 n.d6 n.a6 n.i9 n.i6 n.b8 (n.f0++[l5Entry]))).bind fun N8=>some (N8.1,N8.2)))))))))
theorem e7e{n m}:OK c6q [.agg (H0 n),.agg (t0 m)] (b67 n m) :=
 o7 _ fun r h=>n9<|j5 3 h (fun h=>rg<|tk 1 C0<|A2 n<|A8 l8<|fE h) (fun h=>j5 9 h (fun h=>rg<|tk 1 C0<|A2 n<|A8 l8<|fE h) (fun h=>R5 a2n b78 14 2 h fun a68 h=>A2 n<|j5 15 h (fun h=>rg<|tk 1 C0<|A2 n<|A8 l8<|fE h) (fun h=>rg<|j8 a0l a0R 4 h fun l5Entry h=>tk 5 K6<|t8 h fun e1 h=>F6 6 27 56 7 88 s7 n.f0 l5Entry e1<|E4 l5Entry<|rg<|j8 a9y b2q 1 h fun N8 h=>s6 n.Acc.a6<|H1 n.a5 n.c9 n.a6 (n.f0++[l5Entry])<|A2 N8.1<|fE h)))
def a8q:FS ((List l8)×j6):=⟨198,Tryz.f198,[.val [some 13] []],[some (0,.val B0 G9),none],[.val B0 G9,.val C0 []],fun r=>j9 13 t0 r.1,fun r=>[some (.agg (e6w r.2)),none],Tryz.func198⟩
def c66(n:j6):(List l8)->KS:=fun out1=>⟨a8q.k 4 [false],(bs 5 (.own 1 0 13 0 out1.length::(bs 24 []))),[some [m6 158 8 q9 n.Acc.a6,m6 56 7 s7 n.a5,m6 4 1 eB n.c9,m6 4 1 eB n.a6,m6 56 7 s7 n.f0],some [m6 66 13 t0 out1]]⟩
def d4O(n:j6)(out1:List l8):Option ((List l8)×j6) :=
 some (out1,n)
theorem f0P(n)(r):NF a8q r (c66 n) (fun s=>d4O n s):=fun out1 h=>PK<|rg<|s6 out1<|A2 n<|fE h
def d67(n:j6)(m:l8):((List l8)×Int)->KS:=fun (out,s_)=>⟨a8q.k 3 [],(bs 2 (.ptr 1 0 0::(.ptr 2 0 0::(bs 1 (.own 3 0 13 0 out.length::(vi s_::(bs 23 []))))))),[some (a7v n),some [.var 58 (a9c n)],some [.var 66 (a4M m)],some [m6 66 13 t0 out]]⟩
def a6J(n:j6)(m:l8)(out:List l8)(s_:Int):Option (l7 ((List l8)×j6) ((List l8)×Int) (List l8)) :=
 (bif decide (s_<(n.a5.length:Int)) then ((idx n.a5 s_).bind fun entry=>((W9 entry).bind fun l5Entry=>((a5u m (l8.mk 5 0 0 0 s_ l5Entry [])).bind fun a1J=>(t5 ((out.length+a1J.length)*152<=140737488355328) (some (l7.nxt (out++a1J,m8 (s_+1)))))))) else some (l7.brk out))
theorem e4t(n m):LQ a8q (c66 n) (d67 n m) (fun s=>a6J n m s.1 s.2):=fun lc (out,s_) h=>PK<|rg<|j5 4 h (fun h=>rg<|A9 h fun entry F8 h=>B9 F8<|H9 s7 7 F8<|j8 a0l a0R 8 h fun l5Entry h=>j8 a3C a72 10 h fun a1J h=>t8 h fun e1 h=>apL 11 20 66 13 152 t0 out a1J e1<|rg<|(lc.nx h fun hI=>sk [] [2,3,5,6] [(1,0),(2,0),(20,0)] hI)) (fun h=>(lc.bk h fun hI=>sk [] [5] [(3,0)] hI))
def b6N(n:j6)(m:l8):Option ((List l8)×j6) :=
 ((p8 (fun s:(List l8)×Int=>a6J n m s.1 s.2) (([]:List l8),m.g8)).bind fun x=>x.go (fun r=>some r) fun s=>d4O n s)
theorem e7X{n m}:OK a8q [.agg (H0 n),.agg (t0 m)] (b6N n m) :=
 o7 _ fun r h=>n9<|tk 0 C0<|rg<|lp (e4t n m) h (fun _ h=>a8q.rt h) (f0P n r) fun hI=>om ((.own 4 0 13 0 0:V)=.own 4 0 13 0 ([]:List l8).length) (by simp)<|sk [.is (.tmp 5) (.own 4 0 13 0 ([]:List l8).length)] [2,3,5,6] [(1,0),(2,0),(4,0)] hI
def b8q:FS (j6×(List l8)×List n5):=⟨138,Tryz.f138,[.val B0 G9,.val [some 13] [],.val [some 5] []],[none,none],[.val B0 G9,.val C0 []],fun r=>.tup [.agg (H0 r.1),j9 13 t0 r.2.1,j9 5 z4 r.2.2],fun _=>[none,none],Tryz.func138⟩
def e8f:((List m7)×(List m4)×(List Bool)×(List Bool)×(List m4)×(List l8)×Int×Int×Int×Int×(List r9)×(List p6)×Int×Int×Bool×(List n8)×Bool×Int×Int×(List r9)×(List p6)×Int×Int×Int×Int×Int×(List m7)×Bool)->KS:=fun (Acc,a5,c9,a6,f0,out,nId,nAcc,nCur,nCur1,nCur2,nCur3,nCur4,nCur5,nBusy,nProg,nWant,nWant1,nWant2,nWant3,nWant4,nWant5,nWant6,nSeq,nPhase,nBal,nBest,nCur6)=>⟨b8q.k 5 [true],(bs 2 (.ptr 1 0 0::(bs 1 (.ptr 7 0 0::(bs 2 (j9 13 t0 out::(bs 77 []))))))),[some [.dead,.dead,.dead,.dead,.dead],some [.var 58 [vi nId,vi nAcc,.own 2 0 8 0 Acc.length,.own 3 0 7 0 a5.length,vi nSeq,vi nPhase,vi nBal,.own 4 0 1 0 c9.length,j9 8 q9 nBest,.b nCur6,vi nCur,vi nCur1,j9 2 v6 nCur2,j9 2 w8 nCur3,vi nCur4,vi nCur5,.own 5 0 1 0 a6.length,.b nBusy,j9 4 A0 nProg,.b nWant,vi nWant1,vi nWant2,j9 2 v6 nWant3,j9 2 w8 nWant4,vi nWant5,vi nWant6,.own 6 0 7 0 f0.length]],some [m6 158 8 q9 Acc],some [m6 56 7 s7 a5],some [m6 4 1 eB c9],some [m6 4 1 eB a6],some [m6 56 7 s7 f0],some [.var 58 [vi 0,vi 0,.nil,.nil,vi 0,vi 0,vi 0,.nil,.nil,.b false,vi 0,vi 0,.nil,.nil,vi 0,vi 0,.nil,.b false,.nil,.b false,vi 0,vi 0,.nil,.nil,vi 0,vi 0,.nil]]]⟩
def d27(Acc:List m7)(a5:List m4)(c9:List Bool)(a6:List Bool)(f0:List m4)(out:List l8)(nId:Int)(nAcc:Int)(nCur:Int)(nCur1:Int)(nCur2:List r9)(nCur3:List p6)(nCur4:Int)(nCur5:Int)(nBusy:Bool)(nProg:List n8)(nWant:Bool)(nWant1:Int)(nWant2:Int)(nWant3:List r9)(nWant4:List p6)(nWant5:Int)(nWant6:Int)(nSeq:Int)(nPhase:Int)(nBal:Int)(nBest:List m7)(nCur6:Bool):Option (j6×(List l8)×List n5) :=
 some ((j6.mk nId (z0.mk nAcc Acc) a5 nSeq nPhase nBal c9 nBest (m4.mk nCur6 (n7.mk nCur nCur1) (n6.mk nCur2 nCur3 nCur4 nCur5)) a6 nBusy nProg (m4.mk nWant (n7.mk nWant1 nWant2) (n6.mk nWant3 nWant4 nWant5 nWant6)) f0),out,([]:List n5))
theorem d9q(r):NF b8q r e8f (fun s=>d27 s.1 s.2.1 s.2.2.1 s.2.2.2.1 s.2.2.2.2.1 s.2.2.2.2.2.1 s.2.2.2.2.2.2.1 s.2.2.2.2.2.2.2.1 s.2.2.2.2.2.2.2.2.1 s.2.2.2.2.2.2.2.2.2.1 s.2.2.2.2.2.2.2.2.2.2.1 s.2.2.2.2.2.2.2.2.2.2.2.1 s.2.2.2.2.2.2.2.2.2.2.2.2.1 s.2.2.2.2.2.2.2.2.2.2.2.2.2.1 s.2.2.2.2.2.2.2.2.2.2.2.2.2.2.1 s.2.2.2.2.2.2.2.2.2.2.2.2.2.2.2.1 s.2.2.2.2.2.2.2.2.2.2.2.2.2.2.2.2.1 s.2.2.2.2.2.2.2.2.2.2.2.2.2.2.2.2.2.1 s.2.2.2.2.2.2.2.2.2.2.2.2.2.2.2.2.2.2.1 s.2.2.2.2.2.2.2.2.2.2.2.2.2.2.2.2.2.2.2.1 s.2.2.2.2.2.2.2.2.2.2.2.2.2.2.2.2.2.2.2.2.1 s.2.2.2.2.2.2.2.2.2.2.2.2.2.2.2.2.2.2.2.2.2.1 s.2.2.2.2.2.2.2.2.2.2.2.2.2.2.2.2.2.2.2.2.2.2.1 s.2.2.2.2.2.2.2.2.2.2.2.2.2.2.2.2.2.2.2.2.2.2.2.1 s.2.2.2.2.2.2.2.2.2.2.2.2.2.2.2.2.2.2.2.2.2.2.2.2.1 s.2.2.2.2.2.2.2.2.2.2.2.2.2.2.2.2.2.2.2.2.2.2.2.2.2.1 s.2.2.2.2.2.2.2.2.2.2.2.2.2.2.2.2.2.2.2.2.2.2.2.2.2.2.1 s.2.2.2.2.2.2.2.2.2.2.2.2.2.2.2.2.2.2.2.2.2.2.2.2.2.2.2):=fun (Acc,a5,c9,a6,f0,out,nId,nAcc,nCur,nCur1,nCur2,nCur3,nCur4,nCur5,nBusy,nProg,nWant,nWant1,nWant2,nWant3,nWant4,nWant5,nWant6,nSeq,nPhase,nBal,nBest,nCur6) h=>PK<|rg<|tk 2 []<|H1 Acc a5 c9 a6<|s6 f0<|A8 n5<|fE h
def b6G(n:j6)(m:l8):Option (j6×(List l8)×List n5) :=
 (((bif (m.a8==1) then ((b7L n m).bind fun L7=>some (l9.brk (L7.1.Acc.a6,L7.1.a5,L7.1.c9,L7.1.a6,L7.1.f0,L7.2,L7.1.Id,L7.1.Acc.g9,L7.1.d6.a0.b9,L7.1.d6.a0.Seq,L7.1.d6.b7.b5,L7.1.d6.b7.b6,L7.1.d6.b7.d9,L7.1.d6.b7.Code,L7.1.i9,L7.1.i6,L7.1.b8.i7,L7.1.b8.a0.b9,L7.1.b8.a0.Seq,L7.1.b8.b7.b5,L7.1.b8.b7.b6,L7.1.b8.b7.d9,L7.1.b8.b7.Code,L7.1.Seq,L7.1.d8,L7.1.a7,L7.1.i0,L7.1.d6.i7))) else (bif (m.a8==2) then ((b6s n m).bind fun M6=>some (l9.brk (M6.1.Acc.a6,M6.1.a5,M6.1.c9,M6.1.a6,M6.1.f0,M6.2,M6.1.Id,M6.1.Acc.g9,M6.1.d6.a0.b9,M6.1.d6.a0.Seq,M6.1.d6.b7.b5,M6.1.d6.b7.b6,M6.1.d6.b7.d9,M6.1.d6.b7.Code,M6.1.i9,M6.1.i6,M6.1.b8.i7,M6.1.b8.a0.b9,M6.1.b8.a0.Seq,M6.1.b8.b7.b5,M6.1.b8.b7.b6,M6.1.b8.b7.d9,M6.1.b8.b7.Code,M6.1.Seq,M6.1.d8,M6.1.a7,M6.1.i0,M6.1.d6.i7))) else (bif (m.a8==3) then ((b5t n m).bind fun L9=>some (l9.brk (L9.1.Acc.a6,L9.1.a5,L9.1.c9,L9.1.a6,L9.1.f0,L9.2,L9.1.Id,L9.1.Acc.g9,L9.1.d6.a0.b9,L9.1.d6.a0.Seq,L9.1.d6.b7.b5,L9.1.d6.b7.b6,L9.1.d6.b7.d9,L9.1.d6.b7.Code,L9.1.i9,L9.1.i6,L9.1.b8.i7,L9.1.b8.a0.b9,L9.1.b8.a0.Seq,L9.1.b8.b7.b5,L9.1.b8.b7.b6,L9.1.b8.b7.d9,L9.1.b8.b7.Code,L9.1.Seq,L9.1.d8,L9.1.a7,L9.1.i0,L9.1.d6.i7))) else (bif (m.a8==4) then ((b6l n m).bind fun b4F=>some (l9.ret (b4F.1,b4F.2.1,b4F.2.2))) else (bif (m.a8==5) then ((b6x n m).bind fun b4V=>some (l9.ret (b4V.1,b4V.2.1,b4V.2.2))) else (bif (m.a8==6) then ((a7z n.Acc m.a7).bind fun l6Promise=>((b2e (j6.mk n.Id l6Promise.1 n.a5 n.Seq n.d8 n.a7 n.c9 n.i0 n.d6 n.a6 n.i9 n.i6 n.b8 n.f0) m.a7).bind fun J8=>some (l9.brk (J8.Acc.a6,J8.a5,J8.c9,J8.a6,J8.f0,([]:List l8),J8.Id,J8.Acc.g9,J8.d6.a0.b9,J8.d6.a0.Seq,J8.d6.b7.b5,J8.d6.b7.b6,J8.d6.b7.d9,J8.d6.b7.Code,J8.i9,J8.i6,J8.b8.i7,J8.b8.a0.b9,J8.b8.a0.Seq,J8.b8.b7.b5,J8.b8.b7.b6,J8.b8.b7.d9,J8.b8.b7.Code,J8.Seq,J8.d8,J8.a7,J8.i0,J8.d6.i7)))) else (bif (m.a8==7) then ((b67 n m).bind fun L5=>some (l9.brk (L5.1.Acc.a6,L5.1.a5,L5.1.c9,L5.1.a6,L5.1.f0,L5.2,L5.1.Id,L5.1.Acc.g9,L5.1.d6.a0.b9,L5.1.d6.a0.Seq,L5.1.d6.b7.b5,L5.1.d6.b7.b6,L5.1.d6.b7.d9,L5.1.d6.b7.Code,L5.1.i9,L5.1.i6,L5.1.b8.i7,L5.1.b8.a0.b9,L5.1.b8.a0.Seq,L5.1.b8.b7.b5,L5.1.b8.b7.b6,L5.1.b8.b7.d9,L5.1.b8.b7.Code,L5.1.Seq,L5.1.d8,L5.1.a7,L5.1.i0,L5.1.d6.i7))) else (bif (m.a8==8) then ((b6N n m).bind fun S8=>(t5 (n.Acc.a6.length=S8.2.Acc.a6.length) ((t5 (n.a5.length=S8.2.a5.length) ((t5 (n.c9.length=S8.2.c9.length) ((t5 (n.a6.length=S8.2.a6.length) ((t5 (n.f0.length=S8.2.f0.length) (some (l9.brk (S8.2.Acc.a6,S8.2.a5,S8.2.c9,S8.2.a6,S8.2.f0,S8.1,n.Id,n.Acc.g9,n.d6.a0.b9,n.d6.a0.Seq,n.d6.b7.b5,n.d6.b7.b6,n.d6.b7.d9,n.d6.b7.Code,n.i9,n.i6,n.b8.i7,n.b8.a0.b9,n.b8.a0.Seq,n.b8.b7.b5,n.b8.b7.b6,n.b8.b7.d9,n.b8.b7.Code,n.Seq,n.d8,n.a7,n.i0,n.d6.i7))))))))))))) else some (l9.brk (n.Acc.a6,n.a5,n.c9,n.a6,n.f0,([]:List l8),n.Id,n.Acc.g9,n.d6.a0.b9,n.d6.a0.Seq,n.d6.b7.b5,n.d6.b7.b6,n.d6.b7.d9,n.d6.b7.Code,n.i9,n.i6,n.b8.i7,n.b8.a0.b9,n.b8.a0.Seq,n.b8.b7.b5,n.b8.b7.b6,n.b8.b7.d9,n.b8.b7.Code,n.Seq,n.d8,n.a7,n.i0,n.d6.i7)))))))))):Option (l9 (j6×(List l8)×List n5) ((List m7)×(List m4)×(List Bool)×(List Bool)×(List m4)×(List l8)×Int×Int×Int×Int×(List r9)×(List p6)×Int×Int×Bool×(List n8)×Bool×Int×Int×(List r9)×(List p6)×Int×Int×Int×Int×Int×(List m7)×Bool))).bind fun x=>x.go some fun j=>d27 j.1 j.2.1 j.2.2.1 j.2.2.2.1 j.2.2.2.2.1 j.2.2.2.2.2.1 j.2.2.2.2.2.2.1 j.2.2.2.2.2.2.2.1 j.2.2.2.2.2.2.2.2.1 j.2.2.2.2.2.2.2.2.2.1 j.2.2.2.2.2.2.2.2.2.2.1 j.2.2.2.2.2.2.2.2.2.2.2.1 j.2.2.2.2.2.2.2.2.2.2.2.2.1 j.2.2.2.2.2.2.2.2.2.2.2.2.2.1 j.2.2.2.2.2.2.2.2.2.2.2.2.2.2.1 j.2.2.2.2.2.2.2.2.2.2.2.2.2.2.2.1 j.2.2.2.2.2.2.2.2.2.2.2.2.2.2.2.2.1 j.2.2.2.2.2.2.2.2.2.2.2.2.2.2.2.2.2.1 j.2.2.2.2.2.2.2.2.2.2.2.2.2.2.2.2.2.2.1 j.2.2.2.2.2.2.2.2.2.2.2.2.2.2.2.2.2.2.2.1 j.2.2.2.2.2.2.2.2.2.2.2.2.2.2.2.2.2.2.2.2.1 j.2.2.2.2.2.2.2.2.2.2.2.2.2.2.2.2.2.2.2.2.2.1 j.2.2.2.2.2.2.2.2.2.2.2.2.2.2.2.2.2.2.2.2.2.2.1 j.2.2.2.2.2.2.2.2.2.2.2.2.2.2.2.2.2.2.2.2.2.2.2.1 j.2.2.2.2.2.2.2.2.2.2.2.2.2.2.2.2.2.2.2.2.2.2.2.2.1 j.2.2.2.2.2.2.2.2.2.2.2.2.2.2.2.2.2.2.2.2.2.2.2.2.2.1 j.2.2.2.2.2.2.2.2.2.2.2.2.2.2.2.2.2.2.2.2.2.2.2.2.2.2.1 j.2.2.2.2.2.2.2.2.2.2.2.2.2.2.2.2.2.2.2.2.2.2.2.2.2.2.2)
set_option maxRecDepth 20000 in
theorem f2M{n m}:OK b8q [.agg (H0 n),.agg (t0 m)] (b6G n m) :=
 o7 _ fun r h=>n9<|tk 0 C0<|rg<|A7 h (d9q r) fun x1 h hc1=>rg<|j5 1 h (fun h=>rg<|j8 d5e e6g 2 h fun L7 h=>A2 n<|(p7 h hc1 fun hI=>sk [] [2,4,7] [(1,0),(14,0),(14,1),(14,2),(14,3),(14,4),(3,0)] hI)) (fun h=>rg<|j5 1 h (fun h=>rg<|j8 c8d e2l 2 h fun M6 h=>A2 n<|(p7 h hc1 fun hI=>sk [] [2,4,7] [(1,0),(16,0),(16,1),(16,2),(16,3),(16,4),(3,0)] hI)) (fun h=>rg<|j5 1 h (fun h=>rg<|j8 d57 d9B 2 h fun L9 h=>A2 n<|(p7 h hc1 fun hI=>sk [] [2,4,7] [(1,0),(18,0),(18,1),(18,2),(18,3),(18,4),(3,0)] hI)) (fun h=>rg<|j5 1 h (fun h=>rg<|j8 d26 e5F 2 h fun b4F h=>A2 n<|(C1 h hc1 fun h=>A2 b4F.1<|fE h)) (fun h=>rg<|j5 1 h (fun h=>rg<|j8 c6n d7G 2 h fun b4V h=>A2 n<|(C1 h hc1 fun h=>A2 b4V.1<|fE h)) (fun h=>rg<|j5 1 h (fun h=>rg<|j8 b4d b7J 4 h fun l6Promise h=>s6 n.Acc.a6<|n9<|j8 b4J d5v 3 h fun J8 h=>s6 l6Promise.1.a6<|J2 n<|(p7 h hc1 fun hI=>A8 l8<|sk [.frz (.tmp 7) (none)] [2,4,7] [(1,0),(39,0),(39,1),(39,2),(39,3),(39,4),(3,0)] hI)) (fun h=>rg<|j5 1 h (fun h=>rg<|j8 c6q e7e 2 h fun L5 h=>A2 n<|(p7 h hc1 fun hI=>sk [] [2,4,7] [(1,0),(26,0),(26,1),(26,2),(26,3),(26,4),(3,0)] hI)) (fun h=>rg<|j5 1 h (fun h=>rg<|j8 a8q e7X 2 h fun S8 h=>t8 h fun e1 h=>t8 h fun e2 h=>t8 h fun e3 h=>t8 h fun e4 h=>t8 h fun e5 h=>A2 n<|(p7 h hc1 fun hI=>om ((.own 0 0 8 0 n.Acc.a6.length:V)=.own 0 0 8 0 S8.2.Acc.a6.length) (by first|(simp;done)|(simp [e1,e2,e3,e4,e5];done))<|om ((.own 0 1 7 0 n.a5.length:V)=.own 0 1 7 0 S8.2.a5.length) (by first|(simp;done)|(simp [e1,e2,e3,e4,e5];done))<|om ((.own 0 2 1 0 n.c9.length:V)=.own 0 2 1 0 S8.2.c9.length) (by first|(simp;done)|(simp [e1,e2,e3,e4,e5];done))<|om ((.own 0 3 1 0 n.a6.length:V)=.own 0 3 1 0 S8.2.a6.length) (by first|(simp;done)|(simp [e1,e2,e3,e4,e5];done))<|om ((.own 0 4 7 0 n.f0.length:V)=.own 0 4 7 0 S8.2.f0.length) (by first|(simp;done)|(simp [e1,e2,e3,e4,e5];done))<|sk [.is (.cell 1 0 2) (.own 0 0 8 0 S8.2.Acc.a6.length),.is (.cell 1 0 3) (.own 0 1 7 0 S8.2.a5.length),.is (.cell 1 0 7) (.own 0 2 1 0 S8.2.c9.length),.is (.cell 1 0 16) (.own 0 3 1 0 S8.2.a6.length),.is (.cell 1 0 26) (.own 0 4 7 0 S8.2.f0.length)] [2,4,7] [(1,0),(0,0),(0,1),(0,2),(0,3),(0,4),(3,0)] hI)) (fun h=>(p7 h hc1 fun hI=>A8 l8<|sk [.frz (.tmp 7) (none)] [2,4,7] [(1,0),(0,0),(0,1),(0,2),(0,3),(0,4),(3,0)] hI)))))))))
def a17:FS (m5):=⟨84,Tryz.f84,[.val E0 T2],[none,none],[.val E0 T2,.val [some 5] []],fun r=>.agg (T1 r),fun _=>[none,none],Tryz.func84⟩
def c8t(w:m5):(List n5)->KS:=fun Told1=>⟨a17.k 3 [false],(bs 2 (.ptr 1 0 0::(bs 1 (.ptr 3 0 0::(bs 23 []))))),[some [C3 58 27 z6 w.a9,m6 66 13 t0 w.c8,m6 68 3 B3 w.d7,.dead],some [.var 30 [.own 0 0 27 0 w.a9.length,.own 0 1 13 0 w.c8.length,.own 0 2 3 0 w.d7.length,.own 2 0 5 0 Told1.length]],some [m6 62 5 z4 Told1],some [.var 30 [.nil,.nil,.nil,.nil]]]⟩
def d6l(w:m5)(Told1:List n5):Option m5 :=
 some (m5.mk w.a9 w.c8 w.d7 Told1)
theorem e3E(w)(r):NF a17 r (c8t w) (fun s=>d6l w s):=fun Told1 h=>PK<|rg<|H1 w.a9 w.c8 w.d7 Told1<|fE h
def e61(w:m5)(list:List n5):((List n5)×Int)->KS:=fun (Told,i)=>⟨a17.k 2 [],(bs 1 (j9 5 z4 list::(.ptr 1 0 0::(bs 1 (.ptr 2 0 0::(vi i::(bs 22 []))))))),[some [C3 58 27 z6 w.a9,m6 66 13 t0 w.c8,m6 68 3 B3 w.d7,.dead],some [.var 30 [.own 0 0 27 0 w.a9.length,.own 0 1 13 0 w.c8.length,.own 0 2 3 0 w.d7.length,.own 3 0 5 0 Told.length]],some [.var 30 [.nil,.nil,.nil,.nil]],some [m6 62 5 z4 Told]]⟩
def a27(list:List n5)(Told:List n5)(i:Int):Option (l7 m5 ((List n5)×Int) (List n5)) :=
 (bif decide (i<(list.length:Int)) then (bif decide ((Told.length:Int)<60) then ((idx list i).bind fun told=>(t5 ((Told.length+1)*40<=140737488355328) (some (l7.nxt (Told++[told],m8 (i+1)))))) else some (l7.brk Told)) else some (l7.brk Told))
theorem e89(w list):LQ a17 (c8t w) (e61 w list) (fun s=>a27 list s.1 s.2):=fun lc (Told,i) h=>PK<|rg<|j5 4 h (fun h=>j5 9 h (fun h=>rg<|v5 z4 4 h fun told a3Q h=>tk 6 []<|t8 h fun e1 h=>F6 7 21 62 5 40 z4 Told told e1<|E4 told<|rg<|(lc.nx h fun hI=>sk [] [1,2,4,5] [(1,0),(2,0),(21,0)] hI)) (fun h=>(lc.bk h fun hI=>sk [] [2,4] [(1,0),(3,0),(2,0)] hI))) (fun h=>(lc.bk h fun hI=>sk [] [2,4] [(1,0),(3,0),(2,0)] hI))
def a3W(w:m5)(list:List n5):Option m5 :=
 ((p8 (fun s:(List n5)×Int=>a27 list s.1 s.2) (w.Told,0)).bind fun x=>x.go (fun r=>some r) fun s=>d6l w s)
theorem a76{w list}:OK a17 [.agg (T1 w),j9 5 z4 list] (a3W w list) :=
 o7 _ fun r h=>n9<|lp (e89 w list) h (fun _ h=>a17.rt h) (e3E w r) fun hI=>sk [] [1,2,4,5] [(1,0),(2,0),(0,3)] hI
def b9J:FS (m5):=⟨79,Tryz.f79,[.val E0 T2],[none,none],[.val E0 T2,.val [none,none,some 4] []],fun r=>.agg (T1 r),fun _=>[none,none],Tryz.func79⟩
def b3J(node:j6):List V:=([vi node.Id,vi node.Acc.g9,.own 40 0 8 0 node.Acc.a6.length,.own 40 1 7 0 node.a5.length,vi node.Seq,vi node.d8,vi node.a7,.own 40 2 1 0 node.c9.length]++a6n node++[.own 40 3 1 0 node.a6.length]++a3w node++[.own 40 4 7 0 node.f0.length])
def c8u(a2d:j6×(List l8)×List n5):List V:=(a50 a2d.1)
def a97(w:m5)(e_:s5):Option m5 :=
 (bif decide (e_.A<0) then some w else (bif decide (e_.A>=(w.c8.length:Int)) then some w else ((idx w.c8 e_.A).bind fun msg=>((a7J msg).bind fun G3=>(bif (e_.a8==4) then ((a2Q w [G3]).bind fun a2U=>some a2U) else (bif (e_.a8==3) then ((b4t w e_.A).bind fun c2p=>some c2p) else ((b4t w e_.A).bind fun a0b=>((idx a0b.a9 G3.To).bind fun node=>((b6G node G3).bind fun a2d=>((a2Q (m5.mk (a0b.a9.set G3.To.toNat a2d.1) a0b.c8 a0b.d7 a0b.Told) a2d.2.1).bind fun a2P=>((a3W a2P a2d.2.2).bind fun a3b=>some a3b)))))))))))
set_option maxRecDepth 20000 in
theorem c4t{w e_}:OK b9J [.agg (T1 w),.agg (H3 e_)] (a97 w e_) :=
 o7 _ fun r h=>n9<|j5 3 h (fun h=>rg<|B2 w<|fE h) (fun h=>j5 10 h (fun h=>rg<|B2 w<|fE h) (fun h=>rg<|A9 h fun msg hmsg h=>B9 hmsg<|H9 t0 5 hmsg<|j8 b2v b9m 6 h fun G3 h=>n9<|j5 1 h (fun h=>rg<|tk 2 C0<|j8 a05 a7f 3 h fun a2U h=>B2 w<|E4 G3<|B2 a2U<|fE h) (fun h=>rg<|j5 1 h (fun h=>rg<|j8 c2w c7z 3 h fun c2p h=>B2 w<|B2 c2p<|fE h) (fun h=>rg<|j8 c2w c7z 3 h fun a0b h=>B2 w<|rg<|A9 h fun node hnode h=>B9 hnode<|ob (b4R (enc:=z6) hnode)<|tl (5,{a:=.drow (z6 node)})<|j8 b8q f2M 7 h fun a2d h=>A2 node<|rg<|B9 hnode<|om (s8.deep false 58 27 a0b.a9.length (((a0b.a9.map z6).set (0+G3.To.toNat) (b3J node)).set (0+G3.To.toNat) (c8u a2d))=C3 58 27 z6 (a0b.a9.set G3.To.toNat a2d.1)) (a7K (W2 (a0I rfl)) (by simp))<|om (H8 (((a0b.a9.map z6).set (0+G3.To.toNat) (b3J node)).set (0+G3.To.toNat) (c8u a2d))) (a8u (W2 (a0I rfl)) a6t)<|om (((a0b.a9.map z6).set (0+G3.To.toNat) (b3J node))[0+G3.To.toNat]?=some (b3J node)) (a1U (a1V hnode))<|A2 a2d.1<|tl (6,{a:=.dsc (b3J node) [none,none,some 8,some 7,none,none,none,some 1,some 8,none,none,none,some 2,some 2,none,none,some 1,none,some 4,none,none,none,some 2,some 2,none,none,some 7] [none,none,some 158,some 56,none,none,none,some 4,none,none,none,none,none,none,none,none,some 4,none,none,none,none,none,none,none,none,none,some 56],e:=some (C3 58 27 z6 (a0b.a9.set G3.To.toNat a2d.1))})<|rg<|j8 a05 a7f 2 h fun a2P h=>om (a0b.a9.length=(a0b.a9.set G3.To.toNat a2d.1).length) (by simp)<|W7 a0b.c8 a0b.d7 a0b.Told<|j8 a17 a76 4 h fun a3b h=>B2 a2P<|B2 a3b<|fE h))))
def d2M:FS (Bool):=⟨187,Tryz.f187,[.val [] []],[none],[.val V5 []],fun r=>.b r,fun _=>[none],Tryz.func187⟩
def b8s(v_:m7):Option Bool :=
 (bif (v_.a7==0) then (bif (!v_.i4.i7) then (bif (([v_.i4.a0.b9,v_.i4.a0.Seq]:List Int)==[0,0]) then ((b0T v_.i4.b7 (n6.mk [] [] 0 0)).bind fun a3c=>some a3c) else some false) else some false) else ((a1i v_.a7).bind fun a0d=>(bif a0d then ((a1e v_.i4).bind fun E5=>some E5) else some false)))
theorem e5V{v_}:OK d2M [.agg (q9 v_)] (b8s v_) :=
 o7 _ fun r h=>n9<|j5 2 h (fun h=>rg<|j5 4 h (fun h=>j5 11 h (fun h=>j8 a08 c1c 16 h fun a3c h=>fE h) (fun h=>fE h)) (fun h=>fE h)) (fun h=>rg<|j8 a10 a2f 2 h fun a0d h=>j5 3 h (fun h=>j8 a2c a2L 6 h fun E5 h=>fE h) (fun h=>fE h))
def a2W:FS (Bool):=⟨131,Tryz.f131,[.val [] []],[none],[.val [some 8] []],fun r=>.b r,fun _=>[none],Tryz.func131⟩
def c6p:Unit->KS:=fun _=>⟨a2W.k 4 [false,false],(bs 19 []),[some []]⟩
def c6B:Option Bool :=
 some true
theorem f2F(r):NF a2W r c6p (fun s=>c6B):=fun _ h=>PK<|rg<|fE h
def f0y(list:List m7):Int->KS:=fun i=>⟨a2W.k 3 [false],(j9 8 q9 list::(bs 2 (vi i::(bs 15 [])))),[some []]⟩
def b9f(list:List m7)(i:Int):Option (l7 Bool Int Unit) :=
 (bif decide (i<(list.length:Int)) then ((idx list i).bind fun vote=>((b8s vote).bind fun d3l=>(bif (!d3l) then some (l7.ret false) else some (l7.nxt (m8 (i+1)))))) else some (l7.brk ()))
theorem e3k(list):LQ a2W c6p (f0y list) (fun s=>b9f list s):=fun lc i h=>PK<|rg<|j5 3 h (fun h=>rg<|v5 q9 2 h fun vote N7 h=>j8 d2M e5V 4 h fun d3l h=>j5 5 h (fun h=>rg<|fL lc h) (fun h=>rg<|(lc.nx h fun hI=>sk [] [0,3] [] hI))) (fun h=>(lc.bk h fun hI=>sk [] [] [] hI))
def a7m(list:List m7):Option Bool :=
 (bif decide ((list.length:Int)>40) then some false else ((p8 (fun s:Int=>b9f list s) 0).bind fun x=>x.go (fun r=>some r) fun s=>c6B))
theorem b2i{list}:OK a2W [j9 8 q9 list] (a7m list) :=
 o7 _ fun r h=>n9<|j5 2 h (fun h=>rg<|fE h) (fun h=>rg<|lp (e3k list) h (fun _ h=>a2W.rt h) (f2F r) fun hI=>sk [] [0,3] [] hI)
def a8I:FS (Bool):=⟨126,Tryz.f126,[.val [] []],[none],[.val [none,some 8] []],fun r=>.b r,fun _=>[none],Tryz.func126⟩
def d3n:Unit->KS:=fun _=>⟨a8I.k 4 [false,false],(bs 34 []),[some []]⟩
def c6v:Option Bool :=
 some true
theorem e77(r):NF a8I r d3n (fun s=>c6v):=fun _ h=>PK<|rg<|fE h
def e4E(a:z0):Int->KS:=fun i=>⟨a8I.k 3 [false],(bs 1 (.ptr 1 0 0::(bs 1 (vi i::(bs 30 []))))),[some [],some [.var 46 [vi a.g9,j9 8 q9 a.a6]]]⟩
def b9e(a:z0)(i:Int):Option (l7 Bool Int Unit) :=
 (bif decide (i<(a.a6.length:Int)) then ((idx a.a6 i).bind fun vote=>(bif decide (vote.a7>a.g9) then some (l7.ret false) else some (l7.nxt (m8 (i+1))))) else some (l7.brk ()))
theorem f00(a):LQ a8I d3n (e4E a) (fun s=>b9e a s):=fun lc i h=>PK<|rg<|j5 4 h (fun h=>rg<|v5 q9 3 h fun vote N7 h=>j5 8 h (fun h=>rg<|fL lc h) (fun h=>rg<|(lc.nx h fun hI=>sk [] [1,3] [(1,0)] hI))) (fun h=>(lc.bk h fun hI=>sk [] [] [] hI))
def b5k(a:z0):Option Bool :=
 (bif decide (a.g9<0) then some false else (bif decide (a.g9>3000) then some false else ((a7m a.a6).bind fun a63=>(bif (!a63) then some false else ((p8 (fun s:Int=>b9e a s) 0).bind fun x=>x.go (fun r=>some r) fun s=>c6v)))))
theorem f1q{a}:OK a8I [.agg (Z4 a)] (b5k a) :=
 o7 _ fun r h=>n9<|j5 3 h (fun h=>rg<|fE h) (fun h=>j5 8 h (fun h=>rg<|fE h) (fun h=>j8 a2W b2i 11 h fun a63 h=>j5 13 h (fun h=>rg<|fE h) (fun h=>rg<|lp (f00 a) h (fun _ h=>a8I.rt h) (e77 r) fun hI=>sk [] [1,3] [(1,0)] hI)))
def a6k:FS (Bool):=⟨102,Tryz.f102,[.val [] []],[none],[.val [some 7] []],fun r=>.b r,fun _=>[none],Tryz.func102⟩
def d6i:Unit->KS:=fun _=>⟨a6k.k 4 [false,false],(bs 19 []),[some []]⟩
def d16:Option Bool :=
 some true
theorem e20(r):NF a6k r d6i (fun s=>d16):=fun _ h=>PK<|rg<|fE h
def e93(list:List m4):Int->KS:=fun i=>⟨a6k.k 3 [false],(j9 7 s7 list::(bs 2 (vi i::(bs 15 [])))),[some []]⟩
def b7X(list:List m4)(i:Int):Option (l7 Bool Int Unit) :=
 (bif decide (i<(list.length:Int)) then ((idx list i).bind fun entry=>((a1e entry).bind fun E5=>(bif (!E5) then some (l7.ret false) else some (l7.nxt (m8 (i+1)))))) else some (l7.brk ()))
theorem f4s(list):LQ a6k d6i (e93 list) (fun s=>b7X list s):=fun lc i h=>PK<|rg<|j5 3 h (fun h=>rg<|v5 s7 2 h fun entry F8 h=>j8 a2c a2L 4 h fun E5 h=>j5 5 h (fun h=>rg<|fL lc h) (fun h=>rg<|(lc.nx h fun hI=>sk [] [0,3] [] hI))) (fun h=>(lc.bk h fun hI=>sk [] [] [] hI))
def b1H(list:List m4):Option Bool :=
 (bif decide ((list.length:Int)>40) then some false else ((p8 (fun s:Int=>b7X list s) 0).bind fun x=>x.go (fun r=>some r) fun s=>d16))
theorem c7E{list}:OK a6k [j9 7 s7 list] (b1H list) :=
 o7 _ fun r h=>n9<|j5 2 h (fun h=>rg<|fE h) (fun h=>rg<|lp (f4s list) h (fun _ h=>a6k.rt h) (e20 r) fun hI=>sk [] [0,3] [] hI)
def a9o:FS (Bool):=⟨129,Tryz.f129,[.val [] []],[none],[.val K6 []],fun r=>.b r,fun _=>[none],Tryz.func129⟩
def a4W(e_:m4):Option Bool :=
 (bif (!e_.i7) then (bif (([e_.a0.b9,e_.a0.Seq]:List Int)==[0,0]) then ((b0T e_.b7 (n6.mk [] [] 0 0)).bind fun a3c=>some a3c) else some false) else some false)
theorem b03{e_}:OK a9o [.agg (s7 e_)] (a4W e_) :=
 o7 _ fun r h=>n9<|j5 3 h (fun h=>j5 9 h (fun h=>j8 a08 c1c 13 h fun a3c h=>fE h) (fun h=>fE h)) (fun h=>fE h)
def b6K:FS (Int):=⟨186,Tryz.f186,[.val [] []],[none],[.val [] []],fun r=>vi r,fun _=>[none],Tryz.func186⟩
def b0r(bal:Int):Option Int :=
 ((a1i bal).bind fun a0d=>(bif (!a0d) then some (-1) else some (f5K bal 3)))
theorem c4T{bal}:OK b6K [vi bal] (b0r bal) :=
 o7 _ fun r h=>n9<|j8 a10 a2f 1 h fun a0d h=>j5 2 h (fun h=>rg<|fE h) (fun h=>rg<|om (3≠(0:Int)) (by decide)<|fE h)
def c9m:FS (Bool):=⟨127,Tryz.f127,[.val [] []],[none],[.val B0 []],fun r=>.b r,fun _=>[none],Tryz.func127⟩
def b41(n:j6):Option Bool :=
 (bif (n.d8==0) then (bif (n.a7==0) then (bif ((n.c9.length:Int)==0) then (bif ((n.i0.length:Int)==0) then ((a4W n.d6).bind fun l7None=>(bif l7None then some ((n.a6.length:Int)==0) else some false)) else some false) else some false) else some false) else (bif (n.d8==1) then ((a1i n.a7).bind fun a0d=>(bif a0d then (bif decide (n.a7<=n.Acc.g9) then ((b0r n.a7).bind fun a5L=>(bif (a5L==n.Id) then (bif ((n.c9.length:Int)==3) then ((idx n.c9 n.Id).bind fun y=>(bif y then ((a7m n.i0).bind fun a63=>(bif a63 then ((a4W n.d6).bind fun c9L=>(bif c9L then some ((n.a6.length:Int)==0) else some false)) else some false)) else some false)) else some false) else some false)) else some false) else some false)) else (bif (n.d8==2) then ((a1i n.a7).bind fun b4q=>(bif (!b4q) then some false else (bif decide (n.a7>n.Acc.g9) then some false else ((b0r n.a7).bind fun d0G=>(bif (d0G != n.Id) then some false else (bif ((n.c9.length:Int) != 0) then some false else ((a7m n.i0).bind fun c7n=>(bif (!c7n) then some false else (bif (n.d8==2) then ((a4W n.d6).bind fun d5R=>(bif d5R then some ((n.a6.length:Int)==0) else some false)) else ((a1e n.d6).bind fun E5=>(bif E5 then (bif ((n.a6.length:Int)==3) then ((idx n.a6 n.Id).bind fun y1=>(bif y1 then some (decide ((n.a5.length:Int)<40)) else some false)) else some false) else some false))))))))))) else (bif (n.d8==3) then ((a1i n.a7).bind fun b2a=>(bif (!b2a) then some false else (bif decide (n.a7>n.Acc.g9) then some false else ((b0r n.a7).bind fun c8r=>(bif (c8r != n.Id) then some false else (bif ((n.c9.length:Int) != 0) then some false else ((a7m n.i0).bind fun d06=>(bif (!d06) then some false else (bif (n.d8==2) then ((a4W n.d6).bind fun c8g=>(bif c8g then some ((n.a6.length:Int)==0) else some false)) else ((a1e n.d6).bind fun a29=>(bif a29 then (bif ((n.a6.length:Int)==3) then ((idx n.a6 n.Id).bind fun y2=>(bif y2 then some (decide ((n.a5.length:Int)<40)) else some false)) else some false) else some false))))))))))) else some false))))
set_option maxRecDepth 20000 in
theorem d8T{n}:OK c9m [.agg (A6 n)] (b41 n) :=
 o7 _ fun r h=>N1<|j5 1 h (fun h=>rg<|j5 3 h (fun h=>j5 9 h (fun h=>j5 15 h (fun h=>j8 a9o b03 18 h fun l7None h=>j5 20 h (fun h=>fE h) (fun h=>fE h)) (fun h=>fE h)) (fun h=>fE h)) (fun h=>fE h)) (fun h=>rg<|j5 1 h (fun h=>rg<|j8 a10 a2f 2 h fun a0d h=>j5 3 h (fun h=>j5 11 h (fun h=>j8 b6K c4T 14 h fun a5L h=>j5 19 h (fun h=>j5 25 h (fun h=>v5 eB 30 h fun y hy h=>j5 33 h (fun h=>j8 a2W b2i 36 h fun a63 h=>j5 38 h (fun h=>j8 a9o b03 41 h fun c9L h=>j5 43 h (fun h=>fE h) (fun h=>fE h)) (fun h=>fE h)) (fun h=>fE h)) (fun h=>fE h)) (fun h=>fE h)) (fun h=>fE h)) (fun h=>fE h)) (fun h=>rg<|j5 1 h (fun h=>rg<|j8 a10 a2f 2 h fun b4q h=>j5 4 h (fun h=>rg<|fE h) (fun h=>j5 12 h (fun h=>rg<|fE h) (fun h=>j8 b6K c4T 15 h fun d0G h=>j5 20 h (fun h=>rg<|fE h) (fun h=>j5 26 h (fun h=>rg<|fE h) (fun h=>j8 a2W b2i 29 h fun c7n h=>j5 31 h (fun h=>rg<|fE h) (fun h=>rg<|j5 2 h (fun h=>rg<|j8 a9o b03 2 h fun d5R h=>j5 3 h (fun h=>fE h) (fun h=>fE h)) (fun h=>rg<|j8 a2c a2L 2 h fun E5 h=>j5 3 h (fun h=>j5 9 h (fun h=>v5 eB 14 h fun y1 hy1 h=>j5 17 h (fun h=>fE h) (fun h=>fE h)) (fun h=>fE h)) (fun h=>fE h)))))))) (fun h=>rg<|j5 1 h (fun h=>rg<|j8 a10 a2f 2 h fun b2a h=>j5 4 h (fun h=>rg<|fE h) (fun h=>j5 12 h (fun h=>rg<|fE h) (fun h=>j8 b6K c4T 15 h fun c8r h=>j5 20 h (fun h=>rg<|fE h) (fun h=>j5 26 h (fun h=>rg<|fE h) (fun h=>j8 a2W b2i 29 h fun d06 h=>j5 31 h (fun h=>rg<|fE h) (fun h=>rg<|j5 2 h (fun h=>rg<|j8 a9o b03 2 h fun c8g h=>j5 3 h (fun h=>fE h) (fun h=>fE h)) (fun h=>rg<|j8 a2c a2L 2 h fun a29 h=>j5 3 h (fun h=>j5 9 h (fun h=>v5 eB 14 h fun y2 hy2 h=>j5 17 h (fun h=>fE h) (fun h=>fE h)) (fun h=>fE h)) (fun h=>fE h)))))))) (fun h=>rg<|fE h))))
def a3U:FS (Bool):=⟨188,Tryz.f188,[.val [] []],[none],[.val [] []],fun r=>.b r,fun _=>[none],Tryz.func188⟩
def a2u(n:Int):Option Bool :=
 (bif decide (n>=0) then some (decide (n<4)) else some false)
theorem a5a{n}:OK a3U [vi n] (a2u n) :=
 o7 _ fun r h=>n9<|j5 2 h (fun h=>fE h) (fun h=>fE h)
def d6M:FS (Bool):=⟨132,Tryz.f132,[.val [] []],[none],[.val [] []],fun r=>.b r,fun _=>[none],Tryz.func132⟩
def b8S(i:n8):Option Bool :=
 (bif (i.a8==1) then ((a2u i.A).bind fun c7k=>(bif c7k then ((a7s i.B).bind fun b3X=>(bif b3X then some (i.N==0) else some false)) else some false)) else (bif (i.a8==2) then ((a7s i.A).bind fun b2m=>(bif b2m then ((a2u i.B).bind fun c6P=>(bif c6P then some (i.N==0) else some false)) else some false)) else (bif (i.a8==3) then ((a2u i.A).bind fun c7v=>(bif c7v then (bif (i.B==0) then ((a6I i.N).bind fun a04=>some a04) else some false) else some false)) else (bif (i.a8==4) then ((a2u i.A).bind fun d2b=>(bif d2b then ((a2u i.B).bind fun c7Q=>(bif c7Q then some (i.N==0) else some false)) else some false)) else (bif (i.a8==5) then ((a2u i.A).bind fun d12=>(bif d12 then ((a2u i.B).bind fun d4E=>(bif d4E then some (i.N==0) else some false)) else some false)) else (bif (i.a8==6) then ((a2u i.A).bind fun d5M=>(bif d5M then ((a2u i.B).bind fun d1m=>(bif d1m then (bif decide (i.N>=1) then some (decide (i.N<=10)) else some false) else some false)) else some false)) else (bif (i.a8==7) then (bif (i.A==0) then (bif (i.B==0) then some (i.N==0) else some false) else some false) else some false)))))))
theorem e3w{i}:OK d6M [.agg (A0 i)] (b8S i) :=
 o7 _ fun r h=>N1<|j5 1 h (fun h=>rg<|j8 a3U a5a 2 h fun c7k h=>j5 3 h (fun h=>j8 b4T b5Y 6 h fun b3X h=>j5 8 h (fun h=>fE h) (fun h=>fE h)) (fun h=>fE h)) (fun h=>rg<|j5 1 h (fun h=>rg<|j8 b4T b5Y 2 h fun b2m h=>j5 3 h (fun h=>j8 a3U a5a 6 h fun c6P h=>j5 8 h (fun h=>fE h) (fun h=>fE h)) (fun h=>fE h)) (fun h=>rg<|j5 1 h (fun h=>rg<|j8 a3U a5a 2 h fun c7v h=>j5 3 h (fun h=>j5 8 h (fun h=>j8 a7L a9A 11 h fun a04 h=>fE h) (fun h=>fE h)) (fun h=>fE h)) (fun h=>rg<|j5 1 h (fun h=>rg<|j8 a3U a5a 2 h fun d2b h=>j5 3 h (fun h=>j8 a3U a5a 6 h fun c7Q h=>j5 8 h (fun h=>fE h) (fun h=>fE h)) (fun h=>fE h)) (fun h=>rg<|j5 1 h (fun h=>rg<|j8 a3U a5a 2 h fun d12 h=>j5 3 h (fun h=>j8 a3U a5a 6 h fun d4E h=>j5 8 h (fun h=>fE h) (fun h=>fE h)) (fun h=>fE h)) (fun h=>rg<|j5 1 h (fun h=>rg<|j8 a3U a5a 2 h fun d5M h=>j5 3 h (fun h=>j8 a3U a5a 6 h fun d1m h=>j5 8 h (fun h=>j5 13 h (fun h=>fE h) (fun h=>fE h)) (fun h=>fE h)) (fun h=>fE h)) (fun h=>rg<|j5 1 h (fun h=>rg<|j5 3 h (fun h=>j5 8 h (fun h=>fE h) (fun h=>fE h)) (fun h=>fE h)) (fun h=>rg<|fE h)))))))
def a5b:FS (Bool):=⟨75,Tryz.f75,[.val [] []],[none],[.val [some 4] []],fun r=>.b r,fun _=>[none],Tryz.func75⟩
def c9d:Unit->KS:=fun _=>⟨a5b.k 4 [false,false],(bs 19 []),[some []]⟩
def d2q:Option Bool :=
 some true
theorem f3z(r):NF a5b r c9d (fun s=>d2q):=fun _ h=>PK<|rg<|fE h
def e8i(list:List n8):Int->KS:=fun i=>⟨a5b.k 3 [false],(j9 4 A0 list::(bs 2 (vi i::(bs 15 [])))),[some []]⟩
def b5u(list:List n8)(i:Int):Option (l7 Bool Int Unit) :=
 (bif decide (i<(list.length:Int)) then ((idx list i).bind fun ins=>((b8S ins).bind fun c74=>(bif (!c74) then some (l7.ret false) else some (l7.nxt (m8 (i+1)))))) else some (l7.brk ()))
theorem d9p(list):LQ a5b c9d (e8i list) (fun s=>b5u list s):=fun lc i h=>PK<|rg<|j5 3 h (fun h=>rg<|v5 A0 2 h fun ins hins h=>j8 d6M e3w 4 h fun c74 h=>j5 5 h (fun h=>rg<|fL lc h) (fun h=>rg<|(lc.nx h fun hI=>sk [] [0,3] [] hI))) (fun h=>(lc.bk h fun hI=>sk [] [] [] hI))
def a9K(list:List n8):Option Bool :=
 (bif decide ((list.length:Int)>10) then some false else ((p8 (fun s:Int=>b5u list s) 0).bind fun x=>x.go (fun r=>some r) fun s=>d2q))
theorem c1P{list}:OK a5b [j9 4 A0 list] (a9K list) :=
 o7 _ fun r h=>n9<|j5 2 h (fun h=>rg<|fE h) (fun h=>rg<|lp (d9p list) h (fun _ h=>a5b.rt h) (f3z r) fun hI=>sk [] [0,3] [] hI)
def d2s:FS (Bool):=⟨128,Tryz.f128,[.val [] []],[none],[.val B0 []],fun r=>.b r,fun _=>[none],Tryz.func128⟩
def b49(n:j6):Option Bool :=
 (bif (!n.i9) then (bif ((n.i6.length:Int)==0) then ((a4W n.b8).bind fun l7None=>some l7None) else some false) else ((a9K n.i6).bind fun E2=>(bif E2 then ((a1e n.b8).bind fun E5=>(bif E5 then (bif (!n.b8.i7) then some (([n.b8.a0.b9,n.b8.a0.Seq]:List Int)==[n.Id,n.Seq]) else some false) else some false)) else some false)))
theorem e5z{n}:OK d2s [.agg (A6 n)] (b49 n) :=
 o7 _ fun r h=>n9<|j5 2 h (fun h=>rg<|j5 4 h (fun h=>j8 a9o b03 7 h fun l7None h=>fE h) (fun h=>fE h)) (fun h=>rg<|j8 a5b c1P 2 h fun E2 h=>j5 3 h (fun h=>j8 a2c a2L 6 h fun E5 h=>j5 8 h (fun h=>j5 14 h (fun h=>fE h) (fun h=>fE h)) (fun h=>fE h)) (fun h=>fE h))
def a2z:FS (Bool):=⟨72,Tryz.f72,[.val [] []],[none],[.val B0 []],fun r=>.b r,fun _=>[none],Tryz.func72⟩
def d1K:Unit->KS:=fun _=>⟨a2z.k 4 [false,false],(bs 72 []),[some []]⟩
def c5C:Option Bool :=
 some true
theorem f4I(r):NF a2z r d1K (fun s=>c5C):=fun _ h=>PK<|rg<|fE h
def e1i(n:j6):Int->KS:=fun i=>⟨a2z.k 3 [false],(bs 1 (.ptr 1 0 0::(bs 1 (vi i::(bs 68 []))))),[some [],some [.var 58 (a8G n)]]⟩
def b7h(n:j6)(i:Int):Option (l7 Bool Int Unit) :=
 (bif decide (i<(n.f0.length:Int)) then ((idx n.f0 i).bind fun entry=>((a1e entry).bind fun E5=>(bif (!E5) then some (l7.ret false) else (bif entry.i7 then some (l7.ret false) else some (l7.nxt (m8 (i+1))))))) else some (l7.brk ()))
theorem d7s(n):LQ a2z d1K (e1i n) (fun s=>b7h n s):=fun lc i h=>PK<|rg<|j5 4 h (fun h=>rg<|v5 s7 3 h fun entry F8 h=>j8 a2c a2L 5 h fun E5 h=>j5 7 h (fun h=>rg<|fL lc h) (fun h=>J0 s7 11 F8<|j5 14 h (fun h=>rg<|fL lc h) (fun h=>rg<|(lc.nx h fun hI=>sk [] [1,3] [(1,0)] hI)))) (fun h=>(lc.bk h fun hI=>sk [] [] [] hI))
def a5B(n:j6):Option Bool :=
 (bif decide (n.Id<0) then some false else (bif decide (n.Id>=3) then some false else ((b5k n.Acc).bind fun O8=>(bif (!O8) then some false else ((b1H n.a5).bind fun b4Q=>(bif (!b4Q) then some false else (bif decide (n.Seq<0) then some false else (bif decide (n.Seq>1000) then some false else (bif decide ((n.f0.length:Int)>4) then some false else ((b41 n).bind fun d5l=>(bif (!d5l) then some false else ((b49 n).bind fun c9s=>(bif (!c9s) then some false else ((p8 (fun s:Int=>b7h n s) 0).bind fun x=>x.go (fun r=>some r) fun s=>c5C))))))))))))))
theorem a9q{n}:OK a2z [.agg (A6 n)] (a5B n) :=
 o7 _ fun r h=>n9<|j5 3 h (fun h=>rg<|fE h) (fun h=>j5 8 h (fun h=>rg<|fE h) (fun h=>j8 a8I f1q 11 h fun O8 h=>j5 14 h (fun h=>rg<|fE h) (fun h=>j8 a6k c7E 17 h fun b4Q h=>j5 20 h (fun h=>rg<|fE h) (fun h=>j5 25 h (fun h=>rg<|fE h) (fun h=>j5 30 h (fun h=>rg<|fE h) (fun h=>j5 36 h (fun h=>rg<|fE h) (fun h=>j8 c9m d8T 38 h fun d5l h=>j5 41 h (fun h=>rg<|fE h) (fun h=>j8 d2s e5z 43 h fun c9s h=>j5 45 h (fun h=>rg<|fE h) (fun h=>rg<|lp (d7s n) h (fun _ h=>a2z.rt h) (f4I r) fun hI=>sk [] [1,3] [(1,0)] hI)))))))))
def c6S:FS (z0):=⟨134,Tryz.f134,[.val [none,some 8] [none,some 158]],[none],[.val [none,some 8] []],fun r=>.agg [vi r.g9,u9 158 8 q9 r.a6],fun _=>[none],Tryz.func134⟩
def c5A(a:z0):Option z0 :=
 ((a7Q a.a6).bind fun Y1=>some (z0.mk a.g9 Y1))
theorem f3o{a}:OK c6S [.agg (Z4 a)] (c5A a) :=
 o7 _ fun r h=>n9<|j8 a3N b8B 4 h fun Y1 h=>s6 Y1<|fE h
def a4N:FS (List m4):=⟨101,Tryz.f101,[.val [some 7] [some 56]],[none],[.val [some 7] []],fun r=>u9 56 7 s7 r,fun _=>[none],Tryz.func101⟩
def d0T:(List m4)->KS:=fun out1=>⟨a4N.k 4 [false],(bs 3 (.own 1 0 7 0 out1.length::(bs 17 []))),[some [],some [m6 56 7 s7 out1]]⟩
def c6f(out1:List m4):Option (List m4) :=
 some out1
theorem e9w(r):NF a4N r d0T (fun s=>c6f s):=fun out1 h=>PK<|rg<|s6 out1<|fE h
def e4i(list:List m4):((List m4)×Int)->KS:=fun (out,i)=>⟨a4N.k 3 [],(j9 7 s7 list::(bs 2 (.own 1 0 7 0 out.length::(vi i::(bs 16 []))))),[some [],some [m6 56 7 s7 out]]⟩
def b21(list:List m4)(out:List m4)(i:Int):Option (l7 (List m4) ((List m4)×Int) (List m4)) :=
 (bif decide (i<(list.length:Int)) then ((idx list i).bind fun entry=>((W9 entry).bind fun l5Entry=>(t5 ((out.length+1)*88<=140737488355328) (some (l7.nxt (out++[l5Entry],m8 (i+1))))))) else some (l7.brk out))
theorem e02(list):LQ a4N d0T (e4i list) (fun s=>b21 list s.1 s.2):=fun lc (out,i) h=>PK<|rg<|j5 3 h (fun h=>rg<|v5 s7 3 h fun entry F8 h=>j8 a0l a0R 5 h fun l5Entry h=>tk 6 K6<|t8 h fun e1 h=>F6 7 13 56 7 88 s7 out l5Entry e1<|E4 l5Entry<|rg<|(lc.nx h fun hI=>sk [] [0,3,4] [(13,0)] hI)) (fun h=>(lc.bk h fun hI=>sk [] [3] [(1,0)] hI))
def b0A(list:List m4):Option (List m4) :=
 ((p8 (fun s:(List m4)×Int=>b21 list s.1 s.2) (([]:List m4),0)).bind fun x=>x.go (fun r=>some r) fun s=>c6f s)
theorem c04{list}:OK a4N [j9 7 s7 list] (b0A list) :=
 o7 _ fun r h=>n9<|tk 0 K6<|rg<|lp (e02 list) h (fun _ h=>a4N.rt h) (e9w r) fun hI=>om ((.own 2 0 7 0 0:V)=.own 2 0 7 0 ([]:List m4).length) (by simp)<|sk [.is (.tmp 3) (.own 2 0 7 0 ([]:List m4).length)] [0,3,4] [(2,0)] hI
def a9G:FS (j6):=⟨77,Tryz.f77,[.val B0 G9],[none],[.val B0 []],fun r=>.agg (H0 r),fun _=>[none],Tryz.func77⟩
def a6K(n:j6):Option j6 :=
 ((c5A n.Acc).bind fun c1p=>((b0A n.a5).bind fun a7E=>(t5 ((([]:List Bool).length+n.c9.length)*1<=140737488355328) (((a7Q n.i0).bind fun Y1=>((W9 n.d6).bind fun l5Entry=>(t5 ((([]:List Bool).length+n.a6.length)*1<=140737488355328) ((t5 ((([]:List n8).length+n.i6.length)*32<=140737488355328) (((W9 n.b8).bind fun b1P=>((b0A n.f0).bind fun c3z=>some (j6.mk n.Id c1p a7E n.Seq n.d8 n.a7 (([]:List Bool)++n.c9) Y1 l5Entry (([]:List Bool)++n.a6) n.i9 (([]:List n8)++n.i6) b1P c3z)))))))))))))
set_option maxRecDepth 20000 in
theorem b25{n}:OK a9G [.agg (A6 n)] (a6K n) :=
 o7 _ fun r h=>N1<|j8 c6S f3o 2 h fun c1p h=>rg<|j8 a4N c04 2 h fun a7E h=>rg<|tk 0 []<|t8 h fun e1 h=>oa 19 0 1 ([]:List Bool) n.c9<|oz 4 1 eB ([]:List Bool) n.c9<|A8 Bool<|ob e1<|tl (3,{v:=some (.own 19 0 1 0 (([]:List Bool)++n.c9).length),e:=some (m6 4 1 eB (([]:List Bool)++n.c9))})<|rg<|j8 a3N b8B 2 h fun Y1 h=>rg<|j8 a0l a0R 2 h fun l5Entry h=>rg<|tk 0 []<|t8 h fun e2 h=>oa 35 0 1 ([]:List Bool) n.a6<|oz 4 1 eB ([]:List Bool) n.a6<|A8 Bool<|ob e2<|tl (3,{v:=some (.own 35 0 1 0 (([]:List Bool)++n.a6).length),e:=some (m6 4 1 eB (([]:List Bool)++n.a6))})<|rg<|tk 0 []<|t8 h fun e3 h=>oa 41 0 4 ([]:List n8) n.i6<|oz 115 4 A0 ([]:List n8) n.i6<|A8 n8<|ob e3<|tl (3,{v:=some (.own 41 0 4 0 (([]:List n8)++n.i6).length),e:=some (m6 115 4 A0 (([]:List n8)++n.i6))})<|rg<|j8 a0l a0R 2 h fun b1P h=>rg<|j8 a4N c04 2 h fun c3z h=>rg<|H1 c1p.a6 a7E (([]:List Bool)++n.c9) Y1<|W7 (([]:List Bool)++n.a6) (([]:List n8)++n.i6) c3z<|fE h
def a58:FS (u0):=⟨49,Tryz.f49,[.val [none,some 2,some 4] [none,some 140,none]],[none],[.val [some 7] []],fun r=>.agg (b1R r),fun _=>[none],Tryz.func49⟩
def d0S:((List m9)×Int×List q8)->KS:=fun (Boxes1,sAt1,sDones1)=>⟨a58.k 5 [false,false],(bs 2 (.ptr 1 0 0::(.ptr 2 0 0::(bs 32 [])))),[some [],some [.var 89 [vi 0,.nil,.nil]],some [.var 89 [vi sAt1,.own 3 0 2 0 Boxes1.length,j9 4 B7 sDones1]],some [m6 140 2 x7 Boxes1]]⟩
def d14(Boxes1:List m9)(sAt1:Int)(sDones1:List q8):Option u0 :=
 some (u0.mk sAt1 Boxes1 sDones1)
theorem f2g(r):NF a58 r d0S (fun s=>d14 s.1 s.2.1 s.2.2):=fun (Boxes1,sAt1,sDones1) h=>PK<|rg<|s6 Boxes1<|fE h
def e7U(list:List m4):((List m9)×Int×Int×List q8)->KS:=fun (g7,i,sAt,sDones)=>⟨a58.k 4 [false],(j9 7 s7 list::(bs 1 (.ptr 1 0 0::(.ptr 2 0 0::(vi i::(bs 31 [])))))),[some [],some [.var 89 [vi 0,.nil,.nil]],some [.var 89 [vi sAt,.own 3 0 2 0 g7.length,j9 4 B7 sDones]],some [m6 140 2 x7 g7]]⟩
def b0c(list:List m4)(g7:List m9)(i:Int)(sAt:Int)(sDones:List q8):Option (l7 u0 ((List m9)×Int×Int×List q8) ((List m9)×Int×List q8)) :=
 (bif decide (i<(list.length:Int)) then ((idx list i).bind fun entry=>((a1e entry).bind fun E5=>(bif (!E5) then some (l7.ret (u0.mk 0 [] [])) else ((a8f (u0.mk sAt g7 sDones) entry).bind fun l5Apply=>some (l7.nxt (l5Apply.1.g7,m8 (i+1),l5Apply.1.At,l5Apply.1.i8)))))) else some (l7.brk (g7,sAt,sDones)))
theorem e7G(list):LQ a58 d0S (e7U list) (fun s=>b0c list s.1 s.2.1 s.2.2.1 s.2.2.2):=fun lc (g7,i,sAt,sDones) h=>PK<|rg<|j5 3 h (fun h=>rg<|v5 s7 2 h fun entry F8 h=>j8 a2c a2L 4 h fun E5 h=>j5 5 h (fun h=>rg<|fL lc h) (fun h=>rg<|J0 s7 3 F8<|j8 a2S b8L 5 h fun l5Apply h=>s6 g7<|n9<|(lc.nx h fun hI=>sk [] [0,2,3,4] [(1,0),(2,0),(19,0)] hI))) (fun h=>(lc.bk h fun hI=>sk [] [2,3] [(1,0),(2,0),(3,0)] hI))
def b3b(list:List m4):Option u0 :=
 ((a8Q).bind fun Q0=>(bif decide ((list.length:Int)>40) then some (u0.mk 0 [] []) else ((p8 (fun s:(List m9)×Int×Int×List q8=>b0c list s.1 s.2.1 s.2.2.1 s.2.2.2) (Q0.g7,0,Q0.At,Q0.i8)).bind fun x=>x.go (fun r=>some r) fun s=>d14 s.1 s.2.1 s.2.2)))
theorem c7e{list}:OK a58 [j9 7 s7 list] (b3b list) :=
 o7 _ fun r h=>n9<|j8 b2B b8X 0 h fun Q0 h=>rg<|j5 2 h (fun h=>rg<|fE h) (fun h=>rg<|lp (e7G list) h (fun _ h=>a58.rt h) (f2g r) fun hI=>sk [] [0,2,3,4] [(1,0),(3,0),(2,0)] hI)
def d6O:FS (u0):=⟨199,Tryz.f199,[.val [none,some 2,some 4] []],[none],[.val B0 []],fun r=>.agg (a7X r),fun _=>[none],Tryz.func199⟩
def b98(n:j6):Option u0 :=
 ((a5B n).bind fun D8=>(bif (!D8) then some (u0.mk 0 [] []) else ((b3b n.a5).bind fun a0A=>some a0A)))
theorem e7K{n}:OK d6O [.agg (A6 n)] (b98 n) :=
 o7 _ fun r h=>n9<|j8 a2z a9q 1 h fun D8 h=>j5 2 h (fun h=>rg<|fE h) (fun h=>rg<|j8 a58 c7e 2 h fun a0A h=>s6 a0A.g7<|fE h)
def b5K:FS (Int×n6):=⟨223,Tryz.f223,[.val [] [],.val O2 om4],[none,none,none],[.val [some 2] [],.val O2 om4,.val [] []],fun r=>.tup [vi r.1,.agg (a5I r.2)],fun _=>[none,none,none],Tryz.func223⟩
def e4f(list:List m9)(r_:n6)(box:Int):(List r9)->KS:=fun b5=>⟨b5K.k 5 [false,true],(j9 2 x7 list::(bs 1 (vi box::(bs 1 (.ptr 1 0 0::(bs 2 (.ptr 3 0 0::(bs 37 [])))))))),[some [.dead,m6 195 2 w8 r_.b6],some [.var 54 [.own 2 0 2 0 b5.length,.own 0 1 2 0 r_.b6.length,vi r_.d9,vi r_.Code]],some [m6 192 2 v6 b5],some [.var 54 [.nil,.nil,vi 0,vi 0]]]⟩
def b1G(list:List m9)(r_:n6)(box:Int)(b5:List r9):Option (Int×n6) :=
 ((idx list box).bind fun P9=>some (P9.d9,(n6.mk b5 r_.b6 r_.d9 r_.Code)))
theorem e4M(list r_ box)(r):NF b5K r (e4f list r_ box) (fun s=>b1G list r_ box s):=fun b5 h=>PK<|rg<|v5 x7 2 h fun P9 a6N h=>C7 b5 r_.b6<|fE h
def b2C(list:List m9)(r_:n6)(box:Int):Option (Int×n6) :=
 ((a2H r_.b6 box).bind fun a2k=>(bif decide (a2k>=0) then ((idx r_.b6 a2k).bind fun put=>some (put.d9,r_)) else ((((b3j r_.b5 box).bind fun b38=>(bif (!b38) then ((idx list box).bind fun b6F=>(t5 ((r_.b5.length+1)*16<=140737488355328) (some (l9.brk (r_.b5++[(r9.mk box b6F.j4)]))))) else some (l9.brk r_.b5))):Option (l9 (Int×n6) (List r9))).bind fun x=>x.go some fun j=>b1G list r_ box j)))
theorem e0p{list r_ box}:OK b5K [j9 2 x7 list,.agg (a5I r_),vi box] (b2C list r_ box) :=
 o7 _ fun r h=>n9<|R5 a4O c36 3 2 h fun a2k h=>s6 r_.b6<|rg<|j5 1 h (fun h=>rg<|A9 h fun put hput h=>B9 hput<|H9 w8 5 hput<|olR r_<|fE h) (fun h=>A7 h (e4M list r_ box r) fun x1 h hc1=>rg<|R5 a69 d2k 3 2 h fun b38 h=>s6 r_.b5<|j5 4 h (fun h=>rg<|v5 x7 5 h fun b6F f5a h=>tk 9 []<|t8 h fun e1 h=>F6 10 26 192 2 16 v6 r_.b5 (r9.mk box b6F.j4) e1<|E4 (r9.mk box b6F.j4)<|(p7 h hc1 fun hI=>sk [] [0,2,4,7] [(1,0),(26,0),(3,0)] hI)) (fun h=>(p7 h hc1 fun hI=>sk [] [0,2,4,7] [(1,0),(0,0),(3,0)] hI)))
def c70:FS (n6):=⟨224,Tryz.f224,[.val O2 om4],[none,none,none],[.val O2 om4,.val [] [],.val [] []],fun r=>.agg (a5I r),fun _=>[none,none,none],Tryz.func224⟩
def b2b(r_:n6)(box:Int)(val:Int):Option n6 :=
 ((a2H r_.b6 box).bind fun a2k=>(bif decide (a2k>=0) then ((idx r_.b6 a2k).bind fun put=>some (n6.mk r_.b5 (r_.b6.set a2k.toNat (p6.mk put.i5 val)) r_.d9 r_.Code)) else (t5 ((r_.b6.length+1)*16<=140737488355328) (some (n6.mk r_.b5 (r_.b6++[(p6.mk box val)]) r_.d9 r_.Code)))))
theorem f3U{r_ box val}:OK c70 [.agg (a5I r_),vi box,vi val] (b2b r_ box val) :=
 o7 _ fun r h=>n9<|R5 a4O c36 3 2 h fun a2k h=>s6 r_.b6<|rg<|j5 1 h (fun h=>rg<|A9 h fun put hput h=>B9 hput<|Q4 195 2 w8 6 [] (p6.mk put.i5 val) hput<|rg<|s6 r_.b5<|om (r_.b6.length=(r_.b6.set a2k.toNat (p6.mk put.i5 val)).length) (by simp)<|fE h) (fun h=>rg<|tk 5 []<|t8 h fun e1 h=>F6 6 16 195 2 16 w8 r_.b6 (p6.mk box val) e1<|E4 (p6.mk box val)<|rg<|C7 r_.b5 (r_.b6++[(p6.mk box val)])<|fE h)
def a9R:FS (n6×List Int):=⟨207,Tryz.f207,[.val O2 om4],[none,none,some (2,.row),none],[.val [some 2] [],.val O2 om4,.row,.val [] []],fun r=>.agg (a5I r.1),fun r=>[none,none,some (u9 3 1 eI r.2),none],Tryz.func207⟩
def e1f(i:n8):((List Int)×(List r9)×(List p6)×Int×Int)->KS:=fun (regs1,b5,b6,rVal,rCode)=>⟨a9R.k 6 [true],(bs 2 (.own 0 2 1 0 regs1.length::(bs 2 (.ptr 1 0 0::(bs 1 (.ptr 4 0 0::(.ptr 5 0 0::(bs 90 [])))))))),[some [.dead,.dead,m6 3 1 eI regs1],some [.var 54 [.own 2 0 2 0 b5.length,.own 3 0 2 0 b6.length,vi rVal,vi rCode]],some [m6 192 2 v6 b5],some [m6 195 2 w8 b6],some [.var 115 [vi i.a8,vi i.A,vi i.B,vi i.N]],some [.var 54 [.nil,.nil,vi 0,vi 0]]]⟩
def e0k(regs1:List Int)(b5:List r9)(b6:List p6)(rVal:Int):Int->KS:=fun rCode1=>⟨a9R.k 8 [true,true],(bs 5 (.ptr 1 0 0::(bs 2 (.ptr 4 0 0::(bs 90 []))))),[some [.dead,.dead,m6 3 1 eI regs1],some [.var 54 [.own 2 0 2 0 b5.length,.own 3 0 2 0 b6.length,vi rVal,vi rCode1]],some [m6 192 2 v6 b5],some [m6 195 2 w8 b6],some [.var 54 [.nil,.nil,vi 0,vi 0]]]⟩
def a8k(regs1:List Int)(b5:List r9)(b6:List p6)(rVal:Int)(rCode1:Int):Option (n6×List Int) :=
 some ((n6.mk b5 b6 rVal rCode1),regs1)
theorem f4d(regs1 b5 b6 rVal)(r):NF a9R r (e0k regs1 b5 b6 rVal) (fun s=>a8k regs1 b5 b6 rVal s):=fun rCode1 h=>PK<|rg<|W7 b5 b6 regs1<|fE h
def a3J(i:n8)(regs1:List Int)(b5:List r9)(b6:List p6)(rVal:Int)(rCode:Int):Option (n6×List Int) :=
 (((bif (i.a8 != 2) then ((idx regs1 i.A).bind fun y=>((a6I y).bind fun a04=>(bif (!a04) then some (l9.brk 2) else some (l9.brk rCode)))) else some (l9.brk rCode)):Option (l9 (n6×List Int) Int)).bind fun x=>x.go some fun j=>a8k regs1 b5 b6 rVal j)
theorem f3w(i)(r):NF a9R r (e1f i) (fun s=>a3J i s.1 s.2.1 s.2.2.1 s.2.2.2.1 s.2.2.2.2):=fun (regs1,b5,b6,rVal,rCode) h=>PK<|A7 h (f4d regs1 b5 b6 rVal r) fun x1 h hc1=>rg<|j5 3 h (fun h=>A9 h fun y hy h=>B9 hy<|H9 eI 8 hy<|j8 a7L a9A 9 h fun a04 h=>j5 11 h (fun h=>rg<|(p7 h hc1 fun hI=>sk [] [5,8] [(1,0),(2,0),(3,0),(5,0)] hI)) (fun h=>(p7 h hc1 fun hI=>sk [] [5,8] [(1,0),(2,0),(3,0),(5,0)] hI))) (fun h=>(p7 h hc1 fun hI=>sk [] [5,8] [(1,0),(2,0),(3,0),(5,0)] hI))
def a7b(list:List m9)(r_:n6)(regs:List Int)(i:n8):Option (n6×List Int) :=
 (((bif (i.a8==1) then ((b2C list r_ i.B).bind fun a4H=>((idx regs i.A).bind fun y1=>some (l9.brk (regs.set i.A.toNat a4H.1,a4H.2.b5,a4H.2.b6,a4H.2.d9,a4H.2.Code)))) else (bif (i.a8==2) then ((idx regs i.B).bind fun y2=>((b2b r_ i.A y2).bind fun b4i=>some (l9.brk (regs,b4i.b5,b4i.b6,b4i.d9,b4i.Code)))) else (bif (i.a8==3) then ((idx regs i.A).bind fun y3=>some (l9.brk (regs.set i.A.toNat i.N,r_.b5,r_.b6,r_.d9,r_.Code))) else (bif (i.a8==4) then ((idx regs i.A).bind fun y4=>((idx regs i.B).bind fun y5=>some (l9.brk (regs.set i.A.toNat (m8 (y4+y5)),r_.b5,r_.b6,r_.d9,r_.Code)))) else (bif (i.a8==5) then ((idx regs i.A).bind fun y6=>((idx regs i.B).bind fun y7=>some (l9.brk (regs.set i.A.toNat (m8 (y6-y7)),r_.b5,r_.b6,r_.d9,r_.Code)))) else (bif (i.a8==7) then some (l9.brk (regs,r_.b5,r_.b6,r_.d9,1)) else some (l9.brk (regs,r_.b5,r_.b6,r_.d9,r_.Code)))))))):Option (l9 (n6×List Int) ((List Int)×(List r9)×(List p6)×Int×Int))).bind fun x=>x.go some fun j=>a3J i j.1 j.2.1 j.2.2.1 j.2.2.2.1 j.2.2.2.2)
set_option maxRecDepth 20000 in
theorem f1g{list r_ regs i}:OK a9R [j9 2 x7 list,.agg (a5I r_),u9 3 1 eI regs,.agg (A0 i)] (a7b list r_ regs i) :=
 o7 _ fun r h=>n9<|A7 h (f3w i r) fun x1 h hc1=>rg<|j5 1 h (fun h=>rg<|j8 b5K e0p 4 h fun a4H h=>olR r_<|rg<|A9 h fun y1 hy1 h=>B9 hy1<|Q4 3 1 eI 5 [] a4H.1 hy1<|rg<|(p7 h hc1 fun hI=>om ((.own 0 2 1 0 regs.length:V)=.own 0 2 1 0 (regs.set i.A.toNat a4H.1).length) (by simp)<|sk [.is (.tmp 2) (.own 0 2 1 0 (regs.set i.A.toNat a4H.1).length)] [2,5,7,8] [(1,0),(12,0),(12,1),(2,0),(3,0)] hI)) (fun h=>rg<|j5 1 h (fun h=>rg<|A9 h fun y2 hy2 h=>B9 hy2<|H9 eI 7 hy2<|j8 c70 f3U 8 h fun b4i h=>olR r_<|(p7 h hc1 fun hI=>sk [] [2,5,7,8] [(1,0),(18,0),(18,1),(2,0),(3,0)] hI)) (fun h=>rg<|j5 1 h (fun h=>rg<|A9 h fun y3 hy3 h=>B9 hy3<|Q4 3 1 eI 6 [] i.N hy3<|(p7 h hc1 fun hI=>om ((.own 0 2 1 0 regs.length:V)=.own 0 2 1 0 (regs.set i.A.toNat i.N).length) (by simp)<|sk [.is (.tmp 2) (.own 0 2 1 0 (regs.set i.A.toNat i.N).length)] [2,5,7,8] [(1,0),(0,0),(0,1),(2,0),(3,0)] hI)) (fun h=>rg<|j5 1 h (fun h=>rg<|A9 h fun y4 hy4 h=>B9 hy4<|H9 eI 7 hy4<|A9 h fun y5 hy5 h=>B9 hy5<|H9 eI 12 hy5<|B9 hy4<|Q4 3 1 eI 15 [] (m8 (y4+y5)) hy4<|(p7 h hc1 fun hI=>om ((.own 0 2 1 0 regs.length:V)=.own 0 2 1 0 (regs.set i.A.toNat (m8 (y4+y5))).length) (by simp)<|sk [.is (.tmp 2) (.own 0 2 1 0 (regs.set i.A.toNat (m8 (y4+y5))).length)] [2,5,7,8] [(1,0),(0,0),(0,1),(2,0),(3,0)] hI)) (fun h=>rg<|j5 1 h (fun h=>rg<|A9 h fun y6 hy6 h=>B9 hy6<|H9 eI 7 hy6<|A9 h fun y7 hy7 h=>B9 hy7<|H9 eI 12 hy7<|B9 hy6<|Q4 3 1 eI 15 [] (m8 (y6-y7)) hy6<|(p7 h hc1 fun hI=>om ((.own 0 2 1 0 regs.length:V)=.own 0 2 1 0 (regs.set i.A.toNat (m8 (y6-y7))).length) (by simp)<|sk [.is (.tmp 2) (.own 0 2 1 0 (regs.set i.A.toNat (m8 (y6-y7))).length)] [2,5,7,8] [(1,0),(0,0),(0,1),(2,0),(3,0)] hI)) (fun h=>rg<|j5 1 h (fun h=>rg<|(p7 h hc1 fun hI=>sk [] [2,5,7,8] [(1,0),(0,0),(0,1),(2,0),(3,0)] hI)) (fun h=>(p7 h hc1 fun hI=>sk [] [2,5,7,8] [(1,0),(0,0),(0,1),(2,0),(3,0)] hI)))))))
def a4g:FS (n6):=⟨161,Tryz.f161,[.val O2 om4],[none,none],[.val [some 2] [],.val [some 4] []],fun r=>.agg (a5I r),fun _=>[none,none],Tryz.func161⟩
def c54:((List r9)×(List p6)×(List Int)×Int×Int)->KS:=fun (Reads1,Puts1,regs1,rVal1,rCode1)=>⟨a4g.k 6 [false,false],(bs 4 (.ptr 1 0 0::(.ptr 2 0 0::(.own 5 0 1 0 regs1.length::(bs 61 []))))),[some [],some [.var 54 [.nil,.nil,vi 0,vi 0]],some [.var 54 [.own 3 0 2 0 Reads1.length,.own 4 0 2 0 Puts1.length,vi rVal1,vi rCode1]],some [m6 192 2 v6 Reads1],some [m6 195 2 w8 Puts1],some [m6 3 1 eI regs1]]⟩
def a5O(Reads1:List r9)(Puts1:List p6)(regs1:List Int)(rVal1:Int)(rCode1:Int):Option n6 :=
 (bif (rCode1 != 0) then some (n6.mk Reads1 [] rVal1 rCode1) else ((idx regs1 0).bind fun y=>some (n6.mk Reads1 Puts1 y rCode1)))
theorem e4S(r):NF a4g r c54 (fun s=>a5O s.1 s.2.1 s.2.2.1 s.2.2.2.1 s.2.2.2.2):=fun (Reads1,Puts1,regs1,rVal1,rCode1) h=>PK<|rg<|j5 2 h (fun h=>n9<|s6 Reads1<|fE h) (fun h=>rg<|A9 h fun y hy h=>B9 hy<|H9 eI 2 hy<|rg<|C7 Reads1 Puts1<|fE h)
def c8A(list:List m9)(prog:List n8):((List Int)×(List r9)×(List p6)×Int×Int×Int)->KS:=fun (regs,b5,b6,k,rVal,rCode)=>⟨a4g.k 5 [false],(j9 2 x7 list::(j9 4 A0 prog::(bs 2 (.ptr 1 0 0::(.ptr 2 0 0::(.own 3 0 1 0 regs.length::(vi k::(bs 60 [])))))))),[some [],some [.var 54 [.nil,.nil,vi 0,vi 0]],some [.var 54 [.own 4 0 2 0 b5.length,.own 5 0 2 0 b6.length,vi rVal,vi rCode]],some [m6 3 1 eI regs],some [m6 192 2 v6 b5],some [m6 195 2 w8 b6]]⟩
def e26(list:List m9)(prog:List n8)(regs:List Int)(b5:List r9)(b6:List p6)(rVal:Int)(rCode:Int):Int->KS:=fun k1=>⟨a4g.k 10 [false,true,true,true],(j9 2 x7 list::(j9 4 A0 prog::(bs 2 (.ptr 1 0 0::(.ptr 2 0 0::(.own 5 0 1 0 regs.length::(vi k1::(bs 60 [])))))))),[some [],some [.var 54 [.nil,.nil,vi 0,vi 0]],some [.var 54 [.own 3 0 2 0 b5.length,.own 4 0 2 0 b6.length,vi rVal,vi rCode]],some [m6 192 2 v6 b5],some [m6 195 2 w8 b6],some [m6 3 1 eI regs]]⟩
def b6u(regs:List Int)(b5:List r9)(b6:List p6)(rVal:Int)(rCode:Int)(k1:Int):Option (l7 n6 ((List Int)×(List r9)×(List p6)×Int×Int×Int) ((List r9)×(List p6)×(List Int)×Int×Int)) :=
 some (l7.nxt (regs,b5,b6,m8 (k1+1),rVal,rCode))
theorem e8T(list prog regs b5 b6 rVal rCode)(lc:H2 a4g c54 (c8A list prog)):NL lc (e26 list prog regs b5 b6 rVal rCode) (fun s=>b6u regs b5 b6 rVal rCode s):=fun k1 h=>PK<|rg<|(lc.nx h fun hI=>sk [] [0,1,4,5,6,7] [(1,0),(2,0),(5,0),(3,0),(4,0)] hI)
def a0U(list:List m9)(prog:List n8)(regs:List Int)(b5:List r9)(b6:List p6)(k:Int)(rVal:Int)(rCode:Int):Option (l7 n6 ((List Int)×(List r9)×(List p6)×Int×Int×Int) ((List r9)×(List p6)×(List Int)×Int×Int)) :=
 (bif decide (k<(prog.length:Int)) then (bif (rCode==0) then ((idx prog k).bind fun ins=>(bif (ins.a8==6) then ((((idx regs ins.A).bind fun y1=>((idx regs ins.B).bind fun y2=>(bif decide (y1<y2) then some (l9.brk (m8 (k+ins.N))) else some (l9.brk k)))):Option (l9 (l7 n6 ((List Int)×(List r9)×(List p6)×Int×Int×Int) ((List r9)×(List p6)×(List Int)×Int×Int)) Int)).bind fun x=>x.go some fun j=>b6u regs b5 b6 rVal rCode j) else ((a7b list (n6.mk b5 b6 rVal rCode) regs ins).bind fun a5e=>(t5 (regs.length=a5e.2.length) (some (l7.nxt (a5e.2,a5e.1.b5,a5e.1.b6,m8 (k+1),a5e.1.d9,a5e.1.Code))))))) else some (l7.brk (b5,b6,regs,rVal,rCode))) else some (l7.brk (b5,b6,regs,rVal,rCode)))
theorem e6N(list prog):LQ a4g c54 (c8A list prog) (fun s=>a0U list prog s.1 s.2.1 s.2.2.1 s.2.2.2.1 s.2.2.2.2.1 s.2.2.2.2.2):=fun lc (regs,b5,b6,k,rVal,rCode) h=>PK<|rg<|j5 4 h (fun h=>j5 8 h (fun h=>rg<|v5 A0 2 h fun ins hins h=>rg<|j5 2 h (fun h=>A7 h (e8T list prog regs b5 b6 rVal rCode lc) fun x2 h hc2=>rg<|A9 h fun y1 hy1 h=>B9 hy1<|H9 eI 4 hy1<|A9 h fun y2 hy2 h=>B9 hy2<|H9 eI 9 hy2<|j5 10 h (fun h=>rg<|(p7 h hc2 fun hI=>sk [] [0,1,4,5,6,7] [(1,0),(2,0),(4,0),(5,0),(3,0)] hI)) (fun h=>(p7 h hc2 fun hI=>sk [] [0,1,4,5,6,7] [(1,0),(2,0),(4,0),(5,0),(3,0)] hI))) (fun h=>rg<|j8 a9R f1g 4 h fun a5e h=>t8 h fun e2 h=>W7 b5 b6 regs<|rg<|(lc.nx h fun hI=>om ((.own 3 0 1 0 regs.length:V)=.own 3 0 1 0 a5e.2.length) (by first|(simp;done)|(simp [e2];done))<|sk [.is (.tmp 6) (.own 3 0 1 0 a5e.2.length)] [0,1,4,5,6,7] [(1,0),(2,0),(3,0),(28,0),(28,1)] hI))) (fun h=>(lc.bk h fun hI=>sk [] [4,5,6] [(1,0),(2,0),(4,0),(5,0),(3,0)] hI))) (fun h=>(lc.bk h fun hI=>sk [] [4,5,6] [(1,0),(2,0),(4,0),(5,0),(3,0)] hI))
def a7N(list:List m9)(prog:List n8):Option n6 :=
 ((b1b list).bind fun R9=>(bif (!R9) then some (n6.mk [] [] 0 3) else ((a9K prog).bind fun E2=>(bif (!E2) then some (n6.mk [] [] 0 3) else (t5 (0<=(4:Int)/\(4:Int)*8<=140737488355328) (((p8 (fun s:(List Int)×(List r9)×(List p6)×Int×Int×Int=>a0U list prog s.1 s.2.1 s.2.2.1 s.2.2.2.1 s.2.2.2.2.1 s.2.2.2.2.2) (f5k (4:Int).toNat (0:Int),[],[],0,0,0)).bind fun x=>x.go (fun r=>some r) fun s=>a5O s.1 s.2.1 s.2.2.1 s.2.2.2.1 s.2.2.2.2)))))))
theorem c61{list prog}:OK a4g [j9 2 x7 list,j9 4 A0 prog] (a7N list prog) :=
 o7 _ fun r h=>n9<|j8 a4T c4J 1 h fun R9 h=>j5 3 h (fun h=>rg<|fE h) (fun h=>j8 a5b c1P 5 h fun E2 h=>j5 7 h (fun h=>rg<|fE h) (fun h=>n9<|t8 h fun e1 h=>U0 0 13 3 1 8 eI (0:Int) ti3 (.none) e1 (by decide) (by rfl)<|rg<|lp (e6N list prog) h (fun _ h=>a4g.rt h) (e4S r) fun hI=>sk [.own (.cell 11 0 0) 192 2,.own (.cell 11 0 1) 195 2] [0,1,4,5,6,7] [(1,0),(11,0),(13,0),(16,0),(17,0)] hI))
def d54:FS (j6×(List l8)×List n5):=⟨139,Tryz.f139,[.val B0 G9,.val [some 13] [],.val [some 5] []],[none,none],[.val B0 G9,.val [some 4] []],fun r=>.tup [.agg (H0 r.1),j9 13 t0 r.2.1,j9 5 z4 r.2.2],fun _=>[none,none],Tryz.func139⟩
def b44(n:j6)(prog:List n8):Option (j6×(List l8)×List n5) :=
 ((a5B n).bind fun D8=>(bif (!D8) then some ((j6.mk 0 (z0.mk 0 []) [] 0 0 0 [] [] (m4.mk false (n7.mk 0 0) (n6.mk [] [] 0 0)) [] false [] (m4.mk false (n7.mk 0 0) (n6.mk [] [] 0 0)) []),([]:List l8),([]:List n5)) else ((a6K n).bind fun l8Copy=>((b98 n).bind fun b3A=>((a7N b3A.g7 prog).bind fun B8=>(bif n.i9 then some (l8Copy,([]:List l8),([]:List n5)) else (bif (n.Seq==1000) then some (l8Copy,([]:List l8),([]:List n5)) else (bif (B8.Code==3) then some (l8Copy,([]:List l8),([]:List n5)) else (t5 ((([]:List n8).length+prog.length)*32<=140737488355328) ((bif (l8Copy.d8==2) then ((a54 (j6.mk l8Copy.Id l8Copy.Acc l8Copy.a5 (m8 (l8Copy.Seq+1)) l8Copy.d8 l8Copy.a7 l8Copy.c9 l8Copy.i0 l8Copy.d6 l8Copy.a6 true (([]:List n8)++prog) (m4.mk false (n7.mk l8Copy.Id (m8 (l8Copy.Seq+1))) B8) l8Copy.f0)).bind fun N8=>some (N8.1,N8.2,([]:List n5))) else (bif (l8Copy.d8==0) then ((a3m l8Copy.Id (l8.mk 7 0 0 0 0 (m4.mk false (n7.mk l8Copy.Id (m8 (l8Copy.Seq+1))) B8) [])).bind fun J5=>some ((j6.mk l8Copy.Id l8Copy.Acc l8Copy.a5 (m8 (l8Copy.Seq+1)) l8Copy.d8 l8Copy.a7 l8Copy.c9 l8Copy.i0 l8Copy.d6 l8Copy.a6 true (([]:List n8)++prog) (m4.mk false (n7.mk l8Copy.Id (m8 (l8Copy.Seq+1))) B8) l8Copy.f0),J5,([]:List n5))) else some ((j6.mk l8Copy.Id l8Copy.Acc l8Copy.a5 (m8 (l8Copy.Seq+1)) l8Copy.d8 l8Copy.a7 l8Copy.c9 l8Copy.i0 l8Copy.d6 l8Copy.a6 true (([]:List n8)++prog) (m4.mk false (n7.mk l8Copy.Id (m8 (l8Copy.Seq+1))) B8) l8Copy.f0),([]:List l8),([]:List n5))))))))))))))
set_option maxRecDepth 20000 in
theorem e1E{n prog}:OK d54 [.agg (H0 n),j9 4 A0 prog] (b44 n prog) :=
 o7 _ fun r h=>n9<|R5 a2z a9q 1 1 h fun D8 h=>A2 n<|j5 2 h (fun h=>rg<|tk 1 C0<|tk 2 []<|A8 l8<|A8 n5<|fE h) (fun h=>rg<|j8 a9G b25 1 h fun l8Copy h=>A2 n<|rg<|j8 d6O e7K 1 h fun b3A h=>A2 n<|j8 a4g c61 4 h fun B8 h=>rg<|j5 2 h (fun h=>rg<|tk 1 C0<|tk 2 []<|A2 l8Copy<|A8 l8<|A8 n5<|fE h) (fun h=>j5 7 h (fun h=>rg<|tk 1 C0<|tk 2 []<|A2 l8Copy<|A8 l8<|A8 n5<|fE h) (fun h=>j5 11 h (fun h=>rg<|tk 1 C0<|tk 2 []<|A2 l8Copy<|A8 l8<|A8 n5<|fE h) (fun h=>N1<|tk 0 []<|t8 h fun e1 h=>oa 40 0 4 ([]:List n8) prog<|oz 115 4 A0 ([]:List n8) prog<|A8 n8<|ob e1<|tl (2,{v:=some (.own 40 0 4 0 (([]:List n8)++prog).length),e:=some (m6 115 4 A0 (([]:List n8)++prog))})<|n9<|j5 2 h (fun h=>rg<|j8 a9y b2q 1 h fun N8 h=>s6 l8Copy.Acc.a6<|H1 l8Copy.a5 l8Copy.c9 l8Copy.a6 (([]:List n8)++prog)<|olR B8<|s6 l8Copy.f0<|rg<|tk 2 []<|A2 N8.1<|A8 n5<|fE h) (fun h=>rg<|j5 2 h (fun h=>rg<|j8 a0y a5X 6 h fun J5 h=>olR B8<|tk 7 []<|s6 l8Copy.Acc.a6<|H1 l8Copy.a5 l8Copy.c9 l8Copy.a6 (([]:List n8)++prog)<|olR B8<|C7 l8Copy.f0 J5<|A8 n5<|fE h) (fun h=>rg<|tk 1 C0<|tk 2 []<|s6 l8Copy.Acc.a6<|H1 l8Copy.a5 l8Copy.c9 l8Copy.a6 (([]:List n8)++prog)<|olR B8<|s6 l8Copy.f0<|A8 l8<|A8 n5<|fE h))))))
def d32:FS (m5):=⟨80,Tryz.f80,[.val E0 T2],[none,none,none],[.val E0 T2,.val [] [],.val [some 4] []],fun r=>.agg (T1 r),fun _=>[none,none,none],Tryz.func80⟩
def a1E(node:j6):List V:=([vi node.Id,vi node.Acc.g9,.own 11 0 8 0 node.Acc.a6.length,.own 11 1 7 0 node.a5.length,vi node.Seq,vi node.d8,vi node.a7,.own 11 2 1 0 node.c9.length]++a6n node++[.own 11 3 1 0 node.a6.length]++a3w node++[.own 11 4 7 0 node.f0.length])
def b7b(I5:j6×(List l8)×List n5):List V:=(a50 I5.1)
def b6a(w:m5)(i:Int)(prog:List n8):Option m5 :=
 (bif decide ((w.d7.length:Int)>=60) then some w else ((idx w.a9 i).bind fun node=>((b44 node prog).bind fun I5=>(bif decide (I5.1.Seq>node.Seq) then (t5 ((([]:List n8).length+prog.length)*32<=140737488355328) ((t5 ((w.d7.length+1)*40<=140737488355328) (((a2Q (m5.mk (w.a9.set i.toNat I5.1) w.c8 (w.d7++[(x6.mk I5.1.b8.a0 (([]:List n8)++prog))]) w.Told) I5.2.1).bind fun a2U=>((a3W a2U I5.2.2).bind fun a3b=>some a3b)))))) else ((a2Q (m5.mk (w.a9.set i.toNat I5.1) w.c8 w.d7 w.Told) I5.2.1).bind fun a2P=>((a3W a2P I5.2.2).bind fun a9b=>some a9b))))))
set_option maxRecDepth 20000 in
theorem e7W{w i prog}:OK d32 [.agg (T1 w),vi i,j9 4 A0 prog] (b6a w i prog) :=
 o7 _ fun r h=>n9<|j5 3 h (fun h=>rg<|B2 w<|fE h) (fun h=>rg<|A9 h fun node hnode h=>B9 hnode<|ob (b4R (enc:=z6) hnode)<|tl (4,{a:=.drow (z6 node)})<|j8 d54 e1E 6 h fun I5 h=>A2 node<|rg<|B9 hnode<|om (((w.a9.map z6).set (0+i.toNat) (a1E node))[0+i.toNat]?=some (a1E node)) (a1U (a1V hnode))<|tl (7,{a:=.prow (a1E node)})<|j5 8 h (fun h=>rg<|tk 5 []<|t8 h fun e1 h=>oa 38 0 4 ([]:List n8) prog<|oz 115 4 A0 ([]:List n8) prog<|A8 n8<|ob e1<|tl (7,{v:=some (.own 38 0 4 0 (([]:List n8)++prog).length),e:=some (m6 115 4 A0 (([]:List n8)++prog))})<|s6 (([]:List n8)++prog)<|tk 9 [none,none,some 4]<|t8 h fun e2 h=>F6 10 41 68 3 40 B3 w.d7 (x6.mk I5.1.b8.a0 (([]:List n8)++prog)) e2<|E4 (x6.mk I5.1.b8.a0 (([]:List n8)++prog))<|rg<|B9 hnode<|om (s8.deep false 58 27 w.a9.length (((w.a9.map z6).set (0+i.toNat) (a1E node)).set (0+i.toNat) (b7b I5))=C3 58 27 z6 (w.a9.set i.toNat I5.1)) (a7K (W2 (a0I rfl)) (by simp))<|om (H8 (((w.a9.map z6).set (0+i.toNat) (a1E node)).set (0+i.toNat) (b7b I5))) (a8u (W2 (a0I rfl)) a6t)<|om (((w.a9.map z6).set (0+i.toNat) (a1E node))[0+i.toNat]?=some (a1E node)) (a1U (a1V hnode))<|A2 I5.1<|tl (5,{a:=.dsc (a1E node) [none,none,some 8,some 7,none,none,none,some 1,some 8,none,none,none,some 2,some 2,none,none,some 1,none,some 4,none,none,none,some 2,some 2,none,none,some 7] [none,none,some 158,some 56,none,none,none,some 4,none,none,none,none,none,none,none,none,some 4,none,none,none,none,none,none,none,none,none,some 56],e:=some (C3 58 27 z6 (w.a9.set i.toNat I5.1))})<|rg<|j8 a05 a7f 2 h fun a2U h=>om (w.a9.length=(w.a9.set i.toNat I5.1).length) (by simp)<|W7 w.c8 (w.d7++[(x6.mk I5.1.b8.a0 (([]:List n8)++prog))]) w.Told<|j8 a17 a76 4 h fun a3b h=>B2 a2U<|B2 a3b<|fE h) (fun h=>rg<|B9 hnode<|om (s8.deep false 58 27 w.a9.length (((w.a9.map z6).set (0+i.toNat) (a1E node)).set (0+i.toNat) (b7b I5))=C3 58 27 z6 (w.a9.set i.toNat I5.1)) (a7K (W2 (a0I rfl)) (by simp))<|om (H8 (((w.a9.map z6).set (0+i.toNat) (a1E node)).set (0+i.toNat) (b7b I5))) (a8u (W2 (a0I rfl)) a6t)<|om (((w.a9.map z6).set (0+i.toNat) (a1E node))[0+i.toNat]?=some (a1E node)) (a1U (a1V hnode))<|A2 I5.1<|tl (5,{a:=.dsc (a1E node) [none,none,some 8,some 7,none,none,none,some 1,some 8,none,none,none,some 2,some 2,none,none,some 1,none,some 4,none,none,none,some 2,some 2,none,none,some 7] [none,none,some 158,some 56,none,none,none,some 4,none,none,none,none,none,none,none,none,some 4,none,none,none,none,none,none,none,none,none,some 56],e:=some (C3 58 27 z6 (w.a9.set i.toNat I5.1))})<|rg<|j8 a05 a7f 2 h fun a2P h=>om (w.a9.length=(w.a9.set i.toNat I5.1).length) (by simp)<|W7 w.c8 w.d7 w.Told<|j8 a17 a76 4 h fun a9b h=>B2 a2P<|B2 a9b<|fE h))
def a8o:FS (Int):=⟨140,Tryz.f140,[.val [] []],[none,none],[.val [] [],.val [] []],fun r=>vi r,fun _=>[none,none],Tryz.func140⟩
def d0D:Unit->KS:=fun _=>⟨a8o.k 4 [false,false],(bs 37 []),[some []]⟩
def c9Q:Option Int :=
 some (-1)
theorem e6S(r):NF a8o r d0D (fun s=>c9Q):=fun _ h=>PK<|rg<|fE h
def d8X(bal:Int)(who:Int):Int->KS:=fun b=>⟨a8o.k 3 [false],(vi bal::(vi who::(bs 3 (vi b::(bs 31 []))))),[some []]⟩
def a4e(bal:Int)(who:Int)(b:Int):Option (l7 Int Int Unit) :=
 (bif decide (b<=(m8 (bal+3))) then (bif decide (b<=3000) then (bif ((f5K b 3)==who) then some (l7.ret b) else some (l7.nxt (m8 (b+1)))) else some (l7.brk ())) else some (l7.brk ()))
theorem f0X(bal who):LQ a8o d0D (d8X bal who) (fun s=>a4e bal who s):=fun lc b h=>PK<|rg<|j5 4 h (fun h=>j5 7 h (fun h=>rg<|om (3≠(0:Int)) (by decide)<|j5 3 h (fun h=>rg<|fL lc h) (fun h=>rg<|(lc.nx h fun hI=>sk [] [0,1,5] [] hI))) (fun h=>(lc.bk h fun hI=>sk [] [] [] hI))) (fun h=>(lc.bk h fun hI=>sk [] [] [] hI))
def c0u(bal:Int)(who:Int):Option Int :=
 (bif decide (bal<0) then some (-1) else (bif decide (bal>3000) then some (-1) else (bif decide (who<0) then some (-1) else (bif decide (who>=3) then some (-1) else ((p8 (fun s:Int=>a4e bal who s) (m8 (bal+1))).bind fun x=>x.go (fun r=>some r) fun s=>c9Q)))))
theorem e7R{bal who}:OK a8o [vi bal,vi who] (c0u bal who) :=
 o7 _ fun r h=>n9<|j5 2 h (fun h=>rg<|fE h) (fun h=>j5 6 h (fun h=>rg<|fE h) (fun h=>j5 10 h (fun h=>rg<|fE h) (fun h=>j5 13 h (fun h=>rg<|fE h) (fun h=>rg<|lp (f0X bal who) h (fun _ h=>a8o.rt h) (e6S r) fun hI=>sk [] [0,1,5] [] hI))))
def a8h:FS ((List m7)×List m7):=⟨135,Tryz.f135,[.val [some 8] [some 158]],[some (0,.row)],[.row],fun r=>u9 158 8 q9 r.1,fun r=>[some (u9 158 8 q9 r.2)],Tryz.func135⟩
def d0u(list:List m7):(List m7)->KS:=fun out1=>⟨a8h.k 4 [false],(bs 3 (.own 1 0 8 0 out1.length::(bs 24 []))),[some [m6 158 8 q9 list],some [m6 158 8 q9 out1]]⟩
def d5t(list:List m7)(out1:List m7):Option ((List m7)×List m7) :=
 some (out1,list)
theorem f4E(list)(r):NF a8h r (d0u list) (fun s=>d5t list s):=fun out1 h=>PK<|rg<|C7 out1 list<|fE h
def e0H(list:List m7):((List m7)×Int)->KS:=fun (out,i)=>⟨a8h.k 3 [],(.own 0 0 8 0 list.length::(bs 2 (.own 1 0 8 0 out.length::(vi i::(bs 23 []))))),[some [m6 158 8 q9 list],some [m6 158 8 q9 out]]⟩
def b1L(list:List m7)(out:List m7)(i:Int):Option (l7 ((List m7)×List m7) ((List m7)×Int) (List m7)) :=
 (bif decide (i<(list.length:Int)) then ((idx list i).bind fun vote=>((W9 vote.i4).bind fun l5Entry=>(t5 ((out.length+1)*96<=140737488355328) (some (l7.nxt (out++[(m7.mk vote.a7 l5Entry)],m8 (i+1))))))) else some (l7.brk out))
theorem d8V(list):LQ a8h (d0u list) (e0H list) (fun s=>b1L list s.1 s.2):=fun lc (out,i) h=>PK<|rg<|j5 3 h (fun h=>rg<|A9 h fun vote N7 h=>B9 N7<|H9 q9 5 N7<|B9 N7<|H9 q9 10 N7<|j8 a0l a0R 11 h fun l5Entry h=>tk 13 V5<|t8 h fun e1 h=>F6 14 20 158 8 96 q9 out (m7.mk vote.a7 l5Entry) e1<|E4 (m7.mk vote.a7 l5Entry)<|rg<|(lc.nx h fun hI=>sk [] [0,3,4] [(20,0)] hI)) (fun h=>(lc.bk h fun hI=>sk [] [3] [(1,0)] hI))
def b7w(list:List m7):Option ((List m7)×List m7) :=
 ((p8 (fun s:(List m7)×Int=>b1L list s.1 s.2) (([]:List m7),0)).bind fun x=>x.go (fun r=>some r) fun s=>d5t list s)
theorem e4D{list}:OK a8h [u9 158 8 q9 list] (b7w list) :=
 o7 _ fun r h=>n9<|tk 0 V5<|rg<|lp (d8V list) h (fun _ h=>a8h.rt h) (f4E list r) fun hI=>om ((.own 2 0 8 0 0:V)=.own 2 0 8 0 ([]:List m7).length) (by simp)<|sk [.is (.tmp 3) (.own 2 0 8 0 ([]:List m7).length)] [0,3,4] [(2,0)] hI
def d0o:FS (j6×List l8):=⟨81,Tryz.f81,[.val B0 G9,.val [some 13] []],[none],[.val B0 G9],fun r=>.tup [.agg (H0 r.1),j9 13 t0 r.2],fun _=>[none],Tryz.func81⟩
def b7I(n:j6):Option (j6×List l8) :=
 ((a5B n).bind fun D8=>(bif (!D8) then some ((j6.mk 0 (z0.mk 0 []) [] 0 0 0 [] [] (m4.mk false (n7.mk 0 0) (n6.mk [] [] 0 0)) [] false [] (m4.mk false (n7.mk 0 0) (n6.mk [] [] 0 0)) []),([]:List l8)) else ((a6K n).bind fun l8Copy=>((c0u l8Copy.Acc.g9 l8Copy.Id).bind fun a2M=>(bif decide (a2M<0) then some (l8Copy,([]:List l8)) else ((b4n l8Copy).bind fun N2=>((a7z N2.Acc a2M).bind fun l6Promise=>(t5 (0<=(3:Int)/\(3:Int)*1<=140737488355328) (((idx (f5k (3:Int).toNat false) N2.Id).bind fun y=>((b7w l6Promise.1.a6).bind fun o=>(t5 (l6Promise.1.a6.length=o.2.length) (((a3m N2.Id (l8.mk 1 0 0 a2M (N2.a5.length:Int) (m4.mk false (n7.mk 0 0) (n6.mk [] [] 0 0)) [])).bind fun J5=>some ((j6.mk N2.Id (z0.mk l6Promise.1.g9 o.2) N2.a5 N2.Seq 1 a2M ((f5k (3:Int).toNat false).set N2.Id.toNat true) o.1 N2.d6 N2.a6 N2.i9 N2.i6 N2.b8 N2.f0),J5)))))))))))))))
theorem e8v{n}:OK d0o [.agg (H0 n)] (b7I n) :=
 o7 _ fun r h=>n9<|R5 a2z a9q 1 1 h fun D8 h=>A2 n<|j5 2 h (fun h=>rg<|tk 1 C0<|A8 l8<|fE h) (fun h=>rg<|j8 a9G b25 1 h fun l8Copy h=>A2 n<|rg<|j8 a8o e7R 5 h fun a2M h=>rg<|j5 1 h (fun h=>rg<|tk 1 C0<|A2 l8Copy<|A8 l8<|fE h) (fun h=>rg<|j8 b5b c5Z 1 h fun N2 h=>A2 l8Copy<|rg<|j8 b4d b7J 3 h fun l6Promise h=>s6 N2.Acc.a6<|N1<|t8 h fun e1 h=>U0 0 37 4 1 1 eB false ti4 (.none) e1 (by decide) (by rfl)<|rg<|A9 h fun y hy h=>B9 hy<|Q4 4 1 eB 5 [] true hy<|rg<|j8 a8h e4D 3 h fun o h=>t8 h fun e2 h=>s6 l6Promise.1.a6<|rg<|j8 a0y a5X 8 h fun J5 h=>om (l6Promise.1.a6.length=o.2.length) (by first|(simp;done)|(simp [e2];done))<|s6 N2.a5<|om ((f5k (3:Int).toNat false).length=((f5k (3:Int).toNat false).set N2.Id.toNat true).length) (by first|(simp;done)|(simp [e2];done))<|H1 o.1 N2.a6 N2.f0 J5<|fE h))
def b6z:FS (j6×(List l8)×List n5):=⟨82,Tryz.f82,[.val B0 G9,.val [some 13] [],.val [some 5] []],[none],[.val B0 G9],fun r=>.tup [.agg (H0 r.1),j9 13 t0 r.2.1,j9 5 z4 r.2.2],fun _=>[none],Tryz.func82⟩
def d9j(n:j6)(l8Copy:j6):(List l8)->KS:=fun out=>⟨b6z.k 7 [false,true],(bs 2 (.ptr 1 0 0::(bs 2 (.ptr 2 0 0::(.own 8 0 13 0 out.length::(bs 72 [])))))),[some [b2O 8 q9 n.Acc.a6,b2O 7 s7 n.a5,b2O 1 eB n.c9,b2O 1 eB n.a6,b2O 7 s7 n.f0],some [.var 58 [vi 0,vi 0,.nil,.nil,vi 0,vi 0,vi 0,.nil,.nil,.b false,vi 0,vi 0,.nil,.nil,vi 0,vi 0,.nil,.b false,.nil,.b false,vi 0,vi 0,.nil,.nil,vi 0,vi 0,.nil]],some [.var 58 (e74 l8Copy)]]++e9H l8Copy++[some [m6 66 13 t0 out]]⟩
def d0J(l8Copy:j6)(out:List l8):Option (j6×(List l8)×List n5) :=
 some (l8Copy,out,([]:List n5))
theorem e4A(n l8Copy)(r):NF b6z r (d9j n l8Copy) (fun s=>d0J l8Copy s):=fun out h=>PK<|rg<|tk 2 []<|A2 l8Copy<|s6 out<|A8 n5<|fE h
def b50(n:j6):Option (j6×(List l8)×List n5) :=
 ((a5B n).bind fun D8=>(bif (!D8) then some ((j6.mk 0 (z0.mk 0 []) [] 0 0 0 [] [] (m4.mk false (n7.mk 0 0) (n6.mk [] [] 0 0)) [] false [] (m4.mk false (n7.mk 0 0) (n6.mk [] [] 0 0)) []),([]:List l8),([]:List n5)) else ((a6K n).bind fun l8Copy=>((a3m l8Copy.Id (l8.mk 8 0 0 0 (l8Copy.a5.length:Int) (m4.mk false (n7.mk 0 0) (n6.mk [] [] 0 0)) [])).bind fun J5=>(((bif (l8Copy.d8==1) then ((a3m l8Copy.Id (l8.mk 1 0 0 l8Copy.a7 (l8Copy.a5.length:Int) (m4.mk false (n7.mk 0 0) (n6.mk [] [] 0 0)) [])).bind fun b1z=>(t5 ((J5.length+b1z.length)*152<=140737488355328) (some (l9.brk (J5++b1z))))) else (bif (l8Copy.d8==2) then ((a54 l8Copy).bind fun N8=>(t5 ((J5.length+N8.2.length)*152<=140737488355328) (some (l9.ret (N8.1,J5++N8.2,([]:List n5)))))) else (bif (l8Copy.d8==3) then ((a3m l8Copy.Id (l8.mk 3 0 0 l8Copy.a7 (l8Copy.a5.length:Int) l8Copy.d6 [])).bind fun b1A=>(t5 ((J5.length+b1A.length)*152<=140737488355328) (some (l9.brk (J5++b1A))))) else (bif l8Copy.i9 then ((a3m l8Copy.Id (l8.mk 7 0 0 0 0 l8Copy.b8 [])).bind fun b4L=>(t5 ((J5.length+b4L.length)*152<=140737488355328) (some (l9.brk (J5++b4L))))) else some (l9.brk J5))))):Option (l9 (j6×(List l8)×List n5) (List l8))).bind fun x=>x.go some fun j=>d0J l8Copy j)))))
theorem d6Z{n}:OK b6z [.agg (H0 n)] (b50 n) :=
 o7 _ fun r h=>n9<|R5 a2z a9q 1 1 h fun D8 h=>A2 n<|j5 2 h (fun h=>rg<|tk 1 C0<|tk 2 []<|A8 l8<|A8 n5<|fE h) (fun h=>rg<|j8 a9G b25 1 h fun l8Copy h=>A2 n<|rg<|j8 a0y a5X 6 h fun J5 h=>rg<|A7 h (e4A n l8Copy r) fun x1 h hc1=>rg<|j5 1 h (fun h=>rg<|j8 a0y a5X 9 h fun b1z h=>t8 h fun e1 h=>apL 10 34 66 13 152 t0 J5 b1z e1<|s6 b1z<|(p7 h hc1 fun hI=>sk [] [2,5,6] [(2,0),(10,0),(9,0),(9,1),(9,2),(9,3),(9,4),(34,0)] hI)) (fun h=>rg<|j5 1 h (fun h=>rg<|j8 a9y b2q 1 h fun N8 h=>A2 l8Copy<|rg<|t8 h fun e2 h=>apL 3 37 66 13 152 t0 J5 N8.2 e2<|tk 4 []<|(C1 h hc1 fun h=>A2 N8.1<|s6 (J5++N8.2)<|A8 n5<|fE h)) (fun h=>rg<|j5 1 h (fun h=>rg<|j8 a0y a5X 11 h fun b1A h=>t8 h fun e3 h=>apL 12 40 66 13 152 t0 J5 b1A e3<|s6 b1A<|(p7 h hc1 fun hI=>sk [] [2,5,6] [(2,0),(10,0),(9,0),(9,1),(9,2),(9,3),(9,4),(40,0)] hI)) (fun h=>rg<|j5 1 h (fun h=>rg<|j8 a0y a5X 6 h fun b4L h=>t8 h fun e4 h=>apL 7 37 66 13 152 t0 J5 b4L e4<|s6 b4L<|(p7 h hc1 fun hI=>sk [] [2,5,6] [(2,0),(10,0),(9,0),(9,1),(9,2),(9,3),(9,4),(37,0)] hI)) (fun h=>(p7 h hc1 fun hI=>sk [] [2,5,6] [(2,0),(10,0),(9,0),(9,1),(9,2),(9,3),(9,4),(18,0)] hI))))))
def d4R:FS (j6):=⟨83,Tryz.f83,[.val B0 G9],[none],[.val B0 G9],fun r=>.agg (H0 r),fun _=>[none],Tryz.func83⟩
def b6c(n:j6):Option j6 :=
 ((a5B n).bind fun D8=>(bif (!D8) then some (j6.mk 0 (z0.mk 0 []) [] 0 0 0 [] [] (m4.mk false (n7.mk 0 0) (n6.mk [] [] 0 0)) [] false [] (m4.mk false (n7.mk 0 0) (n6.mk [] [] 0 0)) []) else ((a6K n).bind fun l8Copy=>some (j6.mk l8Copy.Id l8Copy.Acc l8Copy.a5 l8Copy.Seq 0 0 [] [] (m4.mk false (n7.mk 0 0) (n6.mk [] [] 0 0)) [] false [] (m4.mk false (n7.mk 0 0) (n6.mk [] [] 0 0)) []))))
theorem e3y{n}:OK d4R [.agg (H0 n)] (b6c n) :=
 o7 _ fun r h=>n9<|R5 a2z a9q 1 1 h fun D8 h=>A2 n<|j5 2 h (fun h=>rg<|fE h) (fun h=>rg<|j8 a9G b25 1 h fun l8Copy h=>A2 n<|rg<|C7 l8Copy.Acc.a6 l8Copy.a5<|fE h)
def b0U:FS (m5):=⟨27,Tryz.f27,[.val E0 T2],[none,none],[.val E0 T2,.val [none,none,some 4] []],fun r=>.agg (T1 r),fun _=>[none,none],Tryz.func27⟩
def e0K(w:m5)(e_:s5)(node:j6):Unit->KS:=fun _=>⟨b0U.k 8 [false,false,true],(bs 2 (.ptr 1 0 0::(.ptr 2 0 0::(.ptr 3 0 0::(bs 76 []))))),[some [C3 58 27 z6 (w.a9.set e_.A.toNat node),m6 66 13 t0 w.c8,m6 68 3 B3 w.d7,m6 62 5 z4 w.Told],some [.var 30 [.own 0 0 27 0 (w.a9.set e_.A.toNat node).length,.own 0 1 13 0 w.c8.length,.own 0 2 3 0 w.d7.length,.own 0 3 5 0 w.Told.length]],some [.var 42 [vi e_.a8,vi e_.A,j9 4 A0 e_.i6]],some [.var 30 [.nil,.nil,.nil,.nil]]]⟩
def c2r(w:m5)(e_:s5)(node:j6):Option m5 :=
 ((b6a (m5.mk (w.a9.set e_.A.toNat node) w.c8 w.d7 w.Told) e_.A e_.i6).bind fun c4b=>some c4b)
theorem e2m(w e_ node)(r):NF b0U r (e0K w e_ node) (fun s=>c2r w e_ node):=fun _ h=>PK<|rg<|j8 d32 e7W 5 h fun c4b h=>H1 (w.a9.set e_.A.toNat node) w.c8 w.d7 w.Told<|B2 c4b<|fE h
def N3(node:j6):List V:=([vi node.Id,vi node.Acc.g9,.own 30 0 8 0 node.Acc.a6.length,.own 30 1 7 0 node.a5.length,vi node.Seq,vi node.d8,vi node.a7,.own 30 2 1 0 node.c9.length]++a6n node++[.own 30 3 1 0 node.a6.length]++a3w node++[.own 30 4 7 0 node.f0.length])
def a7T(node:j6):List V:=([vi node.Id,vi node.Acc.g9,u9 158 8 q9 node.Acc.a6,.own 30 1 7 0 node.a5.length,vi node.Seq,vi node.d8,vi node.a7,.own 30 2 1 0 node.c9.length]++a6n node++[.own 30 3 1 0 node.a6.length]++a3w node++[.own 30 4 7 0 node.f0.length])
def a9M(node:j6):List V:=([vi node.Id,vi node.Acc.g9,u9 158 8 q9 node.Acc.a6,u9 56 7 s7 node.a5,vi node.Seq,vi node.d8,vi node.a7,.own 30 2 1 0 node.c9.length]++a6n node++[.own 30 3 1 0 node.a6.length]++a3w node++[.own 30 4 7 0 node.f0.length])
def b3w(node:j6):List V:=([vi node.Id,vi node.Acc.g9,u9 158 8 q9 node.Acc.a6,u9 56 7 s7 node.a5,vi node.Seq,vi node.d8,vi node.a7,u9 4 1 eB node.c9,j9 8 q9 node.i0,.b node.d6.i7,vi node.d6.a0.b9,vi node.d6.a0.Seq,j9 2 v6 node.d6.b7.b5,j9 2 w8 node.d6.b7.b6,vi node.d6.b7.d9,vi node.d6.b7.Code,.own 30 3 1 0 node.a6.length]++a3w node++[.own 30 4 7 0 node.f0.length])
def b85(node:j6):List V:=[vi node.Id,vi node.Acc.g9,u9 158 8 q9 node.Acc.a6,u9 56 7 s7 node.a5,vi node.Seq,vi node.d8,vi node.a7,u9 4 1 eB node.c9,j9 8 q9 node.i0,.b node.d6.i7,vi node.d6.a0.b9,vi node.d6.a0.Seq,j9 2 v6 node.d6.b7.b5,j9 2 w8 node.d6.b7.b6,vi node.d6.b7.d9,vi node.d6.b7.Code,u9 4 1 eB node.a6,.b node.i9,j9 4 A0 node.i6,.b node.b8.i7,vi node.b8.a0.b9,vi node.b8.a0.Seq,j9 2 v6 node.b8.b7.b5,j9 2 w8 node.b8.b7.b6,vi node.b8.b7.d9,vi node.b8.b7.Code,.own 30 4 7 0 node.f0.length]
def c4h(node:j6):List V:=(a50 node)
def c8q(a0H:j6×List l8):List V:=(a50 a0H.1)
def c9k(Y6:j6×(List l8)×List n5):List V:=(a50 Y6.1)
def c9V(a1M:j6):List V:=(a50 a1M)
def b0d(w:m5)(e_:s5):Option m5 :=
 (bif (e_.a8==2) then ((a97 w e_).bind fun c2m=>some c2m) else (bif (e_.a8==3) then ((a97 w e_).bind fun c01=>some c01) else (bif (e_.a8==4) then ((a97 w e_).bind fun c5N=>some c5N) else (bif decide (e_.A<0) then some w else (bif decide (e_.A>=3) then some w else ((idx w.a9 e_.A).bind fun node=>(bif (e_.a8==1) then c2r w e_ node else (bif (e_.a8==5) then ((b7I node).bind fun a0H=>((a2Q (m5.mk (w.a9.set e_.A.toNat a0H.1) w.c8 w.d7 w.Told) a0H.2).bind fun a2U=>((a3W a2U ([]:List n5)).bind fun a3b=>some a3b))) else (bif (e_.a8==6) then ((b50 node).bind fun Y6=>((a2Q (m5.mk (w.a9.set e_.A.toNat Y6.1) w.c8 w.d7 w.Told) Y6.2.1).bind fun a2P=>((a3W a2P Y6.2.2).bind fun a9b=>some a9b))) else (bif (e_.a8==7) then ((b6c node).bind fun a1M=>((a2Q (m5.mk (w.a9.set e_.A.toNat a1M) w.c8 w.d7 w.Told) ([]:List l8)).bind fun c3c=>((a3W c3c ([]:List n5)).bind fun c1G=>some c1G))) else ((a2Q (m5.mk (w.a9.set e_.A.toNat node) w.c8 w.d7 w.Told) ([]:List l8)).bind fun c1d=>((a3W c1d ([]:List n5)).bind fun c1z=>some c1z))))))))))))
set_option maxRecDepth 20000 in
theorem c1o{w e_}:OK b0U [.agg (T1 w),.agg (H3 e_)] (b0d w e_) :=
 o7 _ fun r h=>n9<|j5 3 h (fun h=>rg<|j8 b9J c4t 2 h fun c2m h=>B2 w<|B2 c2m<|fE h) (fun h=>j5 8 h (fun h=>rg<|j8 b9J c4t 2 h fun c01 h=>B2 w<|B2 c01<|fE h) (fun h=>j5 12 h (fun h=>rg<|j8 b9J c4t 2 h fun c5N h=>B2 w<|B2 c5N<|fE h) (fun h=>rg<|j5 3 h (fun h=>rg<|B2 w<|fE h) (fun h=>j5 7 h (fun h=>rg<|B2 w<|fE h) (fun h=>rg<|A9 h fun node hnode h=>B9 hnode<|ob (b4R (enc:=z6) hnode)<|tl (5,{a:=.drow (z6 node)})<|rg<|tk 0 C0<|rg<|tk 0 []<|n9<|j5 1 h (fun h=>om (((w.a9.map z6).set (0+e_.A.toNat) (N3 node))[0+e_.A.toNat]?=some (N3 node)) (a1U (a1V hnode))<|s6 node.Acc.a6<|om ((((w.a9.map z6).set (0+e_.A.toNat) (N3 node)).set (0+e_.A.toNat) (a7T node))[0+e_.A.toNat]?=some (a7T node)) (a1U (a3K (a1V hnode)))<|s6 node.a5<|om (((((w.a9.map z6).set (0+e_.A.toNat) (N3 node)).set (0+e_.A.toNat) (a7T node)).set (0+e_.A.toNat) (a9M node))[0+e_.A.toNat]?=some (a9M node)) (a1U (a3K (a3K (a1V hnode))))<|s6 node.c9<|om ((((((w.a9.map z6).set (0+e_.A.toNat) (N3 node)).set (0+e_.A.toNat) (a7T node)).set (0+e_.A.toNat) (a9M node)).set (0+e_.A.toNat) (b3w node))[0+e_.A.toNat]?=some (b3w node)) (a1U (a3K (a3K (a3K (a1V hnode)))))<|s6 node.a6<|om (((((((w.a9.map z6).set (0+e_.A.toNat) (N3 node)).set (0+e_.A.toNat) (a7T node)).set (0+e_.A.toNat) (a9M node)).set (0+e_.A.toNat) (b3w node)).set (0+e_.A.toNat) (b85 node))[0+e_.A.toNat]?=some (b85 node)) (a1U (a3K (a3K (a3K (a3K (a1V hnode))))))<|s6 node.f0<|om (((((((w.a9.map z6).set (0+e_.A.toNat) (N3 node)).set (0+e_.A.toNat) (a7T node)).set (0+e_.A.toNat) (a9M node)).set (0+e_.A.toNat) (b3w node)).set (0+e_.A.toNat) (b85 node)).set (0+e_.A.toNat) (c4h node)=(w.a9.set e_.A.toNat node).map z6) (W2 (W2 (W2 (W2 (W2 (a0I rfl))))))<|om (H8 ((w.a9.set e_.A.toNat node).map z6)) (H8.map a6t _)<|om (w.a9.length=(w.a9.set e_.A.toNat node).length) (by simp)<|om ((.own 0 0 27 0 w.a9.length:V)=.own 0 0 27 0 (w.a9.set e_.A.toNat node).length) (by simp)<|sk [.plug 0 0 (0+e_.A.toNat) 2 (N3 node) 158,.plug 0 0 (0+e_.A.toNat) 3 (a7T node) 56,.plug 0 0 (0+e_.A.toNat) 7 (a9M node) 4,.plug 0 0 (0+e_.A.toNat) 16 (b3w node) 4,.plug 0 0 (0+e_.A.toNat) 26 (b85 node) 56,.shut 0 0 (w.a9.set e_.A.toNat node).length ((w.a9.set e_.A.toNat node).map z6),.is (.cell 1 0 0) (.own 0 0 27 0 (w.a9.set e_.A.toNat node).length)] [2,3,4] [(1,0),(2,0),(3,0)] (e2m w e_ node r () h)) (fun h=>rg<|j5 1 h (fun h=>rg<|j8 d0o e8v 1 h fun a0H h=>A2 node<|rg<|B9 hnode<|om (s8.deep false 58 27 w.a9.length (((w.a9.map z6).set (0+e_.A.toNat) (N3 node)).set (0+e_.A.toNat) (c8q a0H))=C3 58 27 z6 (w.a9.set e_.A.toNat a0H.1)) (a7K (W2 (a0I rfl)) (by simp))<|om (H8 (((w.a9.map z6).set (0+e_.A.toNat) (N3 node)).set (0+e_.A.toNat) (c8q a0H))) (a8u (W2 (a0I rfl)) a6t)<|om (((w.a9.map z6).set (0+e_.A.toNat) (N3 node))[0+e_.A.toNat]?=some (N3 node)) (a1U (a1V hnode))<|A2 a0H.1<|tl (6,{a:=.dsc (N3 node) [none,none,some 8,some 7,none,none,none,some 1,some 8,none,none,none,some 2,some 2,none,none,some 1,none,some 4,none,none,none,some 2,some 2,none,none,some 7] [none,none,some 158,some 56,none,none,none,some 4,none,none,none,none,none,none,none,none,some 4,none,none,none,none,none,none,none,none,none,some 56],e:=some (C3 58 27 z6 (w.a9.set e_.A.toNat a0H.1))})<|rg<|j8 a05 a7f 2 h fun a2U h=>om (w.a9.length=(w.a9.set e_.A.toNat a0H.1).length) (by simp)<|W7 w.c8 w.d7 w.Told<|j8 a17 a76 4 h fun a3b h=>B2 a2U<|A8 n5<|B2 a3b<|fE h) (fun h=>rg<|j5 1 h (fun h=>rg<|j8 b6z d6Z 1 h fun Y6 h=>A2 node<|rg<|B9 hnode<|om (s8.deep false 58 27 w.a9.length (((w.a9.map z6).set (0+e_.A.toNat) (N3 node)).set (0+e_.A.toNat) (c9k Y6))=C3 58 27 z6 (w.a9.set e_.A.toNat Y6.1)) (a7K (W2 (a0I rfl)) (by simp))<|om (H8 (((w.a9.map z6).set (0+e_.A.toNat) (N3 node)).set (0+e_.A.toNat) (c9k Y6))) (a8u (W2 (a0I rfl)) a6t)<|om (((w.a9.map z6).set (0+e_.A.toNat) (N3 node))[0+e_.A.toNat]?=some (N3 node)) (a1U (a1V hnode))<|A2 Y6.1<|tl (6,{a:=.dsc (N3 node) [none,none,some 8,some 7,none,none,none,some 1,some 8,none,none,none,some 2,some 2,none,none,some 1,none,some 4,none,none,none,some 2,some 2,none,none,some 7] [none,none,some 158,some 56,none,none,none,some 4,none,none,none,none,none,none,none,none,some 4,none,none,none,none,none,none,none,none,none,some 56],e:=some (C3 58 27 z6 (w.a9.set e_.A.toNat Y6.1))})<|rg<|j8 a05 a7f 2 h fun a2P h=>om (w.a9.length=(w.a9.set e_.A.toNat Y6.1).length) (by simp)<|W7 w.c8 w.d7 w.Told<|j8 a17 a76 4 h fun a9b h=>B2 a2P<|B2 a9b<|fE h) (fun h=>rg<|j5 1 h (fun h=>rg<|j8 d4R e3y 1 h fun a1M h=>A2 node<|rg<|B9 hnode<|om (s8.deep false 58 27 w.a9.length (((w.a9.map z6).set (0+e_.A.toNat) (N3 node)).set (0+e_.A.toNat) (c9V a1M))=C3 58 27 z6 (w.a9.set e_.A.toNat a1M)) (a7K (W2 (a0I rfl)) (by simp))<|om (H8 (((w.a9.map z6).set (0+e_.A.toNat) (N3 node)).set (0+e_.A.toNat) (c9V a1M))) (a8u (W2 (a0I rfl)) a6t)<|om (((w.a9.map z6).set (0+e_.A.toNat) (N3 node))[0+e_.A.toNat]?=some (N3 node)) (a1U (a1V hnode))<|A2 a1M<|tl (6,{a:=.dsc (N3 node) [none,none,some 8,some 7,none,none,none,some 1,some 8,none,none,none,some 2,some 2,none,none,some 1,none,some 4,none,none,none,some 2,some 2,none,none,some 7] [none,none,some 158,some 56,none,none,none,some 4,none,none,none,none,none,none,none,none,some 4,none,none,none,none,none,none,none,none,none,some 56],e:=some (C3 58 27 z6 (w.a9.set e_.A.toNat a1M))})<|rg<|j8 a05 a7f 2 h fun c3c h=>om (w.a9.length=(w.a9.set e_.A.toNat a1M).length) (by simp)<|W7 w.c8 w.d7 w.Told<|A8 l8<|j8 a17 a76 4 h fun c1G h=>B2 c3c<|A8 n5<|B2 c1G<|fE h) (fun h=>rg<|B9 hnode<|om (s8.deep false 58 27 w.a9.length (((w.a9.map z6).set (0+e_.A.toNat) (N3 node)).set (0+e_.A.toNat) (c4h node))=C3 58 27 z6 (w.a9.set e_.A.toNat node)) (a7K (W2 (a0I rfl)) (by simp))<|om (H8 (((w.a9.map z6).set (0+e_.A.toNat) (N3 node)).set (0+e_.A.toNat) (c4h node))) (a8u (W2 (a0I rfl)) a6t)<|om (((w.a9.map z6).set (0+e_.A.toNat) (N3 node))[0+e_.A.toNat]?=some (N3 node)) (a1U (a1V hnode))<|A2 node<|tl (6,{a:=.dsc (N3 node) [none,none,some 8,some 7,none,none,none,some 1,some 8,none,none,none,some 2,some 2,none,none,some 1,none,some 4,none,none,none,some 2,some 2,none,none,some 7] [none,none,some 158,some 56,none,none,none,some 4,none,none,none,none,none,none,none,none,some 4,none,none,none,none,none,none,none,none,none,some 56],e:=some (C3 58 27 z6 (w.a9.set e_.A.toNat node))})<|rg<|j8 a05 a7f 2 h fun c1d h=>om (w.a9.length=(w.a9.set e_.A.toNat node).length) (by simp)<|W7 w.c8 w.d7 w.Told<|A8 l8<|j8 a17 a76 4 h fun c1z h=>B2 c1d<|A8 n5<|B2 c1z<|fE h)))))))))
def a2q:FS (m5×List s5):=⟨52,Tryz.f52,[.val E0 T2,.val [some 3] [some 42]],[none,none,none],[.val E0 T2,.val [some 3] [some 42],.val [none,none,some 4] []],fun r=>.tup [.agg (T1 r.1),u9 42 3 H3 r.2],fun _=>[none,none,none],Tryz.func52⟩
def a01(w:m5)(out:List s5)(e_:s5):Option (m5×List s5) :=
 ((b0d w e_).bind fun a0V=>(t5 ((out.length+1)*40<=140737488355328) (some (a0V,out++[e_]))))
theorem a26{w out e_}:OK a2q [.agg (T1 w),u9 42 3 H3 out,.agg (H3 e_)] (a01 w out e_) :=
 o7 _ fun r h=>n9<|j8 b0U c1o 2 h fun a0V h=>B2 w<|tk 5 [none,none,some 4]<|t8 h fun e1 h=>F6 6 11 42 3 40 H3 out e_ e1<|E4 e_<|B2 a0V<|s6 (out++[e_])<|fE h
def b0H:FS (Int×t7):=⟨55,Tryz.f55,[.val [] []],[some (0,.ptr [some 1,none] []),none],[.ptr [some 1,none] [],.val [some 1] []],fun r=>vi r.1,fun r=>[some (.optr 107 (Z7 r.2)),none],Tryz.func55⟩
def a6A(r_:t7)(list:List Int):Option (Int×t7) :=
 ((F9 r_ (list.length:Int)).bind fun pick=>((idx list pick.1).bind fun y=>some (y,pick.2)))
theorem b3U{r_ list}:OK b0H [.optr 107 (Z7 r_),j9 1 eI list] (a6A r_ list) :=
 o7 _ fun r h=>n9<|j8 G4 G5 4 h fun pick h=>v5 eI 5 h fun y hy h=>fE h
def c8j:FS (Int):=⟨164,Tryz.f164,[.val [] []],[none,none],[.val [] [],.val [] []],fun r=>vi r,fun _=>[none,none],Tryz.func164⟩
def b92(a:Int)(b:Int):Option Int :=
 (bif decide (a>b) then some a else some b)
theorem d8A{a b}:OK c8j [vi a,vi b] (b92 a b) :=
 o7 _ fun r h=>n9<|j5 2 h (fun h=>rg<|fE h) (fun h=>rg<|fE h)
def b71:FS (n8×t7):=⟨111,Tryz.f111,[.val [] []],[some (0,.ptr [some 1,none] [])],[.ptr [some 1,none] []],fun r=>.agg (A0 r.1),fun r=>[some (.optr 107 (Z7 r.2))],Tryz.func111⟩
def e2K:(t7×n8)->KS:=fun (w,i)=>⟨b71.k 6 [true],(bs 2 (.ptr 1 0 0::(.ptr 2 0 0::(bs 36 [])))),[some [.var 107 [j9 1 K0 w.b,vi w.p]],some [.var 115 [vi 0,vi 0,vi 0,vi 0]],some [.var 115 [vi i.a8,vi i.A,vi i.B,vi i.N]]]⟩
def c8z(w:t7)(i:n8):Option (n8×t7) :=
 some (i,w)
theorem e7J(r):NF b71 r e2K (fun s=>c8z s.1 s.2):=fun (w,i) h=>PK<|rg<|fE h
def b8i(r_:t7):Option (n8×t7) :=
 ((a6A r_ [1,1,2,2,3,4,4,5,6,7]).bind fun num=>((F9 num.2 3).bind fun pick=>((F9 pick.2 3).bind fun F5=>(((bif (num.1==3) then ((a6A F5.2 [0,1,5,(-2),100,1000000]).bind fun a85=>some (l9.brk (a85.2,(n8.mk num.1 pick.1 0 a85.1)))) else (bif (num.1==6) then ((F9 F5.2 3).bind fun a0o=>some (l9.brk (a0o.2,(n8.mk num.1 pick.1 F5.1 (m8 (1+a0o.1)))))) else (bif (num.1==7) then ((F9 F5.2 3).bind fun Y7=>(bif decide (Y7.1>0) then ((F9 Y7.2 4).bind fun X4=>((F9 X4.2 4).bind fun a3s=>some (l9.ret ((n8.mk 4 X4.1 a3s.1 0),a3s.2)))) else some (l9.brk (Y7.2,(n8.mk num.1 0 0 0))))) else some (l9.brk (F5.2,(n8.mk num.1 pick.1 F5.1 0)))))):Option (l9 (n8×t7) (t7×n8))).bind fun x=>x.go some fun j=>c8z j.1 j.2))))
theorem e9k{r_}:OK b71 [.optr 107 (Z7 r_)] (b8i r_) :=
 o7 _ fun r h=>n9<|tk 1 []<|j8 b0H b3U 2 h fun num h=>om (10=[1,1,2,2,3,4,4,5,6,7].length) (by simp)<|j8 G4 G5 4 h fun pick h=>j8 G4 G5 6 h fun F5 h=>rg<|A7 h (e7J r) fun x1 h hc1=>rg<|j5 1 h (fun h=>n9<|tk 1 []<|j8 b0H b3U 2 h fun a85 h=>om (6=[0,1,5,(-2),100,1000000].length) (by simp)<|(p7 h hc1 fun hI=>sk [] [2,3] [(1,0),(10,0)] hI)) (fun h=>rg<|j5 1 h (fun h=>rg<|j8 G4 G5 1 h fun a0o h=>(p7 h hc1 fun hI=>sk [] [2,3] [(1,0),(10,0)] hI)) (fun h=>rg<|j5 1 h (fun h=>rg<|j8 G4 G5 1 h fun Y7 h=>j5 2 h (fun h=>rg<|j8 G4 G5 1 h fun X4 h=>j8 G4 G5 3 h fun a3s h=>(C1 h hc1 fun h=>fE h)) (fun h=>n9<|(p7 h hc1 fun hI=>sk [] [2,3] [(1,0),(10,0)] hI))) (fun h=>(p7 h hc1 fun hI=>sk [] [2,3] [(1,0),(10,0)] hI))))
def a3f:FS ((List n8)×t7):=⟨57,Tryz.f57,[.val [some 4] [some 115]],[some (0,.ptr [some 1,none] [])],[.ptr [some 1,none] []],fun r=>u9 115 4 A0 r.1,fun r=>[some (.optr 107 (Z7 r.2))],Tryz.func57⟩
def d01:(t7×List n8)->KS:=fun (w,out1)=>⟨a3f.k 5 [false,false],(bs 5 (.own 1 0 4 0 out1.length::(bs 31 []))),[some [.var 107 [j9 1 K0 w.b,vi w.p]],some [m6 115 4 A0 out1]]⟩
def c8Y(w:t7)(out1:List n8):Option ((List n8)×t7) :=
 some (out1,w)
theorem e7h(r):NF a3f r d01 (fun s=>c8Y s.1 s.2):=fun (w,out1) h=>PK<|rg<|s6 out1<|fE h
def e2N:(t7×(List n8)×Int)->KS:=fun (r_1,out,i)=>⟨a3f.k 4 [false],(.ptr 0 0 0::(bs 4 (.own 1 0 4 0 out.length::(vi i::(bs 30 []))))),[some [.var 107 [j9 1 K0 r_1.b,vi r_1.p]],some [m6 115 4 A0 out]]⟩
def b7u(r_1:t7)(out:List n8)(i:Int):Option (l7 ((List n8)×t7) (t7×(List n8)×Int) (t7×List n8)) :=
 (bif decide (i>0) then ((b8i r_1).bind fun b3S=>(t5 ((out.length+1)*32<=140737488355328) (some (l7.nxt (b3S.2,out++[b3S.1],m8 (i-1)))))) else some (l7.brk (r_1,out)))
theorem e4j:LQ a3f d01 e2N (fun s=>b7u s.1 s.2.1 s.2.2):=fun lc (r_1,out,i) h=>PK<|rg<|j5 1 h (fun h=>rg<|j8 b71 e9k 2 h fun b3S h=>tk 3 []<|t8 h fun e1 h=>F6 4 8 115 4 32 A0 out b3S.1 e1<|E4 b3S.1<|rg<|(lc.nx h fun hI=>sk [] [0,5,6] [(8,0)] hI)) (fun h=>(lc.bk h fun hI=>sk [] [5] [(1,0)] hI))
def a49(r_:t7):Option ((List n8)×t7) :=
 ((F9 r_ 3).bind fun pick=>(bif (pick.1==0) then ((F9 pick.2 3).bind fun F5=>((F9 F5.2 3).bind fun a0o=>((F9 a0o.2 3).bind fun Y7=>some ([(n8.mk 1 0 F5.1 0),(n8.mk 3 1 0 (m8 (1+Y7.1))),(n8.mk 4 0 1 0),(n8.mk 2 a0o.1 0 0)],Y7.2)))) else ((F9 pick.2 8).bind fun X4=>((p8 (fun s:t7×(List n8)×Int=>b7u s.1 s.2.1 s.2.2) (X4.2,([]:List n8),X4.1)).bind fun x=>x.go (fun r=>some r) fun s=>c8Y s.1 s.2))))
theorem b2K{r_}:OK a3f [.optr 107 (Z7 r_)] (a49 r_) :=
 o7 _ fun r h=>n9<|j8 G4 G5 1 h fun pick h=>j5 2 h (fun h=>rg<|j8 G4 G5 1 h fun F5 h=>rg<|j8 G4 G5 1 h fun a0o h=>rg<|j8 G4 G5 3 h fun Y7 h=>tk 9 []<|om (4=[(n8.mk 1 0 F5.1 0),(n8.mk 3 1 0 (m8 (1+Y7.1))),(n8.mk 4 0 1 0),(n8.mk 2 a0o.1 0 0)].length) (by simp)<|fE h) (fun h=>rg<|tk 0 []<|rg<|j8 G4 G5 1 h fun X4 h=>lp (e4j) h (fun _ h=>a3f.rt h) (e7h r) fun hI=>om ((.own 5 0 4 0 0:V)=.own 5 0 4 0 ([]:List n8).length) (by simp)<|sk [.is (.tmp 5) (.own 5 0 4 0 ([]:List n8).length)] [0,5,6] [(5,0)] hI)
def b9X:FS (s5×t7×m5):=⟨110,Tryz.f110,[.val [none,none,some 4] [none,none,some 115]],[some (0,.ptr [some 1,none] []),some (1,.val E0 T2)],[.ptr [some 1,none] [],.val E0 T2],fun r=>.agg [vi r.1.a8,vi r.1.A,u9 115 4 A0 r.1.i6],fun r=>[some (.optr 107 (Z7 r.2.1)),some (.agg (T1 r.2.2))],Tryz.func110⟩
def e8e(w:m5)(pick:Int×t7):(t7×Int)->KS:=fun (w1,eKind)=>⟨b9X.k 12 [false,false,false,false,false,false,false,true,false],(bs 4 (.ptr 1 0 0::(.ptr 2 0 0::(bs 57 [])))),[some [.var 107 [j9 1 K0 w1.b,vi w1.p],C3 58 27 z6 w.a9,m6 66 13 t0 w.c8,m6 68 3 B3 w.d7,m6 62 5 z4 w.Told],some [.var 42 [vi 0,vi 0,.nil]],some [.var 42 [vi eKind,vi pick.1,.nil]]]⟩
def c7f(w:m5)(pick:Int×t7)(w1:t7)(eKind:Int):Option (s5×t7×m5) :=
 some ((s5.mk eKind pick.1 []),w1,w)
theorem e4p(w pick)(r):NF b9X r (e8e w pick) (fun s=>c7f w pick s.1 s.2):=fun (w1,eKind) h=>PK<|rg<|B2 w<|fE h
def b6A(r_:t7)(w:m5):Option (s5×t7×m5) :=
 ((b92 1 (w.c8.length:Int)).bind fun c80=>((F9 r_ c80).bind fun pick=>((F9 pick.2 24).bind fun F5=>(bif (F5.1==0) then ((F9 F5.2 3).bind fun a0o=>((a49 a0o.2).bind fun a4V=>some ((s5.mk 1 a0o.1 a4V.1),a4V.2,w))) else (bif (F5.1==1) then ((F9 F5.2 3).bind fun Y7=>((a49 Y7.2).bind fun c0d=>some ((s5.mk 1 Y7.1 c0d.1),c0d.2,w))) else (bif (F5.1==2) then ((F9 F5.2 3).bind fun X4=>((a49 X4.2).bind fun c0p=>some ((s5.mk 1 X4.1 c0p.1),c0p.2,w))) else (((bif (F5.1==3) then ((F9 F5.2 3).bind fun a3s=>((a49 a3s.2).bind fun b8h=>some (l9.ret ((s5.mk 1 a3s.1 b8h.1),b8h.2,w)))) else (bif (F5.1==4) then ((F9 F5.2 3).bind fun a7w=>some (l9.ret ((s5.mk 5 a7w.1 []),a7w.2,w))) else (bif (F5.1==5) then ((F9 F5.2 3).bind fun a74=>some (l9.ret ((s5.mk 6 a74.1 []),a74.2,w))) else (bif (F5.1==6) then ((F9 F5.2 3).bind fun a4P=>some (l9.ret ((s5.mk 6 a4P.1 []),a4P.2,w))) else (bif (F5.1==7) then ((F9 F5.2 2).bind fun a5o=>(bif (a5o.1==0) then ((F9 a5o.2 3).bind fun a6a=>some (l9.ret ((s5.mk 7 a6a.1 []),a6a.2,w))) else some (l9.brk (a5o.2,2)))) else (bif (F5.1==8) then some (l9.brk (F5.2,3)) else (bif (F5.1==9) then some (l9.brk (F5.2,4)) else (bif (F5.1==10) then ((F9 F5.2 3).bind fun a51=>(bif (a51.1==0) then ((F9 a51.2 10).bind fun a6x=>((F9 a6x.2 5).bind fun c1b=>some (l9.ret ((s5.mk (m8 (a6x.1-1)) (m8 (c1b.1-1)) []),c1b.2,w)))) else some (l9.brk (a51.2,2)))) else some (l9.brk (F5.2,2)))))))))):Option (l9 (s5×t7×m5) (t7×Int))).bind fun x=>x.go some fun j=>c7f w pick j.1 j.2)))))))
set_option maxRecDepth 20000 in
theorem e8a{r_ w}:OK b9X [.optr 107 (Z7 r_),.agg (T1 w)] (b6A r_ w) :=
 o7 _ fun r h=>n9<|j8 c8j d8A 4 h fun c80 h=>j8 G4 G5 5 h fun pick h=>rg<|j8 G4 G5 1 h fun F5 h=>rg<|j5 1 h (fun h=>rg<|j8 G4 G5 1 h fun a0o h=>j8 a3f b2K 3 h fun a4V h=>s6 a4V.1<|B2 w<|fE h) (fun h=>rg<|j5 1 h (fun h=>rg<|j8 G4 G5 1 h fun Y7 h=>j8 a3f b2K 3 h fun c0d h=>s6 c0d.1<|B2 w<|fE h) (fun h=>rg<|j5 1 h (fun h=>rg<|j8 G4 G5 1 h fun X4 h=>j8 a3f b2K 3 h fun c0p h=>s6 c0p.1<|B2 w<|fE h) (fun h=>A7 h (e4p w pick r) fun x1 h hc1=>rg<|j5 1 h (fun h=>rg<|j8 G4 G5 1 h fun a3s h=>j8 a3f b2K 3 h fun b8h h=>(C1 h hc1 fun h=>s6 b8h.1<|B2 w<|fE h)) (fun h=>rg<|j5 1 h (fun h=>rg<|j8 G4 G5 1 h fun a7w h=>(C1 h hc1 fun h=>B2 w<|fE h)) (fun h=>rg<|j5 1 h (fun h=>rg<|j8 G4 G5 1 h fun a74 h=>(C1 h hc1 fun h=>B2 w<|fE h)) (fun h=>rg<|j5 1 h (fun h=>rg<|j8 G4 G5 1 h fun a4P h=>(C1 h hc1 fun h=>B2 w<|fE h)) (fun h=>rg<|j5 1 h (fun h=>rg<|j8 G4 G5 1 h fun a5o h=>j5 2 h (fun h=>rg<|j8 G4 G5 1 h fun a6a h=>(C1 h hc1 fun h=>B2 w<|fE h)) (fun h=>(p7 h hc1 fun hI=>sk [] [4,5] [(2,0),(10,0)] hI))) (fun h=>rg<|j5 1 h (fun h=>rg<|(p7 h hc1 fun hI=>sk [] [4,5] [(2,0),(10,0)] hI)) (fun h=>rg<|j5 1 h (fun h=>rg<|(p7 h hc1 fun hI=>sk [] [4,5] [(2,0),(10,0)] hI)) (fun h=>rg<|j5 1 h (fun h=>rg<|j8 G4 G5 1 h fun a51 h=>j5 2 h (fun h=>rg<|j8 G4 G5 1 h fun a6x h=>j8 G4 G5 4 h fun c1b h=>(C1 h hc1 fun h=>B2 w<|fE h)) (fun h=>(p7 h hc1 fun hI=>sk [] [4,5] [(2,0),(10,0)] hI))) (fun h=>(p7 h hc1 fun hI=>sk [] [4,5] [(2,0),(10,0)] hI))))))))))))
def b0y:FS (Bool):=⟨73,Tryz.f73,[.val [] []],[none],[.val C0 []],fun r=>.b r,fun _=>[none],Tryz.func73⟩
def e0h(m:l8):Unit->KS:=fun _=>⟨b0y.k 2 [false],(bs 1 (.ptr 1 0 0::(bs 158 []))),[some [],some [.var 66 (a4M m)]]⟩
def e9Q(m:l8)(l7None:Bool):Bool->KS:=fun right=>⟨b0y.k 4 [false],(bs 1 (.ptr 1 0 0::(bs 1 (.b l7None::(.b right::(bs 155 [])))))),[some [],some [.var 66 (a4M m)]]⟩
def b20(m:l8)(l7None:Bool)(right:Bool):Option Bool :=
 (bif (m.a8==1) then ((a1i m.a7).bind fun a0d=>(bif a0d then some l7None else some false)) else (bif (m.a8==2) then ((a1i m.a7).bind fun b4q=>(bif b4q then (bif l7None then ((a7m m.a6).bind fun a63=>(bif a63 then some (decide ((m8 (m.g8+(m.a6.length:Int)))<=40)) else some false)) else some false) else some false)) else (bif (m.a8==3) then ((a1i m.a7).bind fun b2a=>(bif b2a then some right else some false)) else (bif (m.a8==4) then ((a1i m.a7).bind fun c9A=>(bif c9A then some l7None else some false)) else (bif (m.a8==5) then (bif (m.a7==0) then some right else some false) else (bif (m.a8==6) then ((a1i m.a7).bind fun d30=>(bif d30 then (bif l7None then some (m.g8==0) else some false) else some false)) else (bif (m.a8==7) then (bif (m.a7==0) then (bif (m.g8==0) then ((a1e m.i4).bind fun E5=>(bif E5 then some (!m.i4.i7) else some false)) else some false) else some false) else (bif (m.a8==8) then (bif (m.a7==0) then some l7None else some false) else some false))))))))
theorem e27(m l7None)(r):NF b0y r (e9Q m l7None) (fun s=>b20 m l7None s):=fun right h=>PK<|n9<|j5 1 h (fun h=>rg<|j8 a10 a2f 2 h fun a0d h=>j5 3 h (fun h=>fE h) (fun h=>fE h)) (fun h=>rg<|j5 1 h (fun h=>rg<|j8 a10 a2f 2 h fun b4q h=>j5 3 h (fun h=>j5 6 h (fun h=>j8 a2W b2i 9 h fun a63 h=>j5 11 h (fun h=>fE h) (fun h=>fE h)) (fun h=>fE h)) (fun h=>fE h)) (fun h=>rg<|j5 1 h (fun h=>rg<|j8 a10 a2f 2 h fun b2a h=>j5 3 h (fun h=>fE h) (fun h=>fE h)) (fun h=>rg<|j5 1 h (fun h=>rg<|j8 a10 a2f 2 h fun c9A h=>j5 3 h (fun h=>fE h) (fun h=>fE h)) (fun h=>rg<|j5 1 h (fun h=>rg<|j5 3 h (fun h=>fE h) (fun h=>fE h)) (fun h=>rg<|j5 1 h (fun h=>rg<|j8 a10 a2f 2 h fun d30 h=>j5 3 h (fun h=>j5 6 h (fun h=>fE h) (fun h=>fE h)) (fun h=>fE h)) (fun h=>rg<|j5 1 h (fun h=>rg<|j5 3 h (fun h=>j5 8 h (fun h=>j8 a2c a2L 11 h fun E5 h=>j5 13 h (fun h=>fE h) (fun h=>fE h)) (fun h=>fE h)) (fun h=>fE h)) (fun h=>rg<|j5 1 h (fun h=>rg<|j5 3 h (fun h=>fE h) (fun h=>fE h)) (fun h=>rg<|fE h))))))))
def b9H(m:l8):Option Bool :=
 ((a4W m.i4).bind fun l7None=>((((a1e m.i4).bind fun a29=>(bif a29 then some (l9.brk (decide (m.g8<40))) else some (l9.brk false))):Option (l9 Bool Bool)).bind fun x=>x.go some fun j=>b20 m l7None j))
theorem e0O(m)(r):NF b0y r (e0h m) (fun s=>b9H m):=fun _ h=>PK<|rg<|j8 a9o b03 2 h fun l7None h=>A7 h (e27 m l7None r) fun x1 h hc1=>rg<|j8 a2c a2L 2 h fun a29 h=>j5 3 h (fun h=>(p7 h hc1 fun hI=>sk [] [1,3,4] [(1,0)] hI)) (fun h=>(p7 h hc1 fun hI=>sk [] [1,3,4] [(1,0)] hI))
def b9q(m:l8):Option Bool :=
 (((bif decide (m.c9<0) then some (l9.ret false) else (bif decide (m.c9>=3) then some (l9.ret false) else (bif decide (m.To<0) then some (l9.ret false) else (bif decide (m.To>=3) then some (l9.ret false) else (bif (m.c9==m.To) then some (l9.ret false) else (bif decide (m.g8<0) then some (l9.ret false) else (bif decide (m.g8>40) then some (l9.ret false) else (bif (m.a8 != 2) then (bif decide ((m.a6.length:Int)>0) then some (l9.ret false) else some (l9.brk ())) else some (l9.brk ()))))))))):Option (l9 Bool Unit)).bind fun x=>x.go some fun j=>b9H m)
theorem d7p{m}:OK b0y [.agg (t0 m)] (b9q m) :=
 o7 _ fun r h=>rg<|A7 h (e0O m r) fun x1 h hc1=>rg<|j5 3 h (fun h=>rg<|(C1 h hc1 fun h=>fE h)) (fun h=>j5 8 h (fun h=>rg<|(C1 h hc1 fun h=>fE h)) (fun h=>j5 13 h (fun h=>rg<|(C1 h hc1 fun h=>fE h)) (fun h=>j5 18 h (fun h=>rg<|(C1 h hc1 fun h=>fE h)) (fun h=>j5 25 h (fun h=>rg<|(C1 h hc1 fun h=>fE h)) (fun h=>j5 30 h (fun h=>rg<|(C1 h hc1 fun h=>fE h)) (fun h=>j5 35 h (fun h=>rg<|(C1 h hc1 fun h=>fE h)) (fun h=>j5 39 h (fun h=>j5 45 h (fun h=>rg<|(C1 h hc1 fun h=>fE h)) (fun h=>(p7 h hc1 fun hI=>sk [] [1] [(1,0)] hI))) (fun h=>(p7 h hc1 fun hI=>sk [] [1] [(1,0)] hI)))))))))
def d0M:FS (Bool):=⟨76,Tryz.f76,[.val [] []],[none],[.val [] []],fun r=>.b r,fun _=>[none],Tryz.func76⟩
def b9l(a:n5):Option Bool :=
 (bif decide (a.Node>=0) then (bif decide (a.Node<3) then ((a90 a.a0).bind fun a6W=>(bif a6W then (bif (a.a0.b9==a.Node) then (bif decide (a.Code>=0) then (bif decide (a.Code<=4) then ((a6I a.d9).bind fun a04=>some a04) else some false) else some false) else some false) else some false)) else some false) else some false)
theorem d8Y{a}:OK d0M [.agg (z4 a)] (b9l a) :=
 o7 _ fun r h=>n9<|j5 3 h (fun h=>j5 8 h (fun h=>j8 b9M c2O 11 h fun a6W h=>j5 13 h (fun h=>j5 21 h (fun h=>j5 26 h (fun h=>j5 31 h (fun h=>j8 a7L a9A 34 h fun a04 h=>fE h) (fun h=>fE h)) (fun h=>fE h)) (fun h=>fE h)) (fun h=>fE h)) (fun h=>fE h)) (fun h=>fE h)
def K3:FS (Bool):=⟨25,Tryz.f25,[.val [] []],[none],[.val E0 []],fun r=>.b r,fun _=>[none],Tryz.func25⟩
def c8W(w:m5):Unit->KS:=fun _=>⟨K3.k 4 [false,false],(bs 1 (.ptr 1 0 0::(bs 104 []))),[some [],some [.var 30 (G8 w)]]⟩
def c64(w:m5):Unit->KS:=fun _=>⟨K3.k 6 [false,false,false],(bs 1 (.ptr 1 0 0::(bs 104 []))),[some [],some [.var 30 (G8 w)]]⟩
def d4a(w:m5):Unit->KS:=fun _=>⟨K3.k 8 [false,false,false,false],(bs 1 (.ptr 1 0 0::(bs 104 []))),[some [],some [.var 30 (G8 w)]]⟩
def d0p:Unit->KS:=fun _=>⟨K3.k 10 [false,false,false,false,false],(bs 106 []),[some []]⟩
def d5i:Option Bool :=
 some true
theorem e0W(r):NF K3 r d0p (fun s=>d5i):=fun _ h=>PK<|rg<|fE h
def f2Y(w:m5):Int->KS:=fun i3=>⟨K3.k 9 [false,false,false,false],(bs 1 (.ptr 1 0 0::(bs 4 (vi i3::(bs 99 []))))),[some [],some [.var 30 (G8 w)]]⟩
def b8G(w:m5)(i3:Int):Option (l7 Bool Int Unit) :=
 (bif decide (i3<(w.Told.length:Int)) then ((idx w.Told i3).bind fun told=>((b9l told).bind fun d20=>(bif (!d20) then some (l7.ret false) else some (l7.nxt (m8 (i3+1)))))) else some (l7.brk ()))
theorem d7i(w):LQ K3 d0p (f2Y w) (fun s=>b8G w s):=fun lc i3 h=>PK<|rg<|j5 4 h (fun h=>rg<|v5 z4 3 h fun told a3Q h=>j8 d0M d8Y 5 h fun d20 h=>j5 6 h (fun h=>rg<|fL lc h) (fun h=>rg<|(lc.nx h fun hI=>sk [] [1,6] [(1,0)] hI))) (fun h=>(lc.bk h fun hI=>sk [] [] [] hI))
def b89(w:m5):Option Bool :=
 ((p8 (fun s:Int=>b8G w s) 0).bind fun x=>x.go (fun r=>some r) fun s=>d5i)
theorem d8k(w)(r):NF K3 r (d4a w) (fun s=>b89 w):=fun _ h=>PK<|rg<|lp (d7i w) h (fun _ h=>K3.rt h) (e0W r) fun hI=>sk [] [1,6] [(1,0)] hI
def e5E(w:m5):Int->KS:=fun i2=>⟨K3.k 7 [false,false,false],(bs 1 (.ptr 1 0 0::(bs 3 (vi i2::(bs 100 []))))),[some [],some [.var 30 (G8 w)]]⟩
def b9k(w:m5)(i2:Int):Option (l7 Bool Int Unit) :=
 (bif decide (i2<(w.d7.length:Int)) then ((idx w.d7 i2).bind fun asked=>((a90 asked.a0).bind fun a6W=>(bif (!a6W) then some (l7.ret false) else ((a9K asked.i6).bind fun E2=>(bif (!E2) then some (l7.ret false) else some (l7.nxt (m8 (i2+1)))))))) else some (l7.brk ()))
theorem e3P(w):LQ K3 (d4a w) (e5E w) (fun s=>b9k w s):=fun lc i2 h=>PK<|rg<|j5 4 h (fun h=>rg<|v5 B3 3 h fun asked a4U h=>j8 b9M c2O 6 h fun a6W h=>j5 8 h (fun h=>rg<|fL lc h) (fun h=>J0 B3 12 a4U<|j8 a5b c1P 15 h fun E2 h=>j5 17 h (fun h=>rg<|fL lc h) (fun h=>rg<|(lc.nx h fun hI=>sk [] [1,5] [(1,0)] hI)))) (fun h=>(lc.bk h fun hI=>sk [] [1] [(1,0)] hI))
def b66(w:m5):Option Bool :=
 ((p8 (fun s:Int=>b9k w s) 0).bind fun x=>x.go (fun r=>some r) fun s=>b89 w)
theorem e81(w)(r):NF K3 r (c64 w) (fun s=>b66 w):=fun _ h=>PK<|rg<|lp (e3P w) h (fun _ h=>K3.rt h) (d8k w r) fun hI=>sk [] [1,5] [(1,0)] hI
def e7m(w:m5):Int->KS:=fun i1=>⟨K3.k 5 [false,false],(bs 1 (.ptr 1 0 0::(bs 2 (vi i1::(bs 101 []))))),[some [],some [.var 30 (G8 w)]]⟩
def b5P(w:m5)(i1:Int):Option (l7 Bool Int Unit) :=
 (bif decide (i1<(w.c8.length:Int)) then ((idx w.c8 i1).bind fun msg=>((b9q msg).bind fun Q1=>(bif (!Q1) then some (l7.ret false) else some (l7.nxt (m8 (i1+1)))))) else some (l7.brk ()))
theorem d90(w):LQ K3 (c64 w) (e7m w) (fun s=>b5P w s):=fun lc i1 h=>PK<|rg<|j5 4 h (fun h=>rg<|v5 t0 3 h fun msg hmsg h=>j8 b0y d7p 5 h fun Q1 h=>j5 6 h (fun h=>rg<|fL lc h) (fun h=>rg<|(lc.nx h fun hI=>sk [] [1,4] [(1,0)] hI))) (fun h=>(lc.bk h fun hI=>sk [] [1] [(1,0)] hI))
def b53(w:m5):Option Bool :=
 ((p8 (fun s:Int=>b5P w s) 0).bind fun x=>x.go (fun r=>some r) fun s=>b66 w)
theorem d7k(w)(r):NF K3 r (c8W w) (fun s=>b53 w):=fun _ h=>PK<|rg<|lp (d90 w) h (fun _ h=>K3.rt h) (e81 w r) fun hI=>sk [] [1,4] [(1,0)] hI
def f0M(w:m5):Int->KS:=fun i=>⟨K3.k 3 [false],(bs 1 (.ptr 1 0 0::(bs 1 (vi i::(bs 102 []))))),[some [],some [.var 30 (G8 w)]]⟩
def b83(w:m5)(i:Int):Option (l7 Bool Int Unit) :=
 (bif decide (i<(w.a9.length:Int)) then ((idx w.a9 i).bind fun node=>(bif (node.Id != i) then some (l7.ret false) else ((a5B node).bind fun D8=>(bif (!D8) then some (l7.ret false) else some (l7.nxt (m8 (i+1))))))) else some (l7.brk ()))
theorem d9H(w):LQ K3 (c8W w) (f0M w) (fun s=>b83 w s):=fun lc i h=>PK<|rg<|j5 4 h (fun h=>rg<|v5 A6 3 h fun node hnode h=>j5 8 h (fun h=>rg<|fL lc h) (fun h=>J0 A6 12 hnode<|j8 a2z a9q 14 h fun D8 h=>j5 16 h (fun h=>rg<|fL lc h) (fun h=>rg<|(lc.nx h fun hI=>sk [] [1,3] [(1,0)] hI)))) (fun h=>(lc.bk h fun hI=>sk [] [1] [(1,0)] hI))
def a8J(w:m5):Option Bool :=
 (bif ((w.a9.length:Int) != 3) then some false else (bif decide ((w.c8.length:Int)>40) then some false else (bif decide ((w.d7.length:Int)>60) then some false else (bif decide ((w.Told.length:Int)>60) then some false else ((p8 (fun s:Int=>b83 w s) 0).bind fun x=>x.go (fun r=>some r) fun s=>b53 w)))))
theorem b3T{w}:OK K3 [.agg (R8 w)] (a8J w) :=
 o7 _ fun r h=>n9<|j5 4 h (fun h=>rg<|fE h) (fun h=>j5 10 h (fun h=>rg<|fE h) (fun h=>j5 16 h (fun h=>rg<|fE h) (fun h=>j5 21 h (fun h=>rg<|fE h) (fun h=>rg<|lp (d9H w) h (fun _ h=>K3.rt h) (d7k w r) fun hI=>sk [] [1,3] [(1,0)] hI))))
def V6:FS (m5):=⟨26,Tryz.f26,[.val E0 T2],[none],[.val E0 []],fun r=>.agg (T1 r),fun _=>[none],Tryz.func26⟩
def d3N(w:m5):(List j6)->KS:=fun Nodes1=>⟨V6.k 4 [false],(bs 1 (.ptr 1 0 0::(.ptr 2 0 0::(.ptr 3 0 0::(bs 72 []))))),[some [],some [.var 30 (G8 w)],some [.var 30 [.nil,.nil,.nil,.nil]],some [.var 30 [.own 4 0 27 0 Nodes1.length,.nil,.nil,.own 5 0 5 0 (([]:List n5)++w.Told).length]],some [C3 58 27 z6 Nodes1],some [m6 62 5 z4 (([]:List n5)++w.Told)]]⟩
def d0A(w:m5)(Nodes1:List j6):(List l8)->KS:=fun Net1=>⟨V6.k 6 [false,false],(bs 1 (.ptr 1 0 0::(.ptr 2 0 0::(.ptr 3 0 0::(bs 72 []))))),[some [],some [.var 30 (G8 w)],some [.var 30 [.nil,.nil,.nil,.nil]],some [.var 30 [.own 4 0 27 0 Nodes1.length,.own 5 0 13 0 Net1.length,.nil,.own 6 0 5 0 (([]:List n5)++w.Told).length]],some [C3 58 27 z6 Nodes1],some [m6 66 13 t0 Net1],some [m6 62 5 z4 (([]:List n5)++w.Told)]]⟩
def c7U(w:m5)(Nodes1:List j6)(Net1:List l8):(List x6)->KS:=fun Asked1=>⟨V6.k 8 [false,false,false],(bs 2 (.ptr 1 0 0::(.ptr 2 0 0::(bs 72 [])))),[some [],some [.var 30 [.nil,.nil,.nil,.nil]],some [.var 30 [.own 3 0 27 0 Nodes1.length,.own 4 0 13 0 Net1.length,.own 5 0 3 0 Asked1.length,.own 6 0 5 0 (([]:List n5)++w.Told).length]],some [C3 58 27 z6 Nodes1],some [m6 66 13 t0 Net1],some [m6 68 3 B3 Asked1],some [m6 62 5 z4 (([]:List n5)++w.Told)]]⟩
def d1b(w:m5)(Nodes1:List j6)(Net1:List l8)(Asked1:List x6):Option m5 :=
 some (m5.mk Nodes1 Net1 Asked1 (([]:List n5)++w.Told))
theorem d8g(w Nodes1 Net1)(r):NF V6 r (c7U w Nodes1 Net1) (fun s=>d1b w Nodes1 Net1 s):=fun Asked1 h=>PK<|rg<|H1 Nodes1 Net1 Asked1 (([]:List n5)++w.Told)<|fE h
def f1K(w:m5)(Nodes1:List j6)(Net1:List l8):((List x6)×Int)->KS:=fun (d7,i2)=>⟨V6.k 7 [false,false],(bs 1 (.ptr 1 0 0::(.ptr 2 0 0::(.ptr 3 0 0::(bs 2 (vi i2::(bs 69 []))))))),[some [],some [.var 30 (G8 w)],some [.var 30 [.nil,.nil,.nil,.nil]],some [.var 30 [.own 4 0 27 0 Nodes1.length,.own 5 0 13 0 Net1.length,.own 7 0 3 0 d7.length,.own 6 0 5 0 (([]:List n5)++w.Told).length]],some [C3 58 27 z6 Nodes1],some [m6 66 13 t0 Net1],some [m6 62 5 z4 (([]:List n5)++w.Told)],some [m6 68 3 B3 d7]]⟩
def b3Y(w:m5)(d7:List x6)(i2:Int):Option (l7 m5 ((List x6)×Int) (List x6)) :=
 (bif decide (i2<(w.d7.length:Int)) then ((idx w.d7 i2).bind fun asked=>(t5 ((([]:List n8).length+asked.i6.length)*32<=140737488355328) ((t5 ((d7.length+1)*40<=140737488355328) (some (l7.nxt (d7++[(x6.mk asked.a0 (([]:List n8)++asked.i6))],m8 (i2+1)))))))) else some (l7.brk d7))
theorem e3F(w Nodes1 Net1):LQ V6 (c7U w Nodes1 Net1) (f1K w Nodes1 Net1) (fun s=>b3Y w s.1 s.2):=fun lc (d7,i2) h=>PK<|rg<|j5 4 h (fun h=>rg<|v5 B3 5 h fun asked a4U h=>tk 8 []<|J0 B3 12 a4U<|t8 h fun e2 h=>oa 28 0 4 ([]:List n8) asked.i6<|oz 115 4 A0 ([]:List n8) asked.i6<|A8 n8<|ob e2<|tl (15,{v:=some (.own 28 0 4 0 (([]:List n8)++asked.i6).length),e:=some (m6 115 4 A0 (([]:List n8)++asked.i6))})<|s6 (([]:List n8)++asked.i6)<|tk 17 [none,none,some 4]<|t8 h fun e3 h=>F6 18 31 68 3 40 B3 d7 (x6.mk asked.a0 (([]:List n8)++asked.i6)) e3<|E4 (x6.mk asked.a0 (([]:List n8)++asked.i6))<|rg<|(lc.nx h fun hI=>sk [] [1,2,3,6] [(1,0),(2,0),(3,0),(4,0),(5,0),(6,0),(31,0)] hI)) (fun h=>(lc.bk h fun hI=>sk [] [2,3] [(2,0),(3,0),(4,0),(5,0),(7,0),(6,0)] hI))
def c0w(w:m5)(Nodes1:List j6)(Net1:List l8):Option m5 :=
 ((p8 (fun s:(List x6)×Int=>b3Y w s.1 s.2) ([],0)).bind fun x=>x.go (fun r=>some r) fun s=>d1b w Nodes1 Net1 s)
theorem e5A(w Nodes1)(r):NF V6 r (d0A w Nodes1) (fun s=>c0w w Nodes1 s):=fun Net1 h=>PK<|rg<|lp (e3F w Nodes1 Net1) h (fun _ h=>V6.rt h) (d8g w Nodes1 Net1 r) fun hI=>sk [.own (.cell 3 0 2) 68 3] [1,2,3,6] [(1,0),(2,0),(3,0),(4,0),(5,0),(6,0),(8,0)] hI
def e0I(w:m5)(Nodes1:List j6):((List l8)×Int)->KS:=fun (c8,i1)=>⟨V6.k 5 [false],(bs 1 (.ptr 1 0 0::(.ptr 2 0 0::(.ptr 3 0 0::(bs 1 (vi i1::(bs 70 []))))))),[some [],some [.var 30 (G8 w)],some [.var 30 [.nil,.nil,.nil,.nil]],some [.var 30 [.own 4 0 27 0 Nodes1.length,.own 6 0 13 0 c8.length,.nil,.own 5 0 5 0 (([]:List n5)++w.Told).length]],some [C3 58 27 z6 Nodes1],some [m6 62 5 z4 (([]:List n5)++w.Told)],some [m6 66 13 t0 c8]]⟩
def b3g(w:m5)(c8:List l8)(i1:Int):Option (l7 m5 ((List l8)×Int) (List l8)) :=
 (bif decide (i1<(w.c8.length:Int)) then ((idx w.c8 i1).bind fun msg=>((a7J msg).bind fun G3=>(t5 ((c8.length+1)*152<=140737488355328) (some (l7.nxt (c8++[G3],m8 (i1+1))))))) else some (l7.brk c8))
theorem e2C(w Nodes1):LQ V6 (d0A w Nodes1) (e0I w Nodes1) (fun s=>b3g w s.1 s.2):=fun lc (c8,i1) h=>PK<|rg<|j5 4 h (fun h=>rg<|v5 t0 5 h fun msg hmsg h=>j8 b2v b9m 7 h fun G3 h=>tk 8 C0<|t8 h fun e4 h=>F6 9 21 66 13 152 t0 c8 G3 e4<|E4 G3<|rg<|(lc.nx h fun hI=>sk [] [1,2,3,5] [(1,0),(2,0),(3,0),(4,0),(5,0),(21,0)] hI)) (fun h=>(lc.bk h fun hI=>sk [] [1,2,3] [(1,0),(2,0),(3,0),(4,0),(6,0),(5,0)] hI))
def c2Y(w:m5)(Nodes1:List j6):Option m5 :=
 ((p8 (fun s:(List l8)×Int=>b3g w s.1 s.2) ([],0)).bind fun x=>x.go (fun r=>some r) fun s=>c0w w Nodes1 s)
theorem e7M(w)(r):NF V6 r (d3N w) (fun s=>c2Y w s):=fun Nodes1 h=>PK<|rg<|lp (e2C w Nodes1) h (fun _ h=>V6.rt h) (e5A w Nodes1 r) fun hI=>sk [.own (.cell 3 0 1) 66 13] [1,2,3,5] [(1,0),(2,0),(3,0),(4,0),(5,0),(7,0)] hI
def e4y(w:m5):((List j6)×Int)->KS:=fun (a9,i)=>⟨V6.k 3 [],(bs 1 (.ptr 1 0 0::(.ptr 2 0 0::(.ptr 3 0 0::(vi i::(bs 71 [])))))),[some [],some [.var 30 (G8 w)],some [.var 30 [.nil,.nil,.nil,.nil]],some [.var 30 [.own 5 0 27 0 a9.length,.nil,.nil,.own 4 0 5 0 (([]:List n5)++w.Told).length]],some [m6 62 5 z4 (([]:List n5)++w.Told)],some [C3 58 27 z6 a9]]⟩
def e2b(l8Copy:j6):List V:=(a50 l8Copy)
def b2E(w:m5)(a9:List j6)(i:Int):Option (l7 m5 ((List j6)×Int) (List j6)) :=
 (bif decide (i<(w.a9.length:Int)) then ((idx w.a9 i).bind fun node=>((a6K node).bind fun l8Copy=>(t5 ((a9.length+1)*392<=140737488355328) (some (l7.nxt (a9++[l8Copy],m8 (i+1))))))) else some (l7.brk a9))
theorem e2A(w):LQ V6 (d3N w) (e4y w) (fun s=>b2E w s.1 s.2):=fun lc (a9,i) h=>PK<|rg<|j5 4 h (fun h=>rg<|v5 A6 5 h fun node hnode h=>j8 a9G b25 7 h fun l8Copy h=>om (s8.deep false 58 27 1 [(e2b l8Copy)]=C3 58 27 z6 [l8Copy]) rfl<|A2 l8Copy<|tl (8,{a:=.dck [none,none,some 8,some 7,none,none,none,some 1,some 8,none,none,none,some 2,some 2,none,none,some 1,none,some 4,none,none,none,some 2,some 2,none,none,some 7] [none,none,some 158,some 56,none,none,none,some 4,none,none,none,none,none,none,none,none,some 4,none,none,none,none,none,none,none,none,none,some 56],e:=some (C3 58 27 z6 [l8Copy])})<|t8 h fun e5 h=>om (V.own 20 0 27 0 (a9.length+1)=.own 20 0 27 0 (a9++[l8Copy]).length) (by simp)<|om (s8.deep false 58 27 (a9.length+1) (a9.map z6++[z6 l8Copy])=C3 58 27 z6 (a9++[l8Copy])) (c0M rfl)<|s6 a9<|ob e5<|om (1=1) rfl<|tl (9,{a:=.dck [] [],v:=some (.own 20 0 27 0 (a9++[l8Copy]).length),e:=some (C3 58 27 z6 (a9++[l8Copy]))})<|rg<|(lc.nx h fun hI=>sk [] [1,2,3,4] [(1,0),(2,0),(3,0),(4,0),(20,0)] hI)) (fun h=>(lc.bk h fun hI=>sk [] [1,2,3] [(1,0),(2,0),(3,0),(5,0),(4,0)] hI))
def b2d(w:m5):Option m5 :=
 (t5 ((([]:List n5).length+w.Told.length)*40<=140737488355328) (((p8 (fun s:(List j6)×Int=>b2E w s.1 s.2) ([],0)).bind fun x=>x.go (fun r=>some r) fun s=>c2Y w s)))
theorem d0L{w}:OK V6 [.agg (R8 w)] (b2d w) :=
 o7 _ fun r h=>n9<|tk 0 []<|t8 h fun e1 h=>oa 6 0 5 ([]:List n5) w.Told<|oz 62 5 z4 ([]:List n5) w.Told<|A8 n5<|ob e1<|tl (3,{v:=some (.own 6 0 5 0 (([]:List n5)++w.Told).length),e:=some (m6 62 5 z4 (([]:List n5)++w.Told))})<|rg<|lp (e2A w) h (fun _ h=>V6.rt h) (e7M w r) fun hI=>sk [.ownD (.cell 8 0 0) 58 27] [1,2,3,4] [(1,0),(2,0),(8,0),(6,0),(11,0)] hI
def a4z:FS ((List s5)×t7):=⟨54,Tryz.f54,[.val [some 3] [some 42]],[some (0,.ptr [some 1,none] []),none,none],[.ptr [some 1,none] [],.val E0 T2,.val [] []],fun r=>u9 42 3 H3 r.1,fun r=>[some (.optr 107 (Z7 r.2)),none,none],Tryz.func54⟩
def c10:(t7×List s5)->KS:=fun (w1,out1)=>⟨a4z.k 4 [false],(bs 7 (.own 1 0 3 0 out1.length::(bs 22 []))),[some [.var 107 [j9 1 K0 w1.b,vi w1.p],.dead,.dead,.dead,.dead],some [m6 42 3 H3 out1]]⟩
def c9p(w1:t7)(out1:List s5):Option ((List s5)×t7) :=
 some (out1,w1)
theorem e1w(r):NF a4z r c10 (fun s=>c9p s.1 s.2):=fun (w1,out1) h=>PK<|rg<|s6 out1<|fE h
def c67(n:Int):(t7×(List s5)×(List n5)×(List x6)×(List l8)×(List j6)×Int)->KS:=fun (r_1,out,Told,d7,c8,a9,i)=>⟨a4z.k 3 [],(.ptr 0 0 0::(bs 1 (vi n::(bs 1 (.ptr 1 0 0::(bs 2 (.own 2 0 3 0 out.length::(vi i::(bs 21 []))))))))),[some [.var 107 [j9 1 K0 r_1.b,vi r_1.p],.dead,.dead,.dead,.dead],some [.var 30 [.own 6 0 27 0 a9.length,.own 5 0 13 0 c8.length,.own 4 0 3 0 d7.length,.own 3 0 5 0 Told.length]],some [m6 42 3 H3 out],some [m6 62 5 z4 Told],some [m6 68 3 B3 d7],some [m6 66 13 t0 c8],some [C3 58 27 z6 a9]]⟩
def f2n(n:Int)(out:List s5)(i:Int)(l9Event:s5×t7×m5):((List j6)×(List l8)×(List x6)×List n5)->KS:=fun (Nodes1,Net1,Asked1,Told1)=>⟨a4z.k 8 [true,true],(.ptr 0 0 0::(bs 1 (vi n::(bs 1 (.ptr 1 0 0::(bs 2 (.own 6 0 3 0 (out++[l9Event.1]).length::(vi i::(bs 21 []))))))))),[some [.var 107 [j9 1 K0 l9Event.2.1.b,vi l9Event.2.1.p],.dead,.dead,.dead,.dead],some [.var 30 [.own 2 0 27 0 Nodes1.length,.own 3 0 13 0 Net1.length,.own 4 0 3 0 Asked1.length,.own 5 0 5 0 Told1.length]],some [C3 58 27 z6 Nodes1],some [m6 66 13 t0 Net1],some [m6 68 3 B3 Asked1],some [m6 62 5 z4 Told1],some [m6 42 3 H3 (out++[l9Event.1])]]⟩
def c44(out:List s5)(i:Int)(l9Event:s5×t7×m5)(Nodes1:List j6)(Net1:List l8)(Asked1:List x6)(Told1:List n5):Option (l7 ((List s5)×t7) (t7×(List s5)×(List n5)×(List x6)×(List l8)×(List j6)×Int) (t7×List s5)) :=
 some (l7.nxt (l9Event.2.1,out++[l9Event.1],Told1,Asked1,Net1,Nodes1,m8 (i+1)))
theorem e4a(n out i l9Event)(lc:H2 a4z c10 (c67 n)):NL lc (f2n n out i l9Event) (fun s=>c44 out i l9Event s.1 s.2.1 s.2.2.1 s.2.2.2):=fun (Nodes1,Net1,Asked1,Told1) h=>PK<|rg<|(lc.nx h fun hI=>sk [] [0,2,4,7,8] [(1,0),(6,0),(5,0),(4,0),(3,0),(2,0)] hI)
def b8E(n:Int)(r_1:t7)(out:List s5)(Told:List n5)(d7:List x6)(c8:List l8)(a9:List j6)(i:Int):Option (l7 ((List s5)×t7) (t7×(List s5)×(List n5)×(List x6)×(List l8)×(List j6)×Int) (t7×List s5)) :=
 (bif decide (i<n) then ((b6A r_1 (m5.mk a9 c8 d7 Told)).bind fun l9Event=>(t5 (a9.length=l9Event.2.2.a9.length) ((t5 (c8.length=l9Event.2.2.c8.length) ((t5 (d7.length=l9Event.2.2.d7.length) ((t5 (Told.length=l9Event.2.2.Told.length) ((t5 ((out.length+1)*40<=140737488355328) (((((a8J l9Event.2.2).bind fun C9=>(bif C9 then ((b2d l9Event.2.2).bind fun a1Z=>((b0d a1Z l9Event.1).bind fun a0V=>some (l9.brk (a0V.a9,a0V.c8,a0V.d7,a0V.Told)))) else some (l9.brk (l9Event.2.2.a9,l9Event.2.2.c8,l9Event.2.2.d7,l9Event.2.2.Told)))):Option (l9 (l7 ((List s5)×t7) (t7×(List s5)×(List n5)×(List x6)×(List l8)×(List j6)×Int) (t7×List s5)) ((List j6)×(List l8)×(List x6)×List n5))).bind fun x=>x.go some fun j=>c44 out i l9Event j.1 j.2.1 j.2.2.1 j.2.2.2)))))))))))) else some (l7.brk (r_1,out)))
set_option maxRecDepth 20000 in
theorem e3W(n):LQ a4z c10 (c67 n) (fun s=>b8E n s.1 s.2.1 s.2.2.1 s.2.2.2.1 s.2.2.2.2.1 s.2.2.2.2.2.1 s.2.2.2.2.2.2):=fun lc (r_1,out,Told,d7,c8,a9,i) h=>PK<|rg<|j5 2 h (fun h=>rg<|j8 b9X e8a 2 h fun l9Event h=>t8 h fun e1 h=>t8 h fun e2 h=>t8 h fun e3 h=>t8 h fun e4 h=>H1 a9 c8 d7 Told<|rg<|s6 l9Event.1.i6<|tk 2 [none,none,some 4]<|t8 h fun e5 h=>F6 3 18 42 3 40 H3 out l9Event.1 e5<|E4 l9Event.1<|A7 h (e4a n out i l9Event lc) fun x2 h hc2=>rg<|A9 h fun C9 c93 h=>cdT (K3.t 1 true C9) h (fun _ h=>om (a0c cx.P 25 [.agg [.sl 27 l9Event.2.2.a9.length (a0x (l9Event.2.2.a9.map z6)),j9 13 t0 l9Event.2.2.c8,j9 3 B3 l9Event.2.2.d7,j9 5 z4 l9Event.2.2.Told]] (K3.R C9) (K3.O C9)) (by simp only [b06 b4x];exact (b3T C9 c93))<|osc K3 C9 rfl (O9 1)<|om (a9.length=l9Event.2.2.a9.length) (by first|(simp;done)|(simp [e1,e2,e3,e4];done))<|om (c8.length=l9Event.2.2.c8.length) (by first|(simp;done)|(simp [e1,e2,e3,e4];done))<|om (d7.length=l9Event.2.2.d7.length) (by first|(simp;done)|(simp [e1,e2,e3,e4];done))<|om (Told.length=l9Event.2.2.Told.length) (by first|(simp;done)|(simp [e1,e2,e3,e4];done))<|rg<|A9 h fun a1Z e8M h=>om (a0c cx.P 26 [.agg [.sl 27 l9Event.2.2.a9.length (a0x (l9Event.2.2.a9.map z6)),j9 13 t0 l9Event.2.2.c8,j9 3 B3 l9Event.2.2.d7,j9 5 z4 l9Event.2.2.Told]] (V6.R a1Z) (V6.O a1Z)) (by simp only [b06 b4x];exact (d0L a1Z e8M))<|om (a9.length=l9Event.2.2.a9.length) (by first|(simp;done)|(simp [e1,e2,e3,e4];done))<|om (c8.length=l9Event.2.2.c8.length) (by first|(simp;done)|(simp [e1,e2,e3,e4];done))<|om (d7.length=l9Event.2.2.d7.length) (by first|(simp;done)|(simp [e1,e2,e3,e4];done))<|om (Told.length=l9Event.2.2.Told.length) (by first|(simp;done)|(simp [e1,e2,e3,e4];done))<|tl (V6.t 1 false a1Z)<|j8 b0U c1o 3 h fun a0V h=>B2 a1Z<|s6 l9Event.1.i6<|(p7 h hc2 fun hI=>sk [] [0,2,4,7,8] [(1,0),(25,0),(25,1),(25,2),(25,3),(18,0)] hI)) (fun _ h=>om (a0c cx.P 25 [.agg [.sl 27 l9Event.2.2.a9.length (a0x (l9Event.2.2.a9.map z6)),j9 13 t0 l9Event.2.2.c8,j9 3 B3 l9Event.2.2.d7,j9 5 z4 l9Event.2.2.Told]] (K3.R C9) (K3.O C9)) (by simp only [b06 b4x];exact (b3T C9 c93))<|osc K3 C9 rfl (O9 1)<|om (a9.length=l9Event.2.2.a9.length) (by first|(simp;done)|(simp [e1,e2,e3,e4];done))<|om (c8.length=l9Event.2.2.c8.length) (by first|(simp;done)|(simp [e1,e2,e3,e4];done))<|om (d7.length=l9Event.2.2.d7.length) (by first|(simp;done)|(simp [e1,e2,e3,e4];done))<|om (Told.length=l9Event.2.2.Told.length) (by first|(simp;done)|(simp [e1,e2,e3,e4];done))<|(p7 h hc2 fun hI=>om ((.own 6 0 27 0 a9.length:V)=.own 6 0 27 0 l9Event.2.2.a9.length) (by first|(simp;done)|(simp [e1,e2,e3,e4];done))<|om ((.own 5 0 13 0 c8.length:V)=.own 5 0 13 0 l9Event.2.2.c8.length) (by first|(simp;done)|(simp [e1,e2,e3,e4];done))<|om ((.own 4 0 3 0 d7.length:V)=.own 4 0 3 0 l9Event.2.2.d7.length) (by first|(simp;done)|(simp [e1,e2,e3,e4];done))<|om ((.own 3 0 5 0 Told.length:V)=.own 3 0 5 0 l9Event.2.2.Told.length) (by first|(simp;done)|(simp [e1,e2,e3,e4];done))<|sk [.is (.cell 1 0 0) (.own 6 0 27 0 l9Event.2.2.a9.length),.is (.cell 1 0 1) (.own 5 0 13 0 l9Event.2.2.c8.length),.is (.cell 1 0 2) (.own 4 0 3 0 l9Event.2.2.d7.length),.is (.cell 1 0 3) (.own 3 0 5 0 l9Event.2.2.Told.length)] [0,2,4,7,8] [(1,0),(6,0),(5,0),(4,0),(3,0),(18,0)] hI))) (fun h=>(lc.bk h fun hI=>sk [] [7] [(2,0)] hI))
def b8J(r_:t7)(w:m5)(n:Int):Option ((List s5)×t7) :=
 ((p8 (fun s:t7×(List s5)×(List n5)×(List x6)×(List l8)×(List j6)×Int=>b8E n s.1 s.2.1 s.2.2.1 s.2.2.2.1 s.2.2.2.2.1 s.2.2.2.2.2.1 s.2.2.2.2.2.2) (r_,([]:List s5),w.Told,w.d7,w.c8,w.a9,0)).bind fun x=>x.go (fun r=>some r) fun s=>c9p s.1 s.2)
theorem e8C{r_ w n}:OK a4z [.optr 107 (Z7 r_),.agg (T1 w),vi n] (b8J r_ w n) :=
 o7 _ fun r h=>n9<|tk 0 [none,none,some 4]<|rg<|lp (e3W n) h (fun _ h=>a4z.rt h) (e1w r) fun hI=>om ((.own 3 0 3 0 0:V)=.own 3 0 3 0 ([]:List s5).length) (by simp)<|sk [.is (.tmp 7) (.own 3 0 3 0 ([]:List s5).length)] [0,2,4,7,8] [(1,0),(3,0),(0,4),(0,3),(0,2),(0,1)] hI
def a1R:FS (m5×(List s5)×t7):=⟨56,Tryz.f56,[.val E0 T2,.val [some 3] [some 42]],[some (0,.ptr [some 1,none] []),none,none],[.ptr [some 1,none] [],.val E0 T2,.val [some 3] [some 42]],fun r=>.tup [.agg (T1 r.1),u9 42 3 H3 r.2.1],fun r=>[some (.optr 107 (Z7 r.2.2)),none,none],Tryz.func56⟩
def c5K(pick:Int×t7)(num:Int×t7):((List s5)×(List j6)×(List l8)×(List x6)×List n5)->KS:=fun (out2,Nodes1,Net1,Asked1,Told1)=>⟨a1R.k 4 [false],(.ptr 0 0 0::(bs 1 (.own 1 0 3 0 out2.length::(bs 1 (.ptr 2 0 0::(bs 1 (.ptr 7 0 0::(bs 1 (vi pick.1::(bs 52 [])))))))))),[some [.var 107 [j9 1 K0 num.2.b,vi num.2.p],.dead,.dead,.dead,.dead,.dead],some [m6 42 3 H3 out2],some [.var 30 [.own 3 0 27 0 Nodes1.length,.own 4 0 13 0 Net1.length,.own 5 0 3 0 Asked1.length,.own 6 0 5 0 Told1.length]],some [C3 58 27 z6 Nodes1],some [m6 66 13 t0 Net1],some [m6 68 3 B3 Asked1],some [m6 62 5 z4 Told1],some [.var 30 [.nil,.nil,.nil,.nil]]]⟩
def d8d(pick:Int×t7):(t7×(List s5)×(List j6)×(List l8)×(List x6)×List n5)->KS:=fun (w1,out3,Nodes2,Net2,Asked2,Told2)=>⟨a1R.k 6 [false,true],(bs 2 (.own 1 0 3 0 out3.length::(bs 1 (.ptr 2 0 0::(bs 1 (.ptr 7 0 0::(bs 1 (vi pick.1::(bs 52 []))))))))),[some [.var 107 [j9 1 K0 w1.b,vi w1.p],.dead,.dead,.dead,.dead,.dead],some [m6 42 3 H3 out3],some [.var 30 [.own 3 0 27 0 Nodes2.length,.own 4 0 13 0 Net2.length,.own 5 0 3 0 Asked2.length,.own 6 0 5 0 Told2.length]],some [C3 58 27 z6 Nodes2],some [m6 66 13 t0 Net2],some [m6 68 3 B3 Asked2],some [m6 62 5 z4 Told2],some [.var 30 [.nil,.nil,.nil,.nil]]]⟩
def b9Q(pick:Int×t7)(w1:t7)(out3:List s5)(Nodes2:List j6)(Net2:List l8)(Asked2:List x6)(Told2:List n5):Option (m5×(List s5)×t7) :=
 ((a01 (m5.mk Nodes2 Net2 Asked2 Told2) out3 (s5.mk 7 pick.1 [])).bind fun S7=>some (S7.1,S7.2,w1))
theorem e8h(pick)(r):NF a1R r (d8d pick) (fun s=>b9Q pick s.1 s.2.1 s.2.2.1 s.2.2.2.1 s.2.2.2.2.1 s.2.2.2.2.2):=fun (w1,out3,Nodes2,Net2,Asked2,Told2) h=>PK<|rg<|j8 a2q a26 4 h fun S7 h=>H1 Nodes2 Net2 Asked2 Told2<|s6 out3<|B2 S7.1<|s6 S7.2<|fE h
def c2N(pick:Int×t7)(num:Int×t7)(out2:List s5)(Nodes1:List j6)(Net1:List l8)(Asked1:List x6)(Told1:List n5):Option (m5×(List s5)×t7) :=
 (((bif decide ((Net1.length:Int)>0) then ((F9 num.2 (Net1.length:Int)).bind fun F5=>((a01 (m5.mk Nodes1 Net1 Asked1 Told1) out2 (s5.mk 2 F5.1 [])).bind fun a11=>some (l9.brk (F5.2,a11.2,a11.1.a9,a11.1.c8,a11.1.d7,a11.1.Told)))) else some (l9.brk (num.2,out2,Nodes1,Net1,Asked1,Told1))):Option (l9 (m5×(List s5)×t7) (t7×(List s5)×(List j6)×(List l8)×(List x6)×List n5))).bind fun x=>x.go some fun j=>b9Q pick j.1 j.2.1 j.2.2.1 j.2.2.2.1 j.2.2.2.2.1 j.2.2.2.2.2)
theorem f0h(pick num)(r):NF a1R r (c5K pick num) (fun s=>c2N pick num s.1 s.2.1 s.2.2.1 s.2.2.2.1 s.2.2.2.2):=fun (out2,Nodes1,Net1,Asked1,Told1) h=>PK<|A7 h (e8h pick r) fun x1 h hc1=>rg<|j5 3 h (fun h=>rg<|j8 G4 G5 6 h fun F5 h=>j8 a2q a26 8 h fun a11 h=>H1 Nodes1 Net1 Asked1 Told1<|s6 out2<|(p7 h hc1 fun hI=>sk [] [2,4,6,8] [(20,4),(2,0),(20,0),(20,1),(20,2),(20,3),(7,0)] hI)) (fun h=>(p7 h hc1 fun hI=>sk [] [2,4,6,8] [(1,0),(2,0),(3,0),(4,0),(5,0),(6,0),(7,0)] hI))
def c6A(pick:Int×t7)(num:Int×t7):((List n5)×(List x6)×(List l8)×(List j6)×(List s5)×Int)->KS:=fun (Told,d7,c8,a9,out1,i)=>⟨a1R.k 3 [],(.ptr 0 0 0::(bs 1 (.own 7 0 3 0 out1.length::(bs 1 (.ptr 1 0 0::(bs 1 (.ptr 2 0 0::(bs 1 (vi pick.1::(vi i::(bs 51 []))))))))))),[some [.var 107 [j9 1 K0 num.2.b,vi num.2.p],.dead,.dead,.dead,.dead,.dead],some [.var 30 [.own 6 0 27 0 a9.length,.own 5 0 13 0 c8.length,.own 4 0 3 0 d7.length,.own 3 0 5 0 Told.length]],some [.var 30 [.nil,.nil,.nil,.nil]],some [m6 62 5 z4 Told],some [m6 68 3 B3 d7],some [m6 66 13 t0 c8],some [C3 58 27 z6 a9],some [m6 42 3 H3 out1]]⟩
def c7P(pick:Int×t7)(num:Int×t7)(i:Int):((List s5)×(List j6)×(List l8)×(List x6)×List n5)->KS:=fun (out5,Nodes4,Net4,Asked4,Told4)=>⟨a1R.k 5 [true,false],(.ptr 0 0 0::(bs 1 (.own 1 0 3 0 out5.length::(bs 1 (.ptr 2 0 0::(bs 1 (.ptr 7 0 0::(bs 1 (vi pick.1::(vi i::(bs 51 []))))))))))),[some [.var 107 [j9 1 K0 num.2.b,vi num.2.p],.dead,.dead,.dead,.dead,.dead],some [m6 42 3 H3 out5],some [.var 30 [.own 3 0 27 0 Nodes4.length,.own 4 0 13 0 Net4.length,.own 5 0 3 0 Asked4.length,.own 6 0 5 0 Told4.length]],some [C3 58 27 z6 Nodes4],some [m6 66 13 t0 Net4],some [m6 68 3 B3 Asked4],some [m6 62 5 z4 Told4],some [.var 30 [.nil,.nil,.nil,.nil]]]⟩
def c5H(pick:Int×t7)(i:Int)(out5:List s5)(Nodes4:List j6)(Net4:List l8)(Asked4:List x6)(Told4:List n5):Option (l7 (m5×(List s5)×t7) ((List n5)×(List x6)×(List l8)×(List j6)×(List s5)×Int) ((List s5)×(List j6)×(List l8)×(List x6)×List n5)) :=
 ((a01 (m5.mk Nodes4 Net4 Asked4 Told4) out5 (s5.mk 5 pick.1 [])).bind fun a1W=>some (l7.nxt (a1W.1.Told,a1W.1.d7,a1W.1.c8,a1W.1.a9,a1W.2,m8 (i-1))))
theorem e8H(pick num i)(lc:H2 a1R (c5K pick num) (c6A pick num)):NL lc (c7P pick num i) (fun s=>c5H pick i s.1 s.2.1 s.2.2.1 s.2.2.2.1 s.2.2.2.2):=fun (out5,Nodes4,Net4,Asked4,Told4) h=>PK<|rg<|j8 a2q a26 4 h fun a1W h=>H1 Nodes4 Net4 Asked4 Told4<|s6 out5<|rg<|(lc.nx h fun hI=>sk [] [0,2,4,6,8,9] [(2,0),(7,0),(12,3),(12,2),(12,1),(12,0),(12,4)] hI)
def d78(pick:Int×t7)(num:Int×t7)(i:Int):((List s5)×(List j6)×(List l8)×(List x6)×List n5)->KS:=fun (out4,Nodes3,Net3,Asked3,Told3)=>⟨a1R.k 4 [true],(.ptr 0 0 0::(bs 1 (.own 1 0 3 0 out4.length::(bs 1 (.ptr 2 0 0::(bs 1 (.ptr 7 0 0::(bs 1 (vi pick.1::(vi i::(bs 51 []))))))))))),[some [.var 107 [j9 1 K0 num.2.b,vi num.2.p],.dead,.dead,.dead,.dead,.dead],some [m6 42 3 H3 out4],some [.var 30 [.own 3 0 27 0 Nodes3.length,.own 4 0 13 0 Net3.length,.own 5 0 3 0 Asked3.length,.own 6 0 5 0 Told3.length]],some [C3 58 27 z6 Nodes3],some [m6 66 13 t0 Net3],some [m6 68 3 B3 Asked3],some [m6 62 5 z4 Told3],some [.var 30 [.nil,.nil,.nil,.nil]]]⟩
def a6O(out4:List s5)(Nodes3:List j6)(Net3:List l8)(Asked3:List x6)(Told3:List n5):Option (l7 (m5×(List s5)×t7) ((List s5)×(List j6)×(List l8)×(List x6)×List n5) ((List s5)×(List j6)×(List l8)×(List x6)×List n5)) :=
 (bif decide ((Net3.length:Int)>0) then ((a01 (m5.mk Nodes3 Net3 Asked3 Told3) out4 (s5.mk 3 0 [])).bind fun a1O=>some (l7.nxt (a1O.2,a1O.1.a9,a1O.1.c8,a1O.1.d7,a1O.1.Told))) else some (l7.brk (out4,Nodes3,Net3,Asked3,Told3)))
theorem d7A(pick num i):LQ a1R (c7P pick num i) (d78 pick num i) (fun s=>a6O s.1 s.2.1 s.2.2.1 s.2.2.2.1 s.2.2.2.2):=fun lc (out4,Nodes3,Net3,Asked3,Told3) h=>PK<|rg<|j5 3 h (fun h=>rg<|j8 a2q a26 3 h fun a1O h=>H1 Nodes3 Net3 Asked3 Told3<|s6 out4<|(lc.nx h fun hI=>sk [] [0,2,4,6,8,9] [(15,4),(2,0),(15,0),(15,1),(15,2),(15,3),(7,0)] hI)) (fun h=>(lc.bk h fun hI=>sk [] [0,2,4,6,8,9] [(1,0),(2,0),(3,0),(4,0),(5,0),(6,0),(7,0)] hI))
def b07(pick:Int×t7)(Told:List n5)(d7:List x6)(c8:List l8)(a9:List j6)(out1:List s5)(i:Int):Option (l7 (m5×(List s5)×t7) ((List n5)×(List x6)×(List l8)×(List j6)×(List s5)×Int) ((List s5)×(List j6)×(List l8)×(List x6)×List n5)) :=
 (bif decide (i>0) then ((p8 (fun s:(List s5)×(List j6)×(List l8)×(List x6)×List n5=>a6O s.1 s.2.1 s.2.2.1 s.2.2.2.1 s.2.2.2.2) (out1,a9,c8,d7,Told)).bind fun x=>x.go (fun r=>some (l7.ret r)) fun s=>c5H pick i s.1 s.2.1 s.2.2.1 s.2.2.2.1 s.2.2.2.2) else some (l7.brk (out1,a9,c8,d7,Told)))
theorem e96(pick num):LQ a1R (c5K pick num) (c6A pick num) (fun s=>b07 pick s.1 s.2.1 s.2.2.1 s.2.2.2.1 s.2.2.2.2.1 s.2.2.2.2.2):=fun lc (Told,d7,c8,a9,out1,i) h=>PK<|rg<|j5 1 h (fun h=>lp (d7A pick num i) h (fun _ h=>lc.rt h) (e8H pick num i lc) fun hI=>sk [] [0,2,4,6,8,9] [(7,0),(1,0),(6,0),(5,0),(4,0),(3,0),(2,0)] hI) (fun h=>(lc.bk h fun hI=>sk [] [0,2,4,6,8] [(7,0),(1,0),(6,0),(5,0),(4,0),(3,0),(2,0)] hI))
def b6r(r_:t7)(w:m5)(out:List s5):Option (m5×(List s5)×t7) :=
 ((F9 r_ 3).bind fun pick=>((a6A pick.2 [3,8,20]).bind fun num=>((p8 (fun s:(List n5)×(List x6)×(List l8)×(List j6)×(List s5)×Int=>b07 pick s.1 s.2.1 s.2.2.1 s.2.2.2.1 s.2.2.2.2.1 s.2.2.2.2.2) (w.Told,w.d7,w.c8,w.a9,out,num.1)).bind fun x=>x.go (fun r=>some r) fun s=>c2N pick num s.1 s.2.1 s.2.2.1 s.2.2.2.1 s.2.2.2.2)))
theorem e66{r_ w out}:OK a1R [.optr 107 (Z7 r_),.agg (T1 w),u9 42 3 H3 out] (b6r r_ w out) :=
 o7 _ fun r h=>n9<|j8 G4 G5 1 h fun pick h=>rg<|tk 1 []<|j8 b0H b3U 2 h fun num h=>om (3=[3,8,20].length) (by simp)<|lp (e96 pick num) h (fun _ h=>a1R.rt h) (f0h pick num r) fun hI=>sk [] [0,2,4,6,8,9] [(1,0),(2,0),(0,4),(0,3),(0,2),(0,1),(0,5)] hI
def Z8:FS ((List s5)×t7):=⟨16,Tryz.f16,[.val [some 3] [some 42]],[some (0,.ptr [some 1,none] [])],[.ptr [some 1,none] []],fun r=>u9 42 3 H3 r.1,fun r=>[some (.optr 107 (Z7 r.2))],Tryz.func16⟩
def f3X:(t7×(List j6)×(List l8)×(List x6)×(List n5)×List s5)->KS:=fun (r_1,a9,c8,d7,Told,out)=>⟨Z8.k 5 [false,true],(.ptr 0 0 0::(bs 2 (.ptr 1 0 0::(.own 6 0 3 0 out.length::(bs 126 []))))),[some [.var 107 [j9 1 K0 r_1.b,vi r_1.p]],some [.var 30 [.own 2 0 27 0 a9.length,.own 3 0 13 0 c8.length,.own 4 0 3 0 d7.length,.own 5 0 5 0 Told.length]],some [C3 58 27 z6 a9],some [m6 66 13 t0 c8],some [m6 68 3 B3 d7],some [m6 62 5 z4 Told],some [m6 42 3 H3 out]]⟩
def b9I:(t7×List s5)->KS:=fun (w,out2)=>⟨Z8.k 7 [false,true,false],(bs 4 (.own 1 0 3 0 out2.length::(bs 126 []))),[some [.var 107 [j9 1 K0 w.b,vi w.p]],some [m6 42 3 H3 out2]]⟩
def d1o(w:t7)(out2:List s5):Option ((List s5)×t7) :=
 some (out2,w)
theorem f4t(r):NF Z8 r b9I (fun s=>d1o s.1 s.2):=fun (w,out2) h=>PK<|rg<|s6 out2<|fE h
def c41:(t7×(List j6)×(List l8)×(List x6)×(List n5)×(List s5)×Int)->KS:=fun (r_2,Nodes1,Net1,Asked1,Told1,out1,i)=>⟨Z8.k 6 [false,true],(.ptr 0 0 0::(bs 2 (.ptr 1 0 0::(.own 6 0 3 0 out1.length::(vi i::(bs 125 [])))))),[some [.var 107 [j9 1 K0 r_2.b,vi r_2.p]],some [.var 30 [.own 2 0 27 0 Nodes1.length,.own 3 0 13 0 Net1.length,.own 4 0 3 0 Asked1.length,.own 5 0 5 0 Told1.length]],some [C3 58 27 z6 Nodes1],some [m6 66 13 t0 Net1],some [m6 68 3 B3 Asked1],some [m6 62 5 z4 Told1],some [m6 42 3 H3 out1]]⟩
def c3t(i:Int):(t7×(List j6)×(List l8)×(List x6)×(List n5)×List s5)->KS:=fun (r_4,Nodes3,Net3,Asked3,Told3,out4)=>⟨Z8.k 9 [false,true,true,false],(.ptr 0 0 0::(bs 2 (.ptr 1 0 0::(.own 6 0 3 0 out4.length::(vi i::(bs 125 [])))))),[some [.var 107 [j9 1 K0 r_4.b,vi r_4.p]],some [.var 30 [.own 2 0 27 0 Nodes3.length,.own 3 0 13 0 Net3.length,.own 4 0 3 0 Asked3.length,.own 5 0 5 0 Told3.length]],some [C3 58 27 z6 Nodes3],some [m6 66 13 t0 Net3],some [m6 68 3 B3 Asked3],some [m6 62 5 z4 Told3],some [m6 42 3 H3 out4]]⟩
def f2q(i:Int):(t7×(List j6)×(List l8)×(List x6)×(List n5)×List s5)->KS:=fun (r_5,Nodes4,Net4,Asked4,Told4,out5)=>⟨Z8.k 12 [false,true,true,false,true],(.ptr 0 0 0::(bs 2 (.ptr 1 0 0::(.own 6 0 3 0 out5.length::(vi i::(bs 125 [])))))),[some [.var 107 [j9 1 K0 r_5.b,vi r_5.p]],some [.var 30 [.own 2 0 27 0 Nodes4.length,.own 3 0 13 0 Net4.length,.own 4 0 3 0 Asked4.length,.own 5 0 5 0 Told4.length]],some [C3 58 27 z6 Nodes4],some [m6 66 13 t0 Net4],some [m6 68 3 B3 Asked4],some [m6 62 5 z4 Told4],some [m6 42 3 H3 out5]]⟩
def b5X(i:Int)(r_5:t7)(Nodes4:List j6)(Net4:List l8)(Asked4:List x6)(Told4:List n5)(out5:List s5):Option (l7 ((List s5)×t7) (t7×(List j6)×(List l8)×(List x6)×(List n5)×(List s5)×Int) (t7×List s5)) :=
 ((F9 r_5 3).bind fun a3s=>((a01 (m5.mk Nodes4 Net4 Asked4 Told4) out5 (s5.mk 6 a3s.1 [])).bind fun a1W=>some (l7.nxt (a3s.2,a1W.1.a9,a1W.1.c8,a1W.1.d7,a1W.1.Told,a1W.2,m8 (i-1)))))
theorem d8c(i)(lc:H2 Z8 b9I c41):NL lc (f2q i) (fun s=>b5X i s.1 s.2.1 s.2.2.1 s.2.2.2.1 s.2.2.2.2.1 s.2.2.2.2.2):=fun (r_5,Nodes4,Net4,Asked4,Told4,out5) h=>PK<|rg<|j8 G4 G5 3 h fun a3s h=>j8 a2q a26 5 h fun a1W h=>H1 Nodes4 Net4 Asked4 Told4<|s6 out5<|rg<|(lc.nx h fun hI=>sk [] [0,3,4,5] [(1,0),(12,0),(12,1),(12,2),(12,3),(12,4)] hI)
def c4K(i:Int)(r_4:t7)(Nodes3:List j6)(Net3:List l8)(Asked3:List x6)(Told3:List n5)(out4:List s5):Option (l7 ((List s5)×t7) (t7×(List j6)×(List l8)×(List x6)×(List n5)×(List s5)×Int) (t7×List s5)) :=
 ((F9 r_4 4).bind fun X4=>(((bif (X4.1==0) then ((F9 X4.2 3).bind fun a7w=>((a01 (m5.mk Nodes3 Net3 Asked3 Told3) out4 (s5.mk 7 a7w.1 [])).bind fun a1O=>some (l9.brk (a7w.2,a1O.1.a9,a1O.1.c8,a1O.1.d7,a1O.1.Told,a1O.2)))) else (bif (X4.1==1) then ((F9 X4.2 3).bind fun a74=>((a01 (m5.mk Nodes3 Net3 Asked3 Told3) out4 (s5.mk 5 a74.1 [])).bind fun b0w=>some (l9.brk (a74.2,b0w.1.a9,b0w.1.c8,b0w.1.d7,b0w.1.Told,b0w.2)))) else some (l9.brk (X4.2,Nodes3,Net3,Asked3,Told3,out4)))):Option (l9 (l7 ((List s5)×t7) (t7×(List j6)×(List l8)×(List x6)×(List n5)×(List s5)×Int) (t7×List s5)) (t7×(List j6)×(List l8)×(List x6)×(List n5)×List s5))).bind fun x=>x.go some fun j=>b5X i j.1 j.2.1 j.2.2.1 j.2.2.2.1 j.2.2.2.2.1 j.2.2.2.2.2))
theorem f0z(i)(lc:H2 Z8 b9I c41):NL lc (c3t i) (fun s=>c4K i s.1 s.2.1 s.2.2.1 s.2.2.2.1 s.2.2.2.2.1 s.2.2.2.2.2):=fun (r_4,Nodes3,Net3,Asked3,Told3,out4) h=>PK<|rg<|j8 G4 G5 1 h fun X4 h=>A7 h (d8c i lc) fun x2 h hc2=>rg<|j5 1 h (fun h=>rg<|j8 G4 G5 3 h fun a7w h=>j8 a2q a26 5 h fun a1O h=>H1 Nodes3 Net3 Asked3 Told3<|s6 out4<|(p7 h hc2 fun hI=>sk [] [0,3,4,5] [(1,0),(16,0),(16,1),(16,2),(16,3),(16,4)] hI)) (fun h=>rg<|j5 1 h (fun h=>rg<|j8 G4 G5 3 h fun a74 h=>j8 a2q a26 5 h fun b0w h=>H1 Nodes3 Net3 Asked3 Told3<|s6 out4<|(p7 h hc2 fun hI=>sk [] [0,3,4,5] [(1,0),(18,0),(18,1),(18,2),(18,3),(18,4)] hI)) (fun h=>(p7 h hc2 fun hI=>sk [] [0,3,4,5] [(1,0),(2,0),(3,0),(4,0),(5,0),(6,0)] hI)))
def c7g(i:Int):(t7×(List j6)×(List l8)×(List x6)×(List n5)×List s5)->KS:=fun (r_3,Nodes2,Net2,Asked2,Told2,out3)=>⟨Z8.k 8 [false,true,true],(.ptr 0 0 0::(bs 2 (.ptr 1 0 0::(.own 6 0 3 0 out3.length::(vi i::(bs 125 [])))))),[some [.var 107 [j9 1 K0 r_3.b,vi r_3.p]],some [.var 30 [.own 2 0 27 0 Nodes2.length,.own 3 0 13 0 Net2.length,.own 4 0 3 0 Asked2.length,.own 5 0 5 0 Told2.length]],some [C3 58 27 z6 Nodes2],some [m6 66 13 t0 Net2],some [m6 68 3 B3 Asked2],some [m6 62 5 z4 Told2],some [m6 42 3 H3 out3]]⟩
def e3q(i:Int):(t7×(List j6)×(List l8)×(List x6)×(List n5)×List s5)->KS:=fun (r_6,Nodes5,Net5,Asked5,Told5,out6)=>⟨Z8.k 11 [false,true,true,true,true],(.ptr 0 0 0::(bs 2 (.ptr 1 0 0::(.own 6 0 3 0 out6.length::(vi i::(bs 125 [])))))),[some [.var 107 [j9 1 K0 r_6.b,vi r_6.p]],some [.var 30 [.own 2 0 27 0 Nodes5.length,.own 3 0 13 0 Net5.length,.own 4 0 3 0 Asked5.length,.own 5 0 5 0 Told5.length]],some [C3 58 27 z6 Nodes5],some [m6 66 13 t0 Net5],some [m6 68 3 B3 Asked5],some [m6 62 5 z4 Told5],some [m6 42 3 H3 out6]]⟩
def b6m(r_6:t7)(Nodes5:List j6)(Net5:List l8)(Asked5:List x6)(Told5:List n5)(out6:List s5):Option (l7 ((List s5)×t7) (t7×(List j6)×(List l8)×(List x6)×(List n5)×List s5) (t7×(List j6)×(List l8)×(List x6)×(List n5)×List s5)) :=
 ((F9 r_6 (Net5.length:Int)).bind fun a5o=>((a6A a5o.2 [0,0,a5o.1]).bind fun a85=>((a01 (m5.mk Nodes5 Net5 Asked5 Told5) out6 (s5.mk 2 a85.1 [])).bind fun a9D=>some (l7.nxt (a85.2,a9D.1.a9,a9D.1.c8,a9D.1.d7,a9D.1.Told,a9D.2)))))
theorem d9b(i)(lc:H2 Z8 (c3t i) (c7g i)):NL lc (e3q i) (fun s=>b6m s.1 s.2.1 s.2.2.1 s.2.2.2.1 s.2.2.2.2.1 s.2.2.2.2.2):=fun (r_6,Nodes5,Net5,Asked5,Told5,out6) h=>PK<|rg<|j8 G4 G5 7 h fun a5o h=>tk 8 []<|j8 b0H b3U 9 h fun a85 h=>om (3=[0,0,a5o.1].length) (by simp)<|j8 a2q a26 11 h fun a9D h=>H1 Nodes5 Net5 Asked5 Told5<|s6 out6<|(lc.nx h fun hI=>sk [] [0,3,4,5] [(1,0),(18,0),(18,1),(18,2),(18,3),(18,4)] hI)
def b4p(r_3:t7)(Nodes2:List j6)(Net2:List l8)(Asked2:List x6)(Told2:List n5)(out3:List s5):Option (l7 ((List s5)×t7) (t7×(List j6)×(List l8)×(List x6)×(List n5)×List s5) (t7×(List j6)×(List l8)×(List x6)×(List n5)×List s5)) :=
 (bif decide ((Net2.length:Int)>0) then ((F9 r_3 9).bind fun a4P=>(bif decide (a4P.1>0) then (bif decide ((out3.length:Int)<200) then ((((F9 a4P.2 8).bind fun a6a=>(bif (a6a.1==0) then ((F9 a6a.2 (Net2.length:Int)).bind fun a51=>((a01 (m5.mk Nodes2 Net2 Asked2 Told2) out3 (s5.mk 4 a51.1 [])).bind fun a9s=>some (l9.brk (a51.2,a9s.1.a9,a9s.1.c8,a9s.1.d7,a9s.1.Told,a9s.2)))) else some (l9.brk (a6a.2,Nodes2,Net2,Asked2,Told2,out3)))):Option (l9 (l7 ((List s5)×t7) (t7×(List j6)×(List l8)×(List x6)×(List n5)×List s5) (t7×(List j6)×(List l8)×(List x6)×(List n5)×List s5)) (t7×(List j6)×(List l8)×(List x6)×(List n5)×List s5))).bind fun x=>x.go some fun j=>b6m j.1 j.2.1 j.2.2.1 j.2.2.2.1 j.2.2.2.2.1 j.2.2.2.2.2) else some (l7.brk (a4P.2,Nodes2,Net2,Asked2,Told2,out3))) else some (l7.brk (a4P.2,Nodes2,Net2,Asked2,Told2,out3)))) else some (l7.brk (r_3,Nodes2,Net2,Asked2,Told2,out3)))
theorem f1o(i):LQ Z8 (c3t i) (c7g i) (fun s=>b4p s.1 s.2.1 s.2.2.1 s.2.2.2.1 s.2.2.2.2.1 s.2.2.2.2.2):=fun lc (r_3,Nodes2,Net2,Asked2,Told2,out3) h=>PK<|rg<|j5 4 h (fun h=>j8 G4 G5 6 h fun a4P h=>j5 9 h (fun h=>j5 13 h (fun h=>A7 h (d9b i lc) fun x3 h hc3=>rg<|j8 G4 G5 1 h fun a6a h=>j5 2 h (fun h=>rg<|j8 G4 G5 6 h fun a51 h=>j8 a2q a26 8 h fun a9s h=>H1 Nodes2 Net2 Asked2 Told2<|s6 out3<|(p7 h hc3 fun hI=>sk [] [0,3,4,5] [(1,0),(32,0),(32,1),(32,2),(32,3),(32,4)] hI)) (fun h=>(p7 h hc3 fun hI=>sk [] [0,3,4,5] [(1,0),(2,0),(3,0),(4,0),(5,0),(6,0)] hI))) (fun h=>(lc.bk h fun hI=>sk [] [0,3,4,5] [(1,0),(2,0),(3,0),(4,0),(5,0),(6,0)] hI))) (fun h=>(lc.bk h fun hI=>sk [] [0,3,4,5] [(1,0),(2,0),(3,0),(4,0),(5,0),(6,0)] hI))) (fun h=>(lc.bk h fun hI=>sk [] [0,3,4,5] [(1,0),(2,0),(3,0),(4,0),(5,0),(6,0)] hI))
def b0q(r_2:t7)(Nodes1:List j6)(Net1:List l8)(Asked1:List x6)(Told1:List n5)(out1:List s5)(i:Int):Option (l7 ((List s5)×t7) (t7×(List j6)×(List l8)×(List x6)×(List n5)×(List s5)×Int) (t7×List s5)) :=
 (bif decide (i>0) then ((F9 r_2 3).bind fun Y7=>((a49 Y7.2).bind fun a4V=>((a01 (m5.mk Nodes1 Net1 Asked1 Told1) out1 (s5.mk 1 Y7.1 a4V.1)).bind fun a11=>((p8 (fun s:t7×(List j6)×(List l8)×(List x6)×(List n5)×List s5=>b4p s.1 s.2.1 s.2.2.1 s.2.2.2.1 s.2.2.2.2.1 s.2.2.2.2.2) (a4V.2,a11.1.a9,a11.1.c8,a11.1.d7,a11.1.Told,a11.2)).bind fun x=>x.go (fun r=>some (l7.ret r)) fun s=>c4K i s.1 s.2.1 s.2.2.1 s.2.2.2.1 s.2.2.2.2.1 s.2.2.2.2.2)))) else some (l7.brk (r_2,out1)))
theorem d9D:LQ Z8 b9I c41 (fun s=>b0q s.1 s.2.1 s.2.2.1 s.2.2.2.1 s.2.2.2.2.1 s.2.2.2.2.2.1 s.2.2.2.2.2.2):=fun lc (r_2,Nodes1,Net1,Asked1,Told1,out1,i) h=>PK<|rg<|j5 1 h (fun h=>rg<|j8 G4 G5 3 h fun Y7 h=>j8 a3f b2K 5 h fun a4V h=>j8 a2q a26 7 h fun a11 h=>H1 Nodes1 Net1 Asked1 Told1<|C7 out1 a4V.1<|lp (f1o i) h (fun _ h=>lc.rt h) (f0z i lc) fun hI=>sk [] [0,3,4,5] [(1,0),(16,0),(16,1),(16,2),(16,3),(16,4)] hI) (fun h=>(lc.bk h fun hI=>sk [] [4] [(6,0)] hI))
def b9p(r_1:t7)(a9:List j6)(c8:List l8)(d7:List x6)(Told:List n5)(out:List s5):Option ((List s5)×t7) :=
 ((F9 r_1 3).bind fun a0o=>((p8 (fun s:t7×(List j6)×(List l8)×(List x6)×(List n5)×(List s5)×Int=>b0q s.1 s.2.1 s.2.2.1 s.2.2.2.1 s.2.2.2.2.1 s.2.2.2.2.2.1 s.2.2.2.2.2.2) (a0o.2,a9,c8,d7,Told,out,m8 (3+a0o.1))).bind fun x=>x.go (fun r=>some r) fun s=>d1o s.1 s.2))
theorem d7V(r):NF Z8 r f3X (fun s=>b9p s.1 s.2.1 s.2.2.1 s.2.2.2.1 s.2.2.2.2.1 s.2.2.2.2.2):=fun (r_1,a9,c8,d7,Told,out) h=>PK<|rg<|j8 G4 G5 1 h fun a0o h=>lp (d9D) h (fun _ h=>Z8.rt h) (f4t r) fun hI=>sk [] [0,3,4,5] [(1,0),(2,0),(3,0),(4,0),(5,0),(6,0)] hI
def b77(r_:t7):Option ((List s5)×t7) :=
 ((b14).bind fun a95=>((F9 r_ 3).bind fun pick=>((a01 a95 [] (s5.mk 5 pick.1 [])).bind fun S7=>((F9 pick.2 3).bind fun F5=>(bif decide (F5.1>0) then ((a6A F5.2 [10,30,60,90]).bind fun num=>((b8J num.2 S7.1 num.1).bind fun a9a=>(t5 ((S7.2.length+a9a.1.length)*40<=140737488355328) (some (S7.2++a9a.1,a9a.2))))) else ((((F9 F5.2 5).bind fun a6x=>(bif (a6x.1==0) then ((b6r a6x.2 S7.1 S7.2).bind fun a7p=>some (l9.brk (a7p.2.2,a7p.1.a9,a7p.1.c8,a7p.1.d7,a7p.1.Told,a7p.2.1))) else some (l9.brk (a6x.2,S7.1.a9,S7.1.c8,S7.1.d7,S7.1.Told,S7.2)))):Option (l9 ((List s5)×t7) (t7×(List j6)×(List l8)×(List x6)×(List n5)×List s5))).bind fun x=>x.go some fun j=>b9p j.1 j.2.1 j.2.2.1 j.2.2.2.1 j.2.2.2.2.1 j.2.2.2.2.2))))))
theorem d9o{r_}:OK Z8 [.optr 107 (Z7 r_)] (b77 r_) :=
 o7 _ fun r h=>n9<|j8 a6y d2a 0 h fun a95 h=>j8 G4 G5 2 h fun pick h=>j8 a2q a26 4 h fun S7 h=>B2 a95<|rg<|j8 G4 G5 1 h fun F5 h=>j5 2 h (fun h=>rg<|tk 4 []<|j8 b0H b3U 5 h fun num h=>om (4=[10,30,60,90].length) (by simp)<|j8 a4z e8C 6 h fun a9a h=>B2 S7.1<|t8 h fun e1 h=>apL 7 23 42 3 40 H3 S7.2 a9a.1 e1<|C7 a9a.1 (S7.2++a9a.1)<|fE h) (fun h=>A7 h (d7V r) fun x1 h hc1=>rg<|j8 G4 G5 1 h fun a6x h=>j5 2 h (fun h=>rg<|j8 a1R e66 3 h fun a7p h=>B2 S7.1<|s6 S7.2<|(p7 h hc1 fun hI=>sk [] [0,3,4] [(10,0),(22,0),(22,1),(22,2),(22,3),(22,4)] hI)) (fun h=>(p7 h hc1 fun hI=>sk [] [0,3,4] [(10,0),(6,0),(6,1),(6,2),(6,3),(6,4)] hI)))
def c8n:FS (List s5):=⟨4,Tryz.f4,[.val [some 3] []],[none],[.val [some 1] []],fun r=>j9 3 H3 r,fun _=>[none],Tryz.func4⟩
def b64(code:List Int):Option (List s5) :=
 ((b8A code).bind fun d2x=>((b77 d2x).bind fun c4u=>some c4u.1))
theorem e76{code}:OK c8n [j9 1 K0 code] (b64 code) :=
 o7 _ fun r h=>n9<|j8 b9h d9T 1 h fun d2x h=>j8 Z8 d9o 2 h fun c4u h=>s6 c4u.1<|fE h
def D1:FS (Bool):=⟨33,Tryz.f33,[.val [] []],[none,none,none],[.val [] [],.val [] [],.val [] []],fun r=>.b r,fun _=>[none,none,none],Tryz.func33⟩
def D4(n:Int)(low:Int)(high:Int):Option Bool :=
 (bif decide (n>=low) then some (decide (n<=high)) else some false)
theorem F4{n low high}:OK D1 [vi n,vi low,vi high] (D4 n low high) :=
 o7 _ fun r h=>n9<|j5 3 h (fun h=>fE h) (fun h=>fE h)
def c6z:FS (j6):=⟨20,Tryz.f20,[.val B0 []],[none],[.val [] []],fun r=>.agg (A6 r),fun _=>[none],Tryz.func20⟩
def b6U(id:Int):Option j6 :=
 ((D4 id 0 2).bind fun in_=>(bif (!in_) then some (j6.mk 0 (z0.mk 0 []) [] 0 0 0 [] [] (m4.mk false (n7.mk 0 0) (n6.mk [] [] 0 0)) [] false [] (m4.mk false (n7.mk 0 0) (n6.mk [] [] 0 0)) []) else some (j6.mk id (z0.mk 0 []) [] 0 0 0 [] [] (m4.mk false (n7.mk 0 0) (n6.mk [] [] 0 0)) [] false [] (m4.mk false (n7.mk 0 0) (n6.mk [] [] 0 0)) [])))
theorem f1a{id}:OK c6z [vi id] (b6U id) :=
 o7 _ fun r h=>n9<|j8 D1 F4 1 h fun in_ h=>j5 2 h (fun h=>rg<|fE h) (fun h=>rg<|fE h)
def c8R:FS (List j6):=⟨58,Tryz.f58,[.val [some 27] [some 58]],[none],[.val [some 27] []],fun r=>u9 58 27 A6 r,fun _=>[none],Tryz.func58⟩
def c1F(list:List j6):Option (List j6) :=
 (bif ((list.length:Int)==0) then some [] else (t5 (0<=(list.length:Int)/\(list.length:Int)*392<=140737488355328) ((t5 (list.length=(f5k (list.length:Int).toNat (j6.mk 0 (z0.mk 0 []) [] 0 0 0 [] [] (m4.mk false (n7.mk 0 0) (n6.mk [] [] 0 0)) [] false [] (m4.mk false (n7.mk 0 0) (n6.mk [] [] 0 0)) [])).length) (some list)))))
theorem e0S{list}:OK c8R [j9 27 A6 list] (c1F list) :=
 o7 _ fun r h=>n9<|j5 2 h (fun h=>rg<|fE h) (fun h=>rg<|t8 h fun e1 h=>U0 2 7 58 27 392 A6 (j6.mk 0 (z0.mk 0 []) [] 0 0 0 [] [] (m4.mk false (n7.mk 0 0) (n6.mk [] [] 0 0)) [] false [] (m4.mk false (n7.mk 0 0) (n6.mk [] [] 0 0)) []) c20 (.ck B0) e1 (by decide) (by rfl)<|rg<|t8 h fun e2 h=>om (s8.row 58 27 (f5k (list.length:Int).toNat (j6.mk 0 (z0.mk 0 []) [] 0 0 0 [] [] (m4.mk false (n7.mk 0 0) (n6.mk [] [] 0 0)) [] false [] (m4.mk false (n7.mk 0 0) (n6.mk [] [] 0 0)) [])).length (list.map A6)=m6 58 27 A6 list) (a1c e2)<|s6 (f5k (list.length:Int).toNat (j6.mk 0 (z0.mk 0 []) [] 0 0 0 [] [] (m4.mk false (n7.mk 0 0) (n6.mk [] [] 0 0)) [] false [] (m4.mk false (n7.mk 0 0) (n6.mk [] [] 0 0)) []))<|ob e2<|tl (2,{e:=some (m6 58 27 A6 list)})<|rg<|om ((f5k (list.length:Int).toNat (j6.mk 0 (z0.mk 0 []) [] 0 0 0 [] [] (m4.mk false (n7.mk 0 0) (n6.mk [] [] 0 0)) [] false [] (m4.mk false (n7.mk 0 0) (n6.mk [] [] 0 0)) [])).length=list.length) (by simp)<|fE h)
def c9n:FS (List l8):=⟨112,Tryz.f112,[.val [some 13] [some 66]],[none],[.val [some 13] []],fun r=>u9 66 13 t0 r,fun _=>[none],Tryz.func112⟩
def c5i(list:List l8):Option (List l8) :=
 (bif ((list.length:Int)==0) then some [] else (t5 (0<=(list.length:Int)/\(list.length:Int)*152<=140737488355328) ((t5 (list.length=(f5k (list.length:Int).toNat (l8.mk 0 0 0 0 0 (m4.mk false (n7.mk 0 0) (n6.mk [] [] 0 0)) [])).length) (some list)))))
theorem f4H{list}:OK c9n [j9 13 t0 list] (c5i list) :=
 o7 _ fun r h=>n9<|j5 2 h (fun h=>rg<|fE h) (fun h=>rg<|t8 h fun e1 h=>U0 2 7 66 13 152 t0 (l8.mk 0 0 0 0 0 (m4.mk false (n7.mk 0 0) (n6.mk [] [] 0 0)) []) c1g (.ck C0) e1 (by decide) (by rfl)<|rg<|t8 h fun e2 h=>om (s8.row 66 13 (f5k (list.length:Int).toNat (l8.mk 0 0 0 0 0 (m4.mk false (n7.mk 0 0) (n6.mk [] [] 0 0)) [])).length (list.map t0)=m6 66 13 t0 list) (a1c e2)<|s6 (f5k (list.length:Int).toNat (l8.mk 0 0 0 0 0 (m4.mk false (n7.mk 0 0) (n6.mk [] [] 0 0)) []))<|ob e2<|tl (2,{e:=some (m6 66 13 t0 list)})<|rg<|om ((f5k (list.length:Int).toNat (l8.mk 0 0 0 0 0 (m4.mk false (n7.mk 0 0) (n6.mk [] [] 0 0)) [])).length=list.length) (by simp)<|fE h)
def a2e:FS (List r9):=⟨204,Tryz.f204,[.val [some 2] [some 192]],[none],[.val [some 2] []],fun r=>u9 192 2 v6 r,fun _=>[none],Tryz.func204⟩
def a25(list:List r9):Option (List r9) :=
 (bif ((list.length:Int)==0) then some [] else (t5 (0<=(list.length:Int)/\(list.length:Int)*16<=140737488355328) ((t5 (list.length=(f5k (list.length:Int).toNat (r9.mk 0 0)).length) (some list)))))
theorem b0B{list}:OK a2e [j9 2 v6 list] (a25 list) :=
 o7 _ fun r h=>n9<|j5 2 h (fun h=>rg<|fE h) (fun h=>rg<|t8 h fun e1 h=>U0 2 7 192 2 16 v6 (r9.mk 0 0) c3E (.none) e1 (by decide) (by rfl)<|rg<|t8 h fun e2 h=>om (s8.row 192 2 (f5k (list.length:Int).toNat (r9.mk 0 0)).length (list.map v6)=m6 192 2 v6 list) (a1c e2)<|s6 (f5k (list.length:Int).toNat (r9.mk 0 0))<|ob e2<|tl (2,{e:=some (m6 192 2 v6 list)})<|rg<|om ((f5k (list.length:Int).toNat (r9.mk 0 0)).length=list.length) (by simp)<|fE h)
def b9U:FS (List p6):=⟨205,Tryz.f205,[.val [some 2] [some 195]],[none],[.val [some 2] []],fun r=>u9 195 2 w8 r,fun _=>[none],Tryz.func205⟩
def a7x(list:List p6):Option (List p6) :=
 (bif ((list.length:Int)==0) then some [] else (t5 (0<=(list.length:Int)/\(list.length:Int)*16<=140737488355328) ((t5 (list.length=(f5k (list.length:Int).toNat (p6.mk 0 0)).length) (some list)))))
theorem d0a{list}:OK b9U [j9 2 w8 list] (a7x list) :=
 o7 _ fun r h=>n9<|j5 2 h (fun h=>rg<|fE h) (fun h=>rg<|t8 h fun e1 h=>U0 2 7 195 2 16 w8 (p6.mk 0 0) c46 (.none) e1 (by decide) (by rfl)<|rg<|t8 h fun e2 h=>om (s8.row 195 2 (f5k (list.length:Int).toNat (p6.mk 0 0)).length (list.map w8)=m6 195 2 w8 list) (a1c e2)<|s6 (f5k (list.length:Int).toNat (p6.mk 0 0))<|ob e2<|tl (2,{e:=some (m6 195 2 w8 list)})<|rg<|om ((f5k (list.length:Int).toNat (p6.mk 0 0)).length=list.length) (by simp)<|fE h)
def d2l:FS (n6):=⟨166,Tryz.f166,[.val O2 []],[none],[.val O2 []],fun r=>.agg (Q7 r),fun _=>[none],Tryz.func166⟩
def c3H(r_:n6):Option n6 :=
 ((a25 r_.b5).bind fun read=>((a7x r_.b6).bind fun put=>some (n6.mk read put r_.d9 r_.Code)))
theorem f2O{r_}:OK d2l [.agg (Q7 r_)] (c3H r_) :=
 o7 _ fun r h=>n9<|j8 a2e b0B 2 h fun read h=>j8 b9U d0a 5 h fun put h=>C7 read put<|fE h
def b1h:FS (m4):=⟨117,Tryz.f117,[.val K6 []],[none],[.val K6 []],fun r=>.agg (s7 r),fun _=>[none],Tryz.func117⟩
def a6V(e_:m4):Option m4 :=
 ((c3H e_.b7).bind fun c7l=>some (m4.mk e_.i7 e_.a0 c7l))
theorem b3f{e_}:OK b1h [.agg (s7 e_)] (a6V e_) :=
 o7 _ fun r h=>n9<|j8 d2l f2O 6 h fun c7l h=>fE h
def c8y:FS (List m7):=⟨165,Tryz.f165,[.val [some 8] [some 158]],[none],[.val [some 8] []],fun r=>u9 158 8 q9 r,fun _=>[none],Tryz.func165⟩
def c45(list:List m7):Option (List m7) :=
 (bif ((list.length:Int)==0) then some [] else (t5 (0<=(list.length:Int)/\(list.length:Int)*96<=140737488355328) ((t5 (list.length=(f5k (list.length:Int).toNat (m7.mk 0 (m4.mk false (n7.mk 0 0) (n6.mk [] [] 0 0)))).length) (some list)))))
theorem d7v{list}:OK c8y [j9 8 q9 list] (c45 list) :=
 o7 _ fun r h=>n9<|j5 2 h (fun h=>rg<|fE h) (fun h=>rg<|t8 h fun e1 h=>U0 2 7 158 8 96 q9 (m7.mk 0 (m4.mk false (n7.mk 0 0) (n6.mk [] [] 0 0))) b3d (.ck V5) e1 (by decide) (by rfl)<|rg<|t8 h fun e2 h=>om (s8.row 158 8 (f5k (list.length:Int).toNat (m7.mk 0 (m4.mk false (n7.mk 0 0) (n6.mk [] [] 0 0)))).length (list.map q9)=m6 158 8 q9 list) (a1c e2)<|s6 (f5k (list.length:Int).toNat (m7.mk 0 (m4.mk false (n7.mk 0 0) (n6.mk [] [] 0 0))))<|ob e2<|tl (2,{e:=some (m6 158 8 q9 list)})<|rg<|om ((f5k (list.length:Int).toNat (m7.mk 0 (m4.mk false (n7.mk 0 0) (n6.mk [] [] 0 0)))).length=list.length) (by simp)<|fE h)
def a3T:FS (List m7):=⟨116,Tryz.f116,[.val [some 8] [some 158]],[none],[.val [some 8] []],fun r=>u9 158 8 q9 r,fun _=>[none],Tryz.func116⟩
def d6b:(List m7)->KS:=fun out1=>⟨a3T.k 4 [false],(bs 3 (.own 1 0 8 0 out1.length::(bs 20 []))),[some [],some [m6 158 8 q9 out1]]⟩
def c55(out1:List m7):Option (List m7) :=
 some out1
theorem f06(r):NF a3T r d6b (fun s=>c55 s):=fun out1 h=>PK<|rg<|s6 out1<|fE h
def e1g(vote:List m7):((List m7)×Int)->KS:=fun (out,v9)=>⟨a3T.k 3 [],(bs 3 (.own 1 0 8 0 out.length::(bs 4 (vi (vote.length:Int)::(vi v9::(bs 14 [])))))),[some [],some [m6 158 8 q9 out]]⟩
def b6f(vote:List m7)(out:List m7)(v9:Int):Option (l7 (List m7) ((List m7)×Int) (List m7)) :=
 (bif decide (v9<(vote.length:Int)) then ((idx out v9).bind fun T3=>((a6V T3.i4).bind fun Y9=>some (l7.nxt (out.set v9.toNat (m7.mk T3.a7 Y9),m8 (v9+1))))) else some (l7.brk out))
theorem e8V(vote):LQ a3T d6b (e1g vote) (fun s=>b6f vote s.1 s.2):=fun lc (out,v9) h=>PK<|rg<|j5 0 h (fun h=>n9<|A9 h fun T3 a4b h=>B9 a4b<|H9 q9 6 a4b<|j8 b1h b3f 7 h fun Y9 h=>B9 a4b<|Q4 158 8 q9 10 K6 (m7.mk T3.a7 Y9) a4b<|rg<|(lc.nx h fun hI=>om ((.own 1 0 8 0 out.length:V)=.own 1 0 8 0 (out.set v9.toNat (m7.mk T3.a7 Y9)).length) (by simp)<|sk [.is (.tmp 3) (.own 1 0 8 0 (out.set v9.toNat (m7.mk T3.a7 Y9)).length)] [3,8,9] [(1,0)] hI)) (fun h=>(lc.bk h fun hI=>sk [] [3] [(1,0)] hI))
def a87(list:List m7):Option (List m7) :=
 ((c45 list).bind fun vote=>((p8 (fun s:(List m7)×Int=>b6f vote s.1 s.2) (vote,0)).bind fun x=>x.go (fun r=>some r) fun s=>c55 s))
theorem b7B{list}:OK a3T [j9 8 q9 list] (a87 list) :=
 o7 _ fun r h=>n9<|j8 c8y d7v 1 h fun vote h=>rg<|lp (e8V vote) h (fun _ h=>a3T.rt h) (f06 r) fun hI=>sk [] [3,8,9] [(3,0)] hI
def c8D:FS (l8):=⟨113,Tryz.f113,[.val C0 []],[none],[.val C0 []],fun r=>.agg (t0 r),fun _=>[none],Tryz.func113⟩
def b65(m:l8):Option l8 :=
 ((a6V m.i4).bind fun Y9=>((a87 m.a6).bind fun a0P=>some (l8.mk m.a8 m.c9 m.To m.a7 m.g8 Y9 a0P)))
theorem e9j{m}:OK c8D [.agg (t0 m)] (b65 m) :=
 o7 _ fun r h=>N1<|j8 b1h b3f 2 h fun Y9 h=>rg<|j8 a3T b7B 2 h fun a0P h=>rg<|s6 a0P<|fE h
def a5H:FS (List l8):=⟨59,Tryz.f59,[.val [some 13] [some 66]],[none],[.val [some 13] []],fun r=>u9 66 13 t0 r,fun _=>[none],Tryz.func59⟩
def c97:(List l8)->KS:=fun out1=>⟨a5H.k 4 [false],(bs 3 (.own 1 0 13 0 out1.length::(bs 18 []))),[some [],some [m6 66 13 t0 out1]]⟩
def d6n(out1:List l8):Option (List l8) :=
 some out1
theorem e4d(r):NF a5H r c97 (fun s=>d6n s):=fun out1 h=>PK<|rg<|s6 out1<|fE h
def f3Q(msg:List l8):((List l8)×Int)->KS:=fun (out,v9)=>⟨a5H.k 3 [],(bs 3 (.own 1 0 13 0 out.length::(bs 4 (vi (msg.length:Int)::(vi v9::(bs 12 [])))))),[some [],some [m6 66 13 t0 out]]⟩
def b9R(msg:List l8)(out:List l8)(v9:Int):Option (l7 (List l8) ((List l8)×Int) (List l8)) :=
 (bif decide (v9<(msg.length:Int)) then ((idx out v9).bind fun b4y=>((b65 b4y).bind fun b1X=>some (l7.nxt (out.set v9.toNat b1X,m8 (v9+1))))) else some (l7.brk out))
theorem e5Q(msg):LQ a5H c97 (f3Q msg) (fun s=>b9R msg s.1 s.2):=fun lc (out,v9) h=>PK<|rg<|j5 0 h (fun h=>n9<|A9 h fun b4y b4A h=>B9 b4A<|H9 t0 5 b4A<|j8 c8D e9j 6 h fun b1X h=>B9 b4A<|Q4 66 13 t0 8 C0 b1X b4A<|rg<|(lc.nx h fun hI=>om ((.own 1 0 13 0 out.length:V)=.own 1 0 13 0 (out.set v9.toNat b1X).length) (by simp)<|sk [.is (.tmp 3) (.own 1 0 13 0 (out.set v9.toNat b1X).length)] [3,8,9] [(1,0)] hI)) (fun h=>(lc.bk h fun hI=>sk [] [3] [(1,0)] hI))
def b2H(list:List l8):Option (List l8) :=
 ((c5i list).bind fun msg=>((p8 (fun s:(List l8)×Int=>b9R msg s.1 s.2) (msg,0)).bind fun x=>x.go (fun r=>some r) fun s=>d6n s))
theorem c6c{list}:OK a5H [j9 13 t0 list] (b2H list) :=
 o7 _ fun r h=>n9<|j8 c9n f4H 1 h fun msg h=>rg<|lp (e5Q msg) h (fun _ h=>a5H.rt h) (e4d r) fun hI=>sk [] [3,8,9] [(3,0)] hI
def d4W:FS (List x6):=⟨60,Tryz.f60,[.val [some 3] [some 68]],[none],[.val [some 3] []],fun r=>u9 68 3 B3 r,fun _=>[none],Tryz.func60⟩
def c5k(list:List x6):Option (List x6) :=
 (bif ((list.length:Int)==0) then some [] else (t5 (0<=(list.length:Int)/\(list.length:Int)*40<=140737488355328) ((t5 (list.length=(f5k (list.length:Int).toNat (x6.mk (n7.mk 0 0) [])).length) (some list)))))
theorem e9S{list}:OK d4W [j9 3 B3 list] (c5k list) :=
 o7 _ fun r h=>n9<|j5 2 h (fun h=>rg<|fE h) (fun h=>rg<|t8 h fun e1 h=>U0 2 7 68 3 40 B3 (x6.mk (n7.mk 0 0) []) c2h (.ck [none,none,some 4]) e1 (by decide) (by rfl)<|rg<|t8 h fun e2 h=>om (s8.row 68 3 (f5k (list.length:Int).toNat (x6.mk (n7.mk 0 0) [])).length (list.map B3)=m6 68 3 B3 list) (a1c e2)<|s6 (f5k (list.length:Int).toNat (x6.mk (n7.mk 0 0) []))<|ob e2<|tl (2,{e:=some (m6 68 3 B3 list)})<|rg<|om ((f5k (list.length:Int).toNat (x6.mk (n7.mk 0 0) [])).length=list.length) (by simp)<|fE h)
def c1m:FS (List n5):=⟨61,Tryz.f61,[.val [some 5] [some 62]],[none],[.val [some 5] []],fun r=>u9 62 5 z4 r,fun _=>[none],Tryz.func61⟩
def b6i(list:List n5):Option (List n5) :=
 (bif ((list.length:Int)==0) then some [] else (t5 (0<=(list.length:Int)/\(list.length:Int)*40<=140737488355328) ((t5 (list.length=(f5k (list.length:Int).toNat (n5.mk 0 (n7.mk 0 0) 0 0)).length) (some list)))))
theorem d4s{list}:OK c1m [j9 5 z4 list] (b6i list) :=
 o7 _ fun r h=>n9<|j5 2 h (fun h=>rg<|fE h) (fun h=>rg<|t8 h fun e1 h=>U0 2 7 62 5 40 z4 (n5.mk 0 (n7.mk 0 0) 0 0) c5s (.none) e1 (by decide) (by rfl)<|rg<|t8 h fun e2 h=>om (s8.row 62 5 (f5k (list.length:Int).toNat (n5.mk 0 (n7.mk 0 0) 0 0)).length (list.map z4)=m6 62 5 z4 list) (a1c e2)<|s6 (f5k (list.length:Int).toNat (n5.mk 0 (n7.mk 0 0) 0 0))<|ob e2<|tl (2,{e:=some (m6 62 5 z4 list)})<|rg<|om ((f5k (list.length:Int).toNat (n5.mk 0 (n7.mk 0 0) 0 0)).length=list.length) (by simp)<|fE h)
def a83:FS (z0):=⟨114,Tryz.f114,[.val [none,some 8] [none,some 158]],[none],[.val [none,some 8] []],fun r=>.agg [vi r.g9,u9 158 8 q9 r.a6],fun _=>[none],Tryz.func114⟩
def a5s(a:z0):Option z0 :=
 ((a87 a.a6).bind fun a0P=>some (z0.mk a.g9 a0P))
theorem b0F{a}:OK a83 [.agg (Z4 a)] (a5s a) :=
 o7 _ fun r h=>n9<|j8 a3T b7B 4 h fun a0P h=>s6 a0P<|fE h
def c6R:FS (List m4):=⟨151,Tryz.f151,[.val [some 7] [some 56]],[none],[.val [some 7] []],fun r=>u9 56 7 s7 r,fun _=>[none],Tryz.func151⟩
def b9W(list:List m4):Option (List m4) :=
 (bif ((list.length:Int)==0) then some [] else (t5 (0<=(list.length:Int)/\(list.length:Int)*88<=140737488355328) ((t5 (list.length=(f5k (list.length:Int).toNat (m4.mk false (n7.mk 0 0) (n6.mk [] [] 0 0))).length) (some list)))))
theorem e1o{list}:OK c6R [j9 7 s7 list] (b9W list) :=
 o7 _ fun r h=>n9<|j5 2 h (fun h=>rg<|fE h) (fun h=>rg<|t8 h fun e1 h=>U0 2 7 56 7 88 s7 (m4.mk false (n7.mk 0 0) (n6.mk [] [] 0 0)) c2T (.ck K6) e1 (by decide) (by rfl)<|rg<|t8 h fun e2 h=>om (s8.row 56 7 (f5k (list.length:Int).toNat (m4.mk false (n7.mk 0 0) (n6.mk [] [] 0 0))).length (list.map s7)=m6 56 7 s7 list) (a1c e2)<|s6 (f5k (list.length:Int).toNat (m4.mk false (n7.mk 0 0) (n6.mk [] [] 0 0)))<|ob e2<|tl (2,{e:=some (m6 56 7 s7 list)})<|rg<|om ((f5k (list.length:Int).toNat (m4.mk false (n7.mk 0 0) (n6.mk [] [] 0 0))).length=list.length) (by simp)<|fE h)
def a4Z:FS (List m4):=⟨92,Tryz.f92,[.val [some 7] [some 56]],[none],[.val [some 7] []],fun r=>u9 56 7 s7 r,fun _=>[none],Tryz.func92⟩
def c6h:(List m4)->KS:=fun out1=>⟨a4Z.k 4 [false],(bs 3 (.own 1 0 7 0 out1.length::(bs 18 []))),[some [],some [m6 56 7 s7 out1]]⟩
def c9w(out1:List m4):Option (List m4) :=
 some out1
theorem d95(r):NF a4Z r c6h (fun s=>c9w s):=fun out1 h=>PK<|rg<|s6 out1<|fE h
def e3j(entry:List m4):((List m4)×Int)->KS:=fun (out,v9)=>⟨a4Z.k 3 [],(bs 3 (.own 1 0 7 0 out.length::(bs 4 (vi (entry.length:Int)::(vi v9::(bs 12 [])))))),[some [],some [m6 56 7 s7 out]]⟩
def b1N(entry:List m4)(out:List m4)(v9:Int):Option (l7 (List m4) ((List m4)×Int) (List m4)) :=
 (bif decide (v9<(entry.length:Int)) then ((idx out v9).bind fun b3V=>((a6V b3V).bind fun Y9=>some (l7.nxt (out.set v9.toNat Y9,m8 (v9+1))))) else some (l7.brk out))
theorem d8N(entry):LQ a4Z c6h (e3j entry) (fun s=>b1N entry s.1 s.2):=fun lc (out,v9) h=>PK<|rg<|j5 0 h (fun h=>n9<|A9 h fun b3V b4z h=>B9 b4z<|H9 s7 5 b4z<|j8 b1h b3f 6 h fun Y9 h=>B9 b4z<|Q4 56 7 s7 8 K6 Y9 b4z<|rg<|(lc.nx h fun hI=>om ((.own 1 0 7 0 out.length:V)=.own 1 0 7 0 (out.set v9.toNat Y9).length) (by simp)<|sk [.is (.tmp 3) (.own 1 0 7 0 (out.set v9.toNat Y9).length)] [3,8,9] [(1,0)] hI)) (fun h=>(lc.bk h fun hI=>sk [] [3] [(1,0)] hI))
def b09(list:List m4):Option (List m4) :=
 ((b9W list).bind fun entry=>((p8 (fun s:(List m4)×Int=>b1N entry s.1 s.2) (entry,0)).bind fun x=>x.go (fun r=>some r) fun s=>c9w s))
theorem c5v{list}:OK a4Z [j9 7 s7 list] (b09 list) :=
 o7 _ fun r h=>n9<|j8 c6R e1o 1 h fun entry h=>rg<|lp (d8N entry) h (fun _ h=>a4Z.rt h) (d95 r) fun hI=>sk [] [3,8,9] [(3,0)] hI
def c4z:FS (List Bool):=⟨115,Tryz.f115,[.val [some 1] [some 4]],[none],[.val [some 1] []],fun r=>u9 4 1 eB r,fun _=>[none],Tryz.func115⟩
def b5e(list:List Bool):Option (List Bool) :=
 (bif ((list.length:Int)==0) then some [] else (t5 (0<=(list.length:Int)/\(list.length:Int)*1<=140737488355328) ((t5 (list.length=(f5k (list.length:Int).toNat false).length) (some list)))))
theorem d53{list}:OK c4z [j9 1 eB list] (b5e list) :=
 o7 _ fun r h=>n9<|j5 2 h (fun h=>rg<|fE h) (fun h=>rg<|t8 h fun e1 h=>U0 2 7 4 1 1 eB false ti4 (.none) e1 (by decide) (by rfl)<|rg<|t8 h fun e2 h=>om (s8.row 4 1 (f5k (list.length:Int).toNat false).length (list.map eB)=m6 4 1 eB list) (a1c e2)<|s6 (f5k (list.length:Int).toNat false)<|ob e2<|tl (2,{e:=some (m6 4 1 eB list)})<|rg<|om ((f5k (list.length:Int).toNat false).length=list.length) (by simp)<|fE h)
def b5S:FS (List n8):=⟨63,Tryz.f63,[.val [some 4] [some 115]],[none],[.val [some 4] []],fun r=>u9 115 4 A0 r,fun _=>[none],Tryz.func63⟩
def a8l(list:List n8):Option (List n8) :=
 (bif ((list.length:Int)==0) then some [] else (t5 (0<=(list.length:Int)/\(list.length:Int)*32<=140737488355328) ((t5 (list.length=(f5k (list.length:Int).toNat (n8.mk 0 0 0 0)).length) (some list)))))
theorem c0X{list}:OK b5S [j9 4 A0 list] (a8l list) :=
 o7 _ fun r h=>n9<|j5 2 h (fun h=>rg<|fE h) (fun h=>rg<|t8 h fun e1 h=>U0 2 7 115 4 32 A0 (n8.mk 0 0 0 0) c3e (.none) e1 (by decide) (by rfl)<|rg<|t8 h fun e2 h=>om (s8.row 115 4 (f5k (list.length:Int).toNat (n8.mk 0 0 0 0)).length (list.map A0)=m6 115 4 A0 list) (a1c e2)<|s6 (f5k (list.length:Int).toNat (n8.mk 0 0 0 0))<|ob e2<|tl (2,{e:=some (m6 115 4 A0 list)})<|rg<|om ((f5k (list.length:Int).toNat (n8.mk 0 0 0 0)).length=list.length) (by simp)<|fE h)
def b4N:FS (j6):=⟨62,Tryz.f62,[.val B0 om3],[none],[.val B0 []],fun r=>.agg (f1F r),fun _=>[none],Tryz.func62⟩
def a8O(n:j6):Option j6 :=
 ((a5s n.Acc).bind fun R2=>((b09 n.a5).bind fun a8j=>((b5e n.c9).bind fun bool=>((a87 n.i0).bind fun a0P=>((a6V n.d6).bind fun Y9=>((b5e n.a6).bind fun b1g=>((a8l n.i6).bind fun ins=>((a6V n.b8).bind fun c9h=>((b09 n.f0).bind fun c3L=>some (j6.mk n.Id R2 a8j n.Seq n.d8 n.a7 bool a0P Y9 b1g n.i9 ins c9h c3L))))))))))
theorem b9a{n}:OK b4N [.agg (A6 n)] (a8O n) :=
 o7 _ fun r h=>N1<|j8 a83 b0F 2 h fun R2 h=>rg<|j8 a4Z c5v 2 h fun a8j h=>rg<|j8 c4z d53 2 h fun bool h=>rg<|j8 a3T b7B 2 h fun a0P h=>rg<|j8 b1h b3f 2 h fun Y9 h=>rg<|j8 c4z d53 2 h fun b1g h=>rg<|j8 b5S c0X 2 h fun ins h=>rg<|j8 b1h b3f 2 h fun c9h h=>rg<|j8 a4Z c5v 2 h fun c3L h=>rg<|H1 R2.a6 a8j bool a0P<|W7 b1g ins c3L<|fE h
def X2:FS (m5):=⟨18,Tryz.f18,[.val E0 om6],[none],[.val E0 []],fun r=>.agg (a7D r),fun _=>[none],Tryz.func18⟩
def c78(msgsCopy:List l8)(asked:List x6)(told:List n5):(List j6)->KS:=fun Nodes1=>⟨X2.k 4 [false],(bs 2 (.ptr 1 0 0::(.ptr 2 0 0::(bs 52 [])))),[some [],some [.var 30 [.nil,.nil,.nil,.nil]],some [.var 30 [.own 3 0 27 0 Nodes1.length,.own 4 0 13 0 msgsCopy.length,.own 5 0 3 0 asked.length,.own 6 0 5 0 told.length]],some [m6 58 27 A6 Nodes1],some [m6 66 13 t0 msgsCopy],some [m6 68 3 B3 asked],some [m6 62 5 z4 told]]⟩
def c96(msgsCopy:List l8)(told:List n5)(Nodes1:List j6):(List x6)->KS:=fun Asked1=>⟨X2.k 6 [false,false],(bs 2 (.ptr 1 0 0::(.ptr 2 0 0::(bs 52 [])))),[some [],some [.var 30 [.nil,.nil,.nil,.nil]],some [.var 30 [.own 3 0 27 0 Nodes1.length,.own 4 0 13 0 msgsCopy.length,.own 5 0 3 0 Asked1.length,.own 6 0 5 0 told.length]],some [m6 58 27 A6 Nodes1],some [m6 66 13 t0 msgsCopy],some [m6 68 3 B3 Asked1],some [m6 62 5 z4 told]]⟩
def d4M(msgsCopy:List l8)(told:List n5)(Nodes1:List j6)(Asked1:List x6):Option m5 :=
 some (m5.mk Nodes1 msgsCopy Asked1 told)
theorem d6V(msgsCopy told Nodes1)(r):NF X2 r (c96 msgsCopy told Nodes1) (fun s=>d4M msgsCopy told Nodes1 s):=fun Asked1 h=>PK<|rg<|H1 Nodes1 msgsCopy Asked1 told<|fE h
def d7Y(msgsCopy:List l8)(asked:List x6)(told:List n5)(Nodes1:List j6):((List x6)×Int)->KS:=fun (d7,v39)=>⟨X2.k 5 [false],(bs 2 (.ptr 1 0 0::(.ptr 2 0 0::(bs 34 (vi (asked.length:Int)::(vi v39::(bs 16 []))))))),[some [],some [.var 30 [.nil,.nil,.nil,.nil]],some [.var 30 [.own 3 0 27 0 Nodes1.length,.own 4 0 13 0 msgsCopy.length,.own 5 0 3 0 d7.length,.own 6 0 5 0 told.length]],some [m6 58 27 A6 Nodes1],some [m6 66 13 t0 msgsCopy],some [m6 68 3 B3 d7],some [m6 62 5 z4 told]]⟩
def b5n(asked:List x6)(d7:List x6)(v39:Int):Option (l7 m5 ((List x6)×Int) (List x6)) :=
 (bif decide (v39<(asked.length:Int)) then ((idx d7 v39).bind fun a2O=>((a8l a2O.i6).bind fun ins=>some (l7.nxt (d7.set v39.toNat (x6.mk a2O.a0 ins),m8 (v39+1))))) else some (l7.brk d7))
theorem d97(msgsCopy asked told Nodes1):LQ X2 (c96 msgsCopy told Nodes1) (d7Y msgsCopy asked told Nodes1) (fun s=>b5n asked s.1 s.2):=fun lc (d7,v39) h=>PK<|rg<|j5 0 h (fun h=>n9<|A9 h fun a2O b0N h=>B9 b0N<|H9 B3 8 b0N<|j8 b5S c0X 9 h fun ins h=>B9 b0N<|Q4 68 3 B3 12 [some 4] (x6.mk a2O.a0 ins) b0N<|s6 ins<|rg<|(lc.nx h fun hI=>om ((.own 5 0 3 0 d7.length:V)=.own 5 0 3 0 (d7.set v39.toNat (x6.mk a2O.a0 ins)).length) (by simp)<|sk [.is (.cell 2 0 2) (.own 5 0 3 0 (d7.set v39.toNat (x6.mk a2O.a0 ins)).length)] [2,3,38,39] [(1,0),(2,0),(3,0),(4,0),(5,0),(6,0)] hI)) (fun h=>(lc.bk h fun hI=>sk [] [2,3] [(1,0),(2,0),(3,0),(4,0),(5,0),(6,0)] hI))
def c1H(msgsCopy:List l8)(asked:List x6)(told:List n5)(Nodes1:List j6):Option m5 :=
 ((p8 (fun s:(List x6)×Int=>b5n asked s.1 s.2) (asked,0)).bind fun x=>x.go (fun r=>some r) fun s=>d4M msgsCopy told Nodes1 s)
theorem f4o(msgsCopy asked told)(r):NF X2 r (c78 msgsCopy asked told) (fun s=>c1H msgsCopy asked told s):=fun Nodes1 h=>PK<|rg<|lp (d97 msgsCopy asked told Nodes1) h (fun _ h=>X2.rt h) (d6V msgsCopy told Nodes1 r) fun hI=>sk [] [2,3,38,39] [(1,0),(2,0),(3,0),(4,0),(5,0),(6,0)] hI
def e4b(node:List j6)(msgsCopy:List l8)(asked:List x6)(told:List n5):((List j6)×Int)->KS:=fun (a9,v22)=>⟨X2.k 3 [],(bs 2 (.ptr 1 0 0::(.ptr 2 0 0::(bs 17 (vi (node.length:Int)::(vi v22::(bs 33 []))))))),[some [],some [.var 30 [.nil,.nil,.nil,.nil]],some [.var 30 [.own 3 0 27 0 a9.length,.own 4 0 13 0 msgsCopy.length,.own 5 0 3 0 asked.length,.own 6 0 5 0 told.length]],some [m6 58 27 A6 a9],some [m6 66 13 t0 msgsCopy],some [m6 68 3 B3 asked],some [m6 62 5 z4 told]]⟩
def b8m(node:List j6)(a9:List j6)(v22:Int):Option (l7 m5 ((List j6)×Int) (List j6)) :=
 (bif decide (v22<(node.length:Int)) then ((idx a9 v22).bind fun a1l=>((a8O a1l).bind fun Y4=>some (l7.nxt (a9.set v22.toNat Y4,m8 (v22+1))))) else some (l7.brk a9))
theorem e1N(node msgsCopy asked told):LQ X2 (c78 msgsCopy asked told) (e4b node msgsCopy asked told) (fun s=>b8m node s.1 s.2):=fun lc (a9,v22) h=>PK<|rg<|j5 0 h (fun h=>n9<|A9 h fun a1l a4o h=>B9 a4o<|H9 A6 7 a4o<|j8 b4N b9a 8 h fun Y4 h=>B9 a4o<|Q4 58 27 A6 10 B0 Y4 a4o<|J2 Y4<|rg<|(lc.nx h fun hI=>om ((.own 3 0 27 0 a9.length:V)=.own 3 0 27 0 (a9.set v22.toNat Y4).length) (by simp)<|sk [.is (.cell 2 0 0) (.own 3 0 27 0 (a9.set v22.toNat Y4).length)] [2,3,21,22] [(1,0),(2,0),(3,0),(4,0),(5,0),(6,0)] hI)) (fun h=>(lc.bk h fun hI=>sk [] [2,3] [(1,0),(2,0),(3,0),(4,0),(5,0),(6,0)] hI))
def a1S(w:m5):Option m5 :=
 ((c1F w.a9).bind fun node=>((b2H w.c8).bind fun msgsCopy=>((c5k w.d7).bind fun asked=>((b6i w.Told).bind fun told=>((p8 (fun s:(List j6)×Int=>b8m node s.1 s.2) (node,0)).bind fun x=>x.go (fun r=>some r) fun s=>c1H msgsCopy asked told s)))))
theorem a8w{w}:OK X2 [.agg (R8 w)] (a1S w) :=
 o7 _ fun r h=>n9<|j8 c8R e0S 2 h fun node h=>j8 a5H c6c 5 h fun msgsCopy h=>j8 d4W e9S 8 h fun asked h=>j8 c1m d4s 11 h fun told h=>rg<|lp (e1N node msgsCopy asked told) h (fun _ h=>X2.rt h) (f4o msgsCopy asked told r) fun hI=>sk [] [2,3,21,22] [(2,0),(16,0),(5,0),(8,0),(11,0),(14,0)] hI
def a8N:FS (m5):=⟨6,Tryz.f6,[.val E0 []],[],[],fun r=>.agg (R8 r),fun _=>[],Tryz.func6⟩
def d6P:(List j6)->KS:=fun Nodes1=>⟨a8N.k 4 [false],(.ptr 1 0 0::(.ptr 2 0 0::(bs 15 []))),[some [],some [.var 30 [.nil,.nil,.nil,.nil]],some [.var 30 [.own 3 0 27 0 Nodes1.length,.nil,.nil,.nil]],some [m6 58 27 A6 Nodes1]]⟩
def c6l(Nodes1:List j6):Option m5 :=
 ((a1S (m5.mk Nodes1 [] [] [])).bind fun H4=>some H4)
theorem f3h(r):NF a8N r d6P (fun s=>c6l s):=fun Nodes1 h=>PK<|rg<|j8 X2 a8w 1 h fun H4 h=>s6 Nodes1<|B2 H4<|fE h
def e9I:((List j6)×Int)->KS:=fun (a9,id)=>⟨a8N.k 3 [],(.ptr 1 0 0::(.ptr 2 0 0::(vi id::(bs 14 [])))),[some [],some [.var 30 [.nil,.nil,.nil,.nil]],some [.var 30 [.own 3 0 27 0 a9.length,.nil,.nil,.nil]],some [m6 58 27 A6 a9]]⟩
def b1x(a9:List j6)(id:Int):Option (l7 m5 ((List j6)×Int) (List j6)) :=
 (bif decide (id<3) then ((b6U id).bind fun X8=>(t5 ((a9.length+1)*392<=140737488355328) (some (l7.nxt (a9++[X8],m8 (id+1)))))) else some (l7.brk a9))
theorem e3X:LQ a8N d6P e9I (fun s=>b1x s.1 s.2):=fun lc (a9,id) h=>PK<|rg<|j5 1 h (fun h=>rg<|j8 c6z f1a 3 h fun X8 h=>tk 4 B0<|t8 h fun e1 h=>F6 5 11 58 27 392 A6 a9 X8 e1<|E4 X8<|rg<|(lc.nx h fun hI=>sk [] [0,1,2] [(1,0),(2,0),(11,0)] hI)) (fun h=>(lc.bk h fun hI=>sk [] [0,1] [(1,0),(2,0),(3,0)] hI))
def b7U:Option m5 :=
 ((p8 (fun s:(List j6)×Int=>b1x s.1 s.2) ([],0)).bind fun x=>x.go (fun r=>some r) fun s=>c6l s)
theorem e9O:OK a8N [] b7U :=
 o7 _ fun r h=>N1<|lp (e3X) h (fun _ h=>a8N.rt h) (f3h r) fun hI=>sk [.own (.cell 3 0 0) 58 27] [0,1,2] [(1,0),(3,0),(6,0)] hI
def a8t:FS (Bool):=⟨184,Tryz.f184,[.val [] []],[none,none],[.val [some 2] [],.val [some 2] []],fun r=>.b r,fun _=>[none,none],Tryz.func184⟩
def d4e:Unit->KS:=fun _=>⟨a8t.k 4 [false,false],(bs 26 []),[some []]⟩
def c9R:Option Bool :=
 some true
theorem e2W(r):NF a8t r d4e (fun s=>c9R):=fun _ h=>PK<|rg<|fE h
def e3Y(a:List r9)(b:List r9):Int->KS:=fun v13=>⟨a8t.k 3 [false],(j9 2 v6 a::(j9 2 v6 b::(bs 10 (vi (a.length:Int)::(vi v13::(bs 12 [])))))),[some []]⟩
def c0q(a:List r9)(b:List r9)(v13:Int):Option (l7 Bool Int Unit) :=
 (bif decide (v13<(a.length:Int)) then ((idx a v13).bind fun read=>((idx b v13).bind fun U1=>(bif (!(([read.i5,read.j4]:List Int)==[U1.i5,U1.j4])) then some (l7.ret false) else some (l7.nxt (m8 (v13+1)))))) else some (l7.brk ()))
theorem e5h(a b):LQ a8t d4e (e3Y a b) (fun s=>c0q a b s):=fun lc v13 h=>PK<|rg<|j5 0 h (fun h=>n9<|v5 v6 2 h fun read a3D h=>v5 v6 6 h fun U1 d0I h=>j5 8 h (fun h=>rg<|fL lc h) (fun h=>rg<|(lc.nx h fun hI=>sk [] [0,1,12,13] [] hI))) (fun h=>(lc.bk h fun hI=>sk [] [] [] hI))
def b7z(a:List r9)(b:List r9):Option Bool :=
 (bif ((a.length:Int) != (b.length:Int)) then some false else ((p8 (fun s:Int=>c0q a b s) 0).bind fun x=>x.go (fun r=>some r) fun s=>c9R))
theorem d7g{a b}:OK a8t [j9 2 v6 a,j9 2 v6 b] (b7z a b) :=
 o7 _ fun r h=>n9<|j5 4 h (fun h=>rg<|fE h) (fun h=>rg<|lp (e5h a b) h (fun _ h=>a8t.rt h) (e2W r) fun hI=>sk [] [0,1,12,13] [] hI)
def a77:FS (Bool):=⟨185,Tryz.f185,[.val [] []],[none,none],[.val [some 2] [],.val [some 2] []],fun r=>.b r,fun _=>[none,none],Tryz.func185⟩
def c8K:Unit->KS:=fun _=>⟨a77.k 4 [false,false],(bs 26 []),[some []]⟩
def d0r:Option Bool :=
 some true
theorem d9v(r):NF a77 r c8K (fun s=>d0r):=fun _ h=>PK<|rg<|fE h
def d9I(a:List p6)(b:List p6):Int->KS:=fun v13=>⟨a77.k 3 [false],(j9 2 w8 a::(j9 2 w8 b::(bs 10 (vi (a.length:Int)::(vi v13::(bs 12 [])))))),[some []]⟩
def b8f(a:List p6)(b:List p6)(v13:Int):Option (l7 Bool Int Unit) :=
 (bif decide (v13<(a.length:Int)) then ((idx a v13).bind fun put=>((idx b v13).bind fun put1=>(bif (!(([put.i5,put.d9]:List Int)==[put1.i5,put1.d9])) then some (l7.ret false) else some (l7.nxt (m8 (v13+1)))))) else some (l7.brk ()))
theorem e57(a b):LQ a77 c8K (d9I a b) (fun s=>b8f a b s):=fun lc v13 h=>PK<|rg<|j5 0 h (fun h=>n9<|v5 w8 2 h fun put hput h=>v5 w8 6 h fun put1 b2z h=>j5 8 h (fun h=>rg<|fL lc h) (fun h=>rg<|(lc.nx h fun hI=>sk [] [0,1,12,13] [] hI))) (fun h=>(lc.bk h fun hI=>sk [] [] [] hI))
def b8c(a:List p6)(b:List p6):Option Bool :=
 (bif ((a.length:Int) != (b.length:Int)) then some false else ((p8 (fun s:Int=>b8f a b s) 0).bind fun x=>x.go (fun r=>some r) fun s=>d0r))
theorem d8e{a b}:OK a77 [j9 2 w8 a,j9 2 w8 b] (b8c a b) :=
 o7 _ fun r h=>n9<|j5 4 h (fun h=>rg<|fE h) (fun h=>rg<|lp (e57 a b) h (fun _ h=>a77.rt h) (d9v r) fun hI=>sk [] [0,1,12,13] [] hI)
def d2t:FS (Bool):=⟨125,Tryz.f125,[.val [] []],[none,none],[.val O2 [],.val O2 []],fun r=>.b r,fun _=>[none,none],Tryz.func125⟩
def c0h(a:n6)(b:n6):Option Bool :=
 ((b7z a.b5 b.b5).bind fun read=>(bif read then ((b8c a.b6 b.b6).bind fun put=>(bif put then (bif (a.d9==b.d9) then some (a.Code==b.Code) else some false) else some false)) else some false))
theorem f3E{a b}:OK d2t [.agg (Q7 a),.agg (Q7 b)] (c0h a b) :=
 o7 _ fun r h=>n9<|j8 a8t d7g 4 h fun read h=>j5 5 h (fun h=>j8 a77 d8e 10 h fun put h=>j5 12 h (fun h=>j5 19 h (fun h=>fE h) (fun h=>fE h)) (fun h=>fE h)) (fun h=>fE h)
def a24:FS (Bool):=⟨70,Tryz.f70,[.val [] []],[none,none],[.val K6 [],.val K6 []],fun r=>.b r,fun _=>[none,none],Tryz.func70⟩
def a0r(a:m4)(b:m4):Option Bool :=
 (bif (a.i7==b.i7) then (bif (([a.a0.b9,a.a0.Seq]:List Int)==[b.a0.b9,b.a0.Seq]) then ((c0h a.b7 b.b7).bind fun a3c=>some a3c) else some false) else some false)
theorem a38{a b}:OK a24 [.agg (s7 a),.agg (s7 b)] (a0r a b) :=
 o7 _ fun r h=>n9<|j5 5 h (fun h=>j5 12 h (fun h=>j8 d2t f3E 17 h fun a3c h=>fE h) (fun h=>fE h)) (fun h=>fE h)
def b1i:FS (Bool):=⟨31,Tryz.f31,[.val [] []],[none],[.val [] []],fun r=>.b r,fun _=>[none],Tryz.func31⟩
def a6w(q:n7):Option Bool :=
 ((D4 q.b9 0 2).bind fun in_=>(bif in_ then ((D4 q.Seq 1 1000).bind fun in_1=>some in_1) else some false))
theorem b28{q}:OK b1i [.agg (E6 q)] (a6w q) :=
 o7 _ fun r h=>n9<|j8 D1 F4 2 h fun in_ h=>j5 3 h (fun h=>j8 D1 F4 6 h fun in_1 h=>fE h) (fun h=>fE h)
def a0q:FS (Bool):=⟨145,Tryz.f145,[.val [] []],[none],[.val O2 []],fun r=>.b r,fun _=>[none],Tryz.func145⟩
def d9J(r_:n6):Unit->KS:=fun _=>⟨a0q.k 2 [false],(bs 1 (.ptr 1 0 0::(bs 98 []))),[some [],some [.var 54 (a0C r_)]]⟩
def d1Y(r_:n6):Unit->KS:=fun _=>⟨a0q.k 5 [false,false],(bs 1 (.ptr 1 0 0::(bs 2 (.ptr 2 0 0::(bs 95 []))))),[some [],some [.var 54 (a0C r_)],some [.arr 202 1 4 ((f5k 4 false).map eB)]]⟩
def c9a:Unit->KS:=fun _=>⟨a0q.k 7 [false,false,false],(bs 100 []),[some []]⟩
def d6d:Option Bool :=
 some true
theorem e5K(r):NF a0q r c9a (fun s=>d6d):=fun _ h=>PK<|rg<|fE h
def d7t(r_:n6):((List Bool)×Int)->KS:=fun (put,v76)=>⟨a0q.k 6 [false,false],(bs 4 (.ptr 1 0 0::(bs 69 (j9 2 w8 r_.b6::(vi (r_.b6.length:Int)::(vi v76::(bs 23 []))))))),[some [],some [.arr 202 1 4 (put.map eB)]]⟩
def b0k(r_:n6)(put:List Bool)(v76:Int):Option (l7 Bool ((List Bool)×Int) Unit) :=
 (bif decide (v76<(r_.b6.length:Int)) then ((idx r_.b6 v76).bind fun put1=>((D4 put1.i5 0 3).bind fun in_=>(bif (!in_) then some (l7.ret false) else ((idx put put1.i5).bind fun y=>(t5 (put1.i5<4) ((bif y then some (l7.ret false) else ((D4 put1.d9 (-1000000) 1000000).bind fun in_1=>(bif (!in_1) then some (l7.ret false) else (t5 (put1.i5<4) (some (l7.nxt (put.set put1.i5.toNat true,m8 (v76+1)))))))))))))) else some (l7.brk ()))
theorem e9M(r_):LQ a0q c9a (d7t r_) (fun s=>b0k r_ s.1 s.2):=fun lc (put,v76) h=>PK<|rg<|j5 0 h (fun h=>rg<|v5 w8 0 h fun put1 b2z h=>rg<|j8 D1 F4 2 h fun in_ h=>j5 4 h (fun h=>rg<|fL lc h) (fun h=>A9 h fun y hy h=>t8 h fun e1 h=>ob (N9 hy)<|ob e1<|ob (U7 (enc:=eB) hy)<|tl (tr 8 (eB y))<|j5 10 h (fun h=>rg<|fL lc h) (fun h=>j8 D1 F4 13 h fun in_1 h=>j5 15 h (fun h=>rg<|fL lc h) (fun h=>rg<|t8 h fun e2 h=>ob (N9 hy)<|ob e2<|om (s8.arr 202 1 4 ((put.map eB).set (put1.i5.toNat) [.b true])=s8.arr 202 1 4 ((put.set put1.i5.toNat true).map eB)) (a9h rfl)<|ob (U7 (enc:=eB) hy)<|tl (3,{a:=.rowck (eB y) [],e:=some (.arr 202 1 4 ((put.set put1.i5.toNat true).map eB))})<|rg<|(lc.nx h fun hI=>sk [] [4,74,75,76] [(1,0)] hI))))) (fun h=>(lc.bk h fun hI=>sk [] [] [] hI))
def c39(r_:n6):Option Bool :=
 ((p8 (fun s:(List Bool)×Int=>b0k r_ s.1 s.2) (f5k 4 false,0)).bind fun x=>x.go (fun r=>some r) fun s=>d6d)
theorem f04(r_)(r):NF a0q r (d1Y r_) (fun s=>c39 r_):=fun _ h=>PK<|rg<|lp (e9M r_) h (fun _ h=>a0q.rt h) (e5K r) fun hI=>sk [] [4,74,75,76] [(2,0)] hI
def f1z(r_:n6):((List Bool)×Int)->KS:=fun (read,v49)=>⟨a0q.k 4 [false],(bs 1 (.ptr 1 0 0::(bs 1 (.ptr 2 0 0::(.ptr 3 0 0::(bs 42 (j9 2 v6 r_.b5::(vi (r_.b5.length:Int)::(vi v49::(bs 50 [])))))))))),[some [],some [.var 54 (a0C r_)],some [.arr 202 1 4 (read.map eB)],some [.arr 202 1 4 ((f5k 4 false).map eB)]]⟩
def b02(r_:n6)(read:List Bool)(v49:Int):Option (l7 Bool ((List Bool)×Int) Unit) :=
 (bif decide (v49<(r_.b5.length:Int)) then ((idx r_.b5 v49).bind fun U1=>((D4 U1.i5 0 3).bind fun in_2=>(bif (!in_2) then some (l7.ret false) else ((idx read U1.i5).bind fun y1=>(t5 (U1.i5<4) ((bif y1 then some (l7.ret false) else ((D4 U1.j4 0 1000000).bind fun a0f=>(bif (!a0f) then some (l7.ret false) else (t5 (U1.i5<4) (some (l7.nxt (read.set U1.i5.toNat true,m8 (v49+1)))))))))))))) else some (l7.brk ()))
theorem e0r(r_):LQ a0q (d1Y r_) (f1z r_) (fun s=>b02 r_ s.1 s.2):=fun lc (read,v49) h=>PK<|rg<|j5 0 h (fun h=>rg<|v5 v6 0 h fun U1 d0I h=>rg<|j8 D1 F4 2 h fun in_2 h=>j5 4 h (fun h=>rg<|fL lc h) (fun h=>A9 h fun y1 hy1 h=>t8 h fun e3 h=>ob (N9 hy1)<|ob e3<|ob (U7 (enc:=eB) hy1)<|tl (tr 8 (eB y1))<|j5 10 h (fun h=>rg<|fL lc h) (fun h=>j8 D1 F4 13 h fun a0f h=>j5 15 h (fun h=>rg<|fL lc h) (fun h=>rg<|t8 h fun e4 h=>ob (N9 hy1)<|ob e4<|om (s8.arr 202 1 4 ((read.map eB).set (U1.i5.toNat) [.b true])=s8.arr 202 1 4 ((read.set U1.i5.toNat true).map eB)) (a9h rfl)<|ob (U7 (enc:=eB) hy1)<|tl (3,{a:=.rowck (eB y1) [],e:=some (.arr 202 1 4 ((read.set U1.i5.toNat true).map eB))})<|rg<|(lc.nx h fun hI=>sk [] [1,3,4,47,48,49] [(1,0),(2,0),(3,0)] hI))))) (fun h=>(lc.bk h fun hI=>sk [] [1,4] [(1,0),(3,0)] hI))
def b6O(r_:n6):Option Bool :=
 ((p8 (fun s:(List Bool)×Int=>b02 r_ s.1 s.2) (f5k 4 false,0)).bind fun x=>x.go (fun r=>some r) fun s=>c39 r_)
theorem d73(r_)(r):NF a0q r (d9J r_) (fun s=>b6O r_):=fun _ h=>PK<|rg<|om ((f5k 4 ([.b false]:List V)).flatten=[.b false,.b false,.b false,.b false]/\([.b false]:List V).length=1) ⟨rfl,rfl⟩<|om ((f5k 4 ([.b false]:List V)).flatten=[.b false,.b false,.b false,.b false]/\([.b false]:List V).length=1) ⟨rfl,rfl⟩<|rg<|lp (e0r r_) h (fun _ h=>a0q.rt h) (f04 r_ r) fun hI=>sk [] [1,3,4,47,48,49] [(1,0),(2,0),(3,0)] hI
def b1s(r_:n6):Option Bool :=
 ((((D4 r_.Code 0 3).bind fun a4F=>(bif (!a4F) then some (l9.ret false) else ((D4 r_.d9 (-1000000) 1000000).bind fun b0K=>(bif (!b0K) then some (l9.ret false) else (bif (r_.Code != 0) then (bif (r_.d9 != 0) then some (l9.ret false) else (bif decide ((r_.b6.length:Int)>0) then some (l9.ret false) else (bif (r_.Code==3) then (bif decide ((r_.b5.length:Int)>0) then some (l9.ret false) else some (l9.brk ())) else some (l9.brk ())))) else (bif (r_.Code==3) then (bif decide ((r_.b5.length:Int)>0) then some (l9.ret false) else some (l9.brk ())) else some (l9.brk ()))))))):Option (l9 Bool Unit)).bind fun x=>x.go some fun j=>b6O r_)
theorem c2G{r_}:OK a0q [.agg (Q7 r_)] (b1s r_) :=
 o7 _ fun r h=>rg<|A7 h (d73 r_ r) fun x1 h hc1=>rg<|j8 D1 F4 2 h fun a4F h=>j5 4 h (fun h=>rg<|(C1 h hc1 fun h=>fE h)) (fun h=>j8 D1 F4 7 h fun b0K h=>j5 10 h (fun h=>rg<|(C1 h hc1 fun h=>fE h)) (fun h=>j5 14 h (fun h=>j5 18 h (fun h=>rg<|(C1 h hc1 fun h=>fE h)) (fun h=>j5 26 h (fun h=>rg<|(C1 h hc1 fun h=>fE h)) (fun h=>j5 30 h (fun h=>j5 36 h (fun h=>rg<|(C1 h hc1 fun h=>fE h)) (fun h=>(p7 h hc1 fun hI=>sk [] [1] [(1,0)] hI))) (fun h=>(p7 h hc1 fun hI=>sk [] [1] [(1,0)] hI))))) (fun h=>j5 30 h (fun h=>j5 36 h (fun h=>rg<|(C1 h hc1 fun h=>fE h)) (fun h=>(p7 h hc1 fun hI=>sk [] [1] [(1,0)] hI))) (fun h=>(p7 h hc1 fun hI=>sk [] [1] [(1,0)] hI)))))
def a2J:FS (Bool):=⟨88,Tryz.f88,[.val [] []],[none],[.val K6 []],fun r=>.b r,fun _=>[none],Tryz.func88⟩
def a1u(e_:m4):Option Bool :=
 (bif e_.i7 then ((a0r e_ (m4.mk true (n7.mk 0 0) (n6.mk [] [] 0 0))).bind fun K7=>some K7) else ((a6w e_.a0).bind fun a59=>(bif a59 then ((b1s e_.b7).bind fun a07=>(bif a07 then some (e_.b7.Code != 3) else some false)) else some false)))
theorem a4n{e_}:OK a2J [.agg (s7 e_)] (a1u e_) :=
 o7 _ fun r h=>n9<|j5 1 h (fun h=>rg<|j8 a24 a38 2 h fun K7 h=>fE h) (fun h=>rg<|j8 b1i b28 2 h fun a59 h=>j5 3 h (fun h=>j8 a0q c2G 6 h fun a07 h=>j5 8 h (fun h=>fE h) (fun h=>fE h)) (fun h=>fE h))
def d3R:FS (Bool):=⟨148,Tryz.f148,[.val [] []],[none],[.val V5 []],fun r=>.b r,fun _=>[none],Tryz.func148⟩
def b5U(v_:m7):Option Bool :=
 (bif (v_.a7==0) then ((a0r v_.i4 (m4.mk false (n7.mk 0 0) (n6.mk [] [] 0 0))).bind fun K7=>some K7) else ((D4 v_.a7 1 3000).bind fun in_=>(bif in_ then ((a1u v_.i4).bind fun E5=>some E5) else some false)))
theorem e9r{v_}:OK d3R [.agg (q9 v_)] (b5U v_) :=
 o7 _ fun r h=>n9<|j5 2 h (fun h=>rg<|j8 a24 a38 3 h fun K7 h=>fE h) (fun h=>rg<|j8 D1 F4 2 h fun in_ h=>j5 3 h (fun h=>j8 a2J a4n 6 h fun E5 h=>fE h) (fun h=>fE h))
def a3i:FS (Bool):=⟨90,Tryz.f90,[.val [] []],[none],[.val [some 8] []],fun r=>.b r,fun _=>[none],Tryz.func90⟩
def c7x(list:List m7):Unit->KS:=fun _=>⟨a3i.k 3 [false],(j9 8 q9 list::(bs 17 [])),[some []]⟩
def c4C(list:List m7):Option Bool :=
 some (decide ((list.length:Int)<=40))
theorem f1t(list)(r):NF a3i r (c7x list) (fun s=>c4C list):=fun _ h=>PK<|rg<|fE h
def e7C(list:List m7):Int->KS:=fun v7=>⟨a3i.k 2 [],(j9 8 q9 list::(bs 4 (j9 8 q9 list::(vi (list.length:Int)::(vi v7::(bs 10 [])))))),[some []]⟩
def b79(list:List m7)(v7:Int):Option (l7 Bool Int Unit) :=
 (bif decide (v7<(list.length:Int)) then ((idx list v7).bind fun vote=>((b5U vote).bind fun a0p=>(bif (!a0p) then some (l7.ret false) else some (l7.nxt (m8 (v7+1)))))) else some (l7.brk ()))
theorem e2I(list):LQ a3i (c7x list) (e7C list) (fun s=>b79 list s):=fun lc v7 h=>PK<|rg<|j5 0 h (fun h=>rg<|v5 q9 0 h fun vote N7 h=>rg<|j8 d3R e9r 1 h fun a0p h=>j5 2 h (fun h=>rg<|fL lc h) (fun h=>rg<|(lc.nx h fun hI=>sk [] [0,5,6,7] [] hI))) (fun h=>(lc.bk h fun hI=>sk [] [0] [] hI))
def a60(list:List m7):Option Bool :=
 ((p8 (fun s:Int=>b79 list s) 0).bind fun x=>x.go (fun r=>some r) fun s=>c4C list)
theorem b1Q{list}:OK a3i [j9 8 q9 list] (a60 list) :=
 o7 _ fun r h=>n9<|lp (e2I list) h (fun _ h=>a3i.rt h) (f1t list r) fun hI=>sk [] [0,5,6,7] [] hI
def a4X:FS (Bool):=⟨86,Tryz.f86,[.val [] []],[none],[.val [none,some 8] []],fun r=>.b r,fun _=>[none],Tryz.func86⟩
def d5a(a:z0):Unit->KS:=fun _=>⟨a4X.k 3 [false],(bs 1 (.ptr 1 0 0::(bs 24 []))),[some [],some [.var 46 [vi a.g9,j9 8 q9 a.a6]]]⟩
def c3k(a:z0):Option Bool :=
 ((D4 a.g9 0 3000).bind fun in_=>(bif in_ then ((a60 a.a6).bind fun M2=>some M2) else some false))
theorem e8q(a)(r):NF a4X r (d5a a) (fun s=>c3k a):=fun _ h=>PK<|rg<|j8 D1 F4 2 h fun in_ h=>j5 3 h (fun h=>j8 a3i b1Q 6 h fun M2 h=>fE h) (fun h=>fE h)
def e2Z(a:z0):Int->KS:=fun v8=>⟨a4X.k 2 [],(bs 1 (.ptr 1 0 0::(bs 4 (j9 8 q9 a.a6::(vi (a.a6.length:Int)::(vi v8::(bs 17 []))))))),[some [],some [.var 46 [vi a.g9,j9 8 q9 a.a6]]]⟩
def b9O(a:z0)(v8:Int):Option (l7 Bool Int Unit) :=
 (bif decide (v8<(a.a6.length:Int)) then ((idx a.a6 v8).bind fun vote=>(bif decide (vote.a7>a.g9) then some (l7.ret false) else some (l7.nxt (m8 (v8+1))))) else some (l7.brk ()))
theorem d6S(a):LQ a4X (d5a a) (e2Z a) (fun s=>b9O a s):=fun lc v8 h=>PK<|rg<|j5 0 h (fun h=>rg<|v5 q9 0 h fun vote N7 h=>rg<|j5 4 h (fun h=>rg<|fL lc h) (fun h=>rg<|(lc.nx h fun hI=>sk [] [1,6,7,8] [(1,0)] hI))) (fun h=>(lc.bk h fun hI=>sk [] [1] [(1,0)] hI))
def b0G(a:z0):Option Bool :=
 ((p8 (fun s:Int=>b9O a s) 0).bind fun x=>x.go (fun r=>some r) fun s=>c3k a)
theorem c38{a}:OK a4X [.agg (Z4 a)] (b0G a) :=
 o7 _ fun r h=>n9<|lp (d6S a) h (fun _ h=>a4X.rt h) (e8q a r) fun hI=>sk [] [1,6,7,8] [(1,0)] hI
def a5g:FS (Bool):=⟨87,Tryz.f87,[.val [] []],[none],[.val [some 7] []],fun r=>.b r,fun _=>[none],Tryz.func87⟩
def d4z(list:List m4):Unit->KS:=fun _=>⟨a5g.k 3 [false],(j9 7 s7 list::(bs 17 [])),[some []]⟩
def c2Z(list:List m4):Option Bool :=
 some (decide ((list.length:Int)<=40))
theorem e3L(list)(r):NF a5g r (d4z list) (fun s=>c2Z list):=fun _ h=>PK<|rg<|fE h
def e6y(list:List m4):Int->KS:=fun v7=>⟨a5g.k 2 [],(j9 7 s7 list::(bs 4 (j9 7 s7 list::(vi (list.length:Int)::(vi v7::(bs 10 [])))))),[some []]⟩
def b5y(list:List m4)(v7:Int):Option (l7 Bool Int Unit) :=
 (bif decide (v7<(list.length:Int)) then ((idx list v7).bind fun entry=>((a1u entry).bind fun E5=>(bif (!E5) then some (l7.ret false) else some (l7.nxt (m8 (v7+1)))))) else some (l7.brk ()))
theorem e0l(list):LQ a5g (d4z list) (e6y list) (fun s=>b5y list s):=fun lc v7 h=>PK<|rg<|j5 0 h (fun h=>rg<|v5 s7 0 h fun entry F8 h=>rg<|j8 a2J a4n 1 h fun E5 h=>j5 2 h (fun h=>rg<|fL lc h) (fun h=>rg<|(lc.nx h fun hI=>sk [] [0,5,6,7] [] hI))) (fun h=>(lc.bk h fun hI=>sk [] [0] [] hI))
def b1v(list:List m4):Option Bool :=
 ((p8 (fun s:Int=>b5y list s) 0).bind fun x=>x.go (fun r=>some r) fun s=>c2Z list)
theorem c50{list}:OK a5g [j9 7 s7 list] (b1v list) :=
 o7 _ fun r h=>n9<|lp (e0l list) h (fun _ h=>a5g.rt h) (e3L list r) fun hI=>sk [] [0,5,6,7] [] hI
def a3R:FS (Bool):=⟨149,Tryz.f149,[.val [] []],[none],[.val [] []],fun r=>.b r,fun _=>[none],Tryz.func149⟩
def a3h(n:Int):Option Bool :=
 ((D4 n 0 3).bind fun in_=>some in_)
theorem a4J{n}:OK a3R [vi n] (a3h n) :=
 o7 _ fun r h=>n9<|j8 D1 F4 1 h fun in_ h=>fE h
def c1r:FS (Bool):=⟨150,Tryz.f150,[.val [] []],[none],[.val [] []],fun r=>.b r,fun _=>[none],Tryz.func150⟩
def b5w(n:Int):Option Bool :=
 ((D4 n 0 3).bind fun in_=>some in_)
theorem d03{n}:OK c1r [vi n] (b5w n) :=
 o7 _ fun r h=>n9<|j8 D1 F4 1 h fun in_ h=>fE h
def c7T:FS (Bool):=⟨91,Tryz.f91,[.val [] []],[none],[.val [] []],fun r=>.b r,fun _=>[none],Tryz.func91⟩
def b9D(x_:n8):Option Bool :=
 (bif (x_.a8==1) then ((a3h x_.A).bind fun c1=>(bif c1 then ((b5w x_.B).bind fun c2=>(bif c2 then some (x_.N==0) else some false)) else some false)) else (bif (x_.a8==2) then ((b5w x_.A).bind fun c21=>(bif c21 then ((a3h x_.B).bind fun c11=>(bif c11 then some (x_.N==0) else some false)) else some false)) else (bif (x_.a8==3) then ((a3h x_.A).bind fun c12=>(bif c12 then (bif (x_.B==0) then ((D4 x_.N (-1000000) 1000000).bind fun in_=>some in_) else some false) else some false)) else (bif (x_.a8==4) then ((a3h x_.A).bind fun c13=>(bif c13 then ((a3h x_.B).bind fun c14=>(bif c14 then some (x_.N==0) else some false)) else some false)) else (bif (x_.a8==5) then ((a3h x_.A).bind fun c15=>(bif c15 then ((a3h x_.B).bind fun c16=>(bif c16 then some (x_.N==0) else some false)) else some false)) else (bif (x_.a8==6) then ((a3h x_.A).bind fun c17=>(bif c17 then ((a3h x_.B).bind fun c18=>(bif c18 then ((D4 x_.N 1 10).bind fun in_1=>some in_1) else some false)) else some false)) else (bif (x_.a8==7) then (bif (x_.A==0) then (bif (x_.B==0) then some (x_.N==0) else some false) else some false) else some false)))))))
theorem f2k{x_}:OK c7T [.agg (A0 x_)] (b9D x_) :=
 o7 _ fun r h=>rg4<|rg<|j5 1 h (fun h=>rg<|j8 a3R a4J 3 h fun c1 h=>j5 4 h (fun h=>j8 c1r d03 8 h fun c2 h=>j5 10 h (fun h=>fE h) (fun h=>fE h)) (fun h=>fE h)) (fun h=>rg<|j5 1 h (fun h=>rg<|j8 c1r d03 3 h fun c21 h=>j5 4 h (fun h=>j8 a3R a4J 8 h fun c11 h=>j5 10 h (fun h=>fE h) (fun h=>fE h)) (fun h=>fE h)) (fun h=>rg<|j5 1 h (fun h=>rg<|j8 a3R a4J 3 h fun c12 h=>j5 4 h (fun h=>j5 9 h (fun h=>j8 D1 F4 12 h fun in_ h=>fE h) (fun h=>fE h)) (fun h=>fE h)) (fun h=>rg<|j5 1 h (fun h=>rg<|j8 a3R a4J 3 h fun c13 h=>j5 4 h (fun h=>j8 a3R a4J 8 h fun c14 h=>j5 10 h (fun h=>fE h) (fun h=>fE h)) (fun h=>fE h)) (fun h=>rg<|j5 1 h (fun h=>rg<|j8 a3R a4J 3 h fun c15 h=>j5 4 h (fun h=>j8 a3R a4J 8 h fun c16 h=>j5 10 h (fun h=>fE h) (fun h=>fE h)) (fun h=>fE h)) (fun h=>rg<|j5 1 h (fun h=>rg<|j8 a3R a4J 3 h fun c17 h=>j5 4 h (fun h=>j8 a3R a4J 8 h fun c18 h=>j5 10 h (fun h=>j8 D1 F4 13 h fun in_1 h=>fE h) (fun h=>fE h)) (fun h=>fE h)) (fun h=>rg<|j5 1 h (fun h=>rg<|j5 3 h (fun h=>j5 8 h (fun h=>fE h) (fun h=>fE h)) (fun h=>fE h)) (fun h=>rg<|fE h)))))))
def a37:FS (Bool):=⟨32,Tryz.f32,[.val [] []],[none],[.val [some 4] []],fun r=>.b r,fun _=>[none],Tryz.func32⟩
def c8s(list:List n8):Unit->KS:=fun _=>⟨a37.k 3 [false],(j9 4 A0 list::(bs 17 [])),[some []]⟩
def c2j(list:List n8):Option Bool :=
 some (decide ((list.length:Int)<=10))
theorem f4Y(list)(r):NF a37 r (c8s list) (fun s=>c2j list):=fun _ h=>PK<|rg<|fE h
def e9G(list:List n8):Int->KS:=fun v7=>⟨a37.k 2 [],(j9 4 A0 list::(bs 4 (j9 4 A0 list::(vi (list.length:Int)::(vi v7::(bs 10 [])))))),[some []]⟩
def b6V(list:List n8)(v7:Int):Option (l7 Bool Int Unit) :=
 (bif decide (v7<(list.length:Int)) then ((idx list v7).bind fun ins=>((b9D ins).bind fun R0=>(bif (!R0) then some (l7.ret false) else some (l7.nxt (m8 (v7+1)))))) else some (l7.brk ()))
theorem e8z(list):LQ a37 (c8s list) (e9G list) (fun s=>b6V list s):=fun lc v7 h=>PK<|rg<|j5 0 h (fun h=>rg<|v5 A0 0 h fun ins hins h=>rg<|j8 c7T f2k 1 h fun R0 h=>j5 2 h (fun h=>rg<|fL lc h) (fun h=>rg<|(lc.nx h fun hI=>sk [] [0,5,6,7] [] hI))) (fun h=>(lc.bk h fun hI=>sk [] [0] [] hI))
def a8D(list:List n8):Option Bool :=
 ((p8 (fun s:Int=>b6V list s) 0).bind fun x=>x.go (fun r=>some r) fun s=>c2j list)
theorem b9T{list}:OK a37 [j9 4 A0 list] (a8D list) :=
 o7 _ fun r h=>n9<|lp (e8z list) h (fun _ h=>a37.rt h) (f4Y list r) fun hI=>sk [] [0,5,6,7] [] hI
def c5j:FS (Int):=⟨146,Tryz.f146,[.val [] []],[none],[.val [] []],fun r=>vi r,fun _=>[none],Tryz.func146⟩
def b4H(bal:Int):Option Int :=
 ((D4 bal 1 3000).bind fun in_=>(bif (!in_) then some (-1) else some (f5K bal 3)))
theorem d6q{bal}:OK c5j [vi bal] (b4H bal) :=
 o7 _ fun r h=>n9<|j8 D1 F4 1 h fun in_ h=>j5 2 h (fun h=>rg<|fE h) (fun h=>rg<|om (3≠(0:Int)) (by decide)<|fE h)
def c0K:FS (Bool):=⟨147,Tryz.f147,[.val [] []],[none,none],[.val [some 1] [],.val [] []],fun r=>.b r,fun _=>[none,none],Tryz.func147⟩
def b2n(list:List Bool)(id:Int):Option Bool :=
 (bif ((list.length:Int)==3) then ((idx list id).bind fun y=>some y) else some false)
theorem d38{list id}:OK c0K [j9 1 eB list,vi id] (b2n list id) :=
 o7 _ fun r h=>n9<|j5 3 h (fun h=>v5 eB 6 h fun y hy h=>fE h) (fun h=>fE h)
def b8R:FS (Bool):=⟨89,Tryz.f89,[.val [] []],[none],[.val B0 []],fun r=>.b r,fun _=>[none],Tryz.func89⟩
def f3L(n:j6):Bool->KS:=fun a9r=>⟨b8R.k 2 [],(bs 1 (.ptr 1 0 0::(bs 1 (.b a9r::(bs 92 []))))),[some [],some [.var 58 (a8G n)]]⟩
def b6k(n:j6)(a9r:Bool):Option Bool :=
 (bif (n.d8==0) then (bif (n.a7==0) then (bif ((n.c9.length:Int)==0) then (bif ((n.i0.length:Int)==0) then some a9r else some false) else some false) else some false) else ((b4H n.a7).bind fun a5L=>(bif (a5L != n.Id) then some false else (bif decide (n.a7>n.Acc.g9) then some false else ((a60 n.i0).bind fun M2=>(bif (!M2) then some false else (bif (n.d8==1) then ((b2n n.c9 n.Id).bind fun d0d=>(bif d0d then some a9r else some false)) else (bif (n.d8==2) then (bif ((n.c9.length:Int)==0) then some a9r else some false) else (bif (n.d8==3) then (bif ((n.c9.length:Int)==0) then ((a1u n.d6).bind fun E5=>(bif E5 then ((b2n n.a6 n.Id).bind fun c95=>(bif c95 then some (decide ((n.a5.length:Int)<40)) else some false)) else some false)) else some false) else some false)))))))))
theorem e7g(n)(r):NF b8R r (f3L n) (fun s=>b6k n s):=fun a9r h=>PK<|n9<|j5 2 h (fun h=>rg<|j5 3 h (fun h=>j5 6 h (fun h=>j5 12 h (fun h=>fE h) (fun h=>fE h)) (fun h=>fE h)) (fun h=>fE h)) (fun h=>rg<|j8 c5j d6q 2 h fun a5L h=>j5 6 h (fun h=>rg<|fE h) (fun h=>j5 14 h (fun h=>rg<|fE h) (fun h=>j8 a3i b1Q 17 h fun M2 h=>j5 19 h (fun h=>rg<|fE h) (fun h=>n9<|j5 1 h (fun h=>rg<|j8 c0K d38 4 h fun d0d h=>j5 5 h (fun h=>fE h) (fun h=>fE h)) (fun h=>rg<|j5 1 h (fun h=>rg<|j5 1 h (fun h=>fE h) (fun h=>fE h)) (fun h=>rg<|j5 1 h (fun h=>rg<|j5 1 h (fun h=>j8 a2J a4n 4 h fun E5 h=>j5 6 h (fun h=>j8 c0K d38 11 h fun c95 h=>j5 13 h (fun h=>fE h) (fun h=>fE h)) (fun h=>fE h)) (fun h=>fE h)) (fun h=>rg<|fE h)))))))
def b4U(n:j6):Option Bool :=
 ((((a0r n.d6 (m4.mk false (n7.mk 0 0) (n6.mk [] [] 0 0))).bind fun K7=>(bif K7 then some (l9.brk ((n.a6.length:Int)==0)) else some (l9.brk false))):Option (l9 Bool Bool)).bind fun x=>x.go some fun j=>b6k n j)
theorem e1M{n}:OK b8R [.agg (A6 n)] (b4U n) :=
 o7 _ fun r h=>rg<|A7 h (e7g n r) fun x1 h hc1=>rg<|j8 a24 a38 3 h fun K7 h=>j5 4 h (fun h=>(p7 h hc1 fun hI=>sk [] [1,3] [(1,0)] hI)) (fun h=>(p7 h hc1 fun hI=>sk [] [1,3] [(1,0)] hI))
def a0J:FS (Bool):=⟨29,Tryz.f29,[.val [] []],[none],[.val B0 []],fun r=>.b r,fun _=>[none],Tryz.func29⟩
def d4o(n:j6):Unit->KS:=fun _=>⟨a0J.k 4 [false,false],(bs 1 (.ptr 1 0 0::(bs 87 []))),[some [],some [.var 58 (a8G n)]]⟩
def e9c(n:j6):Unit->KS:=fun _=>⟨a0J.k 6 [false,false,true,false],(bs 1 (.ptr 1 0 0::(bs 87 []))),[some [],some [.var 58 (a8G n)]]⟩
def c2R(n:j6):Option Bool :=
 ((b4U n).bind fun a06=>some a06)
theorem f2J(n)(r):NF a0J r (e9c n) (fun s=>c2R n):=fun _ h=>PK<|rg<|j8 b8R e1M 1 h fun a06 h=>fE h
def b58(n:j6):Option Bool :=
 (((bif n.i9 then ((a8D n.i6).bind fun E2=>(bif (!E2) then some (l9.ret false) else ((a1u n.b8).bind fun E5=>(bif (!E5) then some (l9.ret false) else (bif n.b8.i7 then some (l9.ret false) else (bif (!(([n.b8.a0.b9,n.b8.a0.Seq]:List Int)==[n.Id,n.Seq])) then some (l9.ret false) else some (l9.brk ()))))))) else (bif decide ((n.i6.length:Int)>0) then some (l9.ret false) else ((a0r n.b8 (m4.mk false (n7.mk 0 0) (n6.mk [] [] 0 0))).bind fun K7=>(bif (!K7) then some (l9.ret false) else some (l9.brk ()))))):Option (l9 Bool Unit)).bind fun x=>x.go some fun j=>c2R n)
theorem f3H(n)(r):NF a0J r (d4o n) (fun s=>b58 n):=fun _ h=>PK<|A7 h (f2J n r) fun x1 h hc1=>rg<|j5 1 h (fun h=>rg<|j8 a37 b9T 2 h fun E2 h=>j5 4 h (fun h=>rg<|(C1 h hc1 fun h=>fE h)) (fun h=>j8 a2J a4n 7 h fun E5 h=>j5 10 h (fun h=>rg<|(C1 h hc1 fun h=>fE h)) (fun h=>j5 15 h (fun h=>rg<|(C1 h hc1 fun h=>fE h)) (fun h=>j5 25 h (fun h=>rg<|(C1 h hc1 fun h=>fE h)) (fun h=>(p7 h hc1 fun hI=>sk [] [1] [(1,0)] hI)))))) (fun h=>rg<|j5 4 h (fun h=>rg<|(C1 h hc1 fun h=>fE h)) (fun h=>j8 a24 a38 8 h fun K7 h=>j5 10 h (fun h=>rg<|(C1 h hc1 fun h=>fE h)) (fun h=>(p7 h hc1 fun hI=>sk [] [1] [(1,0)] hI))))
def e7v(n:j6):Int->KS:=fun v36=>⟨a0J.k 3 [false],(bs 1 (.ptr 1 0 0::(bs 32 (j9 7 s7 n.f0::(vi (n.f0.length:Int)::(vi v36::(bs 52 []))))))),[some [],some [.var 58 (a8G n)]]⟩
def b7V(n:j6)(v36:Int):Option (l7 Bool Int Unit) :=
 (bif decide (v36<(n.f0.length:Int)) then ((idx n.f0 v36).bind fun entry=>((a1u entry).bind fun a29=>(bif (!a29) then some (l7.ret false) else (bif entry.i7 then some (l7.ret false) else some (l7.nxt (m8 (v36+1))))))) else some (l7.brk ()))
theorem f0N(n):LQ a0J (d4o n) (e7v n) (fun s=>b7V n s):=fun lc v36 h=>PK<|rg<|j5 0 h (fun h=>rg<|v5 s7 0 h fun entry F8 h=>rg<|j8 a2J a4n 1 h fun a29 h=>j5 3 h (fun h=>rg<|fL lc h) (fun h=>j5 6 h (fun h=>rg<|fL lc h) (fun h=>rg<|(lc.nx h fun hI=>sk [] [1,34,35,36] [(1,0)] hI)))) (fun h=>(lc.bk h fun hI=>sk [] [1] [(1,0)] hI))
def a4s(n:j6):Option Bool :=
 ((D4 n.Id 0 2).bind fun in_=>(bif (!in_) then some false else ((b0G n.Acc).bind fun O8=>(bif (!O8) then some false else ((b1v n.a5).bind fun G0=>(bif (!G0) then some false else ((D4 n.Seq 0 1000).bind fun in_1=>(bif (!in_1) then some false else (bif decide ((n.f0.length:Int)>4) then some false else ((p8 (fun s:Int=>b7V n s) 0).bind fun x=>x.go (fun r=>some r) fun s=>b58 n))))))))))
theorem a8U{n}:OK a0J [.agg (A6 n)] (a4s n) :=
 o7 _ fun r h=>n9<|j8 D1 F4 2 h fun in_ h=>j5 4 h (fun h=>rg<|fE h) (fun h=>j8 a4X c38 7 h fun O8 h=>j5 10 h (fun h=>rg<|fE h) (fun h=>j8 a5g c50 13 h fun G0 h=>j5 16 h (fun h=>rg<|fE h) (fun h=>j8 D1 F4 19 h fun in_1 h=>j5 22 h (fun h=>rg<|fE h) (fun h=>j5 27 h (fun h=>rg<|fE h) (fun h=>rg<|lp (f0N n) h (fun _ h=>a0J.rt h) (f3H n r) fun hI=>sk [] [1,34,35,36] [(1,0)] hI)))))
def c2d:FS (Bool):=⟨30,Tryz.f30,[.val [] []],[none],[.val C0 []],fun r=>.b r,fun _=>[none],Tryz.func30⟩
def b3h(m:l8):Option Bool :=
 ((D4 m.c9 0 2).bind fun in_=>(bif (!in_) then some false else ((D4 m.To 0 2).bind fun in_1=>(bif (!in_1) then some false else (bif (m.c9==m.To) then some false else ((D4 m.g8 0 40).bind fun in_2=>(bif (!in_2) then some false else ((D4 m.a7 1 3000).bind fun a0f=>((a0r m.i4 (m4.mk false (n7.mk 0 0) (n6.mk [] [] 0 0))).bind fun K7=>(bif (m.a8==1) then (bif a0f then (bif K7 then some ((m.a6.length:Int)==0) else some false) else some false) else (bif (m.a8==4) then (bif a0f then (bif K7 then some ((m.a6.length:Int)==0) else some false) else some false) else (bif (m.a8==2) then (bif a0f then (bif K7 then ((a60 m.a6).bind fun M2=>(bif M2 then some (decide ((m8 (m.g8+(m.a6.length:Int)))<=40)) else some false)) else some false) else some false) else (bif (m.a8==3) then (bif a0f then (bif decide (m.g8<40) then ((a1u m.i4).bind fun E5=>(bif E5 then some ((m.a6.length:Int)==0) else some false)) else some false) else some false) else (bif (m.a8==5) then (bif (m.a7==0) then (bif decide (m.g8<40) then ((a1u m.i4).bind fun a29=>(bif a29 then some ((m.a6.length:Int)==0) else some false)) else some false) else some false) else (bif (m.a8==6) then (bif a0f then (bif (m.g8==0) then (bif K7 then some ((m.a6.length:Int)==0) else some false) else some false) else some false) else (bif (m.a8==7) then (bif (m.a7==0) then (bif (m.g8==0) then ((a1u m.i4).bind fun d1g=>(bif d1g then (bif (!m.i4.i7) then some ((m.a6.length:Int)==0) else some false) else some false)) else some false) else some false) else (bif (m.a8==8) then (bif (m.a7==0) then (bif K7 then some ((m.a6.length:Int)==0) else some false) else some false) else some false)))))))))))))))))
theorem d4C{m}:OK c2d [.agg (t0 m)] (b3h m) :=
 o7 _ fun r h=>n9<|j8 D1 F4 2 h fun in_ h=>j5 4 h (fun h=>rg<|fE h) (fun h=>j8 D1 F4 7 h fun in_1 h=>j5 10 h (fun h=>rg<|fE h) (fun h=>j5 17 h (fun h=>rg<|fE h) (fun h=>j8 D1 F4 20 h fun in_2 h=>j5 22 h (fun h=>rg<|fE h) (fun h=>rg<|j8 D1 F4 2 h fun a0f h=>rg<|j8 a24 a38 3 h fun K7 h=>N1<|j5 1 h (fun h=>rg<|j5 1 h (fun h=>j5 4 h (fun h=>fE h) (fun h=>fE h)) (fun h=>fE h)) (fun h=>rg<|j5 1 h (fun h=>rg<|j5 1 h (fun h=>j5 4 h (fun h=>fE h) (fun h=>fE h)) (fun h=>fE h)) (fun h=>rg<|j5 1 h (fun h=>rg<|j5 1 h (fun h=>j5 4 h (fun h=>j8 a3i b1Q 7 h fun M2 h=>j5 9 h (fun h=>fE h) (fun h=>fE h)) (fun h=>fE h)) (fun h=>fE h)) (fun h=>rg<|j5 1 h (fun h=>rg<|j5 1 h (fun h=>j5 6 h (fun h=>j8 a2J a4n 9 h fun E5 h=>j5 11 h (fun h=>fE h) (fun h=>fE h)) (fun h=>fE h)) (fun h=>fE h)) (fun h=>rg<|j5 1 h (fun h=>rg<|j5 3 h (fun h=>j5 8 h (fun h=>j8 a2J a4n 11 h fun a29 h=>j5 13 h (fun h=>fE h) (fun h=>fE h)) (fun h=>fE h)) (fun h=>fE h)) (fun h=>rg<|j5 1 h (fun h=>rg<|j5 1 h (fun h=>j5 6 h (fun h=>j5 9 h (fun h=>fE h) (fun h=>fE h)) (fun h=>fE h)) (fun h=>fE h)) (fun h=>rg<|j5 1 h (fun h=>rg<|j5 3 h (fun h=>j5 8 h (fun h=>j8 a2J a4n 11 h fun d1g h=>j5 13 h (fun h=>j5 19 h (fun h=>fE h) (fun h=>fE h)) (fun h=>fE h)) (fun h=>fE h)) (fun h=>fE h)) (fun h=>rg<|j5 1 h (fun h=>rg<|j5 3 h (fun h=>j5 6 h (fun h=>fE h) (fun h=>fE h)) (fun h=>fE h)) (fun h=>rg<|fE h))))))))))))
def O4:FS (Bool):=⟨10,Tryz.f10,[.val [] []],[none],[.val E0 []],fun r=>.b r,fun _=>[none],Tryz.func10⟩
def c6i(w:m5):Unit->KS:=fun _=>⟨O4.k 4 [false,false],(bs 1 (.ptr 1 0 0::(bs 116 []))),[some [],some [.var 30 (G8 w)]]⟩
def c87(w:m5):Unit->KS:=fun _=>⟨O4.k 6 [false,false,false],(bs 1 (.ptr 1 0 0::(bs 116 []))),[some [],some [.var 30 (G8 w)]]⟩
def d2p(w:m5):Unit->KS:=fun _=>⟨O4.k 8 [false,false,false,false],(bs 1 (.ptr 1 0 0::(bs 116 []))),[some [],some [.var 30 (G8 w)]]⟩
def c71:Unit->KS:=fun _=>⟨O4.k 10 [false,false,false,false,false],(bs 118 []),[some []]⟩
def c8l:Option Bool :=
 some true
theorem e6q(r):NF O4 r c71 (fun s=>c8l):=fun _ h=>PK<|rg<|fE h
def f4j(w:m5):Int->KS:=fun v83=>⟨O4.k 9 [false,false,false,false],(bs 81 (j9 5 z4 w.Told::(vi (w.Told.length:Int)::(vi v83::(bs 34 []))))),[some []]⟩
def b56(w:m5)(v83:Int):Option (l7 Bool Int Unit) :=
 (bif decide (v83<(w.Told.length:Int)) then ((idx w.Told v83).bind fun told=>((D4 told.Node 0 2).bind fun in_=>(bif (!in_) then some (l7.ret false) else ((a6w told.a0).bind fun a59=>(bif (!a59) then some (l7.ret false) else (bif (told.a0.b9 != told.Node) then some (l7.ret false) else ((D4 told.Code 0 4).bind fun in_1=>(bif (!in_1) then some (l7.ret false) else ((D4 told.d9 (-1000000) 1000000).bind fun in_2=>(bif (!in_2) then some (l7.ret false) else some (l7.nxt (m8 (v83+1))))))))))))) else some (l7.brk ()))
theorem f1O(w):LQ O4 c71 (f4j w) (fun s=>b56 w s):=fun lc v83 h=>PK<|rg<|j5 0 h (fun h=>rg<|v5 z4 0 h fun told a3Q h=>rg<|j8 D1 F4 2 h fun in_ h=>j5 4 h (fun h=>rg<|fL lc h) (fun h=>j8 b1i b28 7 h fun a59 h=>j5 10 h (fun h=>rg<|fL lc h) (fun h=>j5 18 h (fun h=>rg<|fL lc h) (fun h=>j8 D1 F4 21 h fun in_1 h=>j5 24 h (fun h=>rg<|fL lc h) (fun h=>j8 D1 F4 27 h fun in_2 h=>j5 29 h (fun h=>rg<|fL lc h) (fun h=>rg<|(lc.nx h fun hI=>sk [] [81,82,83] [] hI))))))) (fun h=>(lc.bk h fun hI=>sk [] [] [] hI))
def b6p(w:m5):Option Bool :=
 ((p8 (fun s:Int=>b56 w s) 0).bind fun x=>x.go (fun r=>some r) fun s=>c8l)
theorem f3s(w)(r):NF O4 r (d2p w) (fun s=>b6p w):=fun _ h=>PK<|rg<|lp (f1O w) h (fun _ h=>O4.rt h) (e6q r) fun hI=>sk [] [81,82,83] [] hI
def e32(w:m5):Int->KS:=fun v65=>⟨O4.k 7 [false,false,false],(bs 1 (.ptr 1 0 0::(bs 61 (j9 3 B3 w.d7::(vi (w.d7.length:Int)::(vi v65::(bs 52 []))))))),[some [],some [.var 30 (G8 w)]]⟩
def b8H(w:m5)(v65:Int):Option (l7 Bool Int Unit) :=
 (bif decide (v65<(w.d7.length:Int)) then ((idx w.d7 v65).bind fun asked=>((a6w asked.a0).bind fun b2S=>(bif (!b2S) then some (l7.ret false) else ((a8D asked.i6).bind fun E2=>(bif (!E2) then some (l7.ret false) else some (l7.nxt (m8 (v65+1)))))))) else some (l7.brk ()))
theorem e8k(w):LQ O4 (d2p w) (e32 w) (fun s=>b8H w s):=fun lc v65 h=>PK<|rg<|j5 0 h (fun h=>rg<|v5 B3 0 h fun asked a4U h=>rg<|j8 b1i b28 2 h fun b2S h=>j5 4 h (fun h=>rg<|fL lc h) (fun h=>j8 a37 b9T 7 h fun E2 h=>j5 9 h (fun h=>rg<|fL lc h) (fun h=>rg<|(lc.nx h fun hI=>sk [] [1,63,64,65] [(1,0)] hI)))) (fun h=>(lc.bk h fun hI=>sk [] [1] [(1,0)] hI))
def b6H(w:m5):Option Bool :=
 ((p8 (fun s:Int=>b8H w s) 0).bind fun x=>x.go (fun r=>some r) fun s=>b6p w)
theorem e6L(w)(r):NF O4 r (c87 w) (fun s=>b6H w):=fun _ h=>PK<|rg<|lp (e8k w) h (fun _ h=>O4.rt h) (f3s w r) fun hI=>sk [] [1,63,64,65] [(1,0)] hI
def e58(w:m5):Int->KS:=fun v54=>⟨O4.k 5 [false,false],(bs 1 (.ptr 1 0 0::(bs 50 (j9 13 t0 w.c8::(vi (w.c8.length:Int)::(vi v54::(bs 63 []))))))),[some [],some [.var 30 (G8 w)]]⟩
def b8Y(w:m5)(v54:Int):Option (l7 Bool Int Unit) :=
 (bif decide (v54<(w.c8.length:Int)) then ((idx w.c8 v54).bind fun msg=>((b3h msg).bind fun Q1=>(bif (!Q1) then some (l7.ret false) else some (l7.nxt (m8 (v54+1)))))) else some (l7.brk ()))
theorem e7n(w):LQ O4 (c87 w) (e58 w) (fun s=>b8Y w s):=fun lc v54 h=>PK<|rg<|j5 0 h (fun h=>rg<|v5 t0 0 h fun msg hmsg h=>rg<|j8 c2d d4C 1 h fun Q1 h=>j5 2 h (fun h=>rg<|fL lc h) (fun h=>rg<|(lc.nx h fun hI=>sk [] [1,52,53,54] [(1,0)] hI))) (fun h=>(lc.bk h fun hI=>sk [] [1] [(1,0)] hI))
def b9E(w:m5):Option Bool :=
 ((p8 (fun s:Int=>b8Y w s) 0).bind fun x=>x.go (fun r=>some r) fun s=>b6H w)
theorem f1Q(w)(r):NF O4 r (c6i w) (fun s=>b9E w):=fun _ h=>PK<|rg<|lp (e7n w) h (fun _ h=>O4.rt h) (e6L w r) fun hI=>sk [] [1,52,53,54] [(1,0)] hI
def d7U(w:m5):Int->KS:=fun v36=>⟨O4.k 3 [false],(bs 1 (.ptr 1 0 0::(bs 32 (j9 27 A6 w.a9::(vi (w.a9.length:Int)::(vi v36::(bs 81 []))))))),[some [],some [.var 30 (G8 w)]]⟩
def b8u(w:m5)(v36:Int):Option (l7 Bool Int Unit) :=
 (bif decide (v36<(w.a9.length:Int)) then ((idx w.a9 v36).bind fun node=>(bif (node.Id != v36) then some (l7.ret false) else ((a4s node).bind fun D8=>(bif (!D8) then some (l7.ret false) else some (l7.nxt (m8 (v36+1))))))) else some (l7.brk ()))
theorem d84(w):LQ O4 (c6i w) (d7U w) (fun s=>b8u w s):=fun lc v36 h=>PK<|rg<|j5 0 h (fun h=>rg<|v5 A6 1 h fun node hnode h=>rg<|j5 4 h (fun h=>rg<|fL lc h) (fun h=>j8 a0J a8U 6 h fun D8 h=>j5 8 h (fun h=>rg<|fL lc h) (fun h=>rg<|(lc.nx h fun hI=>sk [] [1,34,35,36] [(1,0)] hI)))) (fun h=>(lc.bk h fun hI=>sk [] [1] [(1,0)] hI))
def a52(w:m5):Option Bool :=
 (bif ((w.a9.length:Int) != 3) then some false else (bif decide ((w.c8.length:Int)>40) then some false else (bif decide ((w.d7.length:Int)>60) then some false else (bif decide ((w.Told.length:Int)>60) then some false else ((p8 (fun s:Int=>b8u w s) 0).bind fun x=>x.go (fun r=>some r) fun s=>b9E w)))))
theorem b1S{w}:OK O4 [.agg (R8 w)] (a52 w) :=
 o7 _ fun r h=>n9<|j5 4 h (fun h=>rg<|fE h) (fun h=>j5 10 h (fun h=>rg<|fE h) (fun h=>j5 16 h (fun h=>rg<|fE h) (fun h=>j5 21 h (fun h=>rg<|fE h) (fun h=>rg<|lp (d84 w) h (fun _ h=>O4.rt h) (f1Q w r) fun hI=>sk [] [1,34,35,36] [(1,0)] hI))))
def b4u:FS (o9):=⟨167,Tryz.f167,[.ptr I7 om7],[none],[.val B0 []],fun r=>.optr 184 (c0t r),fun _=>[none],Tryz.func167⟩
def a7u(n:j6):Option o9 :=
 ((a8O n).bind fun Y4=>some (o9.mk Y4 [] []))
theorem b8T{n}:OK b4u [.agg (A6 n)] (a7u n) :=
 o7 _ fun r h=>n9<|j8 b4N b9a 1 h fun Y4 h=>J2 Y4<|fE h
def a36:FS (j6×(List l8)×(List n5)×o9):=⟨168,Tryz.f168,[.val B0 [],.val [some 13] [],.val [some 5] []],[some (0,.ptr I7 [])],[.ptr I7 []],fun r=>.tup [.agg (A6 r.1),j9 13 t0 r.2.1,j9 5 z4 r.2.2.1],fun r=>[some (.optr 184 (d5T r.2.2.2))],Tryz.func168⟩
def a1y(a:o9):Option (j6×(List l8)×(List n5)×o9) :=
 ((a8O a.n).bind fun Y4=>((b2H a.out).bind fun msgsCopy=>((b6i a.told).bind fun told=>some (Y4,msgsCopy,told,a))))
theorem a5r{a}:OK a36 [.optr 184 (d5T a)] (a1y a) :=
 o7 _ fun r h=>n9<|j8 b4N b9a 4 h fun Y4 h=>j8 a5H c6c 9 h fun msgsCopy h=>j8 c1m d4s 14 h fun told h=>J2 Y4<|C7 msgsCopy told<|fE h
def c0N:FS (List m9):=⟨38,Tryz.f38,[.val [some 2] [some 140]],[],[],fun r=>u9 140 2 x7 r,fun _=>[],Tryz.func38⟩
def b3C:Option (List m9) :=
 (t5 (0<=(4:Int)/\(4:Int)*16<=140737488355328) (some (f5k (4:Int).toNat (m9.mk 0 0))))
theorem c7O:OK c0N [] b3C :=
 o7 _ fun r h=>n9<|t8 h fun e1 h=>U0 0 2 140 2 16 x7 (m9.mk 0 0) b2U (.none) e1 (by decide) (by rfl)<|s6 (f5k (4:Int).toNat (m9.mk 0 0))<|fE h
def c6O:FS (u0):=⟨99,Tryz.f99,[.val [none,some 2,some 4] [none,some 140,some 174]],[],[],fun r=>.agg (b4Y r),fun _=>[],Tryz.func99⟩
def b9u:Option u0 :=
 ((b3C).bind fun a0T=>some (u0.mk 0 a0T []))
theorem d7m:OK c6O [] b9u :=
 o7 _ fun r h=>n9<|j8 c0N c7O 0 h fun a0T h=>s6 a0T<|fE h
def a3a:FS (Bool):=⟨94,Tryz.f94,[.val [] []],[none],[.val [some 2] []],fun r=>.b r,fun _=>[none],Tryz.func94⟩
def c58(list:List m9):Unit->KS:=fun _=>⟨a3a.k 3 [false],(j9 2 x7 list::(bs 24 [])),[some []]⟩
def c37(list:List m9):Option Bool :=
 some ((list.length:Int)==4)
theorem f4U(list)(r):NF a3a r (c58 list) (fun s=>c37 list):=fun _ h=>PK<|rg<|fE h
def e0T(list:List m9):Int->KS:=fun v7=>⟨a3a.k 2 [],(j9 2 x7 list::(bs 4 (j9 2 x7 list::(vi (list.length:Int)::(vi v7::(bs 17 [])))))),[some []]⟩
def b5s(list:List m9)(v7:Int):Option (l7 Bool Int Unit) :=
 (bif decide (v7<(list.length:Int)) then ((idx list v7).bind fun box=>((D4 box.j4 0 1000000).bind fun in_=>(bif (!in_) then some (l7.ret false) else ((D4 box.d9 (-1000000) 1000000).bind fun in_1=>(bif (!in_1) then some (l7.ret false) else some (l7.nxt (m8 (v7+1)))))))) else some (l7.brk ()))
theorem d7F(list):LQ a3a (c58 list) (e0T list) (fun s=>b5s list s):=fun lc v7 h=>PK<|rg<|j5 0 h (fun h=>rg<|v5 x7 0 h fun box a14 h=>rg<|j8 D1 F4 2 h fun in_ h=>j5 4 h (fun h=>rg<|fL lc h) (fun h=>j8 D1 F4 7 h fun in_1 h=>j5 9 h (fun h=>rg<|fL lc h) (fun h=>rg<|(lc.nx h fun hI=>sk [] [0,5,6,7] [] hI)))) (fun h=>(lc.bk h fun hI=>sk [] [0] [] hI))
def a65(list:List m9):Option Bool :=
 ((p8 (fun s:Int=>b5s list s) 0).bind fun x=>x.go (fun r=>some r) fun s=>c37 list)
theorem b4j{list}:OK a3a [j9 2 x7 list] (a65 list) :=
 o7 _ fun r h=>n9<|lp (d7F list) h (fun _ h=>a3a.rt h) (f4U list r) fun hI=>sk [] [0,5,6,7] [] hI
def a4S:FS (Bool):=⟨154,Tryz.f154,[.val [] []],[none],[.val [none,some 2,some 4] []],fun r=>.b r,fun _=>[none],Tryz.func154⟩
def c4q(s_:u0):Unit->KS:=fun _=>⟨a4S.k 3 [false],(bs 1 (.ptr 1 0 0::(bs 64 []))),[some [],some [.var 89 [vi s_.At,j9 2 x7 s_.g7,j9 4 B7 s_.i8]]]⟩
def c1T(s_:u0):Option Bool :=
 ((D4 s_.At 0 40).bind fun in_=>(bif in_ then ((a65 s_.g7).bind fun R9=>some R9) else some false))
theorem e0b(s_)(r):NF a4S r (c4q s_) (fun s=>c1T s_):=fun _ h=>PK<|rg<|j8 D1 F4 2 h fun in_ h=>j5 3 h (fun h=>j8 a3a b4j 6 h fun R9 h=>fE h) (fun h=>fE h)
def d2X(s_:u0):Int->KS:=fun v8=>⟨a4S.k 2 [],(bs 1 (.ptr 1 0 0::(bs 4 (j9 4 B7 s_.i8::(vi (s_.i8.length:Int)::(vi v8::(bs 57 []))))))),[some [],some [.var 89 [vi s_.At,j9 2 x7 s_.g7,j9 4 B7 s_.i8]]]⟩
def e2z(s_:u0)(v8:Int):Unit->KS:=fun _=>⟨a4S.k 5 [true,false],(bs 1 (.ptr 1 0 0::(bs 4 (j9 4 B7 s_.i8::(vi (s_.i8.length:Int)::(vi v8::(bs 57 []))))))),[some [],some [.var 89 [vi s_.At,j9 2 x7 s_.g7,j9 4 B7 s_.i8]]]⟩
def c1S(v8:Int):Option (l7 Bool Int Unit) :=
 some (l7.nxt (m8 (v8+1)))
theorem e6Y(s_ v8)(lc:H2 a4S (c4q s_) (d2X s_)):NL lc (e2z s_ v8) (fun s=>c1S v8):=fun _ h=>PK<|rg<|(lc.nx h fun hI=>sk [] [1,6,7,8] [(1,0)] hI)
def b4K(s_:u0)(v8:Int):Option (l7 Bool Int Unit) :=
 (bif decide (v8<(s_.i8.length:Int)) then ((idx s_.i8 v8).bind fun done=>(((bif decide (v8>0) then ((idx s_.i8 (m8 (v8-1))).bind fun a5i=>(bif decide (a5i.a0.b9>=done.a0.b9) then some (l9.ret (l7.ret false)) else ((a6w done.a0).bind fun a59=>(bif (!a59) then some (l9.ret (l7.ret false)) else ((D4 done.Code 0 2).bind fun in_1=>(bif (!in_1) then some (l9.ret (l7.ret false)) else ((D4 done.d9 (-1000000) 1000000).bind fun in_2=>(bif (!in_2) then some (l9.ret (l7.ret false)) else (bif (done.Code != 0) then (bif (done.d9 != 0) then some (l9.ret (l7.ret false)) else some (l9.brk ())) else some (l9.brk ())))))))))) else ((a6w done.a0).bind fun b2S=>(bif (!b2S) then some (l9.ret (l7.ret false)) else ((D4 done.Code 0 2).bind fun a0f=>(bif (!a0f) then some (l9.ret (l7.ret false)) else ((D4 done.d9 (-1000000) 1000000).bind fun a4F=>(bif (!a4F) then some (l9.ret (l7.ret false)) else (bif (done.Code != 0) then (bif (done.d9 != 0) then some (l9.ret (l7.ret false)) else some (l9.brk ())) else some (l9.brk ()))))))))):Option (l9 (l7 Bool Int Unit) Unit)).bind fun x=>x.go some fun j=>c1S v8)) else some (l7.brk ()))
theorem e1Y(s_):LQ a4S (c4q s_) (d2X s_) (fun s=>b4K s_ s):=fun lc v8 h=>PK<|rg<|j5 0 h (fun h=>rg<|v5 B7 1 h fun done b6e h=>A7 h (e6Y s_ v8 lc) fun x2 h hc2=>rg<|j5 2 h (fun h=>v5 B7 7 h fun a5i e2T h=>j5 16 h (fun h=>rg<|(C1 h hc2 fun h=>fL lc h)) (fun h=>j8 b1i b28 19 h fun a59 h=>j5 22 h (fun h=>rg<|(C1 h hc2 fun h=>fL lc h)) (fun h=>j8 D1 F4 25 h fun in_1 h=>j5 28 h (fun h=>rg<|(C1 h hc2 fun h=>fL lc h)) (fun h=>j8 D1 F4 31 h fun in_2 h=>j5 34 h (fun h=>rg<|(C1 h hc2 fun h=>fL lc h)) (fun h=>j5 38 h (fun h=>j5 43 h (fun h=>rg<|(C1 h hc2 fun h=>fL lc h)) (fun h=>(p7 h hc2 fun hI=>sk [] [1,6,7,8] [(1,0)] hI))) (fun h=>(p7 h hc2 fun hI=>sk [] [1,6,7,8] [(1,0)] hI))))))) (fun h=>j8 b1i b28 19 h fun b2S h=>j5 22 h (fun h=>rg<|(C1 h hc2 fun h=>fL lc h)) (fun h=>j8 D1 F4 25 h fun a0f h=>j5 28 h (fun h=>rg<|(C1 h hc2 fun h=>fL lc h)) (fun h=>j8 D1 F4 31 h fun a4F h=>j5 34 h (fun h=>rg<|(C1 h hc2 fun h=>fL lc h)) (fun h=>j5 38 h (fun h=>j5 43 h (fun h=>rg<|(C1 h hc2 fun h=>fL lc h)) (fun h=>(p7 h hc2 fun hI=>sk [] [1,6,7,8] [(1,0)] hI))) (fun h=>(p7 h hc2 fun hI=>sk [] [1,6,7,8] [(1,0)] hI))))))) (fun h=>(lc.bk h fun hI=>sk [] [1] [(1,0)] hI))
def b7m(s_:u0):Option Bool :=
 ((p8 (fun s:Int=>b4K s_ s) 0).bind fun x=>x.go (fun r=>some r) fun s=>c1T s_)
theorem e6v{s_}:OK a4S [.agg (a7X s_)] (b7m s_) :=
 o7 _ fun r h=>n9<|lp (e1Y s_) h (fun _ h=>a4S.rt h) (e0b s_ r) fun hI=>sk [] [1,6,7,8] [(1,0)] hI
def b7F:FS (List m9):=⟨95,Tryz.f95,[.val [some 2] [some 140]],[none],[.val [some 2] []],fun r=>u9 140 2 x7 r,fun _=>[none],Tryz.func95⟩
def a78(list:List m9):Option (List m9) :=
 (bif ((list.length:Int)==0) then some [] else (t5 (0<=(list.length:Int)/\(list.length:Int)*16<=140737488355328) ((t5 (list.length=(f5k (list.length:Int).toNat (m9.mk 0 0)).length) (some list)))))
theorem c0z{list}:OK b7F [j9 2 x7 list] (a78 list) :=
 o7 _ fun r h=>n9<|j5 2 h (fun h=>rg<|fE h) (fun h=>rg<|t8 h fun e1 h=>U0 2 7 140 2 16 x7 (m9.mk 0 0) b2U (.none) e1 (by decide) (by rfl)<|rg<|t8 h fun e2 h=>om (s8.row 140 2 (f5k (list.length:Int).toNat (m9.mk 0 0)).length (list.map x7)=m6 140 2 x7 list) (a1c e2)<|s6 (f5k (list.length:Int).toNat (m9.mk 0 0))<|ob e2<|tl (2,{e:=some (m6 140 2 x7 list)})<|rg<|om ((f5k (list.length:Int).toNat (m9.mk 0 0)).length=list.length) (by simp)<|fE h)
def b37:FS (List q8):=⟨155,Tryz.f155,[.val [some 4] [some 174]],[none],[.val [some 4] []],fun r=>u9 174 4 B7 r,fun _=>[none],Tryz.func155⟩
def a7g(list:List q8):Option (List q8) :=
 (bif ((list.length:Int)==0) then some [] else (t5 (0<=(list.length:Int)/\(list.length:Int)*32<=140737488355328) ((t5 (list.length=(f5k (list.length:Int).toNat (q8.mk (n7.mk 0 0) 0 0)).length) (some list)))))
theorem c2L{list}:OK b37 [j9 4 B7 list] (a7g list) :=
 o7 _ fun r h=>n9<|j5 2 h (fun h=>rg<|fE h) (fun h=>rg<|t8 h fun e1 h=>U0 2 7 174 4 32 B7 (q8.mk (n7.mk 0 0) 0 0) c4M (.none) e1 (by decide) (by rfl)<|rg<|t8 h fun e2 h=>om (s8.row 174 4 (f5k (list.length:Int).toNat (q8.mk (n7.mk 0 0) 0 0)).length (list.map B7)=m6 174 4 B7 list) (a1c e2)<|s6 (f5k (list.length:Int).toNat (q8.mk (n7.mk 0 0) 0 0))<|ob e2<|tl (2,{e:=some (m6 174 4 B7 list)})<|rg<|om ((f5k (list.length:Int).toNat (q8.mk (n7.mk 0 0) 0 0)).length=list.length) (by simp)<|fE h)
def a8b:FS (Bool):=⟨156,Tryz.f156,[.val [] []],[none,none],[.val [some 2] [],.val O2 []],fun r=>.b r,fun _=>[none,none],Tryz.func156⟩
def c8Q:Unit->KS:=fun _=>⟨a8b.k 4 [false,false],(bs 32 []),[some []]⟩
def d6D:Option Bool :=
 some true
theorem d9x(r):NF a8b r c8Q (fun s=>d6D):=fun _ h=>PK<|rg<|fE h
def e6r(list:List m9)(r_:n6):Int->KS:=fun v18=>⟨a8b.k 3 [false],(j9 2 x7 list::(bs 15 (j9 2 v6 r_.b5::(vi (r_.b5.length:Int)::(vi v18::(bs 13 [])))))),[some []]⟩
def b8j(list:List m9)(r_:n6)(v18:Int):Option (l7 Bool Int Unit) :=
 (bif decide (v18<(r_.b5.length:Int)) then ((idx r_.b5 v18).bind fun read=>((idx list read.i5).bind fun box=>(bif (box.j4 != read.j4) then some (l7.ret false) else some (l7.nxt (m8 (v18+1)))))) else some (l7.brk ()))
theorem e05(list r_):LQ a8b c8Q (e6r list r_) (fun s=>b8j list r_ s):=fun lc v18 h=>PK<|rg<|j5 0 h (fun h=>rg<|v5 v6 0 h fun read a3D h=>rg<|v5 x7 3 h fun box a14 h=>j5 8 h (fun h=>rg<|fL lc h) (fun h=>rg<|(lc.nx h fun hI=>sk [] [0,16,17,18] [] hI))) (fun h=>(lc.bk h fun hI=>sk [] [] [] hI))
def b5V(list:List m9)(r_:n6):Option Bool :=
 ((a65 list).bind fun R9=>(bif (!R9) then some false else ((b1s r_).bind fun a07=>(bif (!a07) then some false else ((p8 (fun s:Int=>b8j list r_ s) 0).bind fun x=>x.go (fun r=>some r) fun s=>d6D)))))
theorem e44{list r_}:OK a8b [j9 2 x7 list,.agg (Q7 r_)] (b5V list r_) :=
 o7 _ fun r h=>n9<|j8 a3a b4j 1 h fun R9 h=>j5 3 h (fun h=>rg<|fE h) (fun h=>j8 a0q c2G 5 h fun a07 h=>j5 7 h (fun h=>rg<|fE h) (fun h=>rg<|lp (e05 list r_) h (fun _ h=>a8b.rt h) (d9x r) fun hI=>sk [] [0,16,17,18] [] hI))
def a5M:FS (List m9):=⟨153,Tryz.f153,[.val [some 2] [some 140]],[none,none],[.val [some 2] [],.val O2 []],fun r=>u9 140 2 x7 r,fun _=>[none,none],Tryz.func153⟩
def c7H:(List m9)->KS:=fun out1=>⟨a5M.k 5 [false,false],(bs 5 (.own 1 0 2 0 out1.length::(bs 36 []))),[some [],some [m6 140 2 x7 out1]]⟩
def d0E(out1:List m9):Option (List m9) :=
 some out1
theorem e7B(r):NF a5M r c7H (fun s=>d0E s):=fun out1 h=>PK<|rg<|s6 out1<|fE h
def d8p(r_:n6):((List m9)×Int)->KS:=fun (out,v21)=>⟨a5M.k 4 [false],(bs 5 (.own 1 0 2 0 out.length::(bs 13 (j9 2 w8 r_.b6::(vi (r_.b6.length:Int)::(vi v21::(bs 20 []))))))),[some [],some [m6 140 2 x7 out]]⟩
def c0o(r_:n6)(out:List m9)(v21:Int):Option (l7 (List m9) ((List m9)×Int) (List m9)) :=
 (bif decide (v21<(r_.b6.length:Int)) then ((idx r_.b6 v21).bind fun put=>((idx out put.i5).bind fun P9=>some (l7.nxt (out.set put.i5.toNat (m9.mk (if (m8 (P9.j4+1))<1000000 then (m8 (P9.j4+1)) else 1000000) put.d9),m8 (v21+1))))) else some (l7.brk out))
theorem e06(r_):LQ a5M c7H (d8p r_) (fun s=>c0o r_ s.1 s.2):=fun lc (out,v21) h=>PK<|rg<|j5 0 h (fun h=>rg<|v5 w8 0 h fun put hput h=>rg<|A9 h fun P9 a6N h=>B9 a6N<|H9 x7 8 a6N<|B9 a6N<|Q4 140 2 x7 15 [] (m9.mk (if (m8 (P9.j4+1))<1000000 then (m8 (P9.j4+1)) else 1000000) put.d9) a6N<|rg<|(lc.nx h fun hI=>om ((.own 1 0 2 0 out.length:V)=.own 1 0 2 0 (out.set put.i5.toNat (m9.mk (if (m8 (P9.j4+1))<1000000 then (m8 (P9.j4+1)) else 1000000) put.d9)).length) (by simp)<|sk [.is (.tmp 5) (.own 1 0 2 0 (out.set put.i5.toNat (m9.mk (if (m8 (P9.j4+1))<1000000 then (m8 (P9.j4+1)) else 1000000) put.d9)).length)] [5,19,20,21] [(1,0)] hI)) (fun h=>(lc.bk h fun hI=>sk [] [5] [(1,0)] hI))
def b2k(list:List m9)(r_:n6):Option (List m9) :=
 ((a65 list).bind fun R9=>(bif (!R9) then some [] else ((b1s r_).bind fun a07=>(bif (!a07) then some [] else ((a78 list).bind fun box=>((p8 (fun s:(List m9)×Int=>c0o r_ s.1 s.2) (box,0)).bind fun x=>x.go (fun r=>some r) fun s=>d0E s))))))
theorem c9o{list r_}:OK a5M [j9 2 x7 list,.agg (Q7 r_)] (b2k list r_) :=
 o7 _ fun r h=>n9<|j8 a3a b4j 1 h fun R9 h=>j5 3 h (fun h=>rg<|fE h) (fun h=>j8 a0q c2G 5 h fun a07 h=>j5 7 h (fun h=>rg<|fE h) (fun h=>rg<|j8 b7F c0z 1 h fun box h=>rg<|lp (e06 r_) h (fun _ h=>a5M.rt h) (e7B r) fun hI=>sk [] [5,19,20,21] [(12,0)] hI))
def R3:FS (u0×Int):=⟨100,Tryz.f100,[.val [none,some 2,some 4] [none,some 140,some 174],.val [] []],[none,none],[.val [none,some 2,some 4] [],.val K6 []],fun r=>.tup [.agg (b4Y r.1),vi r.2],fun _=>[none,none],Tryz.func100⟩
def c2A(s_:u0)(e_:m4)(box:List m9):Unit->KS:=fun _=>⟨R3.k 6 [false,false,false],(bs 2 (.ptr 1 0 0::(.ptr 2 0 0::(.ptr 3 0 0::(bs 1 (.ptr 4 0 0::(bs 145 []))))))),[some [],some [.var 89 [vi s_.At,j9 2 x7 s_.g7,j9 4 B7 s_.i8]],some [.var 56 (a5d e_)],some [.var 89 [vi 0,.nil,.nil]],some [.var 89 [vi (m8 (s_.At+1)),.own 5 0 2 0 box.length,.nil]],some [m6 140 2 x7 box]]⟩
def e9W(s_:u0):(q8×List m9)->KS:=fun (own,g7)=>⟨R3.k 9 [false,false,false,true],(bs 2 (.ptr 1 0 0::(bs 1 (.ptr 2 0 0::(bs 1 (.ptr 3 0 0::(bs 2 (.ptr 5 0 0::(bs 142 []))))))))),[some [],some [.var 89 [vi s_.At,j9 2 x7 s_.g7,j9 4 B7 s_.i8]],some [.var 89 [vi 0,.nil,.nil]],some [.var 89 [vi (m8 (s_.At+1)),.own 4 0 2 0 g7.length,.nil]],some [m6 140 2 x7 g7],some [.var 174 [vi own.a0.b9,vi own.a0.Seq,vi own.Code,vi own.d9]]]⟩
def b7s(s_:u0)(own:q8)(g7:List m9):((List q8)×Bool)->KS:=fun (dones1,put1)=>⟨R3.k 13 [false,false,false,true,false],(bs 4 (.ptr 1 0 0::(bs 1 (.ptr 2 0 0::(bs 2 (.ptr 4 0 0::(.own 5 0 4 0 dones1.length::(.b put1::(bs 140 []))))))))),[some [],some [.var 89 [vi 0,.nil,.nil]],some [.var 89 [vi (m8 (s_.At+1)),.own 3 0 2 0 g7.length,.nil]],some [m6 140 2 x7 g7],some [.var 174 [vi own.a0.b9,vi own.a0.Seq,vi own.Code,vi own.d9]],some [m6 174 4 B7 dones1]]⟩
def f2N(s_:u0)(own:q8)(g7:List m9):(List q8)->KS:=fun b0I=>⟨R3.k 15 [false,false,false,true,false,true],(bs 4 (.ptr 1 0 0::(bs 1 (.ptr 2 0 0::(bs 2 (.ptr 4 0 0::(.own 5 0 4 0 b0I.length::(bs 141 [])))))))),[some [],some [.var 89 [vi 0,.nil,.nil]],some [.var 89 [vi (m8 (s_.At+1)),.own 3 0 2 0 g7.length,.nil]],some [m6 140 2 x7 g7],some [.var 174 [vi own.a0.b9,vi own.a0.Seq,vi own.Code,vi own.d9]],some [m6 174 4 B7 b0I]]⟩
def c3U(s_:u0)(own:q8)(g7:List m9)(b0I:List q8):Option (u0×Int) :=
 ((a7g b0I).bind fun a5i=>some ((u0.mk (m8 (s_.At+1)) g7 a5i),own.Code))
theorem e8d(s_ own g7)(r):NF R3 r (f2N s_ own g7) (fun s=>c3U s_ own g7 s):=fun b0I h=>PK<|rg<|cbS b37 c2L 1 (fun _=>(by simp [b37,K2,R6,N6,V.simple,vi,u9,B7,eI,E6])) (fun _=>(O9 1)) h fun a5i h=>s6 b0I<|rg<|C7 g7 a5i<|fE h
def c2s(s_:u0)(own:q8)(g7:List m9)(dones1:List q8)(put1:Bool):Option (u0×Int) :=
 (((bif (!put1) then (t5 ((dones1.length+1)*32<=140737488355328) (some (l9.brk (dones1++[own])))) else some (l9.brk dones1)):Option (l9 (u0×Int) (List q8))).bind fun x=>x.go some fun j=>c3U s_ own g7 j)
theorem f08(s_ own g7)(r):NF R3 r (b7s s_ own g7) (fun s=>c2s s_ own g7 s.1 s.2):=fun (dones1,put1) h=>PK<|A7 h (e8d s_ own g7 r) fun x1 h hc1=>rg<|j5 1 h (fun h=>rg<|tk 2 []<|t8 h fun e1 h=>F6 3 11 174 4 32 B7 dones1 own e1<|E4 own<|(p7 h hc1 fun hI=>sk [] [4,6,9,10] [(1,0),(2,0),(3,0),(4,0),(11,0)] hI)) (fun h=>(p7 h hc1 fun hI=>sk [] [4,6,9,10] [(1,0),(2,0),(3,0),(4,0),(5,0)] hI))
def c5D(s_:u0)(own:q8)(g7:List m9):((List q8)×Int×Bool)->KS:=fun (dones,v109,put)=>⟨R3.k 12 [false,false,false,true],(bs 4 (.ptr 1 0 0::(bs 1 (.ptr 2 0 0::(bs 2 (.ptr 4 0 0::(.own 5 0 4 0 dones.length::(.b put::(bs 95 (j9 4 B7 s_.i8::(vi (s_.i8.length:Int)::(vi v109::(bs 42 []))))))))))))),[some [],some [.var 89 [vi 0,.nil,.nil]],some [.var 89 [vi (m8 (s_.At+1)),.own 3 0 2 0 g7.length,.nil]],some [m6 140 2 x7 g7],some [.var 174 [vi own.a0.b9,vi own.a0.Seq,vi own.Code,vi own.d9]],some [m6 174 4 B7 dones]]⟩
end
end Go.Proofs.YtobfemcdchmgeaaGreat
