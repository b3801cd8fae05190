/- Abstract values and states of the program, functions of the program and what their calls come to, and what follows from it: part 3 of the text that the law leans on; long names are written short. -/
import Derived.Test.YthbeecjnggpjnaaGreatP2
set_option linter.unusedVariables false
set_option linter.unusedSimpArgs false
set_option linter.unnecessarySimpa false
namespace Go.Proofs.YthbeecjnggpjnaaGreat
open Go
open Option renaming bind_some → f5s, getD_some → f6G, map_some → f6I, map_eq_some_iff → f6U
open List renaming getElem?_eq_getElem → f5t, replicate → f5u, getElem_mem → f5v, mem_singleton → f5y, getElem?_eq_some_iff → f5z, range → f5A, mem_cons → f5B, nodup_append → f5C, length_append → f5D, eq_nil_of_length_eq_zero → f5E, mem_of_getElem? → f5F, getD_eq_getElem?_getD → f5G, getElem?_append_right → f5I, append_assoc → f5J, length_take → f5L, take_length → f5M, getElem?_set_ne → f5N, getElem?_append_left → f5O, getElem?_eq_none → f5Q, drop_eq_nil_of_le → f5S, take_succ_eq_append_getElem → f5T, drop_eq_getElem_cons → f5U, flatten_cons → f5X, map_cons → f6b, append_nil → f6d, getElem_of_mem → f6e, any_eq_false → f6f, take_of_length_le → f6g, take_append_of_le_length → f6h, take_zero → f6i, pairwise_iff_getElem → f6j, mem_of_mem_take → f6k, length_map → f6l, mem_replicate → f6m, findIdx?_eq_some_iff_getElem → f6n, nil_append → f6o, mem_of_mem_drop → f6p, take_append_drop → f6r, mem_flatten → f6s, getElem?_map → f6t, mem_take_iff_getElem → f6u, getElem?_set_self → f6v, length_cons → f6y, length_singleton → f6z, getElem?_cons_zero → f6A, mem_range → f6B, map_append → f6E, getElem?_cons_succ → f6F, drop_zero → f6H, pairwise_cons → f6K, length_set → f6M, nodup_cons → f6N, any_eq_true → f6P, mem_append_left → f6R, getElem?_set → f6S, getElem?_drop → f6V, getElem?_take → f6W, find?_cons → f6Y, length_nil → f6Z, all_eq_false → f7a, sublist_append_right → f7c, getElem?_of_mem → f7d, pairwise_append → f7e, Perm → f7g, drop_drop → f7h, cons_append → f7j, not_mem_nil → f7k, getElem_map → f7l, take_succ_cons → f7m, replicate_succ → f7n, foldl_cons → f7o, drop_append_of_le_length → f7p, size_toArray → f7q, toArray → f7r, map_map → f7s, Sublist → f7t, set_getElem_self → f7u, length_replicate → f7w, getElem?_append → f7x, length_drop → f7A, mem_cons_of_mem → f7B, any_cons → f7C, flatten_append → f7D, findIdx?_eq_none_iff → f7F, mem_of_find?_eq_some → f7G, find?_eq_none → f7H, foldl_nil → f7J
open Bool renaming and_eq_true → f5w, not_true → f5x, true_and → f5H, not_false → f5V, not_eq_true' → f6a, false_or → f6c, or_eq_false_iff → f6D, false_eq_true → f6J, and_true → f6L, eq_iff_iff → f6O, and_assoc → f7i, true_or → f7v, not_eq_true → f7z, not_not → f7I
open Nat renaming le_refl → f5K, mul_le_mul_right → f5Y, eq_of_beq_eq_true → f5Z, zero_add → f6x, succ_mul → f6C, lt_of_lt_of_le → f6Q, le_mul_of_pos_right → f6T, add_zero → f6X, le_succ_of_le → f7b, zero_le → f7f
open Int renaming toNat_natCast → f5P, le_refl → f5R, tmod → f5W, le_trans → f6q, tdiv → f7y
open Option.some renaming inj → f6w
open Classical renaming byContradiction → f7E
noncomputable section
theorem e1c(list):LQ a3v d37 (e9V list) (fun s=>b22 list s.1 s.2):=fun lc (out,i) h=>PK<|rg<|j5 3 h (fun h=>rg<|v5 p8 3 h fun vote J5 h=>J3 p8 8 J5<|l7 c9p f2m 11 h fun d h=>om (s6.deep false 106 8 1 [(e3A vote d)]=C4 106 8 a08 [(m8.mk vote.a8 d)]) rfl<|olR d.b8<|tl (13,{a:=.dck [none,none,none,none,some 2,some 2,none,none] [none,none,none,none,some 164,some 166,none,none],e:=some (C4 106 8 a08 [(m8.mk vote.a8 d)])})<|t9 h fun e1 h=>om (V.own 20 0 8 0 (out.length+1)=.own 20 0 8 0 (out++[(m8.mk vote.a8 d)]).length) (by simp)<|om (s6.deep false 106 8 (out.length+1) (out.map a08++[a08 (m8.mk vote.a8 d)])=C4 106 8 a08 (out++[(m8.mk vote.a8 d)])) (c1u rfl)<|s7 out<|ob e1<|om (1=1) rfl<|tl (14,{a:=.dck [] [],v:=some (.own 20 0 8 0 (out++[(m8.mk vote.a8 d)]).length),e:=some (C4 106 8 a08 (out++[(m8.mk vote.a8 d)]))})<|rg<|(lc.nx h fun hI=>sk [] [0,3,4] [(20,0)] hI)) (fun h=>(lc.bk h fun hI=>sk [] [3] [(1,0)] hI))
def b9I(list:List m8):Option (List m8) :=
 ((p7 (fun s:(List m8)×Int=>b22 list s.1 s.2) (([]:List m8),0)).bind fun x=>x.go (fun r=>some r) fun s=>d0L s)
theorem e94{list}:OK a3v [j8 8 p8 list] (b9I list) :=
 o7 _ fun r h=>n6<|om (s6.deep false 106 8 0 []=C4 106 8 a08 ([]:List m8)) rfl<|tl (0,{a:=.dck [] [],e:=some (C4 106 8 a08 ([]:List m8))})<|rg<|lp (e1c list) h (fun _ h=>a3v.rt h) (e5W r) fun hI=>om ((.own 2 0 8 0 0:V)=.own 2 0 8 0 ([]:List m8).length) (by simp)<|sk [.is (.tmp 3) (.own 2 0 8 0 ([]:List m8).length)] [0,3,4] [(2,0)] hI
def c6k:FS (j6×List l8):=⟨177,Tryz.f177,[.val A7 G7,.val [some 13] []],[none,none],[.val A7 G7,.val B8 []],fun r=>.tup [.agg (H0 r.1),j8 13 s8 r.2],fun _=>[none,none],Tryz.func177⟩
def b8k(n:j6)(m:l8):Option (j6×List l8) :=
 (a5p (b0C n.Acc m.a8) (fun no=>(bif (!no.2) then ((a4I m (l8.mk 6 0 0 n.Acc.i0 0 (m4.mk false (n9.mk 0 0) (n5.mk [] [] 0 0)) [])).bind fun a1F=>some (n,a1F)) else none)) (((a7U n.Acc m.a8).bind fun l6Promise=>(bif (!l6Promise.2) then none else ((b2S (j6.mk n.Id l6Promise.1 n.a5 n.Seq n.d7 n.a8 n.c8 n.i4 n.c9 n.a7 n.i8 n.i6 n.b7 n.d9) m.a8).bind fun r_=>(bif decide (m.g7<(l6Promise.1.a7.length:Int)) then (t0 ((0:Int)<=m.g7/\m.g7<=(l6Promise.1.a7.length:Int)) (((b9I ((l6Promise.1.a7.drop m.g7.toNat).take (l6Promise.1.a7.length-m.g7.toNat))).bind fun d=>((a4I m (l8.mk 2 0 0 m.a8 m.g7 (m4.mk false (n9.mk 0 0) (n5.mk [] [] 0 0)) d)).bind fun a4Z=>some ((j6.mk r_.Id (z0.mk r_.Acc.i0 l6Promise.1.a7) r_.a5 r_.Seq r_.d7 r_.a8 r_.c8 r_.i4 r_.c9 r_.a7 r_.i8 r_.i6 r_.b7 r_.d9),a4Z))))) else ((a4I m (l8.mk 2 0 0 m.a8 m.g7 (m4.mk false (n9.mk 0 0) (n5.mk [] [] 0 0)) ([]:List m8))).bind fun d47=>some ((j6.mk r_.Id (z0.mk r_.Acc.i0 l6Promise.1.a7) r_.a5 r_.Seq r_.d7 r_.a8 r_.c8 r_.i4 r_.c9 r_.a7 r_.i8 r_.i6 r_.b7 r_.d9),d47))))))))
set_option maxRecDepth 20000 in
theorem e8L{n m}:OK c6k [.agg (H0 n),.agg (s8 m)] (b8k n m) :=
 o7 _ fun r h=>n6<|cbA a61.t c1I 4 true h (fun no h=>osc a61 no (by simp [a61,K9,R4,O6,V.simple,vi,u9,Z3,eB,t5,eI,w8,v6,I7,Q9,p8]) (P8 2)<|s7 n.Acc.a7<|rg<|j5 1 h (fun h=>rg<|l7 a31 a71 6 h fun a1F h=>A2 n<|fE h) (fun h=>(nomatch h))) (fun h=>l7 b1t b4L 4 h fun l6Promise h=>s7 n.Acc.a7<|rg<|j5 1 h (fun h=>(nomatch h)) (fun h=>n6<|cb f2e e9g 3 false h fun r_ h=>J6 n<|rg<|tk 0 W0<|rg<|j5 5 h (fun h=>rg<|t9 h fun e1 h=>ob e1.1<|ob e1.2<|A8 h fun d hd h=>om (a0v cx.P 153 [.sl 8 (l6Promise.1.a7.length-m.g7.toNat) (((l6Promise.1.a7.map p8).drop (0+m.g7.toNat)).take (l6Promise.1.a7.length-m.g7.toNat))] (a3v.R d) (a3v.O d)) (by rw [f6x,b2X e1];exact (e94 d hd))<|osc a3v d (by simp [a3v,K9,R4,O6,V.simple,vi,u9,b7c,eB,t5,eI,w8,v6,I7,Q9,p8,a08,b0j]) (P8 1)<|om ((0+m.g7.toNat)+(l6Promise.1.a7.length-m.g7.toNat)<=l6Promise.1.a7.length) (by omega)<|tl (a3v.t 5 true d)<|rg<|A8 h fun a4Z d9g h=>om (a0v cx.P 196 [.agg (s8 m),.agg [vi 2,vi 0,vi 0,vi m.a8,vi m.g7,.b false,vi 0,vi 0,j8 2 v6 ([]:List q8),j8 2 w8 ([]:List p6),vi 0,vi 0,.sl 8 d.length (a0S (d.map a08))]] (a31.R a4Z) (a31.O a4Z)) (by simp only [b1p e52];exact (a71 a4Z d9g))<|s7 d<|tl (a31.t 8 false a4Z)<|s7 l6Promise.1.a7<|J6 r_<|fE h) (fun h=>rg<|l7 a31 a71 8 h fun d47 h=>B9 m8<|s7 l6Promise.1.a7<|J6 r_<|fE h)))
def c5T:FS (List m8):=⟨198,Tryz.f198,[.val [some 8] [some 106]],[none,none],[.val [some 8] [],.val [] []],fun r=>u9 106 8 p8 r,fun _=>[none,none],Tryz.func198⟩
def b6p(list:List m8)(slot:Int):Option (List m8) :=
 (t0 (0<=slot/\slot*96<=140737488355328) (((a76 list).bind fun Y2=>(t0 (((f5u slot.toNat (m8.mk 0 (m4.mk false (n9.mk 0 0) (n5.mk [] [] 0 0)))).length+Y2.length)*96<=140737488355328) (some ((f5u slot.toNat (m8.mk 0 (m4.mk false (n9.mk 0 0) (n5.mk [] [] 0 0))))++Y2))))))
theorem f0l{list slot}:OK c5T [j8 8 p8 list,vi slot] (b6p list slot) :=
 o7 _ fun r h=>n6<|t9 h fun e1 h=>R8 1 3 106 8 96 p8 (m8.mk 0 (m4.mk false (n9.mk 0 0) (n5.mk [] [] 0 0))) b18 (.ck W0) e1 (by decide) (by rfl)<|rg<|l7 a3M b6y 2 h fun Y2 h=>t9 h fun e2 h=>apL 3 8 106 8 96 p8 (f5u slot.toNat (m8.mk 0 (m4.mk false (n9.mk 0 0) (n5.mk [] [] 0 0)))) Y2 e2<|s7 Y2<|s7 ((f5u slot.toNat (m8.mk 0 (m4.mk false (n9.mk 0 0) (n5.mk [] [] 0 0))))++Y2)<|fE h
def a1X:FS (List m8):=⟨197,Tryz.f197,[.val [some 8] []],[none,none],[.val [some 8] [],.val [some 8] []],fun r=>j8 8 p8 r,fun _=>[none,none],Tryz.func197⟩
def b1n:(List m8)->KS:=fun out1=>⟨a1X.k 4 [false],(bs 5 (.own 1 0 8 0 out1.length::(bs 52 []))),[some [],some [m6 106 8 p8 out1]]⟩
def d19(out1:List m8):Option (List m8) :=
 some out1
theorem e4f(r):NF a1X r b1n (fun s=>d19 s):=fun out1 h=>PK<|rg<|s7 out1<|fE h
def b68(a:List m8)(b:List m8):((List m8)×Int)->KS:=fun (out,i)=>⟨a1X.k 3 [],(j8 8 p8 a::(j8 8 p8 b::(bs 3 (.own 1 0 8 0 out.length::(vi i::(bs 51 [])))))),[some [],some [m6 106 8 p8 out]]⟩
def e9Q(a:List m8)(b:List m8)(out:List m8)(i:Int):Unit->KS:=fun _=>⟨a1X.k 4 [true],(j8 8 p8 a::(j8 8 p8 b::(bs 3 (.own 1 0 8 0 out.length::(vi i::(bs 51 [])))))),[some [],some [m6 106 8 p8 out]]⟩
def e61(a:List m8)(b:List m8)(out:List m8)(i:Int):m8->KS:=fun v_=>⟨a1X.k 7 [true,true],(j8 8 p8 a::(j8 8 p8 b::(bs 3 (.own 1 0 8 0 out.length::(vi i::(.ptr 2 0 0::(bs 50 []))))))),[some [],some [m6 106 8 p8 out],some [.var 106 (c6D v_)]]⟩
def f4Y(a:List m8)(b:List m8)(out:List m8)(i:Int):m8->KS:=fun v_1=>⟨a1X.k 9 [true,true,true],(j8 8 p8 a::(j8 8 p8 b::(bs 3 (.own 1 0 8 0 out.length::(vi i::(.ptr 2 0 0::(bs 50 []))))))),[some [],some [m6 106 8 p8 out],some [.var 106 (c6D v_1)]]⟩
def b9P(out:List m8)(i:Int)(v_1:m8):Option (j9 (List m8) ((List m8)×Int) (List m8)) :=
 ((W6 v_1.g9).bind fun l5Entry=>(t0 ((out.length+1)*96<=140737488355328) (some (j9.nxt (out++[(m8.mk v_1.a8 l5Entry)],m7 (i+1))))))
theorem d8k(a b out i)(lc:F6 a1X b1n (b68 a b)):NL lc (f4Y a b out i) (fun s=>b9P out i s):=fun v_1 h=>PK<|rg<|l7 a0u a01 5 h fun l5Entry h=>tk 7 W0<|t9 h fun e1 h=>F9 8 11 106 8 96 p8 out (m8.mk v_1.a8 l5Entry) e1<|E6 (m8.mk v_1.a8 l5Entry)<|rg<|(lc.nx h fun hI=>sk [] [0,1,5,6] [(11,0)] hI)
def b78(b:List m8)(out:List m8)(i:Int)(v_:m8):Option (j9 (List m8) ((List m8)×Int) (List m8)) :=
 (((bif decide (i<(b.length:Int)) then ((idx b i).bind fun vote=>(bif decide (vote.a8>v_.a8) then some (l9.brk vote) else some (l9.brk v_))) else some (l9.brk v_)):Option (l9 (j9 (List m8) ((List m8)×Int) (List m8)) m8)).bind fun x=>x.go some fun j=>b9P out i j)
theorem e5l(a b out i)(lc:F6 a1X b1n (b68 a b)):NL lc (e61 a b out i) (fun s=>b78 b out i s):=fun v_ h=>PK<|A6 h (d8k a b out i lc) fun x2 h hc2=>rg<|j5 4 h (fun h=>v5 p8 7 h fun vote J5 h=>j5 13 h (fun h=>rg<|J3 p8 2 J5<|(o8 h hc2 fun hI=>sk [] [0,1,5,6,7] [(1,0),(2,0)] hI)) (fun h=>(o8 h hc2 fun hI=>sk [] [0,1,5,6,7] [(1,0),(2,0)] hI))) (fun h=>(o8 h hc2 fun hI=>sk [] [0,1,5,6,7] [(1,0),(2,0)] hI))
def b6I(a:List m8)(b:List m8)(out:List m8)(i:Int):Option (j9 (List m8) ((List m8)×Int) (List m8)) :=
 (((bif decide (i<(a.length:Int)) then ((idx a i).bind fun O0=>some (l9.brk O0)) else some (l9.brk (m8.mk 0 (m4.mk false (n9.mk 0 0) (n5.mk [] [] 0 0))))):Option (l9 (j9 (List m8) ((List m8)×Int) (List m8)) m8)).bind fun x=>x.go some fun j=>b78 b out i j)
theorem e4c(a b out i)(lc:F6 a1X b1n (b68 a b)):NL lc (e9Q a b out i) (fun s=>b6I a b out i):=fun _ h=>PK<|rg<|A6 h (e5l a b out i lc) fun x2 h hc2=>rg<|j5 3 h (fun h=>rg<|v5 p8 2 h fun O0 a2J h=>(o8 h hc2 fun hI=>sk [] [0,1,5,6,7] [(1,0),(3,0)] hI)) (fun h=>(o8 h hc2 fun hI=>sk [.frz (.cell 3 0 4) (some 2),.frz (.cell 3 0 5) (some 2)] [0,1,5,6,7] [(1,0),(3,0)] hI))
def a6V(a:List m8)(b:List m8)(out:List m8)(i:Int):Option (j9 (List m8) ((List m8)×Int) (List m8)) :=
 (((bif decide (i<(a.length:Int)) then some (l9.brk ()) else (bif decide (i<(b.length:Int)) then some (l9.brk ()) else some (l9.ret (j9.brk out)))):Option (l9 (j9 (List m8) ((List m8)×Int) (List m8)) Unit)).bind fun x=>x.go some fun j=>b6I a b out i)
theorem e4W(a b):LQ a1X b1n (b68 a b) (fun s=>a6V a b s.1 s.2):=fun lc (out,i) h=>PK<|A6 h (e4c a b out i lc) fun x2 h hc2=>rg<|j5 4 h (fun h=>(o8 h hc2 fun hI=>sk [] [0,1,5,6] [(1,0)] hI)) (fun h=>j5 9 h (fun h=>(o8 h hc2 fun hI=>sk [] [0,1,5,6] [(1,0)] hI)) (fun h=>(B7 h hc2 fun h=>(lc.bk h fun hI=>sk [] [5] [(1,0)] hI))))
def b5S(a:List m8)(b:List m8):Option (List m8) :=
 ((p7 (fun s:(List m8)×Int=>a6V a b s.1 s.2) (([]:List m8),0)).bind fun x=>x.go (fun r=>some r) fun s=>d19 s)
theorem f3j{a b}:OK a1X [j8 8 p8 a,j8 8 p8 b] (b5S a b) :=
 o7 _ fun r h=>n6<|tk 0 W0<|rg<|lp (e4W a b) h (fun _ h=>a1X.rt h) (e4f r) fun hI=>om ((.own 2 0 8 0 0:V)=.own 2 0 8 0 ([]:List m8).length) (by simp)<|sk [.is (.tmp 5) (.own 2 0 8 0 ([]:List m8).length)] [0,1,5,6] [(2,0)] hI
def d0e:FS (Int):=⟨208,Tryz.f208,[.val [] []],[none],[.val [] []],fun r=>vi r,fun _=>[none],Tryz.func208⟩
def c0J(b:Bool):Option Int :=
 (bif b then some 1 else some 0)
theorem f2y{b}:OK d0e [.b b] (c0J b) :=
 o7 _ fun r h=>n6<|j5 0 h (fun h=>rg<|fE h) (fun h=>rg<|fE h)
def a69:FS (Bool):=⟨199,Tryz.f199,[.val [] []],[none],[.val [some 1] []],fun r=>.b r,fun _=>[none],Tryz.func199⟩
def c7d:Int->KS:=fun n1=>⟨a69.k 4 [false],(bs 3 (vi n1::(bs 16 []))),[some []]⟩
def c3k(n1:Int):Option Bool :=
 some (decide (n1>=2))
theorem f0U(r):NF a69 r c7d (fun s=>c3k s):=fun n1 h=>PK<|rg<|fE h
def e5N(list:List Bool):(Int×Int)->KS:=fun (n,i)=>⟨a69.k 3 [],(j8 1 eB list::(bs 2 (vi n::(vi i::(bs 15 []))))),[some []]⟩
def a4K(list:List Bool)(n:Int)(i:Int):Option (j9 Bool (Int×Int) Int) :=
 (bif decide (i<(list.length:Int)) then ((idx list i).bind fun y=>((c0J y).bind fun c9B=>some (j9.nxt (m7 (n+c9B),m7 (i+1))))) else some (j9.brk n))
theorem f2V(list):LQ a69 c7d (e5N list) (fun s=>a4K list s.1 s.2):=fun lc (n,i) h=>PK<|rg<|j5 3 h (fun h=>rg<|v5 eB 3 h fun y hy h=>l7 d0e f2y 5 h fun c9B h=>rg<|(lc.nx h fun hI=>sk [] [0,3,4] [] hI)) (fun h=>(lc.bk h fun hI=>sk [] [3] [] hI))
def b2Q(list:List Bool):Option Bool :=
 ((p7 (fun s:Int×Int=>a4K list s.1 s.2) (0,0)).bind fun x=>x.go (fun r=>some r) fun s=>c3k s)
theorem d30{list}:OK a69 [j8 1 eB list] (b2Q list) :=
 o7 _ fun r h=>N0<|lp (f2V list) h (fun _ h=>a69.rt h) (f0U r) fun hI=>sk [] [0,3,4] [] hI
def a5N:FS (Bool):=⟨205,Tryz.f205,[.val [] []],[none,none],[.val [some 8] [],.val [] []],fun r=>.b r,fun _=>[none,none],Tryz.func205⟩
def d6n:Unit->KS:=fun _=>⟨a5N.k 3 [false],(bs 19 []),[some []]⟩
def c7S:Option Bool :=
 some false
theorem e48(r):NF a5N r d6n (fun s=>c7S):=fun _ h=>PK<|rg<|fE h
def f1b(list:List m8):Int->KS:=fun i=>⟨a5N.k 2 [],(j8 8 p8 list::(bs 4 (vi i::(bs 13 [])))),[some []]⟩
def a8k(list:List m8)(i:Int):Option (j9 Bool Int Unit) :=
 (bif decide (i<(list.length:Int)) then ((idx list i).bind fun vote=>(bif decide (vote.a8>0) then some (j9.ret true) else some (j9.nxt (m7 (i+1))))) else some (j9.brk ()))
theorem f1h(list):LQ a5N d6n (f1b list) (fun s=>a8k list s):=fun lc i h=>PK<|rg<|j5 3 h (fun h=>rg<|v5 p8 2 h fun vote J5 h=>j5 5 h (fun h=>rg<|fL lc h) (fun h=>rg<|(lc.nx h fun hI=>sk [] [0,5] [] hI))) (fun h=>(lc.bk h fun hI=>sk [] [] [] hI))
def b7p(list:List m8)(from_:Int):Option Bool :=
 ((p7 (fun s:Int=>a8k list s) from_).bind fun x=>x.go (fun r=>some r) fun s=>c7S)
theorem d9n{list from_}:OK a5N [j8 8 p8 list,vi from_] (b7p list from_) :=
 o7 _ fun r h=>n6<|lp (f1h list) h (fun _ h=>a5N.rt h) (e48 r) fun hI=>sk [] [0,5] [] hI
def a2i:FS (Bool):=⟨201,Tryz.f201,[.val [] []],[none,none],[.val A7 [],.val [] []],fun r=>.b r,fun _=>[none,none],Tryz.func201⟩
def c0R:Unit->KS:=fun _=>⟨a2i.k 3 [false],(bs 30 []),[some []]⟩
def c6Y:Option Bool :=
 some false
theorem e6b(r):NF a2i r c0R (fun s=>c6Y):=fun _ h=>PK<|rg<|fE h
def c6P(n:j6)(q:n9):Int->KS:=fun i=>⟨a2i.k 2 [],(bs 2 (.ptr 1 0 0::(.ptr 2 0 0::(bs 1 (vi i::(bs 24 [])))))),[some [],some [.var 57 (X6 n)],some [.var 49 [vi q.b9,vi q.Seq]]]⟩
def e2B(n:j6)(q:n9)(i:Int):Unit->KS:=fun _=>⟨a2i.k 4 [true,false],(bs 2 (.ptr 1 0 0::(.ptr 2 0 0::(bs 1 (vi i::(bs 24 [])))))),[some [],some [.var 57 (X6 n)],some [.var 49 [vi q.b9,vi q.Seq]]]⟩
def c2Z(i:Int):Option (j9 Bool Int Unit) :=
 some (j9.nxt (m7 (i+1)))
theorem d6U(n q i)(lc:F6 a2i c0R (c6P n q)):NL lc (e2B n q i) (fun s=>c2Z i):=fun _ h=>PK<|rg<|(lc.nx h fun hI=>sk [] [2,3,5] [(1,0),(2,0)] hI)
def b0E(n:j6)(q:n9)(i:Int):Option (j9 Bool Int Unit) :=
 (bif decide (i<(n.a5.length:Int)) then ((((idx n.a5 i).bind fun entry=>(bif (!entry.i7) then (bif (([entry.a0.b9,entry.a0.Seq]:List Int)==[q.b9,q.Seq]) then some (l9.ret (j9.ret true)) else some (l9.brk ())) else some (l9.brk ()))):Option (l9 (j9 Bool Int Unit) Unit)).bind fun x=>x.go some fun j=>c2Z i) else some (j9.brk ()))
theorem e33(n q):LQ a2i c0R (c6P n q) (fun s=>b0E n q s):=fun lc i h=>PK<|rg<|j5 4 h (fun h=>A6 h (d6U n q i lc) fun x2 h hc2=>rg<|v5 t5 3 h fun entry G9 h=>j5 7 h (fun h=>J3 t5 11 G9<|j5 16 h (fun h=>rg<|(B7 h hc2 fun h=>fL lc h)) (fun h=>(o8 h hc2 fun hI=>sk [] [2,3,5] [(1,0),(2,0)] hI))) (fun h=>(o8 h hc2 fun hI=>sk [] [2,3,5] [(1,0),(2,0)] hI))) (fun h=>(lc.bk h fun hI=>sk [] [] [] hI))
def a7V(n:j6)(q:n9):Option Bool :=
 ((p7 (fun s:Int=>b0E n q s) 0).bind fun x=>x.go (fun r=>some r) fun s=>c6Y)
theorem b6W{n q}:OK a2i [.agg (x6 n),.agg (I7 q)] (a7V n q) :=
 o7 _ fun r h=>n6<|lp (e33 n q) h (fun _ h=>a2i.rt h) (e6b r) fun hI=>sk [] [2,3,5] [(1,0),(2,0)] hI
def a3r:FS (j6×m4×Bool):=⟨187,Tryz.f187,[.val A7 G7,.val K4 [],.val [] []],[none],[.val A7 G7],fun r=>.tup [.agg (H0 r.1),.agg (t5 r.2.1),.b r.2.2],fun _=>[none],Tryz.func187⟩
def d8K(n:j6):Unit->KS:=fun _=>⟨a3r.k 3 [false],(bs 1 (.ptr 1 0 0::(.ptr 2 0 0::(.ptr 3 0 0::(bs 1 (vi (n.a5.length:Int)::(bs 69 []))))))),[some (a8N n),some [.var 57 (a8u n)],some [.var 57 [vi 0,vi 0,.nil,.nil,vi 0,vi 0,vi 0,.nil,.nil,.b false,vi 0,vi 0,.nil,.nil,vi 0,vi 0,.nil,.b false,.nil,.b false,vi 0,vi 0,.nil,.nil,vi 0,vi 0,.nil]],some [.var 55 [.b false,vi 0,vi 0,.nil,.nil,vi 0,vi 0]]]⟩
def e5V(n:j6):Unit->KS:=fun _=>⟨a3r.k 5 [false,false,false],(bs 1 (.ptr 1 0 0::(.ptr 2 0 0::(.ptr 3 0 0::(bs 71 []))))),[some (a8N n),some [.var 57 (a8u n)],some [.var 57 [vi 0,vi 0,.nil,.nil,vi 0,vi 0,vi 0,.nil,.nil,.b false,vi 0,vi 0,.nil,.nil,vi 0,vi 0,.nil,.b false,.nil,.b false,vi 0,vi 0,.nil,.nil,vi 0,vi 0,.nil]],some [.var 55 [.b false,vi 0,vi 0,.nil,.nil,vi 0,vi 0]]]⟩
def d5W(n:j6):(List m4)->KS:=fun b08=>⟨a3r.k 6 [false,false,false,false],(bs 1 (.ptr 1 0 0::(.ptr 3 0 0::(.ptr 4 0 0::(bs 71 []))))),[some [m6 106 8 p8 n.Acc.a7,m6 55 7 t5 n.a5,m6 4 1 eB n.c8,m6 4 1 eB n.a7,.dead],some [.var 57 ([vi n.Id,vi n.Acc.i0,.own 0 0 8 0 n.Acc.a7.length,.own 0 1 7 0 n.a5.length,vi n.Seq,vi n.d7,vi n.a8,.own 0 2 1 0 n.c8.length]++a50 n++[.own 0 3 1 0 n.a7.length]++a4u n++[.own 2 0 7 0 b08.length])],some [m6 55 7 t5 b08],some [.var 57 [vi 0,vi 0,.nil,.nil,vi 0,vi 0,vi 0,.nil,.nil,.b false,vi 0,vi 0,.nil,.nil,vi 0,vi 0,.nil,.b false,.nil,.b false,vi 0,vi 0,.nil,.nil,vi 0,vi 0,.nil]],some [.var 55 [.b false,vi 0,vi 0,.nil,.nil,vi 0,vi 0]]]⟩
def c7e(n:j6)(b08:List m4):Option (j6×m4×Bool) :=
 some ((j6.mk n.Id n.Acc n.a5 n.Seq n.d7 n.a8 n.c8 n.i4 n.c9 n.a7 n.i8 n.i6 n.b7 b08),(m4.mk false (n9.mk 0 0) (n5.mk [] [] 0 0)),false)
theorem e76(n)(r):NF a3r r (d5W n) (fun s=>c7e n s):=fun b08 h=>PK<|rg<|s7 n.Acc.a7<|H5 n.a5 n.c8 n.a7 b08<|fE h
def e1i(n:j6):(List m4)->KS:=fun d9=>⟨a3r.k 5 [false,false,false],(bs 1 (.ptr 1 0 0::(.ptr 2 0 0::(.ptr 3 0 0::(bs 71 []))))),[some [m6 106 8 p8 n.Acc.a7,m6 55 7 t5 n.a5,m6 4 1 eB n.c8,m6 4 1 eB n.a7,.dead],some [.var 57 ([vi n.Id,vi n.Acc.i0,.own 0 0 8 0 n.Acc.a7.length,.own 0 1 7 0 n.a5.length,vi n.Seq,vi n.d7,vi n.a8,.own 0 2 1 0 n.c8.length]++a50 n++[.own 0 3 1 0 n.a7.length]++a4u n++[.own 4 0 7 0 d9.length])],some [.var 57 [vi 0,vi 0,.nil,.nil,vi 0,vi 0,vi 0,.nil,.nil,.b false,vi 0,vi 0,.nil,.nil,vi 0,vi 0,.nil,.b false,.nil,.b false,vi 0,vi 0,.nil,.nil,vi 0,vi 0,.nil]],some [.var 55 [.b false,vi 0,vi 0,.nil,.nil,vi 0,vi 0]],some [m6 55 7 t5 d9]]⟩
def a9E(n:j6)(d9:List m4):Option (j9 (j6×m4×Bool) (List m4) (List m4)) :=
 (bif decide ((d9.length:Int)>0) then ((idx d9 0).bind fun entry=>(t0 ((0:Int)<=1/\1<=(d9.length:Int)) ((t0 ((([]:List m4).length+(d9.length-(1:Int).toNat))*88<=140737488355328) (((a7V (j6.mk n.Id n.Acc n.a5 n.Seq n.d7 n.a8 n.c8 n.i4 n.c9 n.a7 n.i8 n.i6 n.b7 (([]:List m4)++(d9.drop (0+(1:Int).toNat)).take (d9.length-(1:Int).toNat))) entry.a0).bind fun a6q=>(bif (!a6q) then some (j9.ret ((j6.mk n.Id n.Acc n.a5 n.Seq n.d7 n.a8 n.c8 n.i4 n.c9 n.a7 n.i8 n.i6 n.b7 (([]:List m4)++(d9.drop (0+(1:Int).toNat)).take (d9.length-(1:Int).toNat))),entry,true)) else some (j9.nxt (([]:List m4)++(d9.drop (0+(1:Int).toNat)).take (d9.length-(1:Int).toNat)))))))))) else some (j9.brk d9))
theorem f2W(n):LQ a3r (d5W n) (e1i n) (fun s=>a9E n s):=fun lc d9 h=>PK<|rg<|j5 3 h (fun h=>rg<|A8 h fun entry G9 h=>B5 G9<|H8 t5 3 G9<|rg<|tk 0 K4<|t9 h fun e1 h=>ob e1.1<|ob e1.2<|t9 h fun e2 h=>om (V.own 19 0 7 0 (([]:List m4).length+(d9.length-(1:Int).toNat))=.own 19 0 7 0 (([]:List m4)++(d9.drop (0+(1:Int).toNat)).take (d9.length-(1:Int).toNat)).length) (c3D (by omega))<|om (s6.row 55 7 (([]:List m4).length+(d9.length-(1:Int).toNat)) (([]:List m4).map t5++((d9.map t5).drop (0+(1:Int).toNat)).take (d9.length-(1:Int).toNat))=m6 55 7 t5 (([]:List m4)++(d9.drop (0+(1:Int).toNat)).take (d9.length-(1:Int).toNat))) (c1s (by omega))<|B9 m4<|ob e2<|om ((0+(1:Int).toNat)+(d9.length-(1:Int).toNat)<=d9.length) (by omega)<|tl (4,{a:=.part,v:=some (.own 19 0 7 0 (([]:List m4)++(d9.drop (0+(1:Int).toNat)).take (d9.length-(1:Int).toNat)).length),e:=some (m6 55 7 t5 (([]:List m4)++(d9.drop (0+(1:Int).toNat)).take (d9.length-(1:Int).toNat)))})<|rg<|T5 a2i b6W 3 2 h fun a6q h=>s7 n.Acc.a7<|H5 n.a5 n.c8 n.a7 (([]:List m4)++(d9.drop (0+(1:Int).toNat)).take (d9.length-(1:Int).toNat))<|j5 4 h (fun h=>rg<|s7 n.Acc.a7<|H5 n.a5 n.c8 n.a7 (([]:List m4)++(d9.drop (0+(1:Int).toNat)).take (d9.length-(1:Int).toNat))<|fL lc h) (fun h=>(lc.nx h fun hI=>sk [] [1,2,3] [(1,0),(2,0),(3,0),(19,0)] hI))) (fun h=>(lc.bk h fun hI=>sk [] [1,2,3] [(1,0),(4,0),(2,0),(3,0)] hI))
def b5E(n:j6):Option (j6×m4×Bool) :=
 ((p7 (fun s:List m4=>a9E n s) n.d9).bind fun x=>x.go (fun r=>some r) fun s=>c7e n s)
theorem e0E(n)(r):NF a3r r (e5V n) (fun s=>b5E n):=fun _ h=>PK<|lp (f2W n) h (fun _ h=>a3r.rt h) (e76 n r) fun hI=>sk [] [1,2,3] [(1,0),(2,0),(3,0),(0,4)] hI
def b9R(n:j6):Option (j6×m4×Bool) :=
 ((b7p n.i4 (n.a5.length:Int)).bind fun c2z=>(bif c2z then some (n,(m4.mk true (n9.mk 0 0) (n5.mk [] [] 0 0)),true) else (((bif n.i8 then ((a7V n n.b7.a0).bind fun c65=>(bif (!c65) then ((W6 n.b7).bind fun l5Entry=>some (l9.ret (n,l5Entry,true))) else some (l9.brk ()))) else some (l9.brk ())):Option (l9 (j6×m4×Bool) Unit)).bind fun x=>x.go some fun j=>b5E n)))
theorem e7O(n)(r):NF a3r r (d8K n) (fun s=>b9R n):=fun _ h=>PK<|rg<|cbE a5N.t d9n h fun c2z d46 h=>cdT (a5N.t 3 false c2z) h (fun _ h=>ob d46<|rg<|A2 n<|fE h) (fun _ h=>ob d46<|A6 h (e0E n r) fun x1 h hc1=>rg<|j5 2 h (fun h=>T5 a2i b6W 7 2 h fun c65 h=>A2 n<|j5 9 h (fun h=>rg<|l7 a0u a01 3 h fun l5Entry h=>(B7 h hc1 fun h=>A2 n<|fE h)) (fun h=>(o8 h hc1 fun hI=>sk [] [1,2,3] [(1,0),(2,0),(3,0)] hI))) (fun h=>(o8 h hc1 fun hI=>sk [] [1,2,3] [(1,0),(2,0),(3,0)] hI)))
def b56(n:j6):Option (j6×m4×Bool) :=
 (((bif decide ((n.a5.length:Int)<(n.i4.length:Int)) then ((idx n.i4 (n.a5.length:Int)).bind fun vote=>(bif decide (vote.a8>0) then ((W6 vote.g9).bind fun b4B=>some (l9.ret (n,b4B,true))) else some (l9.brk ()))) else some (l9.brk ())):Option (l9 (j6×m4×Bool) Unit)).bind fun x=>x.go some fun j=>b9R n)
theorem f1s{n}:OK a3r [.agg (H0 n)] (b56 n) :=
 o7 _ fun r h=>n6<|A6 h (e7O n r) fun x1 h hc1=>rg<|j5 5 h (fun h=>v5 p8 9 h fun vote J5 h=>j5 13 h (fun h=>rg<|J3 p8 4 J5<|l7 a0u a01 7 h fun b4B h=>(B7 h hc1 fun h=>A2 n<|fE h)) (fun h=>(o8 h hc1 fun hI=>sk [] [1,2,3,5] [(1,0),(2,0),(3,0)] hI))) (fun h=>(o8 h hc1 fun hI=>sk [] [1,2,3,5] [(1,0),(2,0),(3,0)] hI))
def a1p:FS (Bool):=⟨190,Tryz.f190,[.val [] []],[none,none],[.val O2 [],.val O2 []],fun r=>.b r,fun _=>[none,none],Tryz.func190⟩
def c97(a:n5)(b:n5):Unit->KS:=fun _=>⟨a1p.k 4 [false,false],(bs 2 (.ptr 1 0 0::(.ptr 2 0 0::(bs 69 [])))),[some [],some [.var 53 (a0E a)],some [.var 53 (a0E b)]]⟩
def c9o:Unit->KS:=fun _=>⟨a1p.k 6 [false,false,false],(bs 73 []),[some []]⟩
def d12:Option Bool :=
 some true
theorem f4I(r):NF a1p r c9o (fun s=>d12):=fun _ h=>PK<|rg<|fE h
def d7I(a:n5)(b:n5):Int->KS:=fun i1=>⟨a1p.k 5 [false,false],(bs 2 (.ptr 1 0 0::(.ptr 2 0 0::(bs 2 (vi i1::(bs 66 [])))))),[some [],some [.var 53 (a0E a)],some [.var 53 (a0E b)]]⟩
def b3v(a:n5)(b:n5)(i1:Int):Option (j9 Bool Int Unit) :=
 (bif decide (i1<(a.b6.length:Int)) then ((idx a.b6 i1).bind fun put=>((idx b.b6 i1).bind fun put1=>(bif (!(([put.i5,put.f0]:List Int)==[put1.i5,put1.f0])) then some (j9.ret false) else some (j9.nxt (m7 (i1+1)))))) else some (j9.brk ()))
theorem d8o(a b):LQ a1p c9o (d7I a b) (fun s=>b3v a b s):=fun lc i1 h=>PK<|rg<|j5 4 h (fun h=>rg<|v5 w8 3 h fun put hput h=>v5 w8 8 h fun put1 b1u h=>j5 10 h (fun h=>rg<|fL lc h) (fun h=>rg<|(lc.nx h fun hI=>sk [] [2,3,6] [(1,0),(2,0)] hI))) (fun h=>(lc.bk h fun hI=>sk [] [] [] hI))
def c2N(a:n5)(b:n5):Option Bool :=
 ((p7 (fun s:Int=>b3v a b s) 0).bind fun x=>x.go (fun r=>some r) fun s=>d12)
theorem f0I(a b)(r):NF a1p r (c97 a b) (fun s=>c2N a b):=fun _ h=>PK<|rg<|lp (d8o a b) h (fun _ h=>a1p.rt h) (f4I r) fun hI=>sk [] [2,3,6] [(1,0),(2,0)] hI
def d7h(a:n5)(b:n5):Int->KS:=fun i=>⟨a1p.k 3 [false],(bs 2 (.ptr 1 0 0::(.ptr 2 0 0::(bs 1 (vi i::(bs 67 [])))))),[some [],some [.var 53 (a0E a)],some [.var 53 (a0E b)]]⟩
def b4E(a:n5)(b:n5)(i:Int):Option (j9 Bool Int Unit) :=
 (bif decide (i<(a.b5.length:Int)) then ((idx a.b5 i).bind fun read=>((idx b.b5 i).bind fun S4=>(bif (!(([read.i5,read.j4]:List Int)==[S4.i5,S4.j4])) then some (j9.ret false) else some (j9.nxt (m7 (i+1)))))) else some (j9.brk ()))
theorem d96(a b):LQ a1p (c97 a b) (d7h a b) (fun s=>b4E a b s):=fun lc i h=>PK<|rg<|j5 4 h (fun h=>rg<|v5 v6 3 h fun read a4b h=>v5 v6 8 h fun S4 c6C h=>j5 10 h (fun h=>rg<|fL lc h) (fun h=>rg<|(lc.nx h fun hI=>sk [] [2,3,5] [(1,0),(2,0)] hI))) (fun h=>(lc.bk h fun hI=>sk [] [2,3] [(1,0),(2,0)] hI))
def a9T(a:n5)(b:n5):Option Bool :=
 (bif (a.f0 != b.f0) then some false else (bif (a.Code != b.Code) then some false else (bif ((a.b5.length:Int) != (b.b5.length:Int)) then some false else (bif ((a.b6.length:Int) != (b.b6.length:Int)) then some false else ((p7 (fun s:Int=>b4E a b s) 0).bind fun x=>x.go (fun r=>some r) fun s=>c2N a b)))))
theorem c2U{a b}:OK a1p [.agg (Q9 a),.agg (Q9 b)] (a9T a b) :=
 o7 _ fun r h=>n6<|j5 5 h (fun h=>rg<|fE h) (fun h=>j5 12 h (fun h=>rg<|fE h) (fun h=>j5 21 h (fun h=>rg<|fE h) (fun h=>j5 29 h (fun h=>rg<|fE h) (fun h=>rg<|lp (d96 a b) h (fun _ h=>a1p.rt h) (f0I a b r) fun hI=>sk [] [2,3,5] [(1,0),(2,0)] hI))))
def b5Q:FS (Bool):=⟨115,Tryz.f115,[.val [] []],[none],[.val [] []],fun r=>.b r,fun _=>[none],Tryz.func115⟩
def a9Y(q:n9):Option Bool :=
 (bif decide (q.b9>=0) then (bif decide (q.b9<3) then (bif decide (q.Seq>=1) then some (decide (q.Seq<=1000)) else some false) else some false) else some false)
theorem c36{q}:OK b5Q [.agg (I7 q)] (a9Y q) :=
 o7 _ fun r h=>n6<|j5 3 h (fun h=>j5 8 h (fun h=>j5 13 h (fun h=>fE h) (fun h=>fE h)) (fun h=>fE h)) (fun h=>fE h)
def a7D:FS (Bool):=⟨165,Tryz.f165,[.val [] []],[none],[.val [] []],fun r=>.b r,fun _=>[none],Tryz.func165⟩
def a5S(n:Int):Option Bool :=
 (bif decide (n>=(-1000000)) then some (decide (n<=1000000)) else some false)
theorem a99{n}:OK a7D [vi n] (a5S n) :=
 o7 _ fun r h=>n6<|j5 2 h (fun h=>fE h) (fun h=>fE h)
def b3m:FS (Bool):=⟨194,Tryz.f194,[.val [] []],[none],[.val [] []],fun r=>.b r,fun _=>[none],Tryz.func194⟩
def a7u(n:Int):Option Bool :=
 (bif decide (n>=0) then some (decide (n<4)) else some false)
theorem b43{n}:OK b3m [vi n] (a7u n) :=
 o7 _ fun r h=>n6<|j5 2 h (fun h=>fE h) (fun h=>fE h)
def a5I:FS (Bool):=⟨206,Tryz.f206,[.val [] []],[none,none],[.val [some 2] [],.val [] []],fun r=>.b r,fun _=>[none,none],Tryz.func206⟩
def c90:Unit->KS:=fun _=>⟨a5I.k 3 [false],(bs 19 []),[some []]⟩
def d3p:Option Bool :=
 some false
theorem f1k(r):NF a5I r c90 (fun s=>d3p):=fun _ h=>PK<|rg<|fE h
def f4J(list:List q8)(box:Int):Int->KS:=fun i=>⟨a5I.k 2 [],(j8 2 v6 list::(vi box::(bs 3 (vi i::(bs 13 []))))),[some []]⟩
def b7s(list:List q8)(box:Int)(i:Int):Option (j9 Bool Int Unit) :=
 (bif decide (i<(list.length:Int)) then ((idx list i).bind fun read=>(bif (read.i5==box) then some (j9.ret true) else some (j9.nxt (m7 (i+1))))) else some (j9.brk ()))
theorem e6K(list box):LQ a5I c90 (f4J list box) (fun s=>b7s list box s):=fun lc i h=>PK<|rg<|j5 3 h (fun h=>rg<|v5 v6 2 h fun read a4b h=>j5 6 h (fun h=>rg<|fL lc h) (fun h=>rg<|(lc.nx h fun hI=>sk [] [0,1,5] [] hI))) (fun h=>(lc.bk h fun hI=>sk [] [] [] hI))
def b4a(list:List q8)(box:Int):Option Bool :=
 ((p7 (fun s:Int=>b7s list box s) 0).bind fun x=>x.go (fun r=>some r) fun s=>d3p)
theorem c8E{list box}:OK a5I [j8 2 v6 list,vi box] (b4a list box) :=
 o7 _ fun r h=>n6<|lp (e6K list box) h (fun _ h=>a5I.rt h) (f1k r) fun hI=>sk [] [0,1,5] [] hI
def a5m:FS (Int):=⟨207,Tryz.f207,[.val [] []],[none,none],[.val [some 2] [],.val [] []],fun r=>vi r,fun _=>[none,none],Tryz.func207⟩
def d4I:Unit->KS:=fun _=>⟨a5m.k 3 [false],(bs 20 []),[some []]⟩
def c6U:Option Int :=
 some (-1)
theorem e5S(r):NF a5m r d4I (fun s=>c6U):=fun _ h=>PK<|rg<|fE h
def e8X(list:List p6)(box:Int):Int->KS:=fun i=>⟨a5m.k 2 [],(j8 2 w8 list::(vi box::(bs 3 (vi i::(bs 14 []))))),[some []]⟩
def a1M(list:List p6)(box:Int)(i:Int):Option (j9 Int Int Unit) :=
 (bif decide (i<(list.length:Int)) then ((idx list i).bind fun put=>(bif (put.i5==box) then some (j9.ret i) else some (j9.nxt (m7 (i+1))))) else some (j9.brk ()))
theorem e4R(list box):LQ a5m d4I (e8X list box) (fun s=>a1M list box s):=fun lc i h=>PK<|rg<|j5 3 h (fun h=>rg<|v5 w8 2 h fun put hput h=>j5 6 h (fun h=>rg<|fL lc h) (fun h=>rg<|(lc.nx h fun hI=>sk [] [0,1,5] [] hI))) (fun h=>(lc.bk h fun hI=>sk [] [] [] hI))
def a3p(list:List p6)(box:Int):Option Int :=
 ((p7 (fun s:Int=>a1M list box s) 0).bind fun x=>x.go (fun r=>some r) fun s=>c6U)
theorem c3W{list box}:OK a5m [j8 2 w8 list,vi box] (a3p list box) :=
 o7 _ fun r h=>n6<|lp (e4R list box) h (fun _ h=>a5m.rt h) (e5S r) fun hI=>sk [] [0,1,5] [] hI
def a0N:FS (Bool):=⟨191,Tryz.f191,[.val [] []],[none],[.val O2 []],fun r=>.b r,fun _=>[none],Tryz.func191⟩
def e47(r_:n5):Unit->KS:=fun _=>⟨a0N.k 2 [false],(bs 1 (.ptr 1 0 0::(bs 129 []))),[some [],some [.var 53 (a0E r_)]]⟩
def d4V(r_:n5):Unit->KS:=fun _=>⟨a0N.k 4 [false,false],(bs 1 (.ptr 1 0 0::(bs 129 []))),[some [],some [.var 53 (a0E r_)]]⟩
def d49:Unit->KS:=fun _=>⟨a0N.k 6 [false,false,false],(bs 131 []),[some []]⟩
def c6O:Option Bool :=
 some true
theorem e2T(r):NF a0N r d49 (fun s=>c6O):=fun _ h=>PK<|rg<|fE h
def f0z(r_:n5):Int->KS:=fun i1=>⟨a0N.k 5 [false,false],(bs 1 (.ptr 1 0 0::(bs 2 (vi i1::(bs 126 []))))),[some [],some [.var 53 (a0E r_)]]⟩
def b2G(r_:n5)(i1:Int):Option (j9 Bool Int Unit) :=
 (bif decide (i1<(r_.b6.length:Int)) then ((idx r_.b6 i1).bind fun put=>((a7u put.i5).bind fun b2J=>(bif (!b2J) then some (j9.ret false) else ((a5S put.f0).bind fun a1b=>(bif (!a1b) then some (j9.ret false) else (t0 ((0:Int)<=i1/\i1<=(r_.b6.length:Int)) (((a3p ((r_.b6.drop 0).take (i1.toNat-0)) put.i5).bind fun a2v=>(bif decide (a2v>=0) then some (j9.ret false) else some (j9.nxt (m7 (i1+1)))))))))))) else some (j9.brk ()))
theorem e0G(r_):LQ a0N d49 (f0z r_) (fun s=>b2G r_ s):=fun lc i1 h=>PK<|rg<|j5 4 h (fun h=>rg<|v5 w8 3 h fun put hput h=>l7 b3m b43 6 h fun b2J h=>j5 8 h (fun h=>rg<|fL lc h) (fun h=>J3 w8 12 hput<|l7 a7D a99 15 h fun a1b h=>j5 18 h (fun h=>rg<|fL lc h) (fun h=>t9 h fun e1 h=>om (V.sl 2 (i1.toNat-0) (((r_.b6.map w8).drop 0).take (i1.toNat-0))=j8 2 w8 ((r_.b6.drop 0).take (i1.toNat-0))) (b67 e1)<|ob e1.1<|ob e1.2<|tl (22,{v:=some (j8 2 w8 ((r_.b6.drop 0).take (i1.toNat-0)))})<|J3 w8 26 hput<|l7 a5m c3W 29 h fun a2v h=>j5 31 h (fun h=>rg<|fL lc h) (fun h=>rg<|(lc.nx h fun hI=>sk [] [1,4] [(1,0)] hI))))) (fun h=>(lc.bk h fun hI=>sk [] [] [] hI))
def c2q(r_:n5):Option Bool :=
 ((p7 (fun s:Int=>b2G r_ s) 0).bind fun x=>x.go (fun r=>some r) fun s=>c6O)
theorem d8v(r_)(r):NF a0N r (d4V r_) (fun s=>c2q r_):=fun _ h=>PK<|rg<|lp (e0G r_) h (fun _ h=>a0N.rt h) (e2T r) fun hI=>sk [] [1,4] [(1,0)] hI
def e6t(r_:n5):Int->KS:=fun i=>⟨a0N.k 3 [false],(bs 1 (.ptr 1 0 0::(bs 1 (vi i::(bs 127 []))))),[some [],some [.var 53 (a0E r_)]]⟩
def b4c(r_:n5)(i:Int):Option (j9 Bool Int Unit) :=
 (bif decide (i<(r_.b5.length:Int)) then ((idx r_.b5 i).bind fun read=>((a7u read.i5).bind fun b3C=>(bif (!b3C) then some (j9.ret false) else (bif decide (read.j4<0) then some (j9.ret false) else (bif decide (read.j4>1000000) then some (j9.ret false) else (t0 ((0:Int)<=i/\i<=(r_.b5.length:Int)) (((b4a ((r_.b5.drop 0).take (i.toNat-0)) read.i5).bind fun b3i=>(bif b3i then some (j9.ret false) else some (j9.nxt (m7 (i+1)))))))))))) else some (j9.brk ()))
theorem e2I(r_):LQ a0N (d4V r_) (e6t r_) (fun s=>b4c r_ s):=fun lc i h=>PK<|rg<|j5 4 h (fun h=>rg<|v5 v6 3 h fun read a4b h=>l7 b3m b43 6 h fun b3C h=>j5 8 h (fun h=>rg<|fL lc h) (fun h=>J3 v6 12 a4b<|j5 17 h (fun h=>rg<|fL lc h) (fun h=>J3 v6 21 a4b<|j5 26 h (fun h=>rg<|fL lc h) (fun h=>t9 h fun e2 h=>om (V.sl 2 (i.toNat-0) (((r_.b5.map v6).drop 0).take (i.toNat-0))=j8 2 v6 ((r_.b5.drop 0).take (i.toNat-0))) (b67 e2)<|ob e2.1<|ob e2.2<|tl (30,{v:=some (j8 2 v6 ((r_.b5.drop 0).take (i.toNat-0)))})<|J3 v6 34 a4b<|l7 a5I c8E 37 h fun b3i h=>j5 38 h (fun h=>rg<|fL lc h) (fun h=>rg<|(lc.nx h fun hI=>sk [] [1,3] [(1,0)] hI)))))) (fun h=>(lc.bk h fun hI=>sk [] [1] [(1,0)] hI))
def b88(r_:n5):Option Bool :=
 ((p7 (fun s:Int=>b4c r_ s) 0).bind fun x=>x.go (fun r=>some r) fun s=>c2q r_)
theorem d8l(r_)(r):NF a0N r (e47 r_) (fun s=>b88 r_):=fun _ h=>PK<|rg<|lp (e2I r_) h (fun _ h=>a0N.rt h) (d8v r_ r) fun hI=>sk [] [1,3] [(1,0)] hI
def b3O(r_:n5):Option Bool :=
 (((bif decide (r_.Code<0) then some (l9.ret false) else (bif decide (r_.Code>3) then some (l9.ret false) else ((a5S r_.f0).bind fun c9N=>(bif (!c9N) then some (l9.ret false) else (bif (r_.Code != 0) then (bif (r_.f0 != 0) then some (l9.ret false) else (bif decide ((r_.b6.length:Int)>0) then some (l9.ret false) else (bif (r_.Code==3) then (bif decide ((r_.b5.length:Int)>0) then some (l9.ret false) else some (l9.brk ())) else some (l9.brk ())))) else (bif (r_.Code==3) then (bif decide ((r_.b5.length:Int)>0) then some (l9.ret false) else some (l9.brk ())) else some (l9.brk ()))))))):Option (l9 Bool Unit)).bind fun x=>x.go some fun j=>b88 r_)
theorem d0F{r_}:OK a0N [.agg (Q9 r_)] (b3O r_) :=
 o7 _ fun r h=>rg<|A6 h (d8l r_ r) fun x1 h hc1=>rg<|j5 3 h (fun h=>rg<|(B7 h hc1 fun h=>fE h)) (fun h=>j5 8 h (fun h=>rg<|(B7 h hc1 fun h=>fE h)) (fun h=>l7 a7D a99 11 h fun c9N h=>j5 14 h (fun h=>rg<|(B7 h hc1 fun h=>fE h)) (fun h=>j5 18 h (fun h=>j5 22 h (fun h=>rg<|(B7 h hc1 fun h=>fE h)) (fun h=>j5 30 h (fun h=>rg<|(B7 h hc1 fun h=>fE h)) (fun h=>j5 34 h (fun h=>j5 40 h (fun h=>rg<|(B7 h hc1 fun h=>fE h)) (fun h=>(o8 h hc1 fun hI=>sk [] [1] [(1,0)] hI))) (fun h=>(o8 h hc1 fun hI=>sk [] [1] [(1,0)] hI))))) (fun h=>j5 34 h (fun h=>j5 40 h (fun h=>rg<|(B7 h hc1 fun h=>fE h)) (fun h=>(o8 h hc1 fun hI=>sk [] [1] [(1,0)] hI))) (fun h=>(o8 h hc1 fun hI=>sk [] [1] [(1,0)] hI))))))
def a2o:FS (Bool):=⟨160,Tryz.f160,[.val [] []],[none],[.val K4 []],fun r=>.b r,fun _=>[none],Tryz.func160⟩
def a1a(e_:m4):Option Bool :=
 (bif e_.i7 then (bif (([e_.a0.b9,e_.a0.Seq]:List Int)==[0,0]) then ((a9T e_.b8 (n5.mk [] [] 0 0)).bind fun a3b=>some a3b) else some false) else ((a9Y e_.a0).bind fun a5K=>(bif a5K then ((b3O e_.b8).bind fun a1l=>(bif a1l then some (e_.b8.Code != 3) else some false)) else some false)))
theorem a3E{e_}:OK a2o [.agg (t5 e_)] (a1a e_) :=
 o7 _ fun r h=>n6<|j5 1 h (fun h=>rg<|j5 4 h (fun h=>l7 a1p c2U 8 h fun a3b h=>fE h) (fun h=>fE h)) (fun h=>rg<|l7 b5Q c36 2 h fun a5K h=>j5 3 h (fun h=>l7 a0N d0F 6 h fun a1l h=>j5 8 h (fun h=>fE h) (fun h=>fE h)) (fun h=>fE h))
def a8Z:FS (z0×Bool):=⟨188,Tryz.f188,[.val [none,some 8] [none,some 9000000],.val [] []],[none,none,none,none],[.val [none,some 8] [],.val [] [],.val [] [],.val K4 []],fun r=>.tup [.agg [vi r.1.i0,.bot],.b r.2],fun _=>[none,none,none,none],Tryz.func188⟩
def b3l(a:z0)(bal:Int)(slot:Int)(e_:m4):Option (z0×Bool) :=
 (bif decide (slot<0) then some (a,false) else (bif decide (slot>=40) then some (a,false) else ((a1a e_).bind fun E5=>(bif (!E5) then some (a,false) else ((b0C a bal).bind fun no=>(bif (!no.2) then some (a,false) else none))))))
theorem d2Z{a bal slot e_}:OK a8Z [.agg (Z3 a),vi bal,vi slot,.agg (t5 e_)] (b3l a bal slot e_) :=
 o7 _ fun r h=>n6<|j5 2 h (fun h=>rg<|fE h) (fun h=>j5 6 h (fun h=>rg<|fE h) (fun h=>l7 a2o a3E 8 h fun E5 h=>j5 10 h (fun h=>rg<|fE h) (fun h=>rg<|l7 a61 c1I 2 h fun no h=>rg<|j5 1 h (fun h=>rg<|fE h) (fun h=>(nomatch h)))))
def b5d:FS (j6):=⟨151,Tryz.f151,[.val A7 G7],[none],[.val A7 G7],fun r=>.agg (H0 r),fun _=>[none],Tryz.func151⟩
def b3L(n:j6):Option j6 :=
 some (j6.mk n.Id n.Acc n.a5 n.Seq 0 0 [] [] (m4.mk false (n9.mk 0 0) (n5.mk [] [] 0 0)) [] n.i8 n.i6 n.b7 n.d9)
theorem c35{n}:OK b5d [.agg (H0 n)] (b3L n) :=
 o7 _ fun r h=>rg4<|rg4<|Y1 n.Acc.a7 n.a5 n.d9<|fE h
def a0A:FS (List l8):=⟨154,Tryz.f154,[.val [some 13] [some 62]],[none,none],[.val [] [],.val B8 []],fun r=>u9 62 13 s8 r,fun _=>[none,none],Tryz.func154⟩
def c2k:(List l8)->KS:=fun out1=>⟨a0A.k 4 [false],(bs 5 (.own 1 0 13 0 out1.length::(bs 21 []))),[some [],some [m6 62 13 s8 out1]]⟩
def d5J(out1:List l8):Option (List l8) :=
 some out1
theorem f2Y(r):NF a0A r c2k (fun s=>d5J s):=fun out1 h=>PK<|rg<|s7 out1<|fE h
def d4q(id:Int)(m:l8):((List l8)×Int)->KS:=fun (out,t_)=>⟨a0A.k 3 [],(vi id::(bs 2 (.ptr 1 0 0::(bs 1 (.own 2 0 13 0 out.length::(vi t_::(bs 20 []))))))),[some [],some [.var 62 (a4y m)],some [m6 62 13 s8 out]]⟩
def e38(id:Int)(m:l8)(t_:Int):(List l8)->KS:=fun out2=>⟨a0A.k 9 [true,true],(vi id::(bs 2 (.ptr 1 0 0::(bs 1 (.own 2 0 13 0 out2.length::(vi t_::(bs 20 []))))))),[some [],some [.var 62 (a4y m)],some [m6 62 13 s8 out2]]⟩
def c2H(t_:Int)(out2:List l8):Option (j9 (List l8) ((List l8)×Int) (List l8)) :=
 some (j9.nxt (out2,m7 (t_+1)))
theorem f4t(id m t_)(lc:F6 a0A c2k (d4q id m)):NL lc (e38 id m t_) (fun s=>c2H t_ s):=fun out2 h=>PK<|rg<|(lc.nx h fun hI=>sk [] [0,3,5,6] [(1,0),(2,0)] hI)
def a4L(id:Int)(m:l8)(out:List l8)(t_:Int):Option (j9 (List l8) ((List l8)×Int) (List l8)) :=
 (bif decide (t_<3) then (((bif (t_ != id) then ((a8p m).bind fun G2=>(t0 ((out.length+1)*152<=140737488355328) (some (l9.brk (out++[(l8.mk G2.a9 id t_ G2.a8 G2.g7 G2.g9 G2.a7)]))))) else some (l9.brk out)):Option (l9 (j9 (List l8) ((List l8)×Int) (List l8)) (List l8))).bind fun x=>x.go some fun j=>c2H t_ j) else some (j9.brk out))
theorem e1Q(id m):LQ a0A c2k (d4q id m) (fun s=>a4L id m s.1 s.2):=fun lc (out,t_) h=>PK<|rg<|j5 1 h (fun h=>A6 h (f4t id m t_ lc) fun x2 h hc2=>rg<|j5 2 h (fun h=>rg<|l7 b3t c0c 1 h fun G2 h=>N0<|tk 2 B8<|t9 h fun e1 h=>F9 3 21 62 13 152 s8 out (l8.mk G2.a9 id t_ G2.a8 G2.g7 G2.g9 G2.a7) e1<|E6 (l8.mk G2.a9 id t_ G2.a8 G2.g7 G2.g9 G2.a7)<|(o8 h hc2 fun hI=>sk [] [0,3,5,6] [(1,0),(21,0)] hI)) (fun h=>(o8 h hc2 fun hI=>sk [] [0,3,5,6] [(1,0),(2,0)] hI))) (fun h=>(lc.bk h fun hI=>sk [] [5] [(2,0)] hI))
def a2Z(id:Int)(m:l8):Option (List l8) :=
 ((p7 (fun s:(List l8)×Int=>a4L id m s.1 s.2) (([]:List l8),0)).bind fun x=>x.go (fun r=>some r) fun s=>d5J s)
theorem a5U{id m}:OK a0A [vi id,.agg (s8 m)] (a2Z id m) :=
 o7 _ fun r h=>n6<|tk 0 B8<|rg<|lp (e1Q id m) h (fun _ h=>a0A.rt h) (f2Y r) fun hI=>om ((.own 3 0 13 0 0:V)=.own 3 0 13 0 ([]:List l8).length) (by simp)<|sk [.is (.tmp 5) (.own 3 0 13 0 ([]:List l8).length)] [0,3,5,6] [(1,0),(3,0)] hI
def a5W:FS (z0×Bool):=⟨188,Tryz.f188,[.val [none,some 8] [none,some 106],.val [] []],[none,none,none,none],[.val [none,some 8] [none,some 106],.val [] [],.val [] [],.val K4 []],fun r=>.tup [.agg [vi r.1.i0,u9 106 8 p8 r.1.a7],.b r.2],fun _=>[none,none,none,none],Tryz.func188⟩
def c9k(bal:Int)(slot:Int)(e_:m4)(l6Promise:z0×Bool):(List m8)->KS:=fun a0e=>⟨a5W.k 5 [false,false,false],(bs 1 (vi bal::(vi slot::(bs 4 (.ptr 1 0 0::(.ptr 2 0 0::(bs 1 (.ptr 3 0 0::(bs 42 []))))))))),[some [.dead],some [.var 55 (a20 e_)],some [.var 46 [vi 0,.nil]],some [.var 46 [vi l6Promise.1.i0,.own 4 0 8 0 a0e.length]],some [m6 106 8 p8 a0e]]⟩
def c07(bal:Int)(slot:Int)(e_:m4)(l6Promise:z0×Bool)(a0e:List m8):Option (z0×Bool) :=
 ((W6 e_).bind fun l5Entry=>((idx a0e slot).bind fun vote=>some ((z0.mk l6Promise.1.i0 (a0e.set slot.toNat (m8.mk bal l5Entry))),true)))
theorem d6K(bal slot e_ l6Promise)(r):NF a5W r (c9k bal slot e_ l6Promise) (fun s=>c07 bal slot e_ l6Promise s):=fun a0e h=>PK<|rg<|l7 a0u a01 5 h fun l5Entry h=>A8 h fun vote J5 h=>B5 J5<|Q3 106 8 p8 8 W0 (m8.mk bal l5Entry) J5<|rg<|om (a0e.length=(a0e.set slot.toNat (m8.mk bal l5Entry)).length) (by simp)<|fE h
def e4X(bal:Int)(slot:Int)(e_:m4)(l6Promise:z0×Bool):(List m8)->KS:=fun a7=>⟨a5W.k 4 [false,false],(bs 1 (vi bal::(vi slot::(bs 4 (.ptr 1 0 0::(.ptr 2 0 0::(bs 1 (.ptr 3 0 0::(bs 42 []))))))))),[some [.dead],some [.var 55 (a20 e_)],some [.var 46 [vi 0,.nil]],some [.var 46 [vi l6Promise.1.i0,.own 4 0 8 0 a7.length]],some [m6 106 8 p8 a7]]⟩
def a80(slot:Int)(a7:List m8):Option (j9 (z0×Bool) (List m8) (List m8)) :=
 (bif decide ((a7.length:Int)<=slot) then (t0 ((a7.length+1)*96<=140737488355328) (some (j9.nxt (a7++[(m8.mk 0 (m4.mk false (n9.mk 0 0) (n5.mk [] [] 0 0)))])))) else some (j9.brk a7))
theorem e7R(bal slot e_ l6Promise):LQ a5W (c9k bal slot e_ l6Promise) (e4X bal slot e_ l6Promise) (fun s=>a80 slot s):=fun lc a7 h=>PK<|rg<|j5 4 h (fun h=>rg<|tk 3 W0<|t9 h fun e1 h=>F9 4 14 106 8 96 p8 a7 (m8.mk 0 (m4.mk false (n9.mk 0 0) (n5.mk [] [] 0 0))) e1<|E6 (m8.mk 0 (m4.mk false (n9.mk 0 0) (n5.mk [] [] 0 0)))<|(lc.nx h fun hI=>sk [] [1,2,7,8,10] [(1,0),(2,0),(3,0),(14,0)] hI)) (fun h=>(lc.bk h fun hI=>sk [] [1,2,7,8,10] [(1,0),(2,0),(3,0),(4,0)] hI))
def b2C(a:z0)(bal:Int)(slot:Int)(e_:m4):Option (z0×Bool) :=
 (bif decide (slot<0) then some (a,false) else (bif decide (slot>=40) then some (a,false) else ((a1a e_).bind fun E5=>(bif (!E5) then some (a,false) else (a5p (b0C a bal) (fun no=>(bif (!no.2) then some (a,false) else none)) (((a7U a bal).bind fun l6Promise=>(bif (!l6Promise.2) then none else ((p7 (fun s:List m8=>a80 slot s) l6Promise.1.a7).bind fun x=>x.go (fun r=>some r) fun s=>c07 bal slot e_ l6Promise s)))))))))
theorem c55{a bal slot e_}:OK a5W [.agg [vi a.i0,u9 106 8 p8 a.a7],vi bal,vi slot,.agg (t5 e_)] (b2C a bal slot e_) :=
 o7 _ fun r h=>n6<|j5 2 h (fun h=>rg<|s7 a.a7<|fE h) (fun h=>j5 6 h (fun h=>rg<|s7 a.a7<|fE h) (fun h=>l7 a2o a3E 8 h fun E5 h=>j5 10 h (fun h=>rg<|s7 a.a7<|fE h) (fun h=>rg<|cbA a61.t c1I 2 true h (fun no h=>osc a61 no (by simp [a61,K9,R4,O6,V.simple,vi,u9,Z3,eB,t5,eI,w8,v6,I7,Q9,p8]) (P8 2)<|s7 a.a7<|rg<|j5 1 h (fun h=>rg<|s7 a.a7<|fE h) (fun h=>(nomatch h))) (fun h=>l7 b1t b4L 2 h fun l6Promise h=>s7 a.a7<|rg<|j5 1 h (fun h=>(nomatch h)) (fun h=>lp (e7R bal slot e_ l6Promise) h (fun _ h=>a5W.rt h) (d6K bal slot e_ l6Promise r) fun hI=>sk [] [1,2,7,8,10] [(2,0),(3,0),(22,0),(18,0)] hI)))))
def b0o:FS (j6×List l8):=⟨155,Tryz.f155,[.val A7 G7,.val [some 13] []],[none],[.val A7 G7],fun r=>.tup [.agg (H0 r.1),j8 13 s8 r.2],fun _=>[none],Tryz.func155⟩
def a60(n:j6):Option (j6×List l8) :=
 (bif (n.d7 != 2) then some (n,([]:List l8)) else (bif decide ((n.a5.length:Int)>=40) then some (n,([]:List l8)) else ((b56 n).bind fun H2=>(bif (!H2.2.2) then some (H2.1,([]:List l8)) else (a5p (b3l H2.1.Acc H2.1.a8 (H2.1.a5.length:Int) H2.2.1) (fun no=>(bif (!no.2) then ((b3L H2.1).bind fun N1=>some (N1,([]:List l8))) else none)) (((b2C H2.1.Acc H2.1.a8 (H2.1.a5.length:Int) H2.2.1).bind fun a5b=>(bif (!a5b.2) then none else ((W6 H2.2.1).bind fun l5Entry=>(t0 (0<=(3:Int)/\(3:Int)*1<=140737488355328) (((idx (f5u (3:Int).toNat false) H2.1.Id).bind fun y=>((a2Z H2.1.Id (l8.mk 3 0 0 H2.1.a8 (H2.1.a5.length:Int) H2.2.1 [])).bind fun J7=>some ((j6.mk H2.1.Id a5b.1 H2.1.a5 H2.1.Seq 3 H2.1.a8 H2.1.c8 H2.1.i4 l5Entry ((f5u (3:Int).toNat false).set H2.1.Id.toNat true) H2.1.i8 H2.1.i6 H2.1.b7 H2.1.d9),J7))))))))))))))
theorem b3S{n}:OK b0o [.agg (H0 n)] (a60 n) :=
 o7 _ fun r h=>n6<|j5 3 h (fun h=>rg<|tk 1 B8<|A2 n<|B9 l8<|fE h) (fun h=>j5 8 h (fun h=>rg<|tk 1 B8<|A2 n<|B9 l8<|fE h) (fun h=>rg<|l7 a3r f1s 1 h fun H2 h=>A2 n<|rg<|j5 1 h (fun h=>rg<|tk 1 B8<|A2 H2.1<|B9 l8<|fE h) (fun h=>rg<|cbA a8Z.t d2Z 8 true h (fun no h=>osc a8Z no (by simp [a8Z,K9,R4,O6,V.simple,vi,u9,Z3,eB,t5,eI,w8,v6,I7,Q9,p8]) (P8 4)<|s7 H2.1.Acc.a7<|rg<|j5 1 h (fun h=>rg<|l7 b5d c35 1 h fun N1 h=>A2 H2.1<|tk 2 B8<|A2 N1<|B9 l8<|fE h) (fun h=>(nomatch h))) (fun h=>l7 a5W c55 8 h fun a5b h=>s7 H2.1.Acc.a7<|rg<|j5 1 h (fun h=>(nomatch h)) (fun h=>N0<|l7 a0u a01 1 h fun l5Entry h=>rg<|t9 h fun e1 h=>R8 0 52 4 1 1 eB false ti4 (.none) e1 (by decide) (by rfl)<|rg<|A8 h fun y hy h=>B5 hy<|Q3 4 1 eB 5 [] true hy<|rg<|l7 a0A a5U 10 h fun J7 h=>Y1 a5b.1.a7 H2.1.a5 H2.1.c8<|om ((f5u (3:Int).toNat false).length=((f5u (3:Int).toNat false).set H2.1.Id.toNat true).length) (by simp)<|C7 H2.1.d9 J7<|fE h)))))
def d08:FS (j6×List l8):=⟨178,Tryz.f178,[.val A7 G7,.val [some 13] []],[none,none],[.val A7 G7,.val B8 []],fun r=>.tup [.agg (H0 r.1),j8 13 s8 r.2],fun _=>[none,none],Tryz.func178⟩
def b5Z(n:j6)(m:l8):Option (j6×List l8) :=
 (bif (n.d7 != 1) then some (n,([]:List l8)) else (bif (m.a8 != n.a8) then some (n,([]:List l8)) else ((idx n.c8 m.c8).bind fun y=>((b6p m.a7 m.g7).bind fun c0Q=>((b5S n.i4 c0Q).bind fun c5D=>((b2Q (n.c8.set m.c8.toNat true)).bind fun b4d=>(bif (!b4d) then some ((j6.mk n.Id n.Acc n.a5 n.Seq n.d7 n.a8 (n.c8.set m.c8.toNat true) c5D n.c9 n.a7 n.i8 n.i6 n.b7 n.d9),([]:List l8)) else ((a60 (j6.mk n.Id n.Acc n.a5 n.Seq 2 n.a8 [] c5D n.c9 n.a7 n.i8 n.i6 n.b7 n.d9)).bind fun N6=>some (N6.1,N6.2)))))))))
theorem f0V{n m}:OK d08 [.agg (H0 n),.agg (s8 m)] (b5Z n m) :=
 o7 _ fun r h=>n6<|j5 3 h (fun h=>rg<|tk 1 B8<|A2 n<|B9 l8<|fE h) (fun h=>j5 9 h (fun h=>rg<|tk 1 B8<|A2 n<|B9 l8<|fE h) (fun h=>rg<|A8 h fun y hy h=>B5 hy<|Q3 4 1 eB 5 [] true hy<|rg<|l7 c5T f0l 6 h fun c0Q h=>l7 a1X f3j 7 h fun c5D h=>s7 c0Q<|rg<|T5 a69 d30 2 1 h fun b4d h=>om (n.c8.length=(n.c8.set m.c8.toNat true).length) (by simp)<|j5 3 h (fun h=>rg<|tk 1 B8<|C7 n.Acc.a7 n.a5<|om (n.c8.length=(n.c8.set m.c8.toNat true).length) (by simp)<|C7 n.a7 n.d9<|B9 l8<|fE h) (fun h=>N0<|l7 b0o b3S 1 h fun N6 h=>H5 n.Acc.a7 n.a5 n.a7 n.d9<|A2 N6.1<|fE h)))
def b3N:FS (j6):=⟨182,Tryz.f182,[.val A7 G7],[none,none],[.val A7 G7,.val [] []],fun r=>.agg (H0 r),fun _=>[none,none],Tryz.func182⟩
def e7z(n:j6):Unit->KS:=fun _=>⟨b3N.k 2 [false],(bs 2 (.ptr 1 0 0::(bs 1 (.ptr 2 0 0::(bs 12 []))))),[some (a8N n),some [.var 57 (a8u n)],some [.var 57 [vi 0,vi 0,.nil,.nil,vi 0,vi 0,vi 0,.nil,.nil,.b false,vi 0,vi 0,.nil,.nil,vi 0,vi 0,.nil,.b false,.nil,.b false,vi 0,vi 0,.nil,.nil,vi 0,vi 0,.nil]]]⟩
def d5X(n:j6):Option j6 :=
 some n
theorem e72(n)(r):NF b3N r (e7z n) (fun s=>d5X n):=fun _ h=>PK<|rg<|A2 n<|fE h
def b4g(n:j6)(bal:Int):Option j6 :=
 (((bif (n.d7 != 0) then (bif decide (bal>n.a8) then ((b3L n).bind fun N1=>some (l9.ret N1)) else some (l9.brk ())) else some (l9.brk ())):Option (l9 j6 Unit)).bind fun x=>x.go some fun j=>d5X n)
theorem d1I{n bal}:OK b3N [.agg (H0 n),vi bal] (b4g n bal) :=
 o7 _ fun r h=>rg<|A6 h (e72 n r) fun x1 h hc1=>rg<|j5 3 h (fun h=>j5 8 h (fun h=>rg<|l7 b5d c35 1 h fun N1 h=>A2 n<|(B7 h hc1 fun h=>A2 N1<|fE h)) (fun h=>(o8 h hc1 fun hI=>sk [] [2,4] [(1,0),(2,0)] hI))) (fun h=>(o8 h hc1 fun hI=>sk [] [2,4] [(1,0),(2,0)] hI))
def d0m:FS (j6×List l8):=⟨179,Tryz.f179,[.val A7 G7,.val [some 13] []],[none,none],[.val A7 G7,.val B8 []],fun r=>.tup [.agg (H0 r.1),j8 13 s8 r.2],fun _=>[none,none],Tryz.func179⟩
def b5s(n:j6)(m:l8):Option (j6×List l8) :=
 (a5p (b3l n.Acc m.a8 m.g7 m.g9) (fun no=>(bif (!no.2) then ((a4I m (l8.mk 6 0 0 n.Acc.i0 0 (m4.mk false (n9.mk 0 0) (n5.mk [] [] 0 0)) [])).bind fun a1F=>some (n,a1F)) else none)) (((b2C n.Acc m.a8 m.g7 m.g9).bind fun a5b=>(bif (!a5b.2) then none else ((b4g (j6.mk n.Id a5b.1 n.a5 n.Seq n.d7 n.a8 n.c8 n.i4 n.c9 n.a7 n.i8 n.i6 n.b7 n.d9) m.a8).bind fun J8=>((a4I m (l8.mk 4 0 0 m.a8 m.g7 (m4.mk false (n9.mk 0 0) (n5.mk [] [] 0 0)) [])).bind fun a4Z=>some (J8,a4Z)))))))
theorem d62{n m}:OK d0m [.agg (H0 n),.agg (s8 m)] (b5s n m) :=
 o7 _ fun r h=>n6<|cbA a8Z.t d2Z 8 true h (fun no h=>osc a8Z no (by simp [a8Z,K9,R4,O6,V.simple,vi,u9,Z3,eB,t5,eI,w8,v6,I7,Q9,p8]) (P8 4)<|s7 n.Acc.a7<|rg<|j5 1 h (fun h=>rg<|l7 a31 a71 6 h fun a1F h=>A2 n<|fE h) (fun h=>(nomatch h))) (fun h=>l7 a5W c55 8 h fun a5b h=>s7 n.Acc.a7<|rg<|j5 1 h (fun h=>(nomatch h)) (fun h=>n6<|l7 b3N d1I 3 h fun J8 h=>s7 a5b.1.a7<|J6 n<|rg<|l7 a31 a71 7 h fun a4Z h=>A2 J8<|fE h))
def c7i:FS (List n7):=⟨215,Tryz.f215,[.val [some 2] [some 150]],[],[],fun r=>u9 150 2 z6 r,fun _=>[],Tryz.func215⟩
def c1F:Option (List n7) :=
 (t0 (0<=(4:Int)/\(4:Int)*16<=140737488355328) (some (f5u (4:Int).toNat (n7.mk 0 0))))
theorem f3l:OK c7i [] c1F :=
 o7 _ fun r h=>n6<|t9 h fun e1 h=>R8 0 2 150 2 16 z6 (n7.mk 0 0) b2L (.none) e1 (by decide) (by rfl)<|s7 (f5u (4:Int).toNat (n7.mk 0 0))<|fE h
def c5A:FS (u6):=⟨212,Tryz.f212,[.val [none,some 2,some 4] [none,some 150,none]],[],[],fun r=>.agg (b2Z r),fun _=>[],Tryz.func212⟩
def b36:Option u6 :=
 ((c1F).bind fun a3c=>some (u6.mk 0 a3c []))
theorem c82:OK c5A [] b36 :=
 o7 _ fun r h=>n6<|l7 c7i f3l 0 h fun a3c h=>s7 a3c<|fE h
def a5J:FS (s5×Bool):=⟨216,Tryz.f216,[.val [] [],.val [] []],[none,none],[.val [none,some 2,some 4] [],.val [] []],fun r=>.tup [.agg (B6 r.1),.b r.2],fun _=>[none,none],Tryz.func216⟩
def c66:Unit->KS:=fun _=>⟨a5J.k 3 [false],(bs 4 (.ptr 1 0 0::(bs 24 []))),[some [],some [.var 188 [vi 0,vi 0,vi 0,vi 0]]]⟩
def c7v:Option (s5×Bool) :=
 some ((s5.mk (n9.mk 0 0) 0 0),false)
theorem f3J(r):NF a5J r c66 (fun s=>c7v):=fun _ h=>PK<|rg<|fE h
def e4L(s_:u6)(who:Int):Int->KS:=fun i=>⟨a5J.k 2 [],(bs 1 (vi who::(.ptr 1 0 0::(bs 1 (.ptr 2 0 0::(bs 1 (vi i::(bs 22 [])))))))),[some [],some [.var 120 [vi s_.At,j8 2 z6 s_.g8,j8 4 B6 s_.i9]],some [.var 188 [vi 0,vi 0,vi 0,vi 0]]]⟩
def b60(s_:u6)(who:Int)(i:Int):Option (j9 (s5×Bool) Int Unit) :=
 (bif decide (i<(s_.i9.length:Int)) then ((idx s_.i9 i).bind fun done=>(bif (done.a0.b9==who) then some (j9.ret (done,true)) else some (j9.nxt (m7 (i+1))))) else some (j9.brk ()))
theorem d9b(s_ who):LQ a5J c66 (e4L s_ who) (fun s=>b60 s_ who s):=fun lc i h=>PK<|rg<|j5 4 h (fun h=>rg<|v5 B6 3 h fun done b8i h=>j5 8 h (fun h=>rg<|J3 B6 3 b8i<|fL lc h) (fun h=>rg<|(lc.nx h fun hI=>sk [] [1,2,4,6] [(1,0),(2,0)] hI))) (fun h=>(lc.bk h fun hI=>sk [] [4] [(2,0)] hI))
def b7r(s_:u6)(who:Int):Option (s5×Bool) :=
 ((p7 (fun s:Int=>b60 s_ who s) 0).bind fun x=>x.go (fun r=>some r) fun s=>c7v)
theorem f1N{s_ who}:OK a5J [.agg (a8b s_),vi who] (b7r s_ who) :=
 o7 _ fun r h=>n6<|lp (d9b s_ who) h (fun _ h=>a5J.rt h) (f3J r) fun hI=>sk [] [1,2,4,6] [(1,0),(2,0)] hI
def a6r:FS (Bool):=⟨202,Tryz.f202,[.val [] []],[none],[.val [some 2] []],fun r=>.b r,fun _=>[none],Tryz.func202⟩
def d2j:Unit->KS:=fun _=>⟨a6r.k 4 [false,false],(bs 36 []),[some []]⟩
def d0j:Option Bool :=
 some true
theorem d77(r):NF a6r r d2j (fun s=>d0j):=fun _ h=>PK<|rg<|fE h
def e3X(list:List n7):Int->KS:=fun i=>⟨a6r.k 3 [false],(j8 2 z6 list::(bs 2 (vi i::(bs 32 [])))),[some []]⟩
def b7w(list:List n7)(i:Int):Option (j9 Bool Int Unit) :=
 (bif decide (i<(list.length:Int)) then ((idx list i).bind fun box=>(bif decide (box.j4<0) then some (j9.ret false) else (bif decide (box.j4>1000000) then some (j9.ret false) else ((a5S box.f0).bind fun a1b=>(bif (!a1b) then some (j9.ret false) else some (j9.nxt (m7 (i+1)))))))) else some (j9.brk ()))
theorem e8e(list):LQ a6r d2j (e3X list) (fun s=>b7w list s):=fun lc i h=>PK<|rg<|j5 3 h (fun h=>rg<|v5 z6 2 h fun box a2E h=>j5 6 h (fun h=>rg<|fL lc h) (fun h=>J3 z6 9 a2E<|j5 14 h (fun h=>rg<|fL lc h) (fun h=>J3 z6 17 a2E<|l7 a7D a99 20 h fun a1b h=>j5 22 h (fun h=>rg<|fL lc h) (fun h=>rg<|(lc.nx h fun hI=>sk [] [0,3] [] hI))))) (fun h=>(lc.bk h fun hI=>sk [] [] [] hI))
def b3D(list:List n7):Option Bool :=
 (bif ((list.length:Int) != 4) then some false else ((p7 (fun s:Int=>b7w list s) 0).bind fun x=>x.go (fun r=>some r) fun s=>d0j))
theorem d3V{list}:OK a6r [j8 2 z6 list] (b3D list) :=
 o7 _ fun r h=>n6<|j5 2 h (fun h=>rg<|fE h) (fun h=>rg<|lp (e8e list) h (fun _ h=>a6r.rt h) (d77 r) fun hI=>sk [] [0,3] [] hI)
def a3S:FS (Bool):=⟨217,Tryz.f217,[.val [] []],[none,none],[.val [some 2] [],.val O2 []],fun r=>.b r,fun _=>[none,none],Tryz.func217⟩
def d2I:Unit->KS:=fun _=>⟨a3S.k 4 [false,false],(bs 38 []),[some []]⟩
def d6f:Option Bool :=
 some true
theorem d6I(r):NF a3S r d2I (fun s=>d6f):=fun _ h=>PK<|rg<|fE h
def e7S(list:List n7)(r_:n5):Int->KS:=fun i=>⟨a3S.k 3 [false],(j8 2 z6 list::(bs 2 (.ptr 1 0 0::(bs 1 (vi i::(bs 32 [])))))),[some [],some [.var 53 (a0E r_)]]⟩
def b6a(list:List n7)(r_:n5)(i:Int):Option (j9 Bool Int Unit) :=
 (bif decide (i<(r_.b5.length:Int)) then ((idx r_.b5 i).bind fun read=>((idx list read.i5).bind fun box=>(bif (box.j4 != read.j4) then some (j9.ret false) else some (j9.nxt (m7 (i+1)))))) else some (j9.brk ()))
theorem d85(list r_):LQ a3S d2I (e7S list r_) (fun s=>b6a list r_ s):=fun lc i h=>PK<|rg<|j5 4 h (fun h=>rg<|v5 v6 4 h fun read a4b h=>v5 z6 7 h fun box a2E h=>J3 v6 13 a4b<|j5 16 h (fun h=>rg<|fL lc h) (fun h=>rg<|(lc.nx h fun hI=>sk [] [0,3,5] [(1,0)] hI))) (fun h=>(lc.bk h fun hI=>sk [] [] [] hI))
def b8h(list:List n7)(r_:n5):Option Bool :=
 ((b3D list).bind fun V6=>(bif (!V6) then some false else ((b3O r_).bind fun a1l=>(bif (!a1l) then some false else ((p7 (fun s:Int=>b6a list r_ s) 0).bind fun x=>x.go (fun r=>some r) fun s=>d6f)))))
theorem e4I{list r_}:OK a3S [j8 2 z6 list,.agg (Q9 r_)] (b8h list r_) :=
 o7 _ fun r h=>n6<|l7 a6r d3V 1 h fun V6 h=>j5 3 h (fun h=>rg<|fE h) (fun h=>l7 a0N d0F 5 h fun a1l h=>j5 7 h (fun h=>rg<|fE h) (fun h=>rg<|lp (d85 list r_) h (fun _ h=>a3S.rt h) (d6I r) fun hI=>sk [] [0,3,5] [(1,0)] hI))
def d5c:FS (Int):=⟨220,Tryz.f220,[.val [] []],[none,none],[.val [] [],.val [] []],fun r=>vi r,fun _=>[none,none],Tryz.func220⟩
def c0s(a:Int)(b:Int):Option Int :=
 (bif decide (a<b) then some a else some b)
theorem f0w{a b}:OK d5c [vi a,vi b] (c0s a b) :=
 o7 _ fun r h=>n6<|j5 2 h (fun h=>rg<|fE h) (fun h=>rg<|fE h)
def a7p:FS (List n7):=⟨218,Tryz.f218,[.val [some 2] [some 150]],[none,none],[.val [some 2] [some 150],.val O2 []],fun r=>u9 150 2 z6 r,fun _=>[none,none],Tryz.func218⟩
def c6f:(List n7)->KS:=fun a9A=>⟨a7p.k 3 [false],(.own 0 0 2 0 a9A.length::(bs 37 [])),[some [m6 150 2 z6 a9A]]⟩
def c6K(a9A:List n7):Option (List n7) :=
 some a9A
theorem f0n(r):NF a7p r c6f (fun s=>c6K s):=fun a9A h=>PK<|rg<|s7 a9A<|fE h
def e9Z(r_:n5):((List n7)×Int)->KS:=fun (list1,i)=>⟨a7p.k 2 [],(.own 0 0 2 0 list1.length::(bs 2 (.ptr 1 0 0::(bs 1 (vi i::(bs 32 [])))))),[some [m6 150 2 z6 list1],some [.var 53 (a0E r_)]]⟩
def b8c(r_:n5)(list1:List n7)(i:Int):Option (j9 (List n7) ((List n7)×Int) (List n7)) :=
 (bif decide (i<(r_.b6.length:Int)) then ((idx r_.b6 i).bind fun put=>((idx list1 put.i5).bind fun box=>((c0s 1000000 (m7 (box.j4+1))).bind fun b4q=>some (j9.nxt (list1.set put.i5.toNat (n7.mk b4q put.f0),m7 (i+1)))))) else some (j9.brk list1))
theorem f3a(r_):LQ a7p c6f (e9Z r_) (fun s=>b8c r_ s.1 s.2):=fun lc (list1,i) h=>PK<|rg<|j5 4 h (fun h=>rg<|v5 w8 3 h fun put hput h=>rg<|A8 h fun box a2E h=>B5 a2E<|H8 z6 6 a2E<|l7 d5c f0w 8 h fun b4q h=>J3 w8 12 hput<|B5 a2E<|Q3 150 2 z6 17 [] (n7.mk b4q put.f0) a2E<|rg<|(lc.nx h fun hI=>om ((.own 0 0 2 0 list1.length:V)=.own 0 0 2 0 (list1.set put.i5.toNat (n7.mk b4q put.f0)).length) (by simp)<|sk [.is (.tmp 0) (.own 0 0 2 0 (list1.set put.i5.toNat (n7.mk b4q put.f0)).length)] [0,3,5] [(1,0)] hI)) (fun h=>(lc.bk h fun hI=>sk [] [0] [] hI))
def b9y(list:List n7)(r_:n5):Option (List n7) :=
 ((p7 (fun s:(List n7)×Int=>b8c r_ s.1 s.2) (list,0)).bind fun x=>x.go (fun r=>some r) fun s=>c6K s)
theorem e1h{list r_}:OK a7p [u9 150 2 z6 list,.agg (Q9 r_)] (b9y list r_) :=
 o7 _ fun r h=>n6<|lp (f3a r_) h (fun _ h=>a7p.rt h) (f0n r) fun hI=>sk [] [0,3,5] [(1,0)] hI
def a11:FS (List s5):=⟨219,Tryz.f219,[.val [some 4] []],[none,none],[.val [some 4] [],.val [] []],fun r=>j8 4 B6 r,fun _=>[none,none],Tryz.func219⟩
def b6Q(d:s5):((List s5)×Bool)->KS:=fun (out1,in_1)=>⟨a11.k 5 [false],(bs 3 (.ptr 1 0 0::(bs 1 (.own 2 0 4 0 out1.length::(.b in_1::(bs 50 [])))))),[some [],some [.var 188 [vi d.a0.b9,vi d.a0.Seq,vi d.Code,vi d.f0]],some [m6 188 4 B6 out1]]⟩
def e8z:(List s5)->KS:=fun out2=>⟨a11.k 7 [false,true],(bs 5 (.own 1 0 4 0 out2.length::(bs 51 []))),[some [],some [m6 188 4 B6 out2]]⟩
def c1g(out2:List s5):Option (List s5) :=
 some out2
theorem e75(r):NF a11 r e8z (fun s=>c1g s):=fun out2 h=>PK<|rg<|s7 out2<|fE h
def c5r(d:s5)(out1:List s5)(in_1:Bool):Option (List s5) :=
 (((bif (!in_1) then (t0 ((out1.length+1)*32<=140737488355328) (some (l9.brk (out1++[d])))) else some (l9.brk out1)):Option (l9 (List s5) (List s5))).bind fun x=>x.go some fun j=>c1g j)
theorem d8B(d)(r):NF a11 r (b6Q d) (fun s=>c5r d s.1 s.2):=fun (out1,in_1) h=>PK<|A6 h (e75 r) fun x1 h hc1=>rg<|j5 1 h (fun h=>rg<|tk 2 []<|t9 h fun e1 h=>F9 3 8 188 4 32 B6 out1 d e1<|E6 d<|(o8 h hc1 fun hI=>sk [] [5] [(8,0)] hI)) (fun h=>(o8 h hc1 fun hI=>sk [] [5] [(2,0)] hI))
def c2C(list:List s5)(d:s5):((List s5)×Bool×Int)->KS:=fun (out,in_,i)=>⟨a11.k 4 [],(j8 4 B6 list::(bs 2 (.ptr 1 0 0::(bs 1 (.own 2 0 4 0 out.length::(.b in_::(vi i::(bs 49 [])))))))),[some [],some [.var 188 [vi d.a0.b9,vi d.a0.Seq,vi d.Code,vi d.f0]],some [m6 188 4 B6 out]]⟩
def f3A(list:List s5)(d:s5)(i:Int):((List s5)×Bool)->KS:=fun (out3,in_2)=>⟨a11.k 8 [true,true],(j8 4 B6 list::(bs 2 (.ptr 1 0 0::(bs 1 (.own 2 0 4 0 out3.length::(.b in_2::(vi i::(bs 49 [])))))))),[some [],some [.var 188 [vi d.a0.b9,vi d.a0.Seq,vi d.Code,vi d.f0]],some [m6 188 4 B6 out3]]⟩
def f2r(list:List s5)(d:s5)(i:Int)(in_2:Bool):(List s5)->KS:=fun out4=>⟨a11.k 10 [true,true,true],(j8 4 B6 list::(bs 2 (.ptr 1 0 0::(bs 1 (.own 2 0 4 0 out4.length::(.b in_2::(vi i::(bs 49 [])))))))),[some [],some [.var 188 [vi d.a0.b9,vi d.a0.Seq,vi d.Code,vi d.f0]],some [m6 188 4 B6 out4]]⟩
def c5c(i:Int)(in_2:Bool)(out4:List s5):Option (j9 (List s5) ((List s5)×Bool×Int) ((List s5)×Bool)) :=
 some (j9.nxt (out4,in_2,m7 (i+1)))
theorem f0R(list d i in_2)(lc:F6 a11 (b6Q d) (c2C list d)):NL lc (f2r list d i in_2) (fun s=>c5c i in_2 s):=fun out4 h=>PK<|rg<|(lc.nx h fun hI=>sk [] [0,3,5,6,7] [(1,0),(2,0)] hI)
def c4x(list:List s5)(d:s5)(i:Int)(out3:List s5)(in_2:Bool):Option (j9 (List s5) ((List s5)×Bool×Int) ((List s5)×Bool)) :=
 ((((idx list i).bind fun done=>(bif (done.a0.b9 != d.a0.b9) then (t0 ((out3.length+1)*32<=140737488355328) (some (l9.brk (out3++[done])))) else some (l9.brk out3))):Option (l9 (j9 (List s5) ((List s5)×Bool×Int) ((List s5)×Bool)) (List s5))).bind fun x=>x.go some fun j=>c5c i in_2 j)
theorem e9c(list d i)(lc:F6 a11 (b6Q d) (c2C list d)):NL lc (f3A list d i) (fun s=>c4x list d i s.1 s.2):=fun (out3,in_2) h=>PK<|A6 h (f0R list d i in_2 lc) fun x2 h hc2=>rg<|v5 B6 2 h fun done b8i h=>j5 9 h (fun h=>rg<|J3 B6 3 b8i<|tk 5 []<|t9 h fun e2 h=>F9 6 19 188 4 32 B6 out3 done e2<|E6 done<|(o8 h hc2 fun hI=>sk [] [0,3,5,6,7] [(1,0),(19,0)] hI)) (fun h=>(o8 h hc2 fun hI=>sk [] [0,3,5,6,7] [(1,0),(2,0)] hI))
def b1L(list:List s5)(d:s5)(out:List s5)(in_:Bool)(i:Int):Option (j9 (List s5) ((List s5)×Bool×Int) ((List s5)×Bool)) :=
 (bif decide (i<(list.length:Int)) then (((bif (!in_) then ((idx list i).bind fun a4E=>(bif decide (a4E.a0.b9>=d.a0.b9) then (t0 ((out.length+1)*32<=140737488355328) (some (l9.brk (out++[d],true)))) else some (l9.brk (out,in_)))) else some (l9.brk (out,in_))):Option (l9 (j9 (List s5) ((List s5)×Bool×Int) ((List s5)×Bool)) ((List s5)×Bool))).bind fun x=>x.go some fun j=>c4x list d i j.1 j.2) else some (j9.brk (out,in_)))
theorem e64(list d):LQ a11 (b6Q d) (c2C list d) (fun s=>b1L list d s.1 s.2.1 s.2.2):=fun lc (out,in_,i) h=>PK<|rg<|j5 3 h (fun h=>A6 h (e9c list d i lc) fun x2 h hc2=>rg<|j5 2 h (fun h=>v5 B6 5 h fun a4E e56 h=>j5 13 h (fun h=>rg<|tk 2 []<|t9 h fun e3 h=>F9 3 24 188 4 32 B6 out d e3<|E6 d<|rg<|(o8 h hc2 fun hI=>sk [] [0,3,5,6,7] [(1,0),(24,0)] hI)) (fun h=>(o8 h hc2 fun hI=>sk [] [0,3,5,6,7] [(1,0),(2,0)] hI))) (fun h=>(o8 h hc2 fun hI=>sk [] [0,3,5,6,7] [(1,0),(2,0)] hI))) (fun h=>(lc.bk h fun hI=>sk [] [3,5,6] [(1,0),(2,0)] hI))
def b5D(list:List s5)(d:s5):Option (List s5) :=
 ((p7 (fun s:(List s5)×Bool×Int=>b1L list d s.1 s.2.1 s.2.2) (([]:List s5),false,0)).bind fun x=>x.go (fun r=>some r) fun s=>c5r d s.1 s.2)
theorem e6D{list d}:OK a11 [j8 4 B6 list,.agg (B6 d)] (b5D list d) :=
 o7 _ fun r h=>n6<|tk 0 []<|n6<|lp (e64 list d) h (fun _ h=>a11.rt h) (d8B d r) fun hI=>om ((.own 3 0 4 0 0:V)=.own 3 0 4 0 ([]:List s5).length) (by simp)<|sk [.is (.tmp 5) (.own 3 0 4 0 ([]:List s5).length)] [0,3,5,6,7] [(1,0),(3,0)] hI
def a5B:FS (u6×Int):=⟨213,Tryz.f213,[.val [none,some 2,some 4] [none,some 150,none],.val [] []],[none,none],[.val [none,some 2,some 4] [none,some 150,none],.val K4 []],fun r=>.tup [.agg (b2Z r.1),vi r.2],fun _=>[none,none],Tryz.func213⟩
def d7j(s_:u6)(e_:m4):Unit->KS:=fun _=>⟨a5B.k 6 [false,false,false],(bs 2 (.ptr 1 0 0::(.ptr 2 0 0::(.ptr 3 0 0::(bs 78 []))))),[some [m6 150 2 z6 s_.g8],some [.var 120 [vi (m7 (s_.At+1)),.own 0 0 2 0 s_.g8.length,j8 4 B6 s_.i9]],some [.var 55 (a20 e_)],some [.var 120 [vi 0,.nil,.nil]]]⟩
def e2K(s_:u6)(e_:m4):Int->KS:=fun b03=>⟨a5B.k 9 [false,false,false,true],(bs 2 (.ptr 1 0 0::(.ptr 2 0 0::(.ptr 3 0 0::(bs 3 (.ptr 4 0 0::(bs 74 []))))))),[some [m6 150 2 z6 s_.g8],some [.var 120 [vi (m7 (s_.At+1)),.own 0 0 2 0 s_.g8.length,j8 4 B6 s_.i9]],some [.var 55 (a20 e_)],some [.var 120 [vi 0,.nil,.nil]],some [.var 188 [vi e_.a0.b9,vi e_.a0.Seq,vi b03,vi 0]]]⟩
def d7M(s_:u6):(s5×List n7)->KS:=fun (d,g8)=>⟨a5B.k 13 [false,false,false,true,true],(bs 2 (.ptr 1 0 0::(bs 1 (.ptr 3 0 0::(bs 3 (.ptr 4 0 0::(bs 74 []))))))),[some [.dead],some [.var 120 [vi (m7 (s_.At+1)),.own 2 0 2 0 g8.length,j8 4 B6 s_.i9]],some [m6 150 2 z6 g8],some [.var 120 [vi 0,.nil,.nil]],some [.var 188 [vi d.a0.b9,vi d.a0.Seq,vi d.Code,vi d.f0]]]⟩
def c5l(s_:u6)(d:s5)(g8:List n7):Option (u6×Int) :=
 ((b5D s_.i9 d).bind fun d4x=>some ((u6.mk (m7 (s_.At+1)) g8 d4x),d.Code))
theorem e8T(s_)(r):NF a5B r (d7M s_) (fun s=>c5l s_ s.1 s.2):=fun (d,g8) h=>PK<|rg<|l7 a11 e6D 3 h fun d4x h=>rg<|s7 g8<|fE h
def c0m(s_:u6)(e_:m4)(b03:Int):Option (u6×Int) :=
 (((bif (b03==2) then (bif (e_.b8.Code==0) then ((b9y s_.g8 e_.b8).bind fun d5B=>some (l9.brk ((s5.mk e_.a0 0 e_.b8.f0),d5B))) else some (l9.brk ((s5.mk e_.a0 b03 0),s_.g8))) else some (l9.brk ((s5.mk e_.a0 b03 0),s_.g8))):Option (l9 (u6×Int) (s5×List n7))).bind fun x=>x.go some fun j=>c5l s_ j.1 j.2)
theorem e6Y(s_ e_)(r):NF a5B r (e2K s_ e_) (fun s=>c0m s_ e_ s):=fun b03 h=>PK<|A6 h (e8T s_ r) fun x1 h hc1=>rg<|j5 3 h (fun h=>j5 8 h (fun h=>N0<|l7 a7p e1h 4 h fun d5B h=>s7 s_.g8<|(o8 h hc1 fun hI=>sk [] [2,4,8] [(1,0),(25,0),(3,0),(4,0)] hI)) (fun h=>(o8 h hc1 fun hI=>sk [] [2,4,8] [(1,0),(0,0),(3,0),(4,0)] hI))) (fun h=>(o8 h hc1 fun hI=>sk [] [2,4,8] [(1,0),(0,0),(3,0),(4,0)] hI))
def b9u(s_:u6)(e_:m4):Option (u6×Int) :=
 ((((b8h s_.g8 e_.b8).bind fun a6g=>(bif a6g then some (l9.brk 2) else some (l9.brk 1))):Option (l9 (u6×Int) Int)).bind fun x=>x.go some fun j=>c0m s_ e_ j)
theorem d71(s_ e_)(r):NF a5B r (d7j s_ e_) (fun s=>b9u s_ e_):=fun _ h=>PK<|rg<|A6 h (e6Y s_ e_ r) fun x1 h hc1=>rg<|cbE a3S.t e4I h fun a6g d3r h=>cdT (a3S.t 4 true a6g) h (fun _ h=>ob d3r<|osc a3S a6g rfl (P8 2)<|s7 s_.g8<|rg<|(o8 h hc1 fun hI=>sk [] [2,3,4,8] [(1,0),(2,0),(3,0),(7,0)] hI)) (fun _ h=>ob d3r<|osc a3S a6g rfl (P8 2)<|s7 s_.g8<|(o8 h hc1 fun hI=>sk [] [2,3,4,8] [(1,0),(2,0),(3,0),(7,0)] hI))
def b3n(s_:u6)(e_:m4):Option (u6×Int) :=
 (bif e_.i7 then some ((u6.mk (m7 (s_.At+1)) s_.g8 s_.i9),5) else ((b7r (u6.mk (m7 (s_.At+1)) s_.g8 s_.i9) e_.a0.b9).bind fun a6h=>(((bif a6h.2 then (bif (([a6h.1.a0.b9,a6h.1.a0.Seq]:List Int)==[e_.a0.b9,e_.a0.Seq]) then some (l9.ret ((u6.mk (m7 (s_.At+1)) s_.g8 s_.i9),3)) else (bif a6h.2 then (bif decide (a6h.1.a0.Seq>e_.a0.Seq) then some (l9.ret ((u6.mk (m7 (s_.At+1)) s_.g8 s_.i9),4)) else some (l9.brk ())) else some (l9.brk ()))) else (bif a6h.2 then (bif decide (a6h.1.a0.Seq>e_.a0.Seq) then some (l9.ret ((u6.mk (m7 (s_.At+1)) s_.g8 s_.i9),4)) else some (l9.brk ())) else some (l9.brk ()))):Option (l9 (u6×Int) Unit)).bind fun x=>x.go some fun j=>b9u s_ e_)))
theorem d5G{s_ e_}:OK a5B [.agg (b2Z s_),.agg (t5 e_)] (b3n s_ e_) :=
 o7 _ fun r h=>N0<|j5 1 h (fun h=>rg<|s7 s_.g8<|fE h) (fun h=>rg<|cbS a5J f1N 4 (fun _=>(by simp [a5J,K9,R4,O6,V.simple,vi,u9,eB,B6,eI,I7])) (fun _=>(P8 2)) h fun a6h h=>s7 s_.g8<|A6 h (d71 s_ e_ r) fun x1 h hc1=>rg<|j5 1 h (fun h=>j5 8 h (fun h=>rg<|(B7 h hc1 fun h=>s7 s_.g8<|fE h)) (fun h=>rg<|j5 1 h (fun h=>j5 10 h (fun h=>rg<|(B7 h hc1 fun h=>s7 s_.g8<|fE h)) (fun h=>(o8 h hc1 fun hI=>sk [] [2,3,4] [(1,0),(2,0),(3,0)] hI))) (fun h=>(o8 h hc1 fun hI=>sk [] [2,3,4] [(1,0),(2,0),(3,0)] hI)))) (fun h=>rg<|j5 1 h (fun h=>j5 10 h (fun h=>rg<|(B7 h hc1 fun h=>s7 s_.g8<|fE h)) (fun h=>(o8 h hc1 fun hI=>sk [] [2,3,4] [(1,0),(2,0),(3,0)] hI))) (fun h=>(o8 h hc1 fun hI=>sk [] [2,3,4] [(1,0),(2,0),(3,0)] hI))))
def d2g:FS (j6):=⟨214,Tryz.f214,[.val A7 G7],[none],[.val A7 G7],fun r=>.agg (H0 r),fun _=>[none],Tryz.func214⟩
def d5T(n:j6):Option j6 :=
 some (j6.mk n.Id n.Acc n.a5 n.Seq n.d7 n.a8 n.c8 n.i4 n.c9 n.a7 false [] (m4.mk false (n9.mk 0 0) (n5.mk [] [] 0 0)) n.d9)
theorem e30{n}:OK d2g [.agg (H0 n)] (d5T n) :=
 o7 _ fun r h=>rg4<|rg<|A2 n<|fE h
def a5l:FS (j6×List m9):=⟨209,Tryz.f209,[.val A7 G7,.val [some 5] []],[none],[.val A7 G7],fun r=>.tup [.agg (H0 r.1),j8 5 z4 r.2],fun _=>[none],Tryz.func209⟩
def c0x(n:j6):Unit->KS:=fun _=>⟨a5l.k 5 [false,false],(bs 1 (.ptr 1 0 0::(.ptr 2 0 0::(bs 81 [])))),[some (a8N n),some [.var 57 (a8u n)],some [.var 57 [vi 0,vi 0,.nil,.nil,vi 0,vi 0,vi 0,.nil,.nil,.b false,vi 0,vi 0,.nil,.nil,vi 0,vi 0,.nil,.b false,.nil,.b false,vi 0,vi 0,.nil,.nil,vi 0,vi 0,.nil]]]⟩
def c8T(n:j6):Option (j6×List m9) :=
 some (n,([]:List m9))
theorem e4u(n)(r):NF a5l r (c0x n) (fun s=>c8T n):=fun _ h=>PK<|rg<|tk 1 []<|A2 n<|B9 m9<|fE h
def d4p(n:j6):((List n7)×Int×Int×List s5)->KS:=fun (g8,i,sAt,sDones)=>⟨a5l.k 4 [false],(bs 1 (.ptr 1 0 0::(.ptr 2 0 0::(bs 1 (.ptr 3 0 0::(vi i::(bs 78 []))))))),[some (a8N n),some [.var 57 (a8u n)],some [.var 57 [vi 0,vi 0,.nil,.nil,vi 0,vi 0,vi 0,.nil,.nil,.b false,vi 0,vi 0,.nil,.nil,vi 0,vi 0,.nil,.b false,.nil,.b false,vi 0,vi 0,.nil,.nil,vi 0,vi 0,.nil]],some [.var 120 [vi sAt,.own 4 0 2 0 g8.length,j8 4 B6 sDones]],some [m6 150 2 z6 g8]]⟩
def d7m(n:j6):(List m9)->KS:=fun out=>⟨a5l.k 11 [false,true,false,true],(bs 1 (.ptr 1 0 0::(.ptr 2 0 0::(bs 5 (.own 3 0 5 0 out.length::(bs 75 [])))))),[some (a8N n),some [.var 57 (a8u n)],some [.var 57 [vi 0,vi 0,.nil,.nil,vi 0,vi 0,vi 0,.nil,.nil,.b false,vi 0,vi 0,.nil,.nil,vi 0,vi 0,.nil,.b false,.nil,.b false,vi 0,vi 0,.nil,.nil,vi 0,vi 0,.nil]],some [m6 69 5 z4 out]]⟩
def c4A(n:j6)(out:List m9):Option (j9 (j6×List m9) ((List n7)×Int×Int×List s5) Unit) :=
 ((d5T n).bind fun c2p=>some (j9.ret (c2p,out)))
theorem e1H(n)(lc:F6 a5l (c0x n) (d4p n)):NL lc (d7m n) (fun s=>c4A n s):=fun out h=>PK<|rg<|l7 d2g e30 1 h fun c2p h=>A2 n<|A2 c2p<|s7 out<|fL lc h
def a9i(n:j6)(g8:List n7)(i:Int)(sAt:Int)(sDones:List s5):Option (j9 (j6×List m9) ((List n7)×Int×Int×List s5) Unit) :=
 (bif decide (i<(n.a5.length:Int)) then ((idx n.a5 i).bind fun entry=>((b3n (u6.mk sAt g8 sDones) entry).bind fun V5=>(bif entry.i7 then some (j9.nxt (V5.1.g8,m7 (i+1),V5.1.At,V5.1.i9)) else (bif (!(([entry.a0.b9,entry.a0.Seq]:List Int)==[n.b7.a0.b9,n.b7.a0.Seq])) then some (j9.nxt (V5.1.g8,m7 (i+1),V5.1.At,V5.1.i9)) else (((bif (V5.2==0) then ((idx [(m9.mk n.Id n.b7.a0 V5.2 0)] 0).bind fun told=>some (l9.brk ([(m9.mk n.Id n.b7.a0 V5.2 0)].set (0:Int).toNat (m9.mk told.Node told.a0 told.Code entry.b8.f0)))) else some (l9.brk [(m9.mk n.Id n.b7.a0 V5.2 0)])):Option (l9 (j9 (j6×List m9) ((List n7)×Int×Int×List s5) Unit) (List m9))).bind fun x=>x.go some fun j=>c4A n j))))) else some (j9.brk ()))
theorem d8e(n):LQ a5l (c0x n) (d4p n) (fun s=>a9i n s.1 s.2.1 s.2.2.1 s.2.2.2):=fun lc (g8,i,sAt,sDones) h=>PK<|rg<|j5 4 h (fun h=>rg<|A8 h fun entry G9 h=>B5 G9<|H8 t5 5 G9<|l7 a5B d5G 6 h fun V5 h=>s7 g8<|n6<|B5 G9<|H8 t5 5 G9<|j5 6 h (fun h=>rg<|(lc.nx h fun hI=>sk [] [1,2,4,5] [(1,0),(2,0),(3,0),(16,0)] hI)) (fun h=>B5 G9<|H8 t5 12 G9<|j5 17 h (fun h=>rg<|(lc.nx h fun hI=>sk [] [1,2,4,5] [(1,0),(2,0),(3,0),(16,0)] hI)) (fun h=>rg<|tk 7 []<|A6 h (e1H n lc) fun x2 h hc2=>rg<|j5 1 h (fun h=>rg<|B5 G9<|H8 t5 7 G9<|A8 h fun told a47 h=>ob (O9 a47)<|om (0<((1:Nat):Int)) (by simpa using b30 a47)<|Q3 69 5 z4 10 [] (m9.mk told.Node told.a0 told.Code entry.b8.f0) a47<|(o8 h hc2 fun hI=>om ((.own 50 0 5 0 1:V)=.own 50 0 5 0 ([(m9.mk n.Id n.b7.a0 V5.2 0)].set (0:Int).toNat (m9.mk told.Node told.a0 told.Code entry.b8.f0)).length) (by simp)<|sk [.is (.tmp 8) (.own 50 0 5 0 ([(m9.mk n.Id n.b7.a0 V5.2 0)].set (0:Int).toNat (m9.mk told.Node told.a0 told.Code entry.b8.f0)).length)] [1,2,8] [(1,0),(2,0),(50,0)] hI)) (fun h=>(o8 h hc2 fun hI=>om ((.own 50 0 5 0 1:V)=.own 50 0 5 0 ([(m9.mk n.Id n.b7.a0 V5.2 0)].length)) (by simp)<|sk [.is (.tmp 8) (.own 50 0 5 0 ([(m9.mk n.Id n.b7.a0 V5.2 0)].length))] [1,2,8] [(1,0),(2,0),(50,0)] hI))))) (fun h=>(lc.bk h fun hI=>sk [] [1,2] [(1,0),(2,0)] hI))
def b73(n:j6):Option (j6×List m9) :=
 (bif (!n.i8) then some (n,([]:List m9)) else ((a7V n n.b7.a0).bind fun a6q=>(bif (!a6q) then some (n,([]:List m9)) else ((b36).bind fun a1o=>((p7 (fun s:(List n7)×Int×Int×List s5=>a9i n s.1 s.2.1 s.2.2.1 s.2.2.2) (a1o.g8,0,a1o.At,a1o.i9)).bind fun x=>x.go (fun r=>some r) fun s=>c8T n)))))
theorem e1u{n}:OK a5l [.agg (H0 n)] (b73 n) :=
 o7 _ fun r h=>n6<|j5 3 h (fun h=>rg<|tk 1 []<|A2 n<|B9 m9<|fE h) (fun h=>T5 a2i b6W 8 2 h fun a6q h=>A2 n<|j5 10 h (fun h=>rg<|tk 1 []<|A2 n<|B9 m9<|fE h) (fun h=>rg<|l7 c5A c82 0 h fun a1o h=>rg<|lp (d8e n) h (fun _ h=>a5l.rt h) (e4u n r) fun hI=>sk [] [1,2,4,5] [(1,0),(2,0),(16,0),(15,0)] hI))
def b17:FS (j6×(List l8)×List m9):=⟨200,Tryz.f200,[.val A7 G7,.val [some 13] [],.val [some 5] []],[none,none],[.val A7 G7,.val K4 []],fun r=>.tup [.agg (H0 r.1),j8 13 s8 r.2.1,j8 5 z4 r.2.2],fun _=>[none,none],Tryz.func200⟩
def e4k(n:j6)(l5Entry:m4):((List Bool)×Int×Int×(List q8)×(List p6)×Int×Int×Int×Bool)->KS:=fun (a7,nCur,nCur1,nCur2,nCur3,nCur4,nCur5,nPhase,nCur6)=>⟨b17.k 6 [true],(bs 2 (.ptr 1 0 0::(bs 1 (.ptr 3 0 0::(bs 33 []))))),[some [m6 106 8 p8 n.Acc.a7,.dead,m6 4 1 eB n.c8,.dead,m6 55 7 t5 n.d9],some [.var 57 ([vi n.Id,vi n.Acc.i0,.own 0 0 8 0 n.Acc.a7.length,.own 2 0 7 0 (n.a5++[l5Entry]).length,vi n.Seq,vi nPhase,vi n.a8,.own 0 2 1 0 n.c8.length,j8 8 p8 n.i4,.b nCur6,vi nCur,vi nCur1,j8 2 v6 nCur2,j8 2 w8 nCur3,vi nCur4,vi nCur5,.own 4 0 1 0 a7.length]++a4u n++[.own 0 4 7 0 n.d9.length])],some [m6 55 7 t5 (n.a5++[l5Entry])],some [.var 57 [vi 0,vi 0,.nil,.nil,vi 0,vi 0,vi 0,.nil,.nil,.b false,vi 0,vi 0,.nil,.nil,vi 0,vi 0,.nil,.b false,.nil,.b false,vi 0,vi 0,.nil,.nil,vi 0,vi 0,.nil]],some [m6 4 1 eB a7]]⟩
def b8M(n:j6)(l5Entry:m4)(a7:List Bool)(nCur:Int)(nCur1:Int)(nCur2:List q8)(nCur3:List p6)(nCur4:Int)(nCur5:Int)(nPhase:Int)(nCur6:Bool):Option (j6×(List l8)×List m9) :=
 ((b73 (j6.mk n.Id n.Acc (n.a5++[l5Entry]) n.Seq nPhase n.a8 n.c8 n.i4 (m4.mk nCur6 (n9.mk nCur nCur1) (n5.mk nCur2 nCur3 nCur4 nCur5)) a7 n.i8 n.i6 n.b7 n.d9)).bind fun b5G=>((a60 b5G.1).bind fun N6=>some (N6.1,N6.2,b5G.2)))
theorem e6P(n l5Entry)(r):NF b17 r (e4k n l5Entry) (fun s=>b8M n l5Entry s.1 s.2.1 s.2.2.1 s.2.2.2.1 s.2.2.2.2.1 s.2.2.2.2.2.1 s.2.2.2.2.2.2.1 s.2.2.2.2.2.2.2.1 s.2.2.2.2.2.2.2.2):=fun (a7,nCur,nCur1,nCur2,nCur3,nCur4,nCur5,nPhase,nCur6) h=>PK<|rg<|l7 a5l e1u 1 h fun b5G h=>H5 n.Acc.a7 (n.a5++[l5Entry]) n.c8 a7<|s7 n.d9<|rg<|l7 b0o b3S 1 h fun N6 h=>A2 b5G.1<|rg<|A2 N6.1<|fE h
def b2w(n:j6)(e_:m4):Option (j6×(List l8)×List m9) :=
 ((W6 e_).bind fun l5Entry=>(t0 ((n.a5.length+1)*88<=140737488355328) ((((bif (n.d7==3) then some (l9.brk ([],0,0,[],[],0,0,2,false)) else some (l9.brk (n.a7,n.c9.a0.b9,n.c9.a0.Seq,n.c9.b8.b5,n.c9.b8.b6,n.c9.b8.f0,n.c9.b8.Code,n.d7,n.c9.i7))):Option (l9 (j6×(List l8)×List m9) ((List Bool)×Int×Int×(List q8)×(List p6)×Int×Int×Int×Bool))).bind fun x=>x.go some fun j=>b8M n l5Entry j.1 j.2.1 j.2.2.1 j.2.2.2.1 j.2.2.2.2.1 j.2.2.2.2.2.1 j.2.2.2.2.2.2.1 j.2.2.2.2.2.2.2.1 j.2.2.2.2.2.2.2.2))))
theorem c8s{n e_}:OK b17 [.agg (H0 n),.agg (t5 e_)] (b2w n e_) :=
 o7 _ fun r h=>n6<|l7 a0u a01 3 h fun l5Entry h=>tk 4 K4<|t9 h fun e1 h=>F9 5 11 55 7 88 t5 n.a5 l5Entry e1<|E6 l5Entry<|A6 h (e6P n l5Entry r) fun x1 h hc1=>rg<|j5 2 h (fun h=>N0<|(o8 h hc1 fun hI=>sk [.frz (.cell 1 0 12) (some 2),.frz (.cell 1 0 13) (some 2),.own (.cell 1 0 16) 4 1,.kill 0 3] [2,4] [(1,0),(11,0),(3,0),(24,0)] hI)) (fun h=>(o8 h hc1 fun hI=>sk [] [2,4] [(1,0),(11,0),(3,0),(0,3)] hI))
def d3e:FS (j6×(List l8)×List m9):=⟨180,Tryz.f180,[.val A7 G7,.val [some 13] [],.val [some 5] []],[none,none],[.val A7 G7,.val B8 []],fun r=>.tup [.agg (H0 r.1),j8 13 s8 r.2.1,j8 5 z4 r.2.2],fun _=>[none,none],Tryz.func180⟩
def b8p(n:j6)(m:l8):Option (j6×(List l8)×List m9) :=
 (bif (n.d7 != 3) then some (n,([]:List l8),([]:List m9)) else (bif (m.a8 != n.a8) then some (n,([]:List l8),([]:List m9)) else (bif (m.g7 != (n.a5.length:Int)) then some (n,([]:List l8),([]:List m9)) else ((idx n.a7 m.c8).bind fun y=>((b2Q (n.a7.set m.c8.toNat true)).bind fun b4d=>(bif (!b4d) then some ((j6.mk n.Id n.Acc n.a5 n.Seq n.d7 n.a8 n.c8 n.i4 n.c9 (n.a7.set m.c8.toNat true) n.i8 n.i6 n.b7 n.d9),([]:List l8),([]:List m9)) else ((W6 n.c9).bind fun l5Entry=>((a2Z n.Id (l8.mk 5 0 0 0 (n.a5.length:Int) l5Entry [])).bind fun J7=>((b2w (j6.mk n.Id n.Acc n.a5 n.Seq n.d7 n.a8 n.c8 n.i4 n.c9 (n.a7.set m.c8.toNat true) n.i8 n.i6 n.b7 n.d9) l5Entry).bind fun a09=>(t0 ((J7.length+a09.2.1.length)*152<=140737488355328) (some (a09.1,J7++a09.2.1,a09.2.2))))))))))))
theorem e9v{n m}:OK d3e [.agg (H0 n),.agg (s8 m)] (b8p n m) :=
 o7 _ fun r h=>n6<|j5 3 h (fun h=>rg<|tk 1 B8<|tk 2 []<|A2 n<|B9 l8<|B9 m9<|fE h) (fun h=>j5 10 h (fun h=>rg<|tk 1 B8<|tk 2 []<|A2 n<|B9 l8<|B9 m9<|fE h) (fun h=>j5 17 h (fun h=>rg<|tk 1 B8<|tk 2 []<|A2 n<|B9 l8<|B9 m9<|fE h) (fun h=>rg<|A8 h fun y hy h=>B5 hy<|Q3 4 1 eB 5 [] true hy<|rg<|T5 a69 d30 2 1 h fun b4d h=>om (n.a7.length=(n.a7.set m.c8.toNat true).length) (by simp)<|j5 3 h (fun h=>rg<|tk 1 B8<|tk 2 []<|Y1 n.Acc.a7 n.a5 n.c8<|om (n.a7.length=(n.a7.set m.c8.toNat true).length) (by simp)<|s7 n.d9<|B9 l8<|B9 m9<|fE h) (fun h=>rg<|l7 a0u a01 2 h fun l5Entry h=>rg<|l7 a0A a5U 7 h fun J7 h=>rg<|l7 b17 c8s 2 h fun a09 h=>Y1 n.Acc.a7 n.a5 n.c8<|om (n.a7.length=(n.a7.set m.c8.toNat true).length) (by simp)<|s7 n.d9<|rg<|t9 h fun e1 h=>apL 3 62 62 13 152 s8 J7 a09.2.1 e1<|A2 a09.1<|s7 (J7++a09.2.1)<|fE h))))
def c8U:FS (j6×(List l8)×List m9):=⟨181,Tryz.f181,[.val A7 G7,.val [some 13] [],.val [some 5] []],[none,none],[.val A7 G7,.val B8 []],fun r=>.tup [.agg (H0 r.1),j8 13 s8 r.2.1,j8 5 z4 r.2.2],fun _=>[none,none],Tryz.func181⟩
def b7l(n:j6)(m:l8):Option (j6×(List l8)×List m9) :=
 (bif decide (m.g7<(n.a5.length:Int)) then some (n,([]:List l8),([]:List m9)) else (bif decide (m.g7>(n.a5.length:Int)) then ((a4I m (l8.mk 8 0 0 0 (n.a5.length:Int) (m4.mk false (n9.mk 0 0) (n5.mk [] [] 0 0)) [])).bind fun a1F=>some (n,a1F,([]:List m9))) else ((b2w n m.g9).bind fun a09=>some (a09.1,a09.2.1,a09.2.2))))
theorem e9r{n m}:OK c8U [.agg (H0 n),.agg (s8 m)] (b7l n m) :=
 o7 _ fun r h=>n6<|j5 6 h (fun h=>rg<|tk 1 B8<|tk 2 []<|A2 n<|B9 l8<|B9 m9<|fE h) (fun h=>rg<|j5 6 h (fun h=>rg<|l7 a31 a71 6 h fun a1F h=>tk 7 []<|A2 n<|B9 m9<|fE h) (fun h=>rg<|l7 b17 c8s 3 h fun a09 h=>A2 n<|A2 a09.1<|fE h))
def c9z:FS (j6×List l8):=⟨183,Tryz.f183,[.val A7 G7,.val [some 13] []],[none,none],[.val A7 G7,.val B8 []],fun r=>.tup [.agg (H0 r.1),j8 13 s8 r.2],fun _=>[none,none],Tryz.func183⟩
def b45(n:j6)(m:l8):Option (j6×List l8) :=
 (bif (n.d7==0) then some (n,([]:List l8)) else (bif decide ((n.d9.length:Int)>=4) then some (n,([]:List l8)) else ((a7V n m.g9.a0).bind fun a6q=>(bif a6q then some (n,([]:List l8)) else ((W6 m.g9).bind fun l5Entry=>(t0 ((n.d9.length+1)*88<=140737488355328) (((a60 (j6.mk n.Id n.Acc n.a5 n.Seq n.d7 n.a8 n.c8 n.i4 n.c9 n.a7 n.i8 n.i6 n.b7 (n.d9++[l5Entry]))).bind fun N6=>some (N6.1,N6.2)))))))))
theorem e6O{n m}:OK c9z [.agg (H0 n),.agg (s8 m)] (b45 n m) :=
 o7 _ fun r h=>n6<|j5 3 h (fun h=>rg<|tk 1 B8<|A2 n<|B9 l8<|fE h) (fun h=>j5 9 h (fun h=>rg<|tk 1 B8<|A2 n<|B9 l8<|fE h) (fun h=>T5 a2i b6W 14 2 h fun a6q h=>A2 n<|j5 15 h (fun h=>rg<|tk 1 B8<|A2 n<|B9 l8<|fE h) (fun h=>rg<|l7 a0u a01 4 h fun l5Entry h=>tk 5 K4<|t9 h fun e1 h=>F9 6 27 55 7 88 t5 n.d9 l5Entry e1<|E6 l5Entry<|rg<|l7 b0o b3S 1 h fun N6 h=>s7 n.Acc.a7<|H5 n.a5 n.c8 n.a7 (n.d9++[l5Entry])<|A2 N6.1<|fE h)))
def a82:FS ((List l8)×j6):=⟨184,Tryz.f184,[.val [some 13] []],[some (0,.val A7 G7),none],[.val A7 G7,.val B8 []],fun r=>j8 13 s8 r.1,fun r=>[some (.agg (f3g r.2)),none],Tryz.func184⟩
def d0H(n:j6):(List l8)->KS:=fun out1=>⟨a82.k 4 [false],(bs 5 (.own 1 0 13 0 out1.length::(bs 24 []))),[some [m6 106 8 p8 n.Acc.a7,m6 55 7 t5 n.a5,m6 4 1 eB n.c8,m6 4 1 eB n.a7,m6 55 7 t5 n.d9],some [m6 62 13 s8 out1]]⟩
def d3A(n:j6)(out1:List l8):Option ((List l8)×j6) :=
 some (out1,n)
theorem d7y(n)(r):NF a82 r (d0H n) (fun s=>d3A n s):=fun out1 h=>PK<|rg<|s7 out1<|A2 n<|fE h
def d9u(n:j6)(m:l8):((List l8)×Int)->KS:=fun (out,s_)=>⟨a82.k 3 [],(bs 2 (.ptr 1 0 0::(.ptr 2 0 0::(bs 1 (.own 3 0 13 0 out.length::(vi s_::(bs 23 []))))))),[some (a8N n),some [.var 57 (a8u n)],some [.var 62 (a4y m)],some [m6 62 13 s8 out]]⟩
def a7i(n:j6)(m:l8)(out:List l8)(s_:Int):Option (j9 ((List l8)×j6) ((List l8)×Int) (List l8)) :=
 (bif decide (s_<(n.a5.length:Int)) then ((idx n.a5 s_).bind fun entry=>((W6 entry).bind fun l5Entry=>((a4I m (l8.mk 5 0 0 0 s_ l5Entry [])).bind fun a1F=>(t0 ((out.length+a1F.length)*152<=140737488355328) (some (j9.nxt (out++a1F,m7 (s_+1)))))))) else some (j9.brk out))
theorem e9D(n m):LQ a82 (d0H n) (d9u n m) (fun s=>a7i n m s.1 s.2):=fun lc (out,s_) h=>PK<|rg<|j5 4 h (fun h=>rg<|A8 h fun entry G9 h=>B5 G9<|H8 t5 7 G9<|l7 a0u a01 8 h fun l5Entry h=>l7 a31 a71 10 h fun a1F h=>t9 h fun e1 h=>apL 11 20 62 13 152 s8 out a1F e1<|rg<|(lc.nx h fun hI=>sk [] [2,3,5,6] [(1,0),(2,0),(20,0)] hI)) (fun h=>(lc.bk h fun hI=>sk [] [5] [(3,0)] hI))
def b74(n:j6)(m:l8):Option ((List l8)×j6) :=
 ((p7 (fun s:(List l8)×Int=>a7i n m s.1 s.2) (([]:List l8),m.g7)).bind fun x=>x.go (fun r=>some r) fun s=>d3A n s)
theorem f1U{n m}:OK a82 [.agg (H0 n),.agg (s8 m)] (b74 n m) :=
 o7 _ fun r h=>n6<|tk 0 B8<|rg<|lp (e9D n m) h (fun _ h=>a82.rt h) (d7y n r) fun hI=>om ((.own 4 0 13 0 0:V)=.own 4 0 13 0 ([]:List l8).length) (by simp)<|sk [.is (.tmp 5) (.own 4 0 13 0 ([]:List l8).length)] [2,3,5,6] [(1,0),(2,0),(4,0)] hI
def b7y:FS (j6×(List l8)×List m9):=⟨148,Tryz.f148,[.val A7 G7,.val [some 13] [],.val [some 5] []],[none,none],[.val A7 G7,.val B8 []],fun r=>.tup [.agg (H0 r.1),j8 13 s8 r.2.1,j8 5 z4 r.2.2],fun _=>[none,none],Tryz.func148⟩
def e8M:((List m8)×(List m4)×(List Bool)×(List Bool)×(List m4)×(List l8)×Int×Int×Int×Int×(List q8)×(List p6)×Int×Int×Bool×(List n8)×Bool×Int×Int×(List q8)×(List p6)×Int×Int×Int×Int×Int×(List m8)×Bool)->KS:=fun (Acc,a5,c8,a7,d9,out,nId,nAcc,nCur,nCur1,nCur2,nCur3,nCur4,nCur5,nBusy,nProg,nWant,nWant1,nWant2,nWant3,nWant4,nWant5,nWant6,nSeq,nPhase,nBal,nBest,nCur6)=>⟨b7y.k 5 [true],(bs 2 (.ptr 1 0 0::(bs 1 (.ptr 7 0 0::(bs 2 (j8 13 s8 out::(bs 77 []))))))),[some [.dead,.dead,.dead,.dead,.dead],some [.var 57 [vi nId,vi nAcc,.own 2 0 8 0 Acc.length,.own 3 0 7 0 a5.length,vi nSeq,vi nPhase,vi nBal,.own 4 0 1 0 c8.length,j8 8 p8 nBest,.b nCur6,vi nCur,vi nCur1,j8 2 v6 nCur2,j8 2 w8 nCur3,vi nCur4,vi nCur5,.own 5 0 1 0 a7.length,.b nBusy,j8 4 A0 nProg,.b nWant,vi nWant1,vi nWant2,j8 2 v6 nWant3,j8 2 w8 nWant4,vi nWant5,vi nWant6,.own 6 0 7 0 d9.length]],some [m6 106 8 p8 Acc],some [m6 55 7 t5 a5],some [m6 4 1 eB c8],some [m6 4 1 eB a7],some [m6 55 7 t5 d9],some [.var 57 [vi 0,vi 0,.nil,.nil,vi 0,vi 0,vi 0,.nil,.nil,.b false,vi 0,vi 0,.nil,.nil,vi 0,vi 0,.nil,.b false,.nil,.b false,vi 0,vi 0,.nil,.nil,vi 0,vi 0,.nil]]]⟩
def c87(Acc:List m8)(a5:List m4)(c8:List Bool)(a7:List Bool)(d9:List m4)(out:List l8)(nId:Int)(nAcc:Int)(nCur:Int)(nCur1:Int)(nCur2:List q8)(nCur3:List p6)(nCur4:Int)(nCur5:Int)(nBusy:Bool)(nProg:List n8)(nWant:Bool)(nWant1:Int)(nWant2:Int)(nWant3:List q8)(nWant4:List p6)(nWant5:Int)(nWant6:Int)(nSeq:Int)(nPhase:Int)(nBal:Int)(nBest:List m8)(nCur6:Bool):Option (j6×(List l8)×List m9) :=
 some ((j6.mk nId (z0.mk nAcc Acc) a5 nSeq nPhase nBal c8 nBest (m4.mk nCur6 (n9.mk nCur nCur1) (n5.mk nCur2 nCur3 nCur4 nCur5)) a7 nBusy nProg (m4.mk nWant (n9.mk nWant1 nWant2) (n5.mk nWant3 nWant4 nWant5 nWant6)) d9),out,([]:List m9))
theorem e9w(r):NF b7y r e8M (fun s=>c87 s.1 s.2.1 s.2.2.1 s.2.2.2.1 s.2.2.2.2.1 s.2.2.2.2.2.1 s.2.2.2.2.2.2.1 s.2.2.2.2.2.2.2.1 s.2.2.2.2.2.2.2.2.1 s.2.2.2.2.2.2.2.2.2.1 s.2.2.2.2.2.2.2.2.2.2.1 s.2.2.2.2.2.2.2.2.2.2.2.1 s.2.2.2.2.2.2.2.2.2.2.2.2.1 s.2.2.2.2.2.2.2.2.2.2.2.2.2.1 s.2.2.2.2.2.2.2.2.2.2.2.2.2.2.1 s.2.2.2.2.2.2.2.2.2.2.2.2.2.2.2.1 s.2.2.2.2.2.2.2.2.2.2.2.2.2.2.2.2.1 s.2.2.2.2.2.2.2.2.2.2.2.2.2.2.2.2.2.1 s.2.2.2.2.2.2.2.2.2.2.2.2.2.2.2.2.2.2.1 s.2.2.2.2.2.2.2.2.2.2.2.2.2.2.2.2.2.2.2.1 s.2.2.2.2.2.2.2.2.2.2.2.2.2.2.2.2.2.2.2.2.1 s.2.2.2.2.2.2.2.2.2.2.2.2.2.2.2.2.2.2.2.2.2.1 s.2.2.2.2.2.2.2.2.2.2.2.2.2.2.2.2.2.2.2.2.2.2.1 s.2.2.2.2.2.2.2.2.2.2.2.2.2.2.2.2.2.2.2.2.2.2.2.1 s.2.2.2.2.2.2.2.2.2.2.2.2.2.2.2.2.2.2.2.2.2.2.2.2.1 s.2.2.2.2.2.2.2.2.2.2.2.2.2.2.2.2.2.2.2.2.2.2.2.2.2.1 s.2.2.2.2.2.2.2.2.2.2.2.2.2.2.2.2.2.2.2.2.2.2.2.2.2.2.1 s.2.2.2.2.2.2.2.2.2.2.2.2.2.2.2.2.2.2.2.2.2.2.2.2.2.2.2):=fun (Acc,a5,c8,a7,d9,out,nId,nAcc,nCur,nCur1,nCur2,nCur3,nCur4,nCur5,nBusy,nProg,nWant,nWant1,nWant2,nWant3,nWant4,nWant5,nWant6,nSeq,nPhase,nBal,nBest,nCur6) h=>PK<|rg<|tk 2 []<|H5 Acc a5 c8 a7<|s7 d9<|B9 m9<|fE h
def b5e(n:j6)(m:l8):Option (j6×(List l8)×List m9) :=
 (((bif (m.a9==1) then ((b8k n m).bind fun L8=>some (l9.brk (L8.1.Acc.a7,L8.1.a5,L8.1.c8,L8.1.a7,L8.1.d9,L8.2,L8.1.Id,L8.1.Acc.i0,L8.1.c9.a0.b9,L8.1.c9.a0.Seq,L8.1.c9.b8.b5,L8.1.c9.b8.b6,L8.1.c9.b8.f0,L8.1.c9.b8.Code,L8.1.i8,L8.1.i6,L8.1.b7.i7,L8.1.b7.a0.b9,L8.1.b7.a0.Seq,L8.1.b7.b8.b5,L8.1.b7.b8.b6,L8.1.b7.b8.f0,L8.1.b7.b8.Code,L8.1.Seq,L8.1.d7,L8.1.a8,L8.1.i4,L8.1.c9.i7))) else (bif (m.a9==2) then ((b5Z n m).bind fun M4=>some (l9.brk (M4.1.Acc.a7,M4.1.a5,M4.1.c8,M4.1.a7,M4.1.d9,M4.2,M4.1.Id,M4.1.Acc.i0,M4.1.c9.a0.b9,M4.1.c9.a0.Seq,M4.1.c9.b8.b5,M4.1.c9.b8.b6,M4.1.c9.b8.f0,M4.1.c9.b8.Code,M4.1.i8,M4.1.i6,M4.1.b7.i7,M4.1.b7.a0.b9,M4.1.b7.a0.Seq,M4.1.b7.b8.b5,M4.1.b7.b8.b6,M4.1.b7.b8.f0,M4.1.b7.b8.Code,M4.1.Seq,M4.1.d7,M4.1.a8,M4.1.i4,M4.1.c9.i7))) else (bif (m.a9==3) then ((b5s n m).bind fun L6=>some (l9.brk (L6.1.Acc.a7,L6.1.a5,L6.1.c8,L6.1.a7,L6.1.d9,L6.2,L6.1.Id,L6.1.Acc.i0,L6.1.c9.a0.b9,L6.1.c9.a0.Seq,L6.1.c9.b8.b5,L6.1.c9.b8.b6,L6.1.c9.b8.f0,L6.1.c9.b8.Code,L6.1.i8,L6.1.i6,L6.1.b7.i7,L6.1.b7.a0.b9,L6.1.b7.a0.Seq,L6.1.b7.b8.b5,L6.1.b7.b8.b6,L6.1.b7.b8.f0,L6.1.b7.b8.Code,L6.1.Seq,L6.1.d7,L6.1.a8,L6.1.i4,L6.1.c9.i7))) else (bif (m.a9==4) then ((b8p n m).bind fun b4v=>some (l9.ret (b4v.1,b4v.2.1,b4v.2.2))) else (bif (m.a9==5) then ((b7l n m).bind fun b2d=>some (l9.ret (b2d.1,b2d.2.1,b2d.2.2))) else (bif (m.a9==6) then ((a7U n.Acc m.a8).bind fun l6Promise=>((b4g (j6.mk n.Id l6Promise.1 n.a5 n.Seq n.d7 n.a8 n.c8 n.i4 n.c9 n.a7 n.i8 n.i6 n.b7 n.d9) m.a8).bind fun J8=>some (l9.brk (J8.Acc.a7,J8.a5,J8.c8,J8.a7,J8.d9,([]:List l8),J8.Id,J8.Acc.i0,J8.c9.a0.b9,J8.c9.a0.Seq,J8.c9.b8.b5,J8.c9.b8.b6,J8.c9.b8.f0,J8.c9.b8.Code,J8.i8,J8.i6,J8.b7.i7,J8.b7.a0.b9,J8.b7.a0.Seq,J8.b7.b8.b5,J8.b7.b8.b6,J8.b7.b8.f0,J8.b7.b8.Code,J8.Seq,J8.d7,J8.a8,J8.i4,J8.c9.i7)))) else (bif (m.a9==7) then ((b45 n m).bind fun L5=>some (l9.brk (L5.1.Acc.a7,L5.1.a5,L5.1.c8,L5.1.a7,L5.1.d9,L5.2,L5.1.Id,L5.1.Acc.i0,L5.1.c9.a0.b9,L5.1.c9.a0.Seq,L5.1.c9.b8.b5,L5.1.c9.b8.b6,L5.1.c9.b8.f0,L5.1.c9.b8.Code,L5.1.i8,L5.1.i6,L5.1.b7.i7,L5.1.b7.a0.b9,L5.1.b7.a0.Seq,L5.1.b7.b8.b5,L5.1.b7.b8.b6,L5.1.b7.b8.f0,L5.1.b7.b8.Code,L5.1.Seq,L5.1.d7,L5.1.a8,L5.1.i4,L5.1.c9.i7))) else (bif (m.a9==8) then ((b74 n m).bind fun S6=>(t0 (n.Acc.a7.length=S6.2.Acc.a7.length) ((t0 (n.a5.length=S6.2.a5.length) ((t0 (n.c8.length=S6.2.c8.length) ((t0 (n.a7.length=S6.2.a7.length) ((t0 (n.d9.length=S6.2.d9.length) (some (l9.brk (S6.2.Acc.a7,S6.2.a5,S6.2.c8,S6.2.a7,S6.2.d9,S6.1,n.Id,n.Acc.i0,n.c9.a0.b9,n.c9.a0.Seq,n.c9.b8.b5,n.c9.b8.b6,n.c9.b8.f0,n.c9.b8.Code,n.i8,n.i6,n.b7.i7,n.b7.a0.b9,n.b7.a0.Seq,n.b7.b8.b5,n.b7.b8.b6,n.b7.b8.f0,n.b7.b8.Code,n.Seq,n.d7,n.a8,n.i4,n.c9.i7))))))))))))) else some (l9.brk (n.Acc.a7,n.a5,n.c8,n.a7,n.d9,([]:List l8),n.Id,n.Acc.i0,n.c9.a0.b9,n.c9.a0.Seq,n.c9.b8.b5,n.c9.b8.b6,n.c9.b8.f0,n.c9.b8.Code,n.i8,n.i6,n.b7.i7,n.b7.a0.b9,n.b7.a0.Seq,n.b7.b8.b5,n.b7.b8.b6,n.b7.b8.f0,n.b7.b8.Code,n.Seq,n.d7,n.a8,n.i4,n.c9.i7)))))))))):Option (l9 (j6×(List l8)×List m9) ((List m8)×(List m4)×(List Bool)×(List Bool)×(List m4)×(List l8)×Int×Int×Int×Int×(List q8)×(List p6)×Int×Int×Bool×(List n8)×Bool×Int×Int×(List q8)×(List p6)×Int×Int×Int×Int×Int×(List m8)×Bool))).bind fun x=>x.go some fun j=>c87 j.1 j.2.1 j.2.2.1 j.2.2.2.1 j.2.2.2.2.1 j.2.2.2.2.2.1 j.2.2.2.2.2.2.1 j.2.2.2.2.2.2.2.1 j.2.2.2.2.2.2.2.2.1 j.2.2.2.2.2.2.2.2.2.1 j.2.2.2.2.2.2.2.2.2.2.1 j.2.2.2.2.2.2.2.2.2.2.2.1 j.2.2.2.2.2.2.2.2.2.2.2.2.1 j.2.2.2.2.2.2.2.2.2.2.2.2.2.1 j.2.2.2.2.2.2.2.2.2.2.2.2.2.2.1 j.2.2.2.2.2.2.2.2.2.2.2.2.2.2.2.1 j.2.2.2.2.2.2.2.2.2.2.2.2.2.2.2.2.1 j.2.2.2.2.2.2.2.2.2.2.2.2.2.2.2.2.2.1 j.2.2.2.2.2.2.2.2.2.2.2.2.2.2.2.2.2.2.1 j.2.2.2.2.2.2.2.2.2.2.2.2.2.2.2.2.2.2.2.1 j.2.2.2.2.2.2.2.2.2.2.2.2.2.2.2.2.2.2.2.2.1 j.2.2.2.2.2.2.2.2.2.2.2.2.2.2.2.2.2.2.2.2.2.1 j.2.2.2.2.2.2.2.2.2.2.2.2.2.2.2.2.2.2.2.2.2.2.1 j.2.2.2.2.2.2.2.2.2.2.2.2.2.2.2.2.2.2.2.2.2.2.2.1 j.2.2.2.2.2.2.2.2.2.2.2.2.2.2.2.2.2.2.2.2.2.2.2.2.1 j.2.2.2.2.2.2.2.2.2.2.2.2.2.2.2.2.2.2.2.2.2.2.2.2.2.1 j.2.2.2.2.2.2.2.2.2.2.2.2.2.2.2.2.2.2.2.2.2.2.2.2.2.2.1 j.2.2.2.2.2.2.2.2.2.2.2.2.2.2.2.2.2.2.2.2.2.2.2.2.2.2.2)
set_option maxRecDepth 20000 in
theorem d9F{n m}:OK b7y [.agg (H0 n),.agg (s8 m)] (b5e n m) :=
 o7 _ fun r h=>n6<|tk 0 B8<|rg<|A6 h (e9w r) fun x1 h hc1=>rg<|j5 1 h (fun h=>rg<|l7 c6k e8L 2 h fun L8 h=>A2 n<|(o8 h hc1 fun hI=>sk [] [2,4,7] [(1,0),(14,0),(14,1),(14,2),(14,3),(14,4),(3,0)] hI)) (fun h=>rg<|j5 1 h (fun h=>rg<|l7 d08 f0V 2 h fun M4 h=>A2 n<|(o8 h hc1 fun hI=>sk [] [2,4,7] [(1,0),(16,0),(16,1),(16,2),(16,3),(16,4),(3,0)] hI)) (fun h=>rg<|j5 1 h (fun h=>rg<|l7 d0m d62 2 h fun L6 h=>A2 n<|(o8 h hc1 fun hI=>sk [] [2,4,7] [(1,0),(18,0),(18,1),(18,2),(18,3),(18,4),(3,0)] hI)) (fun h=>rg<|j5 1 h (fun h=>rg<|l7 d3e e9v 2 h fun b4v h=>A2 n<|(B7 h hc1 fun h=>A2 b4v.1<|fE h)) (fun h=>rg<|j5 1 h (fun h=>rg<|l7 c8U e9r 2 h fun b2d h=>A2 n<|(B7 h hc1 fun h=>A2 b2d.1<|fE h)) (fun h=>rg<|j5 1 h (fun h=>rg<|l7 b1t b4L 4 h fun l6Promise h=>s7 n.Acc.a7<|n6<|l7 b3N d1I 3 h fun J8 h=>s7 l6Promise.1.a7<|J6 n<|(o8 h hc1 fun hI=>B9 l8<|sk [.frz (.tmp 7) (none)] [2,4,7] [(1,0),(39,0),(39,1),(39,2),(39,3),(39,4),(3,0)] hI)) (fun h=>rg<|j5 1 h (fun h=>rg<|l7 c9z e6O 2 h fun L5 h=>A2 n<|(o8 h hc1 fun hI=>sk [] [2,4,7] [(1,0),(26,0),(26,1),(26,2),(26,3),(26,4),(3,0)] hI)) (fun h=>rg<|j5 1 h (fun h=>rg<|l7 a82 f1U 2 h fun S6 h=>t9 h fun e1 h=>t9 h fun e2 h=>t9 h fun e3 h=>t9 h fun e4 h=>t9 h fun e5 h=>A2 n<|(o8 h hc1 fun hI=>om ((.own 0 0 8 0 n.Acc.a7.length:V)=.own 0 0 8 0 S6.2.Acc.a7.length) (by first|(simp;done)|(simp [e1,e2,e3,e4,e5];done))<|om ((.own 0 1 7 0 n.a5.length:V)=.own 0 1 7 0 S6.2.a5.length) (by first|(simp;done)|(simp [e1,e2,e3,e4,e5];done))<|om ((.own 0 2 1 0 n.c8.length:V)=.own 0 2 1 0 S6.2.c8.length) (by first|(simp;done)|(simp [e1,e2,e3,e4,e5];done))<|om ((.own 0 3 1 0 n.a7.length:V)=.own 0 3 1 0 S6.2.a7.length) (by first|(simp;done)|(simp [e1,e2,e3,e4,e5];done))<|om ((.own 0 4 7 0 n.d9.length:V)=.own 0 4 7 0 S6.2.d9.length) (by first|(simp;done)|(simp [e1,e2,e3,e4,e5];done))<|sk [.is (.cell 1 0 2) (.own 0 0 8 0 S6.2.Acc.a7.length),.is (.cell 1 0 3) (.own 0 1 7 0 S6.2.a5.length),.is (.cell 1 0 7) (.own 0 2 1 0 S6.2.c8.length),.is (.cell 1 0 16) (.own 0 3 1 0 S6.2.a7.length),.is (.cell 1 0 26) (.own 0 4 7 0 S6.2.d9.length)] [2,4,7] [(1,0),(0,0),(0,1),(0,2),(0,3),(0,4),(3,0)] hI)) (fun h=>(o8 h hc1 fun hI=>B9 l8<|sk [.frz (.tmp 7) (none)] [2,4,7] [(1,0),(0,0),(0,1),(0,2),(0,3),(0,4),(3,0)] hI)))))))))
def a1H:FS (m5):=⟨110,Tryz.f110,[.val E2 U3],[none,none],[.val E2 U3,.val [some 5] []],fun r=>.agg (T9 r),fun _=>[none,none],Tryz.func110⟩
def d0Q(w:m5):(List m9)->KS:=fun Told1=>⟨a1H.k 3 [false],(bs 2 (.ptr 1 0 0::(bs 1 (.ptr 3 0 0::(bs 23 []))))),[some [C4 57 27 z7 w.a6,m6 62 13 s8 w.d6,m6 65 3 B4 w.d8,.dead],some [.var 30 [.own 0 0 27 0 w.a6.length,.own 0 1 13 0 w.d6.length,.own 0 2 3 0 w.d8.length,.own 2 0 5 0 Told1.length]],some [m6 69 5 z4 Told1],some [.var 30 [.nil,.nil,.nil,.nil]]]⟩
def c9K(w:m5)(Told1:List m9):Option m5 :=
 some (m5.mk w.a6 w.d6 w.d8 Told1)
theorem e65(w)(r):NF a1H r (d0Q w) (fun s=>c9K w s):=fun Told1 h=>PK<|rg<|H5 w.a6 w.d6 w.d8 Told1<|fE h
def e1M(w:m5)(list:List m9):((List m9)×Int)->KS:=fun (Told,i)=>⟨a1H.k 2 [],(bs 1 (j8 5 z4 list::(.ptr 1 0 0::(bs 1 (.ptr 2 0 0::(vi i::(bs 22 []))))))),[some [C4 57 27 z7 w.a6,m6 62 13 s8 w.d6,m6 65 3 B4 w.d8,.dead],some [.var 30 [.own 0 0 27 0 w.a6.length,.own 0 1 13 0 w.d6.length,.own 0 2 3 0 w.d8.length,.own 3 0 5 0 Told.length]],some [.var 30 [.nil,.nil,.nil,.nil]],some [m6 69 5 z4 Told]]⟩
def a3q(list:List m9)(Told:List m9)(i:Int):Option (j9 m5 ((List m9)×Int) (List m9)) :=
 (bif decide (i<(list.length:Int)) then (bif decide ((Told.length:Int)<60) then ((idx list i).bind fun told=>(t0 ((Told.length+1)*40<=140737488355328) (some (j9.nxt (Told++[told],m7 (i+1)))))) else some (j9.brk Told)) else some (j9.brk Told))
theorem d9N(w list):LQ a1H (d0Q w) (e1M w list) (fun s=>a3q list s.1 s.2):=fun lc (Told,i) h=>PK<|rg<|j5 4 h (fun h=>j5 9 h (fun h=>rg<|v5 z4 4 h fun told a47 h=>tk 6 []<|t9 h fun e1 h=>F9 7 21 69 5 40 z4 Told told e1<|E6 told<|rg<|(lc.nx h fun hI=>sk [] [1,2,4,5] [(1,0),(2,0),(21,0)] hI)) (fun h=>(lc.bk h fun hI=>sk [] [2,4] [(1,0),(3,0),(2,0)] hI))) (fun h=>(lc.bk h fun hI=>sk [] [2,4] [(1,0),(3,0),(2,0)] hI))
def a4d(w:m5)(list:List m9):Option m5 :=
 ((p7 (fun s:(List m9)×Int=>a3q list s.1 s.2) (w.Told,0)).bind fun x=>x.go (fun r=>some r) fun s=>c9K w s)
theorem a9a{w list}:OK a1H [.agg (T9 w),j8 5 z4 list] (a4d w list) :=
 o7 _ fun r h=>n6<|lp (d9N w list) h (fun _ h=>a1H.rt h) (e65 w r) fun hI=>sk [] [1,2,4,5] [(1,0),(2,0),(0,3)] hI
def b9b:FS (m5):=⟨105,Tryz.f105,[.val E2 U3],[none,none],[.val E2 U3,.val [none,none,some 4] []],fun r=>.agg (T9 r),fun _=>[none,none],Tryz.func105⟩
def b39(node:j6):List V:=([vi node.Id,vi node.Acc.i0,.own 40 0 8 0 node.Acc.a7.length,.own 40 1 7 0 node.a5.length,vi node.Seq,vi node.d7,vi node.a8,.own 40 2 1 0 node.c8.length]++a50 node++[.own 40 3 1 0 node.a7.length]++a4u node++[.own 40 4 7 0 node.d9.length])
def d22(a2k:j6×(List l8)×List m9):List V:=(a6v a2k.1)
def a9L(w:m5)(e_:r9):Option m5 :=
 (bif decide (e_.A<0) then some w else (bif decide (e_.A>=(w.d6.length:Int)) then some w else ((idx w.d6 e_.A).bind fun msg=>((a8p msg).bind fun G2=>(bif (e_.a9==4) then ((a3u w [G2]).bind fun a3B=>some a3B) else (bif (e_.a9==3) then ((b4l w e_.A).bind fun c37=>some c37) else ((b4l w e_.A).bind fun Y6=>((idx Y6.a6 G2.To).bind fun node=>((b5e node G2).bind fun a2k=>((a3u (m5.mk (Y6.a6.set G2.To.toNat a2k.1) Y6.d6 Y6.d8 Y6.Told) a2k.2.1).bind fun a3l=>((a4d a3l a2k.2.2).bind fun a3j=>some a3j)))))))))))
set_option maxRecDepth 20000 in
theorem c4G{w e_}:OK b9b [.agg (T9 w),.agg (I1 e_)] (a9L w e_) :=
 o7 _ fun r h=>n6<|j5 3 h (fun h=>rg<|A9 w<|fE h) (fun h=>j5 10 h (fun h=>rg<|A9 w<|fE h) (fun h=>rg<|A8 h fun msg hmsg h=>B5 hmsg<|H8 s8 5 hmsg<|l7 b3t c0c 6 h fun G2 h=>n6<|j5 1 h (fun h=>rg<|tk 2 B8<|l7 a1r a6B 3 h fun a3B h=>A9 w<|E6 G2<|A9 a3B<|fE h) (fun h=>rg<|j5 1 h (fun h=>rg<|l7 c2Y d1f 3 h fun c37 h=>A9 w<|A9 c37<|fE h) (fun h=>rg<|l7 c2Y d1f 3 h fun Y6 h=>A9 w<|rg<|A8 h fun node hnode h=>B5 hnode<|ob (b38 (enc:=z7) hnode)<|tl (5,{a:=.drow (z7 node)})<|l7 b7y d9F 7 h fun a2k h=>A2 node<|rg<|B5 hnode<|om (s6.deep false 57 27 Y6.a6.length (((Y6.a6.map z7).set (0+G2.To.toNat) (b39 node)).set (0+G2.To.toNat) (d22 a2k))=C4 57 27 z7 (Y6.a6.set G2.To.toNat a2k.1)) (a77 (W5 (a07 rfl)) (by simp))<|om (H9 (((Y6.a6.map z7).set (0+G2.To.toNat) (b39 node)).set (0+G2.To.toNat) (d22 a2k))) (a73 (W5 (a07 rfl)) a5V)<|om (((Y6.a6.map z7).set (0+G2.To.toNat) (b39 node))[0+G2.To.toNat]?=some (b39 node)) (a1N (a1I hnode))<|A2 a2k.1<|tl (6,{a:=.dsc (b39 node) [none,none,some 8,some 7,none,none,none,some 1,some 8,none,none,none,some 2,some 2,none,none,some 1,none,some 4,none,none,none,some 2,some 2,none,none,some 7] [none,none,some 106,some 55,none,none,none,some 4,none,none,none,none,none,none,none,none,some 4,none,none,none,none,none,none,none,none,none,some 55],e:=some (C4 57 27 z7 (Y6.a6.set G2.To.toNat a2k.1))})<|rg<|l7 a1r a6B 2 h fun a3l h=>om (Y6.a6.length=(Y6.a6.set G2.To.toNat a2k.1).length) (by simp)<|Y1 Y6.d6 Y6.d8 Y6.Told<|l7 a1H a9a 4 h fun a3j h=>A9 a3l<|A9 a3j<|fE h))))
def c8b:FS (Bool):=⟨192,Tryz.f192,[.val [] []],[none],[.val W0 []],fun r=>.b r,fun _=>[none],Tryz.func192⟩
def b5l(v_:m8):Option Bool :=
 (bif (v_.a8==0) then (bif (!v_.g9.i7) then (bif (([v_.g9.a0.b9,v_.g9.a0.Seq]:List Int)==[0,0]) then ((a9T v_.g9.b8 (n5.mk [] [] 0 0)).bind fun a3b=>some a3b) else some false) else some false) else ((a1t v_.a8).bind fun Z0=>(bif Z0 then ((a1a v_.g9).bind fun E5=>some E5) else some false)))
theorem e8Z{v_}:OK c8b [.agg (p8 v_)] (b5l v_) :=
 o7 _ fun r h=>n6<|j5 2 h (fun h=>rg<|j5 4 h (fun h=>j5 11 h (fun h=>l7 a1p c2U 16 h fun a3b h=>fE h) (fun h=>fE h)) (fun h=>fE h)) (fun h=>rg<|l7 a19 a2C 2 h fun Z0 h=>j5 3 h (fun h=>l7 a2o a3E 6 h fun E5 h=>fE h) (fun h=>fE h))
def a26:FS (Bool):=⟨163,Tryz.f163,[.val [] []],[none],[.val [some 8] []],fun r=>.b r,fun _=>[none],Tryz.func163⟩
def c6n:Unit->KS:=fun _=>⟨a26.k 4 [false,false],(bs 19 []),[some []]⟩
def c6c:Option Bool :=
 some true
theorem e3W(r):NF a26 r c6n (fun s=>c6c):=fun _ h=>PK<|rg<|fE h
def f1L(list:List m8):Int->KS:=fun i=>⟨a26.k 3 [false],(j8 8 p8 list::(bs 2 (vi i::(bs 15 [])))),[some []]⟩
def b84(list:List m8)(i:Int):Option (j9 Bool Int Unit) :=
 (bif decide (i<(list.length:Int)) then ((idx list i).bind fun vote=>((b5l vote).bind fun c7b=>(bif (!c7b) then some (j9.ret false) else some (j9.nxt (m7 (i+1)))))) else some (j9.brk ()))
theorem e4P(list):LQ a26 c6n (f1L list) (fun s=>b84 list s):=fun lc i h=>PK<|rg<|j5 3 h (fun h=>rg<|v5 p8 2 h fun vote J5 h=>l7 c8b e8Z 4 h fun c7b h=>j5 5 h (fun h=>rg<|fL lc h) (fun h=>rg<|(lc.nx h fun hI=>sk [] [0,3] [] hI))) (fun h=>(lc.bk h fun hI=>sk [] [] [] hI))
def a5D(list:List m8):Option Bool :=
 (bif decide ((list.length:Int)>40) then some false else ((p7 (fun s:Int=>b84 list s) 0).bind fun x=>x.go (fun r=>some r) fun s=>c6c))
theorem b3J{list}:OK a26 [j8 8 p8 list] (a5D list) :=
 o7 _ fun r h=>n6<|j5 2 h (fun h=>rg<|fE h) (fun h=>rg<|lp (e4P list) h (fun _ h=>a26.rt h) (e3W r) fun hI=>sk [] [0,3] [] hI)
def a8I:FS (Bool):=⟨156,Tryz.f156,[.val [] []],[none],[.val [none,some 8] []],fun r=>.b r,fun _=>[none],Tryz.func156⟩
def d5N:Unit->KS:=fun _=>⟨a8I.k 4 [false,false],(bs 34 []),[some []]⟩
def d5U:Option Bool :=
 some true
theorem d8W(r):NF a8I r d5N (fun s=>d5U):=fun _ h=>PK<|rg<|fE h
def e1k(a:z0):Int->KS:=fun i=>⟨a8I.k 3 [false],(bs 1 (.ptr 1 0 0::(bs 1 (vi i::(bs 30 []))))),[some [],some [.var 46 [vi a.i0,j8 8 p8 a.a7]]]⟩
def c0b(a:z0)(i:Int):Option (j9 Bool Int Unit) :=
 (bif decide (i<(a.a7.length:Int)) then ((idx a.a7 i).bind fun vote=>(bif decide (vote.a8>a.i0) then some (j9.ret false) else some (j9.nxt (m7 (i+1))))) else some (j9.brk ()))
theorem e5O(a):LQ a8I d5N (e1k a) (fun s=>c0b a s):=fun lc i h=>PK<|rg<|j5 4 h (fun h=>rg<|v5 p8 3 h fun vote J5 h=>j5 8 h (fun h=>rg<|fL lc h) (fun h=>rg<|(lc.nx h fun hI=>sk [] [1,3] [(1,0)] hI))) (fun h=>(lc.bk h fun hI=>sk [] [] [] hI))
def b8W(a:z0):Option Bool :=
 (bif decide (a.i0<0) then some false else (bif decide (a.i0>3000) then some false else ((a5D a.a7).bind fun a51=>(bif (!a51) then some false else ((p7 (fun s:Int=>c0b a s) 0).bind fun x=>x.go (fun r=>some r) fun s=>d5U)))))
theorem d8w{a}:OK a8I [.agg (Z3 a)] (b8W a) :=
 o7 _ fun r h=>n6<|j5 3 h (fun h=>rg<|fE h) (fun h=>j5 8 h (fun h=>rg<|fE h) (fun h=>l7 a26 b3J 11 h fun a51 h=>j5 13 h (fun h=>rg<|fE h) (fun h=>rg<|lp (e5O a) h (fun _ h=>a8I.rt h) (d8W r) fun hI=>sk [] [1,3] [(1,0)] hI)))
def a8n:FS (Bool):=⟨157,Tryz.f157,[.val [] []],[none],[.val [some 7] []],fun r=>.b r,fun _=>[none],Tryz.func157⟩
def d6q:Unit->KS:=fun _=>⟨a8n.k 4 [false,false],(bs 19 []),[some []]⟩
def c8H:Option Bool :=
 some true
theorem e07(r):NF a8n r d6q (fun s=>c8H):=fun _ h=>PK<|rg<|fE h
def d9e(list:List m4):Int->KS:=fun i=>⟨a8n.k 3 [false],(j8 7 t5 list::(bs 2 (vi i::(bs 15 [])))),[some []]⟩
def b75(list:List m4)(i:Int):Option (j9 Bool Int Unit) :=
 (bif decide (i<(list.length:Int)) then ((idx list i).bind fun entry=>((a1a entry).bind fun E5=>(bif (!E5) then some (j9.ret false) else some (j9.nxt (m7 (i+1)))))) else some (j9.brk ()))
theorem e4j(list):LQ a8n d6q (d9e list) (fun s=>b75 list s):=fun lc i h=>PK<|rg<|j5 3 h (fun h=>rg<|v5 t5 2 h fun entry G9 h=>l7 a2o a3E 4 h fun E5 h=>j5 5 h (fun h=>rg<|fL lc h) (fun h=>rg<|(lc.nx h fun hI=>sk [] [0,3] [] hI))) (fun h=>(lc.bk h fun hI=>sk [] [] [] hI))
def b5r(list:List m4):Option Bool :=
 (bif decide ((list.length:Int)>40) then some false else ((p7 (fun s:Int=>b75 list s) 0).bind fun x=>x.go (fun r=>some r) fun s=>c8H))
theorem e7u{list}:OK a8n [j8 7 t5 list] (b5r list) :=
 o7 _ fun r h=>n6<|j5 2 h (fun h=>rg<|fE h) (fun h=>rg<|lp (e4j list) h (fun _ h=>a8n.rt h) (e07 r) fun hI=>sk [] [0,3] [] hI)
def a7Q:FS (Bool):=⟨161,Tryz.f161,[.val [] []],[none],[.val K4 []],fun r=>.b r,fun _=>[none],Tryz.func161⟩
def a4P(e_:m4):Option Bool :=
 (bif (!e_.i7) then (bif (([e_.a0.b9,e_.a0.Seq]:List Int)==[0,0]) then ((a9T e_.b8 (n5.mk [] [] 0 0)).bind fun a3b=>some a3b) else some false) else some false)
theorem a9N{e_}:OK a7Q [.agg (t5 e_)] (a4P e_) :=
 o7 _ fun r h=>n6<|j5 3 h (fun h=>j5 9 h (fun h=>l7 a1p c2U 13 h fun a3b h=>fE h) (fun h=>fE h)) (fun h=>fE h)
def b7C:FS (Int):=⟨189,Tryz.f189,[.val [] []],[none],[.val [] []],fun r=>vi r,fun _=>[none],Tryz.func189⟩
def b0X(bal:Int):Option Int :=
 ((a1t bal).bind fun Z0=>(bif (!Z0) then some (-1) else some (f5W bal 3)))
theorem c4s{bal}:OK b7C [vi bal] (b0X bal) :=
 o7 _ fun r h=>n6<|l7 a19 a2C 1 h fun Z0 h=>j5 2 h (fun h=>rg<|fE h) (fun h=>rg<|om (3≠(0:Int)) (by decide)<|fE h)
def c76:FS (Bool):=⟨158,Tryz.f158,[.val [] []],[none],[.val A7 []],fun r=>.b r,fun _=>[none],Tryz.func158⟩
def b4Q(n:j6):Option Bool :=
 (bif (n.d7==0) then (bif (n.a8==0) then (bif ((n.c8.length:Int)==0) then (bif ((n.i4.length:Int)==0) then ((a4P n.c9).bind fun l7None=>(bif l7None then some ((n.a7.length:Int)==0) else some false)) else some false) else some false) else some false) else (bif (n.d7==1) then ((a1t n.a8).bind fun Z0=>(bif Z0 then (bif decide (n.a8<=n.Acc.i0) then ((b0X n.a8).bind fun a6e=>(bif (a6e==n.Id) then (bif ((n.c8.length:Int)==3) then ((idx n.c8 n.Id).bind fun y=>(bif y then ((a5D n.i4).bind fun a51=>(bif a51 then ((a4P n.c9).bind fun c9T=>(bif c9T then some ((n.a7.length:Int)==0) else some false)) else some false)) else some false)) else some false) else some false)) else some false) else some false)) else (bif (n.d7==2) then ((a1t n.a8).bind fun b1P=>(bif (!b1P) then some false else (bif decide (n.a8>n.Acc.i0) then some false else ((b0X n.a8).bind fun c9f=>(bif (c9f != n.Id) then some false else (bif ((n.c8.length:Int) != 0) then some false else ((a5D n.i4).bind fun d3b=>(bif (!d3b) then some false else (bif (n.d7==2) then ((a4P n.c9).bind fun c8d=>(bif c8d then some ((n.a7.length:Int)==0) else some false)) else ((a1a n.c9).bind fun E5=>(bif E5 then (bif ((n.a7.length:Int)==3) then ((idx n.a7 n.Id).bind fun y1=>(bif y1 then some (decide ((n.a5.length:Int)<40)) else some false)) else some false) else some false))))))))))) else (bif (n.d7==3) then ((a1t n.a8).bind fun b3A=>(bif (!b3A) then some false else (bif decide (n.a8>n.Acc.i0) then some false else ((b0X n.a8).bind fun d2F=>(bif (d2F != n.Id) then some false else (bif ((n.c8.length:Int) != 0) then some false else ((a5D n.i4).bind fun c75=>(bif (!c75) then some false else (bif (n.d7==2) then ((a4P n.c9).bind fun d0Z=>(bif d0Z then some ((n.a7.length:Int)==0) else some false)) else ((a1a n.c9).bind fun a3x=>(bif a3x then (bif ((n.a7.length:Int)==3) then ((idx n.a7 n.Id).bind fun y2=>(bif y2 then some (decide ((n.a5.length:Int)<40)) else some false)) else some false) else some false))))))))))) else some false))))
set_option maxRecDepth 20000 in
theorem f0v{n}:OK c76 [.agg (x6 n)] (b4Q n) :=
 o7 _ fun r h=>N0<|j5 1 h (fun h=>rg<|j5 3 h (fun h=>j5 9 h (fun h=>j5 15 h (fun h=>l7 a7Q a9N 18 h fun l7None h=>j5 20 h (fun h=>fE h) (fun h=>fE h)) (fun h=>fE h)) (fun h=>fE h)) (fun h=>fE h)) (fun h=>rg<|j5 1 h (fun h=>rg<|l7 a19 a2C 2 h fun Z0 h=>j5 3 h (fun h=>j5 11 h (fun h=>l7 b7C c4s 14 h fun a6e h=>j5 19 h (fun h=>j5 25 h (fun h=>v5 eB 30 h fun y hy h=>j5 33 h (fun h=>l7 a26 b3J 36 h fun a51 h=>j5 38 h (fun h=>l7 a7Q a9N 41 h fun c9T h=>j5 43 h (fun h=>fE h) (fun h=>fE h)) (fun h=>fE h)) (fun h=>fE h)) (fun h=>fE h)) (fun h=>fE h)) (fun h=>fE h)) (fun h=>fE h)) (fun h=>rg<|j5 1 h (fun h=>rg<|l7 a19 a2C 2 h fun b1P h=>j5 4 h (fun h=>rg<|fE h) (fun h=>j5 12 h (fun h=>rg<|fE h) (fun h=>l7 b7C c4s 15 h fun c9f h=>j5 20 h (fun h=>rg<|fE h) (fun h=>j5 26 h (fun h=>rg<|fE h) (fun h=>l7 a26 b3J 29 h fun d3b h=>j5 31 h (fun h=>rg<|fE h) (fun h=>rg<|j5 2 h (fun h=>rg<|l7 a7Q a9N 2 h fun c8d h=>j5 3 h (fun h=>fE h) (fun h=>fE h)) (fun h=>rg<|l7 a2o a3E 2 h fun E5 h=>j5 3 h (fun h=>j5 9 h (fun h=>v5 eB 14 h fun y1 hy1 h=>j5 17 h (fun h=>fE h) (fun h=>fE h)) (fun h=>fE h)) (fun h=>fE h)))))))) (fun h=>rg<|j5 1 h (fun h=>rg<|l7 a19 a2C 2 h fun b3A h=>j5 4 h (fun h=>rg<|fE h) (fun h=>j5 12 h (fun h=>rg<|fE h) (fun h=>l7 b7C c4s 15 h fun d2F h=>j5 20 h (fun h=>rg<|fE h) (fun h=>j5 26 h (fun h=>rg<|fE h) (fun h=>l7 a26 b3J 29 h fun c75 h=>j5 31 h (fun h=>rg<|fE h) (fun h=>rg<|j5 2 h (fun h=>rg<|l7 a7Q a9N 2 h fun d0Z h=>j5 3 h (fun h=>fE h) (fun h=>fE h)) (fun h=>rg<|l7 a2o a3E 2 h fun a3x h=>j5 3 h (fun h=>j5 9 h (fun h=>v5 eB 14 h fun y2 hy2 h=>j5 17 h (fun h=>fE h) (fun h=>fE h)) (fun h=>fE h)) (fun h=>fE h)))))))) (fun h=>rg<|fE h))))
def a3Z:FS (Bool):=⟨193,Tryz.f193,[.val [] []],[none],[.val [] []],fun r=>.b r,fun _=>[none],Tryz.func193⟩
def a2G(n:Int):Option Bool :=
 (bif decide (n>=0) then some (decide (n<4)) else some false)
theorem a4S{n}:OK a3Z [vi n] (a2G n) :=
 o7 _ fun r h=>n6<|j5 2 h (fun h=>fE h) (fun h=>fE h)
def c86:FS (Bool):=⟨164,Tryz.f164,[.val [] []],[none],[.val [] []],fun r=>.b r,fun _=>[none],Tryz.func164⟩
def b9Q(i:n8):Option Bool :=
 (bif (i.a9==1) then ((a2G i.A).bind fun c9D=>(bif c9D then ((a7u i.B).bind fun b2J=>(bif b2J then some (i.N==0) else some false)) else some false)) else (bif (i.a9==2) then ((a7u i.A).bind fun b3C=>(bif b3C then ((a2G i.B).bind fun d51=>(bif d51 then some (i.N==0) else some false)) else some false)) else (bif (i.a9==3) then ((a2G i.A).bind fun d5S=>(bif d5S then (bif (i.B==0) then ((a5S i.N).bind fun a1b=>some a1b) else some false) else some false)) else (bif (i.a9==4) then ((a2G i.A).bind fun c7a=>(bif c7a then ((a2G i.B).bind fun d0b=>(bif d0b then some (i.N==0) else some false)) else some false)) else (bif (i.a9==5) then ((a2G i.A).bind fun c74=>(bif c74 then ((a2G i.B).bind fun c8m=>(bif c8m then some (i.N==0) else some false)) else some false)) else (bif (i.a9==6) then ((a2G i.A).bind fun c9n=>(bif c9n then ((a2G i.B).bind fun d18=>(bif d18 then (bif decide (i.N>=1) then some (decide (i.N<=10)) else some false) else some false)) else some false)) else (bif (i.a9==7) then (bif (i.A==0) then (bif (i.B==0) then some (i.N==0) else some false) else some false) else some false)))))))
theorem f1J{i}:OK c86 [.agg (A0 i)] (b9Q i) :=
 o7 _ fun r h=>N0<|j5 1 h (fun h=>rg<|l7 a3Z a4S 2 h fun c9D h=>j5 3 h (fun h=>l7 b3m b43 6 h fun b2J h=>j5 8 h (fun h=>fE h) (fun h=>fE h)) (fun h=>fE h)) (fun h=>rg<|j5 1 h (fun h=>rg<|l7 b3m b43 2 h fun b3C h=>j5 3 h (fun h=>l7 a3Z a4S 6 h fun d51 h=>j5 8 h (fun h=>fE h) (fun h=>fE h)) (fun h=>fE h)) (fun h=>rg<|j5 1 h (fun h=>rg<|l7 a3Z a4S 2 h fun d5S h=>j5 3 h (fun h=>j5 8 h (fun h=>l7 a7D a99 11 h fun a1b h=>fE h) (fun h=>fE h)) (fun h=>fE h)) (fun h=>rg<|j5 1 h (fun h=>rg<|l7 a3Z a4S 2 h fun c7a h=>j5 3 h (fun h=>l7 a3Z a4S 6 h fun d0b h=>j5 8 h (fun h=>fE h) (fun h=>fE h)) (fun h=>fE h)) (fun h=>rg<|j5 1 h (fun h=>rg<|l7 a3Z a4S 2 h fun c74 h=>j5 3 h (fun h=>l7 a3Z a4S 6 h fun c8m h=>j5 8 h (fun h=>fE h) (fun h=>fE h)) (fun h=>fE h)) (fun h=>rg<|j5 1 h (fun h=>rg<|l7 a3Z a4S 2 h fun c9n h=>j5 3 h (fun h=>l7 a3Z a4S 6 h fun d18 h=>j5 8 h (fun h=>j5 13 h (fun h=>fE h) (fun h=>fE h)) (fun h=>fE h)) (fun h=>fE h)) (fun h=>rg<|j5 1 h (fun h=>rg<|j5 3 h (fun h=>j5 8 h (fun h=>fE h) (fun h=>fE h)) (fun h=>fE h)) (fun h=>rg<|fE h)))))))
def a4C:FS (Bool):=⟨116,Tryz.f116,[.val [] []],[none],[.val [some 4] []],fun r=>.b r,fun _=>[none],Tryz.func116⟩
def d1N:Unit->KS:=fun _=>⟨a4C.k 4 [false,false],(bs 19 []),[some []]⟩
def d2U:Option Bool :=
 some true
theorem e3h(r):NF a4C r d1N (fun s=>d2U):=fun _ h=>PK<|rg<|fE h
def e4C(list:List n8):Int->KS:=fun i=>⟨a4C.k 3 [false],(j8 4 A0 list::(bs 2 (vi i::(bs 15 [])))),[some []]⟩
def b9h(list:List n8)(i:Int):Option (j9 Bool Int Unit) :=
 (bif decide (i<(list.length:Int)) then ((idx list i).bind fun ins=>((b9Q ins).bind fun d25=>(bif (!d25) then some (j9.ret false) else some (j9.nxt (m7 (i+1)))))) else some (j9.brk ()))
theorem e9I(list):LQ a4C d1N (e4C list) (fun s=>b9h list s):=fun lc i h=>PK<|rg<|j5 3 h (fun h=>rg<|v5 A0 2 h fun ins hins h=>l7 c86 f1J 4 h fun d25 h=>j5 5 h (fun h=>rg<|fL lc h) (fun h=>rg<|(lc.nx h fun hI=>sk [] [0,3] [] hI))) (fun h=>(lc.bk h fun hI=>sk [] [] [] hI))
def b02(list:List n8):Option Bool :=
 (bif decide ((list.length:Int)>10) then some false else ((p7 (fun s:Int=>b9h list s) 0).bind fun x=>x.go (fun r=>some r) fun s=>d2U))
theorem c1w{list}:OK a4C [j8 4 A0 list] (b02 list) :=
 o7 _ fun r h=>n6<|j5 2 h (fun h=>rg<|fE h) (fun h=>rg<|lp (e9I list) h (fun _ h=>a4C.rt h) (e3h r) fun hI=>sk [] [0,3] [] hI)
def d1J:FS (Bool):=⟨159,Tryz.f159,[.val [] []],[none],[.val A7 []],fun r=>.b r,fun _=>[none],Tryz.func159⟩
def b4S(n:j6):Option Bool :=
 (bif (!n.i8) then (bif ((n.i6.length:Int)==0) then ((a4P n.b7).bind fun l7None=>some l7None) else some false) else ((b02 n.i6).bind fun E1=>(bif E1 then ((a1a n.b7).bind fun E5=>(bif E5 then (bif (!n.b7.i7) then some (([n.b7.a0.b9,n.b7.a0.Seq]:List Int)==[n.Id,n.Seq]) else some false) else some false)) else some false)))
theorem e9b{n}:OK d1J [.agg (x6 n)] (b4S n) :=
 o7 _ fun r h=>n6<|j5 2 h (fun h=>rg<|j5 4 h (fun h=>l7 a7Q a9N 7 h fun l7None h=>fE h) (fun h=>fE h)) (fun h=>rg<|l7 a4C c1w 2 h fun E1 h=>j5 3 h (fun h=>l7 a2o a3E 6 h fun E5 h=>j5 8 h (fun h=>j5 14 h (fun h=>fE h) (fun h=>fE h)) (fun h=>fE h)) (fun h=>fE h))
def a2B:FS (Bool):=⟨113,Tryz.f113,[.val [] []],[none],[.val A7 []],fun r=>.b r,fun _=>[none],Tryz.func113⟩
def c9U:Unit->KS:=fun _=>⟨a2B.k 4 [false,false],(bs 72 []),[some []]⟩
def c4m:Option Bool :=
 some true
theorem f1S(r):NF a2B r c9U (fun s=>c4m):=fun _ h=>PK<|rg<|fE h
def f3v(n:j6):Int->KS:=fun i=>⟨a2B.k 3 [false],(bs 1 (.ptr 1 0 0::(bs 1 (vi i::(bs 68 []))))),[some [],some [.var 57 (X6 n)]]⟩
def b6D(n:j6)(i:Int):Option (j9 Bool Int Unit) :=
 (bif decide (i<(n.d9.length:Int)) then ((idx n.d9 i).bind fun entry=>((a1a entry).bind fun E5=>(bif (!E5) then some (j9.ret false) else (bif entry.i7 then some (j9.ret false) else some (j9.nxt (m7 (i+1))))))) else some (j9.brk ()))
theorem e9C(n):LQ a2B c9U (f3v n) (fun s=>b6D n s):=fun lc i h=>PK<|rg<|j5 4 h (fun h=>rg<|v5 t5 3 h fun entry G9 h=>l7 a2o a3E 5 h fun E5 h=>j5 7 h (fun h=>rg<|fL lc h) (fun h=>J3 t5 11 G9<|j5 14 h (fun h=>rg<|fL lc h) (fun h=>rg<|(lc.nx h fun hI=>sk [] [1,3] [(1,0)] hI)))) (fun h=>(lc.bk h fun hI=>sk [] [] [] hI))
def a5A(n:j6):Option Bool :=
 (bif decide (n.Id<0) then some false else (bif decide (n.Id>=3) then some false else ((b8W n.Acc).bind fun P6=>(bif (!P6) then some false else ((b5r n.a5).bind fun d1n=>(bif (!d1n) then some false else (bif decide (n.Seq<0) then some false else (bif decide (n.Seq>1000) then some false else (bif decide ((n.d9.length:Int)>4) then some false else ((b4Q n).bind fun d2M=>(bif (!d2M) then some false else ((b4S n).bind fun c9x=>(bif (!c9x) then some false else ((p7 (fun s:Int=>b6D n s) 0).bind fun x=>x.go (fun r=>some r) fun s=>c4m))))))))))))))
theorem b1g{n}:OK a2B [.agg (x6 n)] (a5A n) :=
 o7 _ fun r h=>n6<|j5 3 h (fun h=>rg<|fE h) (fun h=>j5 8 h (fun h=>rg<|fE h) (fun h=>l7 a8I d8w 11 h fun P6 h=>j5 14 h (fun h=>rg<|fE h) (fun h=>l7 a8n e7u 17 h fun d1n h=>j5 20 h (fun h=>rg<|fE h) (fun h=>j5 25 h (fun h=>rg<|fE h) (fun h=>j5 30 h (fun h=>rg<|fE h) (fun h=>j5 36 h (fun h=>rg<|fE h) (fun h=>l7 c76 f0v 38 h fun d2M h=>j5 41 h (fun h=>rg<|fE h) (fun h=>l7 d1J e9b 43 h fun c9x h=>j5 45 h (fun h=>rg<|fE h) (fun h=>rg<|lp (e9C n) h (fun _ h=>a2B.rt h) (f1S r) fun hI=>sk [] [1,3] [(1,0)] hI)))))))))
def c92:FS (z0):=⟨166,Tryz.f166,[.val [none,some 8] [none,some 106]],[none],[.val [none,some 8] []],fun r=>.agg [vi r.i0,u9 106 8 p8 r.a7],fun _=>[none],Tryz.func166⟩
def c1y(a:z0):Option z0 :=
 ((a76 a.a7).bind fun Y2=>some (z0.mk a.i0 Y2))
theorem e5p{a}:OK c92 [.agg (Z3 a)] (c1y a) :=
 o7 _ fun r h=>n6<|l7 a3M b6y 4 h fun Y2 h=>s7 Y2<|fE h
def a5G:FS (List m4):=⟨167,Tryz.f167,[.val [some 7] [some 55]],[none],[.val [some 7] []],fun r=>u9 55 7 t5 r,fun _=>[none],Tryz.func167⟩
def d5d:(List m4)->KS:=fun out1=>⟨a5G.k 4 [false],(bs 3 (.own 1 0 7 0 out1.length::(bs 17 []))),[some [],some [m6 55 7 t5 out1]]⟩
def d1B(out1:List m4):Option (List m4) :=
 some out1
theorem f1V(r):NF a5G r d5d (fun s=>d1B s):=fun out1 h=>PK<|rg<|s7 out1<|fE h
def e27(list:List m4):((List m4)×Int)->KS:=fun (out,i)=>⟨a5G.k 3 [],(j8 7 t5 list::(bs 2 (.own 1 0 7 0 out.length::(vi i::(bs 16 []))))),[some [],some [m6 55 7 t5 out]]⟩
def b4x(list:List m4)(out:List m4)(i:Int):Option (j9 (List m4) ((List m4)×Int) (List m4)) :=
 (bif decide (i<(list.length:Int)) then ((idx list i).bind fun entry=>((W6 entry).bind fun l5Entry=>(t0 ((out.length+1)*88<=140737488355328) (some (j9.nxt (out++[l5Entry],m7 (i+1))))))) else some (j9.brk out))
theorem e2q(list):LQ a5G d5d (e27 list) (fun s=>b4x list s.1 s.2):=fun lc (out,i) h=>PK<|rg<|j5 3 h (fun h=>rg<|v5 t5 3 h fun entry G9 h=>l7 a0u a01 5 h fun l5Entry h=>tk 6 K4<|t9 h fun e1 h=>F9 7 13 55 7 88 t5 out l5Entry e1<|E6 l5Entry<|rg<|(lc.nx h fun hI=>sk [] [0,3,4] [(13,0)] hI)) (fun h=>(lc.bk h fun hI=>sk [] [3] [(1,0)] hI))
def b1O(list:List m4):Option (List m4) :=
 ((p7 (fun s:(List m4)×Int=>b4x list s.1 s.2) (([]:List m4),0)).bind fun x=>x.go (fun r=>some r) fun s=>d1B s)
theorem d1A{list}:OK a5G [j8 7 t5 list] (b1O list) :=
 o7 _ fun r h=>n6<|tk 0 K4<|rg<|lp (e2q list) h (fun _ h=>a5G.rt h) (f1V r) fun hI=>om ((.own 2 0 7 0 0:V)=.own 2 0 7 0 ([]:List m4).length) (by simp)<|sk [.is (.tmp 3) (.own 2 0 7 0 ([]:List m4).length)] [0,3,4] [(2,0)] hI
def a9P:FS (j6):=⟨118,Tryz.f118,[.val A7 G7],[none],[.val A7 []],fun r=>.agg (H0 r),fun _=>[none],Tryz.func118⟩
def a6a(n:j6):Option j6 :=
 ((c1y n.Acc).bind fun c4H=>((b1O n.a5).bind fun c0M=>(t0 ((([]:List Bool).length+n.c8.length)*1<=140737488355328) (((a76 n.i4).bind fun Y2=>((W6 n.c9).bind fun l5Entry=>(t0 ((([]:List Bool).length+n.a7.length)*1<=140737488355328) ((t0 ((([]:List n8).length+n.i6.length)*32<=140737488355328) (((W6 n.b7).bind fun b4B=>((b1O n.d9).bind fun c34=>some (j6.mk n.Id c4H c0M n.Seq n.d7 n.a8 (([]:List Bool)++n.c8) Y2 l5Entry (([]:List Bool)++n.a7) n.i8 (([]:List n8)++n.i6) b4B c34)))))))))))))
set_option maxRecDepth 20000 in
theorem b2D{n}:OK a9P [.agg (x6 n)] (a6a n) :=
 o7 _ fun r h=>N0<|l7 c92 e5p 2 h fun c4H h=>rg<|l7 a5G d1A 2 h fun c0M h=>rg<|tk 0 []<|t9 h fun e1 h=>oa 19 0 1 ([]:List Bool) n.c8<|oz 4 1 eB ([]:List Bool) n.c8<|B9 Bool<|ob e1<|tl (3,{v:=some (.own 19 0 1 0 (([]:List Bool)++n.c8).length),e:=some (m6 4 1 eB (([]:List Bool)++n.c8))})<|rg<|l7 a3M b6y 2 h fun Y2 h=>rg<|l7 a0u a01 2 h fun l5Entry h=>rg<|tk 0 []<|t9 h fun e2 h=>oa 35 0 1 ([]:List Bool) n.a7<|oz 4 1 eB ([]:List Bool) n.a7<|B9 Bool<|ob e2<|tl (3,{v:=some (.own 35 0 1 0 (([]:List Bool)++n.a7).length),e:=some (m6 4 1 eB (([]:List Bool)++n.a7))})<|rg<|tk 0 []<|t9 h fun e3 h=>oa 41 0 4 ([]:List n8) n.i6<|oz 93 4 A0 ([]:List n8) n.i6<|B9 n8<|ob e3<|tl (3,{v:=some (.own 41 0 4 0 (([]:List n8)++n.i6).length),e:=some (m6 93 4 A0 (([]:List n8)++n.i6))})<|rg<|l7 a0u a01 2 h fun b4B h=>rg<|l7 a5G d1A 2 h fun c34 h=>rg<|H5 c4H.a7 c0M (([]:List Bool)++n.c8) Y2<|Y1 (([]:List Bool)++n.a7) (([]:List n8)++n.i6) c34<|fE h
def a8Q:FS (u6):=⟨204,Tryz.f204,[.val [none,some 2,some 4] [none,some 150,none]],[none],[.val [some 7] []],fun r=>.agg (b2Z r),fun _=>[none],Tryz.func204⟩
def d0r:((List n7)×Int×List s5)->KS:=fun (Boxes1,sAt1,sDones1)=>⟨a8Q.k 5 [false,false],(bs 2 (.ptr 1 0 0::(.ptr 2 0 0::(bs 32 [])))),[some [],some [.var 120 [vi 0,.nil,.nil]],some [.var 120 [vi sAt1,.own 3 0 2 0 Boxes1.length,j8 4 B6 sDones1]],some [m6 150 2 z6 Boxes1]]⟩
def d6s(Boxes1:List n7)(sAt1:Int)(sDones1:List s5):Option u6 :=
 some (u6.mk sAt1 Boxes1 sDones1)
theorem f0s(r):NF a8Q r d0r (fun s=>d6s s.1 s.2.1 s.2.2):=fun (Boxes1,sAt1,sDones1) h=>PK<|rg<|s7 Boxes1<|fE h
def e92(list:List m4):((List n7)×Int×Int×List s5)->KS:=fun (g8,i,sAt,sDones)=>⟨a8Q.k 4 [false],(j8 7 t5 list::(bs 1 (.ptr 1 0 0::(.ptr 2 0 0::(vi i::(bs 31 [])))))),[some [],some [.var 120 [vi 0,.nil,.nil]],some [.var 120 [vi sAt,.own 3 0 2 0 g8.length,j8 4 B6 sDones]],some [m6 150 2 z6 g8]]⟩
def b1c(list:List m4)(g8:List n7)(i:Int)(sAt:Int)(sDones:List s5):Option (j9 u6 ((List n7)×Int×Int×List s5) ((List n7)×Int×List s5)) :=
 (bif decide (i<(list.length:Int)) then ((idx list i).bind fun entry=>((a1a entry).bind fun E5=>(bif (!E5) then some (j9.ret (u6.mk 0 [] [])) else ((b3n (u6.mk sAt g8 sDones) entry).bind fun V5=>some (j9.nxt (V5.1.g8,m7 (i+1),V5.1.At,V5.1.i9)))))) else some (j9.brk (g8,sAt,sDones)))
theorem e01(list):LQ a8Q d0r (e92 list) (fun s=>b1c list s.1 s.2.1 s.2.2.1 s.2.2.2):=fun lc (g8,i,sAt,sDones) h=>PK<|rg<|j5 3 h (fun h=>rg<|v5 t5 2 h fun entry G9 h=>l7 a2o a3E 4 h fun E5 h=>j5 5 h (fun h=>rg<|fL lc h) (fun h=>rg<|J3 t5 3 G9<|l7 a5B d5G 5 h fun V5 h=>s7 g8<|n6<|(lc.nx h fun hI=>sk [] [0,2,3,4] [(1,0),(2,0),(19,0)] hI))) (fun h=>(lc.bk h fun hI=>sk [] [2,3] [(1,0),(2,0),(3,0)] hI))
def b7h(list:List m4):Option u6 :=
 ((b36).bind fun a1o=>(bif decide ((list.length:Int)>40) then some (u6.mk 0 [] []) else ((p7 (fun s:(List n7)×Int×Int×List s5=>b1c list s.1 s.2.1 s.2.2.1 s.2.2.2) (a1o.g8,0,a1o.At,a1o.i9)).bind fun x=>x.go (fun r=>some r) fun s=>d6s s.1 s.2.1 s.2.2)))
theorem e4t{list}:OK a8Q [j8 7 t5 list] (b7h list) :=
 o7 _ fun r h=>n6<|l7 c5A c82 0 h fun a1o h=>rg<|j5 2 h (fun h=>rg<|fE h) (fun h=>rg<|lp (e01 list) h (fun _ h=>a8Q.rt h) (f0s r) fun hI=>sk [] [0,2,3,4] [(1,0),(3,0),(2,0)] hI)
def d4l:FS (u6):=⟨186,Tryz.f186,[.val [none,some 2,some 4] []],[none],[.val A7 []],fun r=>.agg (a8b r),fun _=>[none],Tryz.func186⟩
def b7J(n:j6):Option u6 :=
 ((a5A n).bind fun D2=>(bif (!D2) then some (u6.mk 0 [] []) else ((b7h n.a5).bind fun a3I=>some a3I)))
theorem e9p{n}:OK d4l [.agg (x6 n)] (b7J n) :=
 o7 _ fun r h=>n6<|l7 a2B b1g 1 h fun D2 h=>j5 2 h (fun h=>rg<|fE h) (fun h=>rg<|l7 a8Q e4t 2 h fun a3I h=>s7 a3I.g8<|fE h)
def b8Q:FS (Int×n5):=⟨210,Tryz.f210,[.val [] [],.val O2 om4],[none,none,none],[.val [some 2] [],.val O2 om4,.val [] []],fun r=>.tup [vi r.1,.agg (a6J r.2)],fun _=>[none,none,none],Tryz.func210⟩
def e7h(list:List n7)(r_:n5)(box:Int):(List q8)->KS:=fun b5=>⟨b8Q.k 5 [false,true],(j8 2 z6 list::(bs 1 (vi box::(bs 1 (.ptr 1 0 0::(bs 2 (.ptr 3 0 0::(bs 37 [])))))))),[some [.dead,m6 166 2 w8 r_.b6],some [.var 53 [.own 2 0 2 0 b5.length,.own 0 1 2 0 r_.b6.length,vi r_.f0,vi r_.Code]],some [m6 164 2 v6 b5],some [.var 53 [.nil,.nil,vi 0,vi 0]]]⟩
def b3p(list:List n7)(r_:n5)(box:Int)(b5:List q8):Option (Int×n5) :=
 ((idx list box).bind fun U6=>some (U6.f0,(n5.mk b5 r_.b6 r_.f0 r_.Code)))
theorem e2t(list r_ box)(r):NF b8Q r (e7h list r_ box) (fun s=>b3p list r_ box s):=fun b5 h=>PK<|rg<|v5 z6 2 h fun U6 a7T h=>C7 b5 r_.b6<|fE h
def b3s(list:List n7)(r_:n5)(box:Int):Option (Int×n5) :=
 ((a3p r_.b6 box).bind fun a2v=>(bif decide (a2v>=0) then ((idx r_.b6 a2v).bind fun put=>some (put.f0,r_)) else ((((b4a r_.b5 box).bind fun b3i=>(bif (!b3i) then ((idx list box).bind fun b94=>(t0 ((r_.b5.length+1)*16<=140737488355328) (some (l9.brk (r_.b5++[(q8.mk box b94.j4)]))))) else some (l9.brk r_.b5))):Option (l9 (Int×n5) (List q8))).bind fun x=>x.go some fun j=>b3p list r_ box j)))
theorem e5J{list r_ box}:OK b8Q [j8 2 z6 list,.agg (a6J r_),vi box] (b3s list r_ box) :=
 o7 _ fun r h=>n6<|T5 a5m c3W 3 2 h fun a2v h=>s7 r_.b6<|rg<|j5 1 h (fun h=>rg<|A8 h fun put hput h=>B5 hput<|H8 w8 5 hput<|olR r_<|fE h) (fun h=>A6 h (e2t list r_ box r) fun x1 h hc1=>rg<|T5 a5I c8E 3 2 h fun b3i h=>s7 r_.b5<|j5 4 h (fun h=>rg<|v5 z6 5 h fun b94 f5l h=>tk 9 []<|t9 h fun e1 h=>F9 10 26 164 2 16 v6 r_.b5 (q8.mk box b94.j4) e1<|E6 (q8.mk box b94.j4)<|(o8 h hc1 fun hI=>sk [] [0,2,4,7] [(1,0),(26,0),(3,0)] hI)) (fun h=>(o8 h hc1 fun hI=>sk [] [0,2,4,7] [(1,0),(0,0),(3,0)] hI)))
def c8c:FS (n5):=⟨211,Tryz.f211,[.val O2 om4],[none,none,none],[.val O2 om4,.val [] [],.val [] []],fun r=>.agg (a6J r),fun _=>[none,none,none],Tryz.func211⟩
def b3w(r_:n5)(box:Int)(val:Int):Option n5 :=
 ((a3p r_.b6 box).bind fun a2v=>(bif decide (a2v>=0) then ((idx r_.b6 a2v).bind fun put=>some (n5.mk r_.b5 (r_.b6.set a2v.toNat (p6.mk put.i5 val)) r_.f0 r_.Code)) else (t0 ((r_.b6.length+1)*16<=140737488355328) (some (n5.mk r_.b5 (r_.b6++[(p6.mk box val)]) r_.f0 r_.Code)))))
theorem e8y{r_ box val}:OK c8c [.agg (a6J r_),vi box,vi val] (b3w r_ box val) :=
 o7 _ fun r h=>n6<|T5 a5m c3W 3 2 h fun a2v h=>s7 r_.b6<|rg<|j5 1 h (fun h=>rg<|A8 h fun put hput h=>B5 hput<|Q3 166 2 w8 6 [] (p6.mk put.i5 val) hput<|rg<|s7 r_.b5<|om (r_.b6.length=(r_.b6.set a2v.toNat (p6.mk put.i5 val)).length) (by simp)<|fE h) (fun h=>rg<|tk 5 []<|t9 h fun e1 h=>F9 6 16 166 2 16 w8 r_.b6 (p6.mk box val) e1<|E6 (p6.mk box val)<|rg<|C7 r_.b5 (r_.b6++[(p6.mk box val)])<|fE h)
def b0x:FS (n5×List Int):=⟨203,Tryz.f203,[.val O2 om4],[none,none,some (2,.row),none],[.val [some 2] [],.val O2 om4,.row,.val [] []],fun r=>.agg (a6J r.1),fun r=>[none,none,some (u9 3 1 eI r.2),none],Tryz.func203⟩
def e9H(i:n8):((List Int)×(List q8)×(List p6)×Int×Int)->KS:=fun (regs1,b5,b6,rVal,rCode)=>⟨b0x.k 6 [true],(bs 2 (.own 0 2 1 0 regs1.length::(bs 2 (.ptr 1 0 0::(bs 1 (.ptr 4 0 0::(.ptr 5 0 0::(bs 90 [])))))))),[some [.dead,.dead,m6 3 1 eI regs1],some [.var 53 [.own 2 0 2 0 b5.length,.own 3 0 2 0 b6.length,vi rVal,vi rCode]],some [m6 164 2 v6 b5],some [m6 166 2 w8 b6],some [.var 93 [vi i.a9,vi i.A,vi i.B,vi i.N]],some [.var 53 [.nil,.nil,vi 0,vi 0]]]⟩
def e2A(regs1:List Int)(b5:List q8)(b6:List p6)(rVal:Int):Int->KS:=fun rCode1=>⟨b0x.k 8 [true,true],(bs 5 (.ptr 1 0 0::(bs 2 (.ptr 4 0 0::(bs 90 []))))),[some [.dead,.dead,m6 3 1 eI regs1],some [.var 53 [.own 2 0 2 0 b5.length,.own 3 0 2 0 b6.length,vi rVal,vi rCode1]],some [m6 164 2 v6 b5],some [m6 166 2 w8 b6],some [.var 53 [.nil,.nil,vi 0,vi 0]]]⟩
def a7H(regs1:List Int)(b5:List q8)(b6:List p6)(rVal:Int)(rCode1:Int):Option (n5×List Int) :=
 some ((n5.mk b5 b6 rVal rCode1),regs1)
theorem f0E(regs1 b5 b6 rVal)(r):NF b0x r (e2A regs1 b5 b6 rVal) (fun s=>a7H regs1 b5 b6 rVal s):=fun rCode1 h=>PK<|rg<|Y1 b5 b6 regs1<|fE h
def a4c(i:n8)(regs1:List Int)(b5:List q8)(b6:List p6)(rVal:Int)(rCode:Int):Option (n5×List Int) :=
 (((bif (i.a9 != 2) then ((idx regs1 i.A).bind fun y=>((a5S y).bind fun a1b=>(bif (!a1b) then some (l9.brk 2) else some (l9.brk rCode)))) else some (l9.brk rCode)):Option (l9 (n5×List Int) Int)).bind fun x=>x.go some fun j=>a7H regs1 b5 b6 rVal j)
theorem f1v(i)(r):NF b0x r (e9H i) (fun s=>a4c i s.1 s.2.1 s.2.2.1 s.2.2.2.1 s.2.2.2.2):=fun (regs1,b5,b6,rVal,rCode) h=>PK<|A6 h (f0E regs1 b5 b6 rVal r) fun x1 h hc1=>rg<|j5 3 h (fun h=>A8 h fun y hy h=>B5 hy<|H8 eI 8 hy<|l7 a7D a99 9 h fun a1b h=>j5 11 h (fun h=>rg<|(o8 h hc1 fun hI=>sk [] [5,8] [(1,0),(2,0),(3,0),(5,0)] hI)) (fun h=>(o8 h hc1 fun hI=>sk [] [5,8] [(1,0),(2,0),(3,0),(5,0)] hI))) (fun h=>(o8 h hc1 fun hI=>sk [] [5,8] [(1,0),(2,0),(3,0),(5,0)] hI))
def a6z(list:List n7)(r_:n5)(regs:List Int)(i:n8):Option (n5×List Int) :=
 (((bif (i.a9==1) then ((b3s list r_ i.B).bind fun a5c=>((idx regs i.A).bind fun y1=>some (l9.brk (regs.set i.A.toNat a5c.1,a5c.2.b5,a5c.2.b6,a5c.2.f0,a5c.2.Code)))) else (bif (i.a9==2) then ((idx regs i.B).bind fun y2=>((b3w r_ i.A y2).bind fun b3R=>some (l9.brk (regs,b3R.b5,b3R.b6,b3R.f0,b3R.Code)))) else (bif (i.a9==3) then ((idx regs i.A).bind fun y3=>some (l9.brk (regs.set i.A.toNat i.N,r_.b5,r_.b6,r_.f0,r_.Code))) else (bif (i.a9==4) then ((idx regs i.A).bind fun y4=>((idx regs i.B).bind fun y5=>some (l9.brk (regs.set i.A.toNat (m7 (y4+y5)),r_.b5,r_.b6,r_.f0,r_.Code)))) else (bif (i.a9==5) then ((idx regs i.A).bind fun y6=>((idx regs i.B).bind fun y7=>some (l9.brk (regs.set i.A.toNat (m7 (y6-y7)),r_.b5,r_.b6,r_.f0,r_.Code)))) else (bif (i.a9==7) then some (l9.brk (regs,r_.b5,r_.b6,r_.f0,1)) else some (l9.brk (regs,r_.b5,r_.b6,r_.f0,r_.Code)))))))):Option (l9 (n5×List Int) ((List Int)×(List q8)×(List p6)×Int×Int))).bind fun x=>x.go some fun j=>a4c i j.1 j.2.1 j.2.2.1 j.2.2.2.1 j.2.2.2.2)
set_option maxRecDepth 20000 in
theorem e0V{list r_ regs i}:OK b0x [j8 2 z6 list,.agg (a6J r_),u9 3 1 eI regs,.agg (A0 i)] (a6z list r_ regs i) :=
 o7 _ fun r h=>n6<|A6 h (f1v i r) fun x1 h hc1=>rg<|j5 1 h (fun h=>rg<|l7 b8Q e5J 4 h fun a5c h=>olR r_<|rg<|A8 h fun y1 hy1 h=>B5 hy1<|Q3 3 1 eI 5 [] a5c.1 hy1<|rg<|(o8 h hc1 fun hI=>om ((.own 0 2 1 0 regs.length:V)=.own 0 2 1 0 (regs.set i.A.toNat a5c.1).length) (by simp)<|sk [.is (.tmp 2) (.own 0 2 1 0 (regs.set i.A.toNat a5c.1).length)] [2,5,7,8] [(1,0),(12,0),(12,1),(2,0),(3,0)] hI)) (fun h=>rg<|j5 1 h (fun h=>rg<|A8 h fun y2 hy2 h=>B5 hy2<|H8 eI 7 hy2<|l7 c8c e8y 8 h fun b3R h=>olR r_<|(o8 h hc1 fun hI=>sk [] [2,5,7,8] [(1,0),(18,0),(18,1),(2,0),(3,0)] hI)) (fun h=>rg<|j5 1 h (fun h=>rg<|A8 h fun y3 hy3 h=>B5 hy3<|Q3 3 1 eI 6 [] i.N hy3<|(o8 h hc1 fun hI=>om ((.own 0 2 1 0 regs.length:V)=.own 0 2 1 0 (regs.set i.A.toNat i.N).length) (by simp)<|sk [.is (.tmp 2) (.own 0 2 1 0 (regs.set i.A.toNat i.N).length)] [2,5,7,8] [(1,0),(0,0),(0,1),(2,0),(3,0)] hI)) (fun h=>rg<|j5 1 h (fun h=>rg<|A8 h fun y4 hy4 h=>B5 hy4<|H8 eI 7 hy4<|A8 h fun y5 hy5 h=>B5 hy5<|H8 eI 12 hy5<|B5 hy4<|Q3 3 1 eI 15 [] (m7 (y4+y5)) hy4<|(o8 h hc1 fun hI=>om ((.own 0 2 1 0 regs.length:V)=.own 0 2 1 0 (regs.set i.A.toNat (m7 (y4+y5))).length) (by simp)<|sk [.is (.tmp 2) (.own 0 2 1 0 (regs.set i.A.toNat (m7 (y4+y5))).length)] [2,5,7,8] [(1,0),(0,0),(0,1),(2,0),(3,0)] hI)) (fun h=>rg<|j5 1 h (fun h=>rg<|A8 h fun y6 hy6 h=>B5 hy6<|H8 eI 7 hy6<|A8 h fun y7 hy7 h=>B5 hy7<|H8 eI 12 hy7<|B5 hy6<|Q3 3 1 eI 15 [] (m7 (y6-y7)) hy6<|(o8 h hc1 fun hI=>om ((.own 0 2 1 0 regs.length:V)=.own 0 2 1 0 (regs.set i.A.toNat (m7 (y6-y7))).length) (by simp)<|sk [.is (.tmp 2) (.own 0 2 1 0 (regs.set i.A.toNat (m7 (y6-y7))).length)] [2,5,7,8] [(1,0),(0,0),(0,1),(2,0),(3,0)] hI)) (fun h=>rg<|j5 1 h (fun h=>rg<|(o8 h hc1 fun hI=>sk [] [2,5,7,8] [(1,0),(0,0),(0,1),(2,0),(3,0)] hI)) (fun h=>(o8 h hc1 fun hI=>sk [] [2,5,7,8] [(1,0),(0,0),(0,1),(2,0),(3,0)] hI)))))))
def a4G:FS (n5):=⟨185,Tryz.f185,[.val O2 om4],[none,none],[.val [some 2] [],.val [some 4] []],fun r=>.agg (a6J r),fun _=>[none,none],Tryz.func185⟩
def c3L:((List q8)×(List p6)×(List Int)×Int×Int)->KS:=fun (Reads1,Puts1,regs1,rVal1,rCode1)=>⟨a4G.k 6 [false,false],(bs 4 (.ptr 1 0 0::(.ptr 2 0 0::(.own 5 0 1 0 regs1.length::(bs 61 []))))),[some [],some [.var 53 [.nil,.nil,vi 0,vi 0]],some [.var 53 [.own 3 0 2 0 Reads1.length,.own 4 0 2 0 Puts1.length,vi rVal1,vi rCode1]],some [m6 164 2 v6 Reads1],some [m6 166 2 w8 Puts1],some [m6 3 1 eI regs1]]⟩
def a57(Reads1:List q8)(Puts1:List p6)(regs1:List Int)(rVal1:Int)(rCode1:Int):Option n5 :=
 (bif (rCode1 != 0) then some (n5.mk Reads1 [] rVal1 rCode1) else ((idx regs1 0).bind fun y=>some (n5.mk Reads1 Puts1 y rCode1)))
theorem e7J(r):NF a4G r c3L (fun s=>a57 s.1 s.2.1 s.2.2.1 s.2.2.2.1 s.2.2.2.2):=fun (Reads1,Puts1,regs1,rVal1,rCode1) h=>PK<|rg<|j5 2 h (fun h=>n6<|s7 Reads1<|fE h) (fun h=>rg<|A8 h fun y hy h=>B5 hy<|H8 eI 2 hy<|rg<|C7 Reads1 Puts1<|fE h)
def c50(list:List n7)(prog:List n8):((List Int)×(List q8)×(List p6)×Int×Int×Int)->KS:=fun (regs,b5,b6,k,rVal,rCode)=>⟨a4G.k 5 [false],(j8 2 z6 list::(j8 4 A0 prog::(bs 2 (.ptr 1 0 0::(.ptr 2 0 0::(.own 3 0 1 0 regs.length::(vi k::(bs 60 [])))))))),[some [],some [.var 53 [.nil,.nil,vi 0,vi 0]],some [.var 53 [.own 4 0 2 0 b5.length,.own 5 0 2 0 b6.length,vi rVal,vi rCode]],some [m6 3 1 eI regs],some [m6 164 2 v6 b5],some [m6 166 2 w8 b6]]⟩
def e1X(list:List n7)(prog:List n8)(regs:List Int)(b5:List q8)(b6:List p6)(rVal:Int)(rCode:Int):Int->KS:=fun k1=>⟨a4G.k 10 [false,true,true,true],(j8 2 z6 list::(j8 4 A0 prog::(bs 2 (.ptr 1 0 0::(.ptr 2 0 0::(.own 5 0 1 0 regs.length::(vi k1::(bs 60 [])))))))),[some [],some [.var 53 [.nil,.nil,vi 0,vi 0]],some [.var 53 [.own 3 0 2 0 b5.length,.own 4 0 2 0 b6.length,vi rVal,vi rCode]],some [m6 164 2 v6 b5],some [m6 166 2 w8 b6],some [m6 3 1 eI regs]]⟩
def b8r(regs:List Int)(b5:List q8)(b6:List p6)(rVal:Int)(rCode:Int)(k1:Int):Option (j9 n5 ((List Int)×(List q8)×(List p6)×Int×Int×Int) ((List q8)×(List p6)×(List Int)×Int×Int)) :=
 some (j9.nxt (regs,b5,b6,m7 (k1+1),rVal,rCode))
theorem e6L(list prog regs b5 b6 rVal rCode)(lc:F6 a4G c3L (c50 list prog)):NL lc (e1X list prog regs b5 b6 rVal rCode) (fun s=>b8r regs b5 b6 rVal rCode s):=fun k1 h=>PK<|rg<|(lc.nx h fun hI=>sk [] [0,1,4,5,6,7] [(1,0),(2,0),(5,0),(3,0),(4,0)] hI)
def a0Z(list:List n7)(prog:List n8)(regs:List Int)(b5:List q8)(b6:List p6)(k:Int)(rVal:Int)(rCode:Int):Option (j9 n5 ((List Int)×(List q8)×(List p6)×Int×Int×Int) ((List q8)×(List p6)×(List Int)×Int×Int)) :=
 (bif decide (k<(prog.length:Int)) then (bif (rCode==0) then ((idx prog k).bind fun ins=>(bif (ins.a9==6) then ((((idx regs ins.A).bind fun y1=>((idx regs ins.B).bind fun y2=>(bif decide (y1<y2) then some (l9.brk (m7 (k+ins.N))) else some (l9.brk k)))):Option (l9 (j9 n5 ((List Int)×(List q8)×(List p6)×Int×Int×Int) ((List q8)×(List p6)×(List Int)×Int×Int)) Int)).bind fun x=>x.go some fun j=>b8r regs b5 b6 rVal rCode j) else ((a6z list (n5.mk b5 b6 rVal rCode) regs ins).bind fun a4Q=>(t0 (regs.length=a4Q.2.length) (some (j9.nxt (a4Q.2,a4Q.1.b5,a4Q.1.b6,m7 (k+1),a4Q.1.f0,a4Q.1.Code))))))) else some (j9.brk (b5,b6,regs,rVal,rCode))) else some (j9.brk (b5,b6,regs,rVal,rCode)))
theorem e4F(list prog):LQ a4G c3L (c50 list prog) (fun s=>a0Z list prog s.1 s.2.1 s.2.2.1 s.2.2.2.1 s.2.2.2.2.1 s.2.2.2.2.2):=fun lc (regs,b5,b6,k,rVal,rCode) h=>PK<|rg<|j5 4 h (fun h=>j5 8 h (fun h=>rg<|v5 A0 2 h fun ins hins h=>rg<|j5 2 h (fun h=>A6 h (e6L list prog regs b5 b6 rVal rCode lc) fun x2 h hc2=>rg<|A8 h fun y1 hy1 h=>B5 hy1<|H8 eI 4 hy1<|A8 h fun y2 hy2 h=>B5 hy2<|H8 eI 9 hy2<|j5 10 h (fun h=>rg<|(o8 h hc2 fun hI=>sk [] [0,1,4,5,6,7] [(1,0),(2,0),(4,0),(5,0),(3,0)] hI)) (fun h=>(o8 h hc2 fun hI=>sk [] [0,1,4,5,6,7] [(1,0),(2,0),(4,0),(5,0),(3,0)] hI))) (fun h=>rg<|l7 b0x e0V 4 h fun a4Q h=>t9 h fun e2 h=>Y1 b5 b6 regs<|rg<|(lc.nx h fun hI=>om ((.own 3 0 1 0 regs.length:V)=.own 3 0 1 0 a4Q.2.length) (by first|(simp;done)|(simp [e2];done))<|sk [.is (.tmp 6) (.own 3 0 1 0 a4Q.2.length)] [0,1,4,5,6,7] [(1,0),(2,0),(3,0),(28,0),(28,1)] hI))) (fun h=>(lc.bk h fun hI=>sk [] [4,5,6] [(1,0),(2,0),(4,0),(5,0),(3,0)] hI))) (fun h=>(lc.bk h fun hI=>sk [] [4,5,6] [(1,0),(2,0),(4,0),(5,0),(3,0)] hI))
def b06(list:List n7)(prog:List n8):Option n5 :=
 ((b3D list).bind fun V6=>(bif (!V6) then some (n5.mk [] [] 0 3) else ((b02 prog).bind fun E1=>(bif (!E1) then some (n5.mk [] [] 0 3) else (t0 (0<=(4:Int)/\(4:Int)*8<=140737488355328) (((p7 (fun s:(List Int)×(List q8)×(List p6)×Int×Int×Int=>a0Z list prog s.1 s.2.1 s.2.2.1 s.2.2.2.1 s.2.2.2.2.1 s.2.2.2.2.2) (f5u (4:Int).toNat (0:Int),[],[],0,0,0)).bind fun x=>x.go (fun r=>some r) fun s=>a57 s.1 s.2.1 s.2.2.1 s.2.2.2.1 s.2.2.2.2)))))))
theorem e2V{list prog}:OK a4G [j8 2 z6 list,j8 4 A0 prog] (b06 list prog) :=
 o7 _ fun r h=>n6<|l7 a6r d3V 1 h fun V6 h=>j5 3 h (fun h=>rg<|fE h) (fun h=>l7 a4C c1w 5 h fun E1 h=>j5 7 h (fun h=>rg<|fE h) (fun h=>n6<|t9 h fun e1 h=>R8 0 13 3 1 8 eI (0:Int) ti3 (.none) e1 (by decide) (by rfl)<|rg<|lp (e4F list prog) h (fun _ h=>a4G.rt h) (e7J r) fun hI=>sk [.own (.cell 11 0 0) 164 2,.own (.cell 11 0 1) 166 2] [0,1,4,5,6,7] [(1,0),(11,0),(13,0),(16,0),(17,0)] hI))
def c6l:FS (j6×(List l8)×List m9):=⟨149,Tryz.f149,[.val A7 G7,.val [some 13] [],.val [some 5] []],[none,none],[.val A7 G7,.val [some 4] []],fun r=>.tup [.agg (H0 r.1),j8 13 s8 r.2.1,j8 5 z4 r.2.2],fun _=>[none,none],Tryz.func149⟩
def b6o(n:j6)(prog:List n8):Option (j6×(List l8)×List m9) :=
 ((a5A n).bind fun D2=>(bif (!D2) then some ((j6.mk 0 (z0.mk 0 []) [] 0 0 0 [] [] (m4.mk false (n9.mk 0 0) (n5.mk [] [] 0 0)) [] false [] (m4.mk false (n9.mk 0 0) (n5.mk [] [] 0 0)) []),([]:List l8),([]:List m9)) else ((a6a n).bind fun l8Copy=>((b7J n).bind fun b1D=>((b06 b1D.g8 prog).bind fun C1=>(bif n.i8 then some (l8Copy,([]:List l8),([]:List m9)) else (bif (n.Seq==1000) then some (l8Copy,([]:List l8),([]:List m9)) else (bif (C1.Code==3) then some (l8Copy,([]:List l8),([]:List m9)) else (t0 ((([]:List n8).length+prog.length)*32<=140737488355328) ((bif (l8Copy.d7==2) then ((a60 (j6.mk l8Copy.Id l8Copy.Acc l8Copy.a5 (m7 (l8Copy.Seq+1)) l8Copy.d7 l8Copy.a8 l8Copy.c8 l8Copy.i4 l8Copy.c9 l8Copy.a7 true (([]:List n8)++prog) (m4.mk false (n9.mk l8Copy.Id (m7 (l8Copy.Seq+1))) C1) l8Copy.d9)).bind fun N6=>some (N6.1,N6.2,([]:List m9))) else (bif (l8Copy.d7==0) then ((a2Z l8Copy.Id (l8.mk 7 0 0 0 0 (m4.mk false (n9.mk l8Copy.Id (m7 (l8Copy.Seq+1))) C1) [])).bind fun J7=>some ((j6.mk l8Copy.Id l8Copy.Acc l8Copy.a5 (m7 (l8Copy.Seq+1)) l8Copy.d7 l8Copy.a8 l8Copy.c8 l8Copy.i4 l8Copy.c9 l8Copy.a7 true (([]:List n8)++prog) (m4.mk false (n9.mk l8Copy.Id (m7 (l8Copy.Seq+1))) C1) l8Copy.d9),J7,([]:List m9))) else some ((j6.mk l8Copy.Id l8Copy.Acc l8Copy.a5 (m7 (l8Copy.Seq+1)) l8Copy.d7 l8Copy.a8 l8Copy.c8 l8Copy.i4 l8Copy.c9 l8Copy.a7 true (([]:List n8)++prog) (m4.mk false (n9.mk l8Copy.Id (m7 (l8Copy.Seq+1))) C1) l8Copy.d9),([]:List l8),([]:List m9))))))))))))))
set_option maxRecDepth 20000 in
theorem d9p{n prog}:OK c6l [.agg (H0 n),j8 4 A0 prog] (b6o n prog) :=
 o7 _ fun r h=>n6<|T5 a2B b1g 1 1 h fun D2 h=>A2 n<|j5 2 h (fun h=>rg<|tk 1 B8<|tk 2 []<|B9 l8<|B9 m9<|fE h) (fun h=>rg<|l7 a9P b2D 1 h fun l8Copy h=>A2 n<|rg<|l7 d4l e9p 1 h fun b1D h=>A2 n<|l7 a4G e2V 4 h fun C1 h=>rg<|j5 2 h (fun h=>rg<|tk 1 B8<|tk 2 []<|A2 l8Copy<|B9 l8<|B9 m9<|fE h) (fun h=>j5 7 h (fun h=>rg<|tk 1 B8<|tk 2 []<|A2 l8Copy<|B9 l8<|B9 m9<|fE h) (fun h=>j5 11 h (fun h=>rg<|tk 1 B8<|tk 2 []<|A2 l8Copy<|B9 l8<|B9 m9<|fE h) (fun h=>N0<|tk 0 []<|t9 h fun e1 h=>oa 40 0 4 ([]:List n8) prog<|oz 93 4 A0 ([]:List n8) prog<|B9 n8<|ob e1<|tl (2,{v:=some (.own 40 0 4 0 (([]:List n8)++prog).length),e:=some (m6 93 4 A0 (([]:List n8)++prog))})<|n6<|j5 2 h (fun h=>rg<|l7 b0o b3S 1 h fun N6 h=>s7 l8Copy.Acc.a7<|H5 l8Copy.a5 l8Copy.c8 l8Copy.a7 (([]:List n8)++prog)<|olR C1<|s7 l8Copy.d9<|rg<|tk 2 []<|A2 N6.1<|B9 m9<|fE h) (fun h=>rg<|j5 2 h (fun h=>rg<|l7 a0A a5U 6 h fun J7 h=>olR C1<|tk 7 []<|s7 l8Copy.Acc.a7<|H5 l8Copy.a5 l8Copy.c8 l8Copy.a7 (([]:List n8)++prog)<|olR C1<|C7 l8Copy.d9 J7<|B9 m9<|fE h) (fun h=>rg<|tk 1 B8<|tk 2 []<|s7 l8Copy.Acc.a7<|H5 l8Copy.a5 l8Copy.c8 l8Copy.a7 (([]:List n8)++prog)<|olR C1<|s7 l8Copy.d9<|B9 l8<|B9 m9<|fE h))))))
def c99:FS (m5):=⟨106,Tryz.f106,[.val E2 U3],[none,none,none],[.val E2 U3,.val [] [],.val [some 4] []],fun r=>.agg (T9 r),fun _=>[none,none,none],Tryz.func106⟩
def a1D(node:j6):List V:=([vi node.Id,vi node.Acc.i0,.own 11 0 8 0 node.Acc.a7.length,.own 11 1 7 0 node.a5.length,vi node.Seq,vi node.d7,vi node.a8,.own 11 2 1 0 node.c8.length]++a50 node++[.own 11 3 1 0 node.a7.length]++a4u node++[.own 11 4 7 0 node.d9.length])
def b6t(I3:j6×(List l8)×List m9):List V:=(a6v I3.1)
def b7m(w:m5)(i:Int)(prog:List n8):Option m5 :=
 (bif decide ((w.d8.length:Int)>=60) then some w else ((idx w.a6 i).bind fun node=>((b6o node prog).bind fun I3=>(bif decide (I3.1.Seq>node.Seq) then (t0 ((([]:List n8).length+prog.length)*32<=140737488355328) ((t0 ((w.d8.length+1)*40<=140737488355328) (((a3u (m5.mk (w.a6.set i.toNat I3.1) w.d6 (w.d8++[(x7.mk I3.1.b7.a0 (([]:List n8)++prog))]) w.Told) I3.2.1).bind fun a3B=>((a4d a3B I3.2.2).bind fun a3j=>some a3j)))))) else ((a3u (m5.mk (w.a6.set i.toNat I3.1) w.d6 w.d8 w.Told) I3.2.1).bind fun a3l=>((a4d a3l I3.2.2).bind fun a8F=>some a8F))))))
set_option maxRecDepth 20000 in
theorem d9y{w i prog}:OK c99 [.agg (T9 w),vi i,j8 4 A0 prog] (b7m w i prog) :=
 o7 _ fun r h=>n6<|j5 3 h (fun h=>rg<|A9 w<|fE h) (fun h=>rg<|A8 h fun node hnode h=>B5 hnode<|ob (b38 (enc:=z7) hnode)<|tl (4,{a:=.drow (z7 node)})<|l7 c6l d9p 6 h fun I3 h=>A2 node<|rg<|B5 hnode<|om (((w.a6.map z7).set (0+i.toNat) (a1D node))[0+i.toNat]?=some (a1D node)) (a1N (a1I hnode))<|tl (7,{a:=.prow (a1D node)})<|j5 8 h (fun h=>rg<|tk 5 []<|t9 h fun e1 h=>oa 38 0 4 ([]:List n8) prog<|oz 93 4 A0 ([]:List n8) prog<|B9 n8<|ob e1<|tl (7,{v:=some (.own 38 0 4 0 (([]:List n8)++prog).length),e:=some (m6 93 4 A0 (([]:List n8)++prog))})<|s7 (([]:List n8)++prog)<|tk 9 [none,none,some 4]<|t9 h fun e2 h=>F9 10 41 65 3 40 B4 w.d8 (x7.mk I3.1.b7.a0 (([]:List n8)++prog)) e2<|E6 (x7.mk I3.1.b7.a0 (([]:List n8)++prog))<|rg<|B5 hnode<|om (s6.deep false 57 27 w.a6.length (((w.a6.map z7).set (0+i.toNat) (a1D node)).set (0+i.toNat) (b6t I3))=C4 57 27 z7 (w.a6.set i.toNat I3.1)) (a77 (W5 (a07 rfl)) (by simp))<|om (H9 (((w.a6.map z7).set (0+i.toNat) (a1D node)).set (0+i.toNat) (b6t I3))) (a73 (W5 (a07 rfl)) a5V)<|om (((w.a6.map z7).set (0+i.toNat) (a1D node))[0+i.toNat]?=some (a1D node)) (a1N (a1I hnode))<|A2 I3.1<|tl (5,{a:=.dsc (a1D node) [none,none,some 8,some 7,none,none,none,some 1,some 8,none,none,none,some 2,some 2,none,none,some 1,none,some 4,none,none,none,some 2,some 2,none,none,some 7] [none,none,some 106,some 55,none,none,none,some 4,none,none,none,none,none,none,none,none,some 4,none,none,none,none,none,none,none,none,none,some 55],e:=some (C4 57 27 z7 (w.a6.set i.toNat I3.1))})<|rg<|l7 a1r a6B 2 h fun a3B h=>om (w.a6.length=(w.a6.set i.toNat I3.1).length) (by simp)<|Y1 w.d6 (w.d8++[(x7.mk I3.1.b7.a0 (([]:List n8)++prog))]) w.Told<|l7 a1H a9a 4 h fun a3j h=>A9 a3B<|A9 a3j<|fE h) (fun h=>rg<|B5 hnode<|om (s6.deep false 57 27 w.a6.length (((w.a6.map z7).set (0+i.toNat) (a1D node)).set (0+i.toNat) (b6t I3))=C4 57 27 z7 (w.a6.set i.toNat I3.1)) (a77 (W5 (a07 rfl)) (by simp))<|om (H9 (((w.a6.map z7).set (0+i.toNat) (a1D node)).set (0+i.toNat) (b6t I3))) (a73 (W5 (a07 rfl)) a5V)<|om (((w.a6.map z7).set (0+i.toNat) (a1D node))[0+i.toNat]?=some (a1D node)) (a1N (a1I hnode))<|A2 I3.1<|tl (5,{a:=.dsc (a1D node) [none,none,some 8,some 7,none,none,none,some 1,some 8,none,none,none,some 2,some 2,none,none,some 1,none,some 4,none,none,none,some 2,some 2,none,none,some 7] [none,none,some 106,some 55,none,none,none,some 4,none,none,none,none,none,none,none,none,some 4,none,none,none,none,none,none,none,none,none,some 55],e:=some (C4 57 27 z7 (w.a6.set i.toNat I3.1))})<|rg<|l7 a1r a6B 2 h fun a3l h=>om (w.a6.length=(w.a6.set i.toNat I3.1).length) (by simp)<|Y1 w.d6 w.d8 w.Told<|l7 a1H a9a 4 h fun a8F h=>A9 a3l<|A9 a8F<|fE h))
def a70:FS (Int):=⟨150,Tryz.f150,[.val [] []],[none,none],[.val [] [],.val [] []],fun r=>vi r,fun _=>[none,none],Tryz.func150⟩
def d2l:Unit->KS:=fun _=>⟨a70.k 4 [false,false],(bs 37 []),[some []]⟩
def d4L:Option Int :=
 some (-1)
theorem e5E(r):NF a70 r d2l (fun s=>d4L):=fun _ h=>PK<|rg<|fE h
def e8J(bal:Int)(who:Int):Int->KS:=fun b=>⟨a70.k 3 [false],(vi bal::(vi who::(bs 3 (vi b::(bs 31 []))))),[some []]⟩
def a32(bal:Int)(who:Int)(b:Int):Option (j9 Int Int Unit) :=
 (bif decide (b<=(m7 (bal+3))) then (bif decide (b<=3000) then (bif ((f5W b 3)==who) then some (j9.ret b) else some (j9.nxt (m7 (b+1)))) else some (j9.brk ())) else some (j9.brk ()))
theorem e8x(bal who):LQ a70 d2l (e8J bal who) (fun s=>a32 bal who s):=fun lc b h=>PK<|rg<|j5 4 h (fun h=>j5 7 h (fun h=>rg<|om (3≠(0:Int)) (by decide)<|j5 3 h (fun h=>rg<|fL lc h) (fun h=>rg<|(lc.nx h fun hI=>sk [] [0,1,5] [] hI))) (fun h=>(lc.bk h fun hI=>sk [] [] [] hI))) (fun h=>(lc.bk h fun hI=>sk [] [] [] hI))
def b7k(bal:Int)(who:Int):Option Int :=
 (bif decide (bal<0) then some (-1) else (bif decide (bal>3000) then some (-1) else (bif decide (who<0) then some (-1) else (bif decide (who>=3) then some (-1) else ((p7 (fun s:Int=>a32 bal who s) (m7 (bal+1))).bind fun x=>x.go (fun r=>some r) fun s=>d4L)))))
theorem f2I{bal who}:OK a70 [vi bal,vi who] (b7k bal who) :=
 o7 _ fun r h=>n6<|j5 2 h (fun h=>rg<|fE h) (fun h=>j5 6 h (fun h=>rg<|fE h) (fun h=>j5 10 h (fun h=>rg<|fE h) (fun h=>j5 13 h (fun h=>rg<|fE h) (fun h=>rg<|lp (e8x bal who) h (fun _ h=>a70.rt h) (e5E r) fun hI=>sk [] [0,1,5] [] hI))))
def a7N:FS ((List m8)×List m8):=⟨153,Tryz.f153,[.val [some 8] [some 106]],[some (0,.row)],[.row],fun r=>u9 106 8 p8 r.1,fun r=>[some (u9 106 8 p8 r.2)],Tryz.func153⟩
def d02(list:List m8):(List m8)->KS:=fun out1=>⟨a7N.k 4 [false],(bs 3 (.own 1 0 8 0 out1.length::(bs 24 []))),[some [m6 106 8 p8 list],some [m6 106 8 p8 out1]]⟩
def c68(list:List m8)(out1:List m8):Option ((List m8)×List m8) :=
 some (out1,list)
theorem f1q(list)(r):NF a7N r (d02 list) (fun s=>c68 list s):=fun out1 h=>PK<|rg<|C7 out1 list<|fE h
def d74(list:List m8):((List m8)×Int)->KS:=fun (out,i)=>⟨a7N.k 3 [],(.own 0 0 8 0 list.length::(bs 2 (.own 1 0 8 0 out.length::(vi i::(bs 23 []))))),[some [m6 106 8 p8 list],some [m6 106 8 p8 out]]⟩
def b1W(list:List m8)(out:List m8)(i:Int):Option (j9 ((List m8)×List m8) ((List m8)×Int) (List m8)) :=
 (bif decide (i<(list.length:Int)) then ((idx list i).bind fun vote=>((W6 vote.g9).bind fun l5Entry=>(t0 ((out.length+1)*96<=140737488355328) (some (j9.nxt (out++[(m8.mk vote.a8 l5Entry)],m7 (i+1))))))) else some (j9.brk out))
theorem e3P(list):LQ a7N (d02 list) (d74 list) (fun s=>b1W list s.1 s.2):=fun lc (out,i) h=>PK<|rg<|j5 3 h (fun h=>rg<|A8 h fun vote J5 h=>B5 J5<|H8 p8 5 J5<|B5 J5<|H8 p8 10 J5<|l7 a0u a01 11 h fun l5Entry h=>tk 13 W0<|t9 h fun e1 h=>F9 14 20 106 8 96 p8 out (m8.mk vote.a8 l5Entry) e1<|E6 (m8.mk vote.a8 l5Entry)<|rg<|(lc.nx h fun hI=>sk [] [0,3,4] [(20,0)] hI)) (fun h=>(lc.bk h fun hI=>sk [] [3] [(1,0)] hI))
def b87(list:List m8):Option ((List m8)×List m8) :=
 ((p7 (fun s:(List m8)×Int=>b1W list s.1 s.2) (([]:List m8),0)).bind fun x=>x.go (fun r=>some r) fun s=>c68 list s)
theorem e2W{list}:OK a7N [u9 106 8 p8 list] (b87 list) :=
 o7 _ fun r h=>n6<|tk 0 W0<|rg<|lp (e3P list) h (fun _ h=>a7N.rt h) (f1q list r) fun hI=>om ((.own 2 0 8 0 0:V)=.own 2 0 8 0 ([]:List m8).length) (by simp)<|sk [.is (.tmp 3) (.own 2 0 8 0 ([]:List m8).length)] [0,3,4] [(2,0)] hI
def d4K:FS (j6×List l8):=⟨107,Tryz.f107,[.val A7 G7,.val [some 13] []],[none],[.val A7 G7],fun r=>.tup [.agg (H0 r.1),j8 13 s8 r.2],fun _=>[none],Tryz.func107⟩
def b57(n:j6):Option (j6×List l8) :=
 ((a5A n).bind fun D2=>(bif (!D2) then some ((j6.mk 0 (z0.mk 0 []) [] 0 0 0 [] [] (m4.mk false (n9.mk 0 0) (n5.mk [] [] 0 0)) [] false [] (m4.mk false (n9.mk 0 0) (n5.mk [] [] 0 0)) []),([]:List l8)) else ((a6a n).bind fun l8Copy=>((b7k l8Copy.Acc.i0 l8Copy.Id).bind fun a3k=>(bif decide (a3k<0) then some (l8Copy,([]:List l8)) else ((b3L l8Copy).bind fun N1=>((a7U N1.Acc a3k).bind fun l6Promise=>(t0 (0<=(3:Int)/\(3:Int)*1<=140737488355328) (((idx (f5u (3:Int).toNat false) N1.Id).bind fun y=>((b87 l6Promise.1.a7).bind fun o=>(t0 (l6Promise.1.a7.length=o.2.length) (((a2Z N1.Id (l8.mk 1 0 0 a3k (N1.a5.length:Int) (m4.mk false (n9.mk 0 0) (n5.mk [] [] 0 0)) [])).bind fun J7=>some ((j6.mk N1.Id (z0.mk l6Promise.1.i0 o.2) N1.a5 N1.Seq 1 a3k ((f5u (3:Int).toNat false).set N1.Id.toNat true) o.1 N1.c9 N1.a7 N1.i8 N1.i6 N1.b7 N1.d9),J7)))))))))))))))
theorem e2G{n}:OK d4K [.agg (H0 n)] (b57 n) :=
 o7 _ fun r h=>n6<|T5 a2B b1g 1 1 h fun D2 h=>A2 n<|j5 2 h (fun h=>rg<|tk 1 B8<|B9 l8<|fE h) (fun h=>rg<|l7 a9P b2D 1 h fun l8Copy h=>A2 n<|rg<|l7 a70 f2I 5 h fun a3k h=>rg<|j5 1 h (fun h=>rg<|tk 1 B8<|A2 l8Copy<|B9 l8<|fE h) (fun h=>rg<|l7 b5d c35 1 h fun N1 h=>A2 l8Copy<|rg<|l7 b1t b4L 3 h fun l6Promise h=>s7 N1.Acc.a7<|N0<|t9 h fun e1 h=>R8 0 37 4 1 1 eB false ti4 (.none) e1 (by decide) (by rfl)<|rg<|A8 h fun y hy h=>B5 hy<|Q3 4 1 eB 5 [] true hy<|rg<|l7 a7N e2W 3 h fun o h=>t9 h fun e2 h=>s7 l6Promise.1.a7<|rg<|l7 a0A a5U 8 h fun J7 h=>om (l6Promise.1.a7.length=o.2.length) (by first|(simp;done)|(simp [e2];done))<|s7 N1.a5<|om ((f5u (3:Int).toNat false).length=((f5u (3:Int).toNat false).set N1.Id.toNat true).length) (by first|(simp;done)|(simp [e2];done))<|H5 o.1 N1.a7 N1.d9 J7<|fE h))
def b7H:FS (j6×(List l8)×List m9):=⟨108,Tryz.f108,[.val A7 G7,.val [some 13] [],.val [some 5] []],[none],[.val A7 G7],fun r=>.tup [.agg (H0 r.1),j8 13 s8 r.2.1,j8 5 z4 r.2.2],fun _=>[none],Tryz.func108⟩
def f3z(n:j6)(l8Copy:j6):(List l8)->KS:=fun out=>⟨b7H.k 7 [false,true],(bs 2 (.ptr 1 0 0::(bs 2 (.ptr 2 0 0::(.own 8 0 13 0 out.length::(bs 72 [])))))),[some [b4j 8 p8 n.Acc.a7,b4j 7 t5 n.a5,b4j 1 eB n.c8,b4j 1 eB n.a7,b4j 7 t5 n.d9],some [.var 57 [vi 0,vi 0,.nil,.nil,vi 0,vi 0,vi 0,.nil,.nil,.b false,vi 0,vi 0,.nil,.nil,vi 0,vi 0,.nil,.b false,.nil,.b false,vi 0,vi 0,.nil,.nil,vi 0,vi 0,.nil]],some [.var 57 (e00 l8Copy)]]++e1K l8Copy++[some [m6 62 13 s8 out]]⟩
def d5y(l8Copy:j6)(out:List l8):Option (j6×(List l8)×List m9) :=
 some (l8Copy,out,([]:List m9))
theorem e6u(n l8Copy)(r):NF b7H r (f3z n l8Copy) (fun s=>d5y l8Copy s):=fun out h=>PK<|rg<|tk 2 []<|A2 l8Copy<|s7 out<|B9 m9<|fE h
def b8x(n:j6):Option (j6×(List l8)×List m9) :=
 ((a5A n).bind fun D2=>(bif (!D2) then some ((j6.mk 0 (z0.mk 0 []) [] 0 0 0 [] [] (m4.mk false (n9.mk 0 0) (n5.mk [] [] 0 0)) [] false [] (m4.mk false (n9.mk 0 0) (n5.mk [] [] 0 0)) []),([]:List l8),([]:List m9)) else ((a6a n).bind fun l8Copy=>((a2Z l8Copy.Id (l8.mk 8 0 0 0 (l8Copy.a5.length:Int) (m4.mk false (n9.mk 0 0) (n5.mk [] [] 0 0)) [])).bind fun J7=>(((bif (l8Copy.d7==1) then ((a2Z l8Copy.Id (l8.mk 1 0 0 l8Copy.a8 (l8Copy.a5.length:Int) (m4.mk false (n9.mk 0 0) (n5.mk [] [] 0 0)) [])).bind fun b4h=>(t0 ((J7.length+b4h.length)*152<=140737488355328) (some (l9.brk (J7++b4h))))) else (bif (l8Copy.d7==2) then ((a60 l8Copy).bind fun N6=>(t0 ((J7.length+N6.2.length)*152<=140737488355328) (some (l9.ret (N6.1,J7++N6.2,([]:List m9)))))) else (bif (l8Copy.d7==3) then ((a2Z l8Copy.Id (l8.mk 3 0 0 l8Copy.a8 (l8Copy.a5.length:Int) l8Copy.c9 [])).bind fun b2r=>(t0 ((J7.length+b2r.length)*152<=140737488355328) (some (l9.brk (J7++b2r))))) else (bif l8Copy.i8 then ((a2Z l8Copy.Id (l8.mk 7 0 0 0 0 l8Copy.b7 [])).bind fun b4F=>(t0 ((J7.length+b4F.length)*152<=140737488355328) (some (l9.brk (J7++b4F))))) else some (l9.brk J7))))):Option (l9 (j6×(List l8)×List m9) (List l8))).bind fun x=>x.go some fun j=>d5y l8Copy j)))))
theorem f5b{n}:OK b7H [.agg (H0 n)] (b8x n) :=
 o7 _ fun r h=>n6<|T5 a2B b1g 1 1 h fun D2 h=>A2 n<|j5 2 h (fun h=>rg<|tk 1 B8<|tk 2 []<|B9 l8<|B9 m9<|fE h) (fun h=>rg<|l7 a9P b2D 1 h fun l8Copy h=>A2 n<|rg<|l7 a0A a5U 6 h fun J7 h=>rg<|A6 h (e6u n l8Copy r) fun x1 h hc1=>rg<|j5 1 h (fun h=>rg<|l7 a0A a5U 9 h fun b4h h=>t9 h fun e1 h=>apL 10 34 62 13 152 s8 J7 b4h e1<|s7 b4h<|(o8 h hc1 fun hI=>sk [] [2,5,6] [(2,0),(10,0),(9,0),(9,1),(9,2),(9,3),(9,4),(34,0)] hI)) (fun h=>rg<|j5 1 h (fun h=>rg<|l7 b0o b3S 1 h fun N6 h=>A2 l8Copy<|rg<|t9 h fun e2 h=>apL 3 37 62 13 152 s8 J7 N6.2 e2<|tk 4 []<|(B7 h hc1 fun h=>A2 N6.1<|s7 (J7++N6.2)<|B9 m9<|fE h)) (fun h=>rg<|j5 1 h (fun h=>rg<|l7 a0A a5U 11 h fun b2r h=>t9 h fun e3 h=>apL 12 40 62 13 152 s8 J7 b2r e3<|s7 b2r<|(o8 h hc1 fun hI=>sk [] [2,5,6] [(2,0),(10,0),(9,0),(9,1),(9,2),(9,3),(9,4),(40,0)] hI)) (fun h=>rg<|j5 1 h (fun h=>rg<|l7 a0A a5U 6 h fun b4F h=>t9 h fun e4 h=>apL 7 37 62 13 152 s8 J7 b4F e4<|s7 b4F<|(o8 h hc1 fun hI=>sk [] [2,5,6] [(2,0),(10,0),(9,0),(9,1),(9,2),(9,3),(9,4),(37,0)] hI)) (fun h=>(o8 h hc1 fun hI=>sk [] [2,5,6] [(2,0),(10,0),(9,0),(9,1),(9,2),(9,3),(9,4),(18,0)] hI))))))
def c7O:FS (j6):=⟨109,Tryz.f109,[.val A7 G7],[none],[.val A7 G7],fun r=>.agg (H0 r),fun _=>[none],Tryz.func109⟩
def b7E(n:j6):Option j6 :=
 ((a5A n).bind fun D2=>(bif (!D2) then some (j6.mk 0 (z0.mk 0 []) [] 0 0 0 [] [] (m4.mk false (n9.mk 0 0) (n5.mk [] [] 0 0)) [] false [] (m4.mk false (n9.mk 0 0) (n5.mk [] [] 0 0)) []) else ((a6a n).bind fun l8Copy=>some (j6.mk l8Copy.Id l8Copy.Acc l8Copy.a5 l8Copy.Seq 0 0 [] [] (m4.mk false (n9.mk 0 0) (n5.mk [] [] 0 0)) [] false [] (m4.mk false (n9.mk 0 0) (n5.mk [] [] 0 0)) []))))
theorem e7M{n}:OK c7O [.agg (H0 n)] (b7E n) :=
 o7 _ fun r h=>n6<|T5 a2B b1g 1 1 h fun D2 h=>A2 n<|j5 2 h (fun h=>rg<|fE h) (fun h=>rg<|l7 a9P b2D 1 h fun l8Copy h=>A2 n<|rg<|C7 l8Copy.Acc.a7 l8Copy.a5<|fE h)
def b2W:FS (m5):=⟨72,Tryz.f72,[.val E2 U3],[none,none],[.val E2 U3,.val [none,none,some 4] []],fun r=>.agg (T9 r),fun _=>[none,none],Tryz.func72⟩
def e86(w:m5)(e_:r9)(node:j6):Unit->KS:=fun _=>⟨b2W.k 8 [false,false,true],(bs 2 (.ptr 1 0 0::(.ptr 2 0 0::(.ptr 3 0 0::(bs 76 []))))),[some [C4 57 27 z7 (w.a6.set e_.A.toNat node),m6 62 13 s8 w.d6,m6 65 3 B4 w.d8,m6 69 5 z4 w.Told],some [.var 30 [.own 0 0 27 0 (w.a6.set e_.A.toNat node).length,.own 0 1 13 0 w.d6.length,.own 0 2 3 0 w.d8.length,.own 0 3 5 0 w.Told.length]],some [.var 36 [vi e_.a9,vi e_.A,j8 4 A0 e_.i6]],some [.var 30 [.nil,.nil,.nil,.nil]]]⟩
def c0D(w:m5)(e_:r9)(node:j6):Option m5 :=
 ((b7m (m5.mk (w.a6.set e_.A.toNat node) w.d6 w.d8 w.Told) e_.A e_.i6).bind fun c1Z=>some c1Z)
theorem d7f(w e_ node)(r):NF b2W r (e86 w e_ node) (fun s=>c0D w e_ node):=fun _ h=>PK<|rg<|l7 c99 d9y 5 h fun c1Z h=>H5 (w.a6.set e_.A.toNat node) w.d6 w.d8 w.Told<|A9 c1Z<|fE h
def N3(node:j6):List V:=([vi node.Id,vi node.Acc.i0,.own 30 0 8 0 node.Acc.a7.length,.own 30 1 7 0 node.a5.length,vi node.Seq,vi node.d7,vi node.a8,.own 30 2 1 0 node.c8.length]++a50 node++[.own 30 3 1 0 node.a7.length]++a4u node++[.own 30 4 7 0 node.d9.length])
def a8U(node:j6):List V:=([vi node.Id,vi node.Acc.i0,u9 106 8 p8 node.Acc.a7,.own 30 1 7 0 node.a5.length,vi node.Seq,vi node.d7,vi node.a8,.own 30 2 1 0 node.c8.length]++a50 node++[.own 30 3 1 0 node.a7.length]++a4u node++[.own 30 4 7 0 node.d9.length])
def a97(node:j6):List V:=([vi node.Id,vi node.Acc.i0,u9 106 8 p8 node.Acc.a7,u9 55 7 t5 node.a5,vi node.Seq,vi node.d7,vi node.a8,.own 30 2 1 0 node.c8.length]++a50 node++[.own 30 3 1 0 node.a7.length]++a4u node++[.own 30 4 7 0 node.d9.length])
def b2H(node:j6):List V:=([vi node.Id,vi node.Acc.i0,u9 106 8 p8 node.Acc.a7,u9 55 7 t5 node.a5,vi node.Seq,vi node.d7,vi node.a8,u9 4 1 eB node.c8,j8 8 p8 node.i4,.b node.c9.i7,vi node.c9.a0.b9,vi node.c9.a0.Seq,j8 2 v6 node.c9.b8.b5,j8 2 w8 node.c9.b8.b6,vi node.c9.b8.f0,vi node.c9.b8.Code,.own 30 3 1 0 node.a7.length]++a4u node++[.own 30 4 7 0 node.d9.length])
def b71(node:j6):List V:=[vi node.Id,vi node.Acc.i0,u9 106 8 p8 node.Acc.a7,u9 55 7 t5 node.a5,vi node.Seq,vi node.d7,vi node.a8,u9 4 1 eB node.c8,j8 8 p8 node.i4,.b node.c9.i7,vi node.c9.a0.b9,vi node.c9.a0.Seq,j8 2 v6 node.c9.b8.b5,j8 2 w8 node.c9.b8.b6,vi node.c9.b8.f0,vi node.c9.b8.Code,u9 4 1 eB node.a7,.b node.i8,j8 4 A0 node.i6,.b node.b7.i7,vi node.b7.a0.b9,vi node.b7.a0.Seq,j8 2 v6 node.b7.b8.b5,j8 2 w8 node.b7.b8.b6,vi node.b7.b8.f0,vi node.b7.b8.Code,.own 30 4 7 0 node.d9.length]
def c3w(node:j6):List V:=(a6v node)
def c7w(a0I:j6×List l8):List V:=(a6v a0I.1)
def d5i(Z1:j6×(List l8)×List m9):List V:=(a6v Z1.1)
def c8S(a1W:j6):List V:=(a6v a1W)
def b2A(w:m5)(e_:r9):Option m5 :=
 (bif (e_.a9==2) then ((a9L w e_).bind fun c0j=>some c0j) else (bif (e_.a9==3) then ((a9L w e_).bind fun c1C=>some c1C) else (bif (e_.a9==4) then ((a9L w e_).bind fun c3Q=>some c3Q) else (bif decide (e_.A<0) then some w else (bif decide (e_.A>=3) then some w else ((idx w.a6 e_.A).bind fun node=>(bif (e_.a9==1) then c0D w e_ node else (bif (e_.a9==5) then ((b57 node).bind fun a0I=>((a3u (m5.mk (w.a6.set e_.A.toNat a0I.1) w.d6 w.d8 w.Told) a0I.2).bind fun a3B=>((a4d a3B ([]:List m9)).bind fun a3j=>some a3j))) else (bif (e_.a9==6) then ((b8x node).bind fun Z1=>((a3u (m5.mk (w.a6.set e_.A.toNat Z1.1) w.d6 w.d8 w.Told) Z1.2.1).bind fun a3l=>((a4d a3l Z1.2.2).bind fun a8F=>some a8F))) else (bif (e_.a9==7) then ((b7E node).bind fun a1W=>((a3u (m5.mk (w.a6.set e_.A.toNat a1W) w.d6 w.d8 w.Told) ([]:List l8)).bind fun c43=>((a4d c43 ([]:List m9)).bind fun c4R=>some c4R))) else ((a3u (m5.mk (w.a6.set e_.A.toNat node) w.d6 w.d8 w.Told) ([]:List l8)).bind fun c1z=>((a4d c1z ([]:List m9)).bind fun c4h=>some c4h))))))))))))
set_option maxRecDepth 20000 in
theorem d6a{w e_}:OK b2W [.agg (T9 w),.agg (I1 e_)] (b2A w e_) :=
 o7 _ fun r h=>n6<|j5 3 h (fun h=>rg<|l7 b9b c4G 2 h fun c0j h=>A9 w<|A9 c0j<|fE h) (fun h=>j5 8 h (fun h=>rg<|l7 b9b c4G 2 h fun c1C h=>A9 w<|A9 c1C<|fE h) (fun h=>j5 12 h (fun h=>rg<|l7 b9b c4G 2 h fun c3Q h=>A9 w<|A9 c3Q<|fE h) (fun h=>rg<|j5 3 h (fun h=>rg<|A9 w<|fE h) (fun h=>j5 7 h (fun h=>rg<|A9 w<|fE h) (fun h=>rg<|A8 h fun node hnode h=>B5 hnode<|ob (b38 (enc:=z7) hnode)<|tl (5,{a:=.drow (z7 node)})<|rg<|tk 0 B8<|rg<|tk 0 []<|n6<|j5 1 h (fun h=>om (((w.a6.map z7).set (0+e_.A.toNat) (N3 node))[0+e_.A.toNat]?=some (N3 node)) (a1N (a1I hnode))<|s7 node.Acc.a7<|om ((((w.a6.map z7).set (0+e_.A.toNat) (N3 node)).set (0+e_.A.toNat) (a8U node))[0+e_.A.toNat]?=some (a8U node)) (a1N (a39 (a1I hnode)))<|s7 node.a5<|om (((((w.a6.map z7).set (0+e_.A.toNat) (N3 node)).set (0+e_.A.toNat) (a8U node)).set (0+e_.A.toNat) (a97 node))[0+e_.A.toNat]?=some (a97 node)) (a1N (a39 (a39 (a1I hnode))))<|s7 node.c8<|om ((((((w.a6.map z7).set (0+e_.A.toNat) (N3 node)).set (0+e_.A.toNat) (a8U node)).set (0+e_.A.toNat) (a97 node)).set (0+e_.A.toNat) (b2H node))[0+e_.A.toNat]?=some (b2H node)) (a1N (a39 (a39 (a39 (a1I hnode)))))<|s7 node.a7<|om (((((((w.a6.map z7).set (0+e_.A.toNat) (N3 node)).set (0+e_.A.toNat) (a8U node)).set (0+e_.A.toNat) (a97 node)).set (0+e_.A.toNat) (b2H node)).set (0+e_.A.toNat) (b71 node))[0+e_.A.toNat]?=some (b71 node)) (a1N (a39 (a39 (a39 (a39 (a1I hnode))))))<|s7 node.d9<|om (((((((w.a6.map z7).set (0+e_.A.toNat) (N3 node)).set (0+e_.A.toNat) (a8U node)).set (0+e_.A.toNat) (a97 node)).set (0+e_.A.toNat) (b2H node)).set (0+e_.A.toNat) (b71 node)).set (0+e_.A.toNat) (c3w node)=(w.a6.set e_.A.toNat node).map z7) (W5 (W5 (W5 (W5 (W5 (a07 rfl))))))<|om (H9 ((w.a6.set e_.A.toNat node).map z7)) (H9.map a5V _)<|om (w.a6.length=(w.a6.set e_.A.toNat node).length) (by simp)<|om ((.own 0 0 27 0 w.a6.length:V)=.own 0 0 27 0 (w.a6.set e_.A.toNat node).length) (by simp)<|sk [.plug 0 0 (0+e_.A.toNat) 2 (N3 node) 106,.plug 0 0 (0+e_.A.toNat) 3 (a8U node) 55,.plug 0 0 (0+e_.A.toNat) 7 (a97 node) 4,.plug 0 0 (0+e_.A.toNat) 16 (b2H node) 4,.plug 0 0 (0+e_.A.toNat) 26 (b71 node) 55,.shut 0 0 (w.a6.set e_.A.toNat node).length ((w.a6.set e_.A.toNat node).map z7),.is (.cell 1 0 0) (.own 0 0 27 0 (w.a6.set e_.A.toNat node).length)] [2,3,4] [(1,0),(2,0),(3,0)] (d7f w e_ node r () h)) (fun h=>rg<|j5 1 h (fun h=>rg<|l7 d4K e2G 1 h fun a0I h=>A2 node<|rg<|B5 hnode<|om (s6.deep false 57 27 w.a6.length (((w.a6.map z7).set (0+e_.A.toNat) (N3 node)).set (0+e_.A.toNat) (c7w a0I))=C4 57 27 z7 (w.a6.set e_.A.toNat a0I.1)) (a77 (W5 (a07 rfl)) (by simp))<|om (H9 (((w.a6.map z7).set (0+e_.A.toNat) (N3 node)).set (0+e_.A.toNat) (c7w a0I))) (a73 (W5 (a07 rfl)) a5V)<|om (((w.a6.map z7).set (0+e_.A.toNat) (N3 node))[0+e_.A.toNat]?=some (N3 node)) (a1N (a1I hnode))<|A2 a0I.1<|tl (6,{a:=.dsc (N3 node) [none,none,some 8,some 7,none,none,none,some 1,some 8,none,none,none,some 2,some 2,none,none,some 1,none,some 4,none,none,none,some 2,some 2,none,none,some 7] [none,none,some 106,some 55,none,none,none,some 4,none,none,none,none,none,none,none,none,some 4,none,none,none,none,none,none,none,none,none,some 55],e:=some (C4 57 27 z7 (w.a6.set e_.A.toNat a0I.1))})<|rg<|l7 a1r a6B 2 h fun a3B h=>om (w.a6.length=(w.a6.set e_.A.toNat a0I.1).length) (by simp)<|Y1 w.d6 w.d8 w.Told<|l7 a1H a9a 4 h fun a3j h=>A9 a3B<|B9 m9<|A9 a3j<|fE h) (fun h=>rg<|j5 1 h (fun h=>rg<|l7 b7H f5b 1 h fun Z1 h=>A2 node<|rg<|B5 hnode<|om (s6.deep false 57 27 w.a6.length (((w.a6.map z7).set (0+e_.A.toNat) (N3 node)).set (0+e_.A.toNat) (d5i Z1))=C4 57 27 z7 (w.a6.set e_.A.toNat Z1.1)) (a77 (W5 (a07 rfl)) (by simp))<|om (H9 (((w.a6.map z7).set (0+e_.A.toNat) (N3 node)).set (0+e_.A.toNat) (d5i Z1))) (a73 (W5 (a07 rfl)) a5V)<|om (((w.a6.map z7).set (0+e_.A.toNat) (N3 node))[0+e_.A.toNat]?=some (N3 node)) (a1N (a1I hnode))<|A2 Z1.1<|tl (6,{a:=.dsc (N3 node) [none,none,some 8,some 7,none,none,none,some 1,some 8,none,none,none,some 2,some 2,none,none,some 1,none,some 4,none,none,none,some 2,some 2,none,none,some 7] [none,none,some 106,some 55,none,none,none,some 4,none,none,none,none,none,none,none,none,some 4,none,none,none,none,none,none,none,none,none,some 55],e:=some (C4 57 27 z7 (w.a6.set e_.A.toNat Z1.1))})<|rg<|l7 a1r a6B 2 h fun a3l h=>om (w.a6.length=(w.a6.set e_.A.toNat Z1.1).length) (by simp)<|Y1 w.d6 w.d8 w.Told<|l7 a1H a9a 4 h fun a8F h=>A9 a3l<|A9 a8F<|fE h) (fun h=>rg<|j5 1 h (fun h=>rg<|l7 c7O e7M 1 h fun a1W h=>A2 node<|rg<|B5 hnode<|om (s6.deep false 57 27 w.a6.length (((w.a6.map z7).set (0+e_.A.toNat) (N3 node)).set (0+e_.A.toNat) (c8S a1W))=C4 57 27 z7 (w.a6.set e_.A.toNat a1W)) (a77 (W5 (a07 rfl)) (by simp))<|om (H9 (((w.a6.map z7).set (0+e_.A.toNat) (N3 node)).set (0+e_.A.toNat) (c8S a1W))) (a73 (W5 (a07 rfl)) a5V)<|om (((w.a6.map z7).set (0+e_.A.toNat) (N3 node))[0+e_.A.toNat]?=some (N3 node)) (a1N (a1I hnode))<|A2 a1W<|tl (6,{a:=.dsc (N3 node) [none,none,some 8,some 7,none,none,none,some 1,some 8,none,none,none,some 2,some 2,none,none,some 1,none,some 4,none,none,none,some 2,some 2,none,none,some 7] [none,none,some 106,some 55,none,none,none,some 4,none,none,none,none,none,none,none,none,some 4,none,none,none,none,none,none,none,none,none,some 55],e:=some (C4 57 27 z7 (w.a6.set e_.A.toNat a1W))})<|rg<|l7 a1r a6B 2 h fun c43 h=>om (w.a6.length=(w.a6.set e_.A.toNat a1W).length) (by simp)<|Y1 w.d6 w.d8 w.Told<|B9 l8<|l7 a1H a9a 4 h fun c4R h=>A9 c43<|B9 m9<|A9 c4R<|fE h) (fun h=>rg<|B5 hnode<|om (s6.deep false 57 27 w.a6.length (((w.a6.map z7).set (0+e_.A.toNat) (N3 node)).set (0+e_.A.toNat) (c3w node))=C4 57 27 z7 (w.a6.set e_.A.toNat node)) (a77 (W5 (a07 rfl)) (by simp))<|om (H9 (((w.a6.map z7).set (0+e_.A.toNat) (N3 node)).set (0+e_.A.toNat) (c3w node))) (a73 (W5 (a07 rfl)) a5V)<|om (((w.a6.map z7).set (0+e_.A.toNat) (N3 node))[0+e_.A.toNat]?=some (N3 node)) (a1N (a1I hnode))<|A2 node<|tl (6,{a:=.dsc (N3 node) [none,none,some 8,some 7,none,none,none,some 1,some 8,none,none,none,some 2,some 2,none,none,some 1,none,some 4,none,none,none,some 2,some 2,none,none,some 7] [none,none,some 106,some 55,none,none,none,some 4,none,none,none,none,none,none,none,none,some 4,none,none,none,none,none,none,none,none,none,some 55],e:=some (C4 57 27 z7 (w.a6.set e_.A.toNat node))})<|rg<|l7 a1r a6B 2 h fun c1z h=>om (w.a6.length=(w.a6.set e_.A.toNat node).length) (by simp)<|Y1 w.d6 w.d8 w.Told<|B9 l8<|l7 a1H a9a 4 h fun c4h h=>A9 c1z<|B9 m9<|A9 c4h<|fE h)))))))))
def a2D:FS (m5×List r9):=⟨35,Tryz.f35,[.val E2 U3,.val [some 3] [some 36]],[none,none,none],[.val E2 U3,.val [some 3] [some 36],.val [none,none,some 4] []],fun r=>.tup [.agg (T9 r.1),u9 36 3 I1 r.2],fun _=>[none,none,none],Tryz.func35⟩
def a1i(w:m5)(out:List r9)(e_:r9):Option (m5×List r9) :=
 ((b2A w e_).bind fun a41=>(t0 ((out.length+1)*40<=140737488355328) (some (a41,out++[e_]))))
theorem a22{w out e_}:OK a2D [.agg (T9 w),u9 36 3 I1 out,.agg (I1 e_)] (a1i w out e_) :=
 o7 _ fun r h=>n6<|l7 b2W d6a 2 h fun a41 h=>A9 w<|tk 5 [none,none,some 4]<|t9 h fun e1 h=>F9 6 11 36 3 40 I1 out e_ e1<|E6 e_<|A9 a41<|s7 (out++[e_])<|fE h
def a93:FS (Int×t7):=⟨38,Tryz.f38,[.val [] []],[some (0,.ptr [some 1,none] []),none],[.ptr [some 1,none] [],.val [some 1] []],fun r=>vi r.1,fun r=>[some (.optr 85 (Z9 r.2)),none],Tryz.func38⟩
def a6M(r_:t7)(list:List Int):Option (Int×t7) :=
 ((F7 r_ (list.length:Int)).bind fun pick=>((idx list pick.1).bind fun y=>some (y,pick.2)))
theorem b16{r_ list}:OK a93 [.optr 85 (Z9 r_),j8 1 eI list] (a6M r_ list) :=
 o7 _ fun r h=>n6<|l7 G1 G4 4 h fun pick h=>v5 eI 5 h fun y hy h=>fE h
def d5z:FS (Int):=⟨112,Tryz.f112,[.val [] []],[none,none],[.val [] [],.val [] []],fun r=>vi r,fun _=>[none,none],Tryz.func112⟩
def b44(a:Int)(b:Int):Option Int :=
 (bif decide (a>b) then some a else some b)
theorem d8Y{a b}:OK d5z [vi a,vi b] (b44 a b) :=
 o7 _ fun r h=>n6<|j5 2 h (fun h=>rg<|fE h) (fun h=>rg<|fE h)
def b8J:FS (n8×t7):=⟨76,Tryz.f76,[.val [] []],[some (0,.ptr [some 1,none] [])],[.ptr [some 1,none] []],fun r=>.agg (A0 r.1),fun r=>[some (.optr 85 (Z9 r.2))],Tryz.func76⟩
def f0x:(t7×n8)->KS:=fun (w,i)=>⟨b8J.k 6 [true],(bs 2 (.ptr 1 0 0::(.ptr 2 0 0::(bs 36 [])))),[some [.var 85 [j8 1 K1 w.b,vi w.p]],some [.var 93 [vi 0,vi 0,vi 0,vi 0]],some [.var 93 [vi i.a9,vi i.A,vi i.B,vi i.N]]]⟩
def d4w(w:t7)(i:n8):Option (n8×t7) :=
 some (i,w)
theorem e1E(r):NF b8J r f0x (fun s=>d4w s.1 s.2):=fun (w,i) h=>PK<|rg<|fE h
def b8K(r_:t7):Option (n8×t7) :=
 ((a6M r_ [1,1,2,2,3,4,4,5,6,7]).bind fun num=>((F7 num.2 3).bind fun pick=>((F7 pick.2 3).bind fun E7=>(((bif (num.1==3) then ((a6M E7.2 [0,1,5,(-2),100,1000000]).bind fun a7G=>some (l9.brk (a7G.2,(n8.mk num.1 pick.1 0 a7G.1)))) else (bif (num.1==6) then ((F7 E7.2 3).bind fun a0o=>some (l9.brk (a0o.2,(n8.mk num.1 pick.1 E7.1 (m7 (1+a0o.1)))))) else (bif (num.1==7) then ((F7 E7.2 3).bind fun Y9=>(bif decide (Y9.1>0) then ((F7 Y9.2 4).bind fun X9=>((F7 X9.2 4).bind fun a25=>some (l9.ret ((n8.mk 4 X9.1 a25.1 0),a25.2)))) else some (l9.brk (Y9.2,(n8.mk num.1 0 0 0))))) else some (l9.brk (E7.2,(n8.mk num.1 pick.1 E7.1 0)))))):Option (l9 (n8×t7) (t7×n8))).bind fun x=>x.go some fun j=>d4w j.1 j.2))))
theorem d9d{r_}:OK b8J [.optr 85 (Z9 r_)] (b8K r_) :=
 o7 _ fun r h=>n6<|tk 1 []<|l7 a93 b16 2 h fun num h=>om (10=[1,1,2,2,3,4,4,5,6,7].length) (by simp)<|l7 G1 G4 4 h fun pick h=>l7 G1 G4 6 h fun E7 h=>rg<|A6 h (e1E r) fun x1 h hc1=>rg<|j5 1 h (fun h=>n6<|tk 1 []<|l7 a93 b16 2 h fun a7G h=>om (6=[0,1,5,(-2),100,1000000].length) (by simp)<|(o8 h hc1 fun hI=>sk [] [2,3] [(1,0),(10,0)] hI)) (fun h=>rg<|j5 1 h (fun h=>rg<|l7 G1 G4 1 h fun a0o h=>(o8 h hc1 fun hI=>sk [] [2,3] [(1,0),(10,0)] hI)) (fun h=>rg<|j5 1 h (fun h=>rg<|l7 G1 G4 1 h fun Y9 h=>j5 2 h (fun h=>rg<|l7 G1 G4 1 h fun X9 h=>l7 G1 G4 3 h fun a25 h=>(B7 h hc1 fun h=>fE h)) (fun h=>n6<|(o8 h hc1 fun hI=>sk [] [2,3] [(1,0),(10,0)] hI))) (fun h=>(o8 h hc1 fun hI=>sk [] [2,3] [(1,0),(10,0)] hI))))
def a2T:FS ((List n8)×t7):=⟨40,Tryz.f40,[.val [some 4] [some 93]],[some (0,.ptr [some 1,none] [])],[.ptr [some 1,none] []],fun r=>u9 93 4 A0 r.1,fun r=>[some (.optr 85 (Z9 r.2))],Tryz.func40⟩
def d3B:(t7×List n8)->KS:=fun (w,out1)=>⟨a2T.k 5 [false,false],(bs 5 (.own 1 0 4 0 out1.length::(bs 31 []))),[some [.var 85 [j8 1 K1 w.b,vi w.p]],some [m6 93 4 A0 out1]]⟩
def c7k(w:t7)(out1:List n8):Option ((List n8)×t7) :=
 some (out1,w)
theorem f5h(r):NF a2T r d3B (fun s=>c7k s.1 s.2):=fun (w,out1) h=>PK<|rg<|s7 out1<|fE h
def e4l:(t7×(List n8)×Int)->KS:=fun (r_1,out,i)=>⟨a2T.k 4 [false],(.ptr 0 0 0::(bs 4 (.own 1 0 4 0 out.length::(vi i::(bs 30 []))))),[some [.var 85 [j8 1 K1 r_1.b,vi r_1.p]],some [m6 93 4 A0 out]]⟩
def b81(r_1:t7)(out:List n8)(i:Int):Option (j9 ((List n8)×t7) (t7×(List n8)×Int) (t7×List n8)) :=
 (bif decide (i>0) then ((b8K r_1).bind fun b4n=>(t0 ((out.length+1)*32<=140737488355328) (some (j9.nxt (b4n.2,out++[b4n.1],m7 (i-1)))))) else some (j9.brk (r_1,out)))
theorem e8s:LQ a2T d3B e4l (fun s=>b81 s.1 s.2.1 s.2.2):=fun lc (r_1,out,i) h=>PK<|rg<|j5 1 h (fun h=>rg<|l7 b8J d9d 2 h fun b4n h=>tk 3 []<|t9 h fun e1 h=>F9 4 8 93 4 32 A0 out b4n.1 e1<|E6 b4n.1<|rg<|(lc.nx h fun hI=>sk [] [0,5,6] [(8,0)] hI)) (fun h=>(lc.bk h fun hI=>sk [] [5] [(1,0)] hI))
def a5t(r_:t7):Option ((List n8)×t7) :=
 ((F7 r_ 3).bind fun pick=>(bif (pick.1==0) then ((F7 pick.2 3).bind fun E7=>((F7 E7.2 3).bind fun a0o=>((F7 a0o.2 3).bind fun Y9=>some ([(n8.mk 1 0 E7.1 0),(n8.mk 3 1 0 (m7 (1+Y9.1))),(n8.mk 4 0 1 0),(n8.mk 2 a0o.1 0 0)],Y9.2)))) else ((F7 pick.2 8).bind fun X9=>((p7 (fun s:t7×(List n8)×Int=>b81 s.1 s.2.1 s.2.2) (X9.2,([]:List n8),X9.1)).bind fun x=>x.go (fun r=>some r) fun s=>c7k s.1 s.2))))
theorem b2n{r_}:OK a2T [.optr 85 (Z9 r_)] (a5t r_) :=
 o7 _ fun r h=>n6<|l7 G1 G4 1 h fun pick h=>j5 2 h (fun h=>rg<|l7 G1 G4 1 h fun E7 h=>rg<|l7 G1 G4 1 h fun a0o h=>rg<|l7 G1 G4 3 h fun Y9 h=>tk 9 []<|om (4=[(n8.mk 1 0 E7.1 0),(n8.mk 3 1 0 (m7 (1+Y9.1))),(n8.mk 4 0 1 0),(n8.mk 2 a0o.1 0 0)].length) (by simp)<|fE h) (fun h=>rg<|tk 0 []<|rg<|l7 G1 G4 1 h fun X9 h=>lp (e8s) h (fun _ h=>a2T.rt h) (f5h r) fun hI=>om ((.own 5 0 4 0 0:V)=.own 5 0 4 0 ([]:List n8).length) (by simp)<|sk [.is (.tmp 5) (.own 5 0 4 0 ([]:List n8).length)] [0,5,6] [(5,0)] hI)
def b55:FS (r9×t7×m5):=⟨73,Tryz.f73,[.val [none,none,some 4] [none,none,some 93]],[some (0,.ptr [some 1,none] []),some (1,.val E2 U3)],[.ptr [some 1,none] [],.val E2 U3],fun r=>.agg [vi r.1.a9,vi r.1.A,u9 93 4 A0 r.1.i6],fun r=>[some (.optr 85 (Z9 r.2.1)),some (.agg (T9 r.2.2))],Tryz.func73⟩
def d8m(w:m5)(pick:Int×t7):(t7×Int)->KS:=fun (w1,eKind)=>⟨b55.k 12 [false,false,false,false,false,false,false,true,false],(bs 4 (.ptr 1 0 0::(.ptr 2 0 0::(bs 57 [])))),[some [.var 85 [j8 1 K1 w1.b,vi w1.p],C4 57 27 z7 w.a6,m6 62 13 s8 w.d6,m6 65 3 B4 w.d8,m6 69 5 z4 w.Told],some [.var 36 [vi 0,vi 0,.nil]],some [.var 36 [vi eKind,vi pick.1,.nil]]]⟩
def c67(w:m5)(pick:Int×t7)(w1:t7)(eKind:Int):Option (r9×t7×m5) :=
 some ((r9.mk eKind pick.1 []),w1,w)
theorem d6X(w pick)(r):NF b55 r (d8m w pick) (fun s=>c67 w pick s.1 s.2):=fun (w1,eKind) h=>PK<|rg<|A9 w<|fE h
def b8b(r_:t7)(w:m5):Option (r9×t7×m5) :=
 ((b44 1 (w.d6.length:Int)).bind fun c8M=>((F7 r_ c8M).bind fun pick=>((F7 pick.2 24).bind fun E7=>(bif (E7.1==0) then ((F7 E7.2 3).bind fun a0o=>((a5t a0o.2).bind fun a46=>some ((r9.mk 1 a0o.1 a46.1),a46.2,w))) else (bif (E7.1==1) then ((F7 E7.2 3).bind fun Y9=>((a5t Y9.2).bind fun b8a=>some ((r9.mk 1 Y9.1 b8a.1),b8a.2,w))) else (bif (E7.1==2) then ((F7 E7.2 3).bind fun X9=>((a5t X9.2).bind fun b9w=>some ((r9.mk 1 X9.1 b9w.1),b9w.2,w))) else (((bif (E7.1==3) then ((F7 E7.2 3).bind fun a25=>((a5t a25.2).bind fun b91=>some (l9.ret ((r9.mk 1 a25.1 b91.1),b91.2,w)))) else (bif (E7.1==4) then ((F7 E7.2 3).bind fun a8Y=>some (l9.ret ((r9.mk 5 a8Y.1 []),a8Y.2,w))) else (bif (E7.1==5) then ((F7 E7.2 3).bind fun a7l=>some (l9.ret ((r9.mk 6 a7l.1 []),a7l.2,w))) else (bif (E7.1==6) then ((F7 E7.2 3).bind fun a4H=>some (l9.ret ((r9.mk 6 a4H.1 []),a4H.2,w))) else (bif (E7.1==7) then ((F7 E7.2 2).bind fun a5k=>(bif (a5k.1==0) then ((F7 a5k.2 3).bind fun a6X=>some (l9.ret ((r9.mk 7 a6X.1 []),a6X.2,w))) else some (l9.brk (a5k.2,2)))) else (bif (E7.1==8) then some (l9.brk (E7.2,3)) else (bif (E7.1==9) then some (l9.brk (E7.2,4)) else (bif (E7.1==10) then ((F7 E7.2 3).bind fun a7h=>(bif (a7h.1==0) then ((F7 a7h.2 10).bind fun a6U=>((F7 a6U.2 5).bind fun c3i=>some (l9.ret ((r9.mk (m7 (a6U.1-1)) (m7 (c3i.1-1)) []),c3i.2,w)))) else some (l9.brk (a7h.2,2)))) else some (l9.brk (E7.2,2)))))))))):Option (l9 (r9×t7×m5) (t7×Int))).bind fun x=>x.go some fun j=>c67 w pick j.1 j.2)))))))
set_option maxRecDepth 20000 in
theorem f4e{r_ w}:OK b55 [.optr 85 (Z9 r_),.agg (T9 w)] (b8b r_ w) :=
 o7 _ fun r h=>n6<|l7 d5z d8Y 4 h fun c8M h=>l7 G1 G4 5 h fun pick h=>rg<|l7 G1 G4 1 h fun E7 h=>rg<|j5 1 h (fun h=>rg<|l7 G1 G4 1 h fun a0o h=>l7 a2T b2n 3 h fun a46 h=>s7 a46.1<|A9 w<|fE h) (fun h=>rg<|j5 1 h (fun h=>rg<|l7 G1 G4 1 h fun Y9 h=>l7 a2T b2n 3 h fun b8a h=>s7 b8a.1<|A9 w<|fE h) (fun h=>rg<|j5 1 h (fun h=>rg<|l7 G1 G4 1 h fun X9 h=>l7 a2T b2n 3 h fun b9w h=>s7 b9w.1<|A9 w<|fE h) (fun h=>A6 h (d6X w pick r) fun x1 h hc1=>rg<|j5 1 h (fun h=>rg<|l7 G1 G4 1 h fun a25 h=>l7 a2T b2n 3 h fun b91 h=>(B7 h hc1 fun h=>s7 b91.1<|A9 w<|fE h)) (fun h=>rg<|j5 1 h (fun h=>rg<|l7 G1 G4 1 h fun a8Y h=>(B7 h hc1 fun h=>A9 w<|fE h)) (fun h=>rg<|j5 1 h (fun h=>rg<|l7 G1 G4 1 h fun a7l h=>(B7 h hc1 fun h=>A9 w<|fE h)) (fun h=>rg<|j5 1 h (fun h=>rg<|l7 G1 G4 1 h fun a4H h=>(B7 h hc1 fun h=>A9 w<|fE h)) (fun h=>rg<|j5 1 h (fun h=>rg<|l7 G1 G4 1 h fun a5k h=>j5 2 h (fun h=>rg<|l7 G1 G4 1 h fun a6X h=>(B7 h hc1 fun h=>A9 w<|fE h)) (fun h=>(o8 h hc1 fun hI=>sk [] [4,5] [(2,0),(10,0)] hI))) (fun h=>rg<|j5 1 h (fun h=>rg<|(o8 h hc1 fun hI=>sk [] [4,5] [(2,0),(10,0)] hI)) (fun h=>rg<|j5 1 h (fun h=>rg<|(o8 h hc1 fun hI=>sk [] [4,5] [(2,0),(10,0)] hI)) (fun h=>rg<|j5 1 h (fun h=>rg<|l7 G1 G4 1 h fun a7h h=>j5 2 h (fun h=>rg<|l7 G1 G4 1 h fun a6U h=>l7 G1 G4 4 h fun c3i h=>(B7 h hc1 fun h=>A9 w<|fE h)) (fun h=>(o8 h hc1 fun hI=>sk [] [4,5] [(2,0),(10,0)] hI))) (fun h=>(o8 h hc1 fun hI=>sk [] [4,5] [(2,0),(10,0)] hI))))))))))))
def a9C:FS (Bool):=⟨114,Tryz.f114,[.val [] []],[none],[.val B8 []],fun r=>.b r,fun _=>[none],Tryz.func114⟩
def d8r(m:l8):Unit->KS:=fun _=>⟨a9C.k 2 [false],(bs 1 (.ptr 1 0 0::(bs 158 []))),[some [],some [.var 62 (a4y m)]]⟩
def e7t(m:l8)(l7None:Bool):Bool->KS:=fun right=>⟨a9C.k 4 [false],(bs 1 (.ptr 1 0 0::(bs 1 (.b l7None::(.b right::(bs 155 [])))))),[some [],some [.var 62 (a4y m)]]⟩
def b1y(m:l8)(l7None:Bool)(right:Bool):Option Bool :=
 (bif (m.a9==1) then ((a1t m.a8).bind fun Z0=>(bif Z0 then some l7None else some false)) else (bif (m.a9==2) then ((a1t m.a8).bind fun b1P=>(bif b1P then (bif l7None then ((a5D m.a7).bind fun a51=>(bif a51 then some (decide ((m7 (m.g7+(m.a7.length:Int)))<=40)) else some false)) else some false) else some false)) else (bif (m.a9==3) then ((a1t m.a8).bind fun b3A=>(bif b3A then some right else some false)) else (bif (m.a9==4) then ((a1t m.a8).bind fun c8R=>(bif c8R then some l7None else some false)) else (bif (m.a9==5) then (bif (m.a8==0) then some right else some false) else (bif (m.a9==6) then ((a1t m.a8).bind fun d40=>(bif d40 then (bif l7None then some (m.g7==0) else some false) else some false)) else (bif (m.a9==7) then (bif (m.a8==0) then (bif (m.g7==0) then ((a1a m.g9).bind fun E5=>(bif E5 then some (!m.g9.i7) else some false)) else some false) else some false) else (bif (m.a9==8) then (bif (m.a8==0) then some l7None else some false) else some false))))))))
theorem e5n(m l7None)(r):NF a9C r (e7t m l7None) (fun s=>b1y m l7None s):=fun right h=>PK<|n6<|j5 1 h (fun h=>rg<|l7 a19 a2C 2 h fun Z0 h=>j5 3 h (fun h=>fE h) (fun h=>fE h)) (fun h=>rg<|j5 1 h (fun h=>rg<|l7 a19 a2C 2 h fun b1P h=>j5 3 h (fun h=>j5 6 h (fun h=>l7 a26 b3J 9 h fun a51 h=>j5 11 h (fun h=>fE h) (fun h=>fE h)) (fun h=>fE h)) (fun h=>fE h)) (fun h=>rg<|j5 1 h (fun h=>rg<|l7 a19 a2C 2 h fun b3A h=>j5 3 h (fun h=>fE h) (fun h=>fE h)) (fun h=>rg<|j5 1 h (fun h=>rg<|l7 a19 a2C 2 h fun c8R h=>j5 3 h (fun h=>fE h) (fun h=>fE h)) (fun h=>rg<|j5 1 h (fun h=>rg<|j5 3 h (fun h=>fE h) (fun h=>fE h)) (fun h=>rg<|j5 1 h (fun h=>rg<|l7 a19 a2C 2 h fun d40 h=>j5 3 h (fun h=>j5 6 h (fun h=>fE h) (fun h=>fE h)) (fun h=>fE h)) (fun h=>rg<|j5 1 h (fun h=>rg<|j5 3 h (fun h=>j5 8 h (fun h=>l7 a2o a3E 11 h fun E5 h=>j5 13 h (fun h=>fE h) (fun h=>fE h)) (fun h=>fE h)) (fun h=>fE h)) (fun h=>rg<|j5 1 h (fun h=>rg<|j5 3 h (fun h=>fE h) (fun h=>fE h)) (fun h=>rg<|fE h))))))))
def b7A(m:l8):Option Bool :=
 ((a4P m.g9).bind fun l7None=>((((a1a m.g9).bind fun a3x=>(bif a3x then some (l9.brk (decide (m.g7<40))) else some (l9.brk false))):Option (l9 Bool Bool)).bind fun x=>x.go some fun j=>b1y m l7None j))
theorem d86(m)(r):NF a9C r (d8r m) (fun s=>b7A m):=fun _ h=>PK<|rg<|l7 a7Q a9N 2 h fun l7None h=>A6 h (e5n m l7None r) fun x1 h hc1=>rg<|l7 a2o a3E 2 h fun a3x h=>j5 3 h (fun h=>(o8 h hc1 fun hI=>sk [] [1,3,4] [(1,0)] hI)) (fun h=>(o8 h hc1 fun hI=>sk [] [1,3,4] [(1,0)] hI))
def b8F(m:l8):Option Bool :=
 (((bif decide (m.c8<0) then some (l9.ret false) else (bif decide (m.c8>=3) then some (l9.ret false) else (bif decide (m.To<0) then some (l9.ret false) else (bif decide (m.To>=3) then some (l9.ret false) else (bif (m.c8==m.To) then some (l9.ret false) else (bif decide (m.g7<0) then some (l9.ret false) else (bif decide (m.g7>40) then some (l9.ret false) else (bif (m.a9 != 2) then (bif decide ((m.a7.length:Int)>0) then some (l9.ret false) else some (l9.brk ())) else some (l9.brk ()))))))))):Option (l9 Bool Unit)).bind fun x=>x.go some fun j=>b7A m)
theorem e3j{m}:OK a9C [.agg (s8 m)] (b8F m) :=
 o7 _ fun r h=>rg<|A6 h (d86 m r) fun x1 h hc1=>rg<|j5 3 h (fun h=>rg<|(B7 h hc1 fun h=>fE h)) (fun h=>j5 8 h (fun h=>rg<|(B7 h hc1 fun h=>fE h)) (fun h=>j5 13 h (fun h=>rg<|(B7 h hc1 fun h=>fE h)) (fun h=>j5 18 h (fun h=>rg<|(B7 h hc1 fun h=>fE h)) (fun h=>j5 25 h (fun h=>rg<|(B7 h hc1 fun h=>fE h)) (fun h=>j5 30 h (fun h=>rg<|(B7 h hc1 fun h=>fE h)) (fun h=>j5 35 h (fun h=>rg<|(B7 h hc1 fun h=>fE h)) (fun h=>j5 39 h (fun h=>j5 45 h (fun h=>rg<|(B7 h hc1 fun h=>fE h)) (fun h=>(o8 h hc1 fun hI=>sk [] [1] [(1,0)] hI))) (fun h=>(o8 h hc1 fun hI=>sk [] [1] [(1,0)] hI)))))))))
def c6p:FS (Bool):=⟨117,Tryz.f117,[.val [] []],[none],[.val [] []],fun r=>.b r,fun _=>[none],Tryz.func117⟩
def b7Q(a:m9):Option Bool :=
 (bif decide (a.Node>=0) then (bif decide (a.Node<3) then ((a9Y a.a0).bind fun a5K=>(bif a5K then (bif (a.a0.b9==a.Node) then (bif decide (a.Code>=0) then (bif decide (a.Code<=4) then ((a5S a.f0).bind fun a1b=>some a1b) else some false) else some false) else some false) else some false)) else some false) else some false)
theorem e3C{a}:OK c6p [.agg (z4 a)] (b7Q a) :=
 o7 _ fun r h=>n6<|j5 3 h (fun h=>j5 8 h (fun h=>l7 b5Q c36 11 h fun a5K h=>j5 13 h (fun h=>j5 21 h (fun h=>j5 26 h (fun h=>j5 31 h (fun h=>l7 a7D a99 34 h fun a1b h=>fE h) (fun h=>fE h)) (fun h=>fE h)) (fun h=>fE h)) (fun h=>fE h)) (fun h=>fE h)) (fun h=>fE h)
def M7:FS (Bool):=⟨74,Tryz.f74,[.val [] []],[none],[.val E2 []],fun r=>.b r,fun _=>[none],Tryz.func74⟩
def d2d(w:m5):Unit->KS:=fun _=>⟨M7.k 4 [false,false],(bs 1 (.ptr 1 0 0::(bs 104 []))),[some [],some [.var 30 (D8 w)]]⟩
def c7F(w:m5):Unit->KS:=fun _=>⟨M7.k 6 [false,false,false],(bs 1 (.ptr 1 0 0::(bs 104 []))),[some [],some [.var 30 (D8 w)]]⟩
def c6q(w:m5):Unit->KS:=fun _=>⟨M7.k 8 [false,false,false,false],(bs 1 (.ptr 1 0 0::(bs 104 []))),[some [],some [.var 30 (D8 w)]]⟩
def d1S:Unit->KS:=fun _=>⟨M7.k 10 [false,false,false,false,false],(bs 106 []),[some []]⟩
def c8W:Option Bool :=
 some true
theorem e4M(r):NF M7 r d1S (fun s=>c8W):=fun _ h=>PK<|rg<|fE h
def e87(w:m5):Int->KS:=fun i3=>⟨M7.k 9 [false,false,false,false],(bs 1 (.ptr 1 0 0::(bs 4 (vi i3::(bs 99 []))))),[some [],some [.var 30 (D8 w)]]⟩
def b5q(w:m5)(i3:Int):Option (j9 Bool Int Unit) :=
 (bif decide (i3<(w.Told.length:Int)) then ((idx w.Told i3).bind fun told=>((b7Q told).bind fun c9R=>(bif (!c9R) then some (j9.ret false) else some (j9.nxt (m7 (i3+1)))))) else some (j9.brk ()))
theorem f2n(w):LQ M7 d1S (e87 w) (fun s=>b5q w s):=fun lc i3 h=>PK<|rg<|j5 4 h (fun h=>rg<|v5 z4 3 h fun told a47 h=>l7 c6p e3C 5 h fun c9R h=>j5 6 h (fun h=>rg<|fL lc h) (fun h=>rg<|(lc.nx h fun hI=>sk [] [1,6] [(1,0)] hI))) (fun h=>(lc.bk h fun hI=>sk [] [] [] hI))
def b5J(w:m5):Option Bool :=
 ((p7 (fun s:Int=>b5q w s) 0).bind fun x=>x.go (fun r=>some r) fun s=>c8W)
theorem f2h(w)(r):NF M7 r (c6q w) (fun s=>b5J w):=fun _ h=>PK<|rg<|lp (f2n w) h (fun _ h=>M7.rt h) (e4M r) fun hI=>sk [] [1,6] [(1,0)] hI
def e2k(w:m5):Int->KS:=fun i2=>⟨M7.k 7 [false,false,false],(bs 1 (.ptr 1 0 0::(bs 3 (vi i2::(bs 100 []))))),[some [],some [.var 30 (D8 w)]]⟩
def c0e(w:m5)(i2:Int):Option (j9 Bool Int Unit) :=
 (bif decide (i2<(w.d8.length:Int)) then ((idx w.d8 i2).bind fun asked=>((a9Y asked.a0).bind fun a5K=>(bif (!a5K) then some (j9.ret false) else ((b02 asked.i6).bind fun E1=>(bif (!E1) then some (j9.ret false) else some (j9.nxt (m7 (i2+1)))))))) else some (j9.brk ()))
theorem e0c(w):LQ M7 (c6q w) (e2k w) (fun s=>c0e w s):=fun lc i2 h=>PK<|rg<|j5 4 h (fun h=>rg<|v5 B4 3 h fun asked a8i h=>l7 b5Q c36 6 h fun a5K h=>j5 8 h (fun h=>rg<|fL lc h) (fun h=>J3 B4 12 a8i<|l7 a4C c1w 15 h fun E1 h=>j5 17 h (fun h=>rg<|fL lc h) (fun h=>rg<|(lc.nx h fun hI=>sk [] [1,5] [(1,0)] hI)))) (fun h=>(lc.bk h fun hI=>sk [] [1] [(1,0)] hI))
def b5u(w:m5):Option Bool :=
 ((p7 (fun s:Int=>c0e w s) 0).bind fun x=>x.go (fun r=>some r) fun s=>b5J w)
theorem f4S(w)(r):NF M7 r (c7F w) (fun s=>b5u w):=fun _ h=>PK<|rg<|lp (e0c w) h (fun _ h=>M7.rt h) (f2h w r) fun hI=>sk [] [1,5] [(1,0)] hI
def e8C(w:m5):Int->KS:=fun i1=>⟨M7.k 5 [false,false],(bs 1 (.ptr 1 0 0::(bs 2 (vi i1::(bs 101 []))))),[some [],some [.var 30 (D8 w)]]⟩
def b9f(w:m5)(i1:Int):Option (j9 Bool Int Unit) :=
 (bif decide (i1<(w.d6.length:Int)) then ((idx w.d6 i1).bind fun msg=>((b8F msg).bind fun Q2=>(bif (!Q2) then some (j9.ret false) else some (j9.nxt (m7 (i1+1)))))) else some (j9.brk ()))
theorem d7x(w):LQ M7 (c7F w) (e8C w) (fun s=>b9f w s):=fun lc i1 h=>PK<|rg<|j5 4 h (fun h=>rg<|v5 s8 3 h fun msg hmsg h=>l7 a9C e3j 5 h fun Q2 h=>j5 6 h (fun h=>rg<|fL lc h) (fun h=>rg<|(lc.nx h fun hI=>sk [] [1,4] [(1,0)] hI))) (fun h=>(lc.bk h fun hI=>sk [] [1] [(1,0)] hI))
def b5g(w:m5):Option Bool :=
 ((p7 (fun s:Int=>b9f w s) 0).bind fun x=>x.go (fun r=>some r) fun s=>b5u w)
theorem d9G(w)(r):NF M7 r (d2d w) (fun s=>b5g w):=fun _ h=>PK<|rg<|lp (d7x w) h (fun _ h=>M7.rt h) (f4S w r) fun hI=>sk [] [1,4] [(1,0)] hI
def f0O(w:m5):Int->KS:=fun i=>⟨M7.k 3 [false],(bs 1 (.ptr 1 0 0::(bs 1 (vi i::(bs 102 []))))),[some [],some [.var 30 (D8 w)]]⟩
def b7j(w:m5)(i:Int):Option (j9 Bool Int Unit) :=
 (bif decide (i<(w.a6.length:Int)) then ((idx w.a6 i).bind fun node=>(bif (node.Id != i) then some (j9.ret false) else ((a5A node).bind fun D2=>(bif (!D2) then some (j9.ret false) else some (j9.nxt (m7 (i+1))))))) else some (j9.brk ()))
theorem d7R(w):LQ M7 (d2d w) (f0O w) (fun s=>b7j w s):=fun lc i h=>PK<|rg<|j5 4 h (fun h=>rg<|v5 x6 3 h fun node hnode h=>j5 8 h (fun h=>rg<|fL lc h) (fun h=>J3 x6 12 hnode<|l7 a2B b1g 14 h fun D2 h=>j5 16 h (fun h=>rg<|fL lc h) (fun h=>rg<|(lc.nx h fun hI=>sk [] [1,3] [(1,0)] hI)))) (fun h=>(lc.bk h fun hI=>sk [] [1] [(1,0)] hI))
def b8X(w:m5):Option Bool :=
 (bif ((w.a6.length:Int) != 3) then some false else (bif decide ((w.d6.length:Int)>40) then some false else (bif decide ((w.d8.length:Int)>60) then some false else (bif decide ((w.Told.length:Int)>60) then some false else ((p7 (fun s:Int=>b7j w s) 0).bind fun x=>x.go (fun r=>some r) fun s=>b5g w)))))
theorem c6u{w}:OK M7 [.agg (R1 w)] (b8X w) :=
 o7 _ fun r h=>n6<|j5 4 h (fun h=>rg<|fE h) (fun h=>j5 10 h (fun h=>rg<|fE h) (fun h=>j5 16 h (fun h=>rg<|fE h) (fun h=>j5 21 h (fun h=>rg<|fE h) (fun h=>rg<|lp (d7R w) h (fun _ h=>M7.rt h) (d9G w r) fun hI=>sk [] [1,3] [(1,0)] hI))))
def W1:FS (m5):=⟨75,Tryz.f75,[.val E2 U3],[none],[.val E2 []],fun r=>.agg (T9 r),fun _=>[none],Tryz.func75⟩
def d2O(w:m5):(List j6)->KS:=fun Nodes1=>⟨W1.k 4 [false],(bs 1 (.ptr 1 0 0::(.ptr 2 0 0::(.ptr 3 0 0::(bs 72 []))))),[some [],some [.var 30 (D8 w)],some [.var 30 [.nil,.nil,.nil,.nil]],some [.var 30 [.own 4 0 27 0 Nodes1.length,.nil,.nil,.own 5 0 5 0 (([]:List m9)++w.Told).length]],some [C4 57 27 z7 Nodes1],some [m6 69 5 z4 (([]:List m9)++w.Told)]]⟩
def d34(w:m5)(Nodes1:List j6):(List l8)->KS:=fun Net1=>⟨W1.k 6 [false,false],(bs 1 (.ptr 1 0 0::(.ptr 2 0 0::(.ptr 3 0 0::(bs 72 []))))),[some [],some [.var 30 (D8 w)],some [.var 30 [.nil,.nil,.nil,.nil]],some [.var 30 [.own 4 0 27 0 Nodes1.length,.own 5 0 13 0 Net1.length,.nil,.own 6 0 5 0 (([]:List m9)++w.Told).length]],some [C4 57 27 z7 Nodes1],some [m6 62 13 s8 Net1],some [m6 69 5 z4 (([]:List m9)++w.Told)]]⟩
def c9P(w:m5)(Nodes1:List j6)(Net1:List l8):(List x7)->KS:=fun Asked1=>⟨W1.k 8 [false,false,false],(bs 2 (.ptr 1 0 0::(.ptr 2 0 0::(bs 72 [])))),[some [],some [.var 30 [.nil,.nil,.nil,.nil]],some [.var 30 [.own 3 0 27 0 Nodes1.length,.own 4 0 13 0 Net1.length,.own 5 0 3 0 Asked1.length,.own 6 0 5 0 (([]:List m9)++w.Told).length]],some [C4 57 27 z7 Nodes1],some [m6 62 13 s8 Net1],some [m6 65 3 B4 Asked1],some [m6 69 5 z4 (([]:List m9)++w.Told)]]⟩
def d1i(w:m5)(Nodes1:List j6)(Net1:List l8)(Asked1:List x7):Option m5 :=
 some (m5.mk Nodes1 Net1 Asked1 (([]:List m9)++w.Told))
theorem e9d(w Nodes1 Net1)(r):NF W1 r (c9P w Nodes1 Net1) (fun s=>d1i w Nodes1 Net1 s):=fun Asked1 h=>PK<|rg<|H5 Nodes1 Net1 Asked1 (([]:List m9)++w.Told)<|fE h
def f0M(w:m5)(Nodes1:List j6)(Net1:List l8):((List x7)×Int)->KS:=fun (d8,i2)=>⟨W1.k 7 [false,false],(bs 1 (.ptr 1 0 0::(.ptr 2 0 0::(.ptr 3 0 0::(bs 2 (vi i2::(bs 69 []))))))),[some [],some [.var 30 (D8 w)],some [.var 30 [.nil,.nil,.nil,.nil]],some [.var 30 [.own 4 0 27 0 Nodes1.length,.own 5 0 13 0 Net1.length,.own 7 0 3 0 d8.length,.own 6 0 5 0 (([]:List m9)++w.Told).length]],some [C4 57 27 z7 Nodes1],some [m6 62 13 s8 Net1],some [m6 69 5 z4 (([]:List m9)++w.Told)],some [m6 65 3 B4 d8]]⟩
def b3y(w:m5)(d8:List x7)(i2:Int):Option (j9 m5 ((List x7)×Int) (List x7)) :=
 (bif decide (i2<(w.d8.length:Int)) then ((idx w.d8 i2).bind fun asked=>(t0 ((([]:List n8).length+asked.i6.length)*32<=140737488355328) ((t0 ((d8.length+1)*40<=140737488355328) (some (j9.nxt (d8++[(x7.mk asked.a0 (([]:List n8)++asked.i6))],m7 (i2+1)))))))) else some (j9.brk d8))
theorem e8f(w Nodes1 Net1):LQ W1 (c9P w Nodes1 Net1) (f0M w Nodes1 Net1) (fun s=>b3y w s.1 s.2):=fun lc (d8,i2) h=>PK<|rg<|j5 4 h (fun h=>rg<|v5 B4 5 h fun asked a8i h=>tk 8 []<|J3 B4 12 a8i<|t9 h fun e2 h=>oa 28 0 4 ([]:List n8) asked.i6<|oz 93 4 A0 ([]:List n8) asked.i6<|B9 n8<|ob e2<|tl (15,{v:=some (.own 28 0 4 0 (([]:List n8)++asked.i6).length),e:=some (m6 93 4 A0 (([]:List n8)++asked.i6))})<|s7 (([]:List n8)++asked.i6)<|tk 17 [none,none,some 4]<|t9 h fun e3 h=>F9 18 31 65 3 40 B4 d8 (x7.mk asked.a0 (([]:List n8)++asked.i6)) e3<|E6 (x7.mk asked.a0 (([]:List n8)++asked.i6))<|rg<|(lc.nx h fun hI=>sk [] [1,2,3,6] [(1,0),(2,0),(3,0),(4,0),(5,0),(6,0),(31,0)] hI)) (fun h=>(lc.bk h fun hI=>sk [] [2,3] [(2,0),(3,0),(4,0),(5,0),(7,0),(6,0)] hI))
def c1Y(w:m5)(Nodes1:List j6)(Net1:List l8):Option m5 :=
 ((p7 (fun s:(List x7)×Int=>b3y w s.1 s.2) ([],0)).bind fun x=>x.go (fun r=>some r) fun s=>d1i w Nodes1 Net1 s)
theorem f4m(w Nodes1)(r):NF W1 r (d34 w Nodes1) (fun s=>c1Y w Nodes1 s):=fun Net1 h=>PK<|rg<|lp (e8f w Nodes1 Net1) h (fun _ h=>W1.rt h) (e9d w Nodes1 Net1 r) fun hI=>sk [.own (.cell 3 0 2) 65 3] [1,2,3,6] [(1,0),(2,0),(3,0),(4,0),(5,0),(6,0),(8,0)] hI
def e6Q(w:m5)(Nodes1:List j6):((List l8)×Int)->KS:=fun (d6,i1)=>⟨W1.k 5 [false],(bs 1 (.ptr 1 0 0::(.ptr 2 0 0::(.ptr 3 0 0::(bs 1 (vi i1::(bs 70 []))))))),[some [],some [.var 30 (D8 w)],some [.var 30 [.nil,.nil,.nil,.nil]],some [.var 30 [.own 4 0 27 0 Nodes1.length,.own 6 0 13 0 d6.length,.nil,.own 5 0 5 0 (([]:List m9)++w.Told).length]],some [C4 57 27 z7 Nodes1],some [m6 69 5 z4 (([]:List m9)++w.Told)],some [m6 62 13 s8 d6]]⟩
def b2N(w:m5)(d6:List l8)(i1:Int):Option (j9 m5 ((List l8)×Int) (List l8)) :=
 (bif decide (i1<(w.d6.length:Int)) then ((idx w.d6 i1).bind fun msg=>((a8p msg).bind fun G2=>(t0 ((d6.length+1)*152<=140737488355328) (some (j9.nxt (d6++[G2],m7 (i1+1))))))) else some (j9.brk d6))
theorem e4e(w Nodes1):LQ W1 (d34 w Nodes1) (e6Q w Nodes1) (fun s=>b2N w s.1 s.2):=fun lc (d6,i1) h=>PK<|rg<|j5 4 h (fun h=>rg<|v5 s8 5 h fun msg hmsg h=>l7 b3t c0c 7 h fun G2 h=>tk 8 B8<|t9 h fun e4 h=>F9 9 21 62 13 152 s8 d6 G2 e4<|E6 G2<|rg<|(lc.nx h fun hI=>sk [] [1,2,3,5] [(1,0),(2,0),(3,0),(4,0),(5,0),(21,0)] hI)) (fun h=>(lc.bk h fun hI=>sk [] [1,2,3] [(1,0),(2,0),(3,0),(4,0),(6,0),(5,0)] hI))
def c2r(w:m5)(Nodes1:List j6):Option m5 :=
 ((p7 (fun s:(List l8)×Int=>b2N w s.1 s.2) ([],0)).bind fun x=>x.go (fun r=>some r) fun s=>c1Y w Nodes1 s)
theorem e9a(w)(r):NF W1 r (d2O w) (fun s=>c2r w s):=fun Nodes1 h=>PK<|rg<|lp (e4e w Nodes1) h (fun _ h=>W1.rt h) (f4m w Nodes1 r) fun hI=>sk [.own (.cell 3 0 1) 62 13] [1,2,3,5] [(1,0),(2,0),(3,0),(4,0),(5,0),(7,0)] hI
def d8x(w:m5):((List j6)×Int)->KS:=fun (a6,i)=>⟨W1.k 3 [],(bs 1 (.ptr 1 0 0::(.ptr 2 0 0::(.ptr 3 0 0::(vi i::(bs 71 [])))))),[some [],some [.var 30 (D8 w)],some [.var 30 [.nil,.nil,.nil,.nil]],some [.var 30 [.own 5 0 27 0 a6.length,.nil,.nil,.own 4 0 5 0 (([]:List m9)++w.Told).length]],some [m6 69 5 z4 (([]:List m9)++w.Told)],some [C4 57 27 z7 a6]]⟩
def d7D(l8Copy:j6):List V:=(a6v l8Copy)
def b2B(w:m5)(a6:List j6)(i:Int):Option (j9 m5 ((List j6)×Int) (List j6)) :=
 (bif decide (i<(w.a6.length:Int)) then ((idx w.a6 i).bind fun node=>((a6a node).bind fun l8Copy=>(t0 ((a6.length+1)*392<=140737488355328) (some (j9.nxt (a6++[l8Copy],m7 (i+1))))))) else some (j9.brk a6))
theorem e3b(w):LQ W1 (d2O w) (d8x w) (fun s=>b2B w s.1 s.2):=fun lc (a6,i) h=>PK<|rg<|j5 4 h (fun h=>rg<|v5 x6 5 h fun node hnode h=>l7 a9P b2D 7 h fun l8Copy h=>om (s6.deep false 57 27 1 [(d7D l8Copy)]=C4 57 27 z7 [l8Copy]) rfl<|A2 l8Copy<|tl (8,{a:=.dck [none,none,some 8,some 7,none,none,none,some 1,some 8,none,none,none,some 2,some 2,none,none,some 1,none,some 4,none,none,none,some 2,some 2,none,none,some 7] [none,none,some 106,some 55,none,none,none,some 4,none,none,none,none,none,none,none,none,some 4,none,none,none,none,none,none,none,none,none,some 55],e:=some (C4 57 27 z7 [l8Copy])})<|t9 h fun e5 h=>om (V.own 20 0 27 0 (a6.length+1)=.own 20 0 27 0 (a6++[l8Copy]).length) (by simp)<|om (s6.deep false 57 27 (a6.length+1) (a6.map z7++[z7 l8Copy])=C4 57 27 z7 (a6++[l8Copy])) (c1u rfl)<|s7 a6<|ob e5<|om (1=1) rfl<|tl (9,{a:=.dck [] [],v:=some (.own 20 0 27 0 (a6++[l8Copy]).length),e:=some (C4 57 27 z7 (a6++[l8Copy]))})<|rg<|(lc.nx h fun hI=>sk [] [1,2,3,4] [(1,0),(2,0),(3,0),(4,0),(20,0)] hI)) (fun h=>(lc.bk h fun hI=>sk [] [1,2,3] [(1,0),(2,0),(3,0),(5,0),(4,0)] hI))
def b9D(w:m5):Option m5 :=
 (t0 ((([]:List m9).length+w.Told.length)*40<=140737488355328) (((p7 (fun s:(List j6)×Int=>b2B w s.1 s.2) ([],0)).bind fun x=>x.go (fun r=>some r) fun s=>c2r w s)))
theorem d7P{w}:OK W1 [.agg (R1 w)] (b9D w) :=
 o7 _ fun r h=>n6<|tk 0 []<|t9 h fun e1 h=>oa 6 0 5 ([]:List m9) w.Told<|oz 69 5 z4 ([]:List m9) w.Told<|B9 m9<|ob e1<|tl (3,{v:=some (.own 6 0 5 0 (([]:List m9)++w.Told).length),e:=some (m6 69 5 z4 (([]:List m9)++w.Told))})<|rg<|lp (e3b w) h (fun _ h=>W1.rt h) (e9a w r) fun hI=>sk [.ownD (.cell 8 0 0) 57 27] [1,2,3,4] [(1,0),(2,0),(8,0),(6,0),(11,0)] hI
def a4M:FS ((List r9)×t7):=⟨37,Tryz.f37,[.val [some 3] [some 36]],[some (0,.ptr [some 1,none] []),none,none],[.ptr [some 1,none] [],.val E2 U3,.val [] []],fun r=>u9 36 3 I1 r.1,fun r=>[some (.optr 85 (Z9 r.2)),none,none],Tryz.func37⟩
def c3d:(t7×List r9)->KS:=fun (w1,out1)=>⟨a4M.k 4 [false],(bs 7 (.own 1 0 3 0 out1.length::(bs 22 []))),[some [.var 85 [j8 1 K1 w1.b,vi w1.p],.dead,.dead,.dead,.dead],some [m6 36 3 I1 out1]]⟩
def c7n(w1:t7)(out1:List r9):Option ((List r9)×t7) :=
 some (out1,w1)
theorem f0Z(r):NF a4M r c3d (fun s=>c7n s.1 s.2):=fun (w1,out1) h=>PK<|rg<|s7 out1<|fE h
def d1w(n:Int):(t7×(List r9)×(List m9)×(List x7)×(List l8)×(List j6)×Int)->KS:=fun (r_1,out,Told,d8,d6,a6,i)=>⟨a4M.k 3 [],(.ptr 0 0 0::(bs 1 (vi n::(bs 1 (.ptr 1 0 0::(bs 2 (.own 2 0 3 0 out.length::(vi i::(bs 21 []))))))))),[some [.var 85 [j8 1 K1 r_1.b,vi r_1.p],.dead,.dead,.dead,.dead],some [.var 30 [.own 6 0 27 0 a6.length,.own 5 0 13 0 d6.length,.own 4 0 3 0 d8.length,.own 3 0 5 0 Told.length]],some [m6 36 3 I1 out],some [m6 69 5 z4 Told],some [m6 65 3 B4 d8],some [m6 62 13 s8 d6],some [C4 57 27 z7 a6]]⟩
def e9x(n:Int)(out:List r9)(i:Int)(l9Event:r9×t7×m5):((List j6)×(List l8)×(List x7)×List m9)->KS:=fun (Nodes1,Net1,Asked1,Told1)=>⟨a4M.k 8 [true,true],(.ptr 0 0 0::(bs 1 (vi n::(bs 1 (.ptr 1 0 0::(bs 2 (.own 6 0 3 0 (out++[l9Event.1]).length::(vi i::(bs 21 []))))))))),[some [.var 85 [j8 1 K1 l9Event.2.1.b,vi l9Event.2.1.p],.dead,.dead,.dead,.dead],some [.var 30 [.own 2 0 27 0 Nodes1.length,.own 3 0 13 0 Net1.length,.own 4 0 3 0 Asked1.length,.own 5 0 5 0 Told1.length]],some [C4 57 27 z7 Nodes1],some [m6 62 13 s8 Net1],some [m6 65 3 B4 Asked1],some [m6 69 5 z4 Told1],some [m6 36 3 I1 (out++[l9Event.1])]]⟩
def c5L(out:List r9)(i:Int)(l9Event:r9×t7×m5)(Nodes1:List j6)(Net1:List l8)(Asked1:List x7)(Told1:List m9):Option (j9 ((List r9)×t7) (t7×(List r9)×(List m9)×(List x7)×(List l8)×(List j6)×Int) (t7×List r9)) :=
 some (j9.nxt (l9Event.2.1,out++[l9Event.1],Told1,Asked1,Net1,Nodes1,m7 (i+1)))
theorem e0n(n out i l9Event)(lc:F6 a4M c3d (d1w n)):NL lc (e9x n out i l9Event) (fun s=>c5L out i l9Event s.1 s.2.1 s.2.2.1 s.2.2.2):=fun (Nodes1,Net1,Asked1,Told1) h=>PK<|rg<|(lc.nx h fun hI=>sk [] [0,2,4,7,8] [(1,0),(6,0),(5,0),(4,0),(3,0),(2,0)] hI)
def b4V(n:Int)(r_1:t7)(out:List r9)(Told:List m9)(d8:List x7)(d6:List l8)(a6:List j6)(i:Int):Option (j9 ((List r9)×t7) (t7×(List r9)×(List m9)×(List x7)×(List l8)×(List j6)×Int) (t7×List r9)) :=
 (bif decide (i<n) then ((b8b r_1 (m5.mk a6 d6 d8 Told)).bind fun l9Event=>(t0 (a6.length=l9Event.2.2.a6.length) ((t0 (d6.length=l9Event.2.2.d6.length) ((t0 (d8.length=l9Event.2.2.d8.length) ((t0 (Told.length=l9Event.2.2.Told.length) ((t0 ((out.length+1)*40<=140737488355328) (((((b8X l9Event.2.2).bind fun C3=>(bif C3 then ((b9D l9Event.2.2).bind fun a8W=>((b2A a8W l9Event.1).bind fun a41=>some (l9.brk (a41.a6,a41.d6,a41.d8,a41.Told)))) else some (l9.brk (l9Event.2.2.a6,l9Event.2.2.d6,l9Event.2.2.d8,l9Event.2.2.Told)))):Option (l9 (j9 ((List r9)×t7) (t7×(List r9)×(List m9)×(List x7)×(List l8)×(List j6)×Int) (t7×List r9)) ((List j6)×(List l8)×(List x7)×List m9))).bind fun x=>x.go some fun j=>c5L out i l9Event j.1 j.2.1 j.2.2.1 j.2.2.2)))))))))))) else some (j9.brk (r_1,out)))
set_option maxRecDepth 20000 in
theorem f3D(n):LQ a4M c3d (d1w n) (fun s=>b4V n s.1 s.2.1 s.2.2.1 s.2.2.2.1 s.2.2.2.2.1 s.2.2.2.2.2.1 s.2.2.2.2.2.2):=fun lc (r_1,out,Told,d8,d6,a6,i) h=>PK<|rg<|j5 2 h (fun h=>rg<|l7 b55 f4e 2 h fun l9Event h=>t9 h fun e1 h=>t9 h fun e2 h=>t9 h fun e3 h=>t9 h fun e4 h=>H5 a6 d6 d8 Told<|rg<|s7 l9Event.1.i6<|tk 2 [none,none,some 4]<|t9 h fun e5 h=>F9 3 18 36 3 40 I1 out l9Event.1 e5<|E6 l9Event.1<|A6 h (e0n n out i l9Event lc) fun x2 h hc2=>rg<|A8 h fun C3 c9h h=>cdT (M7.t 1 true C3) h (fun _ h=>om (a0v cx.P 74 [.agg [.sl 27 l9Event.2.2.a6.length (a0S (l9Event.2.2.a6.map z7)),j8 13 s8 l9Event.2.2.d6,j8 3 B4 l9Event.2.2.d8,j8 5 z4 l9Event.2.2.Told]] (M7.R C3) (M7.O C3)) (by simp only [b1p b4K];exact (c6u C3 c9h))<|osc M7 C3 rfl (P8 1)<|om (a6.length=l9Event.2.2.a6.length) (by first|(simp;done)|(simp [e1,e2,e3,e4];done))<|om (d6.length=l9Event.2.2.d6.length) (by first|(simp;done)|(simp [e1,e2,e3,e4];done))<|om (d8.length=l9Event.2.2.d8.length) (by first|(simp;done)|(simp [e1,e2,e3,e4];done))<|om (Told.length=l9Event.2.2.Told.length) (by first|(simp;done)|(simp [e1,e2,e3,e4];done))<|rg<|A8 h fun a8W d8Q h=>om (a0v cx.P 75 [.agg [.sl 27 l9Event.2.2.a6.length (a0S (l9Event.2.2.a6.map z7)),j8 13 s8 l9Event.2.2.d6,j8 3 B4 l9Event.2.2.d8,j8 5 z4 l9Event.2.2.Told]] (W1.R a8W) (W1.O a8W)) (by simp only [b1p b4K];exact (d7P a8W d8Q))<|om (a6.length=l9Event.2.2.a6.length) (by first|(simp;done)|(simp [e1,e2,e3,e4];done))<|om (d6.length=l9Event.2.2.d6.length) (by first|(simp;done)|(simp [e1,e2,e3,e4];done))<|om (d8.length=l9Event.2.2.d8.length) (by first|(simp;done)|(simp [e1,e2,e3,e4];done))<|om (Told.length=l9Event.2.2.Told.length) (by first|(simp;done)|(simp [e1,e2,e3,e4];done))<|tl (W1.t 1 false a8W)<|l7 b2W d6a 3 h fun a41 h=>A9 a8W<|s7 l9Event.1.i6<|(o8 h hc2 fun hI=>sk [] [0,2,4,7,8] [(1,0),(25,0),(25,1),(25,2),(25,3),(18,0)] hI)) (fun _ h=>om (a0v cx.P 74 [.agg [.sl 27 l9Event.2.2.a6.length (a0S (l9Event.2.2.a6.map z7)),j8 13 s8 l9Event.2.2.d6,j8 3 B4 l9Event.2.2.d8,j8 5 z4 l9Event.2.2.Told]] (M7.R C3) (M7.O C3)) (by simp only [b1p b4K];exact (c6u C3 c9h))<|osc M7 C3 rfl (P8 1)<|om (a6.length=l9Event.2.2.a6.length) (by first|(simp;done)|(simp [e1,e2,e3,e4];done))<|om (d6.length=l9Event.2.2.d6.length) (by first|(simp;done)|(simp [e1,e2,e3,e4];done))<|om (d8.length=l9Event.2.2.d8.length) (by first|(simp;done)|(simp [e1,e2,e3,e4];done))<|om (Told.length=l9Event.2.2.Told.length) (by first|(simp;done)|(simp [e1,e2,e3,e4];done))<|(o8 h hc2 fun hI=>om ((.own 6 0 27 0 a6.length:V)=.own 6 0 27 0 l9Event.2.2.a6.length) (by first|(simp;done)|(simp [e1,e2,e3,e4];done))<|om ((.own 5 0 13 0 d6.length:V)=.own 5 0 13 0 l9Event.2.2.d6.length) (by first|(simp;done)|(simp [e1,e2,e3,e4];done))<|om ((.own 4 0 3 0 d8.length:V)=.own 4 0 3 0 l9Event.2.2.d8.length) (by first|(simp;done)|(simp [e1,e2,e3,e4];done))<|om ((.own 3 0 5 0 Told.length:V)=.own 3 0 5 0 l9Event.2.2.Told.length) (by first|(simp;done)|(simp [e1,e2,e3,e4];done))<|sk [.is (.cell 1 0 0) (.own 6 0 27 0 l9Event.2.2.a6.length),.is (.cell 1 0 1) (.own 5 0 13 0 l9Event.2.2.d6.length),.is (.cell 1 0 2) (.own 4 0 3 0 l9Event.2.2.d8.length),.is (.cell 1 0 3) (.own 3 0 5 0 l9Event.2.2.Told.length)] [0,2,4,7,8] [(1,0),(6,0),(5,0),(4,0),(3,0),(18,0)] hI))) (fun h=>(lc.bk h fun hI=>sk [] [7] [(2,0)] hI))
def b5F(r_:t7)(w:m5)(n:Int):Option ((List r9)×t7) :=
 ((p7 (fun s:t7×(List r9)×(List m9)×(List x7)×(List l8)×(List j6)×Int=>b4V n s.1 s.2.1 s.2.2.1 s.2.2.2.1 s.2.2.2.2.1 s.2.2.2.2.2.1 s.2.2.2.2.2.2) (r_,([]:List r9),w.Told,w.d8,w.d6,w.a6,0)).bind fun x=>x.go (fun r=>some r) fun s=>c7n s.1 s.2)
theorem d8j{r_ w n}:OK a4M [.optr 85 (Z9 r_),.agg (T9 w),vi n] (b5F r_ w n) :=
 o7 _ fun r h=>n6<|tk 0 [none,none,some 4]<|rg<|lp (f3D n) h (fun _ h=>a4M.rt h) (f0Z r) fun hI=>om ((.own 3 0 3 0 0:V)=.own 3 0 3 0 ([]:List r9).length) (by simp)<|sk [.is (.tmp 7) (.own 3 0 3 0 ([]:List r9).length)] [0,2,4,7,8] [(1,0),(3,0),(0,4),(0,3),(0,2),(0,1)] hI
def a14:FS (m5×(List r9)×t7):=⟨39,Tryz.f39,[.val E2 U3,.val [some 3] [some 36]],[some (0,.ptr [some 1,none] []),none,none],[.ptr [some 1,none] [],.val E2 U3,.val [some 3] [some 36]],fun r=>.tup [.agg (T9 r.1),u9 36 3 I1 r.2.1],fun r=>[some (.optr 85 (Z9 r.2.2)),none,none],Tryz.func39⟩
def c1M(pick:Int×t7)(num:Int×t7):((List r9)×(List j6)×(List l8)×(List x7)×List m9)->KS:=fun (out2,Nodes1,Net1,Asked1,Told1)=>⟨a14.k 4 [false],(.ptr 0 0 0::(bs 1 (.own 1 0 3 0 out2.length::(bs 1 (.ptr 2 0 0::(bs 1 (.ptr 7 0 0::(bs 1 (vi pick.1::(bs 52 [])))))))))),[some [.var 85 [j8 1 K1 num.2.b,vi num.2.p],.dead,.dead,.dead,.dead,.dead],some [m6 36 3 I1 out2],some [.var 30 [.own 3 0 27 0 Nodes1.length,.own 4 0 13 0 Net1.length,.own 5 0 3 0 Asked1.length,.own 6 0 5 0 Told1.length]],some [C4 57 27 z7 Nodes1],some [m6 62 13 s8 Net1],some [m6 65 3 B4 Asked1],some [m6 69 5 z4 Told1],some [.var 30 [.nil,.nil,.nil,.nil]]]⟩
def e1Z(pick:Int×t7):(t7×(List r9)×(List j6)×(List l8)×(List x7)×List m9)->KS:=fun (w1,out3,Nodes2,Net2,Asked2,Told2)=>⟨a14.k 6 [false,true],(bs 2 (.own 1 0 3 0 out3.length::(bs 1 (.ptr 2 0 0::(bs 1 (.ptr 7 0 0::(bs 1 (vi pick.1::(bs 52 []))))))))),[some [.var 85 [j8 1 K1 w1.b,vi w1.p],.dead,.dead,.dead,.dead,.dead],some [m6 36 3 I1 out3],some [.var 30 [.own 3 0 27 0 Nodes2.length,.own 4 0 13 0 Net2.length,.own 5 0 3 0 Asked2.length,.own 6 0 5 0 Told2.length]],some [C4 57 27 z7 Nodes2],some [m6 62 13 s8 Net2],some [m6 65 3 B4 Asked2],some [m6 69 5 z4 Told2],some [.var 30 [.nil,.nil,.nil,.nil]]]⟩
def b7z(pick:Int×t7)(w1:t7)(out3:List r9)(Nodes2:List j6)(Net2:List l8)(Asked2:List x7)(Told2:List m9):Option (m5×(List r9)×t7) :=
 ((a1i (m5.mk Nodes2 Net2 Asked2 Told2) out3 (r9.mk 7 pick.1 [])).bind fun R9=>some (R9.1,R9.2,w1))
theorem f1F(pick)(r):NF a14 r (e1Z pick) (fun s=>b7z pick s.1 s.2.1 s.2.2.1 s.2.2.2.1 s.2.2.2.2.1 s.2.2.2.2.2):=fun (w1,out3,Nodes2,Net2,Asked2,Told2) h=>PK<|rg<|l7 a2D a22 4 h fun R9 h=>H5 Nodes2 Net2 Asked2 Told2<|s7 out3<|A9 R9.1<|s7 R9.2<|fE h
def c4i(pick:Int×t7)(num:Int×t7)(out2:List r9)(Nodes1:List j6)(Net1:List l8)(Asked1:List x7)(Told1:List m9):Option (m5×(List r9)×t7) :=
 (((bif decide ((Net1.length:Int)>0) then ((F7 num.2 (Net1.length:Int)).bind fun E7=>((a1i (m5.mk Nodes1 Net1 Asked1 Told1) out2 (r9.mk 2 E7.1 [])).bind fun a18=>some (l9.brk (E7.2,a18.2,a18.1.a6,a18.1.d6,a18.1.d8,a18.1.Told)))) else some (l9.brk (num.2,out2,Nodes1,Net1,Asked1,Told1))):Option (l9 (m5×(List r9)×t7) (t7×(List r9)×(List j6)×(List l8)×(List x7)×List m9))).bind fun x=>x.go some fun j=>b7z pick j.1 j.2.1 j.2.2.1 j.2.2.2.1 j.2.2.2.2.1 j.2.2.2.2.2)
theorem f0H(pick num)(r):NF a14 r (c1M pick num) (fun s=>c4i pick num s.1 s.2.1 s.2.2.1 s.2.2.2.1 s.2.2.2.2):=fun (out2,Nodes1,Net1,Asked1,Told1) h=>PK<|A6 h (f1F pick r) fun x1 h hc1=>rg<|j5 3 h (fun h=>rg<|l7 G1 G4 6 h fun E7 h=>l7 a2D a22 8 h fun a18 h=>H5 Nodes1 Net1 Asked1 Told1<|s7 out2<|(o8 h hc1 fun hI=>sk [] [2,4,6,8] [(20,4),(2,0),(20,0),(20,1),(20,2),(20,3),(7,0)] hI)) (fun h=>(o8 h hc1 fun hI=>sk [] [2,4,6,8] [(1,0),(2,0),(3,0),(4,0),(5,0),(6,0),(7,0)] hI))
def c64(pick:Int×t7)(num:Int×t7):((List m9)×(List x7)×(List l8)×(List j6)×(List r9)×Int)->KS:=fun (Told,d8,d6,a6,out1,i)=>⟨a14.k 3 [],(.ptr 0 0 0::(bs 1 (.own 7 0 3 0 out1.length::(bs 1 (.ptr 1 0 0::(bs 1 (.ptr 2 0 0::(bs 1 (vi pick.1::(vi i::(bs 51 []))))))))))),[some [.var 85 [j8 1 K1 num.2.b,vi num.2.p],.dead,.dead,.dead,.dead,.dead],some [.var 30 [.own 6 0 27 0 a6.length,.own 5 0 13 0 d6.length,.own 4 0 3 0 d8.length,.own 3 0 5 0 Told.length]],some [.var 30 [.nil,.nil,.nil,.nil]],some [m6 69 5 z4 Told],some [m6 65 3 B4 d8],some [m6 62 13 s8 d6],some [C4 57 27 z7 a6],some [m6 36 3 I1 out1]]⟩
def d1e(pick:Int×t7)(num:Int×t7)(i:Int):((List r9)×(List j6)×(List l8)×(List x7)×List m9)->KS:=fun (out5,Nodes4,Net4,Asked4,Told4)=>⟨a14.k 5 [true,false],(.ptr 0 0 0::(bs 1 (.own 1 0 3 0 out5.length::(bs 1 (.ptr 2 0 0::(bs 1 (.ptr 7 0 0::(bs 1 (vi pick.1::(vi i::(bs 51 []))))))))))),[some [.var 85 [j8 1 K1 num.2.b,vi num.2.p],.dead,.dead,.dead,.dead,.dead],some [m6 36 3 I1 out5],some [.var 30 [.own 3 0 27 0 Nodes4.length,.own 4 0 13 0 Net4.length,.own 5 0 3 0 Asked4.length,.own 6 0 5 0 Told4.length]],some [C4 57 27 z7 Nodes4],some [m6 62 13 s8 Net4],some [m6 65 3 B4 Asked4],some [m6 69 5 z4 Told4],some [.var 30 [.nil,.nil,.nil,.nil]]]⟩
def c0z(pick:Int×t7)(i:Int)(out5:List r9)(Nodes4:List j6)(Net4:List l8)(Asked4:List x7)(Told4:List m9):Option (j9 (m5×(List r9)×t7) ((List m9)×(List x7)×(List l8)×(List j6)×(List r9)×Int) ((List r9)×(List j6)×(List l8)×(List x7)×List m9)) :=
 ((a1i (m5.mk Nodes4 Net4 Asked4 Told4) out5 (r9.mk 5 pick.1 [])).bind fun a1J=>some (j9.nxt (a1J.1.Told,a1J.1.d8,a1J.1.d6,a1J.1.a6,a1J.2,m7 (i-1))))
theorem e5f(pick num i)(lc:F6 a14 (c1M pick num) (c64 pick num)):NL lc (d1e pick num i) (fun s=>c0z pick i s.1 s.2.1 s.2.2.1 s.2.2.2.1 s.2.2.2.2):=fun (out5,Nodes4,Net4,Asked4,Told4) h=>PK<|rg<|l7 a2D a22 4 h fun a1J h=>H5 Nodes4 Net4 Asked4 Told4<|s7 out5<|rg<|(lc.nx h fun hI=>sk [] [0,2,4,6,8,9] [(2,0),(7,0),(12,3),(12,2),(12,1),(12,0),(12,4)] hI)
def e1y(pick:Int×t7)(num:Int×t7)(i:Int):((List r9)×(List j6)×(List l8)×(List x7)×List m9)->KS:=fun (out4,Nodes3,Net3,Asked3,Told3)=>⟨a14.k 4 [true],(.ptr 0 0 0::(bs 1 (.own 1 0 3 0 out4.length::(bs 1 (.ptr 2 0 0::(bs 1 (.ptr 7 0 0::(bs 1 (vi pick.1::(vi i::(bs 51 []))))))))))),[some [.var 85 [j8 1 K1 num.2.b,vi num.2.p],.dead,.dead,.dead,.dead,.dead],some [m6 36 3 I1 out4],some [.var 30 [.own 3 0 27 0 Nodes3.length,.own 4 0 13 0 Net3.length,.own 5 0 3 0 Asked3.length,.own 6 0 5 0 Told3.length]],some [C4 57 27 z7 Nodes3],some [m6 62 13 s8 Net3],some [m6 65 3 B4 Asked3],some [m6 69 5 z4 Told3],some [.var 30 [.nil,.nil,.nil,.nil]]]⟩
def a6p(out4:List r9)(Nodes3:List j6)(Net3:List l8)(Asked3:List x7)(Told3:List m9):Option (j9 (m5×(List r9)×t7) ((List r9)×(List j6)×(List l8)×(List x7)×List m9) ((List r9)×(List j6)×(List l8)×(List x7)×List m9)) :=
 (bif decide ((Net3.length:Int)>0) then ((a1i (m5.mk Nodes3 Net3 Asked3 Told3) out4 (r9.mk 3 0 [])).bind fun a1U=>some (j9.nxt (a1U.2,a1U.1.a6,a1U.1.d6,a1U.1.d8,a1U.1.Told))) else some (j9.brk (out4,Nodes3,Net3,Asked3,Told3)))
theorem e9f(pick num i):LQ a14 (d1e pick num i) (e1y pick num i) (fun s=>a6p s.1 s.2.1 s.2.2.1 s.2.2.2.1 s.2.2.2.2):=fun lc (out4,Nodes3,Net3,Asked3,Told3) h=>PK<|rg<|j5 3 h (fun h=>rg<|l7 a2D a22 3 h fun a1U h=>H5 Nodes3 Net3 Asked3 Told3<|s7 out4<|(lc.nx h fun hI=>sk [] [0,2,4,6,8,9] [(15,4),(2,0),(15,0),(15,1),(15,2),(15,3),(7,0)] hI)) (fun h=>(lc.bk h fun hI=>sk [] [0,2,4,6,8,9] [(1,0),(2,0),(3,0),(4,0),(5,0),(6,0),(7,0)] hI))
def b0f(pick:Int×t7)(Told:List m9)(d8:List x7)(d6:List l8)(a6:List j6)(out1:List r9)(i:Int):Option (j9 (m5×(List r9)×t7) ((List m9)×(List x7)×(List l8)×(List j6)×(List r9)×Int) ((List r9)×(List j6)×(List l8)×(List x7)×List m9)) :=
 (bif decide (i>0) then ((p7 (fun s:(List r9)×(List j6)×(List l8)×(List x7)×List m9=>a6p s.1 s.2.1 s.2.2.1 s.2.2.2.1 s.2.2.2.2) (out1,a6,d6,d8,Told)).bind fun x=>x.go (fun r=>some (j9.ret r)) fun s=>c0z pick i s.1 s.2.1 s.2.2.1 s.2.2.2.1 s.2.2.2.2) else some (j9.brk (out1,a6,d6,d8,Told)))
theorem e5I(pick num):LQ a14 (c1M pick num) (c64 pick num) (fun s=>b0f pick s.1 s.2.1 s.2.2.1 s.2.2.2.1 s.2.2.2.2.1 s.2.2.2.2.2):=fun lc (Told,d8,d6,a6,out1,i) h=>PK<|rg<|j5 1 h (fun h=>lp (e9f pick num i) h (fun _ h=>lc.rt h) (e5f pick num i lc) fun hI=>sk [] [0,2,4,6,8,9] [(7,0),(1,0),(6,0),(5,0),(4,0),(3,0),(2,0)] hI) (fun h=>(lc.bk h fun hI=>sk [] [0,2,4,6,8] [(7,0),(1,0),(6,0),(5,0),(4,0),(3,0),(2,0)] hI))
def b8O(r_:t7)(w:m5)(out:List r9):Option (m5×(List r9)×t7) :=
 ((F7 r_ 3).bind fun pick=>((a6M pick.2 [3,8,20]).bind fun num=>((p7 (fun s:(List m9)×(List x7)×(List l8)×(List j6)×(List r9)×Int=>b0f pick s.1 s.2.1 s.2.2.1 s.2.2.2.1 s.2.2.2.2.1 s.2.2.2.2.2) (w.Told,w.d8,w.d6,w.a6,out,num.1)).bind fun x=>x.go (fun r=>some r) fun s=>c4i pick num s.1 s.2.1 s.2.2.1 s.2.2.2.1 s.2.2.2.2)))
theorem f4w{r_ w out}:OK a14 [.optr 85 (Z9 r_),.agg (T9 w),u9 36 3 I1 out] (b8O r_ w out) :=
 o7 _ fun r h=>n6<|l7 G1 G4 1 h fun pick h=>rg<|tk 1 []<|l7 a93 b16 2 h fun num h=>om (3=[3,8,20].length) (by simp)<|lp (e5I pick num) h (fun _ h=>a14.rt h) (f0H pick num r) fun hI=>sk [] [0,2,4,6,8,9] [(1,0),(2,0),(0,4),(0,3),(0,2),(0,1),(0,5)] hI
def Z8:FS ((List r9)×t7):=⟨12,Tryz.f12,[.val [some 3] [some 36]],[some (0,.ptr [some 1,none] [])],[.ptr [some 1,none] []],fun r=>u9 36 3 I1 r.1,fun r=>[some (.optr 85 (Z9 r.2))],Tryz.func12⟩
def f1c:(t7×(List j6)×(List l8)×(List x7)×(List m9)×List r9)->KS:=fun (r_1,a6,d6,d8,Told,out)=>⟨Z8.k 5 [false,true],(.ptr 0 0 0::(bs 2 (.ptr 1 0 0::(.own 6 0 3 0 out.length::(bs 126 []))))),[some [.var 85 [j8 1 K1 r_1.b,vi r_1.p]],some [.var 30 [.own 2 0 27 0 a6.length,.own 3 0 13 0 d6.length,.own 4 0 3 0 d8.length,.own 5 0 5 0 Told.length]],some [C4 57 27 z7 a6],some [m6 62 13 s8 d6],some [m6 65 3 B4 d8],some [m6 69 5 z4 Told],some [m6 36 3 I1 out]]⟩
def b5K:(t7×List r9)->KS:=fun (w,out2)=>⟨Z8.k 7 [false,true,false],(bs 4 (.own 1 0 3 0 out2.length::(bs 126 []))),[some [.var 85 [j8 1 K1 w.b,vi w.p]],some [m6 36 3 I1 out2]]⟩
def d5j(w:t7)(out2:List r9):Option ((List r9)×t7) :=
 some (out2,w)
theorem e6X(r):NF Z8 r b5K (fun s=>d5j s.1 s.2):=fun (w,out2) h=>PK<|rg<|s7 out2<|fE h
def c2S:(t7×(List j6)×(List l8)×(List x7)×(List m9)×(List r9)×Int)->KS:=fun (r_2,Nodes1,Net1,Asked1,Told1,out1,i)=>⟨Z8.k 6 [false,true],(.ptr 0 0 0::(bs 2 (.ptr 1 0 0::(.own 6 0 3 0 out1.length::(vi i::(bs 125 [])))))),[some [.var 85 [j8 1 K1 r_2.b,vi r_2.p]],some [.var 30 [.own 2 0 27 0 Nodes1.length,.own 3 0 13 0 Net1.length,.own 4 0 3 0 Asked1.length,.own 5 0 5 0 Told1.length]],some [C4 57 27 z7 Nodes1],some [m6 62 13 s8 Net1],some [m6 65 3 B4 Asked1],some [m6 69 5 z4 Told1],some [m6 36 3 I1 out1]]⟩
def c46(i:Int):(t7×(List j6)×(List l8)×(List x7)×(List m9)×List r9)->KS:=fun (r_4,Nodes3,Net3,Asked3,Told3,out4)=>⟨Z8.k 9 [false,true,true,false],(.ptr 0 0 0::(bs 2 (.ptr 1 0 0::(.own 6 0 3 0 out4.length::(vi i::(bs 125 [])))))),[some [.var 85 [j8 1 K1 r_4.b,vi r_4.p]],some [.var 30 [.own 2 0 27 0 Nodes3.length,.own 3 0 13 0 Net3.length,.own 4 0 3 0 Asked3.length,.own 5 0 5 0 Told3.length]],some [C4 57 27 z7 Nodes3],some [m6 62 13 s8 Net3],some [m6 65 3 B4 Asked3],some [m6 69 5 z4 Told3],some [m6 36 3 I1 out4]]⟩
def e0Q(i:Int):(t7×(List j6)×(List l8)×(List x7)×(List m9)×List r9)->KS:=fun (r_5,Nodes4,Net4,Asked4,Told4,out5)=>⟨Z8.k 12 [false,true,true,false,true],(.ptr 0 0 0::(bs 2 (.ptr 1 0 0::(.own 6 0 3 0 out5.length::(vi i::(bs 125 [])))))),[some [.var 85 [j8 1 K1 r_5.b,vi r_5.p]],some [.var 30 [.own 2 0 27 0 Nodes4.length,.own 3 0 13 0 Net4.length,.own 4 0 3 0 Asked4.length,.own 5 0 5 0 Told4.length]],some [C4 57 27 z7 Nodes4],some [m6 62 13 s8 Net4],some [m6 65 3 B4 Asked4],some [m6 69 5 z4 Told4],some [m6 36 3 I1 out5]]⟩
def b4R(i:Int)(r_5:t7)(Nodes4:List j6)(Net4:List l8)(Asked4:List x7)(Told4:List m9)(out5:List r9):Option (j9 ((List r9)×t7) (t7×(List j6)×(List l8)×(List x7)×(List m9)×(List r9)×Int) (t7×List r9)) :=
 ((F7 r_5 3).bind fun a25=>((a1i (m5.mk Nodes4 Net4 Asked4 Told4) out5 (r9.mk 6 a25.1 [])).bind fun a1J=>some (j9.nxt (a25.2,a1J.1.a6,a1J.1.d6,a1J.1.d8,a1J.1.Told,a1J.2,m7 (i-1)))))
theorem e4E(i)(lc:F6 Z8 b5K c2S):NL lc (e0Q i) (fun s=>b4R i s.1 s.2.1 s.2.2.1 s.2.2.2.1 s.2.2.2.2.1 s.2.2.2.2.2):=fun (r_5,Nodes4,Net4,Asked4,Told4,out5) h=>PK<|rg<|l7 G1 G4 3 h fun a25 h=>l7 a2D a22 5 h fun a1J h=>H5 Nodes4 Net4 Asked4 Told4<|s7 out5<|rg<|(lc.nx h fun hI=>sk [] [0,3,4,5] [(1,0),(12,0),(12,1),(12,2),(12,3),(12,4)] hI)
def c4S(i:Int)(r_4:t7)(Nodes3:List j6)(Net3:List l8)(Asked3:List x7)(Told3:List m9)(out4:List r9):Option (j9 ((List r9)×t7) (t7×(List j6)×(List l8)×(List x7)×(List m9)×(List r9)×Int) (t7×List r9)) :=
 ((F7 r_4 4).bind fun X9=>(((bif (X9.1==0) then ((F7 X9.2 3).bind fun a8Y=>((a1i (m5.mk Nodes3 Net3 Asked3 Told3) out4 (r9.mk 7 a8Y.1 [])).bind fun a1U=>some (l9.brk (a8Y.2,a1U.1.a6,a1U.1.d6,a1U.1.d8,a1U.1.Told,a1U.2)))) else (bif (X9.1==1) then ((F7 X9.2 3).bind fun a7l=>((a1i (m5.mk Nodes3 Net3 Asked3 Told3) out4 (r9.mk 5 a7l.1 [])).bind fun a9V=>some (l9.brk (a7l.2,a9V.1.a6,a9V.1.d6,a9V.1.d8,a9V.1.Told,a9V.2)))) else some (l9.brk (X9.2,Nodes3,Net3,Asked3,Told3,out4)))):Option (l9 (j9 ((List r9)×t7) (t7×(List j6)×(List l8)×(List x7)×(List m9)×(List r9)×Int) (t7×List r9)) (t7×(List j6)×(List l8)×(List x7)×(List m9)×List r9))).bind fun x=>x.go some fun j=>b4R i j.1 j.2.1 j.2.2.1 j.2.2.2.1 j.2.2.2.2.1 j.2.2.2.2.2))
theorem f4s(i)(lc:F6 Z8 b5K c2S):NL lc (c46 i) (fun s=>c4S i s.1 s.2.1 s.2.2.1 s.2.2.2.1 s.2.2.2.2.1 s.2.2.2.2.2):=fun (r_4,Nodes3,Net3,Asked3,Told3,out4) h=>PK<|rg<|l7 G1 G4 1 h fun X9 h=>A6 h (e4E i lc) fun x2 h hc2=>rg<|j5 1 h (fun h=>rg<|l7 G1 G4 3 h fun a8Y h=>l7 a2D a22 5 h fun a1U h=>H5 Nodes3 Net3 Asked3 Told3<|s7 out4<|(o8 h hc2 fun hI=>sk [] [0,3,4,5] [(1,0),(16,0),(16,1),(16,2),(16,3),(16,4)] hI)) (fun h=>rg<|j5 1 h (fun h=>rg<|l7 G1 G4 3 h fun a7l h=>l7 a2D a22 5 h fun a9V h=>H5 Nodes3 Net3 Asked3 Told3<|s7 out4<|(o8 h hc2 fun hI=>sk [] [0,3,4,5] [(1,0),(18,0),(18,1),(18,2),(18,3),(18,4)] hI)) (fun h=>(o8 h hc2 fun hI=>sk [] [0,3,4,5] [(1,0),(2,0),(3,0),(4,0),(5,0),(6,0)] hI)))
def d5p(i:Int):(t7×(List j6)×(List l8)×(List x7)×(List m9)×List r9)->KS:=fun (r_3,Nodes2,Net2,Asked2,Told2,out3)=>⟨Z8.k 8 [false,true,true],(.ptr 0 0 0::(bs 2 (.ptr 1 0 0::(.own 6 0 3 0 out3.length::(vi i::(bs 125 [])))))),[some [.var 85 [j8 1 K1 r_3.b,vi r_3.p]],some [.var 30 [.own 2 0 27 0 Nodes2.length,.own 3 0 13 0 Net2.length,.own 4 0 3 0 Asked2.length,.own 5 0 5 0 Told2.length]],some [C4 57 27 z7 Nodes2],some [m6 62 13 s8 Net2],some [m6 65 3 B4 Asked2],some [m6 69 5 z4 Told2],some [m6 36 3 I1 out3]]⟩
def e8i(i:Int):(t7×(List j6)×(List l8)×(List x7)×(List m9)×List r9)->KS:=fun (r_6,Nodes5,Net5,Asked5,Told5,out6)=>⟨Z8.k 11 [false,true,true,true,true],(.ptr 0 0 0::(bs 2 (.ptr 1 0 0::(.own 6 0 3 0 out6.length::(vi i::(bs 125 [])))))),[some [.var 85 [j8 1 K1 r_6.b,vi r_6.p]],some [.var 30 [.own 2 0 27 0 Nodes5.length,.own 3 0 13 0 Net5.length,.own 4 0 3 0 Asked5.length,.own 5 0 5 0 Told5.length]],some [C4 57 27 z7 Nodes5],some [m6 62 13 s8 Net5],some [m6 65 3 B4 Asked5],some [m6 69 5 z4 Told5],some [m6 36 3 I1 out6]]⟩
def b7P(r_6:t7)(Nodes5:List j6)(Net5:List l8)(Asked5:List x7)(Told5:List m9)(out6:List r9):Option (j9 ((List r9)×t7) (t7×(List j6)×(List l8)×(List x7)×(List m9)×List r9) (t7×(List j6)×(List l8)×(List x7)×(List m9)×List r9)) :=
 ((F7 r_6 (Net5.length:Int)).bind fun a5k=>((a6M a5k.2 [0,0,a5k.1]).bind fun a7G=>((a1i (m5.mk Nodes5 Net5 Asked5 Told5) out6 (r9.mk 2 a7G.1 [])).bind fun b1l=>some (j9.nxt (a7G.2,b1l.1.a6,b1l.1.d6,b1l.1.d8,b1l.1.Told,b1l.2)))))
theorem e0K(i)(lc:F6 Z8 (c46 i) (d5p i)):NL lc (e8i i) (fun s=>b7P s.1 s.2.1 s.2.2.1 s.2.2.2.1 s.2.2.2.2.1 s.2.2.2.2.2):=fun (r_6,Nodes5,Net5,Asked5,Told5,out6) h=>PK<|rg<|l7 G1 G4 7 h fun a5k h=>tk 8 []<|l7 a93 b16 9 h fun a7G h=>om (3=[0,0,a5k.1].length) (by simp)<|l7 a2D a22 11 h fun b1l h=>H5 Nodes5 Net5 Asked5 Told5<|s7 out6<|(lc.nx h fun hI=>sk [] [0,3,4,5] [(1,0),(18,0),(18,1),(18,2),(18,3),(18,4)] hI)
def b2y(r_3:t7)(Nodes2:List j6)(Net2:List l8)(Asked2:List x7)(Told2:List m9)(out3:List r9):Option (j9 ((List r9)×t7) (t7×(List j6)×(List l8)×(List x7)×(List m9)×List r9) (t7×(List j6)×(List l8)×(List x7)×(List m9)×List r9)) :=
 (bif decide ((Net2.length:Int)>0) then ((F7 r_3 9).bind fun a4H=>(bif decide (a4H.1>0) then (bif decide ((out3.length:Int)<200) then ((((F7 a4H.2 8).bind fun a6X=>(bif (a6X.1==0) then ((F7 a6X.2 (Net2.length:Int)).bind fun a7h=>((a1i (m5.mk Nodes2 Net2 Asked2 Told2) out3 (r9.mk 4 a7h.1 [])).bind fun b0l=>some (l9.brk (a7h.2,b0l.1.a6,b0l.1.d6,b0l.1.d8,b0l.1.Told,b0l.2)))) else some (l9.brk (a6X.2,Nodes2,Net2,Asked2,Told2,out3)))):Option (l9 (j9 ((List r9)×t7) (t7×(List j6)×(List l8)×(List x7)×(List m9)×List r9) (t7×(List j6)×(List l8)×(List x7)×(List m9)×List r9)) (t7×(List j6)×(List l8)×(List x7)×(List m9)×List r9))).bind fun x=>x.go some fun j=>b7P j.1 j.2.1 j.2.2.1 j.2.2.2.1 j.2.2.2.2.1 j.2.2.2.2.2) else some (j9.brk (a4H.2,Nodes2,Net2,Asked2,Told2,out3))) else some (j9.brk (a4H.2,Nodes2,Net2,Asked2,Told2,out3)))) else some (j9.brk (r_3,Nodes2,Net2,Asked2,Told2,out3)))
theorem d6R(i):LQ Z8 (c46 i) (d5p i) (fun s=>b2y s.1 s.2.1 s.2.2.1 s.2.2.2.1 s.2.2.2.2.1 s.2.2.2.2.2):=fun lc (r_3,Nodes2,Net2,Asked2,Told2,out3) h=>PK<|rg<|j5 4 h (fun h=>l7 G1 G4 6 h fun a4H h=>j5 9 h (fun h=>j5 13 h (fun h=>A6 h (e0K i lc) fun x3 h hc3=>rg<|l7 G1 G4 1 h fun a6X h=>j5 2 h (fun h=>rg<|l7 G1 G4 6 h fun a7h h=>l7 a2D a22 8 h fun b0l h=>H5 Nodes2 Net2 Asked2 Told2<|s7 out3<|(o8 h hc3 fun hI=>sk [] [0,3,4,5] [(1,0),(32,0),(32,1),(32,2),(32,3),(32,4)] hI)) (fun h=>(o8 h hc3 fun hI=>sk [] [0,3,4,5] [(1,0),(2,0),(3,0),(4,0),(5,0),(6,0)] hI))) (fun h=>(lc.bk h fun hI=>sk [] [0,3,4,5] [(1,0),(2,0),(3,0),(4,0),(5,0),(6,0)] hI))) (fun h=>(lc.bk h fun hI=>sk [] [0,3,4,5] [(1,0),(2,0),(3,0),(4,0),(5,0),(6,0)] hI))) (fun h=>(lc.bk h fun hI=>sk [] [0,3,4,5] [(1,0),(2,0),(3,0),(4,0),(5,0),(6,0)] hI))
def a9w(r_2:t7)(Nodes1:List j6)(Net1:List l8)(Asked1:List x7)(Told1:List m9)(out1:List r9)(i:Int):Option (j9 ((List r9)×t7) (t7×(List j6)×(List l8)×(List x7)×(List m9)×(List r9)×Int) (t7×List r9)) :=
 (bif decide (i>0) then ((F7 r_2 3).bind fun Y9=>((a5t Y9.2).bind fun a46=>((a1i (m5.mk Nodes1 Net1 Asked1 Told1) out1 (r9.mk 1 Y9.1 a46.1)).bind fun a18=>((p7 (fun s:t7×(List j6)×(List l8)×(List x7)×(List m9)×List r9=>b2y s.1 s.2.1 s.2.2.1 s.2.2.2.1 s.2.2.2.2.1 s.2.2.2.2.2) (a46.2,a18.1.a6,a18.1.d6,a18.1.d8,a18.1.Told,a18.2)).bind fun x=>x.go (fun r=>some (j9.ret r)) fun s=>c4S i s.1 s.2.1 s.2.2.1 s.2.2.2.1 s.2.2.2.2.1 s.2.2.2.2.2)))) else some (j9.brk (r_2,out1)))
theorem e1d:LQ Z8 b5K c2S (fun s=>a9w s.1 s.2.1 s.2.2.1 s.2.2.2.1 s.2.2.2.2.1 s.2.2.2.2.2.1 s.2.2.2.2.2.2):=fun lc (r_2,Nodes1,Net1,Asked1,Told1,out1,i) h=>PK<|rg<|j5 1 h (fun h=>rg<|l7 G1 G4 3 h fun Y9 h=>l7 a2T b2n 5 h fun a46 h=>l7 a2D a22 7 h fun a18 h=>H5 Nodes1 Net1 Asked1 Told1<|C7 out1 a46.1<|lp (d6R i) h (fun _ h=>lc.rt h) (f4s i lc) fun hI=>sk [] [0,3,4,5] [(1,0),(16,0),(16,1),(16,2),(16,3),(16,4)] hI) (fun h=>(lc.bk h fun hI=>sk [] [4] [(6,0)] hI))
def b90(r_1:t7)(a6:List j6)(d6:List l8)(d8:List x7)(Told:List m9)(out:List r9):Option ((List r9)×t7) :=
 ((F7 r_1 3).bind fun a0o=>((p7 (fun s:t7×(List j6)×(List l8)×(List x7)×(List m9)×(List r9)×Int=>a9w s.1 s.2.1 s.2.2.1 s.2.2.2.1 s.2.2.2.2.1 s.2.2.2.2.2.1 s.2.2.2.2.2.2) (a0o.2,a6,d6,d8,Told,out,m7 (3+a0o.1))).bind fun x=>x.go (fun r=>some r) fun s=>d5j s.1 s.2))
theorem f0S(r):NF Z8 r f1c (fun s=>b90 s.1 s.2.1 s.2.2.1 s.2.2.2.1 s.2.2.2.2.1 s.2.2.2.2.2):=fun (r_1,a6,d6,d8,Told,out) h=>PK<|rg<|l7 G1 G4 1 h fun a0o h=>lp (e1d) h (fun _ h=>Z8.rt h) (e6X r) fun hI=>sk [] [0,3,4,5] [(1,0),(2,0),(3,0),(4,0),(5,0),(6,0)] hI
def b95(r_:t7):Option ((List r9)×t7) :=
 ((b3W).bind fun a4O=>((F7 r_ 3).bind fun pick=>((a1i a4O [] (r9.mk 5 pick.1 [])).bind fun R9=>((F7 pick.2 3).bind fun E7=>(bif decide (E7.1>0) then ((a6M E7.2 [10,30,60,90]).bind fun num=>((b5F num.2 R9.1 num.1).bind fun a8D=>(t0 ((R9.2.length+a8D.1.length)*40<=140737488355328) (some (R9.2++a8D.1,a8D.2))))) else ((((F7 E7.2 5).bind fun a6U=>(bif (a6U.1==0) then ((b8O a6U.2 R9.1 R9.2).bind fun a89=>some (l9.brk (a89.2.2,a89.1.a6,a89.1.d6,a89.1.d8,a89.1.Told,a89.2.1))) else some (l9.brk (a6U.2,R9.1.a6,R9.1.d6,R9.1.d8,R9.1.Told,R9.2)))):Option (l9 ((List r9)×t7) (t7×(List j6)×(List l8)×(List x7)×(List m9)×List r9))).bind fun x=>x.go some fun j=>b90 j.1 j.2.1 j.2.2.1 j.2.2.2.1 j.2.2.2.2.1 j.2.2.2.2.2))))))
theorem e8o{r_}:OK Z8 [.optr 85 (Z9 r_)] (b95 r_) :=
 o7 _ fun r h=>n6<|l7 a5T c8Z 0 h fun a4O h=>l7 G1 G4 2 h fun pick h=>l7 a2D a22 4 h fun R9 h=>A9 a4O<|rg<|l7 G1 G4 1 h fun E7 h=>j5 2 h (fun h=>rg<|tk 4 []<|l7 a93 b16 5 h fun num h=>om (4=[10,30,60,90].length) (by simp)<|l7 a4M d8j 6 h fun a8D h=>A9 R9.1<|t9 h fun e1 h=>apL 7 23 36 3 40 I1 R9.2 a8D.1 e1<|C7 a8D.1 (R9.2++a8D.1)<|fE h) (fun h=>A6 h (f0S r) fun x1 h hc1=>rg<|l7 G1 G4 1 h fun a6U h=>j5 2 h (fun h=>rg<|l7 a14 f4w 3 h fun a89 h=>A9 R9.1<|s7 R9.2<|(o8 h hc1 fun hI=>sk [] [0,3,4] [(10,0),(22,0),(22,1),(22,2),(22,3),(22,4)] hI)) (fun h=>(o8 h hc1 fun hI=>sk [] [0,3,4] [(10,0),(6,0),(6,1),(6,2),(6,3),(6,4)] hI)))
def c7K:FS (List r9):=⟨4,Tryz.f4,[.val [some 3] []],[none],[.val [some 1] []],fun r=>j8 3 I1 r,fun _=>[none],Tryz.func4⟩
def b7o(code:List Int):Option (List r9) :=
 ((b41 code).bind fun c89=>((b95 c89).bind fun c2X=>some c2X.1))
theorem f4K{code}:OK c7K [j8 1 K1 code] (b7o code) :=
 o7 _ fun r h=>n6<|l7 b9j d7W 1 h fun c89 h=>l7 Z8 e8o 2 h fun c2X h=>s7 c2X.1<|fE h
def D1:FS (Bool):=⟨20,Tryz.f20,[.val [] []],[none,none,none],[.val [] [],.val [] [],.val [] []],fun r=>.b r,fun _=>[none,none,none],Tryz.func20⟩
def D4(n:Int)(low:Int)(high:Int):Option Bool :=
 (bif decide (n>=low) then some (decide (n<=high)) else some false)
theorem E9{n low high}:OK D1 [vi n,vi low,vi high] (D4 n low high) :=
 o7 _ fun r h=>n6<|j5 3 h (fun h=>fE h) (fun h=>fE h)
def d0n:FS (j6):=⟨14,Tryz.f14,[.val A7 []],[none],[.val [] []],fun r=>.agg (x6 r),fun _=>[none],Tryz.func14⟩
def b49(id:Int):Option j6 :=
 ((D4 id 0 2).bind fun in_=>(bif (!in_) then some (j6.mk 0 (z0.mk 0 []) [] 0 0 0 [] [] (m4.mk false (n9.mk 0 0) (n5.mk [] [] 0 0)) [] false [] (m4.mk false (n9.mk 0 0) (n5.mk [] [] 0 0)) []) else some (j6.mk id (z0.mk 0 []) [] 0 0 0 [] [] (m4.mk false (n9.mk 0 0) (n5.mk [] [] 0 0)) [] false [] (m4.mk false (n9.mk 0 0) (n5.mk [] [] 0 0)) [])))
theorem f3V{id}:OK d0n [vi id] (b49 id) :=
 o7 _ fun r h=>n6<|l7 D1 E9 1 h fun in_ h=>j5 2 h (fun h=>rg<|fE h) (fun h=>rg<|fE h)
def c8l:FS (List j6):=⟨41,Tryz.f41,[.val [some 27] [some 57]],[none],[.val [some 27] []],fun r=>u9 57 27 x6 r,fun _=>[none],Tryz.func41⟩
def c49(list:List j6):Option (List j6) :=
 (bif ((list.length:Int)==0) then some [] else (t0 (0<=(list.length:Int)/\(list.length:Int)*392<=140737488355328) ((t0 (list.length=(f5u (list.length:Int).toNat (j6.mk 0 (z0.mk 0 []) [] 0 0 0 [] [] (m4.mk false (n9.mk 0 0) (n5.mk [] [] 0 0)) [] false [] (m4.mk false (n9.mk 0 0) (n5.mk [] [] 0 0)) [])).length) (some list)))))
theorem f4o{list}:OK c8l [j8 27 x6 list] (c49 list) :=
 o7 _ fun r h=>n6<|j5 2 h (fun h=>rg<|fE h) (fun h=>rg<|t9 h fun e1 h=>R8 2 7 57 27 392 x6 (j6.mk 0 (z0.mk 0 []) [] 0 0 0 [] [] (m4.mk false (n9.mk 0 0) (n5.mk [] [] 0 0)) [] false [] (m4.mk false (n9.mk 0 0) (n5.mk [] [] 0 0)) []) c4N (.ck A7) e1 (by decide) (by rfl)<|rg<|t9 h fun e2 h=>om (s6.row 57 27 (f5u (list.length:Int).toNat (j6.mk 0 (z0.mk 0 []) [] 0 0 0 [] [] (m4.mk false (n9.mk 0 0) (n5.mk [] [] 0 0)) [] false [] (m4.mk false (n9.mk 0 0) (n5.mk [] [] 0 0)) [])).length (list.map x6)=m6 57 27 x6 list) (a1w e2)<|s7 (f5u (list.length:Int).toNat (j6.mk 0 (z0.mk 0 []) [] 0 0 0 [] [] (m4.mk false (n9.mk 0 0) (n5.mk [] [] 0 0)) [] false [] (m4.mk false (n9.mk 0 0) (n5.mk [] [] 0 0)) []))<|ob e2<|tl (2,{e:=some (m6 57 27 x6 list)})<|rg<|om ((f5u (list.length:Int).toNat (j6.mk 0 (z0.mk 0 []) [] 0 0 0 [] [] (m4.mk false (n9.mk 0 0) (n5.mk [] [] 0 0)) [] false [] (m4.mk false (n9.mk 0 0) (n5.mk [] [] 0 0)) [])).length=list.length) (by simp)<|fE h)
def c7B:FS (List l8):=⟨77,Tryz.f77,[.val [some 13] [some 62]],[none],[.val [some 13] []],fun r=>u9 62 13 s8 r,fun _=>[none],Tryz.func77⟩
def c1k(list:List l8):Option (List l8) :=
 (bif ((list.length:Int)==0) then some [] else (t0 (0<=(list.length:Int)/\(list.length:Int)*152<=140737488355328) ((t0 (list.length=(f5u (list.length:Int).toNat (l8.mk 0 0 0 0 0 (m4.mk false (n9.mk 0 0) (n5.mk [] [] 0 0)) [])).length) (some list)))))
theorem f1K{list}:OK c7B [j8 13 s8 list] (c1k list) :=
 o7 _ fun r h=>n6<|j5 2 h (fun h=>rg<|fE h) (fun h=>rg<|t9 h fun e1 h=>R8 2 7 62 13 152 s8 (l8.mk 0 0 0 0 0 (m4.mk false (n9.mk 0 0) (n5.mk [] [] 0 0)) []) c2j (.ck B8) e1 (by decide) (by rfl)<|rg<|t9 h fun e2 h=>om (s6.row 62 13 (f5u (list.length:Int).toNat (l8.mk 0 0 0 0 0 (m4.mk false (n9.mk 0 0) (n5.mk [] [] 0 0)) [])).length (list.map s8)=m6 62 13 s8 list) (a1w e2)<|s7 (f5u (list.length:Int).toNat (l8.mk 0 0 0 0 0 (m4.mk false (n9.mk 0 0) (n5.mk [] [] 0 0)) []))<|ob e2<|tl (2,{e:=some (m6 62 13 s8 list)})<|rg<|om ((f5u (list.length:Int).toNat (l8.mk 0 0 0 0 0 (m4.mk false (n9.mk 0 0) (n5.mk [] [] 0 0)) [])).length=list.length) (by simp)<|fE h)
def a2r:FS (List q8):=⟨141,Tryz.f141,[.val [some 2] [some 164]],[none],[.val [some 2] []],fun r=>u9 164 2 v6 r,fun _=>[none],Tryz.func141⟩
def a3s(list:List q8):Option (List q8) :=
 (bif ((list.length:Int)==0) then some [] else (t0 (0<=(list.length:Int)/\(list.length:Int)*16<=140737488355328) ((t0 (list.length=(f5u (list.length:Int).toNat (q8.mk 0 0)).length) (some list)))))
theorem b05{list}:OK a2r [j8 2 v6 list] (a3s list) :=
 o7 _ fun r h=>n6<|j5 2 h (fun h=>rg<|fE h) (fun h=>rg<|t9 h fun e1 h=>R8 2 7 164 2 16 v6 (q8.mk 0 0) c25 (.none) e1 (by decide) (by rfl)<|rg<|t9 h fun e2 h=>om (s6.row 164 2 (f5u (list.length:Int).toNat (q8.mk 0 0)).length (list.map v6)=m6 164 2 v6 list) (a1w e2)<|s7 (f5u (list.length:Int).toNat (q8.mk 0 0))<|ob e2<|tl (2,{e:=some (m6 164 2 v6 list)})<|rg<|om ((f5u (list.length:Int).toNat (q8.mk 0 0)).length=list.length) (by simp)<|fE h)
def b9g:FS (List p6):=⟨142,Tryz.f142,[.val [some 2] [some 166]],[none],[.val [some 2] []],fun r=>u9 166 2 w8 r,fun _=>[none],Tryz.func142⟩
def a7L(list:List p6):Option (List p6) :=
 (bif ((list.length:Int)==0) then some [] else (t0 (0<=(list.length:Int)/\(list.length:Int)*16<=140737488355328) ((t0 (list.length=(f5u (list.length:Int).toNat (p6.mk 0 0)).length) (some list)))))
theorem d5b{list}:OK b9g [j8 2 w8 list] (a7L list) :=
 o7 _ fun r h=>n6<|j5 2 h (fun h=>rg<|fE h) (fun h=>rg<|t9 h fun e1 h=>R8 2 7 166 2 16 w8 (p6.mk 0 0) c1G (.none) e1 (by decide) (by rfl)<|rg<|t9 h fun e2 h=>om (s6.row 166 2 (f5u (list.length:Int).toNat (p6.mk 0 0)).length (list.map w8)=m6 166 2 w8 list) (a1w e2)<|s7 (f5u (list.length:Int).toNat (p6.mk 0 0))<|ob e2<|tl (2,{e:=some (m6 166 2 w8 list)})<|rg<|om ((f5u (list.length:Int).toNat (p6.mk 0 0)).length=list.length) (by simp)<|fE h)
def d0J:FS (n5):=⟨96,Tryz.f96,[.val O2 []],[none],[.val O2 []],fun r=>.agg (Q9 r),fun _=>[none],Tryz.func96⟩
def c3S(r_:n5):Option n5 :=
 ((a3s r_.b5).bind fun read=>((a7L r_.b6).bind fun put=>some (n5.mk read put r_.f0 r_.Code)))
theorem e7c{r_}:OK d0J [.agg (Q9 r_)] (c3S r_) :=
 o7 _ fun r h=>n6<|l7 a2r b05 2 h fun read h=>l7 b9g d5b 5 h fun put h=>C7 read put<|fE h
def b0t:FS (m4):=⟨62,Tryz.f62,[.val K4 []],[none],[.val K4 []],fun r=>.agg (t5 r),fun _=>[none],Tryz.func62⟩
def a55(e_:m4):Option m4 :=
 ((c3S e_.b8).bind fun d4F=>some (m4.mk e_.i7 e_.a0 d4F))
theorem b1R{e_}:OK b0t [.agg (t5 e_)] (a55 e_) :=
 o7 _ fun r h=>n6<|l7 d0J e7c 6 h fun d4F h=>fE h
def d3o:FS (List m8):=⟨120,Tryz.f120,[.val [some 8] [some 106]],[none],[.val [some 8] []],fun r=>u9 106 8 p8 r,fun _=>[none],Tryz.func120⟩
def c5F(list:List m8):Option (List m8) :=
 (bif ((list.length:Int)==0) then some [] else (t0 (0<=(list.length:Int)/\(list.length:Int)*96<=140737488355328) ((t0 (list.length=(f5u (list.length:Int).toNat (m8.mk 0 (m4.mk false (n9.mk 0 0) (n5.mk [] [] 0 0)))).length) (some list)))))
theorem f3t{list}:OK d3o [j8 8 p8 list] (c5F list) :=
 o7 _ fun r h=>n6<|j5 2 h (fun h=>rg<|fE h) (fun h=>rg<|t9 h fun e1 h=>R8 2 7 106 8 96 p8 (m8.mk 0 (m4.mk false (n9.mk 0 0) (n5.mk [] [] 0 0))) b18 (.ck W0) e1 (by decide) (by rfl)<|rg<|t9 h fun e2 h=>om (s6.row 106 8 (f5u (list.length:Int).toNat (m8.mk 0 (m4.mk false (n9.mk 0 0) (n5.mk [] [] 0 0)))).length (list.map p8)=m6 106 8 p8 list) (a1w e2)<|s7 (f5u (list.length:Int).toNat (m8.mk 0 (m4.mk false (n9.mk 0 0) (n5.mk [] [] 0 0))))<|ob e2<|tl (2,{e:=some (m6 106 8 p8 list)})<|rg<|om ((f5u (list.length:Int).toNat (m8.mk 0 (m4.mk false (n9.mk 0 0) (n5.mk [] [] 0 0)))).length=list.length) (by simp)<|fE h)
def a3V:FS (List m8):=⟨81,Tryz.f81,[.val [some 8] [some 106]],[none],[.val [some 8] []],fun r=>u9 106 8 p8 r,fun _=>[none],Tryz.func81⟩
def d2T:(List m8)->KS:=fun out1=>⟨a3V.k 4 [false],(bs 3 (.own 1 0 8 0 out1.length::(bs 20 []))),[some [],some [m6 106 8 p8 out1]]⟩
def d4S(out1:List m8):Option (List m8) :=
 some out1
theorem e7E(r):NF a3V r d2T (fun s=>d4S s):=fun out1 h=>PK<|rg<|s7 out1<|fE h
def e0Y(vote:List m8):((List m8)×Int)->KS:=fun (out,v9)=>⟨a3V.k 3 [],(bs 3 (.own 1 0 8 0 out.length::(bs 4 (vi (vote.length:Int)::(vi v9::(bs 14 [])))))),[some [],some [m6 106 8 p8 out]]⟩
def b6X(vote:List m8)(out:List m8)(v9:Int):Option (j9 (List m8) ((List m8)×Int) (List m8)) :=
 (bif decide (v9<(vote.length:Int)) then ((idx out v9).bind fun O0=>((a55 O0.g9).bind fun a0d=>some (j9.nxt (out.set v9.toNat (m8.mk O0.a8 a0d),m7 (v9+1))))) else some (j9.brk out))
theorem e0o(vote):LQ a3V d2T (e0Y vote) (fun s=>b6X vote s.1 s.2):=fun lc (out,v9) h=>PK<|rg<|j5 0 h (fun h=>n6<|A8 h fun O0 a2J h=>B5 a2J<|H8 p8 6 a2J<|l7 b0t b1R 7 h fun a0d h=>B5 a2J<|Q3 106 8 p8 10 K4 (m8.mk O0.a8 a0d) a2J<|rg<|(lc.nx h fun hI=>om ((.own 1 0 8 0 out.length:V)=.own 1 0 8 0 (out.set v9.toNat (m8.mk O0.a8 a0d)).length) (by simp)<|sk [.is (.tmp 3) (.own 1 0 8 0 (out.set v9.toNat (m8.mk O0.a8 a0d)).length)] [3,8,9] [(1,0)] hI)) (fun h=>(lc.bk h fun hI=>sk [] [3] [(1,0)] hI))
def a9e(list:List m8):Option (List m8) :=
 ((c5F list).bind fun vote=>((p7 (fun s:(List m8)×Int=>b6X vote s.1 s.2) (vote,0)).bind fun x=>x.go (fun r=>some r) fun s=>d4S s))
theorem b9O{list}:OK a3V [j8 8 p8 list] (a9e list) :=
 o7 _ fun r h=>n6<|l7 d3o f3t 1 h fun vote h=>rg<|lp (e0o vote) h (fun _ h=>a3V.rt h) (e7E r) fun hI=>sk [] [3,8,9] [(3,0)] hI
def d2e:FS (l8):=⟨78,Tryz.f78,[.val B8 []],[none],[.val B8 []],fun r=>.agg (s8 r),fun _=>[none],Tryz.func78⟩
def b5t(m:l8):Option l8 :=
 ((a55 m.g9).bind fun a0d=>((a9e m.a7).bind fun a05=>some (l8.mk m.a9 m.c8 m.To m.a8 m.g7 a0d a05)))
theorem e0R{m}:OK d2e [.agg (s8 m)] (b5t m) :=
 o7 _ fun r h=>N0<|l7 b0t b1R 2 h fun a0d h=>rg<|l7 a3V b9O 2 h fun a05 h=>rg<|s7 a05<|fE h
def a6Z:FS (List l8):=⟨42,Tryz.f42,[.val [some 13] [some 62]],[none],[.val [some 13] []],fun r=>u9 62 13 s8 r,fun _=>[none],Tryz.func42⟩
def c85:(List l8)->KS:=fun out1=>⟨a6Z.k 4 [false],(bs 3 (.own 1 0 13 0 out1.length::(bs 18 []))),[some [],some [m6 62 13 s8 out1]]⟩
def d3I(out1:List l8):Option (List l8) :=
 some out1
theorem e9S(r):NF a6Z r c85 (fun s=>d3I s):=fun out1 h=>PK<|rg<|s7 out1<|fE h
def d9W(msg:List l8):((List l8)×Int)->KS:=fun (out,v9)=>⟨a6Z.k 3 [],(bs 3 (.own 1 0 13 0 out.length::(bs 4 (vi (msg.length:Int)::(vi v9::(bs 12 [])))))),[some [],some [m6 62 13 s8 out]]⟩
def b8B(msg:List l8)(out:List l8)(v9:Int):Option (j9 (List l8) ((List l8)×Int) (List l8)) :=
 (bif decide (v9<(msg.length:Int)) then ((idx out v9).bind fun b2m=>((b5t b2m).bind fun b3P=>some (j9.nxt (out.set v9.toNat b3P,m7 (v9+1))))) else some (j9.brk out))
theorem e6y(msg):LQ a6Z c85 (d9W msg) (fun s=>b8B msg s.1 s.2):=fun lc (out,v9) h=>PK<|rg<|j5 0 h (fun h=>n6<|A8 h fun b2m b3c h=>B5 b3c<|H8 s8 5 b3c<|l7 d2e e0R 6 h fun b3P h=>B5 b3c<|Q3 62 13 s8 8 B8 b3P b3c<|rg<|(lc.nx h fun hI=>om ((.own 1 0 13 0 out.length:V)=.own 1 0 13 0 (out.set v9.toNat b3P).length) (by simp)<|sk [.is (.tmp 3) (.own 1 0 13 0 (out.set v9.toNat b3P).length)] [3,8,9] [(1,0)] hI)) (fun h=>(lc.bk h fun hI=>sk [] [3] [(1,0)] hI))
def b2F(list:List l8):Option (List l8) :=
 ((c1k list).bind fun msg=>((p7 (fun s:(List l8)×Int=>b8B msg s.1 s.2) (msg,0)).bind fun x=>x.go (fun r=>some r) fun s=>d3I s))
theorem d2R{list}:OK a6Z [j8 13 s8 list] (b2F list) :=
 o7 _ fun r h=>n6<|l7 c7B f1K 1 h fun msg h=>rg<|lp (e6y msg) h (fun _ h=>a6Z.rt h) (e9S r) fun hI=>sk [] [3,8,9] [(3,0)] hI
def d2a:FS (List x7):=⟨43,Tryz.f43,[.val [some 3] [some 65]],[none],[.val [some 3] []],fun r=>u9 65 3 B4 r,fun _=>[none],Tryz.func43⟩
def c1S(list:List x7):Option (List x7) :=
 (bif ((list.length:Int)==0) then some [] else (t0 (0<=(list.length:Int)/\(list.length:Int)*40<=140737488355328) ((t0 (list.length=(f5u (list.length:Int).toNat (x7.mk (n9.mk 0 0) [])).length) (some list)))))
theorem d6S{list}:OK d2a [j8 3 B4 list] (c1S list) :=
 o7 _ fun r h=>n6<|j5 2 h (fun h=>rg<|fE h) (fun h=>rg<|t9 h fun e1 h=>R8 2 7 65 3 40 B4 (x7.mk (n9.mk 0 0) []) c4j (.ck [none,none,some 4]) e1 (by decide) (by rfl)<|rg<|t9 h fun e2 h=>om (s6.row 65 3 (f5u (list.length:Int).toNat (x7.mk (n9.mk 0 0) [])).length (list.map B4)=m6 65 3 B4 list) (a1w e2)<|s7 (f5u (list.length:Int).toNat (x7.mk (n9.mk 0 0) []))<|ob e2<|tl (2,{e:=some (m6 65 3 B4 list)})<|rg<|om ((f5u (list.length:Int).toNat (x7.mk (n9.mk 0 0) [])).length=list.length) (by simp)<|fE h)
def c3C:FS (List m9):=⟨44,Tryz.f44,[.val [some 5] [some 69]],[none],[.val [some 5] []],fun r=>u9 69 5 z4 r,fun _=>[none],Tryz.func44⟩
def b9U(list:List m9):Option (List m9) :=
 (bif ((list.length:Int)==0) then some [] else (t0 (0<=(list.length:Int)/\(list.length:Int)*40<=140737488355328) ((t0 (list.length=(f5u (list.length:Int).toNat (m9.mk 0 (n9.mk 0 0) 0 0)).length) (some list)))))
theorem c9E{list}:OK c3C [j8 5 z4 list] (b9U list) :=
 o7 _ fun r h=>n6<|j5 2 h (fun h=>rg<|fE h) (fun h=>rg<|t9 h fun e1 h=>R8 2 7 69 5 40 z4 (m9.mk 0 (n9.mk 0 0) 0 0) c5Q (.none) e1 (by decide) (by rfl)<|rg<|t9 h fun e2 h=>om (s6.row 69 5 (f5u (list.length:Int).toNat (m9.mk 0 (n9.mk 0 0) 0 0)).length (list.map z4)=m6 69 5 z4 list) (a1w e2)<|s7 (f5u (list.length:Int).toNat (m9.mk 0 (n9.mk 0 0) 0 0))<|ob e2<|tl (2,{e:=some (m6 69 5 z4 list)})<|rg<|om ((f5u (list.length:Int).toNat (m9.mk 0 (n9.mk 0 0) 0 0)).length=list.length) (by simp)<|fE h)
def a8C:FS (z0):=⟨79,Tryz.f79,[.val [none,some 8] [none,some 106]],[none],[.val [none,some 8] []],fun r=>.agg [vi r.i0,u9 106 8 p8 r.a7],fun _=>[none],Tryz.func79⟩
def a45(a:z0):Option z0 :=
 ((a9e a.a7).bind fun a05=>some (z0.mk a.i0 a05))
theorem b0i{a}:OK a8C [.agg (Z3 a)] (a45 a) :=
 o7 _ fun r h=>n6<|l7 a3V b9O 4 h fun a05 h=>s7 a05<|fE h
def c61:FS (List m4):=⟨61,Tryz.f61,[.val [some 7] [some 55]],[none],[.val [some 7] []],fun r=>u9 55 7 t5 r,fun _=>[none],Tryz.func61⟩
def b6U(list:List m4):Option (List m4) :=
 (bif ((list.length:Int)==0) then some [] else (t0 (0<=(list.length:Int)/\(list.length:Int)*88<=140737488355328) ((t0 (list.length=(f5u (list.length:Int).toNat (m4.mk false (n9.mk 0 0) (n5.mk [] [] 0 0))).length) (some list)))))
theorem d76{list}:OK c61 [j8 7 t5 list] (b6U list) :=
 o7 _ fun r h=>n6<|j5 2 h (fun h=>rg<|fE h) (fun h=>rg<|t9 h fun e1 h=>R8 2 7 55 7 88 t5 (m4.mk false (n9.mk 0 0) (n5.mk [] [] 0 0)) c3v (.ck K4) e1 (by decide) (by rfl)<|rg<|t9 h fun e2 h=>om (s6.row 55 7 (f5u (list.length:Int).toNat (m4.mk false (n9.mk 0 0) (n5.mk [] [] 0 0))).length (list.map t5)=m6 55 7 t5 list) (a1w e2)<|s7 (f5u (list.length:Int).toNat (m4.mk false (n9.mk 0 0) (n5.mk [] [] 0 0)))<|ob e2<|tl (2,{e:=some (m6 55 7 t5 list)})<|rg<|om ((f5u (list.length:Int).toNat (m4.mk false (n9.mk 0 0) (n5.mk [] [] 0 0))).length=list.length) (by simp)<|fE h)
def a4N:FS (List m4):=⟨27,Tryz.f27,[.val [some 7] [some 55]],[none],[.val [some 7] []],fun r=>u9 55 7 t5 r,fun _=>[none],Tryz.func27⟩
def d4u:(List m4)->KS:=fun out1=>⟨a4N.k 4 [false],(bs 3 (.own 1 0 7 0 out1.length::(bs 18 []))),[some [],some [m6 55 7 t5 out1]]⟩
def d5t(out1:List m4):Option (List m4) :=
 some out1
theorem d7O(r):NF a4N r d4u (fun s=>d5t s):=fun out1 h=>PK<|rg<|s7 out1<|fE h
def f1Y(entry:List m4):((List m4)×Int)->KS:=fun (out,v9)=>⟨a4N.k 3 [],(bs 3 (.own 1 0 7 0 out.length::(bs 4 (vi (entry.length:Int)::(vi v9::(bs 12 [])))))),[some [],some [m6 55 7 t5 out]]⟩
def b1Y(entry:List m4)(out:List m4)(v9:Int):Option (j9 (List m4) ((List m4)×Int) (List m4)) :=
 (bif decide (v9<(entry.length:Int)) then ((idx out v9).bind fun a6Q=>((a55 a6Q).bind fun a0d=>some (j9.nxt (out.set v9.toNat a0d,m7 (v9+1))))) else some (j9.brk out))
theorem e04(entry):LQ a4N d4u (f1Y entry) (fun s=>b1Y entry s.1 s.2):=fun lc (out,v9) h=>PK<|rg<|j5 0 h (fun h=>n6<|A8 h fun a6Q a9x h=>B5 a9x<|H8 t5 5 a9x<|l7 b0t b1R 6 h fun a0d h=>B5 a9x<|Q3 55 7 t5 8 K4 a0d a9x<|rg<|(lc.nx h fun hI=>om ((.own 1 0 7 0 out.length:V)=.own 1 0 7 0 (out.set v9.toNat a0d).length) (by simp)<|sk [.is (.tmp 3) (.own 1 0 7 0 (out.set v9.toNat a0d).length)] [3,8,9] [(1,0)] hI)) (fun h=>(lc.bk h fun hI=>sk [] [3] [(1,0)] hI))
def a9n(list:List m4):Option (List m4) :=
 ((b6U list).bind fun entry=>((p7 (fun s:(List m4)×Int=>b1Y entry s.1 s.2) (entry,0)).bind fun x=>x.go (fun r=>some r) fun s=>d5t s))
theorem c0k{list}:OK a4N [j8 7 t5 list] (a9n list) :=
 o7 _ fun r h=>n6<|l7 c61 d76 1 h fun entry h=>rg<|lp (e04 entry) h (fun _ h=>a4N.rt h) (d7O r) fun hI=>sk [] [3,8,9] [(3,0)] hI
def c4l:FS (List Bool):=⟨80,Tryz.f80,[.val [some 1] [some 4]],[none],[.val [some 1] []],fun r=>u9 4 1 eB r,fun _=>[none],Tryz.func80⟩
def b7x(list:List Bool):Option (List Bool) :=
 (bif ((list.length:Int)==0) then some [] else (t0 (0<=(list.length:Int)/\(list.length:Int)*1<=140737488355328) ((t0 (list.length=(f5u (list.length:Int).toNat false).length) (some list)))))
theorem c77{list}:OK c4l [j8 1 eB list] (b7x list) :=
 o7 _ fun r h=>n6<|j5 2 h (fun h=>rg<|fE h) (fun h=>rg<|t9 h fun e1 h=>R8 2 7 4 1 1 eB false ti4 (.none) e1 (by decide) (by rfl)<|rg<|t9 h fun e2 h=>om (s6.row 4 1 (f5u (list.length:Int).toNat false).length (list.map eB)=m6 4 1 eB list) (a1w e2)<|s7 (f5u (list.length:Int).toNat false)<|ob e2<|tl (2,{e:=some (m6 4 1 eB list)})<|rg<|om ((f5u (list.length:Int).toNat false).length=list.length) (by simp)<|fE h)
def b4I:FS (List n8):=⟨46,Tryz.f46,[.val [some 4] [some 93]],[none],[.val [some 4] []],fun r=>u9 93 4 A0 r,fun _=>[none],Tryz.func46⟩
def a79(list:List n8):Option (List n8) :=
 (bif ((list.length:Int)==0) then some [] else (t0 (0<=(list.length:Int)/\(list.length:Int)*32<=140737488355328) ((t0 (list.length=(f5u (list.length:Int).toNat (n8.mk 0 0 0 0)).length) (some list)))))
theorem c4L{list}:OK b4I [j8 4 A0 list] (a79 list) :=
 o7 _ fun r h=>n6<|j5 2 h (fun h=>rg<|fE h) (fun h=>rg<|t9 h fun e1 h=>R8 2 7 93 4 32 A0 (n8.mk 0 0 0 0) c3U (.none) e1 (by decide) (by rfl)<|rg<|t9 h fun e2 h=>om (s6.row 93 4 (f5u (list.length:Int).toNat (n8.mk 0 0 0 0)).length (list.map A0)=m6 93 4 A0 list) (a1w e2)<|s7 (f5u (list.length:Int).toNat (n8.mk 0 0 0 0))<|ob e2<|tl (2,{e:=some (m6 93 4 A0 list)})<|rg<|om ((f5u (list.length:Int).toNat (n8.mk 0 0 0 0)).length=list.length) (by simp)<|fE h)
def b1K:FS (j6):=⟨45,Tryz.f45,[.val A7 om3],[none],[.val A7 []],fun r=>.agg (e3m r),fun _=>[none],Tryz.func45⟩
def a78(n:j6):Option j6 :=
 ((a45 n.Acc).bind fun R3=>((a9n n.a5).bind fun a8G=>((b7x n.c8).bind fun bool=>((a9e n.i4).bind fun a05=>((a55 n.c9).bind fun a0d=>((b7x n.a7).bind fun b0Y=>((a79 n.i6).bind fun ins=>((a55 n.b7).bind fun c6E=>((a9n n.d9).bind fun c1d=>some (j6.mk n.Id R3 a8G n.Seq n.d7 n.a8 bool a05 a0d b0Y n.i8 ins c6E c1d))))))))))
theorem b9n{n}:OK b1K [.agg (x6 n)] (a78 n) :=
 o7 _ fun r h=>N0<|l7 a8C b0i 2 h fun R3 h=>rg<|l7 a4N c0k 2 h fun a8G h=>rg<|l7 c4l c77 2 h fun bool h=>rg<|l7 a3V b9O 2 h fun a05 h=>rg<|l7 b0t b1R 2 h fun a0d h=>rg<|l7 c4l c77 2 h fun b0Y h=>rg<|l7 b4I c4L 2 h fun ins h=>rg<|l7 b0t b1R 2 h fun c6E h=>rg<|l7 a4N c0k 2 h fun c1d h=>rg<|H5 R3.a7 a8G bool a05<|Y1 b0Y ins c1d<|fE h
def a0g:FS (m5):=⟨15,Tryz.f15,[.val E2 om6],[none],[.val E2 []],fun r=>.agg (a8X r),fun _=>[none],Tryz.func15⟩
def c53(msgsCopy:List l8)(asked:List x7)(told:List m9):(List j6)->KS:=fun Nodes1=>⟨a0g.k 4 [false],(bs 2 (.ptr 1 0 0::(.ptr 2 0 0::(bs 52 [])))),[some [],some [.var 30 [.nil,.nil,.nil,.nil]],some [.var 30 [.own 3 0 27 0 Nodes1.length,.own 4 0 13 0 msgsCopy.length,.own 5 0 3 0 asked.length,.own 6 0 5 0 told.length]],some [m6 57 27 x6 Nodes1],some [m6 62 13 s8 msgsCopy],some [m6 65 3 B4 asked],some [m6 69 5 z4 told]]⟩
def c9a(msgsCopy:List l8)(told:List m9)(Nodes1:List j6):(List x7)->KS:=fun Asked1=>⟨a0g.k 6 [false,false],(bs 2 (.ptr 1 0 0::(.ptr 2 0 0::(bs 52 [])))),[some [],some [.var 30 [.nil,.nil,.nil,.nil]],some [.var 30 [.own 3 0 27 0 Nodes1.length,.own 4 0 13 0 msgsCopy.length,.own 5 0 3 0 Asked1.length,.own 6 0 5 0 told.length]],some [m6 57 27 x6 Nodes1],some [m6 62 13 s8 msgsCopy],some [m6 65 3 B4 Asked1],some [m6 69 5 z4 told]]⟩
def c96(msgsCopy:List l8)(told:List m9)(Nodes1:List j6)(Asked1:List x7):Option m5 :=
 some (m5.mk Nodes1 msgsCopy Asked1 told)
theorem f3o(msgsCopy told Nodes1)(r):NF a0g r (c9a msgsCopy told Nodes1) (fun s=>c96 msgsCopy told Nodes1 s):=fun Asked1 h=>PK<|rg<|H5 Nodes1 msgsCopy Asked1 told<|fE h
def e9L(msgsCopy:List l8)(asked:List x7)(told:List m9)(Nodes1:List j6):((List x7)×Int)->KS:=fun (d8,v39)=>⟨a0g.k 5 [false],(bs 2 (.ptr 1 0 0::(.ptr 2 0 0::(bs 34 (vi (asked.length:Int)::(vi v39::(bs 16 []))))))),[some [],some [.var 30 [.nil,.nil,.nil,.nil]],some [.var 30 [.own 3 0 27 0 Nodes1.length,.own 4 0 13 0 msgsCopy.length,.own 5 0 3 0 d8.length,.own 6 0 5 0 told.length]],some [m6 57 27 x6 Nodes1],some [m6 62 13 s8 msgsCopy],some [m6 65 3 B4 d8],some [m6 69 5 z4 told]]⟩
def b6q(asked:List x7)(d8:List x7)(v39:Int):Option (j9 m5 ((List x7)×Int) (List x7)) :=
 (bif decide (v39<(asked.length:Int)) then ((idx d8 v39).bind fun a3f=>((a79 a3f.i6).bind fun ins=>some (j9.nxt (d8.set v39.toNat (x7.mk a3f.a0 ins),m7 (v39+1))))) else some (j9.brk d8))
theorem e1V(msgsCopy asked told Nodes1):LQ a0g (c9a msgsCopy told Nodes1) (e9L msgsCopy asked told Nodes1) (fun s=>b6q asked s.1 s.2):=fun lc (d8,v39) h=>PK<|rg<|j5 0 h (fun h=>n6<|A8 h fun a3f b0W h=>B5 b0W<|H8 B4 8 b0W<|l7 b4I c4L 9 h fun ins h=>B5 b0W<|Q3 65 3 B4 12 [some 4] (x7.mk a3f.a0 ins) b0W<|s7 ins<|rg<|(lc.nx h fun hI=>om ((.own 5 0 3 0 d8.length:V)=.own 5 0 3 0 (d8.set v39.toNat (x7.mk a3f.a0 ins)).length) (by simp)<|sk [.is (.cell 2 0 2) (.own 5 0 3 0 (d8.set v39.toNat (x7.mk a3f.a0 ins)).length)] [2,3,38,39] [(1,0),(2,0),(3,0),(4,0),(5,0),(6,0)] hI)) (fun h=>(lc.bk h fun hI=>sk [] [2,3] [(1,0),(2,0),(3,0),(4,0),(5,0),(6,0)] hI))
def c2c(msgsCopy:List l8)(asked:List x7)(told:List m9)(Nodes1:List j6):Option m5 :=
 ((p7 (fun s:(List x7)×Int=>b6q asked s.1 s.2) (asked,0)).bind fun x=>x.go (fun r=>some r) fun s=>c96 msgsCopy told Nodes1 s)
theorem f4p(msgsCopy asked told)(r):NF a0g r (c53 msgsCopy asked told) (fun s=>c2c msgsCopy asked told s):=fun Nodes1 h=>PK<|rg<|lp (e1V msgsCopy asked told Nodes1) h (fun _ h=>a0g.rt h) (f3o msgsCopy told Nodes1 r) fun hI=>sk [] [2,3,38,39] [(1,0),(2,0),(3,0),(4,0),(5,0),(6,0)] hI
def e2Z(node:List j6)(msgsCopy:List l8)(asked:List x7)(told:List m9):((List j6)×Int)->KS:=fun (a6,v22)=>⟨a0g.k 3 [],(bs 2 (.ptr 1 0 0::(.ptr 2 0 0::(bs 17 (vi (node.length:Int)::(vi v22::(bs 33 []))))))),[some [],some [.var 30 [.nil,.nil,.nil,.nil]],some [.var 30 [.own 3 0 27 0 a6.length,.own 4 0 13 0 msgsCopy.length,.own 5 0 3 0 asked.length,.own 6 0 5 0 told.length]],some [m6 57 27 x6 a6],some [m6 62 13 s8 msgsCopy],some [m6 65 3 B4 asked],some [m6 69 5 z4 told]]⟩
def b6e(node:List j6)(a6:List j6)(v22:Int):Option (j9 m5 ((List j6)×Int) (List j6)) :=
 (bif decide (v22<(node.length:Int)) then ((idx a6 v22).bind fun node1=>((a78 node1).bind fun X5=>some (j9.nxt (a6.set v22.toNat X5,m7 (v22+1))))) else some (j9.brk a6))
theorem e8a(node msgsCopy asked told):LQ a0g (c53 msgsCopy asked told) (e2Z node msgsCopy asked told) (fun s=>b6e node s.1 s.2):=fun lc (a6,v22) h=>PK<|rg<|j5 0 h (fun h=>n6<|A8 h fun node1 a2y h=>B5 a2y<|H8 x6 7 a2y<|l7 b1K b9n 8 h fun X5 h=>B5 a2y<|Q3 57 27 x6 10 A7 X5 a2y<|J6 X5<|rg<|(lc.nx h fun hI=>om ((.own 3 0 27 0 a6.length:V)=.own 3 0 27 0 (a6.set v22.toNat X5).length) (by simp)<|sk [.is (.cell 2 0 0) (.own 3 0 27 0 (a6.set v22.toNat X5).length)] [2,3,21,22] [(1,0),(2,0),(3,0),(4,0),(5,0),(6,0)] hI)) (fun h=>(lc.bk h fun hI=>sk [] [2,3] [(1,0),(2,0),(3,0),(4,0),(5,0),(6,0)] hI))
def a2n(w:m5):Option m5 :=
 ((c49 w.a6).bind fun node=>((b2F w.d6).bind fun msgsCopy=>((c1S w.d8).bind fun asked=>((b9U w.Told).bind fun told=>((p7 (fun s:(List j6)×Int=>b6e node s.1 s.2) (node,0)).bind fun x=>x.go (fun r=>some r) fun s=>c2c msgsCopy asked told s)))))
theorem a9J{w}:OK a0g [.agg (R1 w)] (a2n w) :=
 o7 _ fun r h=>n6<|l7 c8l f4o 2 h fun node h=>l7 a6Z d2R 5 h fun msgsCopy h=>l7 d2a d6S 8 h fun asked h=>l7 c3C c9E 11 h fun told h=>rg<|lp (e8a node msgsCopy asked told) h (fun _ h=>a0g.rt h) (f4p msgsCopy asked told r) fun hI=>sk [] [2,3,21,22] [(2,0),(16,0),(5,0),(8,0),(11,0),(14,0)] hI
def a9d:FS (m5):=⟨5,Tryz.f5,[.val E2 []],[],[],fun r=>.agg (R1 r),fun _=>[],Tryz.func5⟩
def d33:(List j6)->KS:=fun Nodes1=>⟨a9d.k 4 [false],(.ptr 1 0 0::(.ptr 2 0 0::(bs 15 []))),[some [],some [.var 30 [.nil,.nil,.nil,.nil]],some [.var 30 [.own 3 0 27 0 Nodes1.length,.nil,.nil,.nil]],some [m6 57 27 x6 Nodes1]]⟩
def c7q(Nodes1:List j6):Option m5 :=
 ((a2n (m5.mk Nodes1 [] [] [])).bind fun I9=>some I9)
theorem d7B(r):NF a9d r d33 (fun s=>c7q s):=fun Nodes1 h=>PK<|rg<|l7 a0g a9J 1 h fun I9 h=>s7 Nodes1<|A9 I9<|fE h
def e9X:((List j6)×Int)->KS:=fun (a6,id)=>⟨a9d.k 3 [],(.ptr 1 0 0::(.ptr 2 0 0::(vi id::(bs 14 [])))),[some [],some [.var 30 [.nil,.nil,.nil,.nil]],some [.var 30 [.own 3 0 27 0 a6.length,.nil,.nil,.nil]],some [m6 57 27 x6 a6]]⟩
def a9I(a6:List j6)(id:Int):Option (j9 m5 ((List j6)×Int) (List j6)) :=
 (bif decide (id<3) then ((b49 id).bind fun Y3=>(t0 ((a6.length+1)*392<=140737488355328) (some (j9.nxt (a6++[Y3],m7 (id+1)))))) else some (j9.brk a6))
theorem f2x:LQ a9d d33 e9X (fun s=>a9I s.1 s.2):=fun lc (a6,id) h=>PK<|rg<|j5 1 h (fun h=>rg<|l7 d0n f3V 3 h fun Y3 h=>tk 4 A7<|t9 h fun e1 h=>F9 5 11 57 27 392 x6 a6 Y3 e1<|E6 Y3<|rg<|(lc.nx h fun hI=>sk [] [0,1,2] [(1,0),(2,0),(11,0)] hI)) (fun h=>(lc.bk h fun hI=>sk [] [0,1] [(1,0),(2,0),(3,0)] hI))
def b9l:Option m5 :=
 ((p7 (fun s:(List j6)×Int=>a9I s.1 s.2) ([],0)).bind fun x=>x.go (fun r=>some r) fun s=>c7q s)
theorem d8R:OK a9d [] b9l :=
 o7 _ fun r h=>N0<|lp (f2x) h (fun _ h=>a9d.rt h) (d7B r) fun hI=>sk [.own (.cell 3 0 0) 57 27] [0,1,2] [(1,0),(3,0),(6,0)] hI
def a7B:FS (Bool):=⟨121,Tryz.f121,[.val [] []],[none,none],[.val [some 2] [],.val [some 2] []],fun r=>.b r,fun _=>[none,none],Tryz.func121⟩
def c7j:Unit->KS:=fun _=>⟨a7B.k 4 [false,false],(bs 26 []),[some []]⟩
def c93:Option Bool :=
 some true
theorem f2g(r):NF a7B r c7j (fun s=>c93):=fun _ h=>PK<|rg<|fE h
def f0q(a:List q8)(b:List q8):Int->KS:=fun v13=>⟨a7B.k 3 [false],(j8 2 v6 a::(j8 2 v6 b::(bs 10 (vi (a.length:Int)::(vi v13::(bs 12 [])))))),[some []]⟩
def b5w(a:List q8)(b:List q8)(v13:Int):Option (j9 Bool Int Unit) :=
 (bif decide (v13<(a.length:Int)) then ((idx a v13).bind fun read=>((idx b v13).bind fun S4=>(bif (!(([read.i5,read.j4]:List Int)==[S4.i5,S4.j4])) then some (j9.ret false) else some (j9.nxt (m7 (v13+1)))))) else some (j9.brk ()))
theorem f2P(a b):LQ a7B c7j (f0q a b) (fun s=>b5w a b s):=fun lc v13 h=>PK<|rg<|j5 0 h (fun h=>n6<|v5 v6 2 h fun read a4b h=>v5 v6 6 h fun S4 c6C h=>j5 8 h (fun h=>rg<|fL lc h) (fun h=>rg<|(lc.nx h fun hI=>sk [] [0,1,12,13] [] hI))) (fun h=>(lc.bk h fun hI=>sk [] [] [] hI))
def b6H(a:List q8)(b:List q8):Option Bool :=
 (bif ((a.length:Int) != (b.length:Int)) then some false else ((p7 (fun s:Int=>b5w a b s) 0).bind fun x=>x.go (fun r=>some r) fun s=>c93))
theorem e6n{a b}:OK a7B [j8 2 v6 a,j8 2 v6 b] (b6H a b) :=
 o7 _ fun r h=>n6<|j5 4 h (fun h=>rg<|fE h) (fun h=>rg<|lp (f2P a b) h (fun _ h=>a7B.rt h) (f2g r) fun hI=>sk [] [0,1,12,13] [] hI)
def a8T:FS (Bool):=⟨122,Tryz.f122,[.val [] []],[none,none],[.val [some 2] [],.val [some 2] []],fun r=>.b r,fun _=>[none,none],Tryz.func122⟩
def d3c:Unit->KS:=fun _=>⟨a8T.k 4 [false,false],(bs 26 []),[some []]⟩
def d5o:Option Bool :=
 some true
theorem e5A(r):NF a8T r d3c (fun s=>d5o):=fun _ h=>PK<|rg<|fE h
def e5H(a:List p6)(b:List p6):Int->KS:=fun v13=>⟨a8T.k 3 [false],(j8 2 w8 a::(j8 2 w8 b::(bs 10 (vi (a.length:Int)::(vi v13::(bs 12 [])))))),[some []]⟩
def b92(a:List p6)(b:List p6)(v13:Int):Option (j9 Bool Int Unit) :=
 (bif decide (v13<(a.length:Int)) then ((idx a v13).bind fun put=>((idx b v13).bind fun put1=>(bif (!(([put.i5,put.f0]:List Int)==[put1.i5,put1.f0])) then some (j9.ret false) else some (j9.nxt (m7 (v13+1)))))) else some (j9.brk ()))
theorem d8X(a b):LQ a8T d3c (e5H a b) (fun s=>b92 a b s):=fun lc v13 h=>PK<|rg<|j5 0 h (fun h=>n6<|v5 w8 2 h fun put hput h=>v5 w8 6 h fun put1 b1u h=>j5 8 h (fun h=>rg<|fL lc h) (fun h=>rg<|(lc.nx h fun hI=>sk [] [0,1,12,13] [] hI))) (fun h=>(lc.bk h fun hI=>sk [] [] [] hI))
def b5i(a:List p6)(b:List p6):Option Bool :=
 (bif ((a.length:Int) != (b.length:Int)) then some false else ((p7 (fun s:Int=>b92 a b s) 0).bind fun x=>x.go (fun r=>some r) fun s=>d5o))
theorem f4V{a b}:OK a8T [j8 2 w8 a,j8 2 w8 b] (b5i a b) :=
 o7 _ fun r h=>n6<|j5 4 h (fun h=>rg<|fE h) (fun h=>rg<|lp (d8X a b) h (fun _ h=>a8T.rt h) (e5A r) fun hI=>sk [] [0,1,12,13] [] hI)
def c9A:FS (Bool):=⟨83,Tryz.f83,[.val [] []],[none,none],[.val O2 [],.val O2 []],fun r=>.b r,fun _=>[none,none],Tryz.func83⟩
def b9z(a:n5)(b:n5):Option Bool :=
 ((b6H a.b5 b.b5).bind fun read=>(bif read then ((b5i a.b6 b.b6).bind fun put=>(bif put then (bif (a.f0==b.f0) then some (a.Code==b.Code) else some false) else some false)) else some false))
theorem f2z{a b}:OK c9A [.agg (Q9 a),.agg (Q9 b)] (b9z a b) :=
 o7 _ fun r h=>n6<|l7 a7B e6n 4 h fun read h=>j5 5 h (fun h=>l7 a8T f4V 10 h fun put h=>j5 12 h (fun h=>j5 19 h (fun h=>fE h) (fun h=>fE h)) (fun h=>fE h)) (fun h=>fE h)
def a0T:FS (Bool):=⟨50,Tryz.f50,[.val [] []],[none,none],[.val K4 [],.val K4 []],fun r=>.b r,fun _=>[none,none],Tryz.func50⟩
def V9(a:m4)(b:m4):Option Bool :=
 (bif (a.i7==b.i7) then (bif (([a.a0.b9,a.a0.Seq]:List Int)==[b.a0.b9,b.a0.Seq]) then ((b9z a.b8 b.b8).bind fun a3b=>some a3b) else some false) else some false)
theorem a1q{a b}:OK a0T [.agg (t5 a),.agg (t5 b)] (V9 a b) :=
 o7 _ fun r h=>n6<|j5 5 h (fun h=>j5 12 h (fun h=>l7 c9A f2z 17 h fun a3b h=>fE h) (fun h=>fE h)) (fun h=>fE h)
def a9D:FS (Bool):=⟨18,Tryz.f18,[.val [] []],[none],[.val [] []],fun r=>.b r,fun _=>[none],Tryz.func18⟩
def a65(q:n9):Option Bool :=
 ((D4 q.b9 0 2).bind fun in_=>(bif in_ then ((D4 q.Seq 1 1000).bind fun in_1=>some in_1) else some false))
theorem b3G{q}:OK a9D [.agg (I7 q)] (a65 q) :=
 o7 _ fun r h=>n6<|l7 D1 E9 2 h fun in_ h=>j5 3 h (fun h=>l7 D1 E9 6 h fun in_1 h=>fE h) (fun h=>fE h)
def a0B:FS (Bool):=⟨82,Tryz.f82,[.val [] []],[none],[.val O2 []],fun r=>.b r,fun _=>[none],Tryz.func82⟩
def f3Z(r_:n5):Unit->KS:=fun _=>⟨a0B.k 2 [false],(bs 1 (.ptr 1 0 0::(bs 98 []))),[some [],some [.var 53 (a0E r_)]]⟩
def c6b(r_:n5):Unit->KS:=fun _=>⟨a0B.k 5 [false,false],(bs 1 (.ptr 1 0 0::(bs 2 (.ptr 2 0 0::(bs 95 []))))),[some [],some [.var 53 (a0E r_)],some [.arr 162 1 4 ((f5u 4 false).map eB)]]⟩
def c8z:Unit->KS:=fun _=>⟨a0B.k 7 [false,false,false],(bs 100 []),[some []]⟩
def d1v:Option Bool :=
 some true
theorem e0e(r):NF a0B r c8z (fun s=>d1v):=fun _ h=>PK<|rg<|fE h
def d9l(r_:n5):((List Bool)×Int)->KS:=fun (put,v76)=>⟨a0B.k 6 [false,false],(bs 4 (.ptr 1 0 0::(bs 69 (j8 2 w8 r_.b6::(vi (r_.b6.length:Int)::(vi v76::(bs 23 []))))))),[some [],some [.arr 162 1 4 (put.map eB)]]⟩
def a9Z(r_:n5)(put:List Bool)(v76:Int):Option (j9 Bool ((List Bool)×Int) Unit) :=
 (bif decide (v76<(r_.b6.length:Int)) then ((idx r_.b6 v76).bind fun put1=>((D4 put1.i5 0 3).bind fun in_=>(bif (!in_) then some (j9.ret false) else ((idx put put1.i5).bind fun y=>(t0 (put1.i5<4) ((bif y then some (j9.ret false) else ((D4 put1.f0 (-1000000) 1000000).bind fun in_1=>(bif (!in_1) then some (j9.ret false) else (t0 (put1.i5<4) (some (j9.nxt (put.set put1.i5.toNat true,m7 (v76+1)))))))))))))) else some (j9.brk ()))
theorem e1U(r_):LQ a0B c8z (d9l r_) (fun s=>a9Z r_ s.1 s.2):=fun lc (put,v76) h=>PK<|rg<|j5 0 h (fun h=>rg<|v5 w8 0 h fun put1 b1u h=>rg<|l7 D1 E9 2 h fun in_ h=>j5 4 h (fun h=>rg<|fL lc h) (fun h=>A8 h fun y hy h=>t9 h fun e1 h=>ob (O9 hy)<|ob e1<|ob (U7 (enc:=eB) hy)<|tl (tr 8 (eB y))<|j5 10 h (fun h=>rg<|fL lc h) (fun h=>l7 D1 E9 13 h fun in_1 h=>j5 15 h (fun h=>rg<|fL lc h) (fun h=>rg<|t9 h fun e2 h=>ob (O9 hy)<|ob e2<|om (s6.arr 162 1 4 ((put.map eB).set (put1.i5.toNat) [.b true])=s6.arr 162 1 4 ((put.set put1.i5.toNat true).map eB)) (a8M rfl)<|ob (U7 (enc:=eB) hy)<|tl (3,{a:=.rowck (eB y) [],e:=some (.arr 162 1 4 ((put.set put1.i5.toNat true).map eB))})<|rg<|(lc.nx h fun hI=>sk [] [4,74,75,76] [(1,0)] hI))))) (fun h=>(lc.bk h fun hI=>sk [] [] [] hI))
def c5a(r_:n5):Option Bool :=
 ((p7 (fun s:(List Bool)×Int=>a9Z r_ s.1 s.2) (f5u 4 false,0)).bind fun x=>x.go (fun r=>some r) fun s=>d1v)
theorem e8O(r_)(r):NF a0B r (c6b r_) (fun s=>c5a r_):=fun _ h=>PK<|rg<|lp (e1U r_) h (fun _ h=>a0B.rt h) (e0e r) fun hI=>sk [] [4,74,75,76] [(2,0)] hI
def e5i(r_:n5):((List Bool)×Int)->KS:=fun (read,v49)=>⟨a0B.k 4 [false],(bs 1 (.ptr 1 0 0::(bs 1 (.ptr 2 0 0::(.ptr 3 0 0::(bs 42 (j8 2 v6 r_.b5::(vi (r_.b5.length:Int)::(vi v49::(bs 50 [])))))))))),[some [],some [.var 53 (a0E r_)],some [.arr 162 1 4 (read.map eB)],some [.arr 162 1 4 ((f5u 4 false).map eB)]]⟩
def b1k(r_:n5)(read:List Bool)(v49:Int):Option (j9 Bool ((List Bool)×Int) Unit) :=
 (bif decide (v49<(r_.b5.length:Int)) then ((idx r_.b5 v49).bind fun S4=>((D4 S4.i5 0 3).bind fun in_2=>(bif (!in_2) then some (j9.ret false) else ((idx read S4.i5).bind fun y1=>(t0 (S4.i5<4) ((bif y1 then some (j9.ret false) else ((D4 S4.j4 0 1000000).bind fun a0j=>(bif (!a0j) then some (j9.ret false) else (t0 (S4.i5<4) (some (j9.nxt (read.set S4.i5.toNat true,m7 (v49+1)))))))))))))) else some (j9.brk ()))
theorem f4x(r_):LQ a0B (c6b r_) (e5i r_) (fun s=>b1k r_ s.1 s.2):=fun lc (read,v49) h=>PK<|rg<|j5 0 h (fun h=>rg<|v5 v6 0 h fun S4 c6C h=>rg<|l7 D1 E9 2 h fun in_2 h=>j5 4 h (fun h=>rg<|fL lc h) (fun h=>A8 h fun y1 hy1 h=>t9 h fun e3 h=>ob (O9 hy1)<|ob e3<|ob (U7 (enc:=eB) hy1)<|tl (tr 8 (eB y1))<|j5 10 h (fun h=>rg<|fL lc h) (fun h=>l7 D1 E9 13 h fun a0j h=>j5 15 h (fun h=>rg<|fL lc h) (fun h=>rg<|t9 h fun e4 h=>ob (O9 hy1)<|ob e4<|om (s6.arr 162 1 4 ((read.map eB).set (S4.i5.toNat) [.b true])=s6.arr 162 1 4 ((read.set S4.i5.toNat true).map eB)) (a8M rfl)<|ob (U7 (enc:=eB) hy1)<|tl (3,{a:=.rowck (eB y1) [],e:=some (.arr 162 1 4 ((read.set S4.i5.toNat true).map eB))})<|rg<|(lc.nx h fun hI=>sk [] [1,3,4,47,48,49] [(1,0),(2,0),(3,0)] hI))))) (fun h=>(lc.bk h fun hI=>sk [] [1,4] [(1,0),(3,0)] hI))
def b6w(r_:n5):Option Bool :=
 ((p7 (fun s:(List Bool)×Int=>b1k r_ s.1 s.2) (f5u 4 false,0)).bind fun x=>x.go (fun r=>some r) fun s=>c5a r_)
theorem e7g(r_)(r):NF a0B r (f3Z r_) (fun s=>b6w r_):=fun _ h=>PK<|rg<|om ((f5u 4 ([.b false]:List V)).flatten=[.b false,.b false,.b false,.b false]/\([.b false]:List V).length=1) ⟨rfl,rfl⟩<|om ((f5u 4 ([.b false]:List V)).flatten=[.b false,.b false,.b false,.b false]/\([.b false]:List V).length=1) ⟨rfl,rfl⟩<|rg<|lp (f4x r_) h (fun _ h=>a0B.rt h) (e8O r_ r) fun hI=>sk [] [1,3,4,47,48,49] [(1,0),(2,0),(3,0)] hI
def b0g(r_:n5):Option Bool :=
 ((((D4 r_.Code 0 3).bind fun a5d=>(bif (!a5d) then some (l9.ret false) else ((D4 r_.f0 (-1000000) 1000000).bind fun b1h=>(bif (!b1h) then some (l9.ret false) else (bif (r_.Code != 0) then (bif (r_.f0 != 0) then some (l9.ret false) else (bif decide ((r_.b6.length:Int)>0) then some (l9.ret false) else (bif (r_.Code==3) then (bif decide ((r_.b5.length:Int)>0) then some (l9.ret false) else some (l9.brk ())) else some (l9.brk ())))) else (bif (r_.Code==3) then (bif decide ((r_.b5.length:Int)>0) then some (l9.ret false) else some (l9.brk ())) else some (l9.brk ()))))))):Option (l9 Bool Unit)).bind fun x=>x.go some fun j=>b6w r_)
theorem c2R{r_}:OK a0B [.agg (Q9 r_)] (b0g r_) :=
 o7 _ fun r h=>rg<|A6 h (e7g r_ r) fun x1 h hc1=>rg<|l7 D1 E9 2 h fun a5d h=>j5 4 h (fun h=>rg<|(B7 h hc1 fun h=>fE h)) (fun h=>l7 D1 E9 7 h fun b1h h=>j5 10 h (fun h=>rg<|(B7 h hc1 fun h=>fE h)) (fun h=>j5 14 h (fun h=>j5 18 h (fun h=>rg<|(B7 h hc1 fun h=>fE h)) (fun h=>j5 26 h (fun h=>rg<|(B7 h hc1 fun h=>fE h)) (fun h=>j5 30 h (fun h=>j5 36 h (fun h=>rg<|(B7 h hc1 fun h=>fE h)) (fun h=>(o8 h hc1 fun hI=>sk [] [1] [(1,0)] hI))) (fun h=>(o8 h hc1 fun hI=>sk [] [1] [(1,0)] hI))))) (fun h=>j5 30 h (fun h=>j5 36 h (fun h=>rg<|(B7 h hc1 fun h=>fE h)) (fun h=>(o8 h hc1 fun hI=>sk [] [1] [(1,0)] hI))) (fun h=>(o8 h hc1 fun hI=>sk [] [1] [(1,0)] hI)))))
def a21:FS (Bool):=⟨49,Tryz.f49,[.val [] []],[none],[.val K4 []],fun r=>.b r,fun _=>[none],Tryz.func49⟩
def a1Y(e_:m4):Option Bool :=
 (bif e_.i7 then ((V9 e_ (m4.mk true (n9.mk 0 0) (n5.mk [] [] 0 0))).bind fun G3=>some G3) else ((a65 e_.a0).bind fun a6O=>(bif a6O then ((b0g e_.b8).bind fun a1l=>(bif a1l then some (e_.b8.Code != 3) else some false)) else some false)))
theorem a3T{e_}:OK a21 [.agg (t5 e_)] (a1Y e_) :=
 o7 _ fun r h=>n6<|j5 1 h (fun h=>rg<|l7 a0T a1q 2 h fun G3 h=>fE h) (fun h=>rg<|l7 a9D b3G 2 h fun a6O h=>j5 3 h (fun h=>l7 a0B c2R 6 h fun a1l h=>j5 8 h (fun h=>fE h) (fun h=>fE h)) (fun h=>fE h))
def d5H:FS (Bool):=⟨86,Tryz.f86,[.val [] []],[none],[.val W0 []],fun r=>.b r,fun _=>[none],Tryz.func86⟩
def b9Z(v_:m8):Option Bool :=
 (bif (v_.a8==0) then ((V9 v_.g9 (m4.mk false (n9.mk 0 0) (n5.mk [] [] 0 0))).bind fun G3=>some G3) else ((D4 v_.a8 1 3000).bind fun in_=>(bif in_ then ((a1Y v_.g9).bind fun E5=>some E5) else some false)))
theorem d9a{v_}:OK d5H [.agg (p8 v_)] (b9Z v_) :=
 o7 _ fun r h=>n6<|j5 2 h (fun h=>rg<|l7 a0T a1q 3 h fun G3 h=>fE h) (fun h=>rg<|l7 D1 E9 2 h fun in_ h=>j5 3 h (fun h=>l7 a21 a3T 6 h fun E5 h=>fE h) (fun h=>fE h))
def a2X:FS (Bool):=⟨52,Tryz.f52,[.val [] []],[none],[.val [some 8] []],fun r=>.b r,fun _=>[none],Tryz.func52⟩
def d5A(list:List m8):Unit->KS:=fun _=>⟨a2X.k 3 [false],(j8 8 p8 list::(bs 17 [])),[some []]⟩
def c2b(list:List m8):Option Bool :=
 some (decide ((list.length:Int)<=40))
theorem d99(list)(r):NF a2X r (d5A list) (fun s=>c2b list):=fun _ h=>PK<|rg<|fE h
def f4r(list:List m8):Int->KS:=fun v7=>⟨a2X.k 2 [],(j8 8 p8 list::(bs 4 (j8 8 p8 list::(vi (list.length:Int)::(vi v7::(bs 10 [])))))),[some []]⟩
def b79(list:List m8)(v7:Int):Option (j9 Bool Int Unit) :=
 (bif decide (v7<(list.length:Int)) then ((idx list v7).bind fun vote=>((b9Z vote).bind fun a0t=>(bif (!a0t) then some (j9.ret false) else some (j9.nxt (m7 (v7+1)))))) else some (j9.brk ()))
theorem e29(list):LQ a2X (d5A list) (f4r list) (fun s=>b79 list s):=fun lc v7 h=>PK<|rg<|j5 0 h (fun h=>rg<|v5 p8 0 h fun vote J5 h=>rg<|l7 d5H d9a 1 h fun a0t h=>j5 2 h (fun h=>rg<|fL lc h) (fun h=>rg<|(lc.nx h fun hI=>sk [] [0,5,6,7] [] hI))) (fun h=>(lc.bk h fun hI=>sk [] [0] [] hI))
def a7a(list:List m8):Option Bool :=
 ((p7 (fun s:Int=>b79 list s) 0).bind fun x=>x.go (fun r=>some r) fun s=>c2b list)
theorem b1J{list}:OK a2X [j8 8 p8 list] (a7a list) :=
 o7 _ fun r h=>n6<|lp (e29 list) h (fun _ h=>a2X.rt h) (d99 list r) fun hI=>sk [] [0,5,6,7] [] hI
def a4U:FS (Bool):=⟨47,Tryz.f47,[.val [] []],[none],[.val [none,some 8] []],fun r=>.b r,fun _=>[none],Tryz.func47⟩
def c71(a:z0):Unit->KS:=fun _=>⟨a4U.k 3 [false],(bs 1 (.ptr 1 0 0::(bs 24 []))),[some [],some [.var 46 [vi a.i0,j8 8 p8 a.a7]]]⟩
def c5S(a:z0):Option Bool :=
 ((D4 a.i0 0 3000).bind fun in_=>(bif in_ then ((a7a a.a7).bind fun L1=>some L1) else some false))
theorem e7K(a)(r):NF a4U r (c71 a) (fun s=>c5S a):=fun _ h=>PK<|rg<|l7 D1 E9 2 h fun in_ h=>j5 3 h (fun h=>l7 a2X b1J 6 h fun L1 h=>fE h) (fun h=>fE h)
def e3c(a:z0):Int->KS:=fun v8=>⟨a4U.k 2 [],(bs 1 (.ptr 1 0 0::(bs 4 (j8 8 p8 a.a7::(vi (a.a7.length:Int)::(vi v8::(bs 17 []))))))),[some [],some [.var 46 [vi a.i0,j8 8 p8 a.a7]]]⟩
def b9N(a:z0)(v8:Int):Option (j9 Bool Int Unit) :=
 (bif decide (v8<(a.a7.length:Int)) then ((idx a.a7 v8).bind fun vote=>(bif decide (vote.a8>a.i0) then some (j9.ret false) else some (j9.nxt (m7 (v8+1))))) else some (j9.brk ()))
theorem e1N(a):LQ a4U (c71 a) (e3c a) (fun s=>b9N a s):=fun lc v8 h=>PK<|rg<|j5 0 h (fun h=>rg<|v5 p8 0 h fun vote J5 h=>rg<|j5 4 h (fun h=>rg<|fL lc h) (fun h=>rg<|(lc.nx h fun hI=>sk [] [1,6,7,8] [(1,0)] hI))) (fun h=>(lc.bk h fun hI=>sk [] [1] [(1,0)] hI))
def a9s(a:z0):Option Bool :=
 ((p7 (fun s:Int=>b9N a s) 0).bind fun x=>x.go (fun r=>some r) fun s=>c5S a)
theorem c4a{a}:OK a4U [.agg (Z3 a)] (a9s a) :=
 o7 _ fun r h=>n6<|lp (e1N a) h (fun _ h=>a4U.rt h) (e7K a r) fun hI=>sk [] [1,6,7,8] [(1,0)] hI
def a4B:FS (Bool):=⟨48,Tryz.f48,[.val [] []],[none],[.val [some 7] []],fun r=>.b r,fun _=>[none],Tryz.func48⟩
def d4v(list:List m4):Unit->KS:=fun _=>⟨a4B.k 3 [false],(j8 7 t5 list::(bs 17 [])),[some []]⟩
def c0Y(list:List m4):Option Bool :=
 some (decide ((list.length:Int)<=40))
theorem d7s(list)(r):NF a4B r (d4v list) (fun s=>c0Y list):=fun _ h=>PK<|rg<|fE h
def e9K(list:List m4):Int->KS:=fun v7=>⟨a4B.k 2 [],(j8 7 t5 list::(bs 4 (j8 7 t5 list::(vi (list.length:Int)::(vi v7::(bs 10 [])))))),[some []]⟩
def b96(list:List m4)(v7:Int):Option (j9 Bool Int Unit) :=
 (bif decide (v7<(list.length:Int)) then ((idx list v7).bind fun entry=>((a1Y entry).bind fun E5=>(bif (!E5) then some (j9.ret false) else some (j9.nxt (m7 (v7+1)))))) else some (j9.brk ()))
theorem e2n(list):LQ a4B (d4v list) (e9K list) (fun s=>b96 list s):=fun lc v7 h=>PK<|rg<|j5 0 h (fun h=>rg<|v5 t5 0 h fun entry G9 h=>rg<|l7 a21 a3T 1 h fun E5 h=>j5 2 h (fun h=>rg<|fL lc h) (fun h=>rg<|(lc.nx h fun hI=>sk [] [0,5,6,7] [] hI))) (fun h=>(lc.bk h fun hI=>sk [] [0] [] hI))
def b0U(list:List m4):Option Bool :=
 ((p7 (fun s:Int=>b96 list s) 0).bind fun x=>x.go (fun r=>some r) fun s=>c0Y list)
theorem c3g{list}:OK a4B [j8 7 t5 list] (b0U list) :=
 o7 _ fun r h=>n6<|lp (e2n list) h (fun _ h=>a4B.rt h) (d7s list r) fun hI=>sk [] [0,5,6,7] [] hI
def a34:FS (Bool):=⟨87,Tryz.f87,[.val [] []],[none],[.val [] []],fun r=>.b r,fun _=>[none],Tryz.func87⟩
def a3w(n:Int):Option Bool :=
 ((D4 n 0 3).bind fun in_=>some in_)
theorem a44{n}:OK a34 [vi n] (a3w n) :=
 o7 _ fun r h=>n6<|l7 D1 E9 1 h fun in_ h=>fE h
def c1Q:FS (Bool):=⟨88,Tryz.f88,[.val [] []],[none],[.val [] []],fun r=>.b r,fun _=>[none],Tryz.func88⟩
def b7N(n:Int):Option Bool :=
 ((D4 n 0 3).bind fun in_=>some in_)
theorem c8h{n}:OK c1Q [vi n] (b7N n) :=
 o7 _ fun r h=>n6<|l7 D1 E9 1 h fun in_ h=>fE h
def d2c:FS (Bool):=⟨53,Tryz.f53,[.val [] []],[none],[.val [] []],fun r=>.b r,fun _=>[none],Tryz.func53⟩
def b40(x_:n8):Option Bool :=
 (bif (x_.a9==1) then ((a3w x_.A).bind fun c1=>(bif c1 then ((b7N x_.B).bind fun c2=>(bif c2 then some (x_.N==0) else some false)) else some false)) else (bif (x_.a9==2) then ((b7N x_.A).bind fun c21=>(bif c21 then ((a3w x_.B).bind fun c11=>(bif c11 then some (x_.N==0) else some false)) else some false)) else (bif (x_.a9==3) then ((a3w x_.A).bind fun c12=>(bif c12 then (bif (x_.B==0) then ((D4 x_.N (-1000000) 1000000).bind fun in_=>some in_) else some false) else some false)) else (bif (x_.a9==4) then ((a3w x_.A).bind fun c13=>(bif c13 then ((a3w x_.B).bind fun c14=>(bif c14 then some (x_.N==0) else some false)) else some false)) else (bif (x_.a9==5) then ((a3w x_.A).bind fun c15=>(bif c15 then ((a3w x_.B).bind fun c16=>(bif c16 then some (x_.N==0) else some false)) else some false)) else (bif (x_.a9==6) then ((a3w x_.A).bind fun c17=>(bif c17 then ((a3w x_.B).bind fun c18=>(bif c18 then ((D4 x_.N 1 10).bind fun in_1=>some in_1) else some false)) else some false)) else (bif (x_.a9==7) then (bif (x_.A==0) then (bif (x_.B==0) then some (x_.N==0) else some false) else some false) else some false)))))))
theorem e4m{x_}:OK d2c [.agg (A0 x_)] (b40 x_) :=
 o7 _ fun r h=>rg4<|rg<|j5 1 h (fun h=>rg<|l7 a34 a44 3 h fun c1 h=>j5 4 h (fun h=>l7 c1Q c8h 8 h fun c2 h=>j5 10 h (fun h=>fE h) (fun h=>fE h)) (fun h=>fE h)) (fun h=>rg<|j5 1 h (fun h=>rg<|l7 c1Q c8h 3 h fun c21 h=>j5 4 h (fun h=>l7 a34 a44 8 h fun c11 h=>j5 10 h (fun h=>fE h) (fun h=>fE h)) (fun h=>fE h)) (fun h=>rg<|j5 1 h (fun h=>rg<|l7 a34 a44 3 h fun c12 h=>j5 4 h (fun h=>j5 9 h (fun h=>l7 D1 E9 12 h fun in_ h=>fE h) (fun h=>fE h)) (fun h=>fE h)) (fun h=>rg<|j5 1 h (fun h=>rg<|l7 a34 a44 3 h fun c13 h=>j5 4 h (fun h=>l7 a34 a44 8 h fun c14 h=>j5 10 h (fun h=>fE h) (fun h=>fE h)) (fun h=>fE h)) (fun h=>rg<|j5 1 h (fun h=>rg<|l7 a34 a44 3 h fun c15 h=>j5 4 h (fun h=>l7 a34 a44 8 h fun c16 h=>j5 10 h (fun h=>fE h) (fun h=>fE h)) (fun h=>fE h)) (fun h=>rg<|j5 1 h (fun h=>rg<|l7 a34 a44 3 h fun c17 h=>j5 4 h (fun h=>l7 a34 a44 8 h fun c18 h=>j5 10 h (fun h=>l7 D1 E9 13 h fun in_1 h=>fE h) (fun h=>fE h)) (fun h=>fE h)) (fun h=>rg<|j5 1 h (fun h=>rg<|j5 3 h (fun h=>j5 8 h (fun h=>fE h) (fun h=>fE h)) (fun h=>fE h)) (fun h=>rg<|fE h)))))))
def a37:FS (Bool):=⟨19,Tryz.f19,[.val [] []],[none],[.val [some 4] []],fun r=>.b r,fun _=>[none],Tryz.func19⟩
def c5U(list:List n8):Unit->KS:=fun _=>⟨a37.k 3 [false],(j8 4 A0 list::(bs 17 [])),[some []]⟩
def c2E(list:List n8):Option Bool :=
 some (decide ((list.length:Int)<=10))
theorem f3M(list)(r):NF a37 r (c5U list) (fun s=>c2E list):=fun _ h=>PK<|rg<|fE h
def e93(list:List n8):Int->KS:=fun v7=>⟨a37.k 2 [],(j8 4 A0 list::(bs 4 (j8 4 A0 list::(vi (list.length:Int)::(vi v7::(bs 10 [])))))),[some []]⟩
def b5o(list:List n8)(v7:Int):Option (j9 Bool Int Unit) :=
 (bif decide (v7<(list.length:Int)) then ((idx list v7).bind fun ins=>((b40 ins).bind fun R0=>(bif (!R0) then some (j9.ret false) else some (j9.nxt (m7 (v7+1)))))) else some (j9.brk ()))
theorem e6U(list):LQ a37 (c5U list) (e93 list) (fun s=>b5o list s):=fun lc v7 h=>PK<|rg<|j5 0 h (fun h=>rg<|v5 A0 0 h fun ins hins h=>rg<|l7 d2c e4m 1 h fun R0 h=>j5 2 h (fun h=>rg<|fL lc h) (fun h=>rg<|(lc.nx h fun hI=>sk [] [0,5,6,7] [] hI))) (fun h=>(lc.bk h fun hI=>sk [] [0] [] hI))
def a8y(list:List n8):Option Bool :=
 ((p7 (fun s:Int=>b5o list s) 0).bind fun x=>x.go (fun r=>some r) fun s=>c2E list)
theorem b5A{list}:OK a37 [j8 4 A0 list] (a8y list) :=
 o7 _ fun r h=>n6<|lp (e6U list) h (fun _ h=>a37.rt h) (f3M list r) fun hI=>sk [] [0,5,6,7] [] hI
def c20:FS (Int):=⟨84,Tryz.f84,[.val [] []],[none],[.val [] []],fun r=>vi r,fun _=>[none],Tryz.func84⟩
def b20(bal:Int):Option Int :=
 ((D4 bal 1 3000).bind fun in_=>(bif (!in_) then some (-1) else some (f5W bal 3)))
theorem d4m{bal}:OK c20 [vi bal] (b20 bal) :=
 o7 _ fun r h=>n6<|l7 D1 E9 1 h fun in_ h=>j5 2 h (fun h=>rg<|fE h) (fun h=>rg<|om (3≠(0:Int)) (by decide)<|fE h)
def c0Z:FS (Bool):=⟨85,Tryz.f85,[.val [] []],[none,none],[.val [some 1] [],.val [] []],fun r=>.b r,fun _=>[none,none],Tryz.func85⟩
def b3h(list:List Bool)(id:Int):Option Bool :=
 (bif ((list.length:Int)==3) then ((idx list id).bind fun y=>some y) else some false)
theorem d2P{list id}:OK c0Z [j8 1 eB list,vi id] (b3h list id) :=
 o7 _ fun r h=>n6<|j5 3 h (fun h=>v5 eB 6 h fun y hy h=>fE h) (fun h=>fE h)
def b5H:FS (Bool):=⟨51,Tryz.f51,[.val [] []],[none],[.val A7 []],fun r=>.b r,fun _=>[none],Tryz.func51⟩
def f3L(n:j6):Bool->KS:=fun a9F=>⟨b5H.k 2 [],(bs 1 (.ptr 1 0 0::(bs 1 (.b a9F::(bs 92 []))))),[some [],some [.var 57 (X6 n)]]⟩
def b9V(n:j6)(a9F:Bool):Option Bool :=
 (bif (n.d7==0) then (bif (n.a8==0) then (bif ((n.c8.length:Int)==0) then (bif ((n.i4.length:Int)==0) then some a9F else some false) else some false) else some false) else ((b20 n.a8).bind fun a6e=>(bif (a6e != n.Id) then some false else (bif decide (n.a8>n.Acc.i0) then some false else ((a7a n.i4).bind fun L1=>(bif (!L1) then some false else (bif (n.d7==1) then ((b3h n.c8 n.Id).bind fun d0N=>(bif d0N then some a9F else some false)) else (bif (n.d7==2) then (bif ((n.c8.length:Int)==0) then some a9F else some false) else (bif (n.d7==3) then (bif ((n.c8.length:Int)==0) then ((a1Y n.c9).bind fun E5=>(bif E5 then ((b3h n.a7 n.Id).bind fun d0v=>(bif d0v then some (decide ((n.a5.length:Int)<40)) else some false)) else some false)) else some false) else some false)))))))))
theorem e3p(n)(r):NF b5H r (f3L n) (fun s=>b9V n s):=fun a9F h=>PK<|n6<|j5 2 h (fun h=>rg<|j5 3 h (fun h=>j5 6 h (fun h=>j5 12 h (fun h=>fE h) (fun h=>fE h)) (fun h=>fE h)) (fun h=>fE h)) (fun h=>rg<|l7 c20 d4m 2 h fun a6e h=>j5 6 h (fun h=>rg<|fE h) (fun h=>j5 14 h (fun h=>rg<|fE h) (fun h=>l7 a2X b1J 17 h fun L1 h=>j5 19 h (fun h=>rg<|fE h) (fun h=>n6<|j5 1 h (fun h=>rg<|l7 c0Z d2P 4 h fun d0N h=>j5 5 h (fun h=>fE h) (fun h=>fE h)) (fun h=>rg<|j5 1 h (fun h=>rg<|j5 1 h (fun h=>fE h) (fun h=>fE h)) (fun h=>rg<|j5 1 h (fun h=>rg<|j5 1 h (fun h=>l7 a21 a3T 4 h fun E5 h=>j5 6 h (fun h=>l7 c0Z d2P 11 h fun d0v h=>j5 13 h (fun h=>fE h) (fun h=>fE h)) (fun h=>fE h)) (fun h=>fE h)) (fun h=>rg<|fE h)))))))
def b1F(n:j6):Option Bool :=
 ((((V9 n.c9 (m4.mk false (n9.mk 0 0) (n5.mk [] [] 0 0))).bind fun G3=>(bif G3 then some (l9.brk ((n.a7.length:Int)==0)) else some (l9.brk false))):Option (l9 Bool Bool)).bind fun x=>x.go some fun j=>b9V n j)
theorem e1T{n}:OK b5H [.agg (x6 n)] (b1F n) :=
 o7 _ fun r h=>rg<|A6 h (e3p n r) fun x1 h hc1=>rg<|l7 a0T a1q 3 h fun G3 h=>j5 4 h (fun h=>(o8 h hc1 fun hI=>sk [] [1,3] [(1,0)] hI)) (fun h=>(o8 h hc1 fun hI=>sk [] [1,3] [(1,0)] hI))
def a0H:FS (Bool):=⟨16,Tryz.f16,[.val [] []],[none],[.val A7 []],fun r=>.b r,fun _=>[none],Tryz.func16⟩
def d6g(n:j6):Unit->KS:=fun _=>⟨a0H.k 4 [false,false],(bs 1 (.ptr 1 0 0::(bs 87 []))),[some [],some [.var 57 (X6 n)]]⟩
def d9v(n:j6):Unit->KS:=fun _=>⟨a0H.k 6 [false,false,true,false],(bs 1 (.ptr 1 0 0::(bs 87 []))),[some [],some [.var 57 (X6 n)]]⟩
def c5v(n:j6):Option Bool :=
 ((b1F n).bind fun a0z=>some a0z)
theorem e8U(n)(r):NF a0H r (d9v n) (fun s=>c5v n):=fun _ h=>PK<|rg<|l7 b5H e1T 1 h fun a0z h=>fE h
def b46(n:j6):Option Bool :=
 (((bif n.i8 then ((a8y n.i6).bind fun E1=>(bif (!E1) then some (l9.ret false) else ((a1Y n.b7).bind fun E5=>(bif (!E5) then some (l9.ret false) else (bif n.b7.i7 then some (l9.ret false) else (bif (!(([n.b7.a0.b9,n.b7.a0.Seq]:List Int)==[n.Id,n.Seq])) then some (l9.ret false) else some (l9.brk ()))))))) else (bif decide ((n.i6.length:Int)>0) then some (l9.ret false) else ((V9 n.b7 (m4.mk false (n9.mk 0 0) (n5.mk [] [] 0 0))).bind fun G3=>(bif (!G3) then some (l9.ret false) else some (l9.brk ()))))):Option (l9 Bool Unit)).bind fun x=>x.go some fun j=>c5v n)
theorem d8g(n)(r):NF a0H r (d6g n) (fun s=>b46 n):=fun _ h=>PK<|A6 h (e8U n r) fun x1 h hc1=>rg<|j5 1 h (fun h=>rg<|l7 a37 b5A 2 h fun E1 h=>j5 4 h (fun h=>rg<|(B7 h hc1 fun h=>fE h)) (fun h=>l7 a21 a3T 7 h fun E5 h=>j5 10 h (fun h=>rg<|(B7 h hc1 fun h=>fE h)) (fun h=>j5 15 h (fun h=>rg<|(B7 h hc1 fun h=>fE h)) (fun h=>j5 25 h (fun h=>rg<|(B7 h hc1 fun h=>fE h)) (fun h=>(o8 h hc1 fun hI=>sk [] [1] [(1,0)] hI)))))) (fun h=>rg<|j5 4 h (fun h=>rg<|(B7 h hc1 fun h=>fE h)) (fun h=>l7 a0T a1q 8 h fun G3 h=>j5 10 h (fun h=>rg<|(B7 h hc1 fun h=>fE h)) (fun h=>(o8 h hc1 fun hI=>sk [] [1] [(1,0)] hI))))
def e5F(n:j6):Int->KS:=fun v36=>⟨a0H.k 3 [false],(bs 1 (.ptr 1 0 0::(bs 32 (j8 7 t5 n.d9::(vi (n.d9.length:Int)::(vi v36::(bs 52 []))))))),[some [],some [.var 57 (X6 n)]]⟩
def b50(n:j6)(v36:Int):Option (j9 Bool Int Unit) :=
 (bif decide (v36<(n.d9.length:Int)) then ((idx n.d9 v36).bind fun entry=>((a1Y entry).bind fun a3x=>(bif (!a3x) then some (j9.ret false) else (bif entry.i7 then some (j9.ret false) else some (j9.nxt (m7 (v36+1))))))) else some (j9.brk ()))
theorem f1D(n):LQ a0H (d6g n) (e5F n) (fun s=>b50 n s):=fun lc v36 h=>PK<|rg<|j5 0 h (fun h=>rg<|v5 t5 0 h fun entry G9 h=>rg<|l7 a21 a3T 1 h fun a3x h=>j5 3 h (fun h=>rg<|fL lc h) (fun h=>j5 6 h (fun h=>rg<|fL lc h) (fun h=>rg<|(lc.nx h fun hI=>sk [] [1,34,35,36] [(1,0)] hI)))) (fun h=>(lc.bk h fun hI=>sk [] [1] [(1,0)] hI))
def a4w(n:j6):Option Bool :=
 ((D4 n.Id 0 2).bind fun in_=>(bif (!in_) then some false else ((a9s n.Acc).bind fun P6=>(bif (!P6) then some false else ((b0U n.a5).bind fun G6=>(bif (!G6) then some false else ((D4 n.Seq 0 1000).bind fun in_1=>(bif (!in_1) then some false else (bif decide ((n.d9.length:Int)>4) then some false else ((p7 (fun s:Int=>b50 n s) 0).bind fun x=>x.go (fun r=>some r) fun s=>b46 n))))))))))
theorem a85{n}:OK a0H [.agg (x6 n)] (a4w n) :=
 o7 _ fun r h=>n6<|l7 D1 E9 2 h fun in_ h=>j5 4 h (fun h=>rg<|fE h) (fun h=>l7 a4U c4a 7 h fun P6 h=>j5 10 h (fun h=>rg<|fE h) (fun h=>l7 a4B c3g 13 h fun G6 h=>j5 16 h (fun h=>rg<|fE h) (fun h=>l7 D1 E9 19 h fun in_1 h=>j5 22 h (fun h=>rg<|fE h) (fun h=>j5 27 h (fun h=>rg<|fE h) (fun h=>rg<|lp (f1D n) h (fun _ h=>a0H.rt h) (d8g n r) fun hI=>sk [] [1,34,35,36] [(1,0)] hI)))))
def c3T:FS (Bool):=⟨17,Tryz.f17,[.val [] []],[none],[.val B8 []],fun r=>.b r,fun _=>[none],Tryz.func17⟩
def b2p(m:l8):Option Bool :=
 ((D4 m.c8 0 2).bind fun in_=>(bif (!in_) then some false else ((D4 m.To 0 2).bind fun in_1=>(bif (!in_1) then some false else (bif (m.c8==m.To) then some false else ((D4 m.g7 0 40).bind fun in_2=>(bif (!in_2) then some false else ((D4 m.a8 1 3000).bind fun a0j=>((V9 m.g9 (m4.mk false (n9.mk 0 0) (n5.mk [] [] 0 0))).bind fun G3=>(bif (m.a9==1) then (bif a0j then (bif G3 then some ((m.a7.length:Int)==0) else some false) else some false) else (bif (m.a9==4) then (bif a0j then (bif G3 then some ((m.a7.length:Int)==0) else some false) else some false) else (bif (m.a9==2) then (bif a0j then (bif G3 then ((a7a m.a7).bind fun L1=>(bif L1 then some (decide ((m7 (m.g7+(m.a7.length:Int)))<=40)) else some false)) else some false) else some false) else (bif (m.a9==3) then (bif a0j then (bif decide (m.g7<40) then ((a1Y m.g9).bind fun E5=>(bif E5 then some ((m.a7.length:Int)==0) else some false)) else some false) else some false) else (bif (m.a9==5) then (bif (m.a8==0) then (bif decide (m.g7<40) then ((a1Y m.g9).bind fun a3x=>(bif a3x then some ((m.a7.length:Int)==0) else some false)) else some false) else some false) else (bif (m.a9==6) then (bif a0j then (bif (m.g7==0) then (bif G3 then some ((m.a7.length:Int)==0) else some false) else some false) else some false) else (bif (m.a9==7) then (bif (m.a8==0) then (bif (m.g7==0) then ((a1Y m.g9).bind fun d5r=>(bif d5r then (bif (!m.g9.i7) then some ((m.a7.length:Int)==0) else some false) else some false)) else some false) else some false) else (bif (m.a9==8) then (bif (m.a8==0) then (bif G3 then some ((m.a7.length:Int)==0) else some false) else some false) else some false)))))))))))))))))
theorem d6E{m}:OK c3T [.agg (s8 m)] (b2p m) :=
 o7 _ fun r h=>n6<|l7 D1 E9 2 h fun in_ h=>j5 4 h (fun h=>rg<|fE h) (fun h=>l7 D1 E9 7 h fun in_1 h=>j5 10 h (fun h=>rg<|fE h) (fun h=>j5 17 h (fun h=>rg<|fE h) (fun h=>l7 D1 E9 20 h fun in_2 h=>j5 22 h (fun h=>rg<|fE h) (fun h=>rg<|l7 D1 E9 2 h fun a0j h=>rg<|l7 a0T a1q 3 h fun G3 h=>N0<|j5 1 h (fun h=>rg<|j5 1 h (fun h=>j5 4 h (fun h=>fE h) (fun h=>fE h)) (fun h=>fE h)) (fun h=>rg<|j5 1 h (fun h=>rg<|j5 1 h (fun h=>j5 4 h (fun h=>fE h) (fun h=>fE h)) (fun h=>fE h)) (fun h=>rg<|j5 1 h (fun h=>rg<|j5 1 h (fun h=>j5 4 h (fun h=>l7 a2X b1J 7 h fun L1 h=>j5 9 h (fun h=>fE h) (fun h=>fE h)) (fun h=>fE h)) (fun h=>fE h)) (fun h=>rg<|j5 1 h (fun h=>rg<|j5 1 h (fun h=>j5 6 h (fun h=>l7 a21 a3T 9 h fun E5 h=>j5 11 h (fun h=>fE h) (fun h=>fE h)) (fun h=>fE h)) (fun h=>fE h)) (fun h=>rg<|j5 1 h (fun h=>rg<|j5 3 h (fun h=>j5 8 h (fun h=>l7 a21 a3T 11 h fun a3x h=>j5 13 h (fun h=>fE h) (fun h=>fE h)) (fun h=>fE h)) (fun h=>fE h)) (fun h=>rg<|j5 1 h (fun h=>rg<|j5 1 h (fun h=>j5 6 h (fun h=>j5 9 h (fun h=>fE h) (fun h=>fE h)) (fun h=>fE h)) (fun h=>fE h)) (fun h=>rg<|j5 1 h (fun h=>rg<|j5 3 h (fun h=>j5 8 h (fun h=>l7 a21 a3T 11 h fun d5r h=>j5 13 h (fun h=>j5 19 h (fun h=>fE h) (fun h=>fE h)) (fun h=>fE h)) (fun h=>fE h)) (fun h=>fE h)) (fun h=>rg<|j5 1 h (fun h=>rg<|j5 3 h (fun h=>j5 6 h (fun h=>fE h) (fun h=>fE h)) (fun h=>fE h)) (fun h=>rg<|fE h))))))))))))
def K8:FS (Bool):=⟨6,Tryz.f6,[.val [] []],[none],[.val E2 []],fun r=>.b r,fun _=>[none],Tryz.func6⟩
def d2N(w:m5):Unit->KS:=fun _=>⟨K8.k 4 [false,false],(bs 1 (.ptr 1 0 0::(bs 116 []))),[some [],some [.var 30 (D8 w)]]⟩
def c6F(w:m5):Unit->KS:=fun _=>⟨K8.k 6 [false,false,false],(bs 1 (.ptr 1 0 0::(bs 116 []))),[some [],some [.var 30 (D8 w)]]⟩
def d1r(w:m5):Unit->KS:=fun _=>⟨K8.k 8 [false,false,false,false],(bs 1 (.ptr 1 0 0::(bs 116 []))),[some [],some [.var 30 (D8 w)]]⟩
def c8I:Unit->KS:=fun _=>⟨K8.k 10 [false,false,false,false,false],(bs 118 []),[some []]⟩
def c9M:Option Bool :=
 some true
theorem e4U(r):NF K8 r c8I (fun s=>c9M):=fun _ h=>PK<|rg<|fE h
def d7Q(w:m5):Int->KS:=fun v83=>⟨K8.k 9 [false,false,false,false],(bs 81 (j8 5 z4 w.Told::(vi (w.Told.length:Int)::(vi v83::(bs 34 []))))),[some []]⟩
def b7I(w:m5)(v83:Int):Option (j9 Bool Int Unit) :=
 (bif decide (v83<(w.Told.length:Int)) then ((idx w.Told v83).bind fun told=>((D4 told.Node 0 2).bind fun in_=>(bif (!in_) then some (j9.ret false) else ((a65 told.a0).bind fun a6O=>(bif (!a6O) then some (j9.ret false) else (bif (told.a0.b9 != told.Node) then some (j9.ret false) else ((D4 told.Code 0 4).bind fun in_1=>(bif (!in_1) then some (j9.ret false) else ((D4 told.f0 (-1000000) 1000000).bind fun in_2=>(bif (!in_2) then some (j9.ret false) else some (j9.nxt (m7 (v83+1))))))))))))) else some (j9.brk ()))
theorem e4n(w):LQ K8 c8I (d7Q w) (fun s=>b7I w s):=fun lc v83 h=>PK<|rg<|j5 0 h (fun h=>rg<|v5 z4 0 h fun told a47 h=>rg<|l7 D1 E9 2 h fun in_ h=>j5 4 h (fun h=>rg<|fL lc h) (fun h=>l7 a9D b3G 7 h fun a6O h=>j5 10 h (fun h=>rg<|fL lc h) (fun h=>j5 18 h (fun h=>rg<|fL lc h) (fun h=>l7 D1 E9 21 h fun in_1 h=>j5 24 h (fun h=>rg<|fL lc h) (fun h=>l7 D1 E9 27 h fun in_2 h=>j5 29 h (fun h=>rg<|fL lc h) (fun h=>rg<|(lc.nx h fun hI=>sk [] [81,82,83] [] hI))))))) (fun h=>(lc.bk h fun hI=>sk [] [] [] hI))
def b9A(w:m5):Option Bool :=
 ((p7 (fun s:Int=>b7I w s) 0).bind fun x=>x.go (fun r=>some r) fun s=>c9M)
theorem e4N(w)(r):NF K8 r (d1r w) (fun s=>b9A w):=fun _ h=>PK<|rg<|lp (e4n w) h (fun _ h=>K8.rt h) (e4U r) fun hI=>sk [] [81,82,83] [] hI
def e3U(w:m5):Int->KS:=fun v65=>⟨K8.k 7 [false,false,false],(bs 1 (.ptr 1 0 0::(bs 61 (j8 3 B4 w.d8::(vi (w.d8.length:Int)::(vi v65::(bs 52 []))))))),[some [],some [.var 30 (D8 w)]]⟩
def b9S(w:m5)(v65:Int):Option (j9 Bool Int Unit) :=
 (bif decide (v65<(w.d8.length:Int)) then ((idx w.d8 v65).bind fun asked=>((a65 asked.a0).bind fun b1H=>(bif (!b1H) then some (j9.ret false) else ((a8y asked.i6).bind fun E1=>(bif (!E1) then some (j9.ret false) else some (j9.nxt (m7 (v65+1)))))))) else some (j9.brk ()))
theorem f0a(w):LQ K8 (d1r w) (e3U w) (fun s=>b9S w s):=fun lc v65 h=>PK<|rg<|j5 0 h (fun h=>rg<|v5 B4 0 h fun asked a8i h=>rg<|l7 a9D b3G 2 h fun b1H h=>j5 4 h (fun h=>rg<|fL lc h) (fun h=>l7 a37 b5A 7 h fun E1 h=>j5 9 h (fun h=>rg<|fL lc h) (fun h=>rg<|(lc.nx h fun hI=>sk [] [1,63,64,65] [(1,0)] hI)))) (fun h=>(lc.bk h fun hI=>sk [] [1] [(1,0)] hI))
def b77(w:m5):Option Bool :=
 ((p7 (fun s:Int=>b9S w s) 0).bind fun x=>x.go (fun r=>some r) fun s=>b9A w)
theorem e6I(w)(r):NF K8 r (c6F w) (fun s=>b77 w):=fun _ h=>PK<|rg<|lp (f0a w) h (fun _ h=>K8.rt h) (e4N w r) fun hI=>sk [] [1,63,64,65] [(1,0)] hI
def d9c(w:m5):Int->KS:=fun v54=>⟨K8.k 5 [false,false],(bs 1 (.ptr 1 0 0::(bs 50 (j8 13 s8 w.d6::(vi (w.d6.length:Int)::(vi v54::(bs 63 []))))))),[some [],some [.var 30 (D8 w)]]⟩
def b6u(w:m5)(v54:Int):Option (j9 Bool Int Unit) :=
 (bif decide (v54<(w.d6.length:Int)) then ((idx w.d6 v54).bind fun msg=>((b2p msg).bind fun Q2=>(bif (!Q2) then some (j9.ret false) else some (j9.nxt (m7 (v54+1)))))) else some (j9.brk ()))
theorem d7v(w):LQ K8 (c6F w) (d9c w) (fun s=>b6u w s):=fun lc v54 h=>PK<|rg<|j5 0 h (fun h=>rg<|v5 s8 0 h fun msg hmsg h=>rg<|l7 c3T d6E 1 h fun Q2 h=>j5 2 h (fun h=>rg<|fL lc h) (fun h=>rg<|(lc.nx h fun hI=>sk [] [1,52,53,54] [(1,0)] hI))) (fun h=>(lc.bk h fun hI=>sk [] [1] [(1,0)] hI))
def b7B(w:m5):Option Bool :=
 ((p7 (fun s:Int=>b6u w s) 0).bind fun x=>x.go (fun r=>some r) fun s=>b77 w)
theorem f04(w)(r):NF K8 r (d2N w) (fun s=>b7B w):=fun _ h=>PK<|rg<|lp (d7v w) h (fun _ h=>K8.rt h) (e6I w r) fun hI=>sk [] [1,52,53,54] [(1,0)] hI
def d8p(w:m5):Int->KS:=fun v36=>⟨K8.k 3 [false],(bs 1 (.ptr 1 0 0::(bs 32 (j8 27 x6 w.a6::(vi (w.a6.length:Int)::(vi v36::(bs 81 []))))))),[some [],some [.var 30 (D8 w)]]⟩
def b4O(w:m5)(v36:Int):Option (j9 Bool Int Unit) :=
 (bif decide (v36<(w.a6.length:Int)) then ((idx w.a6 v36).bind fun node=>(bif (node.Id != v36) then some (j9.ret false) else ((a4w node).bind fun D2=>(bif (!D2) then some (j9.ret false) else some (j9.nxt (m7 (v36+1))))))) else some (j9.brk ()))
theorem d8c(w):LQ K8 (d2N w) (d8p w) (fun s=>b4O w s):=fun lc v36 h=>PK<|rg<|j5 0 h (fun h=>rg<|v5 x6 1 h fun node hnode h=>rg<|j5 4 h (fun h=>rg<|fL lc h) (fun h=>l7 a0H a85 6 h fun D2 h=>j5 8 h (fun h=>rg<|fL lc h) (fun h=>rg<|(lc.nx h fun hI=>sk [] [1,34,35,36] [(1,0)] hI)))) (fun h=>(lc.bk h fun hI=>sk [] [1] [(1,0)] hI))
def a1T(w:m5):Option Bool :=
 (bif ((w.a6.length:Int) != 3) then some false else (bif decide ((w.d6.length:Int)>40) then some false else (bif decide ((w.d8.length:Int)>60) then some false else (bif decide ((w.Told.length:Int)>60) then some false else ((p7 (fun s:Int=>b4O w s) 0).bind fun x=>x.go (fun r=>some r) fun s=>b7B w)))))
theorem a4X{w}:OK K8 [.agg (R1 w)] (a1T w) :=
 o7 _ fun r h=>n6<|j5 4 h (fun h=>rg<|fE h) (fun h=>j5 10 h (fun h=>rg<|fE h) (fun h=>j5 16 h (fun h=>rg<|fE h) (fun h=>j5 21 h (fun h=>rg<|fE h) (fun h=>rg<|lp (d8c w) h (fun _ h=>K8.rt h) (f04 w r) fun hI=>sk [] [1,34,35,36] [(1,0)] hI))))
def a83:FS (Bool):=⟨21,Tryz.f21,[.val [] []],[none,none],[.val [some 5] [],.val [some 5] []],fun r=>.b r,fun _=>[none,none],Tryz.func21⟩
def c6V:Unit->KS:=fun _=>⟨a83.k 4 [false,false],(bs 26 []),[some []]⟩
def c80:Option Bool :=
 some true
theorem e3k(r):NF a83 r c6V (fun s=>c80):=fun _ h=>PK<|rg<|fE h
def e3f(a:List m9)(b:List m9):Int->KS:=fun v13=>⟨a83.k 3 [false],(j8 5 z4 a::(j8 5 z4 b::(bs 10 (vi (a.length:Int)::(vi v13::(bs 12 [])))))),[some []]⟩
def b9F(a:List m9)(b:List m9)(v13:Int):Option (j9 Bool Int Unit) :=
 (bif decide (v13<(a.length:Int)) then ((idx a v13).bind fun told=>((idx b v13).bind fun a2Y=>(bif (!(([told.Node,told.a0.b9,told.a0.Seq,told.Code,told.f0]:List Int)==[a2Y.Node,a2Y.a0.b9,a2Y.a0.Seq,a2Y.Code,a2Y.f0])) then some (j9.ret false) else some (j9.nxt (m7 (v13+1)))))) else some (j9.brk ()))
theorem d6Y(a b):LQ a83 c6V (e3f a b) (fun s=>b9F a b s):=fun lc v13 h=>PK<|rg<|j5 0 h (fun h=>n6<|v5 z4 2 h fun told a47 h=>v5 z4 6 h fun a2Y e2N h=>j5 8 h (fun h=>rg<|fL lc h) (fun h=>rg<|(lc.nx h fun hI=>sk [] [0,1,12,13] [] hI))) (fun h=>(lc.bk h fun hI=>sk [] [] [] hI))
def b76(a:List m9)(b:List m9):Option Bool :=
 (bif ((a.length:Int) != (b.length:Int)) then some false else ((p7 (fun s:Int=>b9F a b s) 0).bind fun x=>x.go (fun r=>some r) fun s=>c80))
theorem e5L{a b}:OK a83 [j8 5 z4 a,j8 5 z4 b] (b76 a b) :=
 o7 _ fun r h=>n6<|j5 4 h (fun h=>rg<|fE h) (fun h=>rg<|lp (d6Y a b) h (fun _ h=>a83.rt h) (e3k r) fun hI=>sk [] [0,1,12,13] [] hI)
def a5C:FS (Bool):=⟨57,Tryz.f57,[.val [] []],[none,none],[.val [some 8] [],.val [some 8] []],fun r=>.b r,fun _=>[none,none],Tryz.func57⟩
def d2J:Unit->KS:=fun _=>⟨a5C.k 4 [false,false],(bs 42 []),[some []]⟩
def d55:Option Bool :=
 some true
theorem d7S(r):NF a5C r d2J (fun s=>d55):=fun _ h=>PK<|rg<|fE h
def e20(a:List m8)(b:List m8):Int->KS:=fun v13=>⟨a5C.k 3 [false],(j8 8 p8 a::(j8 8 p8 b::(bs 10 (vi (a.length:Int)::(vi v13::(bs 28 [])))))),[some []]⟩
def b7T(a:List m8)(b:List m8)(v13:Int):Option (j9 Bool Int Unit) :=
 (bif decide (v13<(a.length:Int)) then ((idx a v13).bind fun vote=>((idx b v13).bind fun O0=>(bif (vote.a8 != O0.a8) then some (j9.ret false) else ((V9 vote.g9 O0.g9).bind fun G3=>(bif (!G3) then some (j9.ret false) else some (j9.nxt (m7 (v13+1)))))))) else some (j9.brk ()))
theorem e3L(a b):LQ a5C d2J (e20 a b) (fun s=>b7T a b s):=fun lc v13 h=>PK<|rg<|j5 0 h (fun h=>n6<|v5 p8 2 h fun vote J5 h=>v5 p8 7 h fun O0 a2J h=>j5 11 h (fun h=>rg<|fL lc h) (fun h=>J3 p8 14 J5<|J3 p8 19 a2J<|l7 a0T a1q 22 h fun G3 h=>j5 24 h (fun h=>rg<|fL lc h) (fun h=>rg<|(lc.nx h fun hI=>sk [] [0,1,12,13] [] hI)))) (fun h=>(lc.bk h fun hI=>sk [] [] [] hI))
def b0K(a:List m8)(b:List m8):Option Bool :=
 (bif ((a.length:Int) != (b.length:Int)) then some false else ((p7 (fun s:Int=>b7T a b s) 0).bind fun x=>x.go (fun r=>some r) fun s=>d55))
theorem c2h{a b}:OK a5C [j8 8 p8 a,j8 8 p8 b] (b0K a b) :=
 o7 _ fun r h=>n6<|j5 4 h (fun h=>rg<|fE h) (fun h=>rg<|lp (e3L a b) h (fun _ h=>a5C.rt h) (d7S r) fun hI=>sk [] [0,1,12,13] [] hI)
def d5Y:FS (Bool):=⟨54,Tryz.f54,[.val [] []],[none,none],[.val [none,some 8] [],.val [none,some 8] []],fun r=>.b r,fun _=>[none,none],Tryz.func54⟩
def c1v(a:z0)(b:z0):Option Bool :=
 (bif (a.i0==b.i0) then ((b0K a.a7 b.a7).bind fun a6x=>some a6x) else some false)
theorem e1j{a b}:OK d5Y [.agg (Z3 a),.agg (Z3 b)] (c1v a b) :=
 o7 _ fun r h=>n6<|j5 5 h (fun h=>l7 a5C c2h 10 h fun a6x h=>fE h) (fun h=>fE h)
def a6n:FS (Bool):=⟨55,Tryz.f55,[.val [] []],[none,none],[.val [some 7] [],.val [some 7] []],fun r=>.b r,fun _=>[none,none],Tryz.func55⟩
def c7c:Unit->KS:=fun _=>⟨a6n.k 4 [false,false],(bs 27 []),[some []]⟩
def d3L:Option Bool :=
 some true
theorem e3N(r):NF a6n r c7c (fun s=>d3L):=fun _ h=>PK<|rg<|fE h
def e2P(a:List m4)(b:List m4):Int->KS:=fun v13=>⟨a6n.k 3 [false],(j8 7 t5 a::(j8 7 t5 b::(bs 10 (vi (a.length:Int)::(vi v13::(bs 13 [])))))),[some []]⟩
def b99(a:List m4)(b:List m4)(v13:Int):Option (j9 Bool Int Unit) :=
 (bif decide (v13<(a.length:Int)) then ((idx a v13).bind fun entry=>((idx b v13).bind fun a6Q=>((V9 entry a6Q).bind fun G3=>(bif (!G3) then some (j9.ret false) else some (j9.nxt (m7 (v13+1))))))) else some (j9.brk ()))
theorem f0W(a b):LQ a6n c7c (e2P a b) (fun s=>b99 a b s):=fun lc v13 h=>PK<|rg<|j5 0 h (fun h=>n6<|v5 t5 2 h fun entry G9 h=>v5 t5 6 h fun a6Q a9x h=>l7 a0T a1q 8 h fun G3 h=>j5 9 h (fun h=>rg<|fL lc h) (fun h=>rg<|(lc.nx h fun hI=>sk [] [0,1,12,13] [] hI))) (fun h=>(lc.bk h fun hI=>sk [] [] [] hI))
def b4w(a:List m4)(b:List m4):Option Bool :=
 (bif ((a.length:Int) != (b.length:Int)) then some false else ((p7 (fun s:Int=>b99 a b s) 0).bind fun x=>x.go (fun r=>some r) fun s=>d3L))
theorem c81{a b}:OK a6n [j8 7 t5 a,j8 7 t5 b] (b4w a b) :=
 o7 _ fun r h=>n6<|j5 4 h (fun h=>rg<|fE h) (fun h=>rg<|lp (f0W a b) h (fun _ h=>a6n.rt h) (e3N r) fun hI=>sk [] [0,1,12,13] [] hI)
def a6L:FS (Bool):=⟨56,Tryz.f56,[.val [] []],[none,none],[.val [some 1] [],.val [some 1] []],fun r=>.b r,fun _=>[none,none],Tryz.func56⟩
def d2o:Unit->KS:=fun _=>⟨a6L.k 4 [false,false],(bs 26 []),[some []]⟩
def c8F:Option Bool :=
 some true
theorem e9j(r):NF a6L r d2o (fun s=>c8F):=fun _ h=>PK<|rg<|fE h
def d7r(a:List Bool)(b:List Bool):Int->KS:=fun v13=>⟨a6L.k 3 [false],(j8 1 eB a::(j8 1 eB b::(bs 10 (vi (a.length:Int)::(vi v13::(bs 12 [])))))),[some []]⟩
def b5c(a:List Bool)(b:List Bool)(v13:Int):Option (j9 Bool Int Unit) :=
 (bif decide (v13<(a.length:Int)) then ((idx a v13).bind fun y=>((idx b v13).bind fun y1=>(bif (!(y==y1)) then some (j9.ret false) else some (j9.nxt (m7 (v13+1)))))) else some (j9.brk ()))
theorem e5w(a b):LQ a6L d2o (d7r a b) (fun s=>b5c a b s):=fun lc v13 h=>PK<|rg<|j5 0 h (fun h=>n6<|v5 eB 2 h fun y hy h=>v5 eB 6 h fun y1 hy1 h=>j5 8 h (fun h=>rg<|fL lc h) (fun h=>rg<|(lc.nx h fun hI=>sk [] [0,1,12,13] [] hI))) (fun h=>(lc.bk h fun hI=>sk [] [] [] hI))
def b1X(a:List Bool)(b:List Bool):Option Bool :=
 (bif ((a.length:Int) != (b.length:Int)) then some false else ((p7 (fun s:Int=>b5c a b s) 0).bind fun x=>x.go (fun r=>some r) fun s=>c8F))
theorem d4Y{a b}:OK a6L [j8 1 eB a,j8 1 eB b] (b1X a b) :=
 o7 _ fun r h=>n6<|j5 4 h (fun h=>rg<|fE h) (fun h=>rg<|lp (e5w a b) h (fun _ h=>a6L.rt h) (e9j r) fun hI=>sk [] [0,1,12,13] [] hI)
def a9b:FS (Bool):=⟨58,Tryz.f58,[.val [] []],[none,none],[.val [some 4] [],.val [some 4] []],fun r=>.b r,fun _=>[none,none],Tryz.func58⟩
def c7I:Unit->KS:=fun _=>⟨a9b.k 4 [false,false],(bs 26 []),[some []]⟩
def d3m:Option Bool :=
 some true
theorem e5u(r):NF a9b r c7I (fun s=>d3m):=fun _ h=>PK<|rg<|fE h
def e0y(a:List n8)(b:List n8):Int->KS:=fun v13=>⟨a9b.k 3 [false],(j8 4 A0 a::(j8 4 A0 b::(bs 10 (vi (a.length:Int)::(vi v13::(bs 12 [])))))),[some []]⟩
def b70(a:List n8)(b:List n8)(v13:Int):Option (j9 Bool Int Unit) :=
 (bif decide (v13<(a.length:Int)) then ((idx a v13).bind fun ins=>((idx b v13).bind fun b2g=>(bif (!(([ins.a9,ins.A,ins.B,ins.N]:List Int)==[b2g.a9,b2g.A,b2g.B,b2g.N])) then some (j9.ret false) else some (j9.nxt (m7 (v13+1)))))) else some (j9.brk ()))
theorem e2E(a b):LQ a9b c7I (e0y a b) (fun s=>b70 a b s):=fun lc v13 h=>PK<|rg<|j5 0 h (fun h=>n6<|v5 A0 2 h fun ins hins h=>v5 A0 6 h fun b2g f5n h=>j5 8 h (fun h=>rg<|fL lc h) (fun h=>rg<|(lc.nx h fun hI=>sk [] [0,1,12,13] [] hI))) (fun h=>(lc.bk h fun hI=>sk [] [] [] hI))
def c0F(a:List n8)(b:List n8):Option Bool :=
 (bif ((a.length:Int) != (b.length:Int)) then some false else ((p7 (fun s:Int=>b70 a b s) 0).bind fun x=>x.go (fun r=>some r) fun s=>d3m))
theorem d8q{a b}:OK a9b [j8 4 A0 a,j8 4 A0 b] (c0F a b) :=
 o7 _ fun r h=>n6<|j5 4 h (fun h=>rg<|fE h) (fun h=>rg<|lp (e2E a b) h (fun _ h=>a9b.rt h) (e5u r) fun hI=>sk [] [0,1,12,13] [] hI)
def c5i:FS (Bool):=⟨24,Tryz.f24,[.val [] []],[none,none],[.val [some 4] [],.val [some 4] []],fun r=>.b r,fun _=>[none,none],Tryz.func24⟩
def b25(a:List n8)(b:List n8):Option Bool :=
 ((c0F a b).bind fun ins=>some ins)
theorem c8f{a b}:OK c5i [j8 4 A0 a,j8 4 A0 b] (b25 a b) :=
 o7 _ fun r h=>n6<|l7 a9b d8q 2 h fun ins h=>fE h
def d4e:FS (Bool):=⟨22,Tryz.f22,[.val [] []],[none,none],[.val A7 [],.val A7 []],fun r=>.b r,fun _=>[none,none],Tryz.func22⟩
def b9J(a:j6)(b:j6):Option Bool :=
 (bif (a.Id==b.Id) then ((c1v a.Acc b.Acc).bind fun d26=>(bif d26 then ((b4w a.a5 b.a5).bind fun c8x=>(bif c8x then (bif (a.Seq==b.Seq) then (bif (a.d7==b.d7) then (bif (a.a8==b.a8) then ((b1X a.c8 b.c8).bind fun bool=>(bif bool then ((b0K a.i4 b.i4).bind fun a6x=>(bif a6x then ((V9 a.c9 b.c9).bind fun G3=>(bif G3 then ((b1X a.a7 b.a7).bind fun b0Y=>(bif b0Y then (bif (a.i8==b.i8) then ((b25 a.i6 b.i6).bind fun b3u=>(bif b3u then ((V9 a.b7 b.b7).bind fun d3w=>(bif d3w then ((b4w a.d9 b.d9).bind fun d2G=>some d2G) else some false)) else some false)) else some false) else some false)) else some false)) else some false)) else some false)) else some false) else some false) else some false) else some false)) else some false)) else some false)
theorem d9R{a b}:OK d4e [.agg (x6 a),.agg (x6 b)] (b9J a b) :=
 o7 _ fun r h=>n6<|j5 5 h (fun h=>l7 d5Y e1j 10 h fun d26 h=>j5 12 h (fun h=>l7 a6n c81 17 h fun c8x h=>j5 19 h (fun h=>j5 26 h (fun h=>j5 33 h (fun h=>j5 40 h (fun h=>l7 a6L d4Y 45 h fun bool h=>j5 47 h (fun h=>l7 a5C c2h 52 h fun a6x h=>j5 54 h (fun h=>l7 a0T a1q 59 h fun G3 h=>j5 61 h (fun h=>l7 a6L d4Y 66 h fun b0Y h=>j5 68 h (fun h=>j5 75 h (fun h=>l7 c5i c8f 80 h fun b3u h=>j5 82 h (fun h=>l7 a0T a1q 87 h fun d3w h=>j5 89 h (fun h=>l7 a6n c81 94 h fun d2G h=>fE h) (fun h=>fE h)) (fun h=>fE h)) (fun h=>fE h)) (fun h=>fE h)) (fun h=>fE h)) (fun h=>fE h)) (fun h=>fE h)) (fun h=>fE h)) (fun h=>fE h)) (fun h=>fE h)) (fun h=>fE h)) (fun h=>fE h)) (fun h=>fE h)
def c7G:FS (Bool):=⟨23,Tryz.f23,[.val [] []],[none,none],[.val B8 [],.val B8 []],fun r=>.b r,fun _=>[none,none],Tryz.func23⟩
def c2i(a:l8)(b:l8):Option Bool :=
 (bif (a.a9==b.a9) then (bif (a.c8==b.c8) then (bif (a.To==b.To) then (bif (a.a8==b.a8) then (bif (a.g7==b.g7) then ((V9 a.g9 b.g9).bind fun G3=>(bif G3 then ((b0K a.a7 b.a7).bind fun a6x=>some a6x) else some false)) else some false) else some false) else some false) else some false) else some false)
theorem f4M{a b}:OK c7G [.agg (s8 a),.agg (s8 b)] (c2i a b) :=
 o7 _ fun r h=>n6<|j5 5 h (fun h=>j5 12 h (fun h=>j5 19 h (fun h=>j5 26 h (fun h=>j5 33 h (fun h=>l7 a0T a1q 38 h fun G3 h=>j5 40 h (fun h=>l7 a5C c2h 45 h fun a6x h=>fE h) (fun h=>fE h)) (fun h=>fE h)) (fun h=>fE h)) (fun h=>fE h)) (fun h=>fE h)) (fun h=>fE h)
def V3:FS (Bool):=⟨7,Tryz.f7,[.val [] []],[none,none],[.val E2 [],.val E2 []],fun r=>.b r,fun _=>[none,none],Tryz.func7⟩
def d0K(a:m5)(b:m5):Unit->KS:=fun _=>⟨V3.k 4 [false,false],(bs 2 (.ptr 1 0 0::(.ptr 2 0 0::(bs 111 [])))),[some [],some [.var 30 (D8 a)],some [.var 30 (D8 b)]]⟩
def d1R(a:m5)(b:m5):Unit->KS:=fun _=>⟨V3.k 6 [false,false,false],(bs 2 (.ptr 1 0 0::(.ptr 2 0 0::(bs 111 [])))),[some [],some [.var 30 (D8 a)],some [.var 30 (D8 b)]]⟩
def c6J:Unit->KS:=fun _=>⟨V3.k 8 [false,false,false,false],(bs 115 []),[some []]⟩
def d4X:Option Bool :=
 some true
theorem d8C(r):NF V3 r c6J (fun s=>d4X):=fun _ h=>PK<|rg<|fE h
def f1f(a:m5)(b:m5):Int->KS:=fun v82=>⟨V3.k 7 [false,false,false],(bs 2 (.ptr 1 0 0::(.ptr 2 0 0::(bs 77 (vi (a.d8.length:Int)::(vi v82::(bs 32 []))))))),[some [],some [.var 30 (D8 a)],some [.var 30 (D8 b)]]⟩
def b5h(a:m5)(b:m5)(v82:Int):Option (j9 Bool Int Unit) :=
 (bif decide (v82<(a.d8.length:Int)) then ((idx a.d8 v82).bind fun asked=>((idx b.d8 v82).bind fun a3f=>(bif (!(([asked.a0.b9,asked.a0.Seq]:List Int)==[a3f.a0.b9,a3f.a0.Seq])) then some (j9.ret false) else ((b25 asked.i6 a3f.i6).bind fun b3u=>(bif (!b3u) then some (j9.ret false) else some (j9.nxt (m7 (v82+1)))))))) else some (j9.brk ()))
theorem e8u(a b):LQ V3 c6J (f1f a b) (fun s=>b5h a b s):=fun lc v82 h=>PK<|rg<|j5 0 h (fun h=>n6<|v5 B4 3 h fun asked a8i h=>v5 B4 9 h fun a3f b0W h=>j5 13 h (fun h=>rg<|fL lc h) (fun h=>J3 B4 17 a8i<|J3 B4 23 b0W<|l7 c5i c8f 26 h fun b3u h=>j5 28 h (fun h=>rg<|fL lc h) (fun h=>rg<|(lc.nx h fun hI=>sk [] [2,3,81,82] [(1,0),(2,0)] hI)))) (fun h=>(lc.bk h fun hI=>sk [] [] [] hI))
def c1R(a:m5)(b:m5):Option Bool :=
 ((p7 (fun s:Int=>b5h a b s) 0).bind fun x=>x.go (fun r=>some r) fun s=>d4X)
theorem d9i(a b)(r):NF V3 r (d1R a b) (fun s=>c1R a b):=fun _ h=>PK<|rg<|lp (e8u a b) h (fun _ h=>V3.rt h) (d8C r) fun hI=>sk [] [2,3,81,82] [(1,0),(2,0)] hI
def e42(a:m5)(b:m5):Int->KS:=fun v63=>⟨V3.k 5 [false,false],(bs 2 (.ptr 1 0 0::(.ptr 2 0 0::(bs 58 (vi (a.d6.length:Int)::(vi v63::(bs 51 []))))))),[some [],some [.var 30 (D8 a)],some [.var 30 (D8 b)]]⟩
def b8P(a:m5)(b:m5)(v63:Int):Option (j9 Bool Int Unit) :=
 (bif decide (v63<(a.d6.length:Int)) then ((idx a.d6 v63).bind fun msg=>((idx b.d6 v63).bind fun b2m=>((c2i msg b2m).bind fun c8j=>(bif (!c8j) then some (j9.ret false) else some (j9.nxt (m7 (v63+1))))))) else some (j9.brk ()))
theorem f2A(a b):LQ V3 (d1R a b) (e42 a b) (fun s=>b8P a b s):=fun lc v63 h=>PK<|rg<|j5 0 h (fun h=>n6<|v5 s8 3 h fun msg hmsg h=>v5 s8 8 h fun b2m b3c h=>l7 c7G f4M 10 h fun c8j h=>j5 11 h (fun h=>rg<|fL lc h) (fun h=>rg<|(lc.nx h fun hI=>sk [] [2,3,62,63] [(1,0),(2,0)] hI))) (fun h=>(lc.bk h fun hI=>sk [] [2,3] [(1,0),(2,0)] hI))
def c2A(a:m5)(b:m5):Option Bool :=
 ((p7 (fun s:Int=>b8P a b s) 0).bind fun x=>x.go (fun r=>some r) fun s=>c1R a b)
theorem f5f(a b)(r):NF V3 r (d0K a b) (fun s=>c2A a b):=fun _ h=>PK<|rg<|lp (f2A a b) h (fun _ h=>V3.rt h) (d9i a b r) fun hI=>sk [] [2,3,62,63] [(1,0),(2,0)] hI
def e3w(a:m5)(b:m5):Int->KS:=fun v44=>⟨V3.k 3 [false],(bs 2 (.ptr 1 0 0::(.ptr 2 0 0::(bs 39 (vi (a.a6.length:Int)::(vi v44::(bs 70 []))))))),[some [],some [.var 30 (D8 a)],some [.var 30 (D8 b)]]⟩
def b9E(a:m5)(b:m5)(v44:Int):Option (j9 Bool Int Unit) :=
 (bif decide (v44<(a.a6.length:Int)) then ((idx a.a6 v44).bind fun node=>((idx b.a6 v44).bind fun node1=>((b9J node node1).bind fun d4c=>(bif (!d4c) then some (j9.ret false) else some (j9.nxt (m7 (v44+1))))))) else some (j9.brk ()))
theorem e7w(a b):LQ V3 (d0K a b) (e3w a b) (fun s=>b9E a b s):=fun lc v44 h=>PK<|rg<|j5 0 h (fun h=>n6<|v5 x6 3 h fun node hnode h=>v5 x6 8 h fun node1 a2y h=>l7 d4e d9R 10 h fun d4c h=>j5 11 h (fun h=>rg<|fL lc h) (fun h=>rg<|(lc.nx h fun hI=>sk [] [2,3,43,44] [(1,0),(2,0)] hI))) (fun h=>(lc.bk h fun hI=>sk [] [2,3] [(1,0),(2,0)] hI))
def b4W(a:m5)(b:m5):Option Bool :=
 (bif ((a.a6.length:Int) != (b.a6.length:Int)) then some false else (bif ((a.d6.length:Int) != (b.d6.length:Int)) then some false else (bif ((a.d8.length:Int) != (b.d8.length:Int)) then some false else ((b76 a.Told b.Told).bind fun told=>(bif (!told) then some false else ((p7 (fun s:Int=>b9E a b s) 0).bind fun x=>x.go (fun r=>some r) fun s=>c2A a b))))))
theorem d9V{a b}:OK V3 [.agg (R1 a),.agg (R1 b)] (b4W a b) :=
 o7 _ fun r h=>n6<|j5 7 h (fun h=>rg<|fE h) (fun h=>j5 16 h (fun h=>rg<|fE h) (fun h=>j5 25 h (fun h=>rg<|fE h) (fun h=>l7 a83 e5L 30 h fun told h=>j5 32 h (fun h=>rg<|fE h) (fun h=>rg<|lp (e7w a b) h (fun _ h=>V3.rt h) (f5f a b r) fun hI=>sk [] [2,3,43,44] [(1,0),(2,0)] hI))))
def b32:FS (o9):=⟨123,Tryz.f123,[.ptr I4 om7],[none],[.val A7 []],fun r=>.optr 173 (b6n r),fun _=>[none],Tryz.func123⟩
def a8H(n:j6):Option o9 :=
 ((a78 n).bind fun X5=>some (o9.mk X5 [] []))
theorem b8I{n}:OK b32 [.agg (x6 n)] (a8H n) :=
 o7 _ fun r h=>n6<|l7 b1K b9n 1 h fun X5 h=>J6 X5<|fE h
def a4n:FS (j6×(List l8)×(List m9)×o9):=⟨124,Tryz.f124,[.val A7 [],.val [some 13] [],.val [some 5] []],[some (0,.ptr I4 [])],[.ptr I4 []],fun r=>.tup [.agg (x6 r.1),j8 13 s8 r.2.1,j8 5 z4 r.2.2.1],fun r=>[some (.optr 173 (d6j r.2.2.2))],Tryz.func124⟩
def a1K(a:o9):Option (j6×(List l8)×(List m9)×o9) :=
 ((a78 a.n).bind fun X5=>((b2F a.out).bind fun msgsCopy=>((b9U a.told).bind fun told=>some (X5,msgsCopy,told,a))))
theorem a5q{a}:OK a4n [.optr 173 (d6j a)] (a1K a) :=
 o7 _ fun r h=>n6<|l7 b1K b9n 4 h fun X5 h=>l7 a6Z d2R 9 h fun msgsCopy h=>l7 c3C c9E 14 h fun told h=>J6 X5<|C7 msgsCopy told<|fE h
def c33:FS (List n7):=⟨67,Tryz.f67,[.val [some 2] [some 150]],[],[],fun r=>u9 150 2 z6 r,fun _=>[],Tryz.func67⟩
def b24:Option (List n7) :=
 (t0 (0<=(4:Int)/\(4:Int)*16<=140737488355328) (some (f5u (4:Int).toNat (n7.mk 0 0))))
theorem d2w:OK c33 [] b24 :=
 o7 _ fun r h=>n6<|t9 h fun e1 h=>R8 0 2 150 2 16 z6 (n7.mk 0 0) b2L (.none) e1 (by decide) (by rfl)<|s7 (f5u (4:Int).toNat (n7.mk 0 0))<|fE h
def c8k:FS (u6):=⟨103,Tryz.f103,[.val [none,some 2,some 4] [none,some 150,some 188]],[],[],fun r=>.agg (b4D r),fun _=>[],Tryz.func103⟩
def b86:Option u6 :=
 ((b24).bind fun a3c=>some (u6.mk 0 a3c []))
theorem f0A:OK c8k [] b86 :=
 o7 _ fun r h=>n6<|l7 c33 d2w 0 h fun a3c h=>s7 a3c<|fE h
end
end Go.Proofs.YthbeecjnggpjnaaGreat
