/- Abstract values and states of the program, functions of the program and what their calls come to, and what follows from it: part 3 of the text that the law leans on; long names are written short. -/
import Derived.Test.YtiplopknlhknjaaGreatP2
set_option linter.unusedVariables false
set_option linter.unusedSimpArgs false
set_option linter.unnecessarySimpa false
namespace Go.Proofs.YtiplopknlhknjaaGreat
open Go
open Option renaming bind_some → e8C, map_some → e9w, getD_some → e9D, map_eq_some_iff → e9K
open List renaming getElem?_eq_getElem → e8D, replicate → e8E, getElem_mem → e8F, getElem?_eq_some_iff → e8I, mem_singleton → e8J, mem_cons → e8K, nodup_append → e8L, range → e8M, eq_nil_of_length_eq_zero → e8N, length_append → e8O, mem_of_getElem? → e8P, getD_eq_getElem?_getD → e8Q, append_assoc → e8R, drop_eq_nil_of_le → e8S, getElem?_append_right → e8T, getElem?_set_ne → e8U, drop_eq_getElem_cons → e8X, getElem?_append_left → e8Y, flatten_cons → e8Z, length_take → e83, map_cons → e84, take_length → e85, take_of_length_le → e86, take_succ_eq_append_getElem → e87, getElem?_eq_none → e88, append_nil → e9b, take_append_of_le_length → e9c, pairwise_iff_getElem → e9d, take_zero → e9e, mem_replicate → e9f, nil_append → e9g, mem_of_mem_drop → e9i, mem_of_mem_take → e9j, length_cons → e9l, mem_flatten → e9m, take_append_drop → e9n, getElem?_map → e9o, any_eq_false → e9p, length_map → e9r, getElem_of_mem → e9s, mem_range → e9u, getElem?_set_self → e9v, nodup_cons → e9x, length_singleton → e9z, findIdx?_eq_some_iff_getElem → e9C, drop_zero → e9F, pairwise_cons → e9G, map_append → e9H, getElem?_cons_succ → e9I, length_set → e9N, sublist_append_right → e9P, getElem?_of_mem → e9Q, pairwise_append → e9R, mem_take_iff_getElem → e9S, Perm → e9U, drop_drop → e9V, any_eq_true → e9W, take_succ_cons → e9X, replicate_succ → e9Y, getElem?_cons_zero → e9Z, getElem?_take → e90, foldl_cons → e91, length_nil → e92, drop_append_of_le_length → e93, size_toArray → e94, all_eq_false → e95, toArray → e96, map_map → e97, Sublist → e98, set_getElem_self → f0a, cons_append → f0c, mem_cons_of_mem → f0e, flatten_append → f0f, foldl_nil → f0g
open Bool renaming and_eq_true → e8G, not_true → e8H, true_and → e8V, not_false → e8W, false_or → e9a, not_eq_true' → e9t, false_eq_true → e9A, and_true → e9B, or_eq_false_iff → e9T, and_assoc → e99, true_or → f0b
open Nat renaming mul_le_mul_right → e80, eq_of_beq_eq_true → e89, le_refl → e9h, zero_add → e9k, succ_mul → e9q, lt_of_lt_of_le → e9E, le_mul_of_pos_right → e9J, zero_le → e9L, add_zero → e9M, le_succ_of_le → e9O
open Int renaming tmod → e81, toNat_natCast → e82, tdiv → f0d
open Option.some renaming inj → e9y
noncomputable section
def b4g:FS (s6):=⟨16,Tryz.f16,[.ptr [some 1,none] []],[none],[.val [some 1] []],fun r=>.optr 94 (W5 r),fun _=>[none],Tryz.func16⟩
def d28:(List Int)->KS:=fun b65=>⟨b4g.k 3 [true],(j9 1 H7 b65::(bs 10 [])),[some []]⟩
def c2Q(b65:List Int):Option s6 :=
 some (s6.mk b65 0)
theorem e2f(r):NF b4g r d28 (fun s=>c2Q s):=fun b65 h=>PK<|rg<|fE h
def b7U(code:List Int):Option s6 :=
 (((bif decide ((code.length:Int)>2000) then (s7 ((0:Int)<=2000/\2000<=(code.length:Int)) (some (l8.brk ((code.drop 0).take ((2000:Int).toNat-0))))) else some (l8.brk code)):Option (l8 s6 (List Int))).bind fun x=>x.go some fun j=>c2Q j)
theorem d72{code}:OK b4g [j9 1 H7 code] (b7U code) :=
 n7 _ fun r h=>rg<|B0 h (e2f r) fun x1 h hc1=>rg<|j4 2 h (fun h=>rg<|s9 h fun e1 h=>om (V.sl 1 ((2000:Int).toNat-0) (((code.map H7).drop 0).take ((2000:Int).toNat-0))=j9 1 H7 ((code.drop 0).take ((2000:Int).toNat-0))) (b7o e1)<|ob e1.1<|ob e1.2<|tl (1,{v:=some (j9 1 H7 ((code.drop 0).take ((2000:Int).toNat-0)))})<|(o6 h hc1 fun hI=>sk [] [0] [] hI)) (fun h=>(o6 h hc1 fun hI=>sk [] [0] [] hI))
def d18:FS (j5):=⟨24,Tryz.f24,[.val A0 E7],[none],[.val [] []],fun r=>.agg (F5 r),fun _=>[none],Tryz.func24⟩
def c2T(id:Int):Option j5 :=
 (bif decide (id<0) then some (j5.mk 0 (v6.mk 0 []) [] 0 0 0 [] [] (m4.mk false (p8.mk 0 0) (m9.mk [] [] 0 0)) [] false [] (m4.mk false (p8.mk 0 0) (m9.mk [] [] 0 0)) []) else (bif decide (id>=3) then some (j5.mk 0 (v6.mk 0 []) [] 0 0 0 [] [] (m4.mk false (p8.mk 0 0) (m9.mk [] [] 0 0)) [] false [] (m4.mk false (p8.mk 0 0) (m9.mk [] [] 0 0)) []) else some (j5.mk id (v6.mk 0 []) [] 0 0 0 [] [] (m4.mk false (p8.mk 0 0) (m9.mk [] [] 0 0)) [] false [] (m4.mk false (p8.mk 0 0) (m9.mk [] [] 0 0)) [])))
theorem e5t{id}:OK d18 [vi id] (c2T id) :=
 n7 _ fun r h=>n5<|j4 2 h (fun h=>rg<|fE h) (fun h=>j4 5 h (fun h=>rg<|fE h) (fun h=>rg<|fE h))
def a5I:FS (m5):=⟨9,Tryz.f9,[.val E2 Q2],[],[],fun r=>.agg (P9 r),fun _=>[],Tryz.func9⟩
def d0k:(List j5)->KS:=fun Nodes1=>⟨a5I.k 4 [false],(.ptr 1 0 0::(.ptr 2 0 0::(bs 14 []))),[some [],some [.var 28 [.nil,.nil,.nil,.nil]],some [.var 28 [.own 3 0 27 0 Nodes1.length,.nil,.nil,.nil]],some [B5 53 27 w9 Nodes1]]⟩
def c8N(Nodes1:List j5):Option m5 :=
 some (m5.mk Nodes1 [] [] [])
theorem e5W(r):NF a5I r d0k (fun s=>c8N s):=fun Nodes1 h=>PK<|rg<|s4 Nodes1<|fE h
def e7K:((List j5)×Int)->KS:=fun (a9,i)=>⟨a5I.k 3 [],(.ptr 1 0 0::(.ptr 2 0 0::(vi i::(bs 13 [])))),[some [],some [.var 28 [.nil,.nil,.nil,.nil]],some [.var 28 [.own 3 0 27 0 a9.length,.nil,.nil,.nil]],some [B5 53 27 w9 a9]]⟩
def d57(U4:j5):List V:=(a5v U4)
def a21(a9:List j5)(i:Int):Option (l7 m5 ((List j5)×Int) (List j5)) :=
 (bif decide (i<3) then ((c2T i).bind fun U4=>(s7 ((a9.length+1)*392<=140737488355328) (some (l7.nxt (a9++[U4],m7 (i+1)))))) else some (l7.brk a9))
theorem d8p:LQ a5I d0k e7K (fun s=>a21 s.1 s.2):=fun lc (a9,i) h=>PK<|rg<|j4 1 h (fun h=>rg<|j8 d18 e5t 3 h fun U4 h=>om (r9.deep false 53 27 1 [(d57 U4)]=B5 53 27 w9 [U4]) rfl<|z3 U4<|tl (4,{a:=.dck [none,none,some 8,some 7,none,none,none,some 1,some 8,none,none,none,some 2,some 2,none,none,some 1,none,some 4,none,none,none,some 2,some 2,none,none,some 7] [none,none,some 126,some 51,none,none,none,some 4,none,none,none,none,none,none,none,none,some 4,none,none,none,none,none,none,none,none,none,some 51],e:=some (B5 53 27 w9 [U4])})<|s9 h fun e1 h=>om (V.own 11 0 27 0 (a9.length+1)=.own 11 0 27 0 (a9++[U4]).length) (by simp)<|om (r9.deep false 53 27 (a9.length+1) (a9.map w9++[w9 U4])=B5 53 27 w9 (a9++[U4])) (c1x rfl)<|s4 a9<|ob e1<|om (1=1) rfl<|tl (5,{a:=.dck [] [],v:=some (.own 11 0 27 0 (a9++[U4]).length),e:=some (B5 53 27 w9 (a9++[U4]))})<|rg<|(lc.nx h fun hI=>sk [] [0,1,2] [(1,0),(2,0),(11,0)] hI)) (fun h=>(lc.bk h fun hI=>sk [] [0,1] [(1,0),(2,0),(3,0)] hI))
def b1U:Option m5 :=
 ((o9 (fun s:(List j5)×Int=>a21 s.1 s.2) ([],0)).bind fun x=>x.go (fun r=>some r) fun s=>c8N s)
theorem c6I:OK a5I [] b1U :=
 n7 _ fun r h=>M3<|lp (d8p) h (fun _ h=>a5I.rt h) (e5W r) fun hI=>sk [.ownD (.cell 3 0 0) 53 27] [0,1,2] [(1,0),(3,0),(6,0)] hI
def E0:FS (Int×s6):=⟨39,Tryz.f39,[.val [] []],[some (0,.ptr [some 1,none] []),none],[.ptr [some 1,none] [],.val [] []],fun r=>vi r.1,fun r=>[some (.optr 94 (W5 r.2)),none],Tryz.func39⟩
def D5(r_:s6)(n:Int):Option (Int×s6) :=
 (bif decide (n<1) then some (0,(s6.mk r_.b (m7 (r_.p+1)))) else (bif ((r_.b.length:Int)==0) then some (0,(s6.mk r_.b (m7 (r_.p+1)))) else (bif decide ((m7 ((m7 (r_.p+1))-1))<(r_.b.length:Int)) then ((idx r_.b (m7 ((m7 (r_.p+1))-1))).bind fun y=>(s7 (n≠0) (some (e81 (m7 y) n,(s6.mk r_.b (m7 (r_.p+1))))))) else (s7 ((r_.b.length:Int)≠0) (((idx r_.b (e81 (m7 ((m7 (r_.p+1))-1)) (r_.b.length:Int))).bind fun y1=>(s7 ((r_.b.length:Int)≠0) (((idx r_.b (e81 (m7 ((m7 ((m7 ((m7 (r_.p+1))-1))*7))+3)) (r_.b.length:Int))).bind fun y2=>(s7 ((r_.b.length:Int)≠0) ((s7 (n≠0) (some (e81 (a5O .i64 (m7 ((m7 ((m7 ((m7 ((m7 y1)*131))+(m7 ((m7 y2)*1117))))+(m7 ((m7 ((m7 (r_.p+1))-1))*29))))+(m7 ((m7 (f0d (m7 ((m7 (r_.p+1))-1)) (r_.b.length:Int)))*53)))) (m7 (f0d (m7 ((m7 ((m7 ((m7 ((m7 y1)*131))+(m7 ((m7 y2)*1117))))+(m7 ((m7 ((m7 (r_.p+1))-1))*29))))+(m7 ((m7 (f0d (m7 ((m7 (r_.p+1))-1)) (r_.b.length:Int)))*53)))) 64))) n,(s6.mk r_.b (m7 (r_.p+1)))))))))))))))))
theorem E4{r_ n}:OK E0 [.optr 94 (W5 r_),vi n] (D5 r_ n) :=
 n7 _ fun r h=>M3<|j4 2 h (fun h=>rg<|fE h) (fun h=>j4 9 h (fun h=>rg<|fE h) (fun h=>n5<|j4 6 h (fun h=>rg<|v5 H7 5 h fun y hy h=>s9 h fun e1 h=>ob e1<|fE h) (fun h=>rg<|s9 h fun e2 h=>ob e2<|v5 H7 11 h fun y1 hy1 h=>s9 h fun e3 h=>ob e3<|v5 H7 28 h fun y2 hy2 h=>s9 h fun e4 h=>ob e4<|rg<|om (64≠(0:Int)) (by decide)<|rg<|s9 h fun e5 h=>ob e5<|fE h)))
def c4u:FS (m9):=⟨145,Tryz.f145,[.val M7 []],[none],[.val M7 []],fun r=>.agg (O6 r),fun _=>[none],Tryz.func145⟩
def b9M(r_:m9):Option m9 :=
 (s7 ((([]:List p7).length+r_.b5.length)*16<=140737488355328) ((s7 ((([]:List n8).length+r_.b7.length)*16<=140737488355328) (some (m9.mk (([]:List p7)++r_.b5) (([]:List n8)++r_.b7) r_.f0 r_.Code)))))
theorem e1r{r_}:OK c4u [.agg (O6 r_)] (b9M r_) :=
 n7 _ fun r h=>n5<|tk 0 []<|s9 h fun e1 h=>oa 6 0 2 ([]:List p7) r_.b5<|oz 155 2 t8 ([]:List p7) r_.b5<|B3 p7<|ob e1<|tl (3,{v:=some (.own 6 0 2 0 (([]:List p7)++r_.b5).length),e:=some (l9 155 2 t8 (([]:List p7)++r_.b5))})<|tk 4 []<|s9 h fun e2 h=>oa 10 0 2 ([]:List n8) r_.b7<|oz 158 2 t9 ([]:List n8) r_.b7<|B3 n8<|ob e2<|tl (7,{v:=some (.own 10 0 2 0 (([]:List n8)++r_.b7).length),e:=some (l9 158 2 t9 (([]:List n8)++r_.b7))})<|B8 (([]:List p7)++r_.b5) (([]:List n8)++r_.b7)<|fE h
def X2:FS (m4):=⟨100,Tryz.f100,[.val I4 []],[none],[.val I4 []],fun r=>.agg (s8 r),fun _=>[none],Tryz.func100⟩
def U7(e_:m4):Option m4 :=
 ((b9M e_.b8).bind fun c4x=>some (m4.mk e_.i8 e_.a0 c4x))
theorem Z7{e_}:OK X2 [.agg (s8 e_)] (U7 e_) :=
 n7 _ fun r h=>n5<|j8 c4u e1r 6 h fun c4x h=>fE h
def a3s:FS (List m6):=⟨99,Tryz.f99,[.val [some 8] [some 126]],[none],[.val [some 8] []],fun r=>t7 126 8 o7 r,fun _=>[none],Tryz.func99⟩
def c9J:(List m6)->KS:=fun out1=>⟨a3s.k 4 [false],(bs 3 (.own 1 0 8 0 out1.length::(bs 24 []))),[some [],some [l9 126 8 o7 out1]]⟩
def d1M(out1:List m6):Option (List m6) :=
 some out1
theorem e2G(r):NF a3s r c9J (fun s=>d1M s):=fun out1 h=>PK<|rg<|s4 out1<|fE h
def e1x(list:List m6):((List m6)×Int)->KS:=fun (out,i)=>⟨a3s.k 3 [],(j9 8 o7 list::(bs 2 (.own 1 0 8 0 out.length::(vi i::(bs 23 []))))),[some [],some [l9 126 8 o7 out]]⟩
def b1b(list:List m6)(out:List m6)(i:Int):Option (l7 (List m6) ((List m6)×Int) (List m6)) :=
 (bif decide (i<(list.length:Int)) then ((idx list i).bind fun vote=>((U7 vote.i0).bind fun l5Entry=>(s7 ((out.length+1)*96<=140737488355328) (some (l7.nxt (out++[(m6.mk vote.a8 l5Entry)],m7 (i+1))))))) else some (l7.brk out))
theorem d7K(list):LQ a3s c9J (e1x list) (fun s=>b1b list s.1 s.2):=fun lc (out,i) h=>PK<|rg<|j4 3 h (fun h=>rg<|v5 o7 3 h fun vote L7 h=>I5 o7 8 L7<|j8 X2 Z7 11 h fun l5Entry h=>tk 13 S7<|s9 h fun e1 h=>E8 14 20 126 8 96 o7 out (m6.mk vote.a8 l5Entry) e1<|D8 (m6.mk vote.a8 l5Entry)<|rg<|(lc.nx h fun hI=>sk [] [0,3,4] [(20,0)] hI)) (fun h=>(lc.bk h fun hI=>sk [] [3] [(1,0)] hI))
def a7l(list:List m6):Option (List m6) :=
 ((o9 (fun s:(List m6)×Int=>b1b list s.1 s.2) (([]:List m6),0)).bind fun x=>x.go (fun r=>some r) fun s=>d1M s)
theorem b4V{list}:OK a3s [j9 8 o7 list] (a7l list) :=
 n7 _ fun r h=>n5<|tk 0 S7<|rg<|lp (d7K list) h (fun _ h=>a3s.rt h) (e2G r) fun hI=>om ((.own 2 0 8 0 0:V)=.own 2 0 8 0 ([]:List m6).length) (by simp)<|sk [.is (.tmp 3) (.own 2 0 8 0 ([]:List m6).length)] [0,3,4] [(2,0)] hI
def b21:FS (j7):=⟨56,Tryz.f56,[.val B2 []],[none],[.val B2 []],fun r=>.agg (p9 r),fun _=>[none],Tryz.func56⟩
def a6y(m:j7):Option j7 :=
 ((U7 m.i0).bind fun l5Entry=>((a7l m.a5).bind fun T6=>some (j7.mk m.a7 m.d7 m.To m.a8 m.g7 l5Entry T6)))
theorem b6y{m}:OK b21 [.agg (p9 m)] (a6y m) :=
 n7 _ fun r h=>M3<|j8 X2 Z7 2 h fun l5Entry h=>rg<|j8 a3s b4V 2 h fun T6 h=>rg<|s4 T6<|fE h
def a0E:FS (m5):=⟨63,Tryz.f63,[.val E2 Q2],[none,none],[.val E2 Q2,.val [some 13] []],fun r=>.agg (P9 r),fun _=>[none,none],Tryz.func63⟩
def c7B(w:m5):(List j7)->KS:=fun Net1=>⟨a0E.k 3 [false],(bs 2 (.ptr 1 0 0::(bs 1 (.ptr 3 0 0::(bs 24 []))))),[some [B5 53 27 w9 w.a9,.dead,l9 70 3 z8 w.c9,l9 40 5 u9 w.Told],some [.var 28 [.own 0 0 27 0 w.a9.length,.own 2 0 13 0 Net1.length,.own 0 2 3 0 w.c9.length,.own 0 3 5 0 w.Told.length]],some [l9 68 13 p9 Net1],some [.var 28 [.nil,.nil,.nil,.nil]]]⟩
def d0J(w:m5)(Net1:List j7):Option m5 :=
 some (m5.mk w.a9 Net1 w.c9 w.Told)
theorem e6z(w)(r):NF a0E r (c7B w) (fun s=>d0J w s):=fun Net1 h=>PK<|rg<|E9 w.a9 Net1 w.c9 w.Told<|fE h
def d8K(w:m5)(list:List j7):((List j7)×Int)->KS:=fun (b9,i)=>⟨a0E.k 2 [],(bs 1 (j9 13 p9 list::(.ptr 1 0 0::(bs 1 (.ptr 2 0 0::(vi i::(bs 23 []))))))),[some [B5 53 27 w9 w.a9,.dead,l9 70 3 z8 w.c9,l9 40 5 u9 w.Told],some [.var 28 [.own 0 0 27 0 w.a9.length,.own 3 0 13 0 b9.length,.own 0 2 3 0 w.c9.length,.own 0 3 5 0 w.Told.length]],some [.var 28 [.nil,.nil,.nil,.nil]],some [l9 68 13 p9 b9]]⟩
def a2r(list:List j7)(b9:List j7)(i:Int):Option (l7 m5 ((List j7)×Int) (List j7)) :=
 (bif decide (i<(list.length:Int)) then (bif decide ((b9.length:Int)<40) then ((idx list i).bind fun msg=>((a6y msg).bind fun E3=>(s7 ((b9.length+1)*152<=140737488355328) (some (l7.nxt (b9++[E3],m7 (i+1))))))) else some (l7.brk b9)) else some (l7.brk b9))
theorem e1M(w list):LQ a0E (c7B w) (d8K w list) (fun s=>a2r list s.1 s.2):=fun lc (b9,i) h=>PK<|rg<|j4 4 h (fun h=>j4 9 h (fun h=>rg<|v5 p9 4 h fun msg hmsg h=>j8 b21 b6y 6 h fun E3 h=>tk 7 B2<|s9 h fun e1 h=>E8 8 22 68 13 152 p9 b9 E3 e1<|D8 E3<|rg<|(lc.nx h fun hI=>sk [] [1,2,4,5] [(1,0),(2,0),(22,0)] hI)) (fun h=>(lc.bk h fun hI=>sk [] [2,4] [(1,0),(3,0),(2,0)] hI))) (fun h=>(lc.bk h fun hI=>sk [] [2,4] [(1,0),(3,0),(2,0)] hI))
def a2j(w:m5)(list:List j7):Option m5 :=
 ((o9 (fun s:(List j7)×Int=>a2r list s.1 s.2) (w.b9,0)).bind fun x=>x.go (fun r=>some r) fun s=>d0J w s)
theorem a4Q{w list}:OK a0E [.agg (P9 w),j9 13 p9 list] (a2j w list) :=
 n7 _ fun r h=>n5<|lp (e1M w list) h (fun _ h=>a0E.rt h) (e6z w r) fun hI=>sk [] [1,2,4,5] [(1,0),(2,0),(0,1)] hI
def b8h:FS (m5):=⟨101,Tryz.f101,[.val E2 Q2],[none,none],[.val E2 Q2,.val [] []],fun r=>.agg (P9 r),fun _=>[none,none],Tryz.func101⟩
def b2M(w:m5)(i:Int):Option m5 :=
 (s7 ((0:Int)<=i/\i<=(w.b9.length:Int)) ((s7 ((([]:List j7).length+(i.toNat-0))*152<=140737488355328) ((s7 ((0:Int)<=m7 (i+1)/\m7 (i+1)<=(w.b9.length:Int)) ((s7 (((([]:List j7)++(w.b9.drop (0+0)).take (i.toNat-0)).length+(w.b9.length-(m7 (i+1)).toNat))*152<=140737488355328) (some (m5.mk w.a9 ((([]:List j7)++(w.b9.drop (0+0)).take (i.toNat-0))++(w.b9.drop (0+(m7 (i+1)).toNat)).take (w.b9.length-(m7 (i+1)).toNat)) w.c9 w.Told)))))))))
set_option maxRecDepth 20000 in
theorem c8j{w i}:OK b8h [.agg (P9 w),vi i] (b2M w i) :=
 n7 _ fun r h=>n5<|tk 0 B2<|s9 h fun e1 h=>ob e1.1<|ob e1.2<|s9 h fun e2 h=>om (V.own 8 0 13 0 (([]:List j7).length+(i.toNat-0))=.own 8 0 13 0 (([]:List j7)++(w.b9.drop (0+0)).take (i.toNat-0)).length) (c2Y (by omega))<|om (r9.row 68 13 (([]:List j7).length+(i.toNat-0)) (([]:List j7).map p9++((w.b9.map p9).drop (0+0)).take (i.toNat-0))=l9 68 13 p9 (([]:List j7)++(w.b9.drop (0+0)).take (i.toNat-0))) (c0E (by omega))<|B3 j7<|ob e2<|om ((0+0)+(i.toNat-0)<=w.b9.length) (by omega)<|tl (5,{a:=.part,v:=some (.own 8 0 13 0 (([]:List j7)++(w.b9.drop (0+0)).take (i.toNat-0)).length),e:=some (l9 68 13 p9 (([]:List j7)++(w.b9.drop (0+0)).take (i.toNat-0)))})<|s9 h fun e3 h=>ob e3.1<|ob e3.2<|s9 h fun e4 h=>om (V.own 14 0 13 0 ((([]:List j7)++(w.b9.drop (0+0)).take (i.toNat-0)).length+(w.b9.length-(m7 (i+1)).toNat))=.own 14 0 13 0 ((([]:List j7)++(w.b9.drop (0+0)).take (i.toNat-0))++(w.b9.drop (0+(m7 (i+1)).toNat)).take (w.b9.length-(m7 (i+1)).toNat)).length) (c2Y (by omega))<|om (r9.row 68 13 ((([]:List j7)++(w.b9.drop (0+0)).take (i.toNat-0)).length+(w.b9.length-(m7 (i+1)).toNat)) ((([]:List j7)++(w.b9.drop (0+0)).take (i.toNat-0)).map p9++((w.b9.map p9).drop (0+(m7 (i+1)).toNat)).take (w.b9.length-(m7 (i+1)).toNat))=l9 68 13 p9 ((([]:List j7)++(w.b9.drop (0+0)).take (i.toNat-0))++(w.b9.drop (0+(m7 (i+1)).toNat)).take (w.b9.length-(m7 (i+1)).toNat))) (c0E (by omega))<|s4 (([]:List j7)++(w.b9.drop (0+0)).take (i.toNat-0))<|ob e4<|om ((0+(m7 (i+1)).toNat)+(w.b9.length-(m7 (i+1)).toNat)<=w.b9.length) (by omega)<|tl (11,{a:=.part,v:=some (.own 14 0 13 0 ((([]:List j7)++(w.b9.drop (0+0)).take (i.toNat-0))++(w.b9.drop (0+(m7 (i+1)).toNat)).take (w.b9.length-(m7 (i+1)).toNat)).length),e:=some (l9 68 13 p9 ((([]:List j7)++(w.b9.drop (0+0)).take (i.toNat-0))++(w.b9.drop (0+(m7 (i+1)).toNat)).take (w.b9.length-(m7 (i+1)).toNat)))})<|rg<|E9 w.a9 ((([]:List j7)++(w.b9.drop (0+0)).take (i.toNat-0))++(w.b9.drop (0+(m7 (i+1)).toNat)).take (w.b9.length-(m7 (i+1)).toNat)) w.c9 w.Told<|fE h
def a09:FS (Bool):=⟨93,Tryz.f93,[.val [] []],[none],[.val [] []],fun r=>.b r,fun _=>[none],Tryz.func93⟩
def a0z(n:Int):Option Bool :=
 (bif decide (n>=1) then some (decide (n<=3000)) else some false)
theorem a1O{n}:OK a09 [vi n] (a0z n) :=
 n7 _ fun r h=>n5<|j4 2 h (fun h=>fE h) (fun h=>fE h)
def a5R:FS (v6×Bool):=⟨106,Tryz.f106,[.val [none,some 8] [none,some 9000000],.val [] []],[none,none],[.val [none,some 8] [],.val [] []],fun r=>.tup [.agg [vi r.1.i4,.bot],.b r.2],fun _=>[none,none],Tryz.func106⟩
def a8U(a:v6)(bal:Int):Option (v6×Bool) :=
 ((a0z bal).bind fun V1=>(bif (!V1) then some (a,false) else (bif decide (bal<a.i4) then some (a,false) else none)))
theorem c1p{a bal}:OK a5R [.agg (W9 a),vi bal] (a8U a bal) :=
 n7 _ fun r h=>n5<|j8 a09 a1O 1 h fun V1 h=>j4 3 h (fun h=>rg<|fE h) (fun h=>j4 8 h (fun h=>rg<|fE h) (fun h=>(nomatch h)))
def a2B:FS (List j7):=⟨172,Tryz.f172,[.val [some 13] []],[none,none],[.val B2 [],.val B2 []],fun r=>j9 13 p9 r,fun _=>[none,none],Tryz.func172⟩
def a4f(m:j7)(out:j7):Option (List j7) :=
 some [(j7.mk out.a7 m.To m.d7 out.a8 out.g7 out.i0 out.a5)]
theorem a6Y{m out}:OK a2B [.agg (p9 m),.agg (p9 out)] (a4f m out) :=
 n7 _ fun r h=>rg4<|tk 1 B2<|D8 (j7.mk out.a7 m.To m.d7 out.a8 out.g7 out.i0 out.a5)<|fE h
def c8f(rv:Value):FS (j5):=⟨105,Tryz.f105,[.val A0 om1],[none],[.val A0 om1],fun r=>.agg ([vi r.Id,vi r.Acc.i4,.raw rv]++a8l r),fun _=>[none],Tryz.func105⟩
def c75(n:j5):Option j5 :=
 some (j5.mk n.Id n.Acc n.a6 n.Seq 0 0 [] [] (m4.mk false (p8.mk 0 0) (m9.mk [] [] 0 0)) [] n.i7 n.i5 n.b6 n.d8)
theorem e36{n}(rv):OK (c8f rv) [.agg ([vi n.Id,vi n.Acc.i4,.raw rv]++a8l n)] (c75 n) :=
 n7 _ fun r h=>rg4<|rg4<|B8 n.a6 n.d8<|fE h
def a9Y(rv:Value):FS (j5):=⟨151,Tryz.f151,[.val A0 om1],[none,none],[.val A0 om1,.val [] []],fun r=>.agg ([vi r.Id,vi r.Acc.i4,.raw rv]++a8l r),fun _=>[none,none],Tryz.func151⟩
def e4e(i:Nat)(fr:Bool)(r:j5):Nat×I7:=(i,{a:=.callr 0 2 [.val A0 om1,.val [] []] fr (.agg ([vi r.Id,vi r.Acc.i4,.hole]++a8l r)) [none,none]})
def e7z(rv:Value)(n:j5):Unit->KS:=fun _=>⟨(a9Y rv).k 2 [false],(bs 2 (.ptr 1 0 0::(bs 1 (.ptr 2 0 0::(bs 12 []))))),[some [l9 51 7 s8 n.a6,l9 4 1 eB n.d7,l9 4 1 eB n.a5,l9 51 7 s8 n.d8],some [.var 53 ([vi n.Id,vi n.Acc.i4,.raw rv,.own 0 0 7 0 n.a6.length,vi n.Seq,vi n.d9,vi n.a8,.own 0 1 1 0 n.d7.length]++a57 n++[.own 0 2 1 0 n.a5.length]++a28 n++[.own 0 3 7 0 n.d8.length])],some [.var 53 [vi 0,vi 0,.nil,.nil,vi 0,vi 0,vi 0,.nil,.nil,.b false,vi 0,vi 0,.nil,.nil,vi 0,vi 0,.nil,.b false,.nil,.b false,vi 0,vi 0,.nil,.nil,vi 0,vi 0,.nil]]]⟩
def d03(n:j5):Option j5 :=
 some n
theorem d3H(rv n)(r):NF (a9Y rv) r (e7z rv n) (fun s=>d03 n):=fun _ h=>PK<|rg<|H1 n<|fE h
def b0f(n:j5)(bal:Int):Option j5 :=
 (((bif (n.d9 != 0) then (bif decide (bal>n.a8) then ((c75 n).bind fun r_=>some (l8.ret r_)) else some (l8.brk ())) else some (l8.brk ())):Option (l8 j5 Unit)).bind fun x=>x.go some fun j=>d03 n)
theorem d5x{n bal}(rv):OK (a9Y rv) [.agg ([vi n.Id,vi n.Acc.i4,.raw rv]++a8l n),vi bal] (b0f n bal) :=
 n7 _ fun r h=>rg<|B0 h (d3H rv n r) fun x1 h hc1=>rg<|j4 3 h (fun h=>j4 8 h (fun h=>rg<|cb (c8f rv).t (e36 rv) 1 false h fun r_ h=>H1 n<|(B4 h hc1 fun h=>H1 r_<|fE h)) (fun h=>(o6 h hc1 fun hI=>sk [] [2,4] [(1,0),(2,0)] hI))) (fun h=>(o6 h hc1 fun hI=>sk [] [2,4] [(1,0),(2,0)] hI))
theorem e2O{n bal}(r)(h:b0f n bal=some r):∀c,W4 cx.P 151 [.agg ([vi n.Id,vi n.Acc.i4,.raw c]++a8l n),vi bal] ((a9Y c).R r) ((a9Y c).O r):=fun c=>d5x c r h
def b2h:FS (v6×Bool):=⟨106,Tryz.f106,[.val [none,some 8] [none,some 126],.val [] []],[none,none],[.val [none,some 8] [none,some 126],.val [] []],fun r=>.tup [.agg [vi r.1.i4,t7 126 8 o7 r.1.a5],.b r.2],fun _=>[none,none],Tryz.func106⟩
def a7D(a:v6)(bal:Int):Option (v6×Bool) :=
 ((a0z bal).bind fun V1=>(bif (!V1) then some (a,false) else (bif decide (bal<a.i4) then some (a,false) else some ((v6.mk bal a.a5),true))))
theorem b50{a bal}:OK b2h [.agg [vi a.i4,t7 126 8 o7 a.a5],vi bal] (a7D a bal) :=
 n7 _ fun r h=>n5<|j8 a09 a1O 1 h fun V1 h=>j4 3 h (fun h=>rg<|s4 a.a5<|fE h) (fun h=>j4 8 h (fun h=>rg<|s4 a.a5<|fE h) (fun h=>n5<|s4 a.a5<|fE h))
def c4B:FS (m9):=⟨145,Tryz.f145,[.val M7 om5],[none],[.val M7 []],fun r=>.agg (a5o r),fun _=>[none],Tryz.func145⟩
def b9h(r_:m9):Option m9 :=
 (s7 ((([]:List p7).length+r_.b5.length)*16<=140737488355328) ((s7 ((([]:List n8).length+r_.b7.length)*16<=140737488355328) (some (m9.mk (([]:List p7)++r_.b5) (([]:List n8)++r_.b7) r_.f0 r_.Code)))))
theorem e4Q{r_}:OK c4B [.agg (O6 r_)] (b9h r_) :=
 n7 _ fun r h=>n5<|tk 0 []<|s9 h fun e1 h=>oa 6 0 2 ([]:List p7) r_.b5<|oz 155 2 t8 ([]:List p7) r_.b5<|B3 p7<|ob e1<|tl (3,{v:=some (.own 6 0 2 0 (([]:List p7)++r_.b5).length),e:=some (l9 155 2 t8 (([]:List p7)++r_.b5))})<|tk 4 []<|s9 h fun e2 h=>oa 10 0 2 ([]:List n8) r_.b7<|oz 158 2 t9 ([]:List n8) r_.b7<|B3 n8<|ob e2<|tl (7,{v:=some (.own 10 0 2 0 (([]:List n8)++r_.b7).length),e:=some (l9 158 2 t9 (([]:List n8)++r_.b7))})<|B8 (([]:List p7)++r_.b5) (([]:List n8)++r_.b7)<|fE h
def c3X:FS (m4):=⟨100,Tryz.f100,[.val I4 om6],[none],[.val I4 []],fun r=>.agg (e4m r),fun _=>[none],Tryz.func100⟩
def b6G(e_:m4):Option m4 :=
 ((b9h e_.b8).bind fun d=>some (m4.mk e_.i8 e_.a0 d))
theorem d9P{e_}:OK c3X [.agg (s8 e_)] (b6G e_) :=
 n7 _ fun r h=>n5<|j8 c4B e4Q 6 h fun d h=>olR d<|fE h
def a2e:FS (List m6):=⟨99,Tryz.f99,[.val [some 8] [some 1000126]],[none],[.part],fun r=>a9A 126 8 a0o r,fun _=>[none],Tryz.func99⟩
def c8x:(List m6)->KS:=fun out1=>⟨a2e.k 4 [false],(bs 3 (.own 1 0 8 0 out1.length::(bs 24 []))),[some [],some [B5 126 8 a0o out1]]⟩
def c6T(out1:List m6):Option (List m6) :=
 some out1
theorem e2a(r):NF a2e r c8x (fun s=>c6T s):=fun out1 h=>PK<|rg<|s4 out1<|fE h
def e1Y(list:List m6):((List m6)×Int)->KS:=fun (out,i)=>⟨a2e.k 3 [],(j9 8 o7 list::(bs 2 (.own 1 0 8 0 out.length::(vi i::(bs 23 []))))),[some [],some [B5 126 8 a0o out]]⟩
def e0G(vote:m6)(d:m4):List V:=[vi vote.a8,.b d.i8,vi d.a0.d6,vi d.a0.Seq,t7 155 2 t8 d.b8.b5,t7 158 2 t9 d.b8.b7,vi d.b8.f0,vi d.b8.Code]
def b1E(list:List m6)(out:List m6)(i:Int):Option (l7 (List m6) ((List m6)×Int) (List m6)) :=
 (bif decide (i<(list.length:Int)) then ((idx list i).bind fun vote=>((b6G vote.i0).bind fun d=>(s7 ((out.length+1)*96<=140737488355328) (some (l7.nxt (out++[(m6.mk vote.a8 d)],m7 (i+1))))))) else some (l7.brk out))
theorem d4T(list):LQ a2e c8x (e1Y list) (fun s=>b1E list s.1 s.2):=fun lc (out,i) h=>PK<|rg<|j4 3 h (fun h=>rg<|v5 o7 3 h fun vote L7 h=>I5 o7 8 L7<|j8 c3X d9P 11 h fun d h=>om (r9.deep false 126 8 1 [(e0G vote d)]=B5 126 8 a0o [(m6.mk vote.a8 d)]) rfl<|olR d.b8<|tl (13,{a:=.dck [none,none,none,none,some 2,some 2,none,none] [none,none,none,none,some 155,some 158,none,none],e:=some (B5 126 8 a0o [(m6.mk vote.a8 d)])})<|s9 h fun e1 h=>om (V.own 20 0 8 0 (out.length+1)=.own 20 0 8 0 (out++[(m6.mk vote.a8 d)]).length) (by simp)<|om (r9.deep false 126 8 (out.length+1) (out.map a0o++[a0o (m6.mk vote.a8 d)])=B5 126 8 a0o (out++[(m6.mk vote.a8 d)])) (c1x rfl)<|s4 out<|ob e1<|om (1=1) rfl<|tl (14,{a:=.dck [] [],v:=some (.own 20 0 8 0 (out++[(m6.mk vote.a8 d)]).length),e:=some (B5 126 8 a0o (out++[(m6.mk vote.a8 d)]))})<|rg<|(lc.nx h fun hI=>sk [] [0,3,4] [(20,0)] hI)) (fun h=>(lc.bk h fun hI=>sk [] [3] [(1,0)] hI))
def b6t(list:List m6):Option (List m6) :=
 ((o9 (fun s:(List m6)×Int=>b1E list s.1 s.2) (([]:List m6),0)).bind fun x=>x.go (fun r=>some r) fun s=>c6T s)
theorem d8x{list}:OK a2e [j9 8 o7 list] (b6t list) :=
 n7 _ fun r h=>n5<|om (r9.deep false 126 8 0 []=B5 126 8 a0o ([]:List m6)) rfl<|tl (0,{a:=.dck [] [],e:=some (B5 126 8 a0o ([]:List m6))})<|rg<|lp (d4T list) h (fun _ h=>a2e.rt h) (e2a r) fun hI=>om ((.own 2 0 8 0 0:V)=.own 2 0 8 0 ([]:List m6).length) (by simp)<|sk [.is (.tmp 3) (.own 2 0 8 0 ([]:List m6).length)] [0,3,4] [(2,0)] hI
def c8F:FS (j5×List j7):=⟨146,Tryz.f146,[.val A0 E7,.val [some 13] []],[none,none],[.val A0 E7,.val B2 []],fun r=>.tup [.agg (F5 r.1),j9 13 p9 r.2],fun _=>[none,none],Tryz.func146⟩
def b45(n:j5)(m:j7):Option (j5×List j7) :=
 (a4u (a8U n.Acc m.a8) (fun no=>(bif (!no.2) then ((a4f m (j7.mk 6 0 0 n.Acc.i4 0 (m4.mk false (p8.mk 0 0) (m9.mk [] [] 0 0)) [])).bind fun a1d=>some (n,a1d)) else none)) (((a7D n.Acc m.a8).bind fun l6Promise=>(bif (!l6Promise.2) then none else ((b0f (j5.mk n.Id l6Promise.1 n.a6 n.Seq n.d9 n.a8 n.d7 n.g9 n.c8 n.a5 n.i7 n.i5 n.b6 n.d8) m.a8).bind fun r_=>(bif decide (m.g7<(l6Promise.1.a5.length:Int)) then (s7 ((0:Int)<=m.g7/\m.g7<=(l6Promise.1.a5.length:Int)) (((b6t ((l6Promise.1.a5.drop m.g7.toNat).take (l6Promise.1.a5.length-m.g7.toNat))).bind fun d=>((a4f m (j7.mk 2 0 0 m.a8 m.g7 (m4.mk false (p8.mk 0 0) (m9.mk [] [] 0 0)) d)).bind fun a38=>some ((j5.mk r_.Id (v6.mk r_.Acc.i4 l6Promise.1.a5) r_.a6 r_.Seq r_.d9 r_.a8 r_.d7 r_.g9 r_.c8 r_.a5 r_.i7 r_.i5 r_.b6 r_.d8),a38))))) else ((a4f m (j7.mk 2 0 0 m.a8 m.g7 (m4.mk false (p8.mk 0 0) (m9.mk [] [] 0 0)) ([]:List m6))).bind fun c9x=>some ((j5.mk r_.Id (v6.mk r_.Acc.i4 l6Promise.1.a5) r_.a6 r_.Seq r_.d9 r_.a8 r_.d7 r_.g9 r_.c8 r_.a5 r_.i7 r_.i5 r_.b6 r_.d8),c9x))))))))
set_option maxRecDepth 20000 in
theorem e2U{n m}:OK c8F [.agg (F5 n),.agg (p9 m)] (b45 n m) :=
 n7 _ fun r h=>n5<|cbA a5R.t c1p 4 true h (fun no h=>osc a5R no (by simp [a5R,K6,S9,N5,V.simple,vi,t7,W9,eB,s8,eI,t9,t8,Y5,O6,o7]) (P1 2)<|s4 n.Acc.a5<|rg<|j4 1 h (fun h=>rg<|j8 a2B a6Y 6 h fun a1d h=>z3 n<|fE h) (fun h=>(nomatch h))) (fun h=>j8 b2h b50 4 h fun l6Promise h=>s4 n.Acc.a5<|rg<|j4 1 h (fun h=>(nomatch h)) (fun h=>n5<|cb e4e e2O 3 false h fun r_ h=>H1 n<|rg<|tk 0 S7<|rg<|j4 5 h (fun h=>rg<|s9 h fun e1 h=>ob e1.1<|ob e1.2<|A4 h fun d hd h=>om (W4 cx.P 99 [.sl 8 (l6Promise.1.a5.length-m.g7.toNat) (((l6Promise.1.a5.map o7).drop (0+m.g7.toNat)).take (l6Promise.1.a5.length-m.g7.toNat))] (a2e.R d) (a2e.O d)) (by rw [e9k,b3Z e1];exact (d8x d hd))<|osc a2e d (by simp [a2e,K6,S9,N5,V.simple,vi,t7,b7y,eB,s8,eI,t9,t8,Y5,O6,o7,a0o,a9A]) (P1 1)<|om ((0+m.g7.toNat)+(l6Promise.1.a5.length-m.g7.toNat)<=l6Promise.1.a5.length) (by omega)<|tl (a2e.t 5 true d)<|rg<|A4 h fun a38 e3h h=>om (W4 cx.P 172 [.agg (p9 m),.agg [vi 2,vi 0,vi 0,vi m.a8,vi m.g7,.b false,vi 0,vi 0,j9 2 t8 ([]:List p7),j9 2 t9 ([]:List n8),vi 0,vi 0,.sl 8 d.length (Z0 (d.map a0o))]] (a2B.R a38) (a2B.O a38)) (by simp only [a8H d6W];exact (a6Y a38 e3h))<|s4 d<|tl (a2B.t 8 false a38)<|s4 l6Promise.1.a5<|H1 r_<|fE h) (fun h=>rg<|j8 a2B a6Y 8 h fun c9x h=>B3 m6<|s4 l6Promise.1.a5<|H1 r_<|fE h)))
def c4c:FS (List m6):=⟨174,Tryz.f174,[.val [some 8] [some 126]],[none,none],[.val [some 8] [],.val [] []],fun r=>t7 126 8 o7 r,fun _=>[none,none],Tryz.func174⟩
def b3D(list:List m6)(slot:Int):Option (List m6) :=
 (s7 (0<=slot/\slot*96<=140737488355328) (((a7l list).bind fun T6=>(s7 (((e8E slot.toNat (m6.mk 0 (m4.mk false (p8.mk 0 0) (m9.mk [] [] 0 0)))).length+T6.length)*96<=140737488355328) (some ((e8E slot.toNat (m6.mk 0 (m4.mk false (p8.mk 0 0) (m9.mk [] [] 0 0))))++T6))))))
theorem d8k{list slot}:OK c4c [j9 8 o7 list,vi slot] (b3D list slot) :=
 n7 _ fun r h=>n5<|s9 h fun e1 h=>S6 1 3 126 8 96 o7 (m6.mk 0 (m4.mk false (p8.mk 0 0) (m9.mk [] [] 0 0))) b2H (.ck S7) e1 (by decide) (by rfl)<|rg<|j8 a3s b4V 2 h fun T6 h=>s9 h fun e2 h=>apL 3 8 126 8 96 o7 (e8E slot.toNat (m6.mk 0 (m4.mk false (p8.mk 0 0) (m9.mk [] [] 0 0)))) T6 e2<|s4 T6<|s4 ((e8E slot.toNat (m6.mk 0 (m4.mk false (p8.mk 0 0) (m9.mk [] [] 0 0))))++T6)<|fE h
def a0Q:FS (List m6):=⟨173,Tryz.f173,[.val [some 8] []],[none,none],[.val [some 8] [],.val [some 8] []],fun r=>j9 8 o7 r,fun _=>[none,none],Tryz.func173⟩
def b0u:(List m6)->KS:=fun out1=>⟨a0Q.k 4 [false],(bs 5 (.own 1 0 8 0 out1.length::(bs 52 []))),[some [],some [l9 126 8 o7 out1]]⟩
def c8s(out1:List m6):Option (List m6) :=
 some out1
theorem e6O(r):NF a0Q r b0u (fun s=>c8s s):=fun out1 h=>PK<|rg<|s4 out1<|fE h
def b5k(a:List m6)(b:List m6):((List m6)×Int)->KS:=fun (out,i)=>⟨a0Q.k 3 [],(j9 8 o7 a::(j9 8 o7 b::(bs 3 (.own 1 0 8 0 out.length::(vi i::(bs 51 [])))))),[some [],some [l9 126 8 o7 out]]⟩
def e4n(a:List m6)(b:List m6)(out:List m6)(i:Int):Unit->KS:=fun _=>⟨a0Q.k 4 [true],(j9 8 o7 a::(j9 8 o7 b::(bs 3 (.own 1 0 8 0 out.length::(vi i::(bs 51 [])))))),[some [],some [l9 126 8 o7 out]]⟩
def e7d(a:List m6)(b:List m6)(out:List m6)(i:Int):m6->KS:=fun v_=>⟨a0Q.k 7 [true,true],(j9 8 o7 a::(j9 8 o7 b::(bs 3 (.own 1 0 8 0 out.length::(vi i::(.ptr 2 0 0::(bs 50 []))))))),[some [],some [l9 126 8 o7 out],some [.var 126 (c4h v_)]]⟩
def e5G(a:List m6)(b:List m6)(out:List m6)(i:Int):m6->KS:=fun v_1=>⟨a0Q.k 9 [true,true,true],(j9 8 o7 a::(j9 8 o7 b::(bs 3 (.own 1 0 8 0 out.length::(vi i::(.ptr 2 0 0::(bs 50 []))))))),[some [],some [l9 126 8 o7 out],some [.var 126 (c4h v_1)]]⟩
def b4Q(out:List m6)(i:Int)(v_1:m6):Option (l7 (List m6) ((List m6)×Int) (List m6)) :=
 ((U7 v_1.i0).bind fun l5Entry=>(s7 ((out.length+1)*96<=140737488355328) (some (l7.nxt (out++[(m6.mk v_1.a8 l5Entry)],m7 (i+1))))))
theorem d7R(a b out i)(lc:H8 a0Q b0u (b5k a b)):NL lc (e5G a b out i) (fun s=>b4Q out i s):=fun v_1 h=>PK<|rg<|j8 X2 Z7 5 h fun l5Entry h=>tk 7 S7<|s9 h fun e1 h=>E8 8 11 126 8 96 o7 out (m6.mk v_1.a8 l5Entry) e1<|D8 (m6.mk v_1.a8 l5Entry)<|rg<|(lc.nx h fun hI=>sk [] [0,1,5,6] [(11,0)] hI)
def b57(b:List m6)(out:List m6)(i:Int)(v_:m6):Option (l7 (List m6) ((List m6)×Int) (List m6)) :=
 (((bif decide (i<(b.length:Int)) then ((idx b i).bind fun vote=>(bif decide (vote.a8>v_.a8) then some (l8.brk vote) else some (l8.brk v_))) else some (l8.brk v_)):Option (l8 (l7 (List m6) ((List m6)×Int) (List m6)) m6)).bind fun x=>x.go some fun j=>b4Q out i j)
theorem d9g(a b out i)(lc:H8 a0Q b0u (b5k a b)):NL lc (e7d a b out i) (fun s=>b57 b out i s):=fun v_ h=>PK<|B0 h (d7R a b out i lc) fun x2 h hc2=>rg<|j4 4 h (fun h=>v5 o7 7 h fun vote L7 h=>j4 13 h (fun h=>rg<|I5 o7 2 L7<|(o6 h hc2 fun hI=>sk [] [0,1,5,6,7] [(1,0),(2,0)] hI)) (fun h=>(o6 h hc2 fun hI=>sk [] [0,1,5,6,7] [(1,0),(2,0)] hI))) (fun h=>(o6 h hc2 fun hI=>sk [] [0,1,5,6,7] [(1,0),(2,0)] hI))
def b4L(a:List m6)(b:List m6)(out:List m6)(i:Int):Option (l7 (List m6) ((List m6)×Int) (List m6)) :=
 (((bif decide (i<(a.length:Int)) then ((idx a i).bind fun Q6=>some (l8.brk Q6)) else some (l8.brk (m6.mk 0 (m4.mk false (p8.mk 0 0) (m9.mk [] [] 0 0))))):Option (l8 (l7 (List m6) ((List m6)×Int) (List m6)) m6)).bind fun x=>x.go some fun j=>b57 b out i j)
theorem e4P(a b out i)(lc:H8 a0Q b0u (b5k a b)):NL lc (e4n a b out i) (fun s=>b4L a b out i):=fun _ h=>PK<|rg<|B0 h (d9g a b out i lc) fun x2 h hc2=>rg<|j4 3 h (fun h=>rg<|v5 o7 2 h fun Q6 a2P h=>(o6 h hc2 fun hI=>sk [] [0,1,5,6,7] [(1,0),(3,0)] hI)) (fun h=>(o6 h hc2 fun hI=>sk [.frz (.cell 3 0 4) (some 2),.frz (.cell 3 0 5) (some 2)] [0,1,5,6,7] [(1,0),(3,0)] hI))
def a4F(a:List m6)(b:List m6)(out:List m6)(i:Int):Option (l7 (List m6) ((List m6)×Int) (List m6)) :=
 (((bif decide (i<(a.length:Int)) then some (l8.brk ()) else (bif decide (i<(b.length:Int)) then some (l8.brk ()) else some (l8.ret (l7.brk out)))):Option (l8 (l7 (List m6) ((List m6)×Int) (List m6)) Unit)).bind fun x=>x.go some fun j=>b4L a b out i)
theorem e5C(a b):LQ a0Q b0u (b5k a b) (fun s=>a4F a b s.1 s.2):=fun lc (out,i) h=>PK<|B0 h (e4P a b out i lc) fun x2 h hc2=>rg<|j4 4 h (fun h=>(o6 h hc2 fun hI=>sk [] [0,1,5,6] [(1,0)] hI)) (fun h=>j4 9 h (fun h=>(o6 h hc2 fun hI=>sk [] [0,1,5,6] [(1,0)] hI)) (fun h=>(B4 h hc2 fun h=>(lc.bk h fun hI=>sk [] [5] [(1,0)] hI))))
def b6z(a:List m6)(b:List m6):Option (List m6) :=
 ((o9 (fun s:(List m6)×Int=>a4F a b s.1 s.2) (([]:List m6),0)).bind fun x=>x.go (fun r=>some r) fun s=>c8s s)
theorem d9b{a b}:OK a0Q [j9 8 o7 a,j9 8 o7 b] (b6z a b) :=
 n7 _ fun r h=>n5<|tk 0 S7<|rg<|lp (e5C a b) h (fun _ h=>a0Q.rt h) (e6O r) fun hI=>om ((.own 2 0 8 0 0:V)=.own 2 0 8 0 ([]:List m6).length) (by simp)<|sk [.is (.tmp 5) (.own 2 0 8 0 ([]:List m6).length)] [0,1,5,6] [(2,0)] hI
def c5B:FS (Int):=⟨184,Tryz.f184,[.val [] []],[none],[.val [] []],fun r=>vi r,fun _=>[none],Tryz.func184⟩
def b9k(b:Bool):Option Int :=
 (bif b then some 1 else some 0)
theorem d26{b}:OK c5B [.b b] (b9k b) :=
 n7 _ fun r h=>n5<|j4 0 h (fun h=>rg<|fE h) (fun h=>rg<|fE h)
def a46:FS (Bool):=⟨175,Tryz.f175,[.val [] []],[none],[.val [some 1] []],fun r=>.b r,fun _=>[none],Tryz.func175⟩
def c81:Int->KS:=fun n1=>⟨a46.k 4 [false],(bs 3 (vi n1::(bs 16 []))),[some []]⟩
def c1A(n1:Int):Option Bool :=
 some (decide (n1>=2))
theorem d20(r):NF a46 r c81 (fun s=>c1A s):=fun n1 h=>PK<|rg<|fE h
def d5k(list:List Bool):(Int×Int)->KS:=fun (n,i)=>⟨a46.k 3 [],(j9 1 eB list::(bs 2 (vi n::(vi i::(bs 15 []))))),[some []]⟩
def a3Y(list:List Bool)(n:Int)(i:Int):Option (l7 Bool (Int×Int) Int) :=
 (bif decide (i<(list.length:Int)) then ((idx list i).bind fun y=>((b9k y).bind fun c7Q=>some (l7.nxt (m7 (n+c7Q),m7 (i+1))))) else some (l7.brk n))
theorem e3Q(list):LQ a46 c81 (d5k list) (fun s=>a3Y list s.1 s.2):=fun lc (n,i) h=>PK<|rg<|j4 3 h (fun h=>rg<|v5 eB 3 h fun y hy h=>j8 c5B d26 5 h fun c7Q h=>rg<|(lc.nx h fun hI=>sk [] [0,3,4] [] hI)) (fun h=>(lc.bk h fun hI=>sk [] [3] [] hI))
def b1a(list:List Bool):Option Bool :=
 ((o9 (fun s:Int×Int=>a3Y list s.1 s.2) (0,0)).bind fun x=>x.go (fun r=>some r) fun s=>c1A s)
theorem c6t{list}:OK a46 [j9 1 eB list] (b1a list) :=
 n7 _ fun r h=>M3<|lp (e3Q list) h (fun _ h=>a46.rt h) (d20 r) fun hI=>sk [] [0,3,4] [] hI
def a4C:FS (Bool):=⟨181,Tryz.f181,[.val [] []],[none,none],[.val [some 8] [],.val [] []],fun r=>.b r,fun _=>[none,none],Tryz.func181⟩
def d1n:Unit->KS:=fun _=>⟨a4C.k 3 [false],(bs 19 []),[some []]⟩
def c8b:Option Bool :=
 some false
theorem d7C(r):NF a4C r d1n (fun s=>c8b):=fun _ h=>PK<|rg<|fE h
def e49(list:List m6):Int->KS:=fun i=>⟨a4C.k 2 [],(j9 8 o7 list::(bs 4 (vi i::(bs 13 [])))),[some []]⟩
def a7m(list:List m6)(i:Int):Option (l7 Bool Int Unit) :=
 (bif decide (i<(list.length:Int)) then ((idx list i).bind fun vote=>(bif decide (vote.a8>0) then some (l7.ret true) else some (l7.nxt (m7 (i+1))))) else some (l7.brk ()))
theorem d3B(list):LQ a4C d1n (e49 list) (fun s=>a7m list s):=fun lc i h=>PK<|rg<|j4 3 h (fun h=>rg<|v5 o7 2 h fun vote L7 h=>j4 5 h (fun h=>rg<|fL lc h) (fun h=>rg<|(lc.nx h fun hI=>sk [] [0,5] [] hI))) (fun h=>(lc.bk h fun hI=>sk [] [] [] hI))
def b3C(list:List m6)(from_:Int):Option Bool :=
 ((o9 (fun s:Int=>a7m list s) from_).bind fun x=>x.go (fun r=>some r) fun s=>c8b)
theorem e1W{list from_}:OK a4C [j9 8 o7 list,vi from_] (b3C list from_) :=
 n7 _ fun r h=>n5<|lp (d3B list) h (fun _ h=>a4C.rt h) (d7C r) fun hI=>sk [] [0,5] [] hI
def a1x:FS (Bool):=⟨177,Tryz.f177,[.val [] []],[none,none],[.val A0 [],.val [] []],fun r=>.b r,fun _=>[none,none],Tryz.func177⟩
def c2y:Unit->KS:=fun _=>⟨a1x.k 3 [false],(bs 30 []),[some []]⟩
def d1Z:Option Bool :=
 some false
theorem e3N(r):NF a1x r c2y (fun s=>d1Z):=fun _ h=>PK<|rg<|fE h
def c39(n:j5)(q:p8):Int->KS:=fun i=>⟨a1x.k 2 [],(bs 2 (.ptr 1 0 0::(.ptr 2 0 0::(bs 1 (vi i::(bs 24 [])))))),[some [],some [.var 53 (a6O n)],some [.var 38 [vi q.d6,vi q.Seq]]]⟩
def d6K(n:j5)(q:p8)(i:Int):Unit->KS:=fun _=>⟨a1x.k 4 [true,false],(bs 2 (.ptr 1 0 0::(.ptr 2 0 0::(bs 1 (vi i::(bs 24 [])))))),[some [],some [.var 53 (a6O n)],some [.var 38 [vi q.d6,vi q.Seq]]]⟩
def c0Q(i:Int):Option (l7 Bool Int Unit) :=
 some (l7.nxt (m7 (i+1)))
theorem d9G(n q i)(lc:H8 a1x c2y (c39 n q)):NL lc (d6K n q i) (fun s=>c0Q i):=fun _ h=>PK<|rg<|(lc.nx h fun hI=>sk [] [2,3,5] [(1,0),(2,0)] hI)
def a8V(n:j5)(q:p8)(i:Int):Option (l7 Bool Int Unit) :=
 (bif decide (i<(n.a6.length:Int)) then ((((idx n.a6 i).bind fun entry=>(bif (!entry.i8) then (bif (([entry.a0.d6,entry.a0.Seq]:List Int)==[q.d6,q.Seq]) then some (l8.ret (l7.ret true)) else some (l8.brk ())) else some (l8.brk ()))):Option (l8 (l7 Bool Int Unit) Unit)).bind fun x=>x.go some fun j=>c0Q i) else some (l7.brk ()))
theorem d5L(n q):LQ a1x c2y (c39 n q) (fun s=>a8V n q s):=fun lc i h=>PK<|rg<|j4 4 h (fun h=>B0 h (d9G n q i lc) fun x2 h hc2=>rg<|v5 s8 3 h fun entry G9 h=>j4 7 h (fun h=>I5 s8 11 G9<|j4 16 h (fun h=>rg<|(B4 h hc2 fun h=>fL lc h)) (fun h=>(o6 h hc2 fun hI=>sk [] [2,3,5] [(1,0),(2,0)] hI))) (fun h=>(o6 h hc2 fun hI=>sk [] [2,3,5] [(1,0),(2,0)] hI))) (fun h=>(lc.bk h fun hI=>sk [] [] [] hI))
def a7p(n:j5)(q:p8):Option Bool :=
 ((o9 (fun s:Int=>a8V n q s) 0).bind fun x=>x.go (fun r=>some r) fun s=>d1Z)
theorem b5i{n q}:OK a1x [.agg (z9 n),.agg (Y5 q)] (a7p n q) :=
 n7 _ fun r h=>n5<|lp (d5L n q) h (fun _ h=>a1x.rt h) (e3N r) fun hI=>sk [] [2,3,5] [(1,0),(2,0)] hI
def a2y:FS (j5×m4×Bool):=⟨156,Tryz.f156,[.val A0 E7,.val I4 [],.val [] []],[none],[.val A0 E7],fun r=>.tup [.agg (F5 r.1),.agg (s8 r.2.1),.b r.2.2],fun _=>[none],Tryz.func156⟩
def d99(n:j5):Unit->KS:=fun _=>⟨a2y.k 3 [false],(bs 1 (.ptr 1 0 0::(.ptr 2 0 0::(.ptr 3 0 0::(bs 1 (vi (n.a6.length:Int)::(bs 69 []))))))),[some (a7y n),some [.var 53 (a6H n)],some [.var 53 [vi 0,vi 0,.nil,.nil,vi 0,vi 0,vi 0,.nil,.nil,.b false,vi 0,vi 0,.nil,.nil,vi 0,vi 0,.nil,.b false,.nil,.b false,vi 0,vi 0,.nil,.nil,vi 0,vi 0,.nil]],some [.var 51 [.b false,vi 0,vi 0,.nil,.nil,vi 0,vi 0]]]⟩
def d8V(n:j5):Unit->KS:=fun _=>⟨a2y.k 5 [false,false,false],(bs 1 (.ptr 1 0 0::(.ptr 2 0 0::(.ptr 3 0 0::(bs 71 []))))),[some (a7y n),some [.var 53 (a6H n)],some [.var 53 [vi 0,vi 0,.nil,.nil,vi 0,vi 0,vi 0,.nil,.nil,.b false,vi 0,vi 0,.nil,.nil,vi 0,vi 0,.nil,.b false,.nil,.b false,vi 0,vi 0,.nil,.nil,vi 0,vi 0,.nil]],some [.var 51 [.b false,vi 0,vi 0,.nil,.nil,vi 0,vi 0]]]⟩
def d2m(n:j5):(List m4)->KS:=fun a9l=>⟨a2y.k 6 [false,false,false,false],(bs 1 (.ptr 1 0 0::(.ptr 3 0 0::(.ptr 4 0 0::(bs 71 []))))),[some [l9 126 8 o7 n.Acc.a5,l9 51 7 s8 n.a6,l9 4 1 eB n.d7,l9 4 1 eB n.a5,.dead],some [.var 53 ([vi n.Id,vi n.Acc.i4,.own 0 0 8 0 n.Acc.a5.length,.own 0 1 7 0 n.a6.length,vi n.Seq,vi n.d9,vi n.a8,.own 0 2 1 0 n.d7.length]++a57 n++[.own 0 3 1 0 n.a5.length]++a28 n++[.own 2 0 7 0 a9l.length])],some [l9 51 7 s8 a9l],some [.var 53 [vi 0,vi 0,.nil,.nil,vi 0,vi 0,vi 0,.nil,.nil,.b false,vi 0,vi 0,.nil,.nil,vi 0,vi 0,.nil,.b false,.nil,.b false,vi 0,vi 0,.nil,.nil,vi 0,vi 0,.nil]],some [.var 51 [.b false,vi 0,vi 0,.nil,.nil,vi 0,vi 0]]]⟩
def c41(n:j5)(a9l:List m4):Option (j5×m4×Bool) :=
 some ((j5.mk n.Id n.Acc n.a6 n.Seq n.d9 n.a8 n.d7 n.g9 n.c8 n.a5 n.i7 n.i5 n.b6 a9l),(m4.mk false (p8.mk 0 0) (m9.mk [] [] 0 0)),false)
theorem d4j(n)(r):NF a2y r (d2m n) (fun s=>c41 n s):=fun a9l h=>PK<|rg<|s4 n.Acc.a5<|E9 n.a6 n.d7 n.a5 a9l<|fE h
def e7M(n:j5):(List m4)->KS:=fun d8=>⟨a2y.k 5 [false,false,false],(bs 1 (.ptr 1 0 0::(.ptr 2 0 0::(.ptr 3 0 0::(bs 71 []))))),[some [l9 126 8 o7 n.Acc.a5,l9 51 7 s8 n.a6,l9 4 1 eB n.d7,l9 4 1 eB n.a5,.dead],some [.var 53 ([vi n.Id,vi n.Acc.i4,.own 0 0 8 0 n.Acc.a5.length,.own 0 1 7 0 n.a6.length,vi n.Seq,vi n.d9,vi n.a8,.own 0 2 1 0 n.d7.length]++a57 n++[.own 0 3 1 0 n.a5.length]++a28 n++[.own 4 0 7 0 d8.length])],some [.var 53 [vi 0,vi 0,.nil,.nil,vi 0,vi 0,vi 0,.nil,.nil,.b false,vi 0,vi 0,.nil,.nil,vi 0,vi 0,.nil,.b false,.nil,.b false,vi 0,vi 0,.nil,.nil,vi 0,vi 0,.nil]],some [.var 51 [.b false,vi 0,vi 0,.nil,.nil,vi 0,vi 0]],some [l9 51 7 s8 d8]]⟩
def a87(n:j5)(d8:List m4):Option (l7 (j5×m4×Bool) (List m4) (List m4)) :=
 (bif decide ((d8.length:Int)>0) then ((idx d8 0).bind fun entry=>(s7 ((0:Int)<=1/\1<=(d8.length:Int)) ((s7 ((([]:List m4).length+(d8.length-(1:Int).toNat))*88<=140737488355328) (((a7p (j5.mk n.Id n.Acc n.a6 n.Seq n.d9 n.a8 n.d7 n.g9 n.c8 n.a5 n.i7 n.i5 n.b6 (([]:List m4)++(d8.drop (0+(1:Int).toNat)).take (d8.length-(1:Int).toNat))) entry.a0).bind fun a5W=>(bif (!a5W) then some (l7.ret ((j5.mk n.Id n.Acc n.a6 n.Seq n.d9 n.a8 n.d7 n.g9 n.c8 n.a5 n.i7 n.i5 n.b6 (([]:List m4)++(d8.drop (0+(1:Int).toNat)).take (d8.length-(1:Int).toNat))),entry,true)) else some (l7.nxt (([]:List m4)++(d8.drop (0+(1:Int).toNat)).take (d8.length-(1:Int).toNat)))))))))) else some (l7.brk d8))
theorem d8t(n):LQ a2y (d2m n) (e7M n) (fun s=>a87 n s):=fun lc d8 h=>PK<|rg<|j4 3 h (fun h=>rg<|A4 h fun entry G9 h=>A9 G9<|G7 s8 3 G9<|rg<|tk 0 I4<|s9 h fun e1 h=>ob e1.1<|ob e1.2<|s9 h fun e2 h=>om (V.own 19 0 7 0 (([]:List m4).length+(d8.length-(1:Int).toNat))=.own 19 0 7 0 (([]:List m4)++(d8.drop (0+(1:Int).toNat)).take (d8.length-(1:Int).toNat)).length) (c2Y (by omega))<|om (r9.row 51 7 (([]:List m4).length+(d8.length-(1:Int).toNat)) (([]:List m4).map s8++((d8.map s8).drop (0+(1:Int).toNat)).take (d8.length-(1:Int).toNat))=l9 51 7 s8 (([]:List m4)++(d8.drop (0+(1:Int).toNat)).take (d8.length-(1:Int).toNat))) (c0E (by omega))<|B3 m4<|ob e2<|om ((0+(1:Int).toNat)+(d8.length-(1:Int).toNat)<=d8.length) (by omega)<|tl (4,{a:=.part,v:=some (.own 19 0 7 0 (([]:List m4)++(d8.drop (0+(1:Int).toNat)).take (d8.length-(1:Int).toNat)).length),e:=some (l9 51 7 s8 (([]:List m4)++(d8.drop (0+(1:Int).toNat)).take (d8.length-(1:Int).toNat)))})<|rg<|R0 a1x b5i 3 2 h fun a5W h=>s4 n.Acc.a5<|E9 n.a6 n.d7 n.a5 (([]:List m4)++(d8.drop (0+(1:Int).toNat)).take (d8.length-(1:Int).toNat))<|j4 4 h (fun h=>rg<|s4 n.Acc.a5<|E9 n.a6 n.d7 n.a5 (([]:List m4)++(d8.drop (0+(1:Int).toNat)).take (d8.length-(1:Int).toNat))<|fL lc h) (fun h=>(lc.nx h fun hI=>sk [] [1,2,3] [(1,0),(2,0),(3,0),(19,0)] hI))) (fun h=>(lc.bk h fun hI=>sk [] [1,2,3] [(1,0),(4,0),(2,0),(3,0)] hI))
def b7E(n:j5):Option (j5×m4×Bool) :=
 ((o9 (fun s:List m4=>a87 n s) n.d8).bind fun x=>x.go (fun r=>some r) fun s=>c41 n s)
theorem d6A(n)(r):NF a2y r (d8V n) (fun s=>b7E n):=fun _ h=>PK<|lp (d8t n) h (fun _ h=>a2y.rt h) (d4j n r) fun hI=>sk [] [1,2,3] [(1,0),(2,0),(3,0),(0,4)] hI
def b7T(n:j5):Option (j5×m4×Bool) :=
 ((b3C n.g9 (n.a6.length:Int)).bind fun b9p=>(bif b9p then some (n,(m4.mk true (p8.mk 0 0) (m9.mk [] [] 0 0)),true) else (((bif n.i7 then ((a7p n n.b6.a0).bind fun c6x=>(bif (!c6x) then ((U7 n.b6).bind fun l5Entry=>some (l8.ret (n,l5Entry,true))) else some (l8.brk ()))) else some (l8.brk ())):Option (l8 (j5×m4×Bool) Unit)).bind fun x=>x.go some fun j=>b7E n)))
theorem e52(n)(r):NF a2y r (d99 n) (fun s=>b7T n):=fun _ h=>PK<|rg<|cbE a4C.t e1W h fun b9p c57 h=>cdT (a4C.t 3 false b9p) h (fun _ h=>ob c57<|rg<|z3 n<|fE h) (fun _ h=>ob c57<|B0 h (d6A n r) fun x1 h hc1=>rg<|j4 2 h (fun h=>R0 a1x b5i 7 2 h fun c6x h=>z3 n<|j4 9 h (fun h=>rg<|j8 X2 Z7 3 h fun l5Entry h=>(B4 h hc1 fun h=>z3 n<|fE h)) (fun h=>(o6 h hc1 fun hI=>sk [] [1,2,3] [(1,0),(2,0),(3,0)] hI))) (fun h=>(o6 h hc1 fun hI=>sk [] [1,2,3] [(1,0),(2,0),(3,0)] hI)))
def b4T(n:j5):Option (j5×m4×Bool) :=
 (((bif decide ((n.a6.length:Int)<(n.g9.length:Int)) then ((idx n.g9 (n.a6.length:Int)).bind fun vote=>(bif decide (vote.a8>0) then ((U7 vote.i0).bind fun b2w=>some (l8.ret (n,b2w,true))) else some (l8.brk ()))) else some (l8.brk ())):Option (l8 (j5×m4×Bool) Unit)).bind fun x=>x.go some fun j=>b7T n)
theorem d8q{n}:OK a2y [.agg (F5 n)] (b4T n) :=
 n7 _ fun r h=>n5<|B0 h (e52 n r) fun x1 h hc1=>rg<|j4 5 h (fun h=>v5 o7 9 h fun vote L7 h=>j4 13 h (fun h=>rg<|I5 o7 4 L7<|j8 X2 Z7 7 h fun b2w h=>(B4 h hc1 fun h=>z3 n<|fE h)) (fun h=>(o6 h hc1 fun hI=>sk [] [1,2,3,5] [(1,0),(2,0),(3,0)] hI))) (fun h=>(o6 h hc1 fun hI=>sk [] [1,2,3,5] [(1,0),(2,0),(3,0)] hI))
def a0G:FS (Bool):=⟨140,Tryz.f140,[.val [] []],[none,none],[.val M7 [],.val M7 []],fun r=>.b r,fun _=>[none,none],Tryz.func140⟩
def c9p(a:m9)(b:m9):Unit->KS:=fun _=>⟨a0G.k 4 [false,false],(bs 2 (.ptr 1 0 0::(.ptr 2 0 0::(bs 69 [])))),[some [],some [.var 49 (a0n a)],some [.var 49 (a0n b)]]⟩
def c5N:Unit->KS:=fun _=>⟨a0G.k 6 [false,false,false],(bs 73 []),[some []]⟩
def c83:Option Bool :=
 some true
theorem d8c(r):NF a0G r c5N (fun s=>c83):=fun _ h=>PK<|rg<|fE h
def e3k(a:m9)(b:m9):Int->KS:=fun i1=>⟨a0G.k 5 [false,false],(bs 2 (.ptr 1 0 0::(.ptr 2 0 0::(bs 2 (vi i1::(bs 66 [])))))),[some [],some [.var 49 (a0n a)],some [.var 49 (a0n b)]]⟩
def b1M(a:m9)(b:m9)(i1:Int):Option (l7 Bool Int Unit) :=
 (bif decide (i1<(a.b7.length:Int)) then ((idx a.b7 i1).bind fun put=>((idx b.b7 i1).bind fun put1=>(bif (!(([put.i6,put.f0]:List Int)==[put1.i6,put1.f0])) then some (l7.ret false) else some (l7.nxt (m7 (i1+1)))))) else some (l7.brk ()))
theorem e0W(a b):LQ a0G c5N (e3k a b) (fun s=>b1M a b s):=fun lc i1 h=>PK<|rg<|j4 4 h (fun h=>rg<|v5 t9 3 h fun put hput h=>v5 t9 8 h fun put1 b1T h=>j4 10 h (fun h=>rg<|fL lc h) (fun h=>rg<|(lc.nx h fun hI=>sk [] [2,3,6] [(1,0),(2,0)] hI))) (fun h=>(lc.bk h fun hI=>sk [] [] [] hI))
def b95(a:m9)(b:m9):Option Bool :=
 ((o9 (fun s:Int=>b1M a b s) 0).bind fun x=>x.go (fun r=>some r) fun s=>c83)
theorem d4r(a b)(r):NF a0G r (c9p a b) (fun s=>b95 a b):=fun _ h=>PK<|rg<|lp (e0W a b) h (fun _ h=>a0G.rt h) (d8c r) fun hI=>sk [] [2,3,6] [(1,0),(2,0)] hI
def d9z(a:m9)(b:m9):Int->KS:=fun i=>⟨a0G.k 3 [false],(bs 2 (.ptr 1 0 0::(.ptr 2 0 0::(bs 1 (vi i::(bs 67 [])))))),[some [],some [.var 49 (a0n a)],some [.var 49 (a0n b)]]⟩
def b0O(a:m9)(b:m9)(i:Int):Option (l7 Bool Int Unit) :=
 (bif decide (i<(a.b5.length:Int)) then ((idx a.b5 i).bind fun read=>((idx b.b5 i).bind fun P8=>(bif (!(([read.i6,read.j3]:List Int)==[P8.i6,P8.j3])) then some (l7.ret false) else some (l7.nxt (m7 (i+1)))))) else some (l7.brk ()))
theorem d6q(a b):LQ a0G (c9p a b) (d9z a b) (fun s=>b0O a b s):=fun lc i h=>PK<|rg<|j4 4 h (fun h=>rg<|v5 t8 3 h fun read a2O h=>v5 t8 8 h fun P8 d1w h=>j4 10 h (fun h=>rg<|fL lc h) (fun h=>rg<|(lc.nx h fun hI=>sk [] [2,3,5] [(1,0),(2,0)] hI))) (fun h=>(lc.bk h fun hI=>sk [] [2,3] [(1,0),(2,0)] hI))
def a8M(a:m9)(b:m9):Option Bool :=
 (bif (a.f0 != b.f0) then some false else (bif (a.Code != b.Code) then some false else (bif ((a.b5.length:Int) != (b.b5.length:Int)) then some false else (bif ((a.b7.length:Int) != (b.b7.length:Int)) then some false else ((o9 (fun s:Int=>b0O a b s) 0).bind fun x=>x.go (fun r=>some r) fun s=>b95 a b)))))
theorem b9x{a b}:OK a0G [.agg (O6 a),.agg (O6 b)] (a8M a b) :=
 n7 _ fun r h=>n5<|j4 5 h (fun h=>rg<|fE h) (fun h=>j4 12 h (fun h=>rg<|fE h) (fun h=>j4 21 h (fun h=>rg<|fE h) (fun h=>j4 29 h (fun h=>rg<|fE h) (fun h=>rg<|lp (d6q a b) h (fun _ h=>a0G.rt h) (d4r a b r) fun hI=>sk [] [2,3,5] [(1,0),(2,0)] hI))))
def b67:FS (Bool):=⟨52,Tryz.f52,[.val [] []],[none],[.val [] []],fun r=>.b r,fun _=>[none],Tryz.func52⟩
def a9H(q:p8):Option Bool :=
 (bif decide (q.d6>=0) then (bif decide (q.d6<3) then (bif decide (q.Seq>=1) then some (decide (q.Seq<=1000)) else some false) else some false) else some false)
theorem b9s{q}:OK b67 [.agg (Y5 q)] (a9H q) :=
 n7 _ fun r h=>n5<|j4 3 h (fun h=>j4 8 h (fun h=>j4 13 h (fun h=>fE h) (fun h=>fE h)) (fun h=>fE h)) (fun h=>fE h)
def a7x:FS (Bool):=⟨96,Tryz.f96,[.val [] []],[none],[.val [] []],fun r=>.b r,fun _=>[none],Tryz.func96⟩
def a4N(n:Int):Option Bool :=
 (bif decide (n>=(-1000000)) then some (decide (n<=1000000)) else some false)
theorem a83{n}:OK a7x [vi n] (a4N n) :=
 n7 _ fun r h=>n5<|j4 2 h (fun h=>fE h) (fun h=>fE h)
def b2u:FS (Bool):=⟨144,Tryz.f144,[.val [] []],[none],[.val [] []],fun r=>.b r,fun _=>[none],Tryz.func144⟩
def a7W(n:Int):Option Bool :=
 (bif decide (n>=0) then some (decide (n<4)) else some false)
theorem b5S{n}:OK b2u [vi n] (a7W n) :=
 n7 _ fun r h=>n5<|j4 2 h (fun h=>fE h) (fun h=>fE h)
def a40:FS (Bool):=⟨170,Tryz.f170,[.val [] []],[none,none],[.val [some 2] [],.val [] []],fun r=>.b r,fun _=>[none,none],Tryz.func170⟩
def c38:Unit->KS:=fun _=>⟨a40.k 3 [false],(bs 19 []),[some []]⟩
def c79:Option Bool :=
 some false
theorem e7k(r):NF a40 r c38 (fun s=>c79):=fun _ h=>PK<|rg<|fE h
def e3Y(list:List p7)(box:Int):Int->KS:=fun i=>⟨a40.k 2 [],(j9 2 t8 list::(vi box::(bs 3 (vi i::(bs 13 []))))),[some []]⟩
def b5h(list:List p7)(box:Int)(i:Int):Option (l7 Bool Int Unit) :=
 (bif decide (i<(list.length:Int)) then ((idx list i).bind fun read=>(bif (read.i6==box) then some (l7.ret true) else some (l7.nxt (m7 (i+1))))) else some (l7.brk ()))
theorem e1c(list box):LQ a40 c38 (e3Y list box) (fun s=>b5h list box s):=fun lc i h=>PK<|rg<|j4 3 h (fun h=>rg<|v5 t8 2 h fun read a2O h=>j4 6 h (fun h=>rg<|fL lc h) (fun h=>rg<|(lc.nx h fun hI=>sk [] [0,1,5] [] hI))) (fun h=>(lc.bk h fun hI=>sk [] [] [] hI))
def b1l(list:List p7)(box:Int):Option Bool :=
 ((o9 (fun s:Int=>b5h list box s) 0).bind fun x=>x.go (fun r=>some r) fun s=>c79)
theorem c3B{list box}:OK a40 [j9 2 t8 list,vi box] (b1l list box) :=
 n7 _ fun r h=>n5<|lp (e1c list box) h (fun _ h=>a40.rt h) (e7k r) fun hI=>sk [] [0,1,5] [] hI
def a34:FS (Int):=⟨171,Tryz.f171,[.val [] []],[none,none],[.val [some 2] [],.val [] []],fun r=>vi r,fun _=>[none,none],Tryz.func171⟩
def c84:Unit->KS:=fun _=>⟨a34.k 3 [false],(bs 20 []),[some []]⟩
def d1Y:Option Int :=
 some (-1)
theorem d9i(r):NF a34 r c84 (fun s=>d1Y):=fun _ h=>PK<|rg<|fE h
def d40(list:List n8)(box:Int):Int->KS:=fun i=>⟨a34.k 2 [],(j9 2 t9 list::(vi box::(bs 3 (vi i::(bs 14 []))))),[some []]⟩
def a05(list:List n8)(box:Int)(i:Int):Option (l7 Int Int Unit) :=
 (bif decide (i<(list.length:Int)) then ((idx list i).bind fun put=>(bif (put.i6==box) then some (l7.ret i) else some (l7.nxt (m7 (i+1))))) else some (l7.brk ()))
theorem d46(list box):LQ a34 c84 (d40 list box) (fun s=>a05 list box s):=fun lc i h=>PK<|rg<|j4 3 h (fun h=>rg<|v5 t9 2 h fun put hput h=>j4 6 h (fun h=>rg<|fL lc h) (fun h=>rg<|(lc.nx h fun hI=>sk [] [0,1,5] [] hI))) (fun h=>(lc.bk h fun hI=>sk [] [] [] hI))
def a2g(list:List n8)(box:Int):Option Int :=
 ((o9 (fun s:Int=>a05 list box s) 0).bind fun x=>x.go (fun r=>some r) fun s=>d1Y)
theorem c10{list box}:OK a34 [j9 2 t9 list,vi box] (a2g list box) :=
 n7 _ fun r h=>n5<|lp (d46 list box) h (fun _ h=>a34.rt h) (d9i r) fun hI=>sk [] [0,1,5] [] hI
def a0c:FS (Bool):=⟨141,Tryz.f141,[.val [] []],[none],[.val M7 []],fun r=>.b r,fun _=>[none],Tryz.func141⟩
def d4Z(r_:m9):Unit->KS:=fun _=>⟨a0c.k 2 [false],(bs 1 (.ptr 1 0 0::(bs 129 []))),[some [],some [.var 49 (a0n r_)]]⟩
def c29(r_:m9):Unit->KS:=fun _=>⟨a0c.k 4 [false,false],(bs 1 (.ptr 1 0 0::(bs 129 []))),[some [],some [.var 49 (a0n r_)]]⟩
def d10:Unit->KS:=fun _=>⟨a0c.k 6 [false,false,false],(bs 131 []),[some []]⟩
def c6U:Option Bool :=
 some true
theorem d6c(r):NF a0c r d10 (fun s=>c6U):=fun _ h=>PK<|rg<|fE h
def e1j(r_:m9):Int->KS:=fun i1=>⟨a0c.k 5 [false,false],(bs 1 (.ptr 1 0 0::(bs 2 (vi i1::(bs 126 []))))),[some [],some [.var 49 (a0n r_)]]⟩
def a9R(r_:m9)(i1:Int):Option (l7 Bool Int Unit) :=
 (bif decide (i1<(r_.b7.length:Int)) then ((idx r_.b7 i1).bind fun put=>((a7W put.i6).bind fun b0K=>(bif (!b0K) then some (l7.ret false) else ((a4N put.f0).bind fun a0r=>(bif (!a0r) then some (l7.ret false) else (s7 ((0:Int)<=i1/\i1<=(r_.b7.length:Int)) (((a2g ((r_.b7.drop 0).take (i1.toNat-0)) put.i6).bind fun a1A=>(bif decide (a1A>=0) then some (l7.ret false) else some (l7.nxt (m7 (i1+1)))))))))))) else some (l7.brk ()))
theorem e4Z(r_):LQ a0c d10 (e1j r_) (fun s=>a9R r_ s):=fun lc i1 h=>PK<|rg<|j4 4 h (fun h=>rg<|v5 t9 3 h fun put hput h=>j8 b2u b5S 6 h fun b0K h=>j4 8 h (fun h=>rg<|fL lc h) (fun h=>I5 t9 12 hput<|j8 a7x a83 15 h fun a0r h=>j4 18 h (fun h=>rg<|fL lc h) (fun h=>s9 h fun e1 h=>om (V.sl 2 (i1.toNat-0) (((r_.b7.map t9).drop 0).take (i1.toNat-0))=j9 2 t9 ((r_.b7.drop 0).take (i1.toNat-0))) (b7o e1)<|ob e1.1<|ob e1.2<|tl (22,{v:=some (j9 2 t9 ((r_.b7.drop 0).take (i1.toNat-0)))})<|I5 t9 26 hput<|j8 a34 c10 29 h fun a1A h=>j4 31 h (fun h=>rg<|fL lc h) (fun h=>rg<|(lc.nx h fun hI=>sk [] [1,4] [(1,0)] hI))))) (fun h=>(lc.bk h fun hI=>sk [] [] [] hI))
def c1R(r_:m9):Option Bool :=
 ((o9 (fun s:Int=>a9R r_ s) 0).bind fun x=>x.go (fun r=>some r) fun s=>c6U)
theorem d8o(r_)(r):NF a0c r (c29 r_) (fun s=>c1R r_):=fun _ h=>PK<|rg<|lp (e4Z r_) h (fun _ h=>a0c.rt h) (d6c r) fun hI=>sk [] [1,4] [(1,0)] hI
def e0T(r_:m9):Int->KS:=fun i=>⟨a0c.k 3 [false],(bs 1 (.ptr 1 0 0::(bs 1 (vi i::(bs 127 []))))),[some [],some [.var 49 (a0n r_)]]⟩
def b1i(r_:m9)(i:Int):Option (l7 Bool Int Unit) :=
 (bif decide (i<(r_.b5.length:Int)) then ((idx r_.b5 i).bind fun read=>((a7W read.i6).bind fun b1q=>(bif (!b1q) then some (l7.ret false) else (bif decide (read.j3<0) then some (l7.ret false) else (bif decide (read.j3>1000000) then some (l7.ret false) else (s7 ((0:Int)<=i/\i<=(r_.b5.length:Int)) (((b1l ((r_.b5.drop 0).take (i.toNat-0)) read.i6).bind fun b0d=>(bif b0d then some (l7.ret false) else some (l7.nxt (m7 (i+1)))))))))))) else some (l7.brk ()))
theorem d6L(r_):LQ a0c (c29 r_) (e0T r_) (fun s=>b1i r_ s):=fun lc i h=>PK<|rg<|j4 4 h (fun h=>rg<|v5 t8 3 h fun read a2O h=>j8 b2u b5S 6 h fun b1q h=>j4 8 h (fun h=>rg<|fL lc h) (fun h=>I5 t8 12 a2O<|j4 17 h (fun h=>rg<|fL lc h) (fun h=>I5 t8 21 a2O<|j4 26 h (fun h=>rg<|fL lc h) (fun h=>s9 h fun e2 h=>om (V.sl 2 (i.toNat-0) (((r_.b5.map t8).drop 0).take (i.toNat-0))=j9 2 t8 ((r_.b5.drop 0).take (i.toNat-0))) (b7o e2)<|ob e2.1<|ob e2.2<|tl (30,{v:=some (j9 2 t8 ((r_.b5.drop 0).take (i.toNat-0)))})<|I5 t8 34 a2O<|j8 a40 c3B 37 h fun b0d h=>j4 38 h (fun h=>rg<|fL lc h) (fun h=>rg<|(lc.nx h fun hI=>sk [] [1,3] [(1,0)] hI)))))) (fun h=>(lc.bk h fun hI=>sk [] [1] [(1,0)] hI))
def b5p(r_:m9):Option Bool :=
 ((o9 (fun s:Int=>b1i r_ s) 0).bind fun x=>x.go (fun r=>some r) fun s=>c1R r_)
theorem e25(r_)(r):NF a0c r (d4Z r_) (fun s=>b5p r_):=fun _ h=>PK<|rg<|lp (d6L r_) h (fun _ h=>a0c.rt h) (d8o r_ r) fun hI=>sk [] [1,3] [(1,0)] hI
def a93(r_:m9):Option Bool :=
 (((bif decide (r_.Code<0) then some (l8.ret false) else (bif decide (r_.Code>3) then some (l8.ret false) else ((a4N r_.f0).bind fun c3R=>(bif (!c3R) then some (l8.ret false) else (bif (r_.Code != 0) then (bif (r_.f0 != 0) then some (l8.ret false) else (bif decide ((r_.b7.length:Int)>0) then some (l8.ret false) else (bif (r_.Code==3) then (bif decide ((r_.b5.length:Int)>0) then some (l8.ret false) else some (l8.brk ())) else some (l8.brk ())))) else (bif (r_.Code==3) then (bif decide ((r_.b5.length:Int)>0) then some (l8.ret false) else some (l8.brk ())) else some (l8.brk ()))))))):Option (l8 Bool Unit)).bind fun x=>x.go some fun j=>b5p r_)
theorem c6a{r_}:OK a0c [.agg (O6 r_)] (a93 r_) :=
 n7 _ fun r h=>rg<|B0 h (e25 r_ r) fun x1 h hc1=>rg<|j4 3 h (fun h=>rg<|(B4 h hc1 fun h=>fE h)) (fun h=>j4 8 h (fun h=>rg<|(B4 h hc1 fun h=>fE h)) (fun h=>j8 a7x a83 11 h fun c3R h=>j4 14 h (fun h=>rg<|(B4 h hc1 fun h=>fE h)) (fun h=>j4 18 h (fun h=>j4 22 h (fun h=>rg<|(B4 h hc1 fun h=>fE h)) (fun h=>j4 30 h (fun h=>rg<|(B4 h hc1 fun h=>fE h)) (fun h=>j4 34 h (fun h=>j4 40 h (fun h=>rg<|(B4 h hc1 fun h=>fE h)) (fun h=>(o6 h hc1 fun hI=>sk [] [1] [(1,0)] hI))) (fun h=>(o6 h hc1 fun hI=>sk [] [1] [(1,0)] hI))))) (fun h=>j4 34 h (fun h=>j4 40 h (fun h=>rg<|(B4 h hc1 fun h=>fE h)) (fun h=>(o6 h hc1 fun hI=>sk [] [1] [(1,0)] hI))) (fun h=>(o6 h hc1 fun hI=>sk [] [1] [(1,0)] hI))))))
def a1L:FS (Bool):=⟨91,Tryz.f91,[.val [] []],[none],[.val I4 []],fun r=>.b r,fun _=>[none],Tryz.func91⟩
def a0B(e_:m4):Option Bool :=
 (bif e_.i8 then (bif (([e_.a0.d6,e_.a0.Seq]:List Int)==[0,0]) then ((a8M e_.b8 (m9.mk [] [] 0 0)).bind fun a1P=>some a1P) else some false) else ((a9H e_.a0).bind fun a54=>(bif a54 then ((a93 e_.b8).bind fun a0u=>(bif a0u then some (e_.b8.Code != 3) else some false)) else some false)))
theorem a2t{e_}:OK a1L [.agg (s8 e_)] (a0B e_) :=
 n7 _ fun r h=>n5<|j4 1 h (fun h=>rg<|j4 4 h (fun h=>j8 a0G b9x 8 h fun a1P h=>fE h) (fun h=>fE h)) (fun h=>rg<|j8 b67 b9s 2 h fun a54 h=>j4 3 h (fun h=>j8 a0c c6a 6 h fun a0u h=>j4 8 h (fun h=>fE h) (fun h=>fE h)) (fun h=>fE h))
def a7F:FS (v6×Bool):=⟨157,Tryz.f157,[.val [none,some 8] [none,some 9000000],.val [] []],[none,none,none,none],[.val [none,some 8] [],.val [] [],.val [] [],.val I4 []],fun r=>.tup [.agg [vi r.1.i4,.bot],.b r.2],fun _=>[none,none,none,none],Tryz.func157⟩
def b0j(a:v6)(bal:Int)(slot:Int)(e_:m4):Option (v6×Bool) :=
 (bif decide (slot<0) then some (a,false) else (bif decide (slot>=40) then some (a,false) else ((a0B e_).bind fun C8=>(bif (!C8) then some (a,false) else ((a8U a bal).bind fun no=>(bif (!no.2) then some (a,false) else none))))))
theorem c5a{a bal slot e_}:OK a7F [.agg (W9 a),vi bal,vi slot,.agg (s8 e_)] (b0j a bal slot e_) :=
 n7 _ fun r h=>n5<|j4 2 h (fun h=>rg<|fE h) (fun h=>j4 6 h (fun h=>rg<|fE h) (fun h=>j8 a1L a2t 8 h fun C8 h=>j4 10 h (fun h=>rg<|fE h) (fun h=>rg<|j8 a5R c1p 2 h fun no h=>rg<|j4 1 h (fun h=>rg<|fE h) (fun h=>(nomatch h)))))
def b3t:FS (j5):=⟨105,Tryz.f105,[.val A0 E7],[none],[.val A0 E7],fun r=>.agg (F5 r),fun _=>[none],Tryz.func105⟩
def b03(n:j5):Option j5 :=
 some (j5.mk n.Id n.Acc n.a6 n.Seq 0 0 [] [] (m4.mk false (p8.mk 0 0) (m9.mk [] [] 0 0)) [] n.i7 n.i5 n.b6 n.d8)
theorem c05{n}:OK b3t [.agg (F5 n)] (b03 n) :=
 n7 _ fun r h=>rg4<|rg4<|U5 n.Acc.a5 n.a6 n.d8<|fE h
def X4:FS (List j7):=⟨107,Tryz.f107,[.val [some 13] [some 68]],[none,none],[.val [] [],.val B2 []],fun r=>t7 68 13 p9 r,fun _=>[none,none],Tryz.func107⟩
def b9X:(List j7)->KS:=fun out1=>⟨X4.k 4 [false],(bs 5 (.own 1 0 13 0 out1.length::(bs 21 []))),[some [],some [l9 68 13 p9 out1]]⟩
def c5E(out1:List j7):Option (List j7) :=
 some out1
theorem d49(r):NF X4 r b9X (fun s=>c5E s):=fun out1 h=>PK<|rg<|s4 out1<|fE h
def c8H(id:Int)(m:j7):((List j7)×Int)->KS:=fun (out,t_)=>⟨X4.k 3 [],(vi id::(bs 2 (.ptr 1 0 0::(bs 1 (.own 2 0 13 0 out.length::(vi t_::(bs 20 []))))))),[some [],some [.var 68 (a3K m)],some [l9 68 13 p9 out]]⟩
def e5M(id:Int)(m:j7)(t_:Int):(List j7)->KS:=fun out2=>⟨X4.k 9 [true,true],(vi id::(bs 2 (.ptr 1 0 0::(bs 1 (.own 2 0 13 0 out2.length::(vi t_::(bs 20 []))))))),[some [],some [.var 68 (a3K m)],some [l9 68 13 p9 out2]]⟩
def c0S(t_:Int)(out2:List j7):Option (l7 (List j7) ((List j7)×Int) (List j7)) :=
 some (l7.nxt (out2,m7 (t_+1)))
theorem e4l(id m t_)(lc:H8 X4 b9X (c8H id m)):NL lc (e5M id m t_) (fun s=>c0S t_ s):=fun out2 h=>PK<|rg<|(lc.nx h fun hI=>sk [] [0,3,5,6] [(1,0),(2,0)] hI)
def a4o(id:Int)(m:j7)(out:List j7)(t_:Int):Option (l7 (List j7) ((List j7)×Int) (List j7)) :=
 (bif decide (t_<3) then (((bif (t_ != id) then ((a6y m).bind fun E3=>(s7 ((out.length+1)*152<=140737488355328) (some (l8.brk (out++[(j7.mk E3.a7 id t_ E3.a8 E3.g7 E3.i0 E3.a5)]))))) else some (l8.brk out)):Option (l8 (l7 (List j7) ((List j7)×Int) (List j7)) (List j7))).bind fun x=>x.go some fun j=>c0S t_ j) else some (l7.brk out))
theorem e6V(id m):LQ X4 b9X (c8H id m) (fun s=>a4o id m s.1 s.2):=fun lc (out,t_) h=>PK<|rg<|j4 1 h (fun h=>B0 h (e4l id m t_ lc) fun x2 h hc2=>rg<|j4 2 h (fun h=>rg<|j8 b21 b6y 1 h fun E3 h=>M3<|tk 2 B2<|s9 h fun e1 h=>E8 3 21 68 13 152 p9 out (j7.mk E3.a7 id t_ E3.a8 E3.g7 E3.i0 E3.a5) e1<|D8 (j7.mk E3.a7 id t_ E3.a8 E3.g7 E3.i0 E3.a5)<|(o6 h hc2 fun hI=>sk [] [0,3,5,6] [(1,0),(21,0)] hI)) (fun h=>(o6 h hc2 fun hI=>sk [] [0,3,5,6] [(1,0),(2,0)] hI))) (fun h=>(lc.bk h fun hI=>sk [] [5] [(2,0)] hI))
def a2x(id:Int)(m:j7):Option (List j7) :=
 ((o9 (fun s:(List j7)×Int=>a4o id m s.1 s.2) (([]:List j7),0)).bind fun x=>x.go (fun r=>some r) fun s=>c5E s)
theorem a4G{id m}:OK X4 [vi id,.agg (p9 m)] (a2x id m) :=
 n7 _ fun r h=>n5<|tk 0 B2<|rg<|lp (e6V id m) h (fun _ h=>X4.rt h) (d49 r) fun hI=>om ((.own 3 0 13 0 0:V)=.own 3 0 13 0 ([]:List j7).length) (by simp)<|sk [.is (.tmp 5) (.own 3 0 13 0 ([]:List j7).length)] [0,3,5,6] [(1,0),(3,0)] hI
def a4H:FS (v6×Bool):=⟨157,Tryz.f157,[.val [none,some 8] [none,some 126],.val [] []],[none,none,none,none],[.val [none,some 8] [none,some 126],.val [] [],.val [] [],.val I4 []],fun r=>.tup [.agg [vi r.1.i4,t7 126 8 o7 r.1.a5],.b r.2],fun _=>[none,none,none,none],Tryz.func157⟩
def c5x(bal:Int)(slot:Int)(e_:m4)(l6Promise:v6×Bool):(List m6)->KS:=fun W1=>⟨a4H.k 5 [false,false,false],(bs 1 (vi bal::(vi slot::(bs 4 (.ptr 1 0 0::(.ptr 2 0 0::(bs 1 (.ptr 3 0 0::(bs 42 []))))))))),[some [.dead],some [.var 51 (a3x e_)],some [.var 43 [vi 0,.nil]],some [.var 43 [vi l6Promise.1.i4,.own 4 0 8 0 W1.length]],some [l9 126 8 o7 W1]]⟩
def b8F(bal:Int)(slot:Int)(e_:m4)(l6Promise:v6×Bool)(W1:List m6):Option (v6×Bool) :=
 ((U7 e_).bind fun l5Entry=>((idx W1 slot).bind fun vote=>some ((v6.mk l6Promise.1.i4 (W1.set slot.toNat (m6.mk bal l5Entry))),true)))
theorem e6H(bal slot e_ l6Promise)(r):NF a4H r (c5x bal slot e_ l6Promise) (fun s=>b8F bal slot e_ l6Promise s):=fun W1 h=>PK<|rg<|j8 X2 Z7 5 h fun l5Entry h=>A4 h fun vote L7 h=>A9 L7<|N8 126 8 o7 8 S7 (m6.mk bal l5Entry) L7<|rg<|om (W1.length=(W1.set slot.toNat (m6.mk bal l5Entry)).length) (by simp)<|fE h
def e0w(bal:Int)(slot:Int)(e_:m4)(l6Promise:v6×Bool):(List m6)->KS:=fun a5=>⟨a4H.k 4 [false,false],(bs 1 (vi bal::(vi slot::(bs 4 (.ptr 1 0 0::(.ptr 2 0 0::(bs 1 (.ptr 3 0 0::(bs 42 []))))))))),[some [.dead],some [.var 51 (a3x e_)],some [.var 43 [vi 0,.nil]],some [.var 43 [vi l6Promise.1.i4,.own 4 0 8 0 a5.length]],some [l9 126 8 o7 a5]]⟩
def a6P(slot:Int)(a5:List m6):Option (l7 (v6×Bool) (List m6) (List m6)) :=
 (bif decide ((a5.length:Int)<=slot) then (s7 ((a5.length+1)*96<=140737488355328) (some (l7.nxt (a5++[(m6.mk 0 (m4.mk false (p8.mk 0 0) (m9.mk [] [] 0 0)))])))) else some (l7.brk a5))
theorem e8m(bal slot e_ l6Promise):LQ a4H (c5x bal slot e_ l6Promise) (e0w bal slot e_ l6Promise) (fun s=>a6P slot s):=fun lc a5 h=>PK<|rg<|j4 4 h (fun h=>rg<|tk 3 S7<|s9 h fun e1 h=>E8 4 14 126 8 96 o7 a5 (m6.mk 0 (m4.mk false (p8.mk 0 0) (m9.mk [] [] 0 0))) e1<|D8 (m6.mk 0 (m4.mk false (p8.mk 0 0) (m9.mk [] [] 0 0)))<|(lc.nx h fun hI=>sk [] [1,2,7,8,10] [(1,0),(2,0),(3,0),(14,0)] hI)) (fun h=>(lc.bk h fun hI=>sk [] [1,2,7,8,10] [(1,0),(2,0),(3,0),(4,0)] hI))
def b2G(a:v6)(bal:Int)(slot:Int)(e_:m4):Option (v6×Bool) :=
 (bif decide (slot<0) then some (a,false) else (bif decide (slot>=40) then some (a,false) else ((a0B e_).bind fun C8=>(bif (!C8) then some (a,false) else (a4u (a8U a bal) (fun no=>(bif (!no.2) then some (a,false) else none)) (((a7D a bal).bind fun l6Promise=>(bif (!l6Promise.2) then none else ((o9 (fun s:List m6=>a6P slot s) l6Promise.1.a5).bind fun x=>x.go (fun r=>some r) fun s=>b8F bal slot e_ l6Promise s)))))))))
theorem c3N{a bal slot e_}:OK a4H [.agg [vi a.i4,t7 126 8 o7 a.a5],vi bal,vi slot,.agg (s8 e_)] (b2G a bal slot e_) :=
 n7 _ fun r h=>n5<|j4 2 h (fun h=>rg<|s4 a.a5<|fE h) (fun h=>j4 6 h (fun h=>rg<|s4 a.a5<|fE h) (fun h=>j8 a1L a2t 8 h fun C8 h=>j4 10 h (fun h=>rg<|s4 a.a5<|fE h) (fun h=>rg<|cbA a5R.t c1p 2 true h (fun no h=>osc a5R no (by simp [a5R,K6,S9,N5,V.simple,vi,t7,W9,eB,s8,eI,t9,t8,Y5,O6,o7]) (P1 2)<|s4 a.a5<|rg<|j4 1 h (fun h=>rg<|s4 a.a5<|fE h) (fun h=>(nomatch h))) (fun h=>j8 b2h b50 2 h fun l6Promise h=>s4 a.a5<|rg<|j4 1 h (fun h=>(nomatch h)) (fun h=>lp (e8m bal slot e_ l6Promise) h (fun _ h=>a4H.rt h) (e6H bal slot e_ l6Promise r) fun hI=>sk [] [1,2,7,8,10] [(2,0),(3,0),(22,0),(18,0)] hI)))))
def a8h:FS (j5×List j7):=⟨108,Tryz.f108,[.val A0 E7,.val [some 13] []],[none],[.val A0 E7],fun r=>.tup [.agg (F5 r.1),j9 13 p9 r.2],fun _=>[none],Tryz.func108⟩
def a4P(n:j5):Option (j5×List j7) :=
 (bif (n.d9 != 2) then some (n,([]:List j7)) else (bif decide ((n.a6.length:Int)>=40) then some (n,([]:List j7)) else ((b4T n).bind fun F9=>(bif (!F9.2.2) then some (F9.1,([]:List j7)) else (a4u (b0j F9.1.Acc F9.1.a8 (F9.1.a6.length:Int) F9.2.1) (fun no=>(bif (!no.2) then ((b03 F9.1).bind fun K7=>some (K7,([]:List j7))) else none)) (((b2G F9.1.Acc F9.1.a8 (F9.1.a6.length:Int) F9.2.1).bind fun a3U=>(bif (!a3U.2) then none else ((U7 F9.2.1).bind fun l5Entry=>(s7 (0<=(3:Int)/\(3:Int)*1<=140737488355328) (((idx (e8E (3:Int).toNat false) F9.1.Id).bind fun y=>((a2x F9.1.Id (j7.mk 3 0 0 F9.1.a8 (F9.1.a6.length:Int) F9.2.1 [])).bind fun H0=>some ((j5.mk F9.1.Id a3U.1 F9.1.a6 F9.1.Seq 3 F9.1.a8 F9.1.d7 F9.1.g9 l5Entry ((e8E (3:Int).toNat false).set F9.1.Id.toNat true) F9.1.i7 F9.1.i5 F9.1.b6 F9.1.d8),H0))))))))))))))
theorem a9V{n}:OK a8h [.agg (F5 n)] (a4P n) :=
 n7 _ fun r h=>n5<|j4 3 h (fun h=>rg<|tk 1 B2<|z3 n<|B3 j7<|fE h) (fun h=>j4 8 h (fun h=>rg<|tk 1 B2<|z3 n<|B3 j7<|fE h) (fun h=>rg<|j8 a2y d8q 1 h fun F9 h=>z3 n<|rg<|j4 1 h (fun h=>rg<|tk 1 B2<|z3 F9.1<|B3 j7<|fE h) (fun h=>rg<|cbA a7F.t c5a 8 true h (fun no h=>osc a7F no (by simp [a7F,K6,S9,N5,V.simple,vi,t7,W9,eB,s8,eI,t9,t8,Y5,O6,o7]) (P1 4)<|s4 F9.1.Acc.a5<|rg<|j4 1 h (fun h=>rg<|j8 b3t c05 1 h fun K7 h=>z3 F9.1<|tk 2 B2<|z3 K7<|B3 j7<|fE h) (fun h=>(nomatch h))) (fun h=>j8 a4H c3N 8 h fun a3U h=>s4 F9.1.Acc.a5<|rg<|j4 1 h (fun h=>(nomatch h)) (fun h=>M3<|j8 X2 Z7 1 h fun l5Entry h=>rg<|s9 h fun e1 h=>S6 0 52 4 1 1 eB false ti4 (.none) e1 (by decide) (by rfl)<|rg<|A4 h fun y hy h=>A9 hy<|N8 4 1 eB 5 [] true hy<|rg<|j8 X4 a4G 10 h fun H0 h=>U5 a3U.1.a5 F9.1.a6 F9.1.d7<|om ((e8E (3:Int).toNat false).length=((e8E (3:Int).toNat false).set F9.1.Id.toNat true).length) (by simp)<|B8 F9.1.d8 H0<|fE h)))))
def c3L:FS (j5×List j7):=⟨147,Tryz.f147,[.val A0 E7,.val [some 13] []],[none,none],[.val A0 E7,.val B2 []],fun r=>.tup [.agg (F5 r.1),j9 13 p9 r.2],fun _=>[none,none],Tryz.func147⟩
def b4y(n:j5)(m:j7):Option (j5×List j7) :=
 (bif (n.d9 != 1) then some (n,([]:List j7)) else (bif (m.a8 != n.a8) then some (n,([]:List j7)) else ((idx n.d7 m.d7).bind fun y=>((b3D m.a5 m.g7).bind fun c2e=>((b6z n.g9 c2e).bind fun c0D=>((b1a (n.d7.set m.d7.toNat true)).bind fun b0R=>(bif (!b0R) then some ((j5.mk n.Id n.Acc n.a6 n.Seq n.d9 n.a8 (n.d7.set m.d7.toNat true) c0D n.c8 n.a5 n.i7 n.i5 n.b6 n.d8),([]:List j7)) else ((a4P (j5.mk n.Id n.Acc n.a6 n.Seq 2 n.a8 [] c0D n.c8 n.a5 n.i7 n.i5 n.b6 n.d8)).bind fun L4=>some (L4.1,L4.2)))))))))
theorem d7D{n m}:OK c3L [.agg (F5 n),.agg (p9 m)] (b4y n m) :=
 n7 _ fun r h=>n5<|j4 3 h (fun h=>rg<|tk 1 B2<|z3 n<|B3 j7<|fE h) (fun h=>j4 9 h (fun h=>rg<|tk 1 B2<|z3 n<|B3 j7<|fE h) (fun h=>rg<|A4 h fun y hy h=>A9 hy<|N8 4 1 eB 5 [] true hy<|rg<|j8 c4c d8k 6 h fun c2e h=>j8 a0Q d9b 7 h fun c0D h=>s4 c2e<|rg<|R0 a46 c6t 2 1 h fun b0R h=>om (n.d7.length=(n.d7.set m.d7.toNat true).length) (by simp)<|j4 3 h (fun h=>rg<|tk 1 B2<|B8 n.Acc.a5 n.a6<|om (n.d7.length=(n.d7.set m.d7.toNat true).length) (by simp)<|B8 n.a5 n.d8<|B3 j7<|fE h) (fun h=>M3<|j8 a8h a9V 1 h fun L4 h=>E9 n.Acc.a5 n.a6 n.a5 n.d8<|z3 L4.1<|fE h)))
def b08:FS (j5):=⟨151,Tryz.f151,[.val A0 E7],[none,none],[.val A0 E7,.val [] []],fun r=>.agg (F5 r),fun _=>[none,none],Tryz.func151⟩
def e0h(n:j5):Unit->KS:=fun _=>⟨b08.k 2 [false],(bs 2 (.ptr 1 0 0::(bs 1 (.ptr 2 0 0::(bs 12 []))))),[some (a7y n),some [.var 53 (a6H n)],some [.var 53 [vi 0,vi 0,.nil,.nil,vi 0,vi 0,vi 0,.nil,.nil,.b false,vi 0,vi 0,.nil,.nil,vi 0,vi 0,.nil,.b false,.nil,.b false,vi 0,vi 0,.nil,.nil,vi 0,vi 0,.nil]]]⟩
def c49(n:j5):Option j5 :=
 some n
theorem d4I(n)(r):NF b08 r (e0h n) (fun s=>c49 n):=fun _ h=>PK<|rg<|z3 n<|fE h
def b0g(n:j5)(bal:Int):Option j5 :=
 (((bif (n.d9 != 0) then (bif decide (bal>n.a8) then ((b03 n).bind fun K7=>some (l8.ret K7)) else some (l8.brk ())) else some (l8.brk ())):Option (l8 j5 Unit)).bind fun x=>x.go some fun j=>c49 n)
theorem c7h{n bal}:OK b08 [.agg (F5 n),vi bal] (b0g n bal) :=
 n7 _ fun r h=>rg<|B0 h (d4I n r) fun x1 h hc1=>rg<|j4 3 h (fun h=>j4 8 h (fun h=>rg<|j8 b3t c05 1 h fun K7 h=>z3 n<|(B4 h hc1 fun h=>z3 K7<|fE h)) (fun h=>(o6 h hc1 fun hI=>sk [] [2,4] [(1,0),(2,0)] hI))) (fun h=>(o6 h hc1 fun hI=>sk [] [2,4] [(1,0),(2,0)] hI))
def c7t:FS (j5×List j7):=⟨148,Tryz.f148,[.val A0 E7,.val [some 13] []],[none,none],[.val A0 E7,.val B2 []],fun r=>.tup [.agg (F5 r.1),j9 13 p9 r.2],fun _=>[none,none],Tryz.func148⟩
def b3v(n:j5)(m:j7):Option (j5×List j7) :=
 (a4u (b0j n.Acc m.a8 m.g7 m.i0) (fun no=>(bif (!no.2) then ((a4f m (j7.mk 6 0 0 n.Acc.i4 0 (m4.mk false (p8.mk 0 0) (m9.mk [] [] 0 0)) [])).bind fun a1d=>some (n,a1d)) else none)) (((b2G n.Acc m.a8 m.g7 m.i0).bind fun a3U=>(bif (!a3U.2) then none else ((b0g (j5.mk n.Id a3U.1 n.a6 n.Seq n.d9 n.a8 n.d7 n.g9 n.c8 n.a5 n.i7 n.i5 n.b6 n.d8) m.a8).bind fun I2=>((a4f m (j7.mk 4 0 0 m.a8 m.g7 (m4.mk false (p8.mk 0 0) (m9.mk [] [] 0 0)) [])).bind fun a38=>some (I2,a38)))))))
theorem e7S{n m}:OK c7t [.agg (F5 n),.agg (p9 m)] (b3v n m) :=
 n7 _ fun r h=>n5<|cbA a7F.t c5a 8 true h (fun no h=>osc a7F no (by simp [a7F,K6,S9,N5,V.simple,vi,t7,W9,eB,s8,eI,t9,t8,Y5,O6,o7]) (P1 4)<|s4 n.Acc.a5<|rg<|j4 1 h (fun h=>rg<|j8 a2B a6Y 6 h fun a1d h=>z3 n<|fE h) (fun h=>(nomatch h))) (fun h=>j8 a4H c3N 8 h fun a3U h=>s4 n.Acc.a5<|rg<|j4 1 h (fun h=>(nomatch h)) (fun h=>n5<|j8 b08 c7h 3 h fun I2 h=>s4 a3U.1.a5<|H1 n<|rg<|j8 a2B a6Y 7 h fun a38 h=>z3 I2<|fE h))
def c7p:FS (List q8):=⟨193,Tryz.f193,[.val [some 2] [some 172]],[],[],fun r=>t7 172 2 x8 r,fun _=>[],Tryz.func193⟩
def c2V:Option (List q8) :=
 (s7 (0<=(4:Int)/\(4:Int)*16<=140737488355328) (some (e8E (4:Int).toNat (q8.mk 0 0))))
theorem e1G:OK c7p [] c2V :=
 n7 _ fun r h=>n5<|s9 h fun e1 h=>S6 0 2 172 2 16 x8 (q8.mk 0 0) b1W (.none) e1 (by decide) (by rfl)<|s4 (e8E (4:Int).toNat (q8.mk 0 0))<|fE h
def b9i:FS (u6):=⟨188,Tryz.f188,[.val [none,some 2,some 4] [none,some 172,none]],[],[],fun r=>.agg (a9U r),fun _=>[],Tryz.func188⟩
def b2b:Option u6 :=
 ((c2V).bind fun a7B=>some (u6.mk 0 a7B []))
theorem d0u:OK b9i [] b2b :=
 n7 _ fun r h=>n5<|j8 c7p e1G 0 h fun a7B h=>s4 a7B<|fE h
def a4Z:FS (q9×Bool):=⟨194,Tryz.f194,[.val [] [],.val [] []],[none,none],[.val [none,some 2,some 4] [],.val [] []],fun r=>.tup [.agg (A8 r.1),.b r.2],fun _=>[none,none],Tryz.func194⟩
def d0M:Unit->KS:=fun _=>⟨a4Z.k 3 [false],(bs 4 (.ptr 1 0 0::(bs 24 []))),[some [],some [.var 202 [vi 0,vi 0,vi 0,vi 0]]]⟩
def d1V:Option (q9×Bool) :=
 some ((q9.mk (p8.mk 0 0) 0 0),false)
theorem d7l(r):NF a4Z r d0M (fun s=>d1V):=fun _ h=>PK<|rg<|fE h
def e5x(s_:u6)(who:Int):Int->KS:=fun i=>⟨a4Z.k 2 [],(bs 1 (vi who::(.ptr 1 0 0::(bs 1 (.ptr 2 0 0::(bs 1 (vi i::(bs 22 [])))))))),[some [],some [.var 147 [vi s_.At,j9 2 x8 s_.g8,j9 4 A8 s_.i9]],some [.var 202 [vi 0,vi 0,vi 0,vi 0]]]⟩
def b6V(s_:u6)(who:Int)(i:Int):Option (l7 (q9×Bool) Int Unit) :=
 (bif decide (i<(s_.i9.length:Int)) then ((idx s_.i9 i).bind fun done=>(bif (done.a0.d6==who) then some (l7.ret (done,true)) else some (l7.nxt (m7 (i+1))))) else some (l7.brk ()))
theorem e1l(s_ who):LQ a4Z d0M (e5x s_ who) (fun s=>b6V s_ who s):=fun lc i h=>PK<|rg<|j4 4 h (fun h=>rg<|v5 A8 3 h fun done b6R h=>j4 8 h (fun h=>rg<|I5 A8 3 b6R<|fL lc h) (fun h=>rg<|(lc.nx h fun hI=>sk [] [1,2,4,6] [(1,0),(2,0)] hI))) (fun h=>(lc.bk h fun hI=>sk [] [4] [(2,0)] hI))
def b4c(s_:u6)(who:Int):Option (q9×Bool) :=
 ((o9 (fun s:Int=>b6V s_ who s) 0).bind fun x=>x.go (fun r=>some r) fun s=>d1V)
theorem e1y{s_ who}:OK a4Z [.agg (a7g s_),vi who] (b4c s_ who) :=
 n7 _ fun r h=>n5<|lp (e1l s_ who) h (fun _ h=>a4Z.rt h) (d7l r) fun hI=>sk [] [1,2,4,6] [(1,0),(2,0)] hI
def a59:FS (Bool):=⟨178,Tryz.f178,[.val [] []],[none],[.val [some 2] []],fun r=>.b r,fun _=>[none],Tryz.func178⟩
def d04:Unit->KS:=fun _=>⟨a59.k 4 [false,false],(bs 36 []),[some []]⟩
def c3p:Option Bool :=
 some true
theorem d7f(r):NF a59 r d04 (fun s=>c3p):=fun _ h=>PK<|rg<|fE h
def d6Q(list:List q8):Int->KS:=fun i=>⟨a59.k 3 [false],(j9 2 x8 list::(bs 2 (vi i::(bs 32 [])))),[some []]⟩
def b56(list:List q8)(i:Int):Option (l7 Bool Int Unit) :=
 (bif decide (i<(list.length:Int)) then ((idx list i).bind fun box=>(bif decide (box.j3<0) then some (l7.ret false) else (bif decide (box.j3>1000000) then some (l7.ret false) else ((a4N box.f0).bind fun a0r=>(bif (!a0r) then some (l7.ret false) else some (l7.nxt (m7 (i+1)))))))) else some (l7.brk ()))
theorem e6Z(list):LQ a59 d04 (d6Q list) (fun s=>b56 list s):=fun lc i h=>PK<|rg<|j4 3 h (fun h=>rg<|v5 x8 2 h fun box a2s h=>j4 6 h (fun h=>rg<|fL lc h) (fun h=>I5 x8 9 a2s<|j4 14 h (fun h=>rg<|fL lc h) (fun h=>I5 x8 17 a2s<|j8 a7x a83 20 h fun a0r h=>j4 22 h (fun h=>rg<|fL lc h) (fun h=>rg<|(lc.nx h fun hI=>sk [] [0,3] [] hI))))) (fun h=>(lc.bk h fun hI=>sk [] [] [] hI))
def a9S(list:List q8):Option Bool :=
 (bif ((list.length:Int) != 4) then some false else ((o9 (fun s:Int=>b56 list s) 0).bind fun x=>x.go (fun r=>some r) fun s=>c3p))
theorem c55{list}:OK a59 [j9 2 x8 list] (a9S list) :=
 n7 _ fun r h=>n5<|j4 2 h (fun h=>rg<|fE h) (fun h=>rg<|lp (e6Z list) h (fun _ h=>a59.rt h) (d7f r) fun hI=>sk [] [0,3] [] hI)
def a2R:FS (Bool):=⟨195,Tryz.f195,[.val [] []],[none,none],[.val [some 2] [],.val M7 []],fun r=>.b r,fun _=>[none,none],Tryz.func195⟩
def c3D:Unit->KS:=fun _=>⟨a2R.k 4 [false,false],(bs 38 []),[some []]⟩
def c8z:Option Bool :=
 some true
theorem e4b(r):NF a2R r c3D (fun s=>c8z):=fun _ h=>PK<|rg<|fE h
def d3Q(list:List q8)(r_:m9):Int->KS:=fun i=>⟨a2R.k 3 [false],(j9 2 x8 list::(bs 2 (.ptr 1 0 0::(bs 1 (vi i::(bs 32 [])))))),[some [],some [.var 49 (a0n r_)]]⟩
def b25(list:List q8)(r_:m9)(i:Int):Option (l7 Bool Int Unit) :=
 (bif decide (i<(r_.b5.length:Int)) then ((idx r_.b5 i).bind fun read=>((idx list read.i6).bind fun box=>(bif (box.j3 != read.j3) then some (l7.ret false) else some (l7.nxt (m7 (i+1)))))) else some (l7.brk ()))
theorem e01(list r_):LQ a2R c3D (d3Q list r_) (fun s=>b25 list r_ s):=fun lc i h=>PK<|rg<|j4 4 h (fun h=>rg<|v5 t8 4 h fun read a2O h=>v5 x8 7 h fun box a2s h=>I5 t8 13 a2O<|j4 16 h (fun h=>rg<|fL lc h) (fun h=>rg<|(lc.nx h fun hI=>sk [] [0,3,5] [(1,0)] hI))) (fun h=>(lc.bk h fun hI=>sk [] [] [] hI))
def b70(list:List q8)(r_:m9):Option Bool :=
 ((a9S list).bind fun V3=>(bif (!V3) then some false else ((a93 r_).bind fun a0u=>(bif (!a0u) then some false else ((o9 (fun s:Int=>b25 list r_ s) 0).bind fun x=>x.go (fun r=>some r) fun s=>c8z)))))
theorem d9y{list r_}:OK a2R [j9 2 x8 list,.agg (O6 r_)] (b70 list r_) :=
 n7 _ fun r h=>n5<|j8 a59 c55 1 h fun V3 h=>j4 3 h (fun h=>rg<|fE h) (fun h=>j8 a0c c6a 5 h fun a0u h=>j4 7 h (fun h=>rg<|fE h) (fun h=>rg<|lp (e01 list r_) h (fun _ h=>a2R.rt h) (e4b r) fun hI=>sk [] [0,3,5] [(1,0)] hI))
def c9Q:FS (Int):=⟨204,Tryz.f204,[.val [] []],[none,none],[.val [] [],.val [] []],fun r=>vi r,fun _=>[none,none],Tryz.func204⟩
def c1s(a:Int)(b:Int):Option Int :=
 (bif decide (a<b) then some a else some b)
theorem d7n{a b}:OK c9Q [vi a,vi b] (c1s a b) :=
 n7 _ fun r h=>n5<|j4 2 h (fun h=>rg<|fE h) (fun h=>rg<|fE h)
def a7c:FS (List q8):=⟨196,Tryz.f196,[.val [some 2] [some 172]],[none,none],[.val [some 2] [some 172],.val M7 []],fun r=>t7 172 2 x8 r,fun _=>[none,none],Tryz.func196⟩
def d1z:(List q8)->KS:=fun a9z=>⟨a7c.k 3 [false],(.own 0 0 2 0 a9z.length::(bs 37 [])),[some [l9 172 2 x8 a9z]]⟩
def c9i(a9z:List q8):Option (List q8) :=
 some a9z
theorem e58(r):NF a7c r d1z (fun s=>c9i s):=fun a9z h=>PK<|rg<|s4 a9z<|fE h
def d2S(r_:m9):((List q8)×Int)->KS:=fun (list1,i)=>⟨a7c.k 2 [],(.own 0 0 2 0 list1.length::(bs 2 (.ptr 1 0 0::(bs 1 (vi i::(bs 32 [])))))),[some [l9 172 2 x8 list1],some [.var 49 (a0n r_)]]⟩
def b7B(r_:m9)(list1:List q8)(i:Int):Option (l7 (List q8) ((List q8)×Int) (List q8)) :=
 (bif decide (i<(r_.b7.length:Int)) then ((idx r_.b7 i).bind fun put=>((idx list1 put.i6).bind fun box=>((c1s 1000000 (m7 (box.j3+1))).bind fun b2W=>some (l7.nxt (list1.set put.i6.toNat (q8.mk b2W put.f0),m7 (i+1)))))) else some (l7.brk list1))
theorem e5q(r_):LQ a7c d1z (d2S r_) (fun s=>b7B r_ s.1 s.2):=fun lc (list1,i) h=>PK<|rg<|j4 4 h (fun h=>rg<|v5 t9 3 h fun put hput h=>rg<|A4 h fun box a2s h=>A9 a2s<|G7 x8 6 a2s<|j8 c9Q d7n 8 h fun b2W h=>I5 t9 12 hput<|A9 a2s<|N8 172 2 x8 17 [] (q8.mk b2W put.f0) a2s<|rg<|(lc.nx h fun hI=>om ((.own 0 0 2 0 list1.length:V)=.own 0 0 2 0 (list1.set put.i6.toNat (q8.mk b2W put.f0)).length) (by simp)<|sk [.is (.tmp 0) (.own 0 0 2 0 (list1.set put.i6.toNat (q8.mk b2W put.f0)).length)] [0,3,5] [(1,0)] hI)) (fun h=>(lc.bk h fun hI=>sk [] [0] [] hI))
def b35(list:List q8)(r_:m9):Option (List q8) :=
 ((o9 (fun s:(List q8)×Int=>b7B r_ s.1 s.2) (list,0)).bind fun x=>x.go (fun r=>some r) fun s=>c9i s)
theorem d6T{list r_}:OK a7c [t7 172 2 x8 list,.agg (O6 r_)] (b35 list r_) :=
 n7 _ fun r h=>n5<|lp (e5q r_) h (fun _ h=>a7c.rt h) (e58 r) fun hI=>sk [] [0,3,5] [(1,0)] hI
def a1e:FS (List q9):=⟨197,Tryz.f197,[.val [some 4] []],[none,none],[.val [some 4] [],.val [] []],fun r=>j9 4 A8 r,fun _=>[none,none],Tryz.func197⟩
def b7p(d:q9):((List q9)×Bool)->KS:=fun (out1,in_1)=>⟨a1e.k 5 [false],(bs 3 (.ptr 1 0 0::(bs 1 (.own 2 0 4 0 out1.length::(.b in_1::(bs 50 [])))))),[some [],some [.var 202 [vi d.a0.d6,vi d.a0.Seq,vi d.Code,vi d.f0]],some [l9 202 4 A8 out1]]⟩
def e6j:(List q9)->KS:=fun out2=>⟨a1e.k 7 [false,true],(bs 5 (.own 1 0 4 0 out2.length::(bs 51 []))),[some [],some [l9 202 4 A8 out2]]⟩
def b8L(out2:List q9):Option (List q9) :=
 some out2
theorem e5N(r):NF a1e r e6j (fun s=>b8L s):=fun out2 h=>PK<|rg<|s4 out2<|fE h
def b8K(d:q9)(out1:List q9)(in_1:Bool):Option (List q9) :=
 (((bif (!in_1) then (s7 ((out1.length+1)*32<=140737488355328) (some (l8.brk (out1++[d])))) else some (l8.brk out1)):Option (l8 (List q9) (List q9))).bind fun x=>x.go some fun j=>b8L j)
theorem e6e(d)(r):NF a1e r (b7p d) (fun s=>b8K d s.1 s.2):=fun (out1,in_1) h=>PK<|B0 h (e5N r) fun x1 h hc1=>rg<|j4 1 h (fun h=>rg<|tk 2 []<|s9 h fun e1 h=>E8 3 8 202 4 32 A8 out1 d e1<|D8 d<|(o6 h hc1 fun hI=>sk [] [5] [(8,0)] hI)) (fun h=>(o6 h hc1 fun hI=>sk [] [5] [(2,0)] hI))
def c0P(list:List q9)(d:q9):((List q9)×Bool×Int)->KS:=fun (out,in_,i)=>⟨a1e.k 4 [],(j9 4 A8 list::(bs 2 (.ptr 1 0 0::(bs 1 (.own 2 0 4 0 out.length::(.b in_::(vi i::(bs 49 [])))))))),[some [],some [.var 202 [vi d.a0.d6,vi d.a0.Seq,vi d.Code,vi d.f0]],some [l9 202 4 A8 out]]⟩
def e4w(list:List q9)(d:q9)(i:Int):((List q9)×Bool)->KS:=fun (out3,in_2)=>⟨a1e.k 8 [true,true],(j9 4 A8 list::(bs 2 (.ptr 1 0 0::(bs 1 (.own 2 0 4 0 out3.length::(.b in_2::(vi i::(bs 49 [])))))))),[some [],some [.var 202 [vi d.a0.d6,vi d.a0.Seq,vi d.Code,vi d.f0]],some [l9 202 4 A8 out3]]⟩
def e4D(list:List q9)(d:q9)(i:Int)(in_2:Bool):(List q9)->KS:=fun out4=>⟨a1e.k 10 [true,true,true],(j9 4 A8 list::(bs 2 (.ptr 1 0 0::(bs 1 (.own 2 0 4 0 out4.length::(.b in_2::(vi i::(bs 49 [])))))))),[some [],some [.var 202 [vi d.a0.d6,vi d.a0.Seq,vi d.Code,vi d.f0]],some [l9 202 4 A8 out4]]⟩
def b8U(i:Int)(in_2:Bool)(out4:List q9):Option (l7 (List q9) ((List q9)×Bool×Int) ((List q9)×Bool)) :=
 some (l7.nxt (out4,in_2,m7 (i+1)))
theorem d6r(list d i in_2)(lc:H8 a1e (b7p d) (c0P list d)):NL lc (e4D list d i in_2) (fun s=>b8U i in_2 s):=fun out4 h=>PK<|rg<|(lc.nx h fun hI=>sk [] [0,3,5,6,7] [(1,0),(2,0)] hI)
def c0y(list:List q9)(d:q9)(i:Int)(out3:List q9)(in_2:Bool):Option (l7 (List q9) ((List q9)×Bool×Int) ((List q9)×Bool)) :=
 ((((idx list i).bind fun done=>(bif (done.a0.d6 != d.a0.d6) then (s7 ((out3.length+1)*32<=140737488355328) (some (l8.brk (out3++[done])))) else some (l8.brk out3))):Option (l8 (l7 (List q9) ((List q9)×Bool×Int) ((List q9)×Bool)) (List q9))).bind fun x=>x.go some fun j=>b8U i in_2 j)
theorem d9d(list d i)(lc:H8 a1e (b7p d) (c0P list d)):NL lc (e4w list d i) (fun s=>c0y list d i s.1 s.2):=fun (out3,in_2) h=>PK<|B0 h (d6r list d i in_2 lc) fun x2 h hc2=>rg<|v5 A8 2 h fun done b6R h=>j4 9 h (fun h=>rg<|I5 A8 3 b6R<|tk 5 []<|s9 h fun e2 h=>E8 6 19 202 4 32 A8 out3 done e2<|D8 done<|(o6 h hc2 fun hI=>sk [] [0,3,5,6,7] [(1,0),(19,0)] hI)) (fun h=>(o6 h hc2 fun hI=>sk [] [0,3,5,6,7] [(1,0),(2,0)] hI))
def b1L(list:List q9)(d:q9)(out:List q9)(in_:Bool)(i:Int):Option (l7 (List q9) ((List q9)×Bool×Int) ((List q9)×Bool)) :=
 (bif decide (i<(list.length:Int)) then (((bif (!in_) then ((idx list i).bind fun a3E=>(bif decide (a3E.a0.d6>=d.a0.d6) then (s7 ((out.length+1)*32<=140737488355328) (some (l8.brk (out++[d],true)))) else some (l8.brk (out,in_)))) else some (l8.brk (out,in_))):Option (l8 (l7 (List q9) ((List q9)×Bool×Int) ((List q9)×Bool)) ((List q9)×Bool))).bind fun x=>x.go some fun j=>c0y list d i j.1 j.2) else some (l7.brk (out,in_)))
theorem e5B(list d):LQ a1e (b7p d) (c0P list d) (fun s=>b1L list d s.1 s.2.1 s.2.2):=fun lc (out,in_,i) h=>PK<|rg<|j4 3 h (fun h=>B0 h (d9d list d i lc) fun x2 h hc2=>rg<|j4 2 h (fun h=>v5 A8 5 h fun a3E d8Z h=>j4 13 h (fun h=>rg<|tk 2 []<|s9 h fun e3 h=>E8 3 24 202 4 32 A8 out d e3<|D8 d<|rg<|(o6 h hc2 fun hI=>sk [] [0,3,5,6,7] [(1,0),(24,0)] hI)) (fun h=>(o6 h hc2 fun hI=>sk [] [0,3,5,6,7] [(1,0),(2,0)] hI))) (fun h=>(o6 h hc2 fun hI=>sk [] [0,3,5,6,7] [(1,0),(2,0)] hI))) (fun h=>(lc.bk h fun hI=>sk [] [3,5,6] [(1,0),(2,0)] hI))
def b3P(list:List q9)(d:q9):Option (List q9) :=
 ((o9 (fun s:(List q9)×Bool×Int=>b1L list d s.1 s.2.1 s.2.2) (([]:List q9),false,0)).bind fun x=>x.go (fun r=>some r) fun s=>b8K d s.1 s.2)
theorem d2U{list d}:OK a1e [j9 4 A8 list,.agg (A8 d)] (b3P list d) :=
 n7 _ fun r h=>n5<|tk 0 []<|n5<|lp (e5B list d) h (fun _ h=>a1e.rt h) (e6e d r) fun hI=>om ((.own 3 0 4 0 0:V)=.own 3 0 4 0 ([]:List q9).length) (by simp)<|sk [.is (.tmp 5) (.own 3 0 4 0 ([]:List q9).length)] [0,3,5,6,7] [(1,0),(3,0)] hI
def a3T:FS (u6×Int):=⟨189,Tryz.f189,[.val [none,some 2,some 4] [none,some 172,none],.val [] []],[none,none],[.val [none,some 2,some 4] [none,some 172,none],.val I4 []],fun r=>.tup [.agg (a9U r.1),vi r.2],fun _=>[none,none],Tryz.func189⟩
def e6D(s_:u6)(e_:m4):Unit->KS:=fun _=>⟨a3T.k 6 [false,false,false],(bs 2 (.ptr 1 0 0::(.ptr 2 0 0::(.ptr 3 0 0::(bs 78 []))))),[some [l9 172 2 x8 s_.g8],some [.var 147 [vi (m7 (s_.At+1)),.own 0 0 2 0 s_.g8.length,j9 4 A8 s_.i9]],some [.var 51 (a3x e_)],some [.var 147 [vi 0,.nil,.nil]]]⟩
def e2q(s_:u6)(e_:m4):Int->KS:=fun a8i=>⟨a3T.k 9 [false,false,false,true],(bs 2 (.ptr 1 0 0::(.ptr 2 0 0::(.ptr 3 0 0::(bs 3 (.ptr 4 0 0::(bs 74 []))))))),[some [l9 172 2 x8 s_.g8],some [.var 147 [vi (m7 (s_.At+1)),.own 0 0 2 0 s_.g8.length,j9 4 A8 s_.i9]],some [.var 51 (a3x e_)],some [.var 147 [vi 0,.nil,.nil]],some [.var 202 [vi e_.a0.d6,vi e_.a0.Seq,vi a8i,vi 0]]]⟩
def d3E(s_:u6):(q9×List q8)->KS:=fun (d,g8)=>⟨a3T.k 13 [false,false,false,true,true],(bs 2 (.ptr 1 0 0::(bs 1 (.ptr 3 0 0::(bs 3 (.ptr 4 0 0::(bs 74 []))))))),[some [.dead],some [.var 147 [vi (m7 (s_.At+1)),.own 2 0 2 0 g8.length,j9 4 A8 s_.i9]],some [l9 172 2 x8 g8],some [.var 147 [vi 0,.nil,.nil]],some [.var 202 [vi d.a0.d6,vi d.a0.Seq,vi d.Code,vi d.f0]]]⟩
def b91(s_:u6)(d:q9)(g8:List q8):Option (u6×Int) :=
 ((b3P s_.i9 d).bind fun c59=>some ((u6.mk (m7 (s_.At+1)) g8 c59),d.Code))
theorem d89(s_)(r):NF a3T r (d3E s_) (fun s=>b91 s_ s.1 s.2):=fun (d,g8) h=>PK<|rg<|j8 a1e d2U 3 h fun c59 h=>rg<|s4 g8<|fE h
def b9C(s_:u6)(e_:m4)(a8i:Int):Option (u6×Int) :=
 (((bif (a8i==2) then (bif (e_.b8.Code==0) then ((b35 s_.g8 e_.b8).bind fun c3I=>some (l8.brk ((q9.mk e_.a0 0 e_.b8.f0),c3I))) else some (l8.brk ((q9.mk e_.a0 a8i 0),s_.g8))) else some (l8.brk ((q9.mk e_.a0 a8i 0),s_.g8))):Option (l8 (u6×Int) (q9×List q8))).bind fun x=>x.go some fun j=>b91 s_ j.1 j.2)
theorem e5A(s_ e_)(r):NF a3T r (e2q s_ e_) (fun s=>b9C s_ e_ s):=fun a8i h=>PK<|B0 h (d89 s_ r) fun x1 h hc1=>rg<|j4 3 h (fun h=>j4 8 h (fun h=>M3<|j8 a7c d6T 4 h fun c3I h=>s4 s_.g8<|(o6 h hc1 fun hI=>sk [] [2,4,8] [(1,0),(25,0),(3,0),(4,0)] hI)) (fun h=>(o6 h hc1 fun hI=>sk [] [2,4,8] [(1,0),(0,0),(3,0),(4,0)] hI))) (fun h=>(o6 h hc1 fun hI=>sk [] [2,4,8] [(1,0),(0,0),(3,0),(4,0)] hI))
def b6o(s_:u6)(e_:m4):Option (u6×Int) :=
 ((((b70 s_.g8 e_.b8).bind fun a4X=>(bif a4X then some (l8.brk 2) else some (l8.brk 1))):Option (l8 (u6×Int) Int)).bind fun x=>x.go some fun j=>b9C s_ e_ j)
theorem e0j(s_ e_)(r):NF a3T r (e6D s_ e_) (fun s=>b6o s_ e_):=fun _ h=>PK<|rg<|B0 h (e5A s_ e_ r) fun x1 h hc1=>rg<|cbE a2R.t d9y h fun a4X c4k h=>cdT (a2R.t 4 true a4X) h (fun _ h=>ob c4k<|osc a2R a4X rfl (P1 2)<|s4 s_.g8<|rg<|(o6 h hc1 fun hI=>sk [] [2,3,4,8] [(1,0),(2,0),(3,0),(7,0)] hI)) (fun _ h=>ob c4k<|osc a2R a4X rfl (P1 2)<|s4 s_.g8<|(o6 h hc1 fun hI=>sk [] [2,3,4,8] [(1,0),(2,0),(3,0),(7,0)] hI))
def b04(s_:u6)(e_:m4):Option (u6×Int) :=
 (bif e_.i8 then some ((u6.mk (m7 (s_.At+1)) s_.g8 s_.i9),5) else ((b4c (u6.mk (m7 (s_.At+1)) s_.g8 s_.i9) e_.a0.d6).bind fun a4V=>(((bif a4V.2 then (bif (([a4V.1.a0.d6,a4V.1.a0.Seq]:List Int)==[e_.a0.d6,e_.a0.Seq]) then some (l8.ret ((u6.mk (m7 (s_.At+1)) s_.g8 s_.i9),3)) else (bif a4V.2 then (bif decide (a4V.1.a0.Seq>e_.a0.Seq) then some (l8.ret ((u6.mk (m7 (s_.At+1)) s_.g8 s_.i9),4)) else some (l8.brk ())) else some (l8.brk ()))) else (bif a4V.2 then (bif decide (a4V.1.a0.Seq>e_.a0.Seq) then some (l8.ret ((u6.mk (m7 (s_.At+1)) s_.g8 s_.i9),4)) else some (l8.brk ())) else some (l8.brk ()))):Option (l8 (u6×Int) Unit)).bind fun x=>x.go some fun j=>b6o s_ e_)))
theorem d1q{s_ e_}:OK a3T [.agg (a9U s_),.agg (s8 e_)] (b04 s_ e_) :=
 n7 _ fun r h=>M3<|j4 1 h (fun h=>rg<|s4 s_.g8<|fE h) (fun h=>rg<|cbS a4Z e1y 4 (fun _=>(by simp [a4Z,K6,S9,N5,V.simple,vi,t7,eB,A8,eI,Y5])) (fun _=>(P1 2)) h fun a4V h=>s4 s_.g8<|B0 h (e0j s_ e_ r) fun x1 h hc1=>rg<|j4 1 h (fun h=>j4 8 h (fun h=>rg<|(B4 h hc1 fun h=>s4 s_.g8<|fE h)) (fun h=>rg<|j4 1 h (fun h=>j4 10 h (fun h=>rg<|(B4 h hc1 fun h=>s4 s_.g8<|fE h)) (fun h=>(o6 h hc1 fun hI=>sk [] [2,3,4] [(1,0),(2,0),(3,0)] hI))) (fun h=>(o6 h hc1 fun hI=>sk [] [2,3,4] [(1,0),(2,0),(3,0)] hI)))) (fun h=>rg<|j4 1 h (fun h=>j4 10 h (fun h=>rg<|(B4 h hc1 fun h=>s4 s_.g8<|fE h)) (fun h=>(o6 h hc1 fun hI=>sk [] [2,3,4] [(1,0),(2,0),(3,0)] hI))) (fun h=>(o6 h hc1 fun hI=>sk [] [2,3,4] [(1,0),(2,0),(3,0)] hI))))
def d0P:FS (j5):=⟨192,Tryz.f192,[.val A0 E7],[none],[.val A0 E7],fun r=>.agg (F5 r),fun _=>[none],Tryz.func192⟩
def c56(n:j5):Option j5 :=
 some (j5.mk n.Id n.Acc n.a6 n.Seq n.d9 n.a8 n.d7 n.g9 n.c8 n.a5 false [] (m4.mk false (p8.mk 0 0) (m9.mk [] [] 0 0)) n.d8)
theorem d3u{n}:OK d0P [.agg (F5 n)] (c56 n) :=
 n7 _ fun r h=>rg4<|rg<|z3 n<|fE h
def a4h:FS (j5×List m8):=⟨185,Tryz.f185,[.val A0 E7,.val [some 5] []],[none],[.val A0 E7],fun r=>.tup [.agg (F5 r.1),j9 5 u9 r.2],fun _=>[none],Tryz.func185⟩
def c2d(n:j5):Unit->KS:=fun _=>⟨a4h.k 5 [false,false],(bs 1 (.ptr 1 0 0::(.ptr 2 0 0::(bs 81 [])))),[some (a7y n),some [.var 53 (a6H n)],some [.var 53 [vi 0,vi 0,.nil,.nil,vi 0,vi 0,vi 0,.nil,.nil,.b false,vi 0,vi 0,.nil,.nil,vi 0,vi 0,.nil,.b false,.nil,.b false,vi 0,vi 0,.nil,.nil,vi 0,vi 0,.nil]]]⟩
def c9v(n:j5):Option (j5×List m8) :=
 some (n,([]:List m8))
theorem d5P(n)(r):NF a4h r (c2d n) (fun s=>c9v n):=fun _ h=>PK<|rg<|tk 1 []<|z3 n<|B3 m8<|fE h
def c5k(n:j5):((List q8)×Int×Int×List q9)->KS:=fun (g8,i,sAt,sDones)=>⟨a4h.k 4 [false],(bs 1 (.ptr 1 0 0::(.ptr 2 0 0::(bs 1 (.ptr 3 0 0::(vi i::(bs 78 []))))))),[some (a7y n),some [.var 53 (a6H n)],some [.var 53 [vi 0,vi 0,.nil,.nil,vi 0,vi 0,vi 0,.nil,.nil,.b false,vi 0,vi 0,.nil,.nil,vi 0,vi 0,.nil,.b false,.nil,.b false,vi 0,vi 0,.nil,.nil,vi 0,vi 0,.nil]],some [.var 147 [vi sAt,.own 4 0 2 0 g8.length,j9 4 A8 sDones]],some [l9 172 2 x8 g8]]⟩
def e2Z(n:j5):(List m8)->KS:=fun out=>⟨a4h.k 11 [false,true,false,true],(bs 1 (.ptr 1 0 0::(.ptr 2 0 0::(bs 5 (.own 3 0 5 0 out.length::(bs 75 [])))))),[some (a7y n),some [.var 53 (a6H n)],some [.var 53 [vi 0,vi 0,.nil,.nil,vi 0,vi 0,vi 0,.nil,.nil,.b false,vi 0,vi 0,.nil,.nil,vi 0,vi 0,.nil,.b false,.nil,.b false,vi 0,vi 0,.nil,.nil,vi 0,vi 0,.nil]],some [l9 40 5 u9 out]]⟩
def c1S(n:j5)(out:List m8):Option (l7 (j5×List m8) ((List q8)×Int×Int×List q9) Unit) :=
 ((c56 n).bind fun c0n=>some (l7.ret (c0n,out)))
theorem d4c(n)(lc:H8 a4h (c2d n) (c5k n)):NL lc (e2Z n) (fun s=>c1S n s):=fun out h=>PK<|rg<|j8 d0P d3u 1 h fun c0n h=>z3 n<|z3 c0n<|s4 out<|fL lc h
def a80(n:j5)(g8:List q8)(i:Int)(sAt:Int)(sDones:List q9):Option (l7 (j5×List m8) ((List q8)×Int×Int×List q9) Unit) :=
 (bif decide (i<(n.a6.length:Int)) then ((idx n.a6 i).bind fun entry=>((b04 (u6.mk sAt g8 sDones) entry).bind fun S0=>(bif entry.i8 then some (l7.nxt (S0.1.g8,m7 (i+1),S0.1.At,S0.1.i9)) else (bif (!(([entry.a0.d6,entry.a0.Seq]:List Int)==[n.b6.a0.d6,n.b6.a0.Seq])) then some (l7.nxt (S0.1.g8,m7 (i+1),S0.1.At,S0.1.i9)) else (((bif (S0.2==0) then ((idx [(m8.mk n.Id n.b6.a0 S0.2 0)] 0).bind fun told=>some (l8.brk ([(m8.mk n.Id n.b6.a0 S0.2 0)].set (0:Int).toNat (m8.mk told.Node told.a0 told.Code entry.b8.f0)))) else some (l8.brk [(m8.mk n.Id n.b6.a0 S0.2 0)])):Option (l8 (l7 (j5×List m8) ((List q8)×Int×Int×List q9) Unit) (List m8))).bind fun x=>x.go some fun j=>c1S n j))))) else some (l7.brk ()))
theorem d50(n):LQ a4h (c2d n) (c5k n) (fun s=>a80 n s.1 s.2.1 s.2.2.1 s.2.2.2):=fun lc (g8,i,sAt,sDones) h=>PK<|rg<|j4 4 h (fun h=>rg<|A4 h fun entry G9 h=>A9 G9<|G7 s8 5 G9<|j8 a3T d1q 6 h fun S0 h=>s4 g8<|n5<|A9 G9<|G7 s8 5 G9<|j4 6 h (fun h=>rg<|(lc.nx h fun hI=>sk [] [1,2,4,5] [(1,0),(2,0),(3,0),(16,0)] hI)) (fun h=>A9 G9<|G7 s8 12 G9<|j4 17 h (fun h=>rg<|(lc.nx h fun hI=>sk [] [1,2,4,5] [(1,0),(2,0),(3,0),(16,0)] hI)) (fun h=>rg<|tk 7 []<|B0 h (d4c n lc) fun x2 h hc2=>rg<|j4 1 h (fun h=>rg<|A9 G9<|G7 s8 7 G9<|A4 h fun told a5V h=>ob (M6 a5V)<|om (0<((1:Nat):Int)) (by simpa using b2X a5V)<|N8 40 5 u9 10 [] (m8.mk told.Node told.a0 told.Code entry.b8.f0) a5V<|(o6 h hc2 fun hI=>om ((.own 50 0 5 0 1:V)=.own 50 0 5 0 ([(m8.mk n.Id n.b6.a0 S0.2 0)].set (0:Int).toNat (m8.mk told.Node told.a0 told.Code entry.b8.f0)).length) (by simp)<|sk [.is (.tmp 8) (.own 50 0 5 0 ([(m8.mk n.Id n.b6.a0 S0.2 0)].set (0:Int).toNat (m8.mk told.Node told.a0 told.Code entry.b8.f0)).length)] [1,2,8] [(1,0),(2,0),(50,0)] hI)) (fun h=>(o6 h hc2 fun hI=>om ((.own 50 0 5 0 1:V)=.own 50 0 5 0 ([(m8.mk n.Id n.b6.a0 S0.2 0)].length)) (by simp)<|sk [.is (.tmp 8) (.own 50 0 5 0 ([(m8.mk n.Id n.b6.a0 S0.2 0)].length))] [1,2,8] [(1,0),(2,0),(50,0)] hI))))) (fun h=>(lc.bk h fun hI=>sk [] [1,2] [(1,0),(2,0)] hI))
def b5Y(n:j5):Option (j5×List m8) :=
 (bif (!n.i7) then some (n,([]:List m8)) else ((a7p n n.b6.a0).bind fun a5W=>(bif (!a5W) then some (n,([]:List m8)) else ((b2b).bind fun a0q=>((o9 (fun s:(List q8)×Int×Int×List q9=>a80 n s.1 s.2.1 s.2.2.1 s.2.2.2) (a0q.g8,0,a0q.At,a0q.i9)).bind fun x=>x.go (fun r=>some r) fun s=>c9v n)))))
theorem e4y{n}:OK a4h [.agg (F5 n)] (b5Y n) :=
 n7 _ fun r h=>n5<|j4 3 h (fun h=>rg<|tk 1 []<|z3 n<|B3 m8<|fE h) (fun h=>R0 a1x b5i 8 2 h fun a5W h=>z3 n<|j4 10 h (fun h=>rg<|tk 1 []<|z3 n<|B3 m8<|fE h) (fun h=>rg<|j8 b9i d0u 0 h fun a0q h=>rg<|lp (d50 n) h (fun _ h=>a4h.rt h) (d5P n r) fun hI=>sk [] [1,2,4,5] [(1,0),(2,0),(16,0),(15,0)] hI))
def b2Z:FS (j5×(List j7)×List m8):=⟨176,Tryz.f176,[.val A0 E7,.val [some 13] [],.val [some 5] []],[none,none],[.val A0 E7,.val I4 []],fun r=>.tup [.agg (F5 r.1),j9 13 p9 r.2.1,j9 5 u9 r.2.2],fun _=>[none,none],Tryz.func176⟩
def d6u(n:j5)(l5Entry:m4):((List Bool)×Int×Int×(List p7)×(List n8)×Int×Int×Int×Bool)->KS:=fun (a5,nCur,nCur1,nCur2,nCur3,nCur4,nCur5,nPhase,nCur6)=>⟨b2Z.k 6 [true],(bs 2 (.ptr 1 0 0::(bs 1 (.ptr 3 0 0::(bs 33 []))))),[some [l9 126 8 o7 n.Acc.a5,.dead,l9 4 1 eB n.d7,.dead,l9 51 7 s8 n.d8],some [.var 53 ([vi n.Id,vi n.Acc.i4,.own 0 0 8 0 n.Acc.a5.length,.own 2 0 7 0 (n.a6++[l5Entry]).length,vi n.Seq,vi nPhase,vi n.a8,.own 0 2 1 0 n.d7.length,j9 8 o7 n.g9,.b nCur6,vi nCur,vi nCur1,j9 2 t8 nCur2,j9 2 t9 nCur3,vi nCur4,vi nCur5,.own 4 0 1 0 a5.length]++a28 n++[.own 0 4 7 0 n.d8.length])],some [l9 51 7 s8 (n.a6++[l5Entry])],some [.var 53 [vi 0,vi 0,.nil,.nil,vi 0,vi 0,vi 0,.nil,.nil,.b false,vi 0,vi 0,.nil,.nil,vi 0,vi 0,.nil,.b false,.nil,.b false,vi 0,vi 0,.nil,.nil,vi 0,vi 0,.nil]],some [l9 4 1 eB a5]]⟩
def b3p(n:j5)(l5Entry:m4)(a5:List Bool)(nCur:Int)(nCur1:Int)(nCur2:List p7)(nCur3:List n8)(nCur4:Int)(nCur5:Int)(nPhase:Int)(nCur6:Bool):Option (j5×(List j7)×List m8) :=
 ((b5Y (j5.mk n.Id n.Acc (n.a6++[l5Entry]) n.Seq nPhase n.a8 n.d7 n.g9 (m4.mk nCur6 (p8.mk nCur nCur1) (m9.mk nCur2 nCur3 nCur4 nCur5)) a5 n.i7 n.i5 n.b6 n.d8)).bind fun b3w=>((a4P b3w.1).bind fun L4=>some (L4.1,L4.2,b3w.2)))
theorem e4I(n l5Entry)(r):NF b2Z r (d6u n l5Entry) (fun s=>b3p n l5Entry s.1 s.2.1 s.2.2.1 s.2.2.2.1 s.2.2.2.2.1 s.2.2.2.2.2.1 s.2.2.2.2.2.2.1 s.2.2.2.2.2.2.2.1 s.2.2.2.2.2.2.2.2):=fun (a5,nCur,nCur1,nCur2,nCur3,nCur4,nCur5,nPhase,nCur6) h=>PK<|rg<|j8 a4h e4y 1 h fun b3w h=>E9 n.Acc.a5 (n.a6++[l5Entry]) n.d7 a5<|s4 n.d8<|rg<|j8 a8h a9V 1 h fun L4 h=>z3 b3w.1<|rg<|z3 L4.1<|fE h
def b0q(n:j5)(e_:m4):Option (j5×(List j7)×List m8) :=
 ((U7 e_).bind fun l5Entry=>(s7 ((n.a6.length+1)*88<=140737488355328) ((((bif (n.d9==3) then some (l8.brk ([],0,0,[],[],0,0,2,false)) else some (l8.brk (n.a5,n.c8.a0.d6,n.c8.a0.Seq,n.c8.b8.b5,n.c8.b8.b7,n.c8.b8.f0,n.c8.b8.Code,n.d9,n.c8.i8))):Option (l8 (j5×(List j7)×List m8) ((List Bool)×Int×Int×(List p7)×(List n8)×Int×Int×Int×Bool))).bind fun x=>x.go some fun j=>b3p n l5Entry j.1 j.2.1 j.2.2.1 j.2.2.2.1 j.2.2.2.2.1 j.2.2.2.2.2.1 j.2.2.2.2.2.2.1 j.2.2.2.2.2.2.2.1 j.2.2.2.2.2.2.2.2))))
theorem c6b{n e_}:OK b2Z [.agg (F5 n),.agg (s8 e_)] (b0q n e_) :=
 n7 _ fun r h=>n5<|j8 X2 Z7 3 h fun l5Entry h=>tk 4 I4<|s9 h fun e1 h=>E8 5 11 51 7 88 s8 n.a6 l5Entry e1<|D8 l5Entry<|B0 h (e4I n l5Entry r) fun x1 h hc1=>rg<|j4 2 h (fun h=>M3<|(o6 h hc1 fun hI=>sk [.frz (.cell 1 0 12) (some 2),.frz (.cell 1 0 13) (some 2),.own (.cell 1 0 16) 4 1,.kill 0 3] [2,4] [(1,0),(11,0),(3,0),(24,0)] hI)) (fun h=>(o6 h hc1 fun hI=>sk [] [2,4] [(1,0),(11,0),(3,0),(0,3)] hI))
def c4v:FS (j5×(List j7)×List m8):=⟨149,Tryz.f149,[.val A0 E7,.val [some 13] [],.val [some 5] []],[none,none],[.val A0 E7,.val B2 []],fun r=>.tup [.agg (F5 r.1),j9 13 p9 r.2.1,j9 5 u9 r.2.2],fun _=>[none,none],Tryz.func149⟩
def b4k(n:j5)(m:j7):Option (j5×(List j7)×List m8) :=
 (bif (n.d9 != 3) then some (n,([]:List j7),([]:List m8)) else (bif (m.a8 != n.a8) then some (n,([]:List j7),([]:List m8)) else (bif (m.g7 != (n.a6.length:Int)) then some (n,([]:List j7),([]:List m8)) else ((idx n.a5 m.d7).bind fun y=>((b1a (n.a5.set m.d7.toNat true)).bind fun b0R=>(bif (!b0R) then some ((j5.mk n.Id n.Acc n.a6 n.Seq n.d9 n.a8 n.d7 n.g9 n.c8 (n.a5.set m.d7.toNat true) n.i7 n.i5 n.b6 n.d8),([]:List j7),([]:List m8)) else ((U7 n.c8).bind fun l5Entry=>((a2x n.Id (j7.mk 5 0 0 0 (n.a6.length:Int) l5Entry [])).bind fun H0=>((b0q (j5.mk n.Id n.Acc n.a6 n.Seq n.d9 n.a8 n.d7 n.g9 n.c8 (n.a5.set m.d7.toNat true) n.i7 n.i5 n.b6 n.d8) l5Entry).bind fun a0v=>(s7 ((H0.length+a0v.2.1.length)*152<=140737488355328) (some (a0v.1,H0++a0v.2.1,a0v.2.2))))))))))))
theorem d4P{n m}:OK c4v [.agg (F5 n),.agg (p9 m)] (b4k n m) :=
 n7 _ fun r h=>n5<|j4 3 h (fun h=>rg<|tk 1 B2<|tk 2 []<|z3 n<|B3 j7<|B3 m8<|fE h) (fun h=>j4 10 h (fun h=>rg<|tk 1 B2<|tk 2 []<|z3 n<|B3 j7<|B3 m8<|fE h) (fun h=>j4 17 h (fun h=>rg<|tk 1 B2<|tk 2 []<|z3 n<|B3 j7<|B3 m8<|fE h) (fun h=>rg<|A4 h fun y hy h=>A9 hy<|N8 4 1 eB 5 [] true hy<|rg<|R0 a46 c6t 2 1 h fun b0R h=>om (n.a5.length=(n.a5.set m.d7.toNat true).length) (by simp)<|j4 3 h (fun h=>rg<|tk 1 B2<|tk 2 []<|U5 n.Acc.a5 n.a6 n.d7<|om (n.a5.length=(n.a5.set m.d7.toNat true).length) (by simp)<|s4 n.d8<|B3 j7<|B3 m8<|fE h) (fun h=>rg<|j8 X2 Z7 2 h fun l5Entry h=>rg<|j8 X4 a4G 7 h fun H0 h=>rg<|j8 b2Z c6b 2 h fun a0v h=>U5 n.Acc.a5 n.a6 n.d7<|om (n.a5.length=(n.a5.set m.d7.toNat true).length) (by simp)<|s4 n.d8<|rg<|s9 h fun e1 h=>apL 3 62 68 13 152 p9 H0 a0v.2.1 e1<|z3 a0v.1<|s4 (H0++a0v.2.1)<|fE h))))
def c4K:FS (j5×(List j7)×List m8):=⟨150,Tryz.f150,[.val A0 E7,.val [some 13] [],.val [some 5] []],[none,none],[.val A0 E7,.val B2 []],fun r=>.tup [.agg (F5 r.1),j9 13 p9 r.2.1,j9 5 u9 r.2.2],fun _=>[none,none],Tryz.func150⟩
def b73(n:j5)(m:j7):Option (j5×(List j7)×List m8) :=
 (bif decide (m.g7<(n.a6.length:Int)) then some (n,([]:List j7),([]:List m8)) else (bif decide (m.g7>(n.a6.length:Int)) then ((a4f m (j7.mk 8 0 0 0 (n.a6.length:Int) (m4.mk false (p8.mk 0 0) (m9.mk [] [] 0 0)) [])).bind fun a1d=>some (n,a1d,([]:List m8))) else ((b0q n m.i0).bind fun a0v=>some (a0v.1,a0v.2.1,a0v.2.2))))
theorem e5u{n m}:OK c4K [.agg (F5 n),.agg (p9 m)] (b73 n m) :=
 n7 _ fun r h=>n5<|j4 6 h (fun h=>rg<|tk 1 B2<|tk 2 []<|z3 n<|B3 j7<|B3 m8<|fE h) (fun h=>rg<|j4 6 h (fun h=>rg<|j8 a2B a6Y 6 h fun a1d h=>tk 7 []<|z3 n<|B3 m8<|fE h) (fun h=>rg<|j8 b2Z c6b 3 h fun a0v h=>z3 n<|z3 a0v.1<|fE h))
def d0L:FS (j5×List j7):=⟨152,Tryz.f152,[.val A0 E7,.val [some 13] []],[none,none],[.val A0 E7,.val B2 []],fun r=>.tup [.agg (F5 r.1),j9 13 p9 r.2],fun _=>[none,none],Tryz.func152⟩
def b5n(n:j5)(m:j7):Option (j5×List j7) :=
 (bif (n.d9==0) then some (n,([]:List j7)) else (bif decide ((n.d8.length:Int)>=4) then some (n,([]:List j7)) else ((a7p n m.i0.a0).bind fun a5W=>(bif a5W then some (n,([]:List j7)) else ((U7 m.i0).bind fun l5Entry=>(s7 ((n.d8.length+1)*88<=140737488355328) (((a4P (j5.mk n.Id n.Acc n.a6 n.Seq n.d9 n.a8 n.d7 n.g9 n.c8 n.a5 n.i7 n.i5 n.b6 (n.d8++[l5Entry]))).bind fun L4=>some (L4.1,L4.2)))))))))
theorem d4f{n m}:OK d0L [.agg (F5 n),.agg (p9 m)] (b5n n m) :=
 n7 _ fun r h=>n5<|j4 3 h (fun h=>rg<|tk 1 B2<|z3 n<|B3 j7<|fE h) (fun h=>j4 9 h (fun h=>rg<|tk 1 B2<|z3 n<|B3 j7<|fE h) (fun h=>R0 a1x b5i 14 2 h fun a5W h=>z3 n<|j4 15 h (fun h=>rg<|tk 1 B2<|z3 n<|B3 j7<|fE h) (fun h=>rg<|j8 X2 Z7 4 h fun l5Entry h=>tk 5 I4<|s9 h fun e1 h=>E8 6 27 51 7 88 s8 n.d8 l5Entry e1<|D8 l5Entry<|rg<|j8 a8h a9V 1 h fun L4 h=>s4 n.Acc.a5<|E9 n.a6 n.d7 n.a5 (n.d8++[l5Entry])<|z3 L4.1<|fE h)))
def a62:FS ((List j7)×j5):=⟨153,Tryz.f153,[.val [some 13] []],[some (0,.val A0 E7),none],[.val A0 E7,.val B2 []],fun r=>j9 13 p9 r.1,fun r=>[some (.agg (d7s r.2)),none],Tryz.func153⟩
def c7T(n:j5):(List j7)->KS:=fun out1=>⟨a62.k 4 [false],(bs 5 (.own 1 0 13 0 out1.length::(bs 24 []))),[some [l9 126 8 o7 n.Acc.a5,l9 51 7 s8 n.a6,l9 4 1 eB n.d7,l9 4 1 eB n.a5,l9 51 7 s8 n.d8],some [l9 68 13 p9 out1]]⟩
def c9l(n:j5)(out1:List j7):Option ((List j7)×j5) :=
 some (out1,n)
theorem d5l(n)(r):NF a62 r (c7T n) (fun s=>c9l n s):=fun out1 h=>PK<|rg<|s4 out1<|z3 n<|fE h
def e2o(n:j5)(m:j7):((List j7)×Int)->KS:=fun (out,s_)=>⟨a62.k 3 [],(bs 2 (.ptr 1 0 0::(.ptr 2 0 0::(bs 1 (.own 3 0 13 0 out.length::(vi s_::(bs 23 []))))))),[some (a7y n),some [.var 53 (a6H n)],some [.var 68 (a3K m)],some [l9 68 13 p9 out]]⟩
def a5p(n:j5)(m:j7)(out:List j7)(s_:Int):Option (l7 ((List j7)×j5) ((List j7)×Int) (List j7)) :=
 (bif decide (s_<(n.a6.length:Int)) then ((idx n.a6 s_).bind fun entry=>((U7 entry).bind fun l5Entry=>((a4f m (j7.mk 5 0 0 0 s_ l5Entry [])).bind fun a1d=>(s7 ((out.length+a1d.length)*152<=140737488355328) (some (l7.nxt (out++a1d,m7 (s_+1)))))))) else some (l7.brk out))
theorem e1L(n m):LQ a62 (c7T n) (e2o n m) (fun s=>a5p n m s.1 s.2):=fun lc (out,s_) h=>PK<|rg<|j4 4 h (fun h=>rg<|A4 h fun entry G9 h=>A9 G9<|G7 s8 7 G9<|j8 X2 Z7 8 h fun l5Entry h=>j8 a2B a6Y 10 h fun a1d h=>s9 h fun e1 h=>apL 11 20 68 13 152 p9 out a1d e1<|rg<|(lc.nx h fun hI=>sk [] [2,3,5,6] [(1,0),(2,0),(20,0)] hI)) (fun h=>(lc.bk h fun hI=>sk [] [5] [(3,0)] hI))
def b5I(n:j5)(m:j7):Option ((List j7)×j5) :=
 ((o9 (fun s:(List j7)×Int=>a5p n m s.1 s.2) (([]:List j7),m.g7)).bind fun x=>x.go (fun r=>some r) fun s=>c9l n s)
theorem e1o{n m}:OK a62 [.agg (F5 n),.agg (p9 m)] (b5I n m) :=
 n7 _ fun r h=>n5<|tk 0 B2<|rg<|lp (e1L n m) h (fun _ h=>a62.rt h) (d5l n r) fun hI=>om ((.own 4 0 13 0 0:V)=.own 4 0 13 0 ([]:List j7).length) (by simp)<|sk [.is (.tmp 5) (.own 4 0 13 0 ([]:List j7).length)] [2,3,5,6] [(1,0),(2,0),(4,0)] hI
def b7j:FS (j5×(List j7)×List m8):=⟨102,Tryz.f102,[.val A0 E7,.val [some 13] [],.val [some 5] []],[none,none],[.val A0 E7,.val B2 []],fun r=>.tup [.agg (F5 r.1),j9 13 p9 r.2.1,j9 5 u9 r.2.2],fun _=>[none,none],Tryz.func102⟩
def e6v:((List m6)×(List m4)×(List Bool)×(List Bool)×(List m4)×(List j7)×Int×Int×Int×Int×(List p7)×(List n8)×Int×Int×Bool×(List o8)×Bool×Int×Int×(List p7)×(List n8)×Int×Int×Int×Int×Int×(List m6)×Bool)->KS:=fun (Acc,a6,d7,a5,d8,out,nId,nAcc,nCur,nCur1,nCur2,nCur3,nCur4,nCur5,nBusy,nProg,nWant,nWant1,nWant2,nWant3,nWant4,nWant5,nWant6,nSeq,nPhase,nBal,nBest,nCur6)=>⟨b7j.k 5 [true],(bs 2 (.ptr 1 0 0::(bs 1 (.ptr 7 0 0::(bs 2 (j9 13 p9 out::(bs 77 []))))))),[some [.dead,.dead,.dead,.dead,.dead],some [.var 53 [vi nId,vi nAcc,.own 2 0 8 0 Acc.length,.own 3 0 7 0 a6.length,vi nSeq,vi nPhase,vi nBal,.own 4 0 1 0 d7.length,j9 8 o7 nBest,.b nCur6,vi nCur,vi nCur1,j9 2 t8 nCur2,j9 2 t9 nCur3,vi nCur4,vi nCur5,.own 5 0 1 0 a5.length,.b nBusy,j9 4 z0 nProg,.b nWant,vi nWant1,vi nWant2,j9 2 t8 nWant3,j9 2 t9 nWant4,vi nWant5,vi nWant6,.own 6 0 7 0 d8.length]],some [l9 126 8 o7 Acc],some [l9 51 7 s8 a6],some [l9 4 1 eB d7],some [l9 4 1 eB a5],some [l9 51 7 s8 d8],some [.var 53 [vi 0,vi 0,.nil,.nil,vi 0,vi 0,vi 0,.nil,.nil,.b false,vi 0,vi 0,.nil,.nil,vi 0,vi 0,.nil,.b false,.nil,.b false,vi 0,vi 0,.nil,.nil,vi 0,vi 0,.nil]]]⟩
def d2d(Acc:List m6)(a6:List m4)(d7:List Bool)(a5:List Bool)(d8:List m4)(out:List j7)(nId:Int)(nAcc:Int)(nCur:Int)(nCur1:Int)(nCur2:List p7)(nCur3:List n8)(nCur4:Int)(nCur5:Int)(nBusy:Bool)(nProg:List o8)(nWant:Bool)(nWant1:Int)(nWant2:Int)(nWant3:List p7)(nWant4:List n8)(nWant5:Int)(nWant6:Int)(nSeq:Int)(nPhase:Int)(nBal:Int)(nBest:List m6)(nCur6:Bool):Option (j5×(List j7)×List m8) :=
 some ((j5.mk nId (v6.mk nAcc Acc) a6 nSeq nPhase nBal d7 nBest (m4.mk nCur6 (p8.mk nCur nCur1) (m9.mk nCur2 nCur3 nCur4 nCur5)) a5 nBusy nProg (m4.mk nWant (p8.mk nWant1 nWant2) (m9.mk nWant3 nWant4 nWant5 nWant6)) d8),out,([]:List m8))
theorem d6g(r):NF b7j r e6v (fun s=>d2d s.1 s.2.1 s.2.2.1 s.2.2.2.1 s.2.2.2.2.1 s.2.2.2.2.2.1 s.2.2.2.2.2.2.1 s.2.2.2.2.2.2.2.1 s.2.2.2.2.2.2.2.2.1 s.2.2.2.2.2.2.2.2.2.1 s.2.2.2.2.2.2.2.2.2.2.1 s.2.2.2.2.2.2.2.2.2.2.2.1 s.2.2.2.2.2.2.2.2.2.2.2.2.1 s.2.2.2.2.2.2.2.2.2.2.2.2.2.1 s.2.2.2.2.2.2.2.2.2.2.2.2.2.2.1 s.2.2.2.2.2.2.2.2.2.2.2.2.2.2.2.1 s.2.2.2.2.2.2.2.2.2.2.2.2.2.2.2.2.1 s.2.2.2.2.2.2.2.2.2.2.2.2.2.2.2.2.2.1 s.2.2.2.2.2.2.2.2.2.2.2.2.2.2.2.2.2.2.1 s.2.2.2.2.2.2.2.2.2.2.2.2.2.2.2.2.2.2.2.1 s.2.2.2.2.2.2.2.2.2.2.2.2.2.2.2.2.2.2.2.2.1 s.2.2.2.2.2.2.2.2.2.2.2.2.2.2.2.2.2.2.2.2.2.1 s.2.2.2.2.2.2.2.2.2.2.2.2.2.2.2.2.2.2.2.2.2.2.1 s.2.2.2.2.2.2.2.2.2.2.2.2.2.2.2.2.2.2.2.2.2.2.2.1 s.2.2.2.2.2.2.2.2.2.2.2.2.2.2.2.2.2.2.2.2.2.2.2.2.1 s.2.2.2.2.2.2.2.2.2.2.2.2.2.2.2.2.2.2.2.2.2.2.2.2.2.1 s.2.2.2.2.2.2.2.2.2.2.2.2.2.2.2.2.2.2.2.2.2.2.2.2.2.2.1 s.2.2.2.2.2.2.2.2.2.2.2.2.2.2.2.2.2.2.2.2.2.2.2.2.2.2.2):=fun (Acc,a6,d7,a5,d8,out,nId,nAcc,nCur,nCur1,nCur2,nCur3,nCur4,nCur5,nBusy,nProg,nWant,nWant1,nWant2,nWant3,nWant4,nWant5,nWant6,nSeq,nPhase,nBal,nBest,nCur6) h=>PK<|rg<|tk 2 []<|E9 Acc a6 d7 a5<|s4 d8<|B3 m8<|fE h
def b3F(n:j5)(m:j7):Option (j5×(List j7)×List m8) :=
 (((bif (m.a7==1) then ((b45 n m).bind fun K0=>some (l8.brk (K0.1.Acc.a5,K0.1.a6,K0.1.d7,K0.1.a5,K0.1.d8,K0.2,K0.1.Id,K0.1.Acc.i4,K0.1.c8.a0.d6,K0.1.c8.a0.Seq,K0.1.c8.b8.b5,K0.1.c8.b8.b7,K0.1.c8.b8.f0,K0.1.c8.b8.Code,K0.1.i7,K0.1.i5,K0.1.b6.i8,K0.1.b6.a0.d6,K0.1.b6.a0.Seq,K0.1.b6.b8.b5,K0.1.b6.b8.b7,K0.1.b6.b8.f0,K0.1.b6.b8.Code,K0.1.Seq,K0.1.d9,K0.1.a8,K0.1.g9,K0.1.c8.i8))) else (bif (m.a7==2) then ((b4y n m).bind fun J7=>some (l8.brk (J7.1.Acc.a5,J7.1.a6,J7.1.d7,J7.1.a5,J7.1.d8,J7.2,J7.1.Id,J7.1.Acc.i4,J7.1.c8.a0.d6,J7.1.c8.a0.Seq,J7.1.c8.b8.b5,J7.1.c8.b8.b7,J7.1.c8.b8.f0,J7.1.c8.b8.Code,J7.1.i7,J7.1.i5,J7.1.b6.i8,J7.1.b6.a0.d6,J7.1.b6.a0.Seq,J7.1.b6.b8.b5,J7.1.b6.b8.b7,J7.1.b6.b8.f0,J7.1.b6.b8.Code,J7.1.Seq,J7.1.d9,J7.1.a8,J7.1.g9,J7.1.c8.i8))) else (bif (m.a7==3) then ((b3v n m).bind fun J9=>some (l8.brk (J9.1.Acc.a5,J9.1.a6,J9.1.d7,J9.1.a5,J9.1.d8,J9.2,J9.1.Id,J9.1.Acc.i4,J9.1.c8.a0.d6,J9.1.c8.a0.Seq,J9.1.c8.b8.b5,J9.1.c8.b8.b7,J9.1.c8.b8.f0,J9.1.c8.b8.Code,J9.1.i7,J9.1.i5,J9.1.b6.i8,J9.1.b6.a0.d6,J9.1.b6.a0.Seq,J9.1.b6.b8.b5,J9.1.b6.b8.b7,J9.1.b6.b8.f0,J9.1.b6.b8.Code,J9.1.Seq,J9.1.d9,J9.1.a8,J9.1.g9,J9.1.c8.i8))) else (bif (m.a7==4) then ((b4k n m).bind fun b0k=>some (l8.ret (b0k.1,b0k.2.1,b0k.2.2))) else (bif (m.a7==5) then ((b73 n m).bind fun b11=>some (l8.ret (b11.1,b11.2.1,b11.2.2))) else (bif (m.a7==6) then ((a7D n.Acc m.a8).bind fun l6Promise=>((b0g (j5.mk n.Id l6Promise.1 n.a6 n.Seq n.d9 n.a8 n.d7 n.g9 n.c8 n.a5 n.i7 n.i5 n.b6 n.d8) m.a8).bind fun I2=>some (l8.brk (I2.Acc.a5,I2.a6,I2.d7,I2.a5,I2.d8,([]:List j7),I2.Id,I2.Acc.i4,I2.c8.a0.d6,I2.c8.a0.Seq,I2.c8.b8.b5,I2.c8.b8.b7,I2.c8.b8.f0,I2.c8.b8.Code,I2.i7,I2.i5,I2.b6.i8,I2.b6.a0.d6,I2.b6.a0.Seq,I2.b6.b8.b5,I2.b6.b8.b7,I2.b6.b8.f0,I2.b6.b8.Code,I2.Seq,I2.d9,I2.a8,I2.g9,I2.c8.i8)))) else (bif (m.a7==7) then ((b5n n m).bind fun J6=>some (l8.brk (J6.1.Acc.a5,J6.1.a6,J6.1.d7,J6.1.a5,J6.1.d8,J6.2,J6.1.Id,J6.1.Acc.i4,J6.1.c8.a0.d6,J6.1.c8.a0.Seq,J6.1.c8.b8.b5,J6.1.c8.b8.b7,J6.1.c8.b8.f0,J6.1.c8.b8.Code,J6.1.i7,J6.1.i5,J6.1.b6.i8,J6.1.b6.a0.d6,J6.1.b6.a0.Seq,J6.1.b6.b8.b5,J6.1.b6.b8.b7,J6.1.b6.b8.f0,J6.1.b6.b8.Code,J6.1.Seq,J6.1.d9,J6.1.a8,J6.1.g9,J6.1.c8.i8))) else (bif (m.a7==8) then ((b5I n m).bind fun P2=>(s7 (n.Acc.a5.length=P2.2.Acc.a5.length) ((s7 (n.a6.length=P2.2.a6.length) ((s7 (n.d7.length=P2.2.d7.length) ((s7 (n.a5.length=P2.2.a5.length) ((s7 (n.d8.length=P2.2.d8.length) (some (l8.brk (P2.2.Acc.a5,P2.2.a6,P2.2.d7,P2.2.a5,P2.2.d8,P2.1,n.Id,n.Acc.i4,n.c8.a0.d6,n.c8.a0.Seq,n.c8.b8.b5,n.c8.b8.b7,n.c8.b8.f0,n.c8.b8.Code,n.i7,n.i5,n.b6.i8,n.b6.a0.d6,n.b6.a0.Seq,n.b6.b8.b5,n.b6.b8.b7,n.b6.b8.f0,n.b6.b8.Code,n.Seq,n.d9,n.a8,n.g9,n.c8.i8))))))))))))) else some (l8.brk (n.Acc.a5,n.a6,n.d7,n.a5,n.d8,([]:List j7),n.Id,n.Acc.i4,n.c8.a0.d6,n.c8.a0.Seq,n.c8.b8.b5,n.c8.b8.b7,n.c8.b8.f0,n.c8.b8.Code,n.i7,n.i5,n.b6.i8,n.b6.a0.d6,n.b6.a0.Seq,n.b6.b8.b5,n.b6.b8.b7,n.b6.b8.f0,n.b6.b8.Code,n.Seq,n.d9,n.a8,n.g9,n.c8.i8)))))))))):Option (l8 (j5×(List j7)×List m8) ((List m6)×(List m4)×(List Bool)×(List Bool)×(List m4)×(List j7)×Int×Int×Int×Int×(List p7)×(List n8)×Int×Int×Bool×(List o8)×Bool×Int×Int×(List p7)×(List n8)×Int×Int×Int×Int×Int×(List m6)×Bool))).bind fun x=>x.go some fun j=>d2d j.1 j.2.1 j.2.2.1 j.2.2.2.1 j.2.2.2.2.1 j.2.2.2.2.2.1 j.2.2.2.2.2.2.1 j.2.2.2.2.2.2.2.1 j.2.2.2.2.2.2.2.2.1 j.2.2.2.2.2.2.2.2.2.1 j.2.2.2.2.2.2.2.2.2.2.1 j.2.2.2.2.2.2.2.2.2.2.2.1 j.2.2.2.2.2.2.2.2.2.2.2.2.1 j.2.2.2.2.2.2.2.2.2.2.2.2.2.1 j.2.2.2.2.2.2.2.2.2.2.2.2.2.2.1 j.2.2.2.2.2.2.2.2.2.2.2.2.2.2.2.1 j.2.2.2.2.2.2.2.2.2.2.2.2.2.2.2.2.1 j.2.2.2.2.2.2.2.2.2.2.2.2.2.2.2.2.2.1 j.2.2.2.2.2.2.2.2.2.2.2.2.2.2.2.2.2.2.1 j.2.2.2.2.2.2.2.2.2.2.2.2.2.2.2.2.2.2.2.1 j.2.2.2.2.2.2.2.2.2.2.2.2.2.2.2.2.2.2.2.2.1 j.2.2.2.2.2.2.2.2.2.2.2.2.2.2.2.2.2.2.2.2.2.1 j.2.2.2.2.2.2.2.2.2.2.2.2.2.2.2.2.2.2.2.2.2.2.1 j.2.2.2.2.2.2.2.2.2.2.2.2.2.2.2.2.2.2.2.2.2.2.2.1 j.2.2.2.2.2.2.2.2.2.2.2.2.2.2.2.2.2.2.2.2.2.2.2.2.1 j.2.2.2.2.2.2.2.2.2.2.2.2.2.2.2.2.2.2.2.2.2.2.2.2.2.1 j.2.2.2.2.2.2.2.2.2.2.2.2.2.2.2.2.2.2.2.2.2.2.2.2.2.2.1 j.2.2.2.2.2.2.2.2.2.2.2.2.2.2.2.2.2.2.2.2.2.2.2.2.2.2.2)
set_option maxRecDepth 20000 in
theorem e6I{n m}:OK b7j [.agg (F5 n),.agg (p9 m)] (b3F n m) :=
 n7 _ fun r h=>n5<|tk 0 B2<|rg<|B0 h (d6g r) fun x1 h hc1=>rg<|j4 1 h (fun h=>rg<|j8 c8F e2U 2 h fun K0 h=>z3 n<|(o6 h hc1 fun hI=>sk [] [2,4,7] [(1,0),(14,0),(14,1),(14,2),(14,3),(14,4),(3,0)] hI)) (fun h=>rg<|j4 1 h (fun h=>rg<|j8 c3L d7D 2 h fun J7 h=>z3 n<|(o6 h hc1 fun hI=>sk [] [2,4,7] [(1,0),(16,0),(16,1),(16,2),(16,3),(16,4),(3,0)] hI)) (fun h=>rg<|j4 1 h (fun h=>rg<|j8 c7t e7S 2 h fun J9 h=>z3 n<|(o6 h hc1 fun hI=>sk [] [2,4,7] [(1,0),(18,0),(18,1),(18,2),(18,3),(18,4),(3,0)] hI)) (fun h=>rg<|j4 1 h (fun h=>rg<|j8 c4v d4P 2 h fun b0k h=>z3 n<|(B4 h hc1 fun h=>z3 b0k.1<|fE h)) (fun h=>rg<|j4 1 h (fun h=>rg<|j8 c4K e5u 2 h fun b11 h=>z3 n<|(B4 h hc1 fun h=>z3 b11.1<|fE h)) (fun h=>rg<|j4 1 h (fun h=>rg<|j8 b2h b50 4 h fun l6Promise h=>s4 n.Acc.a5<|n5<|j8 b08 c7h 3 h fun I2 h=>s4 l6Promise.1.a5<|H1 n<|(o6 h hc1 fun hI=>B3 j7<|sk [.frz (.tmp 7) (none)] [2,4,7] [(1,0),(39,0),(39,1),(39,2),(39,3),(39,4),(3,0)] hI)) (fun h=>rg<|j4 1 h (fun h=>rg<|j8 d0L d4f 2 h fun J6 h=>z3 n<|(o6 h hc1 fun hI=>sk [] [2,4,7] [(1,0),(26,0),(26,1),(26,2),(26,3),(26,4),(3,0)] hI)) (fun h=>rg<|j4 1 h (fun h=>rg<|j8 a62 e1o 2 h fun P2 h=>s9 h fun e1 h=>s9 h fun e2 h=>s9 h fun e3 h=>s9 h fun e4 h=>s9 h fun e5 h=>z3 n<|(o6 h hc1 fun hI=>om ((.own 0 0 8 0 n.Acc.a5.length:V)=.own 0 0 8 0 P2.2.Acc.a5.length) (by first|(simp;done)|(simp [e1,e2,e3,e4,e5];done))<|om ((.own 0 1 7 0 n.a6.length:V)=.own 0 1 7 0 P2.2.a6.length) (by first|(simp;done)|(simp [e1,e2,e3,e4,e5];done))<|om ((.own 0 2 1 0 n.d7.length:V)=.own 0 2 1 0 P2.2.d7.length) (by first|(simp;done)|(simp [e1,e2,e3,e4,e5];done))<|om ((.own 0 3 1 0 n.a5.length:V)=.own 0 3 1 0 P2.2.a5.length) (by first|(simp;done)|(simp [e1,e2,e3,e4,e5];done))<|om ((.own 0 4 7 0 n.d8.length:V)=.own 0 4 7 0 P2.2.d8.length) (by first|(simp;done)|(simp [e1,e2,e3,e4,e5];done))<|sk [.is (.cell 1 0 2) (.own 0 0 8 0 P2.2.Acc.a5.length),.is (.cell 1 0 3) (.own 0 1 7 0 P2.2.a6.length),.is (.cell 1 0 7) (.own 0 2 1 0 P2.2.d7.length),.is (.cell 1 0 16) (.own 0 3 1 0 P2.2.a5.length),.is (.cell 1 0 26) (.own 0 4 7 0 P2.2.d8.length)] [2,4,7] [(1,0),(0,0),(0,1),(0,2),(0,3),(0,4),(3,0)] hI)) (fun h=>(o6 h hc1 fun hI=>B3 j7<|sk [.frz (.tmp 7) (none)] [2,4,7] [(1,0),(0,0),(0,1),(0,2),(0,3),(0,4),(3,0)] hI)))))))))
def a0P:FS (m5):=⟨62,Tryz.f62,[.val E2 Q2],[none,none],[.val E2 Q2,.val [some 5] []],fun r=>.agg (P9 r),fun _=>[none,none],Tryz.func62⟩
def c77(w:m5):(List m8)->KS:=fun Told1=>⟨a0P.k 3 [false],(bs 2 (.ptr 1 0 0::(bs 1 (.ptr 3 0 0::(bs 23 []))))),[some [B5 53 27 w9 w.a9,l9 68 13 p9 w.b9,l9 70 3 z8 w.c9,.dead],some [.var 28 [.own 0 0 27 0 w.a9.length,.own 0 1 13 0 w.b9.length,.own 0 2 3 0 w.c9.length,.own 2 0 5 0 Told1.length]],some [l9 40 5 u9 Told1],some [.var 28 [.nil,.nil,.nil,.nil]]]⟩
def c8h(w:m5)(Told1:List m8):Option m5 :=
 some (m5.mk w.a9 w.b9 w.c9 Told1)
theorem d9K(w)(r):NF a0P r (c77 w) (fun s=>c8h w s):=fun Told1 h=>PK<|rg<|E9 w.a9 w.b9 w.c9 Told1<|fE h
def d4k(w:m5)(list:List m8):((List m8)×Int)->KS:=fun (Told,i)=>⟨a0P.k 2 [],(bs 1 (j9 5 u9 list::(.ptr 1 0 0::(bs 1 (.ptr 2 0 0::(vi i::(bs 22 []))))))),[some [B5 53 27 w9 w.a9,l9 68 13 p9 w.b9,l9 70 3 z8 w.c9,.dead],some [.var 28 [.own 0 0 27 0 w.a9.length,.own 0 1 13 0 w.b9.length,.own 0 2 3 0 w.c9.length,.own 3 0 5 0 Told.length]],some [.var 28 [.nil,.nil,.nil,.nil]],some [l9 40 5 u9 Told]]⟩
def a12(list:List m8)(Told:List m8)(i:Int):Option (l7 m5 ((List m8)×Int) (List m8)) :=
 (bif decide (i<(list.length:Int)) then (bif decide ((Told.length:Int)<60) then ((idx list i).bind fun told=>(s7 ((Told.length+1)*40<=140737488355328) (some (l7.nxt (Told++[told],m7 (i+1)))))) else some (l7.brk Told)) else some (l7.brk Told))
theorem e2S(w list):LQ a0P (c77 w) (d4k w list) (fun s=>a12 list s.1 s.2):=fun lc (Told,i) h=>PK<|rg<|j4 4 h (fun h=>j4 9 h (fun h=>rg<|v5 u9 4 h fun told a5V h=>tk 6 []<|s9 h fun e1 h=>E8 7 21 40 5 40 u9 Told told e1<|D8 told<|rg<|(lc.nx h fun hI=>sk [] [1,2,4,5] [(1,0),(2,0),(21,0)] hI)) (fun h=>(lc.bk h fun hI=>sk [] [2,4] [(1,0),(3,0),(2,0)] hI))) (fun h=>(lc.bk h fun hI=>sk [] [2,4] [(1,0),(3,0),(2,0)] hI))
def a3p(w:m5)(list:List m8):Option m5 :=
 ((o9 (fun s:(List m8)×Int=>a12 list s.1 s.2) (w.Told,0)).bind fun x=>x.go (fun r=>some r) fun s=>c8h w s)
theorem a7L{w list}:OK a0P [.agg (P9 w),j9 5 u9 list] (a3p w list) :=
 n7 _ fun r h=>n5<|lp (e2S w list) h (fun _ h=>a0P.rt h) (d9K w r) fun hI=>sk [] [1,2,4,5] [(1,0),(2,0),(0,3)] hI
def b4m:FS (m5):=⟨57,Tryz.f57,[.val E2 Q2],[none,none],[.val E2 Q2,.val [none,none,some 4] []],fun r=>.agg (P9 r),fun _=>[none,none],Tryz.func57⟩
def b1k(node:j5):List V:=([vi node.Id,vi node.Acc.i4,.own 40 0 8 0 node.Acc.a5.length,.own 40 1 7 0 node.a6.length,vi node.Seq,vi node.d9,vi node.a8,.own 40 2 1 0 node.d7.length]++a57 node++[.own 40 3 1 0 node.a5.length]++a28 node++[.own 40 4 7 0 node.d8.length])
def c6O(a1q:j5×(List j7)×List m8):List V:=(a5v a1q.1)
def a8e(w:m5)(e_:p6):Option m5 :=
 (bif decide (e_.A<0) then some w else (bif decide (e_.A>=(w.b9.length:Int)) then some w else ((idx w.b9 e_.A).bind fun msg=>((a6y msg).bind fun E3=>(bif (e_.a7==4) then ((a2j w [E3]).bind fun a14=>some a14) else (bif (e_.a7==3) then ((b2M w e_.A).bind fun b88=>some b88) else ((b2M w e_.A).bind fun V6=>((idx V6.a9 E3.To).bind fun node=>((b3F node E3).bind fun a1q=>((a2j (m5.mk (V6.a9.set E3.To.toNat a1q.1) V6.b9 V6.c9 V6.Told) a1q.2.1).bind fun a2o=>((a3p a2o a1q.2.2).bind fun a2p=>some a2p)))))))))))
set_option maxRecDepth 20000 in
theorem c2M{w e_}:OK b4m [.agg (P9 w),.agg (F6 e_)] (a8e w e_) :=
 n7 _ fun r h=>n5<|j4 3 h (fun h=>rg<|A2 w<|fE h) (fun h=>j4 10 h (fun h=>rg<|A2 w<|fE h) (fun h=>rg<|A4 h fun msg hmsg h=>A9 hmsg<|G7 p9 5 hmsg<|j8 b21 b6y 6 h fun E3 h=>n5<|j4 1 h (fun h=>rg<|tk 2 B2<|j8 a0E a4Q 3 h fun a14 h=>A2 w<|D8 E3<|A2 a14<|fE h) (fun h=>rg<|j4 1 h (fun h=>rg<|j8 b8h c8j 3 h fun b88 h=>A2 w<|A2 b88<|fE h) (fun h=>rg<|j8 b8h c8j 3 h fun V6 h=>A2 w<|rg<|A4 h fun node hnode h=>A9 hnode<|ob (b0r (enc:=w9) hnode)<|tl (5,{a:=.drow (w9 node)})<|j8 b7j e6I 7 h fun a1q h=>z3 node<|rg<|A9 hnode<|om (r9.deep false 53 27 V6.a9.length (((V6.a9.map w9).set (0+E3.To.toNat) (b1k node)).set (0+E3.To.toNat) (c6O a1q))=B5 53 27 w9 (V6.a9.set E3.To.toNat a1q.1)) (a6X (T3 (Z5 rfl)) (by simp))<|om (G1 (((V6.a9.map w9).set (0+E3.To.toNat) (b1k node)).set (0+E3.To.toNat) (c6O a1q))) (a7G (T3 (Z5 rfl)) a44)<|om (((V6.a9.map w9).set (0+E3.To.toNat) (b1k node))[0+E3.To.toNat]?=some (b1k node)) (a08 (a0V hnode))<|z3 a1q.1<|tl (6,{a:=.dsc (b1k node) [none,none,some 8,some 7,none,none,none,some 1,some 8,none,none,none,some 2,some 2,none,none,some 1,none,some 4,none,none,none,some 2,some 2,none,none,some 7] [none,none,some 126,some 51,none,none,none,some 4,none,none,none,none,none,none,none,none,some 4,none,none,none,none,none,none,none,none,none,some 51],e:=some (B5 53 27 w9 (V6.a9.set E3.To.toNat a1q.1))})<|rg<|j8 a0E a4Q 2 h fun a2o h=>om (V6.a9.length=(V6.a9.set E3.To.toNat a1q.1).length) (by simp)<|U5 V6.b9 V6.c9 V6.Told<|j8 a0P a7L 4 h fun a2p h=>A2 a2o<|A2 a2p<|fE h))))
def c9Y:FS (Bool):=⟨142,Tryz.f142,[.val [] []],[none],[.val S7 []],fun r=>.b r,fun _=>[none],Tryz.func142⟩
def b3V(v_:m6):Option Bool :=
 (bif (v_.a8==0) then (bif (!v_.i0.i8) then (bif (([v_.i0.a0.d6,v_.i0.a0.Seq]:List Int)==[0,0]) then ((a8M v_.i0.b8 (m9.mk [] [] 0 0)).bind fun a1P=>some a1P) else some false) else some false) else ((a0z v_.a8).bind fun V1=>(bif V1 then ((a0B v_.i0).bind fun C8=>some C8) else some false)))
theorem d8a{v_}:OK c9Y [.agg (o7 v_)] (b3V v_) :=
 n7 _ fun r h=>n5<|j4 2 h (fun h=>rg<|j4 4 h (fun h=>j4 11 h (fun h=>j8 a0G b9x 16 h fun a1P h=>fE h) (fun h=>fE h)) (fun h=>fE h)) (fun h=>rg<|j8 a09 a1O 2 h fun V1 h=>j4 3 h (fun h=>j8 a1L a2t 6 h fun C8 h=>fE h) (fun h=>fE h))
def a1U:FS (Bool):=⟨94,Tryz.f94,[.val [] []],[none],[.val [some 8] []],fun r=>.b r,fun _=>[none],Tryz.func94⟩
def c4E:Unit->KS:=fun _=>⟨a1U.k 4 [false,false],(bs 19 []),[some []]⟩
def c8g:Option Bool :=
 some true
theorem d5H(r):NF a1U r c4E (fun s=>c8g):=fun _ h=>PK<|rg<|fE h
def d4a(list:List m6):Int->KS:=fun i=>⟨a1U.k 3 [false],(j9 8 o7 list::(bs 2 (vi i::(bs 15 [])))),[some []]⟩
def b7M(list:List m6)(i:Int):Option (l7 Bool Int Unit) :=
 (bif decide (i<(list.length:Int)) then ((idx list i).bind fun vote=>((b3V vote).bind fun c4Q=>(bif (!c4Q) then some (l7.ret false) else some (l7.nxt (m7 (i+1)))))) else some (l7.brk ()))
theorem d8d(list):LQ a1U c4E (d4a list) (fun s=>b7M list s):=fun lc i h=>PK<|rg<|j4 3 h (fun h=>rg<|v5 o7 2 h fun vote L7 h=>j8 c9Y d8a 4 h fun c4Q h=>j4 5 h (fun h=>rg<|fL lc h) (fun h=>rg<|(lc.nx h fun hI=>sk [] [0,3] [] hI))) (fun h=>(lc.bk h fun hI=>sk [] [] [] hI))
def a5d(list:List m6):Option Bool :=
 (bif decide ((list.length:Int)>40) then some false else ((o9 (fun s:Int=>b7M list s) 0).bind fun x=>x.go (fun r=>some r) fun s=>c8g))
theorem b1R{list}:OK a1U [j9 8 o7 list] (a5d list) :=
 n7 _ fun r h=>n5<|j4 2 h (fun h=>rg<|fE h) (fun h=>rg<|lp (d8d list) h (fun _ h=>a1U.rt h) (d5H r) fun hI=>sk [] [0,3] [] hI)
def a6j:FS (Bool):=⟨87,Tryz.f87,[.val [] []],[none],[.val [none,some 8] []],fun r=>.b r,fun _=>[none],Tryz.func87⟩
def c7C:Unit->KS:=fun _=>⟨a6j.k 4 [false,false],(bs 34 []),[some []]⟩
def c3f:Option Bool :=
 some true
theorem e5S(r):NF a6j r c7C (fun s=>c3f):=fun _ h=>PK<|rg<|fE h
def e0U(a:v6):Int->KS:=fun i=>⟨a6j.k 3 [false],(bs 1 (.ptr 1 0 0::(bs 1 (vi i::(bs 30 []))))),[some [],some [.var 43 [vi a.i4,j9 8 o7 a.a5]]]⟩
def b7H(a:v6)(i:Int):Option (l7 Bool Int Unit) :=
 (bif decide (i<(a.a5.length:Int)) then ((idx a.a5 i).bind fun vote=>(bif decide (vote.a8>a.i4) then some (l7.ret false) else some (l7.nxt (m7 (i+1))))) else some (l7.brk ()))
theorem d44(a):LQ a6j c7C (e0U a) (fun s=>b7H a s):=fun lc i h=>PK<|rg<|j4 4 h (fun h=>rg<|v5 o7 3 h fun vote L7 h=>j4 8 h (fun h=>rg<|fL lc h) (fun h=>rg<|(lc.nx h fun hI=>sk [] [1,3] [(1,0)] hI))) (fun h=>(lc.bk h fun hI=>sk [] [] [] hI))
def b4P(a:v6):Option Bool :=
 (bif decide (a.i4<0) then some false else (bif decide (a.i4>3000) then some false else ((a5d a.a5).bind fun a5w=>(bif (!a5w) then some false else ((o9 (fun s:Int=>b7H a s) 0).bind fun x=>x.go (fun r=>some r) fun s=>c3f)))))
theorem d42{a}:OK a6j [.agg (W9 a)] (b4P a) :=
 n7 _ fun r h=>n5<|j4 3 h (fun h=>rg<|fE h) (fun h=>j4 8 h (fun h=>rg<|fE h) (fun h=>j8 a1U b1R 11 h fun a5w h=>j4 13 h (fun h=>rg<|fE h) (fun h=>rg<|lp (d44 a) h (fun _ h=>a6j.rt h) (e5S r) fun hI=>sk [] [1,3] [(1,0)] hI)))
def a7q:FS (Bool):=⟨88,Tryz.f88,[.val [] []],[none],[.val [some 7] []],fun r=>.b r,fun _=>[none],Tryz.func88⟩
def c5S:Unit->KS:=fun _=>⟨a7q.k 4 [false,false],(bs 19 []),[some []]⟩
def d1l:Option Bool :=
 some true
theorem e5w(r):NF a7q r c5S (fun s=>d1l):=fun _ h=>PK<|rg<|fE h
def e3M(list:List m4):Int->KS:=fun i=>⟨a7q.k 3 [false],(j9 7 s8 list::(bs 2 (vi i::(bs 15 [])))),[some []]⟩
def b42(list:List m4)(i:Int):Option (l7 Bool Int Unit) :=
 (bif decide (i<(list.length:Int)) then ((idx list i).bind fun entry=>((a0B entry).bind fun C8=>(bif (!C8) then some (l7.ret false) else some (l7.nxt (m7 (i+1)))))) else some (l7.brk ()))
theorem d38(list):LQ a7q c5S (e3M list) (fun s=>b42 list s):=fun lc i h=>PK<|rg<|j4 3 h (fun h=>rg<|v5 s8 2 h fun entry G9 h=>j8 a1L a2t 4 h fun C8 h=>j4 5 h (fun h=>rg<|fL lc h) (fun h=>rg<|(lc.nx h fun hI=>sk [] [0,3] [] hI))) (fun h=>(lc.bk h fun hI=>sk [] [] [] hI))
def b69(list:List m4):Option Bool :=
 (bif decide ((list.length:Int)>40) then some false else ((o9 (fun s:Int=>b42 list s) 0).bind fun x=>x.go (fun r=>some r) fun s=>d1l))
theorem e6l{list}:OK a7q [j9 7 s8 list] (b69 list) :=
 n7 _ fun r h=>n5<|j4 2 h (fun h=>rg<|fE h) (fun h=>rg<|lp (d38 list) h (fun _ h=>a7q.rt h) (e5w r) fun hI=>sk [] [0,3] [] hI)
def a7E:FS (Bool):=⟨92,Tryz.f92,[.val [] []],[none],[.val I4 []],fun r=>.b r,fun _=>[none],Tryz.func92⟩
def a4b(e_:m4):Option Bool :=
 (bif (!e_.i8) then (bif (([e_.a0.d6,e_.a0.Seq]:List Int)==[0,0]) then ((a8M e_.b8 (m9.mk [] [] 0 0)).bind fun a1P=>some a1P) else some false) else some false)
theorem a8Y{e_}:OK a7E [.agg (s8 e_)] (a4b e_) :=
 n7 _ fun r h=>n5<|j4 3 h (fun h=>j4 9 h (fun h=>j8 a0G b9x 13 h fun a1P h=>fE h) (fun h=>fE h)) (fun h=>fE h)
def b3I:FS (Int):=⟨139,Tryz.f139,[.val [] []],[none],[.val [] []],fun r=>vi r,fun _=>[none],Tryz.func139⟩
def a8d(bal:Int):Option Int :=
 ((a0z bal).bind fun V1=>(bif (!V1) then some (-1) else some (e81 bal 3)))
theorem b8a{bal}:OK b3I [vi bal] (a8d bal) :=
 n7 _ fun r h=>n5<|j8 a09 a1O 1 h fun V1 h=>j4 2 h (fun h=>rg<|fE h) (fun h=>rg<|om (3≠(0:Int)) (by decide)<|fE h)
def d02:FS (Bool):=⟨89,Tryz.f89,[.val [] []],[none],[.val A0 []],fun r=>.b r,fun _=>[none],Tryz.func89⟩
def b6W(n:j5):Option Bool :=
 (bif (n.d9==0) then (bif (n.a8==0) then (bif ((n.d7.length:Int)==0) then (bif ((n.g9.length:Int)==0) then ((a4b n.c8).bind fun l7None=>(bif l7None then some ((n.a5.length:Int)==0) else some false)) else some false) else some false) else some false) else (bif (n.d9==1) then ((a0z n.a8).bind fun V1=>(bif V1 then (bif decide (n.a8<=n.Acc.i4) then ((a8d n.a8).bind fun a52=>(bif (a52==n.Id) then (bif ((n.d7.length:Int)==3) then ((idx n.d7 n.Id).bind fun y=>(bif y then ((a5d n.g9).bind fun a5w=>(bif a5w then ((a4b n.c8).bind fun c6u=>(bif c6u then some ((n.a5.length:Int)==0) else some false)) else some false)) else some false)) else some false) else some false)) else some false) else some false)) else (bif (n.d9==2) then ((a0z n.a8).bind fun a9Q=>(bif (!a9Q) then some false else (bif decide (n.a8>n.Acc.i4) then some false else ((a8d n.a8).bind fun c8i=>(bif (c8i != n.Id) then some false else (bif ((n.d7.length:Int) != 0) then some false else ((a5d n.g9).bind fun d1v=>(bif (!d1v) then some false else (bif (n.d9==2) then ((a4b n.c8).bind fun c6f=>(bif c6f then some ((n.a5.length:Int)==0) else some false)) else ((a0B n.c8).bind fun C8=>(bif C8 then (bif ((n.a5.length:Int)==3) then ((idx n.a5 n.Id).bind fun y1=>(bif y1 then some (decide ((n.a6.length:Int)<40)) else some false)) else some false) else some false))))))))))) else (bif (n.d9==3) then ((a0z n.a8).bind fun b2O=>(bif (!b2O) then some false else (bif decide (n.a8>n.Acc.i4) then some false else ((a8d n.a8).bind fun c6X=>(bif (c6X != n.Id) then some false else (bif ((n.d7.length:Int) != 0) then some false else ((a5d n.g9).bind fun c9t=>(bif (!c9t) then some false else (bif (n.d9==2) then ((a4b n.c8).bind fun c5M=>(bif c5M then some ((n.a5.length:Int)==0) else some false)) else ((a0B n.c8).bind fun a2f=>(bif a2f then (bif ((n.a5.length:Int)==3) then ((idx n.a5 n.Id).bind fun y2=>(bif y2 then some (decide ((n.a6.length:Int)<40)) else some false)) else some false) else some false))))))))))) else some false))))
set_option maxRecDepth 20000 in
theorem e4o{n}:OK d02 [.agg (z9 n)] (b6W n) :=
 n7 _ fun r h=>M3<|j4 1 h (fun h=>rg<|j4 3 h (fun h=>j4 9 h (fun h=>j4 15 h (fun h=>j8 a7E a8Y 18 h fun l7None h=>j4 20 h (fun h=>fE h) (fun h=>fE h)) (fun h=>fE h)) (fun h=>fE h)) (fun h=>fE h)) (fun h=>rg<|j4 1 h (fun h=>rg<|j8 a09 a1O 2 h fun V1 h=>j4 3 h (fun h=>j4 11 h (fun h=>j8 b3I b8a 14 h fun a52 h=>j4 19 h (fun h=>j4 25 h (fun h=>v5 eB 30 h fun y hy h=>j4 33 h (fun h=>j8 a1U b1R 36 h fun a5w h=>j4 38 h (fun h=>j8 a7E a8Y 41 h fun c6u h=>j4 43 h (fun h=>fE h) (fun h=>fE h)) (fun h=>fE h)) (fun h=>fE h)) (fun h=>fE h)) (fun h=>fE h)) (fun h=>fE h)) (fun h=>fE h)) (fun h=>rg<|j4 1 h (fun h=>rg<|j8 a09 a1O 2 h fun a9Q h=>j4 4 h (fun h=>rg<|fE h) (fun h=>j4 12 h (fun h=>rg<|fE h) (fun h=>j8 b3I b8a 15 h fun c8i h=>j4 20 h (fun h=>rg<|fE h) (fun h=>j4 26 h (fun h=>rg<|fE h) (fun h=>j8 a1U b1R 29 h fun d1v h=>j4 31 h (fun h=>rg<|fE h) (fun h=>rg<|j4 2 h (fun h=>rg<|j8 a7E a8Y 2 h fun c6f h=>j4 3 h (fun h=>fE h) (fun h=>fE h)) (fun h=>rg<|j8 a1L a2t 2 h fun C8 h=>j4 3 h (fun h=>j4 9 h (fun h=>v5 eB 14 h fun y1 hy1 h=>j4 17 h (fun h=>fE h) (fun h=>fE h)) (fun h=>fE h)) (fun h=>fE h)))))))) (fun h=>rg<|j4 1 h (fun h=>rg<|j8 a09 a1O 2 h fun b2O h=>j4 4 h (fun h=>rg<|fE h) (fun h=>j4 12 h (fun h=>rg<|fE h) (fun h=>j8 b3I b8a 15 h fun c6X h=>j4 20 h (fun h=>rg<|fE h) (fun h=>j4 26 h (fun h=>rg<|fE h) (fun h=>j8 a1U b1R 29 h fun c9t h=>j4 31 h (fun h=>rg<|fE h) (fun h=>rg<|j4 2 h (fun h=>rg<|j8 a7E a8Y 2 h fun c5M h=>j4 3 h (fun h=>fE h) (fun h=>fE h)) (fun h=>rg<|j8 a1L a2t 2 h fun a2f h=>j4 3 h (fun h=>j4 9 h (fun h=>v5 eB 14 h fun y2 hy2 h=>j4 17 h (fun h=>fE h) (fun h=>fE h)) (fun h=>fE h)) (fun h=>fE h)))))))) (fun h=>rg<|fE h))))
def a23:FS (Bool):=⟨143,Tryz.f143,[.val [] []],[none],[.val [] []],fun r=>.b r,fun _=>[none],Tryz.func143⟩
def a1B(n:Int):Option Bool :=
 (bif decide (n>=0) then some (decide (n<4)) else some false)
theorem a4j{n}:OK a23 [vi n] (a1B n) :=
 n7 _ fun r h=>n5<|j4 2 h (fun h=>fE h) (fun h=>fE h)
def c7q:FS (Bool):=⟨95,Tryz.f95,[.val [] []],[none],[.val [] []],fun r=>.b r,fun _=>[none],Tryz.func95⟩
def b5z(i:o8):Option Bool :=
 (bif (i.a7==1) then ((a1B i.A).bind fun c7a=>(bif c7a then ((a7W i.B).bind fun b0K=>(bif b0K then some (i.N==0) else some false)) else some false)) else (bif (i.a7==2) then ((a7W i.A).bind fun b1q=>(bif b1q then ((a1B i.B).bind fun c9P=>(bif c9P then some (i.N==0) else some false)) else some false)) else (bif (i.a7==3) then ((a1B i.A).bind fun c8Q=>(bif c8Q then (bif (i.B==0) then ((a4N i.N).bind fun a0r=>some a0r) else some false) else some false)) else (bif (i.a7==4) then ((a1B i.A).bind fun c9r=>(bif c9r then ((a1B i.B).bind fun c7e=>(bif c7e then some (i.N==0) else some false)) else some false)) else (bif (i.a7==5) then ((a1B i.A).bind fun d0v=>(bif d0v then ((a1B i.B).bind fun c6D=>(bif c6D then some (i.N==0) else some false)) else some false)) else (bif (i.a7==6) then ((a1B i.A).bind fun c7f=>(bif c7f then ((a1B i.B).bind fun c85=>(bif c85 then (bif decide (i.N>=1) then some (decide (i.N<=10)) else some false) else some false)) else some false)) else (bif (i.a7==7) then (bif (i.A==0) then (bif (i.B==0) then some (i.N==0) else some false) else some false) else some false)))))))
theorem e59{i}:OK c7q [.agg (z0 i)] (b5z i) :=
 n7 _ fun r h=>M3<|j4 1 h (fun h=>rg<|j8 a23 a4j 2 h fun c7a h=>j4 3 h (fun h=>j8 b2u b5S 6 h fun b0K h=>j4 8 h (fun h=>fE h) (fun h=>fE h)) (fun h=>fE h)) (fun h=>rg<|j4 1 h (fun h=>rg<|j8 b2u b5S 2 h fun b1q h=>j4 3 h (fun h=>j8 a23 a4j 6 h fun c9P h=>j4 8 h (fun h=>fE h) (fun h=>fE h)) (fun h=>fE h)) (fun h=>rg<|j4 1 h (fun h=>rg<|j8 a23 a4j 2 h fun c8Q h=>j4 3 h (fun h=>j4 8 h (fun h=>j8 a7x a83 11 h fun a0r h=>fE h) (fun h=>fE h)) (fun h=>fE h)) (fun h=>rg<|j4 1 h (fun h=>rg<|j8 a23 a4j 2 h fun c9r h=>j4 3 h (fun h=>j8 a23 a4j 6 h fun c7e h=>j4 8 h (fun h=>fE h) (fun h=>fE h)) (fun h=>fE h)) (fun h=>rg<|j4 1 h (fun h=>rg<|j8 a23 a4j 2 h fun d0v h=>j4 3 h (fun h=>j8 a23 a4j 6 h fun c6D h=>j4 8 h (fun h=>fE h) (fun h=>fE h)) (fun h=>fE h)) (fun h=>rg<|j4 1 h (fun h=>rg<|j8 a23 a4j 2 h fun c7f h=>j4 3 h (fun h=>j8 a23 a4j 6 h fun c85 h=>j4 8 h (fun h=>j4 13 h (fun h=>fE h) (fun h=>fE h)) (fun h=>fE h)) (fun h=>fE h)) (fun h=>rg<|j4 1 h (fun h=>rg<|j4 3 h (fun h=>j4 8 h (fun h=>fE h) (fun h=>fE h)) (fun h=>fE h)) (fun h=>rg<|fE h)))))))
def a4e:FS (Bool):=⟨53,Tryz.f53,[.val [] []],[none],[.val [some 4] []],fun r=>.b r,fun _=>[none],Tryz.func53⟩
def d0U:Unit->KS:=fun _=>⟨a4e.k 4 [false,false],(bs 19 []),[some []]⟩
def c99:Option Bool :=
 some true
theorem d6E(r):NF a4e r d0U (fun s=>c99):=fun _ h=>PK<|rg<|fE h
def d4t(list:List o8):Int->KS:=fun i=>⟨a4e.k 3 [false],(j9 4 z0 list::(bs 2 (vi i::(bs 15 [])))),[some []]⟩
def b3Q(list:List o8)(i:Int):Option (l7 Bool Int Unit) :=
 (bif decide (i<(list.length:Int)) then ((idx list i).bind fun ins=>((b5z ins).bind fun c6N=>(bif (!c6N) then some (l7.ret false) else some (l7.nxt (m7 (i+1)))))) else some (l7.brk ()))
theorem e0c(list):LQ a4e d0U (d4t list) (fun s=>b3Q list s):=fun lc i h=>PK<|rg<|j4 3 h (fun h=>rg<|v5 z0 2 h fun ins hins h=>j8 c7q e59 4 h fun c6N h=>j4 5 h (fun h=>rg<|fL lc h) (fun h=>rg<|(lc.nx h fun hI=>sk [] [0,3] [] hI))) (fun h=>(lc.bk h fun hI=>sk [] [] [] hI))
def a75(list:List o8):Option Bool :=
 (bif decide ((list.length:Int)>10) then some false else ((o9 (fun s:Int=>b3Q list s) 0).bind fun x=>x.go (fun r=>some r) fun s=>c99))
theorem c2b{list}:OK a4e [j9 4 z0 list] (a75 list) :=
 n7 _ fun r h=>n5<|j4 2 h (fun h=>rg<|fE h) (fun h=>rg<|lp (e0c list) h (fun _ h=>a4e.rt h) (d6E r) fun hI=>sk [] [0,3] [] hI)
def c90:FS (Bool):=⟨90,Tryz.f90,[.val [] []],[none],[.val A0 []],fun r=>.b r,fun _=>[none],Tryz.func90⟩
def b6f(n:j5):Option Bool :=
 (bif (!n.i7) then (bif ((n.i5.length:Int)==0) then ((a4b n.b6).bind fun l7None=>some l7None) else some false) else ((a75 n.i5).bind fun C7=>(bif C7 then ((a0B n.b6).bind fun C8=>(bif C8 then (bif (!n.b6.i8) then some (([n.b6.a0.d6,n.b6.a0.Seq]:List Int)==[n.Id,n.Seq]) else some false) else some false)) else some false)))
theorem e3y{n}:OK c90 [.agg (z9 n)] (b6f n) :=
 n7 _ fun r h=>n5<|j4 2 h (fun h=>rg<|j4 4 h (fun h=>j8 a7E a8Y 7 h fun l7None h=>fE h) (fun h=>fE h)) (fun h=>rg<|j8 a4e c2b 2 h fun C7 h=>j4 3 h (fun h=>j8 a1L a2t 6 h fun C8 h=>j4 8 h (fun h=>j4 14 h (fun h=>fE h) (fun h=>fE h)) (fun h=>fE h)) (fun h=>fE h))
def a1I:FS (Bool):=⟨50,Tryz.f50,[.val [] []],[none],[.val A0 []],fun r=>.b r,fun _=>[none],Tryz.func50⟩
def c44:Unit->KS:=fun _=>⟨a1I.k 4 [false,false],(bs 72 []),[some []]⟩
def c0C:Option Bool :=
 some true
theorem d4U(r):NF a1I r c44 (fun s=>c0C):=fun _ h=>PK<|rg<|fE h
def d91(n:j5):Int->KS:=fun i=>⟨a1I.k 3 [false],(bs 1 (.ptr 1 0 0::(bs 1 (vi i::(bs 68 []))))),[some [],some [.var 53 (a6O n)]]⟩
def b7A(n:j5)(i:Int):Option (l7 Bool Int Unit) :=
 (bif decide (i<(n.d8.length:Int)) then ((idx n.d8 i).bind fun entry=>((a0B entry).bind fun C8=>(bif (!C8) then some (l7.ret false) else (bif entry.i8 then some (l7.ret false) else some (l7.nxt (m7 (i+1))))))) else some (l7.brk ()))
theorem e51(n):LQ a1I c44 (d91 n) (fun s=>b7A n s):=fun lc i h=>PK<|rg<|j4 4 h (fun h=>rg<|v5 s8 3 h fun entry G9 h=>j8 a1L a2t 5 h fun C8 h=>j4 7 h (fun h=>rg<|fL lc h) (fun h=>I5 s8 11 G9<|j4 14 h (fun h=>rg<|fL lc h) (fun h=>rg<|(lc.nx h fun hI=>sk [] [1,3] [(1,0)] hI)))) (fun h=>(lc.bk h fun hI=>sk [] [] [] hI))
def a4a(n:j5):Option Bool :=
 (bif decide (n.Id<0) then some false else (bif decide (n.Id>=3) then some false else ((b4P n.Acc).bind fun N4=>(bif (!N4) then some false else ((b69 n.a6).bind fun d0j=>(bif (!d0j) then some false else (bif decide (n.Seq<0) then some false else (bif decide (n.Seq>1000) then some false else (bif decide ((n.d8.length:Int)>4) then some false else ((b6W n).bind fun c98=>(bif (!c98) then some false else ((b6f n).bind fun d2A=>(bif (!d2A) then some false else ((o9 (fun s:Int=>b7A n s) 0).bind fun x=>x.go (fun r=>some r) fun s=>c0C))))))))))))))
theorem a9C{n}:OK a1I [.agg (z9 n)] (a4a n) :=
 n7 _ fun r h=>n5<|j4 3 h (fun h=>rg<|fE h) (fun h=>j4 8 h (fun h=>rg<|fE h) (fun h=>j8 a6j d42 11 h fun N4 h=>j4 14 h (fun h=>rg<|fE h) (fun h=>j8 a7q e6l 17 h fun d0j h=>j4 20 h (fun h=>rg<|fE h) (fun h=>j4 25 h (fun h=>rg<|fE h) (fun h=>j4 30 h (fun h=>rg<|fE h) (fun h=>j4 36 h (fun h=>rg<|fE h) (fun h=>j8 d02 e4o 38 h fun c98 h=>j4 41 h (fun h=>rg<|fE h) (fun h=>j8 c90 e3y 43 h fun d2A h=>j4 45 h (fun h=>rg<|fE h) (fun h=>rg<|lp (e51 n) h (fun _ h=>a1I.rt h) (d4U r) fun hI=>sk [] [1,3] [(1,0)] hI)))))))))
def c66:FS (v6):=⟨97,Tryz.f97,[.val [none,some 8] [none,some 126]],[none],[.val [none,some 8] []],fun r=>.agg [vi r.i4,t7 126 8 o7 r.a5],fun _=>[none],Tryz.func97⟩
def c1g(a:v6):Option v6 :=
 ((a7l a.a5).bind fun T6=>some (v6.mk a.i4 T6))
theorem d87{a}:OK c66 [.agg (W9 a)] (c1g a) :=
 n7 _ fun r h=>n5<|j8 a3s b4V 4 h fun T6 h=>s4 T6<|fE h
def a5s:FS (List m4):=⟨98,Tryz.f98,[.val [some 7] [some 51]],[none],[.val [some 7] []],fun r=>t7 51 7 s8 r,fun _=>[none],Tryz.func98⟩
def c5F:(List m4)->KS:=fun out1=>⟨a5s.k 4 [false],(bs 3 (.own 1 0 7 0 out1.length::(bs 17 []))),[some [],some [l9 51 7 s8 out1]]⟩
def c4W(out1:List m4):Option (List m4) :=
 some out1
theorem d32(r):NF a5s r c5F (fun s=>c4W s):=fun out1 h=>PK<|rg<|s4 out1<|fE h
def e6u(list:List m4):((List m4)×Int)->KS:=fun (out,i)=>⟨a5s.k 3 [],(j9 7 s8 list::(bs 2 (.own 1 0 7 0 out.length::(vi i::(bs 16 []))))),[some [],some [l9 51 7 s8 out]]⟩
def b0S(list:List m4)(out:List m4)(i:Int):Option (l7 (List m4) ((List m4)×Int) (List m4)) :=
 (bif decide (i<(list.length:Int)) then ((idx list i).bind fun entry=>((U7 entry).bind fun l5Entry=>(s7 ((out.length+1)*88<=140737488355328) (some (l7.nxt (out++[l5Entry],m7 (i+1))))))) else some (l7.brk out))
theorem d6p(list):LQ a5s c5F (e6u list) (fun s=>b0S list s.1 s.2):=fun lc (out,i) h=>PK<|rg<|j4 3 h (fun h=>rg<|v5 s8 3 h fun entry G9 h=>j8 X2 Z7 5 h fun l5Entry h=>tk 6 I4<|s9 h fun e1 h=>E8 7 13 51 7 88 s8 out l5Entry e1<|D8 l5Entry<|rg<|(lc.nx h fun hI=>sk [] [0,3,4] [(13,0)] hI)) (fun h=>(lc.bk h fun hI=>sk [] [3] [(1,0)] hI))
def b0N(list:List m4):Option (List m4) :=
 ((o9 (fun s:(List m4)×Int=>b0S list s.1 s.2) (([]:List m4),0)).bind fun x=>x.go (fun r=>some r) fun s=>c4W s)
theorem c6v{list}:OK a5s [j9 7 s8 list] (b0N list) :=
 n7 _ fun r h=>n5<|tk 0 I4<|rg<|lp (d6p list) h (fun _ h=>a5s.rt h) (d32 r) fun hI=>om ((.own 2 0 7 0 0:V)=.own 2 0 7 0 ([]:List m4).length) (by simp)<|sk [.is (.tmp 3) (.own 2 0 7 0 ([]:List m4).length)] [0,3,4] [(2,0)] hI
def a8z:FS (j5):=⟨55,Tryz.f55,[.val A0 E7],[none],[.val A0 []],fun r=>.agg (F5 r),fun _=>[none],Tryz.func55⟩
def a5q(n:j5):Option j5 :=
 ((c1g n.Acc).bind fun b9q=>((b0N n.a6).bind fun b8G=>(s7 ((([]:List Bool).length+n.d7.length)*1<=140737488355328) (((a7l n.g9).bind fun T6=>((U7 n.c8).bind fun l5Entry=>(s7 ((([]:List Bool).length+n.a5.length)*1<=140737488355328) ((s7 ((([]:List o8).length+n.i5.length)*32<=140737488355328) (((U7 n.b6).bind fun b2w=>((b0N n.d8).bind fun b8B=>some (j5.mk n.Id b9q b8G n.Seq n.d9 n.a8 (([]:List Bool)++n.d7) T6 l5Entry (([]:List Bool)++n.a5) n.i7 (([]:List o8)++n.i5) b2w b8B)))))))))))))
set_option maxRecDepth 20000 in
theorem b18{n}:OK a8z [.agg (z9 n)] (a5q n) :=
 n7 _ fun r h=>M3<|j8 c66 d87 2 h fun b9q h=>rg<|j8 a5s c6v 2 h fun b8G h=>rg<|tk 0 []<|s9 h fun e1 h=>oa 19 0 1 ([]:List Bool) n.d7<|oz 4 1 eB ([]:List Bool) n.d7<|B3 Bool<|ob e1<|tl (3,{v:=some (.own 19 0 1 0 (([]:List Bool)++n.d7).length),e:=some (l9 4 1 eB (([]:List Bool)++n.d7))})<|rg<|j8 a3s b4V 2 h fun T6 h=>rg<|j8 X2 Z7 2 h fun l5Entry h=>rg<|tk 0 []<|s9 h fun e2 h=>oa 35 0 1 ([]:List Bool) n.a5<|oz 4 1 eB ([]:List Bool) n.a5<|B3 Bool<|ob e2<|tl (3,{v:=some (.own 35 0 1 0 (([]:List Bool)++n.a5).length),e:=some (l9 4 1 eB (([]:List Bool)++n.a5))})<|rg<|tk 0 []<|s9 h fun e3 h=>oa 41 0 4 ([]:List o8) n.i5<|oz 74 4 z0 ([]:List o8) n.i5<|B3 o8<|ob e3<|tl (3,{v:=some (.own 41 0 4 0 (([]:List o8)++n.i5).length),e:=some (l9 74 4 z0 (([]:List o8)++n.i5))})<|rg<|j8 X2 Z7 2 h fun b2w h=>rg<|j8 a5s c6v 2 h fun b8B h=>rg<|E9 b9q.a5 b8G (([]:List Bool)++n.d7) T6<|U5 (([]:List Bool)++n.a5) (([]:List o8)++n.i5) b8B<|fE h
def a6n:FS (u6):=⟨180,Tryz.f180,[.val [none,some 2,some 4] [none,some 172,none]],[none],[.val [some 7] []],fun r=>.agg (a9U r),fun _=>[none],Tryz.func180⟩
def c7i:((List q8)×Int×List q9)->KS:=fun (Boxes1,sAt1,sDones1)=>⟨a6n.k 5 [false,false],(bs 2 (.ptr 1 0 0::(.ptr 2 0 0::(bs 32 [])))),[some [],some [.var 147 [vi 0,.nil,.nil]],some [.var 147 [vi sAt1,.own 3 0 2 0 Boxes1.length,j9 4 A8 sDones1]],some [l9 172 2 x8 Boxes1]]⟩
def d2p(Boxes1:List q8)(sAt1:Int)(sDones1:List q9):Option u6 :=
 some (u6.mk sAt1 Boxes1 sDones1)
theorem d6C(r):NF a6n r c7i (fun s=>d2p s.1 s.2.1 s.2.2):=fun (Boxes1,sAt1,sDones1) h=>PK<|rg<|s4 Boxes1<|fE h
def d5V(list:List m4):((List q8)×Int×Int×List q9)->KS:=fun (g8,i,sAt,sDones)=>⟨a6n.k 4 [false],(j9 7 s8 list::(bs 1 (.ptr 1 0 0::(.ptr 2 0 0::(vi i::(bs 31 [])))))),[some [],some [.var 147 [vi 0,.nil,.nil]],some [.var 147 [vi sAt,.own 3 0 2 0 g8.length,j9 4 A8 sDones]],some [l9 172 2 x8 g8]]⟩
def a8B(list:List m4)(g8:List q8)(i:Int)(sAt:Int)(sDones:List q9):Option (l7 u6 ((List q8)×Int×Int×List q9) ((List q8)×Int×List q9)) :=
 (bif decide (i<(list.length:Int)) then ((idx list i).bind fun entry=>((a0B entry).bind fun C8=>(bif (!C8) then some (l7.ret (u6.mk 0 [] [])) else ((b04 (u6.mk sAt g8 sDones) entry).bind fun S0=>some (l7.nxt (S0.1.g8,m7 (i+1),S0.1.At,S0.1.i9)))))) else some (l7.brk (g8,sAt,sDones)))
theorem d83(list):LQ a6n c7i (d5V list) (fun s=>a8B list s.1 s.2.1 s.2.2.1 s.2.2.2):=fun lc (g8,i,sAt,sDones) h=>PK<|rg<|j4 3 h (fun h=>rg<|v5 s8 2 h fun entry G9 h=>j8 a1L a2t 4 h fun C8 h=>j4 5 h (fun h=>rg<|fL lc h) (fun h=>rg<|I5 s8 3 G9<|j8 a3T d1q 5 h fun S0 h=>s4 g8<|n5<|(lc.nx h fun hI=>sk [] [0,2,3,4] [(1,0),(2,0),(19,0)] hI))) (fun h=>(lc.bk h fun hI=>sk [] [2,3] [(1,0),(2,0),(3,0)] hI))
def b7F(list:List m4):Option u6 :=
 ((b2b).bind fun a0q=>(bif decide ((list.length:Int)>40) then some (u6.mk 0 [] []) else ((o9 (fun s:(List q8)×Int×Int×List q9=>a8B list s.1 s.2.1 s.2.2.1 s.2.2.2) (a0q.g8,0,a0q.At,a0q.i9)).bind fun x=>x.go (fun r=>some r) fun s=>d2p s.1 s.2.1 s.2.2)))
theorem e6q{list}:OK a6n [j9 7 s8 list] (b7F list) :=
 n7 _ fun r h=>n5<|j8 b9i d0u 0 h fun a0q h=>rg<|j4 2 h (fun h=>rg<|fE h) (fun h=>rg<|lp (d83 list) h (fun _ h=>a6n.rt h) (d6C r) fun hI=>sk [] [0,2,3,4] [(1,0),(3,0),(2,0)] hI)
def c6i:FS (u6):=⟨155,Tryz.f155,[.val [none,some 2,some 4] []],[none],[.val A0 []],fun r=>.agg (a7g r),fun _=>[none],Tryz.func155⟩
def b5q(n:j5):Option u6 :=
 ((a4a n).bind fun C5=>(bif (!C5) then some (u6.mk 0 [] []) else ((b7F n.a6).bind fun a7J=>some a7J)))
theorem d4m{n}:OK c6i [.agg (z9 n)] (b5q n) :=
 n7 _ fun r h=>n5<|j8 a1I a9C 1 h fun C5 h=>j4 2 h (fun h=>rg<|fE h) (fun h=>rg<|j8 a6n e6q 2 h fun a7J h=>s4 a7J.g8<|fE h)
def b44:FS (Int×m9):=⟨186,Tryz.f186,[.val [] [],.val M7 om5],[none,none,none],[.val [some 2] [],.val M7 om5,.val [] []],fun r=>.tup [vi r.1,.agg (a5o r.2)],fun _=>[none,none,none],Tryz.func186⟩
def d6n(list:List q8)(r_:m9)(box:Int):(List p7)->KS:=fun b5=>⟨b44.k 5 [false,true],(j9 2 x8 list::(bs 1 (vi box::(bs 1 (.ptr 1 0 0::(bs 2 (.ptr 3 0 0::(bs 37 [])))))))),[some [.dead,l9 158 2 t9 r_.b7],some [.var 49 [.own 2 0 2 0 b5.length,.own 0 1 2 0 r_.b7.length,vi r_.f0,vi r_.Code]],some [l9 155 2 t8 b5],some [.var 49 [.nil,.nil,vi 0,vi 0]]]⟩
def b2f(list:List q8)(r_:m9)(box:Int)(b5:List p7):Option (Int×m9) :=
 ((idx list box).bind fun V8=>some (V8.f0,(m9.mk b5 r_.b7 r_.f0 r_.Code)))
theorem d6J(list r_ box)(r):NF b44 r (d6n list r_ box) (fun s=>b2f list r_ box s):=fun b5 h=>PK<|rg<|v5 x8 2 h fun V8 a9e h=>B8 b5 r_.b7<|fE h
def b2T(list:List q8)(r_:m9)(box:Int):Option (Int×m9) :=
 ((a2g r_.b7 box).bind fun a1A=>(bif decide (a1A>=0) then ((idx r_.b7 a1A).bind fun put=>some (put.f0,r_)) else ((((b1l r_.b5 box).bind fun b0d=>(bif (!b0d) then ((idx list box).bind fun b7b=>(s7 ((r_.b5.length+1)*16<=140737488355328) (some (l8.brk (r_.b5++[(p7.mk box b7b.j3)]))))) else some (l8.brk r_.b5))):Option (l8 (Int×m9) (List p7))).bind fun x=>x.go some fun j=>b2f list r_ box j)))
theorem d5r{list r_ box}:OK b44 [j9 2 x8 list,.agg (a5o r_),vi box] (b2T list r_ box) :=
 n7 _ fun r h=>n5<|R0 a34 c10 3 2 h fun a1A h=>s4 r_.b7<|rg<|j4 1 h (fun h=>rg<|A4 h fun put hput h=>A9 hput<|G7 t9 5 hput<|olR r_<|fE h) (fun h=>B0 h (d6J list r_ box r) fun x1 h hc1=>rg<|R0 a40 c3B 3 2 h fun b0d h=>s4 r_.b5<|j4 4 h (fun h=>rg<|v5 x8 5 h fun b7b e8A h=>tk 9 []<|s9 h fun e1 h=>E8 10 26 155 2 16 t8 r_.b5 (p7.mk box b7b.j3) e1<|D8 (p7.mk box b7b.j3)<|(o6 h hc1 fun hI=>sk [] [0,2,4,7] [(1,0),(26,0),(3,0)] hI)) (fun h=>(o6 h hc1 fun hI=>sk [] [0,2,4,7] [(1,0),(0,0),(3,0)] hI)))
def c8L:FS (m9):=⟨187,Tryz.f187,[.val M7 om5],[none,none,none],[.val M7 om5,.val [] [],.val [] []],fun r=>.agg (a5o r),fun _=>[none,none,none],Tryz.func187⟩
def b0J(r_:m9)(box:Int)(val:Int):Option m9 :=
 ((a2g r_.b7 box).bind fun a1A=>(bif decide (a1A>=0) then ((idx r_.b7 a1A).bind fun put=>some (m9.mk r_.b5 (r_.b7.set a1A.toNat (n8.mk put.i6 val)) r_.f0 r_.Code)) else (s7 ((r_.b7.length+1)*16<=140737488355328) (some (m9.mk r_.b5 (r_.b7++[(n8.mk box val)]) r_.f0 r_.Code)))))
theorem d4b{r_ box val}:OK c8L [.agg (a5o r_),vi box,vi val] (b0J r_ box val) :=
 n7 _ fun r h=>n5<|R0 a34 c10 3 2 h fun a1A h=>s4 r_.b7<|rg<|j4 1 h (fun h=>rg<|A4 h fun put hput h=>A9 hput<|N8 158 2 t9 6 [] (n8.mk put.i6 val) hput<|rg<|s4 r_.b5<|om (r_.b7.length=(r_.b7.set a1A.toNat (n8.mk put.i6 val)).length) (by simp)<|fE h) (fun h=>rg<|tk 5 []<|s9 h fun e1 h=>E8 6 16 158 2 16 t9 r_.b7 (n8.mk box val) e1<|D8 (n8.mk box val)<|rg<|B8 r_.b5 (r_.b7++[(n8.mk box val)])<|fE h)
def a9I:FS (m9×List Int):=⟨179,Tryz.f179,[.val M7 om5],[none,none,some (2,.row),none],[.val [some 2] [],.val M7 om5,.row,.val [] []],fun r=>.agg (a5o r.1),fun r=>[none,none,some (t7 3 1 eI r.2),none],Tryz.func179⟩
def e2l(i:o8):((List Int)×(List p7)×(List n8)×Int×Int)->KS:=fun (regs1,b5,b7,rVal,rCode)=>⟨a9I.k 6 [true],(bs 2 (.own 0 2 1 0 regs1.length::(bs 2 (.ptr 1 0 0::(bs 1 (.ptr 4 0 0::(.ptr 5 0 0::(bs 90 [])))))))),[some [.dead,.dead,l9 3 1 eI regs1],some [.var 49 [.own 2 0 2 0 b5.length,.own 3 0 2 0 b7.length,vi rVal,vi rCode]],some [l9 155 2 t8 b5],some [l9 158 2 t9 b7],some [.var 74 [vi i.a7,vi i.A,vi i.B,vi i.N]],some [.var 49 [.nil,.nil,vi 0,vi 0]]]⟩
def e4i(regs1:List Int)(b5:List p7)(b7:List n8)(rVal:Int):Int->KS:=fun rCode1=>⟨a9I.k 8 [true,true],(bs 5 (.ptr 1 0 0::(bs 2 (.ptr 4 0 0::(bs 90 []))))),[some [.dead,.dead,l9 3 1 eI regs1],some [.var 49 [.own 2 0 2 0 b5.length,.own 3 0 2 0 b7.length,vi rVal,vi rCode1]],some [l9 155 2 t8 b5],some [l9 158 2 t9 b7],some [.var 49 [.nil,.nil,vi 0,vi 0]]]⟩
def a74(regs1:List Int)(b5:List p7)(b7:List n8)(rVal:Int)(rCode1:Int):Option (m9×List Int) :=
 some ((m9.mk b5 b7 rVal rCode1),regs1)
theorem e3p(regs1 b5 b7 rVal)(r):NF a9I r (e4i regs1 b5 b7 rVal) (fun s=>a74 regs1 b5 b7 rVal s):=fun rCode1 h=>PK<|rg<|U5 b5 b7 regs1<|fE h
def a2H(i:o8)(regs1:List Int)(b5:List p7)(b7:List n8)(rVal:Int)(rCode:Int):Option (m9×List Int) :=
 (((bif (i.a7 != 2) then ((idx regs1 i.A).bind fun y=>((a4N y).bind fun a0r=>(bif (!a0r) then some (l8.brk 2) else some (l8.brk rCode)))) else some (l8.brk rCode)):Option (l8 (m9×List Int) Int)).bind fun x=>x.go some fun j=>a74 regs1 b5 b7 rVal j)
theorem e7R(i)(r):NF a9I r (e2l i) (fun s=>a2H i s.1 s.2.1 s.2.2.1 s.2.2.2.1 s.2.2.2.2):=fun (regs1,b5,b7,rVal,rCode) h=>PK<|B0 h (e3p regs1 b5 b7 rVal r) fun x1 h hc1=>rg<|j4 3 h (fun h=>A4 h fun y hy h=>A9 hy<|G7 eI 8 hy<|j8 a7x a83 9 h fun a0r h=>j4 11 h (fun h=>rg<|(o6 h hc1 fun hI=>sk [] [5,8] [(1,0),(2,0),(3,0),(5,0)] hI)) (fun h=>(o6 h hc1 fun hI=>sk [] [5,8] [(1,0),(2,0),(3,0),(5,0)] hI))) (fun h=>(o6 h hc1 fun hI=>sk [] [5,8] [(1,0),(2,0),(3,0),(5,0)] hI))
def a4I(list:List q8)(r_:m9)(regs:List Int)(i:o8):Option (m9×List Int) :=
 (((bif (i.a7==1) then ((b2T list r_ i.B).bind fun a4t=>((idx regs i.A).bind fun y1=>some (l8.brk (regs.set i.A.toNat a4t.1,a4t.2.b5,a4t.2.b7,a4t.2.f0,a4t.2.Code)))) else (bif (i.a7==2) then ((idx regs i.B).bind fun y2=>((b0J r_ i.A y2).bind fun b1v=>some (l8.brk (regs,b1v.b5,b1v.b7,b1v.f0,b1v.Code)))) else (bif (i.a7==3) then ((idx regs i.A).bind fun y3=>some (l8.brk (regs.set i.A.toNat i.N,r_.b5,r_.b7,r_.f0,r_.Code))) else (bif (i.a7==4) then ((idx regs i.A).bind fun y4=>((idx regs i.B).bind fun y5=>some (l8.brk (regs.set i.A.toNat (m7 (y4+y5)),r_.b5,r_.b7,r_.f0,r_.Code)))) else (bif (i.a7==5) then ((idx regs i.A).bind fun y6=>((idx regs i.B).bind fun y7=>some (l8.brk (regs.set i.A.toNat (m7 (y6-y7)),r_.b5,r_.b7,r_.f0,r_.Code)))) else (bif (i.a7==7) then some (l8.brk (regs,r_.b5,r_.b7,r_.f0,1)) else some (l8.brk (regs,r_.b5,r_.b7,r_.f0,r_.Code)))))))):Option (l8 (m9×List Int) ((List Int)×(List p7)×(List n8)×Int×Int))).bind fun x=>x.go some fun j=>a2H i j.1 j.2.1 j.2.2.1 j.2.2.2.1 j.2.2.2.2)
set_option maxRecDepth 20000 in
theorem d7L{list r_ regs i}:OK a9I [j9 2 x8 list,.agg (a5o r_),t7 3 1 eI regs,.agg (z0 i)] (a4I list r_ regs i) :=
 n7 _ fun r h=>n5<|B0 h (e7R i r) fun x1 h hc1=>rg<|j4 1 h (fun h=>rg<|j8 b44 d5r 4 h fun a4t h=>olR r_<|rg<|A4 h fun y1 hy1 h=>A9 hy1<|N8 3 1 eI 5 [] a4t.1 hy1<|rg<|(o6 h hc1 fun hI=>om ((.own 0 2 1 0 regs.length:V)=.own 0 2 1 0 (regs.set i.A.toNat a4t.1).length) (by simp)<|sk [.is (.tmp 2) (.own 0 2 1 0 (regs.set i.A.toNat a4t.1).length)] [2,5,7,8] [(1,0),(12,0),(12,1),(2,0),(3,0)] hI)) (fun h=>rg<|j4 1 h (fun h=>rg<|A4 h fun y2 hy2 h=>A9 hy2<|G7 eI 7 hy2<|j8 c8L d4b 8 h fun b1v h=>olR r_<|(o6 h hc1 fun hI=>sk [] [2,5,7,8] [(1,0),(18,0),(18,1),(2,0),(3,0)] hI)) (fun h=>rg<|j4 1 h (fun h=>rg<|A4 h fun y3 hy3 h=>A9 hy3<|N8 3 1 eI 6 [] i.N hy3<|(o6 h hc1 fun hI=>om ((.own 0 2 1 0 regs.length:V)=.own 0 2 1 0 (regs.set i.A.toNat i.N).length) (by simp)<|sk [.is (.tmp 2) (.own 0 2 1 0 (regs.set i.A.toNat i.N).length)] [2,5,7,8] [(1,0),(0,0),(0,1),(2,0),(3,0)] hI)) (fun h=>rg<|j4 1 h (fun h=>rg<|A4 h fun y4 hy4 h=>A9 hy4<|G7 eI 7 hy4<|A4 h fun y5 hy5 h=>A9 hy5<|G7 eI 12 hy5<|A9 hy4<|N8 3 1 eI 15 [] (m7 (y4+y5)) hy4<|(o6 h hc1 fun hI=>om ((.own 0 2 1 0 regs.length:V)=.own 0 2 1 0 (regs.set i.A.toNat (m7 (y4+y5))).length) (by simp)<|sk [.is (.tmp 2) (.own 0 2 1 0 (regs.set i.A.toNat (m7 (y4+y5))).length)] [2,5,7,8] [(1,0),(0,0),(0,1),(2,0),(3,0)] hI)) (fun h=>rg<|j4 1 h (fun h=>rg<|A4 h fun y6 hy6 h=>A9 hy6<|G7 eI 7 hy6<|A4 h fun y7 hy7 h=>A9 hy7<|G7 eI 12 hy7<|A9 hy6<|N8 3 1 eI 15 [] (m7 (y6-y7)) hy6<|(o6 h hc1 fun hI=>om ((.own 0 2 1 0 regs.length:V)=.own 0 2 1 0 (regs.set i.A.toNat (m7 (y6-y7))).length) (by simp)<|sk [.is (.tmp 2) (.own 0 2 1 0 (regs.set i.A.toNat (m7 (y6-y7))).length)] [2,5,7,8] [(1,0),(0,0),(0,1),(2,0),(3,0)] hI)) (fun h=>rg<|j4 1 h (fun h=>rg<|(o6 h hc1 fun hI=>sk [] [2,5,7,8] [(1,0),(0,0),(0,1),(2,0),(3,0)] hI)) (fun h=>(o6 h hc1 fun hI=>sk [] [2,5,7,8] [(1,0),(0,0),(0,1),(2,0),(3,0)] hI)))))))
def a4w:FS (m9):=⟨154,Tryz.f154,[.val M7 om5],[none,none],[.val [some 2] [],.val [some 4] []],fun r=>.agg (a5o r),fun _=>[none,none],Tryz.func154⟩
def c0R:((List p7)×(List n8)×(List Int)×Int×Int)->KS:=fun (Reads1,Puts1,regs1,rVal1,rCode1)=>⟨a4w.k 6 [false,false],(bs 4 (.ptr 1 0 0::(.ptr 2 0 0::(.own 5 0 1 0 regs1.length::(bs 61 []))))),[some [],some [.var 49 [.nil,.nil,vi 0,vi 0]],some [.var 49 [.own 3 0 2 0 Reads1.length,.own 4 0 2 0 Puts1.length,vi rVal1,vi rCode1]],some [l9 155 2 t8 Reads1],some [l9 158 2 t9 Puts1],some [l9 3 1 eI regs1]]⟩
def a5S(Reads1:List p7)(Puts1:List n8)(regs1:List Int)(rVal1:Int)(rCode1:Int):Option m9 :=
 (bif (rCode1 != 0) then some (m9.mk Reads1 [] rVal1 rCode1) else ((idx regs1 0).bind fun y=>some (m9.mk Reads1 Puts1 y rCode1)))
theorem e73(r):NF a4w r c0R (fun s=>a5S s.1 s.2.1 s.2.2.1 s.2.2.2.1 s.2.2.2.2):=fun (Reads1,Puts1,regs1,rVal1,rCode1) h=>PK<|rg<|j4 2 h (fun h=>n5<|s4 Reads1<|fE h) (fun h=>rg<|A4 h fun y hy h=>A9 hy<|G7 eI 2 hy<|rg<|B8 Reads1 Puts1<|fE h)
def c4q(list:List q8)(prog:List o8):((List Int)×(List p7)×(List n8)×Int×Int×Int)->KS:=fun (regs,b5,b7,k,rVal,rCode)=>⟨a4w.k 5 [false],(j9 2 x8 list::(j9 4 z0 prog::(bs 2 (.ptr 1 0 0::(.ptr 2 0 0::(.own 3 0 1 0 regs.length::(vi k::(bs 60 [])))))))),[some [],some [.var 49 [.nil,.nil,vi 0,vi 0]],some [.var 49 [.own 4 0 2 0 b5.length,.own 5 0 2 0 b7.length,vi rVal,vi rCode]],some [l9 3 1 eI regs],some [l9 155 2 t8 b5],some [l9 158 2 t9 b7]]⟩
def d4B(list:List q8)(prog:List o8)(regs:List Int)(b5:List p7)(b7:List n8)(rVal:Int)(rCode:Int):Int->KS:=fun k1=>⟨a4w.k 10 [false,true,true,true],(j9 2 x8 list::(j9 4 z0 prog::(bs 2 (.ptr 1 0 0::(.ptr 2 0 0::(.own 5 0 1 0 regs.length::(vi k1::(bs 60 [])))))))),[some [],some [.var 49 [.nil,.nil,vi 0,vi 0]],some [.var 49 [.own 3 0 2 0 b5.length,.own 4 0 2 0 b7.length,vi rVal,vi rCode]],some [l9 155 2 t8 b5],some [l9 158 2 t9 b7],some [l9 3 1 eI regs]]⟩
def b5J(regs:List Int)(b5:List p7)(b7:List n8)(rVal:Int)(rCode:Int)(k1:Int):Option (l7 m9 ((List Int)×(List p7)×(List n8)×Int×Int×Int) ((List p7)×(List n8)×(List Int)×Int×Int)) :=
 some (l7.nxt (regs,b5,b7,m7 (k1+1),rVal,rCode))
theorem d5o(list prog regs b5 b7 rVal rCode)(lc:H8 a4w c0R (c4q list prog)):NL lc (d4B list prog regs b5 b7 rVal rCode) (fun s=>b5J regs b5 b7 rVal rCode s):=fun k1 h=>PK<|rg<|(lc.nx h fun hI=>sk [] [0,1,4,5,6,7] [(1,0),(2,0),(5,0),(3,0),(4,0)] hI)
def Z4(list:List q8)(prog:List o8)(regs:List Int)(b5:List p7)(b7:List n8)(k:Int)(rVal:Int)(rCode:Int):Option (l7 m9 ((List Int)×(List p7)×(List n8)×Int×Int×Int) ((List p7)×(List n8)×(List Int)×Int×Int)) :=
 (bif decide (k<(prog.length:Int)) then (bif (rCode==0) then ((idx prog k).bind fun ins=>(bif (ins.a7==6) then ((((idx regs ins.A).bind fun y1=>((idx regs ins.B).bind fun y2=>(bif decide (y1<y2) then some (l8.brk (m7 (k+ins.N))) else some (l8.brk k)))):Option (l8 (l7 m9 ((List Int)×(List p7)×(List n8)×Int×Int×Int) ((List p7)×(List n8)×(List Int)×Int×Int)) Int)).bind fun x=>x.go some fun j=>b5J regs b5 b7 rVal rCode j) else ((a4I list (m9.mk b5 b7 rVal rCode) regs ins).bind fun a33=>(s7 (regs.length=a33.2.length) (some (l7.nxt (a33.2,a33.1.b5,a33.1.b7,m7 (k+1),a33.1.f0,a33.1.Code))))))) else some (l7.brk (b5,b7,regs,rVal,rCode))) else some (l7.brk (b5,b7,regs,rVal,rCode)))
theorem e1Z(list prog):LQ a4w c0R (c4q list prog) (fun s=>Z4 list prog s.1 s.2.1 s.2.2.1 s.2.2.2.1 s.2.2.2.2.1 s.2.2.2.2.2):=fun lc (regs,b5,b7,k,rVal,rCode) h=>PK<|rg<|j4 4 h (fun h=>j4 8 h (fun h=>rg<|v5 z0 2 h fun ins hins h=>rg<|j4 2 h (fun h=>B0 h (d5o list prog regs b5 b7 rVal rCode lc) fun x2 h hc2=>rg<|A4 h fun y1 hy1 h=>A9 hy1<|G7 eI 4 hy1<|A4 h fun y2 hy2 h=>A9 hy2<|G7 eI 9 hy2<|j4 10 h (fun h=>rg<|(o6 h hc2 fun hI=>sk [] [0,1,4,5,6,7] [(1,0),(2,0),(4,0),(5,0),(3,0)] hI)) (fun h=>(o6 h hc2 fun hI=>sk [] [0,1,4,5,6,7] [(1,0),(2,0),(4,0),(5,0),(3,0)] hI))) (fun h=>rg<|j8 a9I d7L 4 h fun a33 h=>s9 h fun e2 h=>U5 b5 b7 regs<|rg<|(lc.nx h fun hI=>om ((.own 3 0 1 0 regs.length:V)=.own 3 0 1 0 a33.2.length) (by first|(simp;done)|(simp [e2];done))<|sk [.is (.tmp 6) (.own 3 0 1 0 a33.2.length)] [0,1,4,5,6,7] [(1,0),(2,0),(3,0),(28,0),(28,1)] hI))) (fun h=>(lc.bk h fun hI=>sk [] [4,5,6] [(1,0),(2,0),(4,0),(5,0),(3,0)] hI))) (fun h=>(lc.bk h fun hI=>sk [] [4,5,6] [(1,0),(2,0),(4,0),(5,0),(3,0)] hI))
def a8s(list:List q8)(prog:List o8):Option m9 :=
 ((a9S list).bind fun V3=>(bif (!V3) then some (m9.mk [] [] 0 3) else ((a75 prog).bind fun C7=>(bif (!C7) then some (m9.mk [] [] 0 3) else (s7 (0<=(4:Int)/\(4:Int)*8<=140737488355328) (((o9 (fun s:(List Int)×(List p7)×(List n8)×Int×Int×Int=>Z4 list prog s.1 s.2.1 s.2.2.1 s.2.2.2.1 s.2.2.2.2.1 s.2.2.2.2.2) (e8E (4:Int).toNat (0:Int),[],[],0,0,0)).bind fun x=>x.go (fun r=>some r) fun s=>a5S s.1 s.2.1 s.2.2.1 s.2.2.2.1 s.2.2.2.2)))))))
theorem e4q{list prog}:OK a4w [j9 2 x8 list,j9 4 z0 prog] (a8s list prog) :=
 n7 _ fun r h=>n5<|j8 a59 c55 1 h fun V3 h=>j4 3 h (fun h=>rg<|fE h) (fun h=>j8 a4e c2b 5 h fun C7 h=>j4 7 h (fun h=>rg<|fE h) (fun h=>n5<|s9 h fun e1 h=>S6 0 13 3 1 8 eI (0:Int) ti3 (.none) e1 (by decide) (by rfl)<|rg<|lp (e1Z list prog) h (fun _ h=>a4w.rt h) (e73 r) fun hI=>sk [.own (.cell 11 0 0) 155 2,.own (.cell 11 0 1) 158 2] [0,1,4,5,6,7] [(1,0),(11,0),(13,0),(16,0),(17,0)] hI))
def c4f:FS (j5×(List j7)×List m8):=⟨103,Tryz.f103,[.val A0 E7,.val [some 13] [],.val [some 5] []],[none,none],[.val A0 E7,.val [some 4] []],fun r=>.tup [.agg (F5 r.1),j9 13 p9 r.2.1,j9 5 u9 r.2.2],fun _=>[none,none],Tryz.func103⟩
def b4F(n:j5)(prog:List o8):Option (j5×(List j7)×List m8) :=
 ((a4a n).bind fun C5=>(bif (!C5) then some ((j5.mk 0 (v6.mk 0 []) [] 0 0 0 [] [] (m4.mk false (p8.mk 0 0) (m9.mk [] [] 0 0)) [] false [] (m4.mk false (p8.mk 0 0) (m9.mk [] [] 0 0)) []),([]:List j7),([]:List m8)) else ((a5q n).bind fun l8Copy=>((b5q n).bind fun b2J=>((a8s b2J.g8 prog).bind fun E5=>(bif n.i7 then some (l8Copy,([]:List j7),([]:List m8)) else (bif (n.Seq==1000) then some (l8Copy,([]:List j7),([]:List m8)) else (bif (E5.Code==3) then some (l8Copy,([]:List j7),([]:List m8)) else (s7 ((([]:List o8).length+prog.length)*32<=140737488355328) ((bif (l8Copy.d9==2) then ((a4P (j5.mk l8Copy.Id l8Copy.Acc l8Copy.a6 (m7 (l8Copy.Seq+1)) l8Copy.d9 l8Copy.a8 l8Copy.d7 l8Copy.g9 l8Copy.c8 l8Copy.a5 true (([]:List o8)++prog) (m4.mk false (p8.mk l8Copy.Id (m7 (l8Copy.Seq+1))) E5) l8Copy.d8)).bind fun L4=>some (L4.1,L4.2,([]:List m8))) else (bif (l8Copy.d9==0) then ((a2x l8Copy.Id (j7.mk 7 0 0 0 0 (m4.mk false (p8.mk l8Copy.Id (m7 (l8Copy.Seq+1))) E5) [])).bind fun H0=>some ((j5.mk l8Copy.Id l8Copy.Acc l8Copy.a6 (m7 (l8Copy.Seq+1)) l8Copy.d9 l8Copy.a8 l8Copy.d7 l8Copy.g9 l8Copy.c8 l8Copy.a5 true (([]:List o8)++prog) (m4.mk false (p8.mk l8Copy.Id (m7 (l8Copy.Seq+1))) E5) l8Copy.d8),H0,([]:List m8))) else some ((j5.mk l8Copy.Id l8Copy.Acc l8Copy.a6 (m7 (l8Copy.Seq+1)) l8Copy.d9 l8Copy.a8 l8Copy.d7 l8Copy.g9 l8Copy.c8 l8Copy.a5 true (([]:List o8)++prog) (m4.mk false (p8.mk l8Copy.Id (m7 (l8Copy.Seq+1))) E5) l8Copy.d8),([]:List j7),([]:List m8))))))))))))))
set_option maxRecDepth 20000 in
theorem d84{n prog}:OK c4f [.agg (F5 n),j9 4 z0 prog] (b4F n prog) :=
 n7 _ fun r h=>n5<|R0 a1I a9C 1 1 h fun C5 h=>z3 n<|j4 2 h (fun h=>rg<|tk 1 B2<|tk 2 []<|B3 j7<|B3 m8<|fE h) (fun h=>rg<|j8 a8z b18 1 h fun l8Copy h=>z3 n<|rg<|j8 c6i d4m 1 h fun b2J h=>z3 n<|j8 a4w e4q 4 h fun E5 h=>rg<|j4 2 h (fun h=>rg<|tk 1 B2<|tk 2 []<|z3 l8Copy<|B3 j7<|B3 m8<|fE h) (fun h=>j4 7 h (fun h=>rg<|tk 1 B2<|tk 2 []<|z3 l8Copy<|B3 j7<|B3 m8<|fE h) (fun h=>j4 11 h (fun h=>rg<|tk 1 B2<|tk 2 []<|z3 l8Copy<|B3 j7<|B3 m8<|fE h) (fun h=>M3<|tk 0 []<|s9 h fun e1 h=>oa 40 0 4 ([]:List o8) prog<|oz 74 4 z0 ([]:List o8) prog<|B3 o8<|ob e1<|tl (2,{v:=some (.own 40 0 4 0 (([]:List o8)++prog).length),e:=some (l9 74 4 z0 (([]:List o8)++prog))})<|n5<|j4 2 h (fun h=>rg<|j8 a8h a9V 1 h fun L4 h=>s4 l8Copy.Acc.a5<|E9 l8Copy.a6 l8Copy.d7 l8Copy.a5 (([]:List o8)++prog)<|olR E5<|s4 l8Copy.d8<|rg<|tk 2 []<|z3 L4.1<|B3 m8<|fE h) (fun h=>rg<|j4 2 h (fun h=>rg<|j8 X4 a4G 6 h fun H0 h=>olR E5<|tk 7 []<|s4 l8Copy.Acc.a5<|E9 l8Copy.a6 l8Copy.d7 l8Copy.a5 (([]:List o8)++prog)<|olR E5<|B8 l8Copy.d8 H0<|B3 m8<|fE h) (fun h=>rg<|tk 1 B2<|tk 2 []<|s4 l8Copy.Acc.a5<|E9 l8Copy.a6 l8Copy.d7 l8Copy.a5 (([]:List o8)++prog)<|olR E5<|s4 l8Copy.d8<|B3 j7<|B3 m8<|fE h))))))
def d1c:FS (m5):=⟨58,Tryz.f58,[.val E2 Q2],[none,none,none],[.val E2 Q2,.val [] [],.val [some 4] []],fun r=>.agg (P9 r),fun _=>[none,none,none],Tryz.func58⟩
def a0X(node:j5):List V:=([vi node.Id,vi node.Acc.i4,.own 11 0 8 0 node.Acc.a5.length,.own 11 1 7 0 node.a6.length,vi node.Seq,vi node.d9,vi node.a8,.own 11 2 1 0 node.d7.length]++a57 node++[.own 11 3 1 0 node.a5.length]++a28 node++[.own 11 4 7 0 node.d8.length])
def b7n(G6:j5×(List j7)×List m8):List V:=(a5v G6.1)
def b3A(w:m5)(i:Int)(prog:List o8):Option m5 :=
 (bif decide ((w.c9.length:Int)>=60) then some w else ((idx w.a9 i).bind fun node=>((b4F node prog).bind fun G6=>(bif decide (G6.1.Seq>node.Seq) then (s7 ((([]:List o8).length+prog.length)*32<=140737488355328) ((s7 ((w.c9.length+1)*40<=140737488355328) (((a2j (m5.mk (w.a9.set i.toNat G6.1) w.b9 (w.c9++[(u5.mk G6.1.b6.a0 (([]:List o8)++prog))]) w.Told) G6.2.1).bind fun a14=>((a3p a14 G6.2.2).bind fun a2p=>some a2p)))))) else ((a2j (m5.mk (w.a9.set i.toNat G6.1) w.b9 w.c9 w.Told) G6.2.1).bind fun a2o=>((a3p a2o G6.2.2).bind fun a7X=>some a7X))))))
set_option maxRecDepth 20000 in
theorem e32{w i prog}:OK d1c [.agg (P9 w),vi i,j9 4 z0 prog] (b3A w i prog) :=
 n7 _ fun r h=>n5<|j4 3 h (fun h=>rg<|A2 w<|fE h) (fun h=>rg<|A4 h fun node hnode h=>A9 hnode<|ob (b0r (enc:=w9) hnode)<|tl (4,{a:=.drow (w9 node)})<|j8 c4f d84 6 h fun G6 h=>z3 node<|rg<|A9 hnode<|om (((w.a9.map w9).set (0+i.toNat) (a0X node))[0+i.toNat]?=some (a0X node)) (a08 (a0V hnode))<|tl (7,{a:=.prow (a0X node)})<|j4 8 h (fun h=>rg<|tk 5 []<|s9 h fun e1 h=>oa 38 0 4 ([]:List o8) prog<|oz 74 4 z0 ([]:List o8) prog<|B3 o8<|ob e1<|tl (7,{v:=some (.own 38 0 4 0 (([]:List o8)++prog).length),e:=some (l9 74 4 z0 (([]:List o8)++prog))})<|s4 (([]:List o8)++prog)<|tk 9 [none,none,some 4]<|s9 h fun e2 h=>E8 10 41 70 3 40 z8 w.c9 (u5.mk G6.1.b6.a0 (([]:List o8)++prog)) e2<|D8 (u5.mk G6.1.b6.a0 (([]:List o8)++prog))<|rg<|A9 hnode<|om (r9.deep false 53 27 w.a9.length (((w.a9.map w9).set (0+i.toNat) (a0X node)).set (0+i.toNat) (b7n G6))=B5 53 27 w9 (w.a9.set i.toNat G6.1)) (a6X (T3 (Z5 rfl)) (by simp))<|om (G1 (((w.a9.map w9).set (0+i.toNat) (a0X node)).set (0+i.toNat) (b7n G6))) (a7G (T3 (Z5 rfl)) a44)<|om (((w.a9.map w9).set (0+i.toNat) (a0X node))[0+i.toNat]?=some (a0X node)) (a08 (a0V hnode))<|z3 G6.1<|tl (5,{a:=.dsc (a0X node) [none,none,some 8,some 7,none,none,none,some 1,some 8,none,none,none,some 2,some 2,none,none,some 1,none,some 4,none,none,none,some 2,some 2,none,none,some 7] [none,none,some 126,some 51,none,none,none,some 4,none,none,none,none,none,none,none,none,some 4,none,none,none,none,none,none,none,none,none,some 51],e:=some (B5 53 27 w9 (w.a9.set i.toNat G6.1))})<|rg<|j8 a0E a4Q 2 h fun a14 h=>om (w.a9.length=(w.a9.set i.toNat G6.1).length) (by simp)<|U5 w.b9 (w.c9++[(u5.mk G6.1.b6.a0 (([]:List o8)++prog))]) w.Told<|j8 a0P a7L 4 h fun a2p h=>A2 a14<|A2 a2p<|fE h) (fun h=>rg<|A9 hnode<|om (r9.deep false 53 27 w.a9.length (((w.a9.map w9).set (0+i.toNat) (a0X node)).set (0+i.toNat) (b7n G6))=B5 53 27 w9 (w.a9.set i.toNat G6.1)) (a6X (T3 (Z5 rfl)) (by simp))<|om (G1 (((w.a9.map w9).set (0+i.toNat) (a0X node)).set (0+i.toNat) (b7n G6))) (a7G (T3 (Z5 rfl)) a44)<|om (((w.a9.map w9).set (0+i.toNat) (a0X node))[0+i.toNat]?=some (a0X node)) (a08 (a0V hnode))<|z3 G6.1<|tl (5,{a:=.dsc (a0X node) [none,none,some 8,some 7,none,none,none,some 1,some 8,none,none,none,some 2,some 2,none,none,some 1,none,some 4,none,none,none,some 2,some 2,none,none,some 7] [none,none,some 126,some 51,none,none,none,some 4,none,none,none,none,none,none,none,none,some 4,none,none,none,none,none,none,none,none,none,some 51],e:=some (B5 53 27 w9 (w.a9.set i.toNat G6.1))})<|rg<|j8 a0E a4Q 2 h fun a2o h=>om (w.a9.length=(w.a9.set i.toNat G6.1).length) (by simp)<|U5 w.b9 w.c9 w.Told<|j8 a0P a7L 4 h fun a7X h=>A2 a2o<|A2 a7X<|fE h))
def a6T:FS (Int):=⟨104,Tryz.f104,[.val [] []],[none,none],[.val [] [],.val [] []],fun r=>vi r,fun _=>[none,none],Tryz.func104⟩
def c82:Unit->KS:=fun _=>⟨a6T.k 4 [false,false],(bs 37 []),[some []]⟩
def c5o:Option Int :=
 some (-1)
theorem e4H(r):NF a6T r c82 (fun s=>c5o):=fun _ h=>PK<|rg<|fE h
def d7v(bal:Int)(who:Int):Int->KS:=fun b=>⟨a6T.k 3 [false],(vi bal::(vi who::(bs 3 (vi b::(bs 31 []))))),[some []]⟩
def a3r(bal:Int)(who:Int)(b:Int):Option (l7 Int Int Unit) :=
 (bif decide (b<=(m7 (bal+3))) then (bif decide (b<=3000) then (bif ((e81 b 3)==who) then some (l7.ret b) else some (l7.nxt (m7 (b+1)))) else some (l7.brk ())) else some (l7.brk ()))
theorem e2h(bal who):LQ a6T c82 (d7v bal who) (fun s=>a3r bal who s):=fun lc b h=>PK<|rg<|j4 4 h (fun h=>j4 7 h (fun h=>rg<|om (3≠(0:Int)) (by decide)<|j4 3 h (fun h=>rg<|fL lc h) (fun h=>rg<|(lc.nx h fun hI=>sk [] [0,1,5] [] hI))) (fun h=>(lc.bk h fun hI=>sk [] [] [] hI))) (fun h=>(lc.bk h fun hI=>sk [] [] [] hI))
def b7P(bal:Int)(who:Int):Option Int :=
 (bif decide (bal<0) then some (-1) else (bif decide (bal>3000) then some (-1) else (bif decide (who<0) then some (-1) else (bif decide (who>=3) then some (-1) else ((o9 (fun s:Int=>a3r bal who s) (m7 (bal+1))).bind fun x=>x.go (fun r=>some r) fun s=>c5o)))))
theorem e0t{bal who}:OK a6T [vi bal,vi who] (b7P bal who) :=
 n7 _ fun r h=>n5<|j4 2 h (fun h=>rg<|fE h) (fun h=>j4 6 h (fun h=>rg<|fE h) (fun h=>j4 10 h (fun h=>rg<|fE h) (fun h=>j4 13 h (fun h=>rg<|fE h) (fun h=>rg<|lp (e2h bal who) h (fun _ h=>a6T.rt h) (e4H r) fun hI=>sk [] [0,1,5] [] hI))))
def a6C:FS ((List m6)×List m6):=⟨99,Tryz.f99,[.val [some 8] [some 126]],[some (0,.row)],[.row],fun r=>t7 126 8 o7 r.1,fun r=>[some (t7 126 8 o7 r.2)],Tryz.func99⟩
def c8T(list:List m6):(List m6)->KS:=fun out1=>⟨a6C.k 4 [false],(bs 3 (.own 1 0 8 0 out1.length::(bs 24 []))),[some [l9 126 8 o7 list],some [l9 126 8 o7 out1]]⟩
def c7m(list:List m6)(out1:List m6):Option ((List m6)×List m6) :=
 some (out1,list)
theorem d3D(list)(r):NF a6C r (c8T list) (fun s=>c7m list s):=fun out1 h=>PK<|rg<|B8 out1 list<|fE h
def e77(list:List m6):((List m6)×Int)->KS:=fun (out,i)=>⟨a6C.k 3 [],(.own 0 0 8 0 list.length::(bs 2 (.own 1 0 8 0 out.length::(vi i::(bs 23 []))))),[some [l9 126 8 o7 list],some [l9 126 8 o7 out]]⟩
def b2x(list:List m6)(out:List m6)(i:Int):Option (l7 ((List m6)×List m6) ((List m6)×Int) (List m6)) :=
 (bif decide (i<(list.length:Int)) then ((idx list i).bind fun vote=>((U7 vote.i0).bind fun l5Entry=>(s7 ((out.length+1)*96<=140737488355328) (some (l7.nxt (out++[(m6.mk vote.a8 l5Entry)],m7 (i+1))))))) else some (l7.brk out))
theorem e7D(list):LQ a6C (c8T list) (e77 list) (fun s=>b2x list s.1 s.2):=fun lc (out,i) h=>PK<|rg<|j4 3 h (fun h=>rg<|A4 h fun vote L7 h=>A9 L7<|G7 o7 5 L7<|A9 L7<|G7 o7 10 L7<|j8 X2 Z7 11 h fun l5Entry h=>tk 13 S7<|s9 h fun e1 h=>E8 14 20 126 8 96 o7 out (m6.mk vote.a8 l5Entry) e1<|D8 (m6.mk vote.a8 l5Entry)<|rg<|(lc.nx h fun hI=>sk [] [0,3,4] [(20,0)] hI)) (fun h=>(lc.bk h fun hI=>sk [] [3] [(1,0)] hI))
def b43(list:List m6):Option ((List m6)×List m6) :=
 ((o9 (fun s:(List m6)×Int=>b2x list s.1 s.2) (([]:List m6),0)).bind fun x=>x.go (fun r=>some r) fun s=>c7m list s)
theorem d8F{list}:OK a6C [t7 126 8 o7 list] (b43 list) :=
 n7 _ fun r h=>n5<|tk 0 S7<|rg<|lp (e7D list) h (fun _ h=>a6C.rt h) (d3D list r) fun hI=>om ((.own 2 0 8 0 0:V)=.own 2 0 8 0 ([]:List m6).length) (by simp)<|sk [.is (.tmp 3) (.own 2 0 8 0 ([]:List m6).length)] [0,3,4] [(2,0)] hI
def d05:FS (j5×List j7):=⟨59,Tryz.f59,[.val A0 E7,.val [some 13] []],[none],[.val A0 E7],fun r=>.tup [.agg (F5 r.1),j9 13 p9 r.2],fun _=>[none],Tryz.func59⟩
def b5o(n:j5):Option (j5×List j7) :=
 ((a4a n).bind fun C5=>(bif (!C5) then some ((j5.mk 0 (v6.mk 0 []) [] 0 0 0 [] [] (m4.mk false (p8.mk 0 0) (m9.mk [] [] 0 0)) [] false [] (m4.mk false (p8.mk 0 0) (m9.mk [] [] 0 0)) []),([]:List j7)) else ((a5q n).bind fun l8Copy=>((b7P l8Copy.Acc.i4 l8Copy.Id).bind fun a10=>(bif decide (a10<0) then some (l8Copy,([]:List j7)) else ((b03 l8Copy).bind fun K7=>((a7D K7.Acc a10).bind fun l6Promise=>(s7 (0<=(3:Int)/\(3:Int)*1<=140737488355328) (((idx (e8E (3:Int).toNat false) K7.Id).bind fun y=>((b43 l6Promise.1.a5).bind fun o=>(s7 (l6Promise.1.a5.length=o.2.length) (((a2x K7.Id (j7.mk 1 0 0 a10 (K7.a6.length:Int) (m4.mk false (p8.mk 0 0) (m9.mk [] [] 0 0)) [])).bind fun H0=>some ((j5.mk K7.Id (v6.mk l6Promise.1.i4 o.2) K7.a6 K7.Seq 1 a10 ((e8E (3:Int).toNat false).set K7.Id.toNat true) o.1 K7.c8 K7.a5 K7.i7 K7.i5 K7.b6 K7.d8),H0)))))))))))))))
theorem d9L{n}:OK d05 [.agg (F5 n)] (b5o n) :=
 n7 _ fun r h=>n5<|R0 a1I a9C 1 1 h fun C5 h=>z3 n<|j4 2 h (fun h=>rg<|tk 1 B2<|B3 j7<|fE h) (fun h=>rg<|j8 a8z b18 1 h fun l8Copy h=>z3 n<|rg<|j8 a6T e0t 5 h fun a10 h=>rg<|j4 1 h (fun h=>rg<|tk 1 B2<|z3 l8Copy<|B3 j7<|fE h) (fun h=>rg<|j8 b3t c05 1 h fun K7 h=>z3 l8Copy<|rg<|j8 b2h b50 3 h fun l6Promise h=>s4 K7.Acc.a5<|M3<|s9 h fun e1 h=>S6 0 37 4 1 1 eB false ti4 (.none) e1 (by decide) (by rfl)<|rg<|A4 h fun y hy h=>A9 hy<|N8 4 1 eB 5 [] true hy<|rg<|j8 a6C d8F 3 h fun o h=>s9 h fun e2 h=>s4 l6Promise.1.a5<|rg<|j8 X4 a4G 8 h fun H0 h=>om (l6Promise.1.a5.length=o.2.length) (by first|(simp;done)|(simp [e2];done))<|s4 K7.a6<|om ((e8E (3:Int).toNat false).length=((e8E (3:Int).toNat false).set K7.Id.toNat true).length) (by first|(simp;done)|(simp [e2];done))<|E9 o.1 K7.a5 K7.d8 H0<|fE h))
def b6g:FS (j5×(List j7)×List m8):=⟨60,Tryz.f60,[.val A0 E7,.val [some 13] [],.val [some 5] []],[none],[.val A0 E7],fun r=>.tup [.agg (F5 r.1),j9 13 p9 r.2.1,j9 5 u9 r.2.2],fun _=>[none],Tryz.func60⟩
def e4B(n:j5)(l8Copy:j5):(List j7)->KS:=fun out=>⟨b6g.k 7 [false,true],(bs 2 (.ptr 1 0 0::(bs 2 (.ptr 2 0 0::(.own 8 0 13 0 out.length::(bs 72 [])))))),[some [b1P 8 o7 n.Acc.a5,b1P 7 s8 n.a6,b1P 1 eB n.d7,b1P 1 eB n.a5,b1P 7 s8 n.d8],some [.var 53 [vi 0,vi 0,.nil,.nil,vi 0,vi 0,vi 0,.nil,.nil,.b false,vi 0,vi 0,.nil,.nil,vi 0,vi 0,.nil,.b false,.nil,.b false,vi 0,vi 0,.nil,.nil,vi 0,vi 0,.nil]],some [.var 53 (e09 l8Copy)]]++e5y l8Copy++[some [l9 68 13 p9 out]]⟩
def c7N(l8Copy:j5)(out:List j7):Option (j5×(List j7)×List m8) :=
 some (l8Copy,out,([]:List m8))
theorem e8i(n l8Copy)(r):NF b6g r (e4B n l8Copy) (fun s=>c7N l8Copy s):=fun out h=>PK<|rg<|tk 2 []<|z3 l8Copy<|s4 out<|B3 m8<|fE h
def b4Y(n:j5):Option (j5×(List j7)×List m8) :=
 ((a4a n).bind fun C5=>(bif (!C5) then some ((j5.mk 0 (v6.mk 0 []) [] 0 0 0 [] [] (m4.mk false (p8.mk 0 0) (m9.mk [] [] 0 0)) [] false [] (m4.mk false (p8.mk 0 0) (m9.mk [] [] 0 0)) []),([]:List j7),([]:List m8)) else ((a5q n).bind fun l8Copy=>((a2x l8Copy.Id (j7.mk 8 0 0 0 (l8Copy.a6.length:Int) (m4.mk false (p8.mk 0 0) (m9.mk [] [] 0 0)) [])).bind fun H0=>(((bif (l8Copy.d9==1) then ((a2x l8Copy.Id (j7.mk 1 0 0 l8Copy.a8 (l8Copy.a6.length:Int) (m4.mk false (p8.mk 0 0) (m9.mk [] [] 0 0)) [])).bind fun b1w=>(s7 ((H0.length+b1w.length)*152<=140737488355328) (some (l8.brk (H0++b1w))))) else (bif (l8Copy.d9==2) then ((a4P l8Copy).bind fun L4=>(s7 ((H0.length+L4.2.length)*152<=140737488355328) (some (l8.ret (L4.1,H0++L4.2,([]:List m8)))))) else (bif (l8Copy.d9==3) then ((a2x l8Copy.Id (j7.mk 3 0 0 l8Copy.a8 (l8Copy.a6.length:Int) l8Copy.c8 [])).bind fun a97=>(s7 ((H0.length+a97.length)*152<=140737488355328) (some (l8.brk (H0++a97))))) else (bif l8Copy.i7 then ((a2x l8Copy.Id (j7.mk 7 0 0 0 0 l8Copy.b6 [])).bind fun b2P=>(s7 ((H0.length+b2P.length)*152<=140737488355328) (some (l8.brk (H0++b2P))))) else some (l8.brk H0))))):Option (l8 (j5×(List j7)×List m8) (List j7))).bind fun x=>x.go some fun j=>c7N l8Copy j)))))
theorem e0v{n}:OK b6g [.agg (F5 n)] (b4Y n) :=
 n7 _ fun r h=>n5<|R0 a1I a9C 1 1 h fun C5 h=>z3 n<|j4 2 h (fun h=>rg<|tk 1 B2<|tk 2 []<|B3 j7<|B3 m8<|fE h) (fun h=>rg<|j8 a8z b18 1 h fun l8Copy h=>z3 n<|rg<|j8 X4 a4G 6 h fun H0 h=>rg<|B0 h (e8i n l8Copy r) fun x1 h hc1=>rg<|j4 1 h (fun h=>rg<|j8 X4 a4G 9 h fun b1w h=>s9 h fun e1 h=>apL 10 34 68 13 152 p9 H0 b1w e1<|s4 b1w<|(o6 h hc1 fun hI=>sk [] [2,5,6] [(2,0),(10,0),(9,0),(9,1),(9,2),(9,3),(9,4),(34,0)] hI)) (fun h=>rg<|j4 1 h (fun h=>rg<|j8 a8h a9V 1 h fun L4 h=>z3 l8Copy<|rg<|s9 h fun e2 h=>apL 3 37 68 13 152 p9 H0 L4.2 e2<|tk 4 []<|(B4 h hc1 fun h=>z3 L4.1<|s4 (H0++L4.2)<|B3 m8<|fE h)) (fun h=>rg<|j4 1 h (fun h=>rg<|j8 X4 a4G 11 h fun a97 h=>s9 h fun e3 h=>apL 12 40 68 13 152 p9 H0 a97 e3<|s4 a97<|(o6 h hc1 fun hI=>sk [] [2,5,6] [(2,0),(10,0),(9,0),(9,1),(9,2),(9,3),(9,4),(40,0)] hI)) (fun h=>rg<|j4 1 h (fun h=>rg<|j8 X4 a4G 6 h fun b2P h=>s9 h fun e4 h=>apL 7 37 68 13 152 p9 H0 b2P e4<|s4 b2P<|(o6 h hc1 fun hI=>sk [] [2,5,6] [(2,0),(10,0),(9,0),(9,1),(9,2),(9,3),(9,4),(37,0)] hI)) (fun h=>(o6 h hc1 fun hI=>sk [] [2,5,6] [(2,0),(10,0),(9,0),(9,1),(9,2),(9,3),(9,4),(18,0)] hI))))))
def c3v:FS (j5):=⟨61,Tryz.f61,[.val A0 E7],[none],[.val A0 E7],fun r=>.agg (F5 r),fun _=>[none],Tryz.func61⟩
def b4M(n:j5):Option j5 :=
 ((a4a n).bind fun C5=>(bif (!C5) then some (j5.mk 0 (v6.mk 0 []) [] 0 0 0 [] [] (m4.mk false (p8.mk 0 0) (m9.mk [] [] 0 0)) [] false [] (m4.mk false (p8.mk 0 0) (m9.mk [] [] 0 0)) []) else ((a5q n).bind fun l8Copy=>some (j5.mk l8Copy.Id l8Copy.Acc l8Copy.a6 l8Copy.Seq 0 0 [] [] (m4.mk false (p8.mk 0 0) (m9.mk [] [] 0 0)) [] false [] (m4.mk false (p8.mk 0 0) (m9.mk [] [] 0 0)) []))))
theorem d80{n}:OK c3v [.agg (F5 n)] (b4M n) :=
 n7 _ fun r h=>n5<|R0 a1I a9C 1 1 h fun C5 h=>z3 n<|j4 2 h (fun h=>rg<|fE h) (fun h=>rg<|j8 a8z b18 1 h fun l8Copy h=>z3 n<|rg<|B8 l8Copy.Acc.a5 l8Copy.a6<|fE h)
def a8A:FS (m5):=⟨23,Tryz.f23,[.val E2 Q2],[none,none],[.val E2 Q2,.val [none,none,some 4] []],fun r=>.agg (P9 r),fun _=>[none,none],Tryz.func23⟩
def e31(w:m5)(e_:p6)(node:j5):Unit->KS:=fun _=>⟨a8A.k 8 [false,false,true],(bs 2 (.ptr 1 0 0::(.ptr 2 0 0::(.ptr 3 0 0::(bs 76 []))))),[some [B5 53 27 w9 (w.a9.set e_.A.toNat node),l9 68 13 p9 w.b9,l9 70 3 z8 w.c9,l9 40 5 u9 w.Told],some [.var 28 [.own 0 0 27 0 (w.a9.set e_.A.toNat node).length,.own 0 1 13 0 w.b9.length,.own 0 2 3 0 w.c9.length,.own 0 3 5 0 w.Told.length]],some [.var 58 [vi e_.a7,vi e_.A,j9 4 z0 e_.i5]],some [.var 28 [.nil,.nil,.nil,.nil]]]⟩
def c2m(w:m5)(e_:p6)(node:j5):Option m5 :=
 ((b3A (m5.mk (w.a9.set e_.A.toNat node) w.b9 w.c9 w.Told) e_.A e_.i5).bind fun b8v=>some b8v)
theorem e8l(w e_ node)(r):NF a8A r (e31 w e_ node) (fun s=>c2m w e_ node):=fun _ h=>PK<|rg<|j8 d1c e32 5 h fun b8v h=>E9 (w.a9.set e_.A.toNat node) w.b9 w.c9 w.Told<|A2 b8v<|fE h
def L1(node:j5):List V:=([vi node.Id,vi node.Acc.i4,.own 30 0 8 0 node.Acc.a5.length,.own 30 1 7 0 node.a6.length,vi node.Seq,vi node.d9,vi node.a8,.own 30 2 1 0 node.d7.length]++a57 node++[.own 30 3 1 0 node.a5.length]++a28 node++[.own 30 4 7 0 node.d8.length])
def a6N(node:j5):List V:=([vi node.Id,vi node.Acc.i4,t7 126 8 o7 node.Acc.a5,.own 30 1 7 0 node.a6.length,vi node.Seq,vi node.d9,vi node.a8,.own 30 2 1 0 node.d7.length]++a57 node++[.own 30 3 1 0 node.a5.length]++a28 node++[.own 30 4 7 0 node.d8.length])
def a8v(node:j5):List V:=([vi node.Id,vi node.Acc.i4,t7 126 8 o7 node.Acc.a5,t7 51 7 s8 node.a6,vi node.Seq,vi node.d9,vi node.a8,.own 30 2 1 0 node.d7.length]++a57 node++[.own 30 3 1 0 node.a5.length]++a28 node++[.own 30 4 7 0 node.d8.length])
def b1y(node:j5):List V:=([vi node.Id,vi node.Acc.i4,t7 126 8 o7 node.Acc.a5,t7 51 7 s8 node.a6,vi node.Seq,vi node.d9,vi node.a8,t7 4 1 eB node.d7,j9 8 o7 node.g9,.b node.c8.i8,vi node.c8.a0.d6,vi node.c8.a0.Seq,j9 2 t8 node.c8.b8.b5,j9 2 t9 node.c8.b8.b7,vi node.c8.b8.f0,vi node.c8.b8.Code,.own 30 3 1 0 node.a5.length]++a28 node++[.own 30 4 7 0 node.d8.length])
def b3b(node:j5):List V:=[vi node.Id,vi node.Acc.i4,t7 126 8 o7 node.Acc.a5,t7 51 7 s8 node.a6,vi node.Seq,vi node.d9,vi node.a8,t7 4 1 eB node.d7,j9 8 o7 node.g9,.b node.c8.i8,vi node.c8.a0.d6,vi node.c8.a0.Seq,j9 2 t8 node.c8.b8.b5,j9 2 t9 node.c8.b8.b7,vi node.c8.b8.f0,vi node.c8.b8.Code,t7 4 1 eB node.a5,.b node.i7,j9 4 z0 node.i5,.b node.b6.i8,vi node.b6.a0.d6,vi node.b6.a0.Seq,j9 2 t8 node.b6.b8.b5,j9 2 t9 node.b6.b8.b7,vi node.b6.b8.f0,vi node.b6.b8.Code,.own 30 4 7 0 node.d8.length]
def b9j(node:j5):List V:=(a5v node)
def c4G(a0d:j5×List j7):List V:=(a5v a0d.1)
def c9k(U8:j5×(List j7)×List m8):List V:=(a5v U8.1)
def c78(a0N:j5):List V:=(a5v a0N)
def a79(w:m5)(e_:p6):Option m5 :=
 (bif (e_.a7==2) then ((a8e w e_).bind fun c0a=>some c0a) else (bif (e_.a7==3) then ((a8e w e_).bind fun c0x=>some c0x) else (bif (e_.a7==4) then ((a8e w e_).bind fun c0h=>some c0h) else (bif decide (e_.A<0) then some w else (bif decide (e_.A>=3) then some w else ((idx w.a9 e_.A).bind fun node=>(bif (e_.a7==1) then c2m w e_ node else (bif (e_.a7==5) then ((b5o node).bind fun a0d=>((a2j (m5.mk (w.a9.set e_.A.toNat a0d.1) w.b9 w.c9 w.Told) a0d.2).bind fun a14=>((a3p a14 ([]:List m8)).bind fun a2p=>some a2p))) else (bif (e_.a7==6) then ((b4Y node).bind fun U8=>((a2j (m5.mk (w.a9.set e_.A.toNat U8.1) w.b9 w.c9 w.Told) U8.2.1).bind fun a2o=>((a3p a2o U8.2.2).bind fun a7X=>some a7X))) else (bif (e_.a7==7) then ((b4M node).bind fun a0N=>((a2j (m5.mk (w.a9.set e_.A.toNat a0N) w.b9 w.c9 w.Told) ([]:List j7)).bind fun b8r=>((a3p b8r ([]:List m8)).bind fun c0o=>some c0o))) else ((a2j (m5.mk (w.a9.set e_.A.toNat node) w.b9 w.c9 w.Told) ([]:List j7)).bind fun b8A=>((a3p b8A ([]:List m8)).bind fun b9w=>some b9w))))))))))))
set_option maxRecDepth 20000 in
theorem b82{w e_}:OK a8A [.agg (P9 w),.agg (F6 e_)] (a79 w e_) :=
 n7 _ fun r h=>n5<|j4 3 h (fun h=>rg<|j8 b4m c2M 2 h fun c0a h=>A2 w<|A2 c0a<|fE h) (fun h=>j4 8 h (fun h=>rg<|j8 b4m c2M 2 h fun c0x h=>A2 w<|A2 c0x<|fE h) (fun h=>j4 12 h (fun h=>rg<|j8 b4m c2M 2 h fun c0h h=>A2 w<|A2 c0h<|fE h) (fun h=>rg<|j4 3 h (fun h=>rg<|A2 w<|fE h) (fun h=>j4 7 h (fun h=>rg<|A2 w<|fE h) (fun h=>rg<|A4 h fun node hnode h=>A9 hnode<|ob (b0r (enc:=w9) hnode)<|tl (5,{a:=.drow (w9 node)})<|rg<|tk 0 B2<|rg<|tk 0 []<|n5<|j4 1 h (fun h=>om (((w.a9.map w9).set (0+e_.A.toNat) (L1 node))[0+e_.A.toNat]?=some (L1 node)) (a08 (a0V hnode))<|s4 node.Acc.a5<|om ((((w.a9.map w9).set (0+e_.A.toNat) (L1 node)).set (0+e_.A.toNat) (a6N node))[0+e_.A.toNat]?=some (a6N node)) (a08 (a2G (a0V hnode)))<|s4 node.a6<|om (((((w.a9.map w9).set (0+e_.A.toNat) (L1 node)).set (0+e_.A.toNat) (a6N node)).set (0+e_.A.toNat) (a8v node))[0+e_.A.toNat]?=some (a8v node)) (a08 (a2G (a2G (a0V hnode))))<|s4 node.d7<|om ((((((w.a9.map w9).set (0+e_.A.toNat) (L1 node)).set (0+e_.A.toNat) (a6N node)).set (0+e_.A.toNat) (a8v node)).set (0+e_.A.toNat) (b1y node))[0+e_.A.toNat]?=some (b1y node)) (a08 (a2G (a2G (a2G (a0V hnode)))))<|s4 node.a5<|om (((((((w.a9.map w9).set (0+e_.A.toNat) (L1 node)).set (0+e_.A.toNat) (a6N node)).set (0+e_.A.toNat) (a8v node)).set (0+e_.A.toNat) (b1y node)).set (0+e_.A.toNat) (b3b node))[0+e_.A.toNat]?=some (b3b node)) (a08 (a2G (a2G (a2G (a2G (a0V hnode))))))<|s4 node.d8<|om (((((((w.a9.map w9).set (0+e_.A.toNat) (L1 node)).set (0+e_.A.toNat) (a6N node)).set (0+e_.A.toNat) (a8v node)).set (0+e_.A.toNat) (b1y node)).set (0+e_.A.toNat) (b3b node)).set (0+e_.A.toNat) (b9j node)=(w.a9.set e_.A.toNat node).map w9) (T3 (T3 (T3 (T3 (T3 (Z5 rfl))))))<|om (G1 ((w.a9.set e_.A.toNat node).map w9)) (G1.map a44 _)<|om (w.a9.length=(w.a9.set e_.A.toNat node).length) (by simp)<|om ((.own 0 0 27 0 w.a9.length:V)=.own 0 0 27 0 (w.a9.set e_.A.toNat node).length) (by simp)<|sk [.plug 0 0 (0+e_.A.toNat) 2 (L1 node) 126,.plug 0 0 (0+e_.A.toNat) 3 (a6N node) 51,.plug 0 0 (0+e_.A.toNat) 7 (a8v node) 4,.plug 0 0 (0+e_.A.toNat) 16 (b1y node) 4,.plug 0 0 (0+e_.A.toNat) 26 (b3b node) 51,.shut 0 0 (w.a9.set e_.A.toNat node).length ((w.a9.set e_.A.toNat node).map w9),.is (.cell 1 0 0) (.own 0 0 27 0 (w.a9.set e_.A.toNat node).length)] [2,3,4] [(1,0),(2,0),(3,0)] (e8l w e_ node r () h)) (fun h=>rg<|j4 1 h (fun h=>rg<|j8 d05 d9L 1 h fun a0d h=>z3 node<|rg<|A9 hnode<|om (r9.deep false 53 27 w.a9.length (((w.a9.map w9).set (0+e_.A.toNat) (L1 node)).set (0+e_.A.toNat) (c4G a0d))=B5 53 27 w9 (w.a9.set e_.A.toNat a0d.1)) (a6X (T3 (Z5 rfl)) (by simp))<|om (G1 (((w.a9.map w9).set (0+e_.A.toNat) (L1 node)).set (0+e_.A.toNat) (c4G a0d))) (a7G (T3 (Z5 rfl)) a44)<|om (((w.a9.map w9).set (0+e_.A.toNat) (L1 node))[0+e_.A.toNat]?=some (L1 node)) (a08 (a0V hnode))<|z3 a0d.1<|tl (6,{a:=.dsc (L1 node) [none,none,some 8,some 7,none,none,none,some 1,some 8,none,none,none,some 2,some 2,none,none,some 1,none,some 4,none,none,none,some 2,some 2,none,none,some 7] [none,none,some 126,some 51,none,none,none,some 4,none,none,none,none,none,none,none,none,some 4,none,none,none,none,none,none,none,none,none,some 51],e:=some (B5 53 27 w9 (w.a9.set e_.A.toNat a0d.1))})<|rg<|j8 a0E a4Q 2 h fun a14 h=>om (w.a9.length=(w.a9.set e_.A.toNat a0d.1).length) (by simp)<|U5 w.b9 w.c9 w.Told<|j8 a0P a7L 4 h fun a2p h=>A2 a14<|B3 m8<|A2 a2p<|fE h) (fun h=>rg<|j4 1 h (fun h=>rg<|j8 b6g e0v 1 h fun U8 h=>z3 node<|rg<|A9 hnode<|om (r9.deep false 53 27 w.a9.length (((w.a9.map w9).set (0+e_.A.toNat) (L1 node)).set (0+e_.A.toNat) (c9k U8))=B5 53 27 w9 (w.a9.set e_.A.toNat U8.1)) (a6X (T3 (Z5 rfl)) (by simp))<|om (G1 (((w.a9.map w9).set (0+e_.A.toNat) (L1 node)).set (0+e_.A.toNat) (c9k U8))) (a7G (T3 (Z5 rfl)) a44)<|om (((w.a9.map w9).set (0+e_.A.toNat) (L1 node))[0+e_.A.toNat]?=some (L1 node)) (a08 (a0V hnode))<|z3 U8.1<|tl (6,{a:=.dsc (L1 node) [none,none,some 8,some 7,none,none,none,some 1,some 8,none,none,none,some 2,some 2,none,none,some 1,none,some 4,none,none,none,some 2,some 2,none,none,some 7] [none,none,some 126,some 51,none,none,none,some 4,none,none,none,none,none,none,none,none,some 4,none,none,none,none,none,none,none,none,none,some 51],e:=some (B5 53 27 w9 (w.a9.set e_.A.toNat U8.1))})<|rg<|j8 a0E a4Q 2 h fun a2o h=>om (w.a9.length=(w.a9.set e_.A.toNat U8.1).length) (by simp)<|U5 w.b9 w.c9 w.Told<|j8 a0P a7L 4 h fun a7X h=>A2 a2o<|A2 a7X<|fE h) (fun h=>rg<|j4 1 h (fun h=>rg<|j8 c3v d80 1 h fun a0N h=>z3 node<|rg<|A9 hnode<|om (r9.deep false 53 27 w.a9.length (((w.a9.map w9).set (0+e_.A.toNat) (L1 node)).set (0+e_.A.toNat) (c78 a0N))=B5 53 27 w9 (w.a9.set e_.A.toNat a0N)) (a6X (T3 (Z5 rfl)) (by simp))<|om (G1 (((w.a9.map w9).set (0+e_.A.toNat) (L1 node)).set (0+e_.A.toNat) (c78 a0N))) (a7G (T3 (Z5 rfl)) a44)<|om (((w.a9.map w9).set (0+e_.A.toNat) (L1 node))[0+e_.A.toNat]?=some (L1 node)) (a08 (a0V hnode))<|z3 a0N<|tl (6,{a:=.dsc (L1 node) [none,none,some 8,some 7,none,none,none,some 1,some 8,none,none,none,some 2,some 2,none,none,some 1,none,some 4,none,none,none,some 2,some 2,none,none,some 7] [none,none,some 126,some 51,none,none,none,some 4,none,none,none,none,none,none,none,none,some 4,none,none,none,none,none,none,none,none,none,some 51],e:=some (B5 53 27 w9 (w.a9.set e_.A.toNat a0N))})<|rg<|j8 a0E a4Q 2 h fun b8r h=>om (w.a9.length=(w.a9.set e_.A.toNat a0N).length) (by simp)<|U5 w.b9 w.c9 w.Told<|B3 j7<|j8 a0P a7L 4 h fun c0o h=>A2 b8r<|B3 m8<|A2 c0o<|fE h) (fun h=>rg<|A9 hnode<|om (r9.deep false 53 27 w.a9.length (((w.a9.map w9).set (0+e_.A.toNat) (L1 node)).set (0+e_.A.toNat) (b9j node))=B5 53 27 w9 (w.a9.set e_.A.toNat node)) (a6X (T3 (Z5 rfl)) (by simp))<|om (G1 (((w.a9.map w9).set (0+e_.A.toNat) (L1 node)).set (0+e_.A.toNat) (b9j node))) (a7G (T3 (Z5 rfl)) a44)<|om (((w.a9.map w9).set (0+e_.A.toNat) (L1 node))[0+e_.A.toNat]?=some (L1 node)) (a08 (a0V hnode))<|z3 node<|tl (6,{a:=.dsc (L1 node) [none,none,some 8,some 7,none,none,none,some 1,some 8,none,none,none,some 2,some 2,none,none,some 1,none,some 4,none,none,none,some 2,some 2,none,none,some 7] [none,none,some 126,some 51,none,none,none,some 4,none,none,none,none,none,none,none,none,some 4,none,none,none,none,none,none,none,none,none,some 51],e:=some (B5 53 27 w9 (w.a9.set e_.A.toNat node))})<|rg<|j8 a0E a4Q 2 h fun b8A h=>om (w.a9.length=(w.a9.set e_.A.toNat node).length) (by simp)<|U5 w.b9 w.c9 w.Told<|B3 j7<|j8 a0P a7L 4 h fun b9w h=>A2 b8A<|B3 m8<|A2 b9w<|fE h)))))))))
def a1y:FS (m5×List p6):=⟨38,Tryz.f38,[.val E2 Q2,.val [some 3] [some 58]],[none,none,none],[.val E2 Q2,.val [some 3] [some 58],.val [none,none,some 4] []],fun r=>.tup [.agg (P9 r.1),t7 58 3 F6 r.2],fun _=>[none,none,none],Tryz.func38⟩
def a0L(w:m5)(out:List p6)(e_:p6):Option (m5×List p6) :=
 ((a79 w e_).bind fun a0e=>(s7 ((out.length+1)*40<=140737488355328) (some (a0e,out++[e_]))))
theorem a1S{w out e_}:OK a1y [.agg (P9 w),t7 58 3 F6 out,.agg (F6 e_)] (a0L w out e_) :=
 n7 _ fun r h=>n5<|j8 a8A b82 2 h fun a0e h=>A2 w<|tk 5 [none,none,some 4]<|s9 h fun e1 h=>E8 6 11 58 3 40 F6 out e_ e1<|D8 e_<|A2 a0e<|s4 (out++[e_])<|fE h
def a9a:FS (Int×s6):=⟨41,Tryz.f41,[.val [] []],[some (0,.ptr [some 1,none] []),none],[.ptr [some 1,none] [],.val [some 1] []],fun r=>vi r.1,fun r=>[some (.optr 94 (W5 r.2)),none],Tryz.func41⟩
def a49(r_:s6)(list:List Int):Option (Int×s6) :=
 ((D5 r_ (list.length:Int)).bind fun pick=>((idx list pick.1).bind fun y=>some (y,pick.2)))
theorem b0v{r_ list}:OK a9a [.optr 94 (W5 r_),j9 1 eI list] (a49 r_ list) :=
 n7 _ fun r h=>n5<|j8 E0 E4 4 h fun pick h=>v5 eI 5 h fun y hy h=>fE h
def c5Q:FS (Int):=⟨136,Tryz.f136,[.val [] []],[none,none],[.val [] [],.val [] []],fun r=>vi r,fun _=>[none,none],Tryz.func136⟩
def b5E(a:Int)(b:Int):Option Int :=
 (bif decide (a>b) then some a else some b)
theorem e0K{a b}:OK c5Q [vi a,vi b] (b5E a b) :=
 n7 _ fun r h=>n5<|j4 2 h (fun h=>rg<|fE h) (fun h=>rg<|fE h)
def b23:FS (o8×s6):=⟨85,Tryz.f85,[.val [] []],[some (0,.ptr [some 1,none] [])],[.ptr [some 1,none] []],fun r=>.agg (z0 r.1),fun r=>[some (.optr 94 (W5 r.2))],Tryz.func85⟩
def e2p:(s6×o8)->KS:=fun (w,i)=>⟨b23.k 6 [true],(bs 2 (.ptr 1 0 0::(.ptr 2 0 0::(bs 36 [])))),[some [.var 94 [j9 1 H7 w.b,vi w.p]],some [.var 74 [vi 0,vi 0,vi 0,vi 0]],some [.var 74 [vi i.a7,vi i.A,vi i.B,vi i.N]]]⟩
def c9A(w:s6)(i:o8):Option (o8×s6) :=
 some (i,w)
theorem e7f(r):NF b23 r e2p (fun s=>c9A s.1 s.2):=fun (w,i) h=>PK<|rg<|fE h
def b63(r_:s6):Option (o8×s6) :=
 ((a49 r_ [1,1,2,2,3,4,4,5,6,7]).bind fun num=>((D5 num.2 3).bind fun pick=>((D5 pick.2 3).bind fun D4=>(((bif (num.1==3) then ((a49 D4.2 [0,1,5,(-2),100,1000000]).bind fun a7i=>some (l8.brk (a7i.2,(o8.mk num.1 pick.1 0 a7i.1)))) else (bif (num.1==6) then ((D5 D4.2 3).bind fun X6=>some (l8.brk (X6.2,(o8.mk num.1 pick.1 D4.1 (m7 (1+X6.1)))))) else (bif (num.1==7) then ((D5 D4.2 3).bind fun W2=>(bif decide (W2.1>0) then ((D5 W2.2 4).bind fun U2=>((D5 U2.2 4).bind fun a15=>some (l8.ret ((o8.mk 4 U2.1 a15.1 0),a15.2)))) else some (l8.brk (W2.2,(o8.mk num.1 0 0 0))))) else some (l8.brk (D4.2,(o8.mk num.1 pick.1 D4.1 0)))))):Option (l8 (o8×s6) (s6×o8))).bind fun x=>x.go some fun j=>c9A j.1 j.2))))
theorem e7O{r_}:OK b23 [.optr 94 (W5 r_)] (b63 r_) :=
 n7 _ fun r h=>n5<|tk 1 []<|j8 a9a b0v 2 h fun num h=>om (10=[1,1,2,2,3,4,4,5,6,7].length) (by simp)<|j8 E0 E4 4 h fun pick h=>j8 E0 E4 6 h fun D4 h=>rg<|B0 h (e7f r) fun x1 h hc1=>rg<|j4 1 h (fun h=>n5<|tk 1 []<|j8 a9a b0v 2 h fun a7i h=>om (6=[0,1,5,(-2),100,1000000].length) (by simp)<|(o6 h hc1 fun hI=>sk [] [2,3] [(1,0),(10,0)] hI)) (fun h=>rg<|j4 1 h (fun h=>rg<|j8 E0 E4 1 h fun X6 h=>(o6 h hc1 fun hI=>sk [] [2,3] [(1,0),(10,0)] hI)) (fun h=>rg<|j4 1 h (fun h=>rg<|j8 E0 E4 1 h fun W2 h=>j4 2 h (fun h=>rg<|j8 E0 E4 1 h fun U2 h=>j8 E0 E4 3 h fun a15 h=>(B4 h hc1 fun h=>fE h)) (fun h=>n5<|(o6 h hc1 fun hI=>sk [] [2,3] [(1,0),(10,0)] hI))) (fun h=>(o6 h hc1 fun hI=>sk [] [2,3] [(1,0),(10,0)] hI))))
def a1X:FS ((List o8)×s6):=⟨43,Tryz.f43,[.val [some 4] [some 74]],[some (0,.ptr [some 1,none] [])],[.ptr [some 1,none] []],fun r=>t7 74 4 z0 r.1,fun r=>[some (.optr 94 (W5 r.2))],Tryz.func43⟩
def c8w:(s6×List o8)->KS:=fun (w,out1)=>⟨a1X.k 5 [false,false],(bs 5 (.own 1 0 4 0 out1.length::(bs 31 []))),[some [.var 94 [j9 1 H7 w.b,vi w.p]],some [l9 74 4 z0 out1]]⟩
def c6h(w:s6)(out1:List o8):Option ((List o8)×s6) :=
 some (out1,w)
theorem e0d(r):NF a1X r c8w (fun s=>c6h s.1 s.2):=fun (w,out1) h=>PK<|rg<|s4 out1<|fE h
def d9E:(s6×(List o8)×Int)->KS:=fun (r_1,out,i)=>⟨a1X.k 4 [false],(.ptr 0 0 0::(bs 4 (.own 1 0 4 0 out.length::(vi i::(bs 30 []))))),[some [.var 94 [j9 1 H7 r_1.b,vi r_1.p]],some [l9 74 4 z0 out]]⟩
def b30(r_1:s6)(out:List o8)(i:Int):Option (l7 ((List o8)×s6) (s6×(List o8)×Int) (s6×List o8)) :=
 (bif decide (i>0) then ((b63 r_1).bind fun b06=>(s7 ((out.length+1)*32<=140737488355328) (some (l7.nxt (b06.2,out++[b06.1],m7 (i-1)))))) else some (l7.brk (r_1,out)))
theorem d8J:LQ a1X c8w d9E (fun s=>b30 s.1 s.2.1 s.2.2):=fun lc (r_1,out,i) h=>PK<|rg<|j4 1 h (fun h=>rg<|j8 b23 e7O 2 h fun b06 h=>tk 3 []<|s9 h fun e1 h=>E8 4 8 74 4 32 z0 out b06.1 e1<|D8 b06.1<|rg<|(lc.nx h fun hI=>sk [] [0,5,6] [(8,0)] hI)) (fun h=>(lc.bk h fun hI=>sk [] [5] [(1,0)] hI))
def a3v(r_:s6):Option ((List o8)×s6) :=
 ((D5 r_ 3).bind fun pick=>(bif (pick.1==0) then ((D5 pick.2 3).bind fun D4=>((D5 D4.2 3).bind fun X6=>((D5 X6.2 3).bind fun W2=>some ([(o8.mk 1 0 D4.1 0),(o8.mk 3 1 0 (m7 (1+W2.1))),(o8.mk 4 0 1 0),(o8.mk 2 X6.1 0 0)],W2.2)))) else ((D5 pick.2 8).bind fun U2=>((o9 (fun s:s6×(List o8)×Int=>b30 s.1 s.2.1 s.2.2) (U2.2,([]:List o8),U2.1)).bind fun x=>x.go (fun r=>some r) fun s=>c6h s.1 s.2))))
theorem b1x{r_}:OK a1X [.optr 94 (W5 r_)] (a3v r_) :=
 n7 _ fun r h=>n5<|j8 E0 E4 1 h fun pick h=>j4 2 h (fun h=>rg<|j8 E0 E4 1 h fun D4 h=>rg<|j8 E0 E4 1 h fun X6 h=>rg<|j8 E0 E4 3 h fun W2 h=>tk 9 []<|om (4=[(o8.mk 1 0 D4.1 0),(o8.mk 3 1 0 (m7 (1+W2.1))),(o8.mk 4 0 1 0),(o8.mk 2 X6.1 0 0)].length) (by simp)<|fE h) (fun h=>rg<|tk 0 []<|rg<|j8 E0 E4 1 h fun U2 h=>lp (d8J) h (fun _ h=>a1X.rt h) (e0d r) fun hI=>om ((.own 5 0 4 0 0:V)=.own 5 0 4 0 ([]:List o8).length) (by simp)<|sk [.is (.tmp 5) (.own 5 0 4 0 ([]:List o8).length)] [0,5,6] [(5,0)] hI)
def b6d:FS (p6×s6×m5):=⟨84,Tryz.f84,[.val [none,none,some 4] [none,none,some 74]],[some (0,.ptr [some 1,none] []),some (1,.val E2 Q2)],[.ptr [some 1,none] [],.val E2 Q2],fun r=>.agg [vi r.1.a7,vi r.1.A,t7 74 4 z0 r.1.i5],fun r=>[some (.optr 94 (W5 r.2.1)),some (.agg (P9 r.2.2))],Tryz.func84⟩
def d6h(w:m5)(pick:Int×s6):(s6×Int)->KS:=fun (w1,eKind)=>⟨b6d.k 12 [false,false,false,false,false,false,false,true,false],(bs 4 (.ptr 1 0 0::(.ptr 2 0 0::(bs 57 [])))),[some [.var 94 [j9 1 H7 w1.b,vi w1.p],B5 53 27 w9 w.a9,l9 68 13 p9 w.b9,l9 70 3 z8 w.c9,l9 40 5 u9 w.Told],some [.var 58 [vi 0,vi 0,.nil]],some [.var 58 [vi eKind,vi pick.1,.nil]]]⟩
def c8C(w:m5)(pick:Int×s6)(w1:s6)(eKind:Int):Option (p6×s6×m5) :=
 some ((p6.mk eKind pick.1 []),w1,w)
theorem e5H(w pick)(r):NF b6d r (d6h w pick) (fun s=>c8C w pick s.1 s.2):=fun (w1,eKind) h=>PK<|rg<|A2 w<|fE h
def b7l(r_:s6)(w:m5):Option (p6×s6×m5) :=
 ((b5E 1 (w.b9.length:Int)).bind fun c3z=>((D5 r_ c3z).bind fun pick=>((D5 pick.2 24).bind fun D4=>(bif (D4.1==0) then ((D5 D4.2 3).bind fun X6=>((a3v X6.2).bind fun a3w=>some ((p6.mk 1 X6.1 a3w.1),a3w.2,w))) else (bif (D4.1==1) then ((D5 D4.2 3).bind fun W2=>((a3v W2.2).bind fun b3E=>some ((p6.mk 1 W2.1 b3E.1),b3E.2,w))) else (bif (D4.1==2) then ((D5 D4.2 3).bind fun U2=>((a3v U2.2).bind fun b55=>some ((p6.mk 1 U2.1 b55.1),b55.2,w))) else (((bif (D4.1==3) then ((D5 D4.2 3).bind fun a15=>((a3v a15.2).bind fun b4r=>some (l8.ret ((p6.mk 1 a15.1 b4r.1),b4r.2,w)))) else (bif (D4.1==4) then ((D5 D4.2 3).bind fun a7N=>some (l8.ret ((p6.mk 5 a7N.1 []),a7N.2,w))) else (bif (D4.1==5) then ((D5 D4.2 3).bind fun a6J=>some (l8.ret ((p6.mk 6 a6J.1 []),a6J.2,w))) else (bif (D4.1==6) then ((D5 D4.2 3).bind fun a3Q=>some (l8.ret ((p6.mk 6 a3Q.1 []),a3Q.2,w))) else (bif (D4.1==7) then ((D5 D4.2 2).bind fun a3H=>(bif (a3H.1==0) then ((D5 a3H.2 3).bind fun a4S=>some (l8.ret ((p6.mk 7 a4S.1 []),a4S.2,w))) else some (l8.brk (a3H.2,2)))) else (bif (D4.1==8) then some (l8.brk (D4.2,3)) else (bif (D4.1==9) then some (l8.brk (D4.2,4)) else (bif (D4.1==10) then ((D5 D4.2 3).bind fun a5g=>(bif (a5g.1==0) then ((D5 a5g.2 10).bind fun a5j=>((D5 a5j.2 5).bind fun c1Z=>some (l8.ret ((p6.mk (m7 (a5j.1-1)) (m7 (c1Z.1-1)) []),c1Z.2,w)))) else some (l8.brk (a5g.2,2)))) else some (l8.brk (D4.2,2)))))))))):Option (l8 (p6×s6×m5) (s6×Int))).bind fun x=>x.go some fun j=>c8C w pick j.1 j.2)))))))
set_option maxRecDepth 20000 in
theorem d5B{r_ w}:OK b6d [.optr 94 (W5 r_),.agg (P9 w)] (b7l r_ w) :=
 n7 _ fun r h=>n5<|j8 c5Q e0K 4 h fun c3z h=>j8 E0 E4 5 h fun pick h=>rg<|j8 E0 E4 1 h fun D4 h=>rg<|j4 1 h (fun h=>rg<|j8 E0 E4 1 h fun X6 h=>j8 a1X b1x 3 h fun a3w h=>s4 a3w.1<|A2 w<|fE h) (fun h=>rg<|j4 1 h (fun h=>rg<|j8 E0 E4 1 h fun W2 h=>j8 a1X b1x 3 h fun b3E h=>s4 b3E.1<|A2 w<|fE h) (fun h=>rg<|j4 1 h (fun h=>rg<|j8 E0 E4 1 h fun U2 h=>j8 a1X b1x 3 h fun b55 h=>s4 b55.1<|A2 w<|fE h) (fun h=>B0 h (e5H w pick r) fun x1 h hc1=>rg<|j4 1 h (fun h=>rg<|j8 E0 E4 1 h fun a15 h=>j8 a1X b1x 3 h fun b4r h=>(B4 h hc1 fun h=>s4 b4r.1<|A2 w<|fE h)) (fun h=>rg<|j4 1 h (fun h=>rg<|j8 E0 E4 1 h fun a7N h=>(B4 h hc1 fun h=>A2 w<|fE h)) (fun h=>rg<|j4 1 h (fun h=>rg<|j8 E0 E4 1 h fun a6J h=>(B4 h hc1 fun h=>A2 w<|fE h)) (fun h=>rg<|j4 1 h (fun h=>rg<|j8 E0 E4 1 h fun a3Q h=>(B4 h hc1 fun h=>A2 w<|fE h)) (fun h=>rg<|j4 1 h (fun h=>rg<|j8 E0 E4 1 h fun a3H h=>j4 2 h (fun h=>rg<|j8 E0 E4 1 h fun a4S h=>(B4 h hc1 fun h=>A2 w<|fE h)) (fun h=>(o6 h hc1 fun hI=>sk [] [4,5] [(2,0),(10,0)] hI))) (fun h=>rg<|j4 1 h (fun h=>rg<|(o6 h hc1 fun hI=>sk [] [4,5] [(2,0),(10,0)] hI)) (fun h=>rg<|j4 1 h (fun h=>rg<|(o6 h hc1 fun hI=>sk [] [4,5] [(2,0),(10,0)] hI)) (fun h=>rg<|j4 1 h (fun h=>rg<|j8 E0 E4 1 h fun a5g h=>j4 2 h (fun h=>rg<|j8 E0 E4 1 h fun a5j h=>j8 E0 E4 4 h fun c1Z h=>(B4 h hc1 fun h=>A2 w<|fE h)) (fun h=>(o6 h hc1 fun hI=>sk [] [4,5] [(2,0),(10,0)] hI))) (fun h=>(o6 h hc1 fun hI=>sk [] [4,5] [(2,0),(10,0)] hI))))))))))))
def a9v:FS (Bool):=⟨51,Tryz.f51,[.val [] []],[none],[.val B2 []],fun r=>.b r,fun _=>[none],Tryz.func51⟩
def d7M(m:j7):Unit->KS:=fun _=>⟨a9v.k 2 [false],(bs 1 (.ptr 1 0 0::(bs 158 []))),[some [],some [.var 68 (a3K m)]]⟩
def e28(m:j7)(l7None:Bool):Bool->KS:=fun right=>⟨a9v.k 4 [false],(bs 1 (.ptr 1 0 0::(bs 1 (.b l7None::(.b right::(bs 155 [])))))),[some [],some [.var 68 (a3K m)]]⟩
def b0a(m:j7)(l7None:Bool)(right:Bool):Option Bool :=
 (bif (m.a7==1) then ((a0z m.a8).bind fun V1=>(bif V1 then some l7None else some false)) else (bif (m.a7==2) then ((a0z m.a8).bind fun a9Q=>(bif a9Q then (bif l7None then ((a5d m.a5).bind fun a5w=>(bif a5w then some (decide ((m7 (m.g7+(m.a5.length:Int)))<=40)) else some false)) else some false) else some false)) else (bif (m.a7==3) then ((a0z m.a8).bind fun b2O=>(bif b2O then some right else some false)) else (bif (m.a7==4) then ((a0z m.a8).bind fun c4n=>(bif c4n then some l7None else some false)) else (bif (m.a7==5) then (bif (m.a8==0) then some right else some false) else (bif (m.a7==6) then ((a0z m.a8).bind fun c5L=>(bif c5L then (bif l7None then some (m.g7==0) else some false) else some false)) else (bif (m.a7==7) then (bif (m.a8==0) then (bif (m.g7==0) then ((a0B m.i0).bind fun C8=>(bif C8 then some (!m.i0.i8) else some false)) else some false) else some false) else (bif (m.a7==8) then (bif (m.a8==0) then some l7None else some false) else some false))))))))
theorem d7N(m l7None)(r):NF a9v r (e28 m l7None) (fun s=>b0a m l7None s):=fun right h=>PK<|n5<|j4 1 h (fun h=>rg<|j8 a09 a1O 2 h fun V1 h=>j4 3 h (fun h=>fE h) (fun h=>fE h)) (fun h=>rg<|j4 1 h (fun h=>rg<|j8 a09 a1O 2 h fun a9Q h=>j4 3 h (fun h=>j4 6 h (fun h=>j8 a1U b1R 9 h fun a5w h=>j4 11 h (fun h=>fE h) (fun h=>fE h)) (fun h=>fE h)) (fun h=>fE h)) (fun h=>rg<|j4 1 h (fun h=>rg<|j8 a09 a1O 2 h fun b2O h=>j4 3 h (fun h=>fE h) (fun h=>fE h)) (fun h=>rg<|j4 1 h (fun h=>rg<|j8 a09 a1O 2 h fun c4n h=>j4 3 h (fun h=>fE h) (fun h=>fE h)) (fun h=>rg<|j4 1 h (fun h=>rg<|j4 3 h (fun h=>fE h) (fun h=>fE h)) (fun h=>rg<|j4 1 h (fun h=>rg<|j8 a09 a1O 2 h fun c5L h=>j4 3 h (fun h=>j4 6 h (fun h=>fE h) (fun h=>fE h)) (fun h=>fE h)) (fun h=>rg<|j4 1 h (fun h=>rg<|j4 3 h (fun h=>j4 8 h (fun h=>j8 a1L a2t 11 h fun C8 h=>j4 13 h (fun h=>fE h) (fun h=>fE h)) (fun h=>fE h)) (fun h=>fE h)) (fun h=>rg<|j4 1 h (fun h=>rg<|j4 3 h (fun h=>fE h) (fun h=>fE h)) (fun h=>rg<|fE h))))))))
def b7V(m:j7):Option Bool :=
 ((a4b m.i0).bind fun l7None=>((((a0B m.i0).bind fun a2f=>(bif a2f then some (l8.brk (decide (m.g7<40))) else some (l8.brk false))):Option (l8 Bool Bool)).bind fun x=>x.go some fun j=>b0a m l7None j))
theorem d7d(m)(r):NF a9v r (d7M m) (fun s=>b7V m):=fun _ h=>PK<|rg<|j8 a7E a8Y 2 h fun l7None h=>B0 h (d7N m l7None r) fun x1 h hc1=>rg<|j8 a1L a2t 2 h fun a2f h=>j4 3 h (fun h=>(o6 h hc1 fun hI=>sk [] [1,3,4] [(1,0)] hI)) (fun h=>(o6 h hc1 fun hI=>sk [] [1,3,4] [(1,0)] hI))
def b7f(m:j7):Option Bool :=
 (((bif decide (m.d7<0) then some (l8.ret false) else (bif decide (m.d7>=3) then some (l8.ret false) else (bif decide (m.To<0) then some (l8.ret false) else (bif decide (m.To>=3) then some (l8.ret false) else (bif (m.d7==m.To) then some (l8.ret false) else (bif decide (m.g7<0) then some (l8.ret false) else (bif decide (m.g7>40) then some (l8.ret false) else (bif (m.a7 != 2) then (bif decide ((m.a5.length:Int)>0) then some (l8.ret false) else some (l8.brk ())) else some (l8.brk ()))))))))):Option (l8 Bool Unit)).bind fun x=>x.go some fun j=>b7V m)
theorem e7v{m}:OK a9v [.agg (p9 m)] (b7f m) :=
 n7 _ fun r h=>rg<|B0 h (d7d m r) fun x1 h hc1=>rg<|j4 3 h (fun h=>rg<|(B4 h hc1 fun h=>fE h)) (fun h=>j4 8 h (fun h=>rg<|(B4 h hc1 fun h=>fE h)) (fun h=>j4 13 h (fun h=>rg<|(B4 h hc1 fun h=>fE h)) (fun h=>j4 18 h (fun h=>rg<|(B4 h hc1 fun h=>fE h)) (fun h=>j4 25 h (fun h=>rg<|(B4 h hc1 fun h=>fE h)) (fun h=>j4 30 h (fun h=>rg<|(B4 h hc1 fun h=>fE h)) (fun h=>j4 35 h (fun h=>rg<|(B4 h hc1 fun h=>fE h)) (fun h=>j4 39 h (fun h=>j4 45 h (fun h=>rg<|(B4 h hc1 fun h=>fE h)) (fun h=>(o6 h hc1 fun hI=>sk [] [1] [(1,0)] hI))) (fun h=>(o6 h hc1 fun hI=>sk [] [1] [(1,0)] hI)))))))))
def d2k:FS (Bool):=⟨54,Tryz.f54,[.val [] []],[none],[.val [] []],fun r=>.b r,fun _=>[none],Tryz.func54⟩
def b7h(a:m8):Option Bool :=
 (bif decide (a.Node>=0) then (bif decide (a.Node<3) then ((a9H a.a0).bind fun a54=>(bif a54 then (bif (a.a0.d6==a.Node) then (bif decide (a.Code>=0) then (bif decide (a.Code<=4) then ((a4N a.f0).bind fun a0r=>some a0r) else some false) else some false) else some false) else some false)) else some false) else some false)
theorem e6A{a}:OK d2k [.agg (u9 a)] (b7h a) :=
 n7 _ fun r h=>n5<|j4 3 h (fun h=>j4 8 h (fun h=>j8 b67 b9s 11 h fun a54 h=>j4 13 h (fun h=>j4 21 h (fun h=>j4 26 h (fun h=>j4 31 h (fun h=>j8 a7x a83 34 h fun a0r h=>fE h) (fun h=>fE h)) (fun h=>fE h)) (fun h=>fE h)) (fun h=>fE h)) (fun h=>fE h)) (fun h=>fE h)
def J8:FS (Bool):=⟨21,Tryz.f21,[.val [] []],[none],[.val E2 []],fun r=>.b r,fun _=>[none],Tryz.func21⟩
def c7u(w:m5):Unit->KS:=fun _=>⟨J8.k 4 [false,false],(bs 1 (.ptr 1 0 0::(bs 104 []))),[some [],some [.var 28 (I6 w)]]⟩
def c40(w:m5):Unit->KS:=fun _=>⟨J8.k 6 [false,false,false],(bs 1 (.ptr 1 0 0::(bs 104 []))),[some [],some [.var 28 (I6 w)]]⟩
def d1C(w:m5):Unit->KS:=fun _=>⟨J8.k 8 [false,false,false,false],(bs 1 (.ptr 1 0 0::(bs 104 []))),[some [],some [.var 28 (I6 w)]]⟩
def c5V:Unit->KS:=fun _=>⟨J8.k 10 [false,false,false,false,false],(bs 106 []),[some []]⟩
def c4d:Option Bool :=
 some true
theorem e3i(r):NF J8 r c5V (fun s=>c4d):=fun _ h=>PK<|rg<|fE h
def d7x(w:m5):Int->KS:=fun i3=>⟨J8.k 9 [false,false,false,false],(bs 1 (.ptr 1 0 0::(bs 4 (vi i3::(bs 99 []))))),[some [],some [.var 28 (I6 w)]]⟩
def b62(w:m5)(i3:Int):Option (l7 Bool Int Unit) :=
 (bif decide (i3<(w.Told.length:Int)) then ((idx w.Told i3).bind fun told=>((b7h told).bind fun c6W=>(bif (!c6W) then some (l7.ret false) else some (l7.nxt (m7 (i3+1)))))) else some (l7.brk ()))
theorem d8l(w):LQ J8 c5V (d7x w) (fun s=>b62 w s):=fun lc i3 h=>PK<|rg<|j4 4 h (fun h=>rg<|v5 u9 3 h fun told a5V h=>j8 d2k e6A 5 h fun c6W h=>j4 6 h (fun h=>rg<|fL lc h) (fun h=>rg<|(lc.nx h fun hI=>sk [] [1,6] [(1,0)] hI))) (fun h=>(lc.bk h fun hI=>sk [] [] [] hI))
def b5v(w:m5):Option Bool :=
 ((o9 (fun s:Int=>b62 w s) 0).bind fun x=>x.go (fun r=>some r) fun s=>c4d)
theorem e6k(w)(r):NF J8 r (d1C w) (fun s=>b5v w):=fun _ h=>PK<|rg<|lp (d8l w) h (fun _ h=>J8.rt h) (e3i r) fun hI=>sk [] [1,6] [(1,0)] hI
def e26(w:m5):Int->KS:=fun i2=>⟨J8.k 7 [false,false,false],(bs 1 (.ptr 1 0 0::(bs 3 (vi i2::(bs 100 []))))),[some [],some [.var 28 (I6 w)]]⟩
def b6C(w:m5)(i2:Int):Option (l7 Bool Int Unit) :=
 (bif decide (i2<(w.c9.length:Int)) then ((idx w.c9 i2).bind fun asked=>((a9H asked.a0).bind fun a54=>(bif (!a54) then some (l7.ret false) else ((a75 asked.i5).bind fun C7=>(bif (!C7) then some (l7.ret false) else some (l7.nxt (m7 (i2+1)))))))) else some (l7.brk ()))
theorem e5U(w):LQ J8 (d1C w) (e26 w) (fun s=>b6C w s):=fun lc i2 h=>PK<|rg<|j4 4 h (fun h=>rg<|v5 z8 3 h fun asked a6A h=>j8 b67 b9s 6 h fun a54 h=>j4 8 h (fun h=>rg<|fL lc h) (fun h=>I5 z8 12 a6A<|j8 a4e c2b 15 h fun C7 h=>j4 17 h (fun h=>rg<|fL lc h) (fun h=>rg<|(lc.nx h fun hI=>sk [] [1,5] [(1,0)] hI)))) (fun h=>(lc.bk h fun hI=>sk [] [1] [(1,0)] hI))
def b3n(w:m5):Option Bool :=
 ((o9 (fun s:Int=>b6C w s) 0).bind fun x=>x.go (fun r=>some r) fun s=>b5v w)
theorem d9a(w)(r):NF J8 r (c40 w) (fun s=>b3n w):=fun _ h=>PK<|rg<|lp (e5U w) h (fun _ h=>J8.rt h) (e6k w r) fun hI=>sk [] [1,5] [(1,0)] hI
def d67(w:m5):Int->KS:=fun i1=>⟨J8.k 5 [false,false],(bs 1 (.ptr 1 0 0::(bs 2 (vi i1::(bs 101 []))))),[some [],some [.var 28 (I6 w)]]⟩
def b4p(w:m5)(i1:Int):Option (l7 Bool Int Unit) :=
 (bif decide (i1<(w.b9.length:Int)) then ((idx w.b9 i1).bind fun msg=>((b7f msg).bind fun N3=>(bif (!N3) then some (l7.ret false) else some (l7.nxt (m7 (i1+1)))))) else some (l7.brk ()))
theorem d3h(w):LQ J8 (c40 w) (d67 w) (fun s=>b4p w s):=fun lc i1 h=>PK<|rg<|j4 4 h (fun h=>rg<|v5 p9 3 h fun msg hmsg h=>j8 a9v e7v 5 h fun N3 h=>j4 6 h (fun h=>rg<|fL lc h) (fun h=>rg<|(lc.nx h fun hI=>sk [] [1,4] [(1,0)] hI))) (fun h=>(lc.bk h fun hI=>sk [] [1] [(1,0)] hI))
def b7e(w:m5):Option Bool :=
 ((o9 (fun s:Int=>b4p w s) 0).bind fun x=>x.go (fun r=>some r) fun s=>b3n w)
theorem d8G(w)(r):NF J8 r (c7u w) (fun s=>b7e w):=fun _ h=>PK<|rg<|lp (d3h w) h (fun _ h=>J8.rt h) (d9a w r) fun hI=>sk [] [1,4] [(1,0)] hI
def e7j(w:m5):Int->KS:=fun i=>⟨J8.k 3 [false],(bs 1 (.ptr 1 0 0::(bs 1 (vi i::(bs 102 []))))),[some [],some [.var 28 (I6 w)]]⟩
def b5K(w:m5)(i:Int):Option (l7 Bool Int Unit) :=
 (bif decide (i<(w.a9.length:Int)) then ((idx w.a9 i).bind fun node=>(bif (node.Id != i) then some (l7.ret false) else ((a4a node).bind fun C5=>(bif (!C5) then some (l7.ret false) else some (l7.nxt (m7 (i+1))))))) else some (l7.brk ()))
theorem e2A(w):LQ J8 (c7u w) (e7j w) (fun s=>b5K w s):=fun lc i h=>PK<|rg<|j4 4 h (fun h=>rg<|v5 z9 3 h fun node hnode h=>j4 8 h (fun h=>rg<|fL lc h) (fun h=>I5 z9 12 hnode<|j8 a1I a9C 14 h fun C5 h=>j4 16 h (fun h=>rg<|fL lc h) (fun h=>rg<|(lc.nx h fun hI=>sk [] [1,3] [(1,0)] hI)))) (fun h=>(lc.bk h fun hI=>sk [] [1] [(1,0)] hI))
def b2C(w:m5):Option Bool :=
 (bif ((w.a9.length:Int) != 3) then some false else (bif decide ((w.b9.length:Int)>40) then some false else (bif decide ((w.c9.length:Int)>60) then some false else (bif decide ((w.Told.length:Int)>60) then some false else ((o9 (fun s:Int=>b5K w s) 0).bind fun x=>x.go (fun r=>some r) fun s=>b7e w)))))
theorem c06{w}:OK J8 [.agg (a0J w)] (b2C w) :=
 n7 _ fun r h=>n5<|j4 4 h (fun h=>rg<|fE h) (fun h=>j4 10 h (fun h=>rg<|fE h) (fun h=>j4 16 h (fun h=>rg<|fE h) (fun h=>j4 21 h (fun h=>rg<|fE h) (fun h=>rg<|lp (e2A w) h (fun _ h=>J8.rt h) (d8G w r) fun hI=>sk [] [1,3] [(1,0)] hI))))
def S8:FS (m5):=⟨22,Tryz.f22,[.val E2 Q2],[none],[.val E2 []],fun r=>.agg (P9 r),fun _=>[none],Tryz.func22⟩
def c51(w:m5):(List j5)->KS:=fun Nodes1=>⟨S8.k 4 [false],(bs 1 (.ptr 1 0 0::(.ptr 2 0 0::(.ptr 3 0 0::(bs 72 []))))),[some [],some [.var 28 (I6 w)],some [.var 28 [.nil,.nil,.nil,.nil]],some [.var 28 [.own 4 0 27 0 Nodes1.length,.nil,.nil,.own 5 0 5 0 (([]:List m8)++w.Told).length]],some [B5 53 27 w9 Nodes1],some [l9 40 5 u9 (([]:List m8)++w.Told)]]⟩
def d1K(w:m5)(Nodes1:List j5):(List j7)->KS:=fun Net1=>⟨S8.k 6 [false,false],(bs 1 (.ptr 1 0 0::(.ptr 2 0 0::(.ptr 3 0 0::(bs 72 []))))),[some [],some [.var 28 (I6 w)],some [.var 28 [.nil,.nil,.nil,.nil]],some [.var 28 [.own 4 0 27 0 Nodes1.length,.own 5 0 13 0 Net1.length,.nil,.own 6 0 5 0 (([]:List m8)++w.Told).length]],some [B5 53 27 w9 Nodes1],some [l9 68 13 p9 Net1],some [l9 40 5 u9 (([]:List m8)++w.Told)]]⟩
def d1I(w:m5)(Nodes1:List j5)(Net1:List j7):(List u5)->KS:=fun Asked1=>⟨S8.k 8 [false,false,false],(bs 2 (.ptr 1 0 0::(.ptr 2 0 0::(bs 72 [])))),[some [],some [.var 28 [.nil,.nil,.nil,.nil]],some [.var 28 [.own 3 0 27 0 Nodes1.length,.own 4 0 13 0 Net1.length,.own 5 0 3 0 Asked1.length,.own 6 0 5 0 (([]:List m8)++w.Told).length]],some [B5 53 27 w9 Nodes1],some [l9 68 13 p9 Net1],some [l9 70 3 z8 Asked1],some [l9 40 5 u9 (([]:List m8)++w.Told)]]⟩
def d0G(w:m5)(Nodes1:List j5)(Net1:List j7)(Asked1:List u5):Option m5 :=
 some (m5.mk Nodes1 Net1 Asked1 (([]:List m8)++w.Told))
theorem e6t(w Nodes1 Net1)(r):NF S8 r (d1I w Nodes1 Net1) (fun s=>d0G w Nodes1 Net1 s):=fun Asked1 h=>PK<|rg<|E9 Nodes1 Net1 Asked1 (([]:List m8)++w.Told)<|fE h
def d5q(w:m5)(Nodes1:List j5)(Net1:List j7):((List u5)×Int)->KS:=fun (c9,i2)=>⟨S8.k 7 [false,false],(bs 1 (.ptr 1 0 0::(.ptr 2 0 0::(.ptr 3 0 0::(bs 2 (vi i2::(bs 69 []))))))),[some [],some [.var 28 (I6 w)],some [.var 28 [.nil,.nil,.nil,.nil]],some [.var 28 [.own 4 0 27 0 Nodes1.length,.own 5 0 13 0 Net1.length,.own 7 0 3 0 c9.length,.own 6 0 5 0 (([]:List m8)++w.Told).length]],some [B5 53 27 w9 Nodes1],some [l9 68 13 p9 Net1],some [l9 40 5 u9 (([]:List m8)++w.Told)],some [l9 70 3 z8 c9]]⟩
def b0c(w:m5)(c9:List u5)(i2:Int):Option (l7 m5 ((List u5)×Int) (List u5)) :=
 (bif decide (i2<(w.c9.length:Int)) then ((idx w.c9 i2).bind fun asked=>(s7 ((([]:List o8).length+asked.i5.length)*32<=140737488355328) ((s7 ((c9.length+1)*40<=140737488355328) (some (l7.nxt (c9++[(u5.mk asked.a0 (([]:List o8)++asked.i5))],m7 (i2+1)))))))) else some (l7.brk c9))
theorem e3e(w Nodes1 Net1):LQ S8 (d1I w Nodes1 Net1) (d5q w Nodes1 Net1) (fun s=>b0c w s.1 s.2):=fun lc (c9,i2) h=>PK<|rg<|j4 4 h (fun h=>rg<|v5 z8 5 h fun asked a6A h=>tk 8 []<|I5 z8 12 a6A<|s9 h fun e2 h=>oa 28 0 4 ([]:List o8) asked.i5<|oz 74 4 z0 ([]:List o8) asked.i5<|B3 o8<|ob e2<|tl (15,{v:=some (.own 28 0 4 0 (([]:List o8)++asked.i5).length),e:=some (l9 74 4 z0 (([]:List o8)++asked.i5))})<|s4 (([]:List o8)++asked.i5)<|tk 17 [none,none,some 4]<|s9 h fun e3 h=>E8 18 31 70 3 40 z8 c9 (u5.mk asked.a0 (([]:List o8)++asked.i5)) e3<|D8 (u5.mk asked.a0 (([]:List o8)++asked.i5))<|rg<|(lc.nx h fun hI=>sk [] [1,2,3,6] [(1,0),(2,0),(3,0),(4,0),(5,0),(6,0),(31,0)] hI)) (fun h=>(lc.bk h fun hI=>sk [] [2,3] [(2,0),(3,0),(4,0),(5,0),(7,0),(6,0)] hI))
def c2E(w:m5)(Nodes1:List j5)(Net1:List j7):Option m5 :=
 ((o9 (fun s:(List u5)×Int=>b0c w s.1 s.2) ([],0)).bind fun x=>x.go (fun r=>some r) fun s=>d0G w Nodes1 Net1 s)
theorem e6s(w Nodes1)(r):NF S8 r (d1K w Nodes1) (fun s=>c2E w Nodes1 s):=fun Net1 h=>PK<|rg<|lp (e3e w Nodes1 Net1) h (fun _ h=>S8.rt h) (e6t w Nodes1 Net1 r) fun hI=>sk [.own (.cell 3 0 2) 70 3] [1,2,3,6] [(1,0),(2,0),(3,0),(4,0),(5,0),(6,0),(8,0)] hI
def d3T(w:m5)(Nodes1:List j5):((List j7)×Int)->KS:=fun (b9,i1)=>⟨S8.k 5 [false],(bs 1 (.ptr 1 0 0::(.ptr 2 0 0::(.ptr 3 0 0::(bs 1 (vi i1::(bs 70 []))))))),[some [],some [.var 28 (I6 w)],some [.var 28 [.nil,.nil,.nil,.nil]],some [.var 28 [.own 4 0 27 0 Nodes1.length,.own 6 0 13 0 b9.length,.nil,.own 5 0 5 0 (([]:List m8)++w.Told).length]],some [B5 53 27 w9 Nodes1],some [l9 40 5 u9 (([]:List m8)++w.Told)],some [l9 68 13 p9 b9]]⟩
def b1Q(w:m5)(b9:List j7)(i1:Int):Option (l7 m5 ((List j7)×Int) (List j7)) :=
 (bif decide (i1<(w.b9.length:Int)) then ((idx w.b9 i1).bind fun msg=>((a6y msg).bind fun E3=>(s7 ((b9.length+1)*152<=140737488355328) (some (l7.nxt (b9++[E3],m7 (i1+1))))))) else some (l7.brk b9))
theorem e6n(w Nodes1):LQ S8 (d1K w Nodes1) (d3T w Nodes1) (fun s=>b1Q w s.1 s.2):=fun lc (b9,i1) h=>PK<|rg<|j4 4 h (fun h=>rg<|v5 p9 5 h fun msg hmsg h=>j8 b21 b6y 7 h fun E3 h=>tk 8 B2<|s9 h fun e4 h=>E8 9 21 68 13 152 p9 b9 E3 e4<|D8 E3<|rg<|(lc.nx h fun hI=>sk [] [1,2,3,5] [(1,0),(2,0),(3,0),(4,0),(5,0),(21,0)] hI)) (fun h=>(lc.bk h fun hI=>sk [] [1,2,3] [(1,0),(2,0),(3,0),(4,0),(6,0),(5,0)] hI))
def b9D(w:m5)(Nodes1:List j5):Option m5 :=
 ((o9 (fun s:(List j7)×Int=>b1Q w s.1 s.2) ([],0)).bind fun x=>x.go (fun r=>some r) fun s=>c2E w Nodes1 s)
theorem e41(w)(r):NF S8 r (c51 w) (fun s=>b9D w s):=fun Nodes1 h=>PK<|rg<|lp (e6n w Nodes1) h (fun _ h=>S8.rt h) (e6s w Nodes1 r) fun hI=>sk [.own (.cell 3 0 1) 68 13] [1,2,3,5] [(1,0),(2,0),(3,0),(4,0),(5,0),(7,0)] hI
def e1C(w:m5):((List j5)×Int)->KS:=fun (a9,i)=>⟨S8.k 3 [],(bs 1 (.ptr 1 0 0::(.ptr 2 0 0::(.ptr 3 0 0::(vi i::(bs 71 [])))))),[some [],some [.var 28 (I6 w)],some [.var 28 [.nil,.nil,.nil,.nil]],some [.var 28 [.own 5 0 27 0 a9.length,.nil,.nil,.own 4 0 5 0 (([]:List m8)++w.Told).length]],some [l9 40 5 u9 (([]:List m8)++w.Told)],some [B5 53 27 w9 a9]]⟩
def e5k(l8Copy:j5):List V:=(a5v l8Copy)
def b1f(w:m5)(a9:List j5)(i:Int):Option (l7 m5 ((List j5)×Int) (List j5)) :=
 (bif decide (i<(w.a9.length:Int)) then ((idx w.a9 i).bind fun node=>((a5q node).bind fun l8Copy=>(s7 ((a9.length+1)*392<=140737488355328) (some (l7.nxt (a9++[l8Copy],m7 (i+1))))))) else some (l7.brk a9))
theorem e3R(w):LQ S8 (c51 w) (e1C w) (fun s=>b1f w s.1 s.2):=fun lc (a9,i) h=>PK<|rg<|j4 4 h (fun h=>rg<|v5 z9 5 h fun node hnode h=>j8 a8z b18 7 h fun l8Copy h=>om (r9.deep false 53 27 1 [(e5k l8Copy)]=B5 53 27 w9 [l8Copy]) rfl<|z3 l8Copy<|tl (8,{a:=.dck [none,none,some 8,some 7,none,none,none,some 1,some 8,none,none,none,some 2,some 2,none,none,some 1,none,some 4,none,none,none,some 2,some 2,none,none,some 7] [none,none,some 126,some 51,none,none,none,some 4,none,none,none,none,none,none,none,none,some 4,none,none,none,none,none,none,none,none,none,some 51],e:=some (B5 53 27 w9 [l8Copy])})<|s9 h fun e5 h=>om (V.own 20 0 27 0 (a9.length+1)=.own 20 0 27 0 (a9++[l8Copy]).length) (by simp)<|om (r9.deep false 53 27 (a9.length+1) (a9.map w9++[w9 l8Copy])=B5 53 27 w9 (a9++[l8Copy])) (c1x rfl)<|s4 a9<|ob e5<|om (1=1) rfl<|tl (9,{a:=.dck [] [],v:=some (.own 20 0 27 0 (a9++[l8Copy]).length),e:=some (B5 53 27 w9 (a9++[l8Copy]))})<|rg<|(lc.nx h fun hI=>sk [] [1,2,3,4] [(1,0),(2,0),(3,0),(4,0),(20,0)] hI)) (fun h=>(lc.bk h fun hI=>sk [] [1,2,3] [(1,0),(2,0),(3,0),(5,0),(4,0)] hI))
def b1F(w:m5):Option m5 :=
 (s7 ((([]:List m8).length+w.Told.length)*40<=140737488355328) (((o9 (fun s:(List j5)×Int=>b1f w s.1 s.2) ([],0)).bind fun x=>x.go (fun r=>some r) fun s=>b9D w s)))
theorem c4O{w}:OK S8 [.agg (a0J w)] (b1F w) :=
 n7 _ fun r h=>n5<|tk 0 []<|s9 h fun e1 h=>oa 6 0 5 ([]:List m8) w.Told<|oz 40 5 u9 ([]:List m8) w.Told<|B3 m8<|ob e1<|tl (3,{v:=some (.own 6 0 5 0 (([]:List m8)++w.Told).length),e:=some (l9 40 5 u9 (([]:List m8)++w.Told))})<|rg<|lp (e3R w) h (fun _ h=>S8.rt h) (e41 w r) fun hI=>sk [.ownD (.cell 8 0 0) 53 27] [1,2,3,4] [(1,0),(2,0),(8,0),(6,0),(11,0)] hI
def a4k:FS ((List p6)×s6):=⟨40,Tryz.f40,[.val [some 3] [some 58]],[some (0,.ptr [some 1,none] []),none,none],[.ptr [some 1,none] [],.val E2 Q2,.val [] []],fun r=>t7 58 3 F6 r.1,fun r=>[some (.optr 94 (W5 r.2)),none,none],Tryz.func40⟩
def c03:(s6×List p6)->KS:=fun (w1,out1)=>⟨a4k.k 4 [false],(bs 7 (.own 1 0 3 0 out1.length::(bs 22 []))),[some [.var 94 [j9 1 H7 w1.b,vi w1.p],.dead,.dead,.dead,.dead],some [l9 58 3 F6 out1]]⟩
def d1t(w1:s6)(out1:List p6):Option ((List p6)×s6) :=
 some (out1,w1)
theorem d6F(r):NF a4k r c03 (fun s=>d1t s.1 s.2):=fun (w1,out1) h=>PK<|rg<|s4 out1<|fE h
def c9s(n:Int):(s6×(List p6)×(List m8)×(List u5)×(List j7)×(List j5)×Int)->KS:=fun (r_1,out,Told,c9,b9,a9,i)=>⟨a4k.k 3 [],(.ptr 0 0 0::(bs 1 (vi n::(bs 1 (.ptr 1 0 0::(bs 2 (.own 2 0 3 0 out.length::(vi i::(bs 21 []))))))))),[some [.var 94 [j9 1 H7 r_1.b,vi r_1.p],.dead,.dead,.dead,.dead],some [.var 28 [.own 6 0 27 0 a9.length,.own 5 0 13 0 b9.length,.own 4 0 3 0 c9.length,.own 3 0 5 0 Told.length]],some [l9 58 3 F6 out],some [l9 40 5 u9 Told],some [l9 70 3 z8 c9],some [l9 68 13 p9 b9],some [B5 53 27 w9 a9]]⟩
def e4S(n:Int)(out:List p6)(i:Int)(l9Event:p6×s6×m5):((List j5)×(List j7)×(List u5)×List m8)->KS:=fun (Nodes1,Net1,Asked1,Told1)=>⟨a4k.k 8 [true,true],(.ptr 0 0 0::(bs 1 (vi n::(bs 1 (.ptr 1 0 0::(bs 2 (.own 6 0 3 0 (out++[l9Event.1]).length::(vi i::(bs 21 []))))))))),[some [.var 94 [j9 1 H7 l9Event.2.1.b,vi l9Event.2.1.p],.dead,.dead,.dead,.dead],some [.var 28 [.own 2 0 27 0 Nodes1.length,.own 3 0 13 0 Net1.length,.own 4 0 3 0 Asked1.length,.own 5 0 5 0 Told1.length]],some [B5 53 27 w9 Nodes1],some [l9 68 13 p9 Net1],some [l9 70 3 z8 Asked1],some [l9 40 5 u9 Told1],some [l9 58 3 F6 (out++[l9Event.1])]]⟩
def c0B(out:List p6)(i:Int)(l9Event:p6×s6×m5)(Nodes1:List j5)(Net1:List j7)(Asked1:List u5)(Told1:List m8):Option (l7 ((List p6)×s6) (s6×(List p6)×(List m8)×(List u5)×(List j7)×(List j5)×Int) (s6×List p6)) :=
 some (l7.nxt (l9Event.2.1,out++[l9Event.1],Told1,Asked1,Net1,Nodes1,m7 (i+1)))
theorem d6s(n out i l9Event)(lc:H8 a4k c03 (c9s n)):NL lc (e4S n out i l9Event) (fun s=>c0B out i l9Event s.1 s.2.1 s.2.2.1 s.2.2.2):=fun (Nodes1,Net1,Asked1,Told1) h=>PK<|rg<|(lc.nx h fun hI=>sk [] [0,2,4,7,8] [(1,0),(6,0),(5,0),(4,0),(3,0),(2,0)] hI)
def b3d(n:Int)(r_1:s6)(out:List p6)(Told:List m8)(c9:List u5)(b9:List j7)(a9:List j5)(i:Int):Option (l7 ((List p6)×s6) (s6×(List p6)×(List m8)×(List u5)×(List j7)×(List j5)×Int) (s6×List p6)) :=
 (bif decide (i<n) then ((b7l r_1 (m5.mk a9 b9 c9 Told)).bind fun l9Event=>(s7 (a9.length=l9Event.2.2.a9.length) ((s7 (b9.length=l9Event.2.2.b9.length) ((s7 (c9.length=l9Event.2.2.c9.length) ((s7 (Told.length=l9Event.2.2.Told.length) ((s7 ((out.length+1)*40<=140737488355328) (((((b2C l9Event.2.2).bind fun L0=>(bif L0 then ((b1F l9Event.2.2).bind fun a06=>((a79 a06 l9Event.1).bind fun a0e=>some (l8.brk (a0e.a9,a0e.b9,a0e.c9,a0e.Told)))) else some (l8.brk (l9Event.2.2.a9,l9Event.2.2.b9,l9Event.2.2.c9,l9Event.2.2.Told)))):Option (l8 (l7 ((List p6)×s6) (s6×(List p6)×(List m8)×(List u5)×(List j7)×(List j5)×Int) (s6×List p6)) ((List j5)×(List j7)×(List u5)×List m8))).bind fun x=>x.go some fun j=>c0B out i l9Event j.1 j.2.1 j.2.2.1 j.2.2.2)))))))))))) else some (l7.brk (r_1,out)))
set_option maxRecDepth 20000 in
theorem d43(n):LQ a4k c03 (c9s n) (fun s=>b3d n s.1 s.2.1 s.2.2.1 s.2.2.2.1 s.2.2.2.2.1 s.2.2.2.2.2.1 s.2.2.2.2.2.2):=fun lc (r_1,out,Told,c9,b9,a9,i) h=>PK<|rg<|j4 2 h (fun h=>rg<|j8 b6d d5B 2 h fun l9Event h=>s9 h fun e1 h=>s9 h fun e2 h=>s9 h fun e3 h=>s9 h fun e4 h=>E9 a9 b9 c9 Told<|rg<|s4 l9Event.1.i5<|tk 2 [none,none,some 4]<|s9 h fun e5 h=>E8 3 18 58 3 40 F6 out l9Event.1 e5<|D8 l9Event.1<|B0 h (d6s n out i l9Event lc) fun x2 h hc2=>rg<|A4 h fun L0 d0O h=>cdT (J8.t 1 true L0) h (fun _ h=>om (W4 cx.P 21 [.agg [.sl 27 l9Event.2.2.a9.length (Z0 (l9Event.2.2.a9.map w9)),j9 13 p9 l9Event.2.2.b9,j9 3 z8 l9Event.2.2.c9,j9 5 u9 l9Event.2.2.Told]] (J8.R L0) (J8.O L0)) (by simp only [a8H b2g];exact (c06 L0 d0O))<|osc J8 L0 rfl (P1 1)<|om (a9.length=l9Event.2.2.a9.length) (by first|(simp;done)|(simp [e1,e2,e3,e4];done))<|om (b9.length=l9Event.2.2.b9.length) (by first|(simp;done)|(simp [e1,e2,e3,e4];done))<|om (c9.length=l9Event.2.2.c9.length) (by first|(simp;done)|(simp [e1,e2,e3,e4];done))<|om (Told.length=l9Event.2.2.Told.length) (by first|(simp;done)|(simp [e1,e2,e3,e4];done))<|rg<|A4 h fun a06 d3z h=>om (W4 cx.P 22 [.agg [.sl 27 l9Event.2.2.a9.length (Z0 (l9Event.2.2.a9.map w9)),j9 13 p9 l9Event.2.2.b9,j9 3 z8 l9Event.2.2.c9,j9 5 u9 l9Event.2.2.Told]] (S8.R a06) (S8.O a06)) (by simp only [a8H b2g];exact (c4O a06 d3z))<|om (a9.length=l9Event.2.2.a9.length) (by first|(simp;done)|(simp [e1,e2,e3,e4];done))<|om (b9.length=l9Event.2.2.b9.length) (by first|(simp;done)|(simp [e1,e2,e3,e4];done))<|om (c9.length=l9Event.2.2.c9.length) (by first|(simp;done)|(simp [e1,e2,e3,e4];done))<|om (Told.length=l9Event.2.2.Told.length) (by first|(simp;done)|(simp [e1,e2,e3,e4];done))<|tl (S8.t 1 false a06)<|j8 a8A b82 3 h fun a0e h=>A2 a06<|s4 l9Event.1.i5<|(o6 h hc2 fun hI=>sk [] [0,2,4,7,8] [(1,0),(25,0),(25,1),(25,2),(25,3),(18,0)] hI)) (fun _ h=>om (W4 cx.P 21 [.agg [.sl 27 l9Event.2.2.a9.length (Z0 (l9Event.2.2.a9.map w9)),j9 13 p9 l9Event.2.2.b9,j9 3 z8 l9Event.2.2.c9,j9 5 u9 l9Event.2.2.Told]] (J8.R L0) (J8.O L0)) (by simp only [a8H b2g];exact (c06 L0 d0O))<|osc J8 L0 rfl (P1 1)<|om (a9.length=l9Event.2.2.a9.length) (by first|(simp;done)|(simp [e1,e2,e3,e4];done))<|om (b9.length=l9Event.2.2.b9.length) (by first|(simp;done)|(simp [e1,e2,e3,e4];done))<|om (c9.length=l9Event.2.2.c9.length) (by first|(simp;done)|(simp [e1,e2,e3,e4];done))<|om (Told.length=l9Event.2.2.Told.length) (by first|(simp;done)|(simp [e1,e2,e3,e4];done))<|(o6 h hc2 fun hI=>om ((.own 6 0 27 0 a9.length:V)=.own 6 0 27 0 l9Event.2.2.a9.length) (by first|(simp;done)|(simp [e1,e2,e3,e4];done))<|om ((.own 5 0 13 0 b9.length:V)=.own 5 0 13 0 l9Event.2.2.b9.length) (by first|(simp;done)|(simp [e1,e2,e3,e4];done))<|om ((.own 4 0 3 0 c9.length:V)=.own 4 0 3 0 l9Event.2.2.c9.length) (by first|(simp;done)|(simp [e1,e2,e3,e4];done))<|om ((.own 3 0 5 0 Told.length:V)=.own 3 0 5 0 l9Event.2.2.Told.length) (by first|(simp;done)|(simp [e1,e2,e3,e4];done))<|sk [.is (.cell 1 0 0) (.own 6 0 27 0 l9Event.2.2.a9.length),.is (.cell 1 0 1) (.own 5 0 13 0 l9Event.2.2.b9.length),.is (.cell 1 0 2) (.own 4 0 3 0 l9Event.2.2.c9.length),.is (.cell 1 0 3) (.own 3 0 5 0 l9Event.2.2.Told.length)] [0,2,4,7,8] [(1,0),(6,0),(5,0),(4,0),(3,0),(18,0)] hI))) (fun h=>(lc.bk h fun hI=>sk [] [7] [(2,0)] hI))
def b4J(r_:s6)(w:m5)(n:Int):Option ((List p6)×s6) :=
 ((o9 (fun s:s6×(List p6)×(List m8)×(List u5)×(List j7)×(List j5)×Int=>b3d n s.1 s.2.1 s.2.2.1 s.2.2.2.1 s.2.2.2.2.1 s.2.2.2.2.2.1 s.2.2.2.2.2.2) (r_,([]:List p6),w.Told,w.c9,w.b9,w.a9,0)).bind fun x=>x.go (fun r=>some r) fun s=>d1t s.1 s.2)
theorem e1t{r_ w n}:OK a4k [.optr 94 (W5 r_),.agg (P9 w),vi n] (b4J r_ w n) :=
 n7 _ fun r h=>n5<|tk 0 [none,none,some 4]<|rg<|lp (d43 n) h (fun _ h=>a4k.rt h) (d6F r) fun hI=>om ((.own 3 0 3 0 0:V)=.own 3 0 3 0 ([]:List p6).length) (by simp)<|sk [.is (.tmp 7) (.own 3 0 3 0 ([]:List p6).length)] [0,2,4,7,8] [(1,0),(3,0),(0,4),(0,3),(0,2),(0,1)] hI
def a1b:FS (m5×(List p6)×s6):=⟨42,Tryz.f42,[.val E2 Q2,.val [some 3] [some 58]],[some (0,.ptr [some 1,none] []),none,none],[.ptr [some 1,none] [],.val E2 Q2,.val [some 3] [some 58]],fun r=>.tup [.agg (P9 r.1),t7 58 3 F6 r.2.1],fun r=>[some (.optr 94 (W5 r.2.2)),none,none],Tryz.func42⟩
def b8i(pick:Int×s6)(num:Int×s6):((List p6)×(List j5)×(List j7)×(List u5)×List m8)->KS:=fun (out2,Nodes1,Net1,Asked1,Told1)=>⟨a1b.k 4 [false],(.ptr 0 0 0::(bs 1 (.own 1 0 3 0 out2.length::(bs 1 (.ptr 2 0 0::(bs 1 (.ptr 7 0 0::(bs 1 (vi pick.1::(bs 52 [])))))))))),[some [.var 94 [j9 1 H7 num.2.b,vi num.2.p],.dead,.dead,.dead,.dead,.dead],some [l9 58 3 F6 out2],some [.var 28 [.own 3 0 27 0 Nodes1.length,.own 4 0 13 0 Net1.length,.own 5 0 3 0 Asked1.length,.own 6 0 5 0 Told1.length]],some [B5 53 27 w9 Nodes1],some [l9 68 13 p9 Net1],some [l9 70 3 z8 Asked1],some [l9 40 5 u9 Told1],some [.var 28 [.nil,.nil,.nil,.nil]]]⟩
def e1A(pick:Int×s6):(s6×(List p6)×(List j5)×(List j7)×(List u5)×List m8)->KS:=fun (w1,out3,Nodes2,Net2,Asked2,Told2)=>⟨a1b.k 6 [false,true],(bs 2 (.own 1 0 3 0 out3.length::(bs 1 (.ptr 2 0 0::(bs 1 (.ptr 7 0 0::(bs 1 (vi pick.1::(bs 52 []))))))))),[some [.var 94 [j9 1 H7 w1.b,vi w1.p],.dead,.dead,.dead,.dead,.dead],some [l9 58 3 F6 out3],some [.var 28 [.own 3 0 27 0 Nodes2.length,.own 4 0 13 0 Net2.length,.own 5 0 3 0 Asked2.length,.own 6 0 5 0 Told2.length]],some [B5 53 27 w9 Nodes2],some [l9 68 13 p9 Net2],some [l9 70 3 z8 Asked2],some [l9 40 5 u9 Told2],some [.var 28 [.nil,.nil,.nil,.nil]]]⟩
def b5u(pick:Int×s6)(w1:s6)(out3:List p6)(Nodes2:List j5)(Net2:List j7)(Asked2:List u5)(Told2:List m8):Option (m5×(List p6)×s6) :=
 ((a0L (m5.mk Nodes2 Net2 Asked2 Told2) out3 (p6.mk 7 pick.1 [])).bind fun Q0=>some (Q0.1,Q0.2,w1))
theorem d3O(pick)(r):NF a1b r (e1A pick) (fun s=>b5u pick s.1 s.2.1 s.2.2.1 s.2.2.2.1 s.2.2.2.2.1 s.2.2.2.2.2):=fun (w1,out3,Nodes2,Net2,Asked2,Told2) h=>PK<|rg<|j8 a1y a1S 4 h fun Q0 h=>E9 Nodes2 Net2 Asked2 Told2<|s4 out3<|A2 Q0.1<|s4 Q0.2<|fE h
def b8o(pick:Int×s6)(num:Int×s6)(out2:List p6)(Nodes1:List j5)(Net1:List j7)(Asked1:List u5)(Told1:List m8):Option (m5×(List p6)×s6) :=
 (((bif decide ((Net1.length:Int)>0) then ((D5 num.2 (Net1.length:Int)).bind fun D4=>((a0L (m5.mk Nodes1 Net1 Asked1 Told1) out2 (p6.mk 2 D4.1 [])).bind fun a0S=>some (l8.brk (D4.2,a0S.2,a0S.1.a9,a0S.1.b9,a0S.1.c9,a0S.1.Told)))) else some (l8.brk (num.2,out2,Nodes1,Net1,Asked1,Told1))):Option (l8 (m5×(List p6)×s6) (s6×(List p6)×(List j5)×(List j7)×(List u5)×List m8))).bind fun x=>x.go some fun j=>b5u pick j.1 j.2.1 j.2.2.1 j.2.2.2.1 j.2.2.2.2.1 j.2.2.2.2.2)
theorem e0g(pick num)(r):NF a1b r (b8i pick num) (fun s=>b8o pick num s.1 s.2.1 s.2.2.1 s.2.2.2.1 s.2.2.2.2):=fun (out2,Nodes1,Net1,Asked1,Told1) h=>PK<|B0 h (d3O pick r) fun x1 h hc1=>rg<|j4 3 h (fun h=>rg<|j8 E0 E4 6 h fun D4 h=>j8 a1y a1S 8 h fun a0S h=>E9 Nodes1 Net1 Asked1 Told1<|s4 out2<|(o6 h hc1 fun hI=>sk [] [2,4,6,8] [(20,4),(2,0),(20,0),(20,1),(20,2),(20,3),(7,0)] hI)) (fun h=>(o6 h hc1 fun hI=>sk [] [2,4,6,8] [(1,0),(2,0),(3,0),(4,0),(5,0),(6,0),(7,0)] hI))
def c9T(pick:Int×s6)(num:Int×s6):((List m8)×(List u5)×(List j7)×(List j5)×(List p6)×Int)->KS:=fun (Told,c9,b9,a9,out1,i)=>⟨a1b.k 3 [],(.ptr 0 0 0::(bs 1 (.own 7 0 3 0 out1.length::(bs 1 (.ptr 1 0 0::(bs 1 (.ptr 2 0 0::(bs 1 (vi pick.1::(vi i::(bs 51 []))))))))))),[some [.var 94 [j9 1 H7 num.2.b,vi num.2.p],.dead,.dead,.dead,.dead,.dead],some [.var 28 [.own 6 0 27 0 a9.length,.own 5 0 13 0 b9.length,.own 4 0 3 0 c9.length,.own 3 0 5 0 Told.length]],some [.var 28 [.nil,.nil,.nil,.nil]],some [l9 40 5 u9 Told],some [l9 70 3 z8 c9],some [l9 68 13 p9 b9],some [B5 53 27 w9 a9],some [l9 58 3 F6 out1]]⟩
def c4r(pick:Int×s6)(num:Int×s6)(i:Int):((List p6)×(List j5)×(List j7)×(List u5)×List m8)->KS:=fun (out5,Nodes4,Net4,Asked4,Told4)=>⟨a1b.k 5 [true,false],(.ptr 0 0 0::(bs 1 (.own 1 0 3 0 out5.length::(bs 1 (.ptr 2 0 0::(bs 1 (.ptr 7 0 0::(bs 1 (vi pick.1::(vi i::(bs 51 []))))))))))),[some [.var 94 [j9 1 H7 num.2.b,vi num.2.p],.dead,.dead,.dead,.dead,.dead],some [l9 58 3 F6 out5],some [.var 28 [.own 3 0 27 0 Nodes4.length,.own 4 0 13 0 Net4.length,.own 5 0 3 0 Asked4.length,.own 6 0 5 0 Told4.length]],some [B5 53 27 w9 Nodes4],some [l9 68 13 p9 Net4],some [l9 70 3 z8 Asked4],some [l9 40 5 u9 Told4],some [.var 28 [.nil,.nil,.nil,.nil]]]⟩
def b9l(pick:Int×s6)(i:Int)(out5:List p6)(Nodes4:List j5)(Net4:List j7)(Asked4:List u5)(Told4:List m8):Option (l7 (m5×(List p6)×s6) ((List m8)×(List u5)×(List j7)×(List j5)×(List p6)×Int) ((List p6)×(List j5)×(List j7)×(List u5)×List m8)) :=
 ((a0L (m5.mk Nodes4 Net4 Asked4 Told4) out5 (p6.mk 5 pick.1 [])).bind fun a1c=>some (l7.nxt (a1c.1.Told,a1c.1.c9,a1c.1.b9,a1c.1.a9,a1c.2,m7 (i-1))))
theorem e3S(pick num i)(lc:H8 a1b (b8i pick num) (c9T pick num)):NL lc (c4r pick num i) (fun s=>b9l pick i s.1 s.2.1 s.2.2.1 s.2.2.2.1 s.2.2.2.2):=fun (out5,Nodes4,Net4,Asked4,Told4) h=>PK<|rg<|j8 a1y a1S 4 h fun a1c h=>E9 Nodes4 Net4 Asked4 Told4<|s4 out5<|rg<|(lc.nx h fun hI=>sk [] [0,2,4,6,8,9] [(2,0),(7,0),(12,3),(12,2),(12,1),(12,0),(12,4)] hI)
def e2c(pick:Int×s6)(num:Int×s6)(i:Int):((List p6)×(List j5)×(List j7)×(List u5)×List m8)->KS:=fun (out4,Nodes3,Net3,Asked3,Told3)=>⟨a1b.k 4 [true],(.ptr 0 0 0::(bs 1 (.own 1 0 3 0 out4.length::(bs 1 (.ptr 2 0 0::(bs 1 (.ptr 7 0 0::(bs 1 (vi pick.1::(vi i::(bs 51 []))))))))))),[some [.var 94 [j9 1 H7 num.2.b,vi num.2.p],.dead,.dead,.dead,.dead,.dead],some [l9 58 3 F6 out4],some [.var 28 [.own 3 0 27 0 Nodes3.length,.own 4 0 13 0 Net3.length,.own 5 0 3 0 Asked3.length,.own 6 0 5 0 Told3.length]],some [B5 53 27 w9 Nodes3],some [l9 68 13 p9 Net3],some [l9 70 3 z8 Asked3],some [l9 40 5 u9 Told3],some [.var 28 [.nil,.nil,.nil,.nil]]]⟩
def a4A(out4:List p6)(Nodes3:List j5)(Net3:List j7)(Asked3:List u5)(Told3:List m8):Option (l7 (m5×(List p6)×s6) ((List p6)×(List j5)×(List j7)×(List u5)×List m8) ((List p6)×(List j5)×(List j7)×(List u5)×List m8)) :=
 (bif decide ((Net3.length:Int)>0) then ((a0L (m5.mk Nodes3 Net3 Asked3 Told3) out4 (p6.mk 3 0 [])).bind fun a1l=>some (l7.nxt (a1l.2,a1l.1.a9,a1l.1.b9,a1l.1.c9,a1l.1.Told))) else some (l7.brk (out4,Nodes3,Net3,Asked3,Told3)))
theorem e0B(pick num i):LQ a1b (c4r pick num i) (e2c pick num i) (fun s=>a4A s.1 s.2.1 s.2.2.1 s.2.2.2.1 s.2.2.2.2):=fun lc (out4,Nodes3,Net3,Asked3,Told3) h=>PK<|rg<|j4 3 h (fun h=>rg<|j8 a1y a1S 3 h fun a1l h=>E9 Nodes3 Net3 Asked3 Told3<|s4 out4<|(lc.nx h fun hI=>sk [] [0,2,4,6,8,9] [(15,4),(2,0),(15,0),(15,1),(15,2),(15,3),(7,0)] hI)) (fun h=>(lc.bk h fun hI=>sk [] [0,2,4,6,8,9] [(1,0),(2,0),(3,0),(4,0),(5,0),(6,0),(7,0)] hI))
def a8w(pick:Int×s6)(Told:List m8)(c9:List u5)(b9:List j7)(a9:List j5)(out1:List p6)(i:Int):Option (l7 (m5×(List p6)×s6) ((List m8)×(List u5)×(List j7)×(List j5)×(List p6)×Int) ((List p6)×(List j5)×(List j7)×(List u5)×List m8)) :=
 (bif decide (i>0) then ((o9 (fun s:(List p6)×(List j5)×(List j7)×(List u5)×List m8=>a4A s.1 s.2.1 s.2.2.1 s.2.2.2.1 s.2.2.2.2) (out1,a9,b9,c9,Told)).bind fun x=>x.go (fun r=>some (l7.ret r)) fun s=>b9l pick i s.1 s.2.1 s.2.2.1 s.2.2.2.1 s.2.2.2.2) else some (l7.brk (out1,a9,b9,c9,Told)))
theorem e2D(pick num):LQ a1b (b8i pick num) (c9T pick num) (fun s=>a8w pick s.1 s.2.1 s.2.2.1 s.2.2.2.1 s.2.2.2.2.1 s.2.2.2.2.2):=fun lc (Told,c9,b9,a9,out1,i) h=>PK<|rg<|j4 1 h (fun h=>lp (e0B pick num i) h (fun _ h=>lc.rt h) (e3S pick num i lc) fun hI=>sk [] [0,2,4,6,8,9] [(7,0),(1,0),(6,0),(5,0),(4,0),(3,0),(2,0)] hI) (fun h=>(lc.bk h fun hI=>sk [] [0,2,4,6,8] [(7,0),(1,0),(6,0),(5,0),(4,0),(3,0),(2,0)] hI))
def b6j(r_:s6)(w:m5)(out:List p6):Option (m5×(List p6)×s6) :=
 ((D5 r_ 3).bind fun pick=>((a49 pick.2 [3,8,20]).bind fun num=>((o9 (fun s:(List m8)×(List u5)×(List j7)×(List j5)×(List p6)×Int=>a8w pick s.1 s.2.1 s.2.2.1 s.2.2.2.1 s.2.2.2.2.1 s.2.2.2.2.2) (w.Told,w.c9,w.b9,w.a9,out,num.1)).bind fun x=>x.go (fun r=>some r) fun s=>b8o pick num s.1 s.2.1 s.2.2.1 s.2.2.2.1 s.2.2.2.2)))
theorem d6m{r_ w out}:OK a1b [.optr 94 (W5 r_),.agg (P9 w),t7 58 3 F6 out] (b6j r_ w out) :=
 n7 _ fun r h=>n5<|j8 E0 E4 1 h fun pick h=>rg<|tk 1 []<|j8 a9a b0v 2 h fun num h=>om (3=[3,8,20].length) (by simp)<|lp (e2D pick num) h (fun _ h=>a1b.rt h) (e0g pick num r) fun hI=>sk [] [0,2,4,6,8,9] [(1,0),(2,0),(0,4),(0,3),(0,2),(0,1),(0,5)] hI
def W8:FS ((List p6)×s6):=⟨15,Tryz.f15,[.val [some 3] [some 58]],[some (0,.ptr [some 1,none] [])],[.ptr [some 1,none] []],fun r=>t7 58 3 F6 r.1,fun r=>[some (.optr 94 (W5 r.2))],Tryz.func15⟩
def e0Z:(s6×(List j5)×(List j7)×(List u5)×(List m8)×List p6)->KS:=fun (r_1,a9,b9,c9,Told,out)=>⟨W8.k 5 [false,true],(.ptr 0 0 0::(bs 2 (.ptr 1 0 0::(.own 6 0 3 0 out.length::(bs 126 []))))),[some [.var 94 [j9 1 H7 r_1.b,vi r_1.p]],some [.var 28 [.own 2 0 27 0 a9.length,.own 3 0 13 0 b9.length,.own 4 0 3 0 c9.length,.own 5 0 5 0 Told.length]],some [B5 53 27 w9 a9],some [l9 68 13 p9 b9],some [l9 70 3 z8 c9],some [l9 40 5 u9 Told],some [l9 58 3 F6 out]]⟩
def b6S:(s6×List p6)->KS:=fun (w,out2)=>⟨W8.k 7 [false,true,false],(bs 4 (.own 1 0 3 0 out2.length::(bs 126 []))),[some [.var 94 [j9 1 H7 w.b,vi w.p]],some [l9 58 3 F6 out2]]⟩
def d0r(w:s6)(out2:List p6):Option ((List p6)×s6) :=
 some (out2,w)
theorem d4D(r):NF W8 r b6S (fun s=>d0r s.1 s.2):=fun (w,out2) h=>PK<|rg<|s4 out2<|fE h
def c2o:(s6×(List j5)×(List j7)×(List u5)×(List m8)×(List p6)×Int)->KS:=fun (r_2,Nodes1,Net1,Asked1,Told1,out1,i)=>⟨W8.k 6 [false,true],(.ptr 0 0 0::(bs 2 (.ptr 1 0 0::(.own 6 0 3 0 out1.length::(vi i::(bs 125 [])))))),[some [.var 94 [j9 1 H7 r_2.b,vi r_2.p]],some [.var 28 [.own 2 0 27 0 Nodes1.length,.own 3 0 13 0 Net1.length,.own 4 0 3 0 Asked1.length,.own 5 0 5 0 Told1.length]],some [B5 53 27 w9 Nodes1],some [l9 68 13 p9 Net1],some [l9 70 3 z8 Asked1],some [l9 40 5 u9 Told1],some [l9 58 3 F6 out1]]⟩
def c0Z(i:Int):(s6×(List j5)×(List j7)×(List u5)×(List m8)×List p6)->KS:=fun (r_4,Nodes3,Net3,Asked3,Told3,out4)=>⟨W8.k 9 [false,true,true,false],(.ptr 0 0 0::(bs 2 (.ptr 1 0 0::(.own 6 0 3 0 out4.length::(vi i::(bs 125 [])))))),[some [.var 94 [j9 1 H7 r_4.b,vi r_4.p]],some [.var 28 [.own 2 0 27 0 Nodes3.length,.own 3 0 13 0 Net3.length,.own 4 0 3 0 Asked3.length,.own 5 0 5 0 Told3.length]],some [B5 53 27 w9 Nodes3],some [l9 68 13 p9 Net3],some [l9 70 3 z8 Asked3],some [l9 40 5 u9 Told3],some [l9 58 3 F6 out4]]⟩
def d9T(i:Int):(s6×(List j5)×(List j7)×(List u5)×(List m8)×List p6)->KS:=fun (r_5,Nodes4,Net4,Asked4,Told4,out5)=>⟨W8.k 12 [false,true,true,false,true],(.ptr 0 0 0::(bs 2 (.ptr 1 0 0::(.own 6 0 3 0 out5.length::(vi i::(bs 125 [])))))),[some [.var 94 [j9 1 H7 r_5.b,vi r_5.p]],some [.var 28 [.own 2 0 27 0 Nodes4.length,.own 3 0 13 0 Net4.length,.own 4 0 3 0 Asked4.length,.own 5 0 5 0 Told4.length]],some [B5 53 27 w9 Nodes4],some [l9 68 13 p9 Net4],some [l9 70 3 z8 Asked4],some [l9 40 5 u9 Told4],some [l9 58 3 F6 out5]]⟩
def b71(i:Int)(r_5:s6)(Nodes4:List j5)(Net4:List j7)(Asked4:List u5)(Told4:List m8)(out5:List p6):Option (l7 ((List p6)×s6) (s6×(List j5)×(List j7)×(List u5)×(List m8)×(List p6)×Int) (s6×List p6)) :=
 ((D5 r_5 3).bind fun a15=>((a0L (m5.mk Nodes4 Net4 Asked4 Told4) out5 (p6.mk 6 a15.1 [])).bind fun a1c=>some (l7.nxt (a15.2,a1c.1.a9,a1c.1.b9,a1c.1.c9,a1c.1.Told,a1c.2,m7 (i-1)))))
theorem d9u(i)(lc:H8 W8 b6S c2o):NL lc (d9T i) (fun s=>b71 i s.1 s.2.1 s.2.2.1 s.2.2.2.1 s.2.2.2.2.1 s.2.2.2.2.2):=fun (r_5,Nodes4,Net4,Asked4,Told4,out5) h=>PK<|rg<|j8 E0 E4 3 h fun a15 h=>j8 a1y a1S 5 h fun a1c h=>E9 Nodes4 Net4 Asked4 Told4<|s4 out5<|rg<|(lc.nx h fun hI=>sk [] [0,3,4,5] [(1,0),(12,0),(12,1),(12,2),(12,3),(12,4)] hI)
def c0W(i:Int)(r_4:s6)(Nodes3:List j5)(Net3:List j7)(Asked3:List u5)(Told3:List m8)(out4:List p6):Option (l7 ((List p6)×s6) (s6×(List j5)×(List j7)×(List u5)×(List m8)×(List p6)×Int) (s6×List p6)) :=
 ((D5 r_4 4).bind fun U2=>(((bif (U2.1==0) then ((D5 U2.2 3).bind fun a7N=>((a0L (m5.mk Nodes3 Net3 Asked3 Told3) out4 (p6.mk 7 a7N.1 [])).bind fun a1l=>some (l8.brk (a7N.2,a1l.1.a9,a1l.1.b9,a1l.1.c9,a1l.1.Told,a1l.2)))) else (bif (U2.1==1) then ((D5 U2.2 3).bind fun a6J=>((a0L (m5.mk Nodes3 Net3 Asked3 Told3) out4 (p6.mk 5 a6J.1 [])).bind fun a8b=>some (l8.brk (a6J.2,a8b.1.a9,a8b.1.b9,a8b.1.c9,a8b.1.Told,a8b.2)))) else some (l8.brk (U2.2,Nodes3,Net3,Asked3,Told3,out4)))):Option (l8 (l7 ((List p6)×s6) (s6×(List j5)×(List j7)×(List u5)×(List m8)×(List p6)×Int) (s6×List p6)) (s6×(List j5)×(List j7)×(List u5)×(List m8)×List p6))).bind fun x=>x.go some fun j=>b71 i j.1 j.2.1 j.2.2.1 j.2.2.2.1 j.2.2.2.2.1 j.2.2.2.2.2))
theorem d9k(i)(lc:H8 W8 b6S c2o):NL lc (c0Z i) (fun s=>c0W i s.1 s.2.1 s.2.2.1 s.2.2.2.1 s.2.2.2.2.1 s.2.2.2.2.2):=fun (r_4,Nodes3,Net3,Asked3,Told3,out4) h=>PK<|rg<|j8 E0 E4 1 h fun U2 h=>B0 h (d9u i lc) fun x2 h hc2=>rg<|j4 1 h (fun h=>rg<|j8 E0 E4 3 h fun a7N h=>j8 a1y a1S 5 h fun a1l h=>E9 Nodes3 Net3 Asked3 Told3<|s4 out4<|(o6 h hc2 fun hI=>sk [] [0,3,4,5] [(1,0),(16,0),(16,1),(16,2),(16,3),(16,4)] hI)) (fun h=>rg<|j4 1 h (fun h=>rg<|j8 E0 E4 3 h fun a6J h=>j8 a1y a1S 5 h fun a8b h=>E9 Nodes3 Net3 Asked3 Told3<|s4 out4<|(o6 h hc2 fun hI=>sk [] [0,3,4,5] [(1,0),(18,0),(18,1),(18,2),(18,3),(18,4)] hI)) (fun h=>(o6 h hc2 fun hI=>sk [] [0,3,4,5] [(1,0),(2,0),(3,0),(4,0),(5,0),(6,0)] hI)))
def c5C(i:Int):(s6×(List j5)×(List j7)×(List u5)×(List m8)×List p6)->KS:=fun (r_3,Nodes2,Net2,Asked2,Told2,out3)=>⟨W8.k 8 [false,true,true],(.ptr 0 0 0::(bs 2 (.ptr 1 0 0::(.own 6 0 3 0 out3.length::(vi i::(bs 125 [])))))),[some [.var 94 [j9 1 H7 r_3.b,vi r_3.p]],some [.var 28 [.own 2 0 27 0 Nodes2.length,.own 3 0 13 0 Net2.length,.own 4 0 3 0 Asked2.length,.own 5 0 5 0 Told2.length]],some [B5 53 27 w9 Nodes2],some [l9 68 13 p9 Net2],some [l9 70 3 z8 Asked2],some [l9 40 5 u9 Told2],some [l9 58 3 F6 out3]]⟩
def e7C(i:Int):(s6×(List j5)×(List j7)×(List u5)×(List m8)×List p6)->KS:=fun (r_6,Nodes5,Net5,Asked5,Told5,out6)=>⟨W8.k 11 [false,true,true,true,true],(.ptr 0 0 0::(bs 2 (.ptr 1 0 0::(.own 6 0 3 0 out6.length::(vi i::(bs 125 [])))))),[some [.var 94 [j9 1 H7 r_6.b,vi r_6.p]],some [.var 28 [.own 2 0 27 0 Nodes5.length,.own 3 0 13 0 Net5.length,.own 4 0 3 0 Asked5.length,.own 5 0 5 0 Told5.length]],some [B5 53 27 w9 Nodes5],some [l9 68 13 p9 Net5],some [l9 70 3 z8 Asked5],some [l9 40 5 u9 Told5],some [l9 58 3 F6 out6]]⟩
def b5g(r_6:s6)(Nodes5:List j5)(Net5:List j7)(Asked5:List u5)(Told5:List m8)(out6:List p6):Option (l7 ((List p6)×s6) (s6×(List j5)×(List j7)×(List u5)×(List m8)×List p6) (s6×(List j5)×(List j7)×(List u5)×(List m8)×List p6)) :=
 ((D5 r_6 (Net5.length:Int)).bind fun a3H=>((a49 a3H.2 [0,0,a3H.1]).bind fun a7i=>((a0L (m5.mk Nodes5 Net5 Asked5 Told5) out6 (p6.mk 2 a7i.1 [])).bind fun a9t=>some (l7.nxt (a7i.2,a9t.1.a9,a9t.1.b9,a9t.1.c9,a9t.1.Told,a9t.2)))))
theorem e5m(i)(lc:H8 W8 (c0Z i) (c5C i)):NL lc (e7C i) (fun s=>b5g s.1 s.2.1 s.2.2.1 s.2.2.2.1 s.2.2.2.2.1 s.2.2.2.2.2):=fun (r_6,Nodes5,Net5,Asked5,Told5,out6) h=>PK<|rg<|j8 E0 E4 7 h fun a3H h=>tk 8 []<|j8 a9a b0v 9 h fun a7i h=>om (3=[0,0,a3H.1].length) (by simp)<|j8 a1y a1S 11 h fun a9t h=>E9 Nodes5 Net5 Asked5 Told5<|s4 out6<|(lc.nx h fun hI=>sk [] [0,3,4,5] [(1,0),(18,0),(18,1),(18,2),(18,3),(18,4)] hI)
def b1e(r_3:s6)(Nodes2:List j5)(Net2:List j7)(Asked2:List u5)(Told2:List m8)(out3:List p6):Option (l7 ((List p6)×s6) (s6×(List j5)×(List j7)×(List u5)×(List m8)×List p6) (s6×(List j5)×(List j7)×(List u5)×(List m8)×List p6)) :=
 (bif decide ((Net2.length:Int)>0) then ((D5 r_3 9).bind fun a3Q=>(bif decide (a3Q.1>0) then (bif decide ((out3.length:Int)<200) then ((((D5 a3Q.2 8).bind fun a4S=>(bif (a4S.1==0) then ((D5 a4S.2 (Net2.length:Int)).bind fun a5g=>((a0L (m5.mk Nodes2 Net2 Asked2 Told2) out3 (p6.mk 4 a5g.1 [])).bind fun a8X=>some (l8.brk (a5g.2,a8X.1.a9,a8X.1.b9,a8X.1.c9,a8X.1.Told,a8X.2)))) else some (l8.brk (a4S.2,Nodes2,Net2,Asked2,Told2,out3)))):Option (l8 (l7 ((List p6)×s6) (s6×(List j5)×(List j7)×(List u5)×(List m8)×List p6) (s6×(List j5)×(List j7)×(List u5)×(List m8)×List p6)) (s6×(List j5)×(List j7)×(List u5)×(List m8)×List p6))).bind fun x=>x.go some fun j=>b5g j.1 j.2.1 j.2.2.1 j.2.2.2.1 j.2.2.2.2.1 j.2.2.2.2.2) else some (l7.brk (a3Q.2,Nodes2,Net2,Asked2,Told2,out3))) else some (l7.brk (a3Q.2,Nodes2,Net2,Asked2,Told2,out3)))) else some (l7.brk (r_3,Nodes2,Net2,Asked2,Told2,out3)))
theorem e7o(i):LQ W8 (c0Z i) (c5C i) (fun s=>b1e s.1 s.2.1 s.2.2.1 s.2.2.2.1 s.2.2.2.2.1 s.2.2.2.2.2):=fun lc (r_3,Nodes2,Net2,Asked2,Told2,out3) h=>PK<|rg<|j4 4 h (fun h=>j8 E0 E4 6 h fun a3Q h=>j4 9 h (fun h=>j4 13 h (fun h=>B0 h (e5m i lc) fun x3 h hc3=>rg<|j8 E0 E4 1 h fun a4S h=>j4 2 h (fun h=>rg<|j8 E0 E4 6 h fun a5g h=>j8 a1y a1S 8 h fun a8X h=>E9 Nodes2 Net2 Asked2 Told2<|s4 out3<|(o6 h hc3 fun hI=>sk [] [0,3,4,5] [(1,0),(32,0),(32,1),(32,2),(32,3),(32,4)] hI)) (fun h=>(o6 h hc3 fun hI=>sk [] [0,3,4,5] [(1,0),(2,0),(3,0),(4,0),(5,0),(6,0)] hI))) (fun h=>(lc.bk h fun hI=>sk [] [0,3,4,5] [(1,0),(2,0),(3,0),(4,0),(5,0),(6,0)] hI))) (fun h=>(lc.bk h fun hI=>sk [] [0,3,4,5] [(1,0),(2,0),(3,0),(4,0),(5,0),(6,0)] hI))) (fun h=>(lc.bk h fun hI=>sk [] [0,3,4,5] [(1,0),(2,0),(3,0),(4,0),(5,0),(6,0)] hI))
def a9J(r_2:s6)(Nodes1:List j5)(Net1:List j7)(Asked1:List u5)(Told1:List m8)(out1:List p6)(i:Int):Option (l7 ((List p6)×s6) (s6×(List j5)×(List j7)×(List u5)×(List m8)×(List p6)×Int) (s6×List p6)) :=
 (bif decide (i>0) then ((D5 r_2 3).bind fun W2=>((a3v W2.2).bind fun a3w=>((a0L (m5.mk Nodes1 Net1 Asked1 Told1) out1 (p6.mk 1 W2.1 a3w.1)).bind fun a0S=>((o9 (fun s:s6×(List j5)×(List j7)×(List u5)×(List m8)×List p6=>b1e s.1 s.2.1 s.2.2.1 s.2.2.2.1 s.2.2.2.2.1 s.2.2.2.2.2) (a3w.2,a0S.1.a9,a0S.1.b9,a0S.1.c9,a0S.1.Told,a0S.2)).bind fun x=>x.go (fun r=>some (l7.ret r)) fun s=>c0W i s.1 s.2.1 s.2.2.1 s.2.2.2.1 s.2.2.2.2.1 s.2.2.2.2.2)))) else some (l7.brk (r_2,out1)))
theorem d5t:LQ W8 b6S c2o (fun s=>a9J s.1 s.2.1 s.2.2.1 s.2.2.2.1 s.2.2.2.2.1 s.2.2.2.2.2.1 s.2.2.2.2.2.2):=fun lc (r_2,Nodes1,Net1,Asked1,Told1,out1,i) h=>PK<|rg<|j4 1 h (fun h=>rg<|j8 E0 E4 3 h fun W2 h=>j8 a1X b1x 5 h fun a3w h=>j8 a1y a1S 7 h fun a0S h=>E9 Nodes1 Net1 Asked1 Told1<|B8 out1 a3w.1<|lp (e7o i) h (fun _ h=>lc.rt h) (d9k i lc) fun hI=>sk [] [0,3,4,5] [(1,0),(16,0),(16,1),(16,2),(16,3),(16,4)] hI) (fun h=>(lc.bk h fun hI=>sk [] [4] [(6,0)] hI))
def b5U(r_1:s6)(a9:List j5)(b9:List j7)(c9:List u5)(Told:List m8)(out:List p6):Option ((List p6)×s6) :=
 ((D5 r_1 3).bind fun X6=>((o9 (fun s:s6×(List j5)×(List j7)×(List u5)×(List m8)×(List p6)×Int=>a9J s.1 s.2.1 s.2.2.1 s.2.2.2.1 s.2.2.2.2.1 s.2.2.2.2.2.1 s.2.2.2.2.2.2) (X6.2,a9,b9,c9,Told,out,m7 (3+X6.1))).bind fun x=>x.go (fun r=>some r) fun s=>d0r s.1 s.2))
theorem e1X(r):NF W8 r e0Z (fun s=>b5U s.1 s.2.1 s.2.2.1 s.2.2.2.1 s.2.2.2.2.1 s.2.2.2.2.2):=fun (r_1,a9,b9,c9,Told,out) h=>PK<|rg<|j8 E0 E4 1 h fun X6 h=>lp (d5t) h (fun _ h=>W8.rt h) (d4D r) fun hI=>sk [] [0,3,4,5] [(1,0),(2,0),(3,0),(4,0),(5,0),(6,0)] hI
def b27(r_:s6):Option ((List p6)×s6) :=
 ((b1U).bind fun a9F=>((D5 r_ 3).bind fun pick=>((a0L a9F [] (p6.mk 5 pick.1 [])).bind fun Q0=>((D5 pick.2 3).bind fun D4=>(bif decide (D4.1>0) then ((a49 D4.2 [10,30,60,90]).bind fun num=>((b4J num.2 Q0.1 num.1).bind fun a60=>(s7 ((Q0.2.length+a60.1.length)*40<=140737488355328) (some (Q0.2++a60.1,a60.2))))) else ((((D5 D4.2 5).bind fun a5j=>(bif (a5j.1==0) then ((b6j a5j.2 Q0.1 Q0.2).bind fun a6l=>some (l8.brk (a6l.2.2,a6l.1.a9,a6l.1.b9,a6l.1.c9,a6l.1.Told,a6l.2.1))) else some (l8.brk (a5j.2,Q0.1.a9,Q0.1.b9,Q0.1.c9,Q0.1.Told,Q0.2)))):Option (l8 ((List p6)×s6) (s6×(List j5)×(List j7)×(List u5)×(List m8)×List p6))).bind fun x=>x.go some fun j=>b5U j.1 j.2.1 j.2.2.1 j.2.2.2.1 j.2.2.2.2.1 j.2.2.2.2.2))))))
theorem e3Z{r_}:OK W8 [.optr 94 (W5 r_)] (b27 r_) :=
 n7 _ fun r h=>n5<|j8 a5I c6I 0 h fun a9F h=>j8 E0 E4 2 h fun pick h=>j8 a1y a1S 4 h fun Q0 h=>A2 a9F<|rg<|j8 E0 E4 1 h fun D4 h=>j4 2 h (fun h=>rg<|tk 4 []<|j8 a9a b0v 5 h fun num h=>om (4=[10,30,60,90].length) (by simp)<|j8 a4k e1t 6 h fun a60 h=>A2 Q0.1<|s9 h fun e1 h=>apL 7 23 58 3 40 F6 Q0.2 a60.1 e1<|B8 a60.1 (Q0.2++a60.1)<|fE h) (fun h=>B0 h (e1X r) fun x1 h hc1=>rg<|j8 E0 E4 1 h fun a5j h=>j4 2 h (fun h=>rg<|j8 a1b d6m 3 h fun a6l h=>A2 Q0.1<|s4 Q0.2<|(o6 h hc1 fun hI=>sk [] [0,3,4] [(10,0),(22,0),(22,1),(22,2),(22,3),(22,4)] hI)) (fun h=>(o6 h hc1 fun hI=>sk [] [0,3,4] [(10,0),(6,0),(6,1),(6,2),(6,3),(6,4)] hI)))
def c2v:FS (List p6):=⟨6,Tryz.f6,[.val [some 3] []],[none],[.val [some 1] []],fun r=>j9 3 F6 r,fun _=>[none],Tryz.func6⟩
def a96(code:List Int):Option (List p6) :=
 ((b7U code).bind fun c8I=>((b27 c8I).bind fun c1G=>some c1G.1))
theorem d1P{code}:OK c2v [j9 1 H7 code] (a96 code) :=
 n7 _ fun r h=>n5<|j8 b4g d72 1 h fun c8I h=>j8 W8 e3Z 2 h fun c1G h=>s4 c1G.1<|fE h
def a6r:FS (Bool):=⟨137,Tryz.f137,[.val [] []],[none,none],[.val [some 2] [],.val [some 2] []],fun r=>.b r,fun _=>[none,none],Tryz.func137⟩
def c4o:Unit->KS:=fun _=>⟨a6r.k 4 [false,false],(bs 26 []),[some []]⟩
def c28:Option Bool :=
 some true
theorem e63(r):NF a6r r c4o (fun s=>c28):=fun _ h=>PK<|rg<|fE h
def d9m(a:List p7)(b:List p7):Int->KS:=fun v13=>⟨a6r.k 3 [false],(j9 2 t8 a::(j9 2 t8 b::(bs 10 (vi (a.length:Int)::(vi v13::(bs 12 [])))))),[some []]⟩
def b7s(a:List p7)(b:List p7)(v13:Int):Option (l7 Bool Int Unit) :=
 (bif decide (v13<(a.length:Int)) then ((idx a v13).bind fun read=>((idx b v13).bind fun P8=>(bif (!(([read.i6,read.j3]:List Int)==[P8.i6,P8.j3])) then some (l7.ret false) else some (l7.nxt (m7 (v13+1)))))) else some (l7.brk ()))
theorem d2X(a b):LQ a6r c4o (d9m a b) (fun s=>b7s a b s):=fun lc v13 h=>PK<|rg<|j4 0 h (fun h=>n5<|v5 t8 2 h fun read a2O h=>v5 t8 6 h fun P8 d1w h=>j4 8 h (fun h=>rg<|fL lc h) (fun h=>rg<|(lc.nx h fun hI=>sk [] [0,1,12,13] [] hI))) (fun h=>(lc.bk h fun hI=>sk [] [] [] hI))
def b26(a:List p7)(b:List p7):Option Bool :=
 (bif ((a.length:Int) != (b.length:Int)) then some false else ((o9 (fun s:Int=>b7s a b s) 0).bind fun x=>x.go (fun r=>some r) fun s=>c28))
theorem d7X{a b}:OK a6r [j9 2 t8 a,j9 2 t8 b] (b26 a b) :=
 n7 _ fun r h=>n5<|j4 4 h (fun h=>rg<|fE h) (fun h=>rg<|lp (d2X a b) h (fun _ h=>a6r.rt h) (e63 r) fun hI=>sk [] [0,1,12,13] [] hI)
def a72:FS (Bool):=⟨138,Tryz.f138,[.val [] []],[none,none],[.val [some 2] [],.val [some 2] []],fun r=>.b r,fun _=>[none,none],Tryz.func138⟩
def d2z:Unit->KS:=fun _=>⟨a72.k 4 [false,false],(bs 26 []),[some []]⟩
def c9H:Option Bool :=
 some true
theorem d9o(r):NF a72 r d2z (fun s=>c9H):=fun _ h=>PK<|rg<|fE h
def e7I(a:List n8)(b:List n8):Int->KS:=fun v13=>⟨a72.k 3 [false],(j9 2 t9 a::(j9 2 t9 b::(bs 10 (vi (a.length:Int)::(vi v13::(bs 12 [])))))),[some []]⟩
def b74(a:List n8)(b:List n8)(v13:Int):Option (l7 Bool Int Unit) :=
 (bif decide (v13<(a.length:Int)) then ((idx a v13).bind fun put=>((idx b v13).bind fun put1=>(bif (!(([put.i6,put.f0]:List Int)==[put1.i6,put1.f0])) then some (l7.ret false) else some (l7.nxt (m7 (v13+1)))))) else some (l7.brk ()))
theorem d92(a b):LQ a72 d2z (e7I a b) (fun s=>b74 a b s):=fun lc v13 h=>PK<|rg<|j4 0 h (fun h=>n5<|v5 t9 2 h fun put hput h=>v5 t9 6 h fun put1 b1T h=>j4 8 h (fun h=>rg<|fL lc h) (fun h=>rg<|(lc.nx h fun hI=>sk [] [0,1,12,13] [] hI))) (fun h=>(lc.bk h fun hI=>sk [] [] [] hI))
def b7R(a:List n8)(b:List n8):Option Bool :=
 (bif ((a.length:Int) != (b.length:Int)) then some false else ((o9 (fun s:Int=>b74 a b s) 0).bind fun x=>x.go (fun r=>some r) fun s=>c9H))
theorem e5z{a b}:OK a72 [j9 2 t9 a,j9 2 t9 b] (b7R a b) :=
 n7 _ fun r h=>n5<|j4 4 h (fun h=>rg<|fE h) (fun h=>rg<|lp (d92 a b) h (fun _ h=>a72.rt h) (d9o r) fun hI=>sk [] [0,1,12,13] [] hI)
def c6d:FS (Bool):=⟨86,Tryz.f86,[.val [] []],[none,none],[.val M7 [],.val M7 []],fun r=>.b r,fun _=>[none,none],Tryz.func86⟩
def b5C(a:m9)(b:m9):Option Bool :=
 ((b26 a.b5 b.b5).bind fun read=>(bif read then ((b7R a.b7 b.b7).bind fun put=>(bif put then (bif (a.f0==b.f0) then some (a.Code==b.Code) else some false) else some false)) else some false))
theorem e2E{a b}:OK c6d [.agg (O6 a),.agg (O6 b)] (b5C a b) :=
 n7 _ fun r h=>n5<|j8 a6r d7X 4 h fun read h=>j4 5 h (fun h=>j8 a72 e5z 10 h fun put h=>j4 12 h (fun h=>j4 19 h (fun h=>fE h) (fun h=>fE h)) (fun h=>fE h)) (fun h=>fE h)
def a2l:FS (Bool):=⟨48,Tryz.f48,[.val [] []],[none,none],[.val I4 [],.val I4 []],fun r=>.b r,fun _=>[none,none],Tryz.func48⟩
def Z1(a:m4)(b:m4):Option Bool :=
 (bif (a.i8==b.i8) then (bif (([a.a0.d6,a.a0.Seq]:List Int)==[b.a0.d6,b.a0.Seq]) then ((b5C a.b8 b.b8).bind fun a1P=>some a1P) else some false) else some false)
theorem a24{a b}:OK a2l [.agg (s8 a),.agg (s8 b)] (Z1 a b) :=
 n7 _ fun r h=>n5<|j4 5 h (fun h=>j4 12 h (fun h=>j8 c6d e2E 17 h fun a1P h=>fE h) (fun h=>fE h)) (fun h=>fE h)
def a9c:FS (Bool):=⟨28,Tryz.f28,[.val [] []],[none],[.val [] []],fun r=>.b r,fun _=>[none],Tryz.func28⟩
def a6b(q:p8):Option Bool :=
 ((C0 q.d6 0 2).bind fun in_=>(bif in_ then ((C0 q.Seq 1 1000).bind fun in_1=>some in_1) else some false))
theorem b0b{q}:OK a9c [.agg (Y5 q)] (a6b q) :=
 n7 _ fun r h=>n5<|j8 B9 D1 2 h fun in_ h=>j4 3 h (fun h=>j8 B9 D1 6 h fun in_1 h=>fE h) (fun h=>fE h)
def Y0:FS (Bool):=⟨109,Tryz.f109,[.val [] []],[none],[.val M7 []],fun r=>.b r,fun _=>[none],Tryz.func109⟩
def d5D(r_:m9):Unit->KS:=fun _=>⟨Y0.k 2 [false],(bs 1 (.ptr 1 0 0::(bs 98 []))),[some [],some [.var 49 (a0n r_)]]⟩
def c3J(r_:m9):Unit->KS:=fun _=>⟨Y0.k 5 [false,false],(bs 1 (.ptr 1 0 0::(bs 2 (.ptr 2 0 0::(bs 95 []))))),[some [],some [.var 49 (a0n r_)],some [.arr 165 1 4 ((e8E 4 false).map eB)]]⟩
def d19:Unit->KS:=fun _=>⟨Y0.k 7 [false,false,false],(bs 100 []),[some []]⟩
def d2D:Option Bool :=
 some true
theorem d73(r):NF Y0 r d19 (fun s=>d2D):=fun _ h=>PK<|rg<|fE h
def d7H(r_:m9):((List Bool)×Int)->KS:=fun (put,v76)=>⟨Y0.k 6 [false,false],(bs 4 (.ptr 1 0 0::(bs 69 (j9 2 t9 r_.b7::(vi (r_.b7.length:Int)::(vi v76::(bs 23 []))))))),[some [],some [.arr 165 1 4 (put.map eB)]]⟩
def a9h(r_:m9)(put:List Bool)(v76:Int):Option (l7 Bool ((List Bool)×Int) Unit) :=
 (bif decide (v76<(r_.b7.length:Int)) then ((idx r_.b7 v76).bind fun put1=>((C0 put1.i6 0 3).bind fun in_=>(bif (!in_) then some (l7.ret false) else ((idx put put1.i6).bind fun y=>(s7 (put1.i6<4) ((bif y then some (l7.ret false) else ((C0 put1.f0 (-1000000) 1000000).bind fun in_1=>(bif (!in_1) then some (l7.ret false) else (s7 (put1.i6<4) (some (l7.nxt (put.set put1.i6.toNat true,m7 (v76+1)))))))))))))) else some (l7.brk ()))
theorem e3g(r_):LQ Y0 d19 (d7H r_) (fun s=>a9h r_ s.1 s.2):=fun lc (put,v76) h=>PK<|rg<|j4 0 h (fun h=>rg<|v5 t9 0 h fun put1 b1T h=>rg<|j8 B9 D1 2 h fun in_ h=>j4 4 h (fun h=>rg<|fL lc h) (fun h=>A4 h fun y hy h=>s9 h fun e1 h=>ob (M6 hy)<|ob e1<|ob (R8 (enc:=eB) hy)<|tl (tr 8 (eB y))<|j4 10 h (fun h=>rg<|fL lc h) (fun h=>j8 B9 D1 13 h fun in_1 h=>j4 15 h (fun h=>rg<|fL lc h) (fun h=>rg<|s9 h fun e2 h=>ob (M6 hy)<|ob e2<|om (r9.arr 165 1 4 ((put.map eB).set (put1.i6.toNat) [.b true])=r9.arr 165 1 4 ((put.set put1.i6.toNat true).map eB)) (a6v rfl)<|ob (R8 (enc:=eB) hy)<|tl (3,{a:=.rowck (eB y) [],e:=some (.arr 165 1 4 ((put.set put1.i6.toNat true).map eB))})<|rg<|(lc.nx h fun hI=>sk [] [4,74,75,76] [(1,0)] hI))))) (fun h=>(lc.bk h fun hI=>sk [] [] [] hI))
def b78(r_:m9):Option Bool :=
 ((o9 (fun s:(List Bool)×Int=>a9h r_ s.1 s.2) (e8E 4 false,0)).bind fun x=>x.go (fun r=>some r) fun s=>d2D)
theorem e1H(r_)(r):NF Y0 r (c3J r_) (fun s=>b78 r_):=fun _ h=>PK<|rg<|lp (e3g r_) h (fun _ h=>Y0.rt h) (d73 r) fun hI=>sk [] [4,74,75,76] [(2,0)] hI
def d7t(r_:m9):((List Bool)×Int)->KS:=fun (read,v49)=>⟨Y0.k 4 [false],(bs 1 (.ptr 1 0 0::(bs 1 (.ptr 2 0 0::(.ptr 3 0 0::(bs 42 (j9 2 t8 r_.b5::(vi (r_.b5.length:Int)::(vi v49::(bs 50 [])))))))))),[some [],some [.var 49 (a0n r_)],some [.arr 165 1 4 (read.map eB)],some [.arr 165 1 4 ((e8E 4 false).map eB)]]⟩
def a9G(r_:m9)(read:List Bool)(v49:Int):Option (l7 Bool ((List Bool)×Int) Unit) :=
 (bif decide (v49<(r_.b5.length:Int)) then ((idx r_.b5 v49).bind fun P8=>((C0 P8.i6 0 3).bind fun in_2=>(bif (!in_2) then some (l7.ret false) else ((idx read P8.i6).bind fun y1=>(s7 (P8.i6<4) ((bif y1 then some (l7.ret false) else ((C0 P8.j3 0 1000000).bind fun Y3=>(bif (!Y3) then some (l7.ret false) else (s7 (P8.i6<4) (some (l7.nxt (read.set P8.i6.toNat true,m7 (v49+1)))))))))))))) else some (l7.brk ()))
theorem e5v(r_):LQ Y0 (c3J r_) (d7t r_) (fun s=>a9G r_ s.1 s.2):=fun lc (read,v49) h=>PK<|rg<|j4 0 h (fun h=>rg<|v5 t8 0 h fun P8 d1w h=>rg<|j8 B9 D1 2 h fun in_2 h=>j4 4 h (fun h=>rg<|fL lc h) (fun h=>A4 h fun y1 hy1 h=>s9 h fun e3 h=>ob (M6 hy1)<|ob e3<|ob (R8 (enc:=eB) hy1)<|tl (tr 8 (eB y1))<|j4 10 h (fun h=>rg<|fL lc h) (fun h=>j8 B9 D1 13 h fun Y3 h=>j4 15 h (fun h=>rg<|fL lc h) (fun h=>rg<|s9 h fun e4 h=>ob (M6 hy1)<|ob e4<|om (r9.arr 165 1 4 ((read.map eB).set (P8.i6.toNat) [.b true])=r9.arr 165 1 4 ((read.set P8.i6.toNat true).map eB)) (a6v rfl)<|ob (R8 (enc:=eB) hy1)<|tl (3,{a:=.rowck (eB y1) [],e:=some (.arr 165 1 4 ((read.set P8.i6.toNat true).map eB))})<|rg<|(lc.nx h fun hI=>sk [] [1,3,4,47,48,49] [(1,0),(2,0),(3,0)] hI))))) (fun h=>(lc.bk h fun hI=>sk [] [1,4] [(1,0),(3,0)] hI))
def b7O(r_:m9):Option Bool :=
 ((o9 (fun s:(List Bool)×Int=>a9G r_ s.1 s.2) (e8E 4 false,0)).bind fun x=>x.go (fun r=>some r) fun s=>b78 r_)
theorem d56(r_)(r):NF Y0 r (d5D r_) (fun s=>b7O r_):=fun _ h=>PK<|rg<|om ((e8E 4 ([.b false]:List V)).flatten=[.b false,.b false,.b false,.b false]/\([.b false]:List V).length=1) ⟨rfl,rfl⟩<|om ((e8E 4 ([.b false]:List V)).flatten=[.b false,.b false,.b false,.b false]/\([.b false]:List V).length=1) ⟨rfl,rfl⟩<|rg<|lp (e5v r_) h (fun _ h=>Y0.rt h) (e1H r_ r) fun hI=>sk [] [1,3,4,47,48,49] [(1,0),(2,0),(3,0)] hI
def a9N(r_:m9):Option Bool :=
 ((((C0 r_.Code 0 3).bind fun a36=>(bif (!a36) then some (l8.ret false) else ((C0 r_.f0 (-1000000) 1000000).bind fun a9n=>(bif (!a9n) then some (l8.ret false) else (bif (r_.Code != 0) then (bif (r_.f0 != 0) then some (l8.ret false) else (bif decide ((r_.b7.length:Int)>0) then some (l8.ret false) else (bif (r_.Code==3) then (bif decide ((r_.b5.length:Int)>0) then some (l8.ret false) else some (l8.brk ())) else some (l8.brk ())))) else (bif (r_.Code==3) then (bif decide ((r_.b5.length:Int)>0) then some (l8.ret false) else some (l8.brk ())) else some (l8.brk ()))))))):Option (l8 Bool Unit)).bind fun x=>x.go some fun j=>b7O r_)
theorem b9O{r_}:OK Y0 [.agg (O6 r_)] (a9N r_) :=
 n7 _ fun r h=>rg<|B0 h (d56 r_ r) fun x1 h hc1=>rg<|j8 B9 D1 2 h fun a36 h=>j4 4 h (fun h=>rg<|(B4 h hc1 fun h=>fE h)) (fun h=>j8 B9 D1 7 h fun a9n h=>j4 10 h (fun h=>rg<|(B4 h hc1 fun h=>fE h)) (fun h=>j4 14 h (fun h=>j4 18 h (fun h=>rg<|(B4 h hc1 fun h=>fE h)) (fun h=>j4 26 h (fun h=>rg<|(B4 h hc1 fun h=>fE h)) (fun h=>j4 30 h (fun h=>j4 36 h (fun h=>rg<|(B4 h hc1 fun h=>fE h)) (fun h=>(o6 h hc1 fun hI=>sk [] [1] [(1,0)] hI))) (fun h=>(o6 h hc1 fun hI=>sk [] [1] [(1,0)] hI))))) (fun h=>j4 30 h (fun h=>j4 36 h (fun h=>rg<|(B4 h hc1 fun h=>fE h)) (fun h=>(o6 h hc1 fun hI=>sk [] [1] [(1,0)] hI))) (fun h=>(o6 h hc1 fun hI=>sk [] [1] [(1,0)] hI)))))
def a2u:FS (Bool):=⟨66,Tryz.f66,[.val [] []],[none],[.val I4 []],fun r=>.b r,fun _=>[none],Tryz.func66⟩
def a1j(e_:m4):Option Bool :=
 (bif e_.i8 then ((Z1 e_ (m4.mk true (p8.mk 0 0) (m9.mk [] [] 0 0))).bind fun I8=>some I8) else ((a6b e_.a0).bind fun a5t=>(bif a5t then ((a9N e_.b8).bind fun a0u=>(bif a0u then some (e_.b8.Code != 3) else some false)) else some false)))
theorem a3d{e_}:OK a2u [.agg (s8 e_)] (a1j e_) :=
 n7 _ fun r h=>n5<|j4 1 h (fun h=>rg<|j8 a2l a24 2 h fun I8 h=>fE h) (fun h=>rg<|j8 a9c b0b 2 h fun a5t h=>j4 3 h (fun h=>j8 Y0 b9O 6 h fun a0u h=>j4 8 h (fun h=>fE h) (fun h=>fE h)) (fun h=>fE h))
def c4V:FS (Bool):=⟨112,Tryz.f112,[.val [] []],[none],[.val S7 []],fun r=>.b r,fun _=>[none],Tryz.func112⟩
def b4h(v_:m6):Option Bool :=
 (bif (v_.a8==0) then ((Z1 v_.i0 (m4.mk false (p8.mk 0 0) (m9.mk [] [] 0 0))).bind fun I8=>some I8) else ((C0 v_.a8 1 3000).bind fun in_=>(bif in_ then ((a1j v_.i0).bind fun C8=>some C8) else some false)))
theorem d52{v_}:OK c4V [.agg (o7 v_)] (b4h v_) :=
 n7 _ fun r h=>n5<|j4 2 h (fun h=>rg<|j8 a2l a24 3 h fun I8 h=>fE h) (fun h=>rg<|j8 B9 D1 2 h fun in_ h=>j4 3 h (fun h=>j8 a2u a3d 6 h fun C8 h=>fE h) (fun h=>fE h))
def a1Q:FS (Bool):=⟨68,Tryz.f68,[.val [] []],[none],[.val [some 8] []],fun r=>.b r,fun _=>[none],Tryz.func68⟩
def c5t(list:List m6):Unit->KS:=fun _=>⟨a1Q.k 3 [false],(j9 8 o7 list::(bs 17 [])),[some []]⟩
def b9A(list:List m6):Option Bool :=
 some (decide ((list.length:Int)<=40))
theorem e6L(list)(r):NF a1Q r (c5t list) (fun s=>b9A list):=fun _ h=>PK<|rg<|fE h
def d6v(list:List m6):Int->KS:=fun v7=>⟨a1Q.k 2 [],(j9 8 o7 list::(bs 4 (j9 8 o7 list::(vi (list.length:Int)::(vi v7::(bs 10 [])))))),[some []]⟩
def b33(list:List m6)(v7:Int):Option (l7 Bool Int Unit) :=
 (bif decide (v7<(list.length:Int)) then ((idx list v7).bind fun vote=>((b4h vote).bind fun Y1=>(bif (!Y1) then some (l7.ret false) else some (l7.nxt (m7 (v7+1)))))) else some (l7.brk ()))
theorem e7H(list):LQ a1Q (c5t list) (d6v list) (fun s=>b33 list s):=fun lc v7 h=>PK<|rg<|j4 0 h (fun h=>rg<|v5 o7 0 h fun vote L7 h=>rg<|j8 c4V d52 1 h fun Y1 h=>j4 2 h (fun h=>rg<|fL lc h) (fun h=>rg<|(lc.nx h fun hI=>sk [] [0,5,6,7] [] hI))) (fun h=>(lc.bk h fun hI=>sk [] [0] [] hI))
def a4Y(list:List m6):Option Bool :=
 ((o9 (fun s:Int=>b33 list s) 0).bind fun x=>x.go (fun r=>some r) fun s=>b9A list)
theorem b1t{list}:OK a1Q [j9 8 o7 list] (a4Y list) :=
 n7 _ fun r h=>n5<|lp (e7H list) h (fun _ h=>a1Q.rt h) (e6L list r) fun hI=>sk [] [0,5,6,7] [] hI
def a3P:FS (Bool):=⟨64,Tryz.f64,[.val [] []],[none],[.val [none,some 8] []],fun r=>.b r,fun _=>[none],Tryz.func64⟩
def c9b(a:v6):Unit->KS:=fun _=>⟨a3P.k 3 [false],(bs 1 (.ptr 1 0 0::(bs 24 []))),[some [],some [.var 43 [vi a.i4,j9 8 o7 a.a5]]]⟩
def c0m(a:v6):Option Bool :=
 ((C0 a.i4 0 3000).bind fun in_=>(bif in_ then ((a4Y a.a5).bind fun K4=>some K4) else some false))
theorem d5a(a)(r):NF a3P r (c9b a) (fun s=>c0m a):=fun _ h=>PK<|rg<|j8 B9 D1 2 h fun in_ h=>j4 3 h (fun h=>j8 a1Q b1t 6 h fun K4 h=>fE h) (fun h=>fE h)
def d5m(a:v6):Int->KS:=fun v8=>⟨a3P.k 2 [],(bs 1 (.ptr 1 0 0::(bs 4 (j9 8 o7 a.a5::(vi (a.a5.length:Int)::(vi v8::(bs 17 []))))))),[some [],some [.var 43 [vi a.i4,j9 8 o7 a.a5]]]⟩
def b3M(a:v6)(v8:Int):Option (l7 Bool Int Unit) :=
 (bif decide (v8<(a.a5.length:Int)) then ((idx a.a5 v8).bind fun vote=>(bif decide (vote.a8>a.i4) then some (l7.ret false) else some (l7.nxt (m7 (v8+1))))) else some (l7.brk ()))
theorem e7y(a):LQ a3P (c9b a) (d5m a) (fun s=>b3M a s):=fun lc v8 h=>PK<|rg<|j4 0 h (fun h=>rg<|v5 o7 0 h fun vote L7 h=>rg<|j4 4 h (fun h=>rg<|fL lc h) (fun h=>rg<|(lc.nx h fun hI=>sk [] [1,6,7,8] [(1,0)] hI))) (fun h=>(lc.bk h fun hI=>sk [] [1] [(1,0)] hI))
def a8O(a:v6):Option Bool :=
 ((o9 (fun s:Int=>b3M a s) 0).bind fun x=>x.go (fun r=>some r) fun s=>c0m a)
theorem b85{a}:OK a3P [.agg (W9 a)] (a8O a) :=
 n7 _ fun r h=>n5<|lp (e7y a) h (fun _ h=>a3P.rt h) (d5a a r) fun hI=>sk [] [1,6,7,8] [(1,0)] hI
def a42:FS (Bool):=⟨65,Tryz.f65,[.val [] []],[none],[.val [some 7] []],fun r=>.b r,fun _=>[none],Tryz.func65⟩
def d1T(list:List m4):Unit->KS:=fun _=>⟨a42.k 3 [false],(j9 7 s8 list::(bs 17 [])),[some []]⟩
def c2U(list:List m4):Option Bool :=
 some (decide ((list.length:Int)<=40))
theorem d6b(list)(r):NF a42 r (d1T list) (fun s=>c2U list):=fun _ h=>PK<|rg<|fE h
def d5J(list:List m4):Int->KS:=fun v7=>⟨a42.k 2 [],(j9 7 s8 list::(bs 4 (j9 7 s8 list::(vi (list.length:Int)::(vi v7::(bs 10 [])))))),[some []]⟩
def b6K(list:List m4)(v7:Int):Option (l7 Bool Int Unit) :=
 (bif decide (v7<(list.length:Int)) then ((idx list v7).bind fun entry=>((a1j entry).bind fun C8=>(bif (!C8) then some (l7.ret false) else some (l7.nxt (m7 (v7+1)))))) else some (l7.brk ()))
theorem d3g(list):LQ a42 (d1T list) (d5J list) (fun s=>b6K list s):=fun lc v7 h=>PK<|rg<|j4 0 h (fun h=>rg<|v5 s8 0 h fun entry G9 h=>rg<|j8 a2u a3d 1 h fun C8 h=>j4 2 h (fun h=>rg<|fL lc h) (fun h=>rg<|(lc.nx h fun hI=>sk [] [0,5,6,7] [] hI))) (fun h=>(lc.bk h fun hI=>sk [] [0] [] hI))
def b0x(list:List m4):Option Bool :=
 ((o9 (fun s:Int=>b6K list s) 0).bind fun x=>x.go (fun r=>some r) fun s=>c2U list)
theorem c4P{list}:OK a42 [j9 7 s8 list] (b0x list) :=
 n7 _ fun r h=>n5<|lp (d3g list) h (fun _ h=>a42.rt h) (d6b list r) fun hI=>sk [] [0,5,6,7] [] hI
def a3j:FS (Bool):=⟨113,Tryz.f113,[.val [] []],[none],[.val [] []],fun r=>.b r,fun _=>[none],Tryz.func113⟩
def a2m(n:Int):Option Bool :=
 ((C0 n 0 3).bind fun in_=>some in_)
theorem a3R{n}:OK a3j [vi n] (a2m n) :=
 n7 _ fun r h=>n5<|j8 B9 D1 1 h fun in_ h=>fE h
def c1Q:FS (Bool):=⟨114,Tryz.f114,[.val [] []],[none],[.val [] []],fun r=>.b r,fun _=>[none],Tryz.func114⟩
def b6s(n:Int):Option Bool :=
 ((C0 n 0 3).bind fun in_=>some in_)
theorem c9w{n}:OK c1Q [vi n] (b6s n) :=
 n7 _ fun r h=>n5<|j8 B9 D1 1 h fun in_ h=>fE h
def c6p:FS (Bool):=⟨69,Tryz.f69,[.val [] []],[none],[.val [] []],fun r=>.b r,fun _=>[none],Tryz.func69⟩
def b3X(x_:o8):Option Bool :=
 (bif (x_.a7==1) then ((a2m x_.A).bind fun c1=>(bif c1 then ((b6s x_.B).bind fun c2=>(bif c2 then some (x_.N==0) else some false)) else some false)) else (bif (x_.a7==2) then ((b6s x_.A).bind fun c21=>(bif c21 then ((a2m x_.B).bind fun c11=>(bif c11 then some (x_.N==0) else some false)) else some false)) else (bif (x_.a7==3) then ((a2m x_.A).bind fun c12=>(bif c12 then (bif (x_.B==0) then ((C0 x_.N (-1000000) 1000000).bind fun in_=>some in_) else some false) else some false)) else (bif (x_.a7==4) then ((a2m x_.A).bind fun c13=>(bif c13 then ((a2m x_.B).bind fun c14=>(bif c14 then some (x_.N==0) else some false)) else some false)) else (bif (x_.a7==5) then ((a2m x_.A).bind fun c15=>(bif c15 then ((a2m x_.B).bind fun c16=>(bif c16 then some (x_.N==0) else some false)) else some false)) else (bif (x_.a7==6) then ((a2m x_.A).bind fun c17=>(bif c17 then ((a2m x_.B).bind fun c18=>(bif c18 then ((C0 x_.N 1 10).bind fun in_1=>some in_1) else some false)) else some false)) else (bif (x_.a7==7) then (bif (x_.A==0) then (bif (x_.B==0) then some (x_.N==0) else some false) else some false) else some false)))))))
theorem e2r{x_}:OK c6p [.agg (z0 x_)] (b3X x_) :=
 n7 _ fun r h=>rg4<|rg<|j4 1 h (fun h=>rg<|j8 a3j a3R 3 h fun c1 h=>j4 4 h (fun h=>j8 c1Q c9w 8 h fun c2 h=>j4 10 h (fun h=>fE h) (fun h=>fE h)) (fun h=>fE h)) (fun h=>rg<|j4 1 h (fun h=>rg<|j8 c1Q c9w 3 h fun c21 h=>j4 4 h (fun h=>j8 a3j a3R 8 h fun c11 h=>j4 10 h (fun h=>fE h) (fun h=>fE h)) (fun h=>fE h)) (fun h=>rg<|j4 1 h (fun h=>rg<|j8 a3j a3R 3 h fun c12 h=>j4 4 h (fun h=>j4 9 h (fun h=>j8 B9 D1 12 h fun in_ h=>fE h) (fun h=>fE h)) (fun h=>fE h)) (fun h=>rg<|j4 1 h (fun h=>rg<|j8 a3j a3R 3 h fun c13 h=>j4 4 h (fun h=>j8 a3j a3R 8 h fun c14 h=>j4 10 h (fun h=>fE h) (fun h=>fE h)) (fun h=>fE h)) (fun h=>rg<|j4 1 h (fun h=>rg<|j8 a3j a3R 3 h fun c15 h=>j4 4 h (fun h=>j8 a3j a3R 8 h fun c16 h=>j4 10 h (fun h=>fE h) (fun h=>fE h)) (fun h=>fE h)) (fun h=>rg<|j4 1 h (fun h=>rg<|j8 a3j a3R 3 h fun c17 h=>j4 4 h (fun h=>j8 a3j a3R 8 h fun c18 h=>j4 10 h (fun h=>j8 B9 D1 13 h fun in_1 h=>fE h) (fun h=>fE h)) (fun h=>fE h)) (fun h=>rg<|j4 1 h (fun h=>rg<|j4 3 h (fun h=>j4 8 h (fun h=>fE h) (fun h=>fE h)) (fun h=>fE h)) (fun h=>rg<|fE h)))))))
def a2I:FS (Bool):=⟨29,Tryz.f29,[.val [] []],[none],[.val [some 4] []],fun r=>.b r,fun _=>[none],Tryz.func29⟩
def c3c(list:List o8):Unit->KS:=fun _=>⟨a2I.k 3 [false],(j9 4 z0 list::(bs 17 [])),[some []]⟩
def c1n(list:List o8):Option Bool :=
 some (decide ((list.length:Int)<=10))
theorem e2Q(list)(r):NF a2I r (c3c list) (fun s=>c1n list):=fun _ h=>PK<|rg<|fE h
def d6V(list:List o8):Int->KS:=fun v7=>⟨a2I.k 2 [],(j9 4 z0 list::(bs 4 (j9 4 z0 list::(vi (list.length:Int)::(vi v7::(bs 10 [])))))),[some []]⟩
def b48(list:List o8)(v7:Int):Option (l7 Bool Int Unit) :=
 (bif decide (v7<(list.length:Int)) then ((idx list v7).bind fun ins=>((b3X ins).bind fun O2=>(bif (!O2) then some (l7.ret false) else some (l7.nxt (m7 (v7+1)))))) else some (l7.brk ()))
theorem d3i(list):LQ a2I (c3c list) (d6V list) (fun s=>b48 list s):=fun lc v7 h=>PK<|rg<|j4 0 h (fun h=>rg<|v5 z0 0 h fun ins hins h=>rg<|j8 c6p e2r 1 h fun O2 h=>j4 2 h (fun h=>rg<|fL lc h) (fun h=>rg<|(lc.nx h fun hI=>sk [] [0,5,6,7] [] hI))) (fun h=>(lc.bk h fun hI=>sk [] [0] [] hI))
def a7V(list:List o8):Option Bool :=
 ((o9 (fun s:Int=>b48 list s) 0).bind fun x=>x.go (fun r=>some r) fun s=>c1n list)
theorem b49{list}:OK a2I [j9 4 z0 list] (a7V list) :=
 n7 _ fun r h=>n5<|lp (d3i list) h (fun _ h=>a2I.rt h) (e2Q list r) fun hI=>sk [] [0,5,6,7] [] hI
def b8w:FS (Int):=⟨110,Tryz.f110,[.val [] []],[none],[.val [] []],fun r=>vi r,fun _=>[none],Tryz.func110⟩
def b0B(bal:Int):Option Int :=
 ((C0 bal 1 3000).bind fun in_=>(bif (!in_) then some (-1) else some (e81 bal 3)))
theorem c46{bal}:OK b8w [vi bal] (b0B bal) :=
 n7 _ fun r h=>n5<|j8 B9 D1 1 h fun in_ h=>j4 2 h (fun h=>rg<|fE h) (fun h=>rg<|om (3≠(0:Int)) (by decide)<|fE h)
def c1T:FS (Bool):=⟨111,Tryz.f111,[.val [] []],[none,none],[.val [some 1] [],.val [] []],fun r=>.b r,fun _=>[none,none],Tryz.func111⟩
def b0Q(list:List Bool)(id:Int):Option Bool :=
 (bif ((list.length:Int)==3) then ((idx list id).bind fun y=>some y) else some false)
theorem c6K{list id}:OK c1T [j9 1 eB list,vi id] (b0Q list id) :=
 n7 _ fun r h=>n5<|j4 3 h (fun h=>v5 eB 6 h fun y hy h=>fE h) (fun h=>fE h)
def b6H:FS (Bool):=⟨67,Tryz.f67,[.val [] []],[none],[.val A0 []],fun r=>.b r,fun _=>[none],Tryz.func67⟩
def e4V(n:j5):Bool->KS:=fun a8P=>⟨b6H.k 2 [],(bs 1 (.ptr 1 0 0::(bs 1 (.b a8P::(bs 92 []))))),[some [],some [.var 53 (a6O n)]]⟩
def b4X(n:j5)(a8P:Bool):Option Bool :=
 (bif (n.d9==0) then (bif (n.a8==0) then (bif ((n.d7.length:Int)==0) then (bif ((n.g9.length:Int)==0) then some a8P else some false) else some false) else some false) else ((b0B n.a8).bind fun a52=>(bif (a52 != n.Id) then some false else (bif decide (n.a8>n.Acc.i4) then some false else ((a4Y n.g9).bind fun K4=>(bif (!K4) then some false else (bif (n.d9==1) then ((b0Q n.d7 n.Id).bind fun c5J=>(bif c5J then some a8P else some false)) else (bif (n.d9==2) then (bif ((n.d7.length:Int)==0) then some a8P else some false) else (bif (n.d9==3) then (bif ((n.d7.length:Int)==0) then ((a1j n.c8).bind fun C8=>(bif C8 then ((b0Q n.a5 n.Id).bind fun c8a=>(bif c8a then some (decide ((n.a6.length:Int)<40)) else some false)) else some false)) else some false) else some false)))))))))
theorem e5h(n)(r):NF b6H r (e4V n) (fun s=>b4X n s):=fun a8P h=>PK<|n5<|j4 2 h (fun h=>rg<|j4 3 h (fun h=>j4 6 h (fun h=>j4 12 h (fun h=>fE h) (fun h=>fE h)) (fun h=>fE h)) (fun h=>fE h)) (fun h=>rg<|j8 b8w c46 2 h fun a52 h=>j4 6 h (fun h=>rg<|fE h) (fun h=>j4 14 h (fun h=>rg<|fE h) (fun h=>j8 a1Q b1t 17 h fun K4 h=>j4 19 h (fun h=>rg<|fE h) (fun h=>n5<|j4 1 h (fun h=>rg<|j8 c1T c6K 4 h fun c5J h=>j4 5 h (fun h=>fE h) (fun h=>fE h)) (fun h=>rg<|j4 1 h (fun h=>rg<|j4 1 h (fun h=>fE h) (fun h=>fE h)) (fun h=>rg<|j4 1 h (fun h=>rg<|j4 1 h (fun h=>j8 a2u a3d 4 h fun C8 h=>j4 6 h (fun h=>j8 c1T c6K 11 h fun c8a h=>j4 13 h (fun h=>fE h) (fun h=>fE h)) (fun h=>fE h)) (fun h=>fE h)) (fun h=>rg<|fE h)))))))
def b0P(n:j5):Option Bool :=
 ((((Z1 n.c8 (m4.mk false (p8.mk 0 0) (m9.mk [] [] 0 0))).bind fun I8=>(bif I8 then some (l8.brk ((n.a5.length:Int)==0)) else some (l8.brk false))):Option (l8 Bool Bool)).bind fun x=>x.go some fun j=>b4X n j)
theorem e2n{n}:OK b6H [.agg (z9 n)] (b0P n) :=
 n7 _ fun r h=>rg<|B0 h (e5h n r) fun x1 h hc1=>rg<|j8 a2l a24 3 h fun I8 h=>j4 4 h (fun h=>(o6 h hc1 fun hI=>sk [] [1,3] [(1,0)] hI)) (fun h=>(o6 h hc1 fun hI=>sk [] [1,3] [(1,0)] hI))
def a0g:FS (Bool):=⟨26,Tryz.f26,[.val [] []],[none],[.val A0 []],fun r=>.b r,fun _=>[none],Tryz.func26⟩
def c7s(n:j5):Unit->KS:=fun _=>⟨a0g.k 4 [false,false],(bs 1 (.ptr 1 0 0::(bs 87 []))),[some [],some [.var 53 (a6O n)]]⟩
def e0H(n:j5):Unit->KS:=fun _=>⟨a0g.k 6 [false,false,true,false],(bs 1 (.ptr 1 0 0::(bs 87 []))),[some [],some [.var 53 (a6O n)]]⟩
def b8O(n:j5):Option Bool :=
 ((b0P n).bind fun a04=>some a04)
theorem e3W(n)(r):NF a0g r (e0H n) (fun s=>b8O n):=fun _ h=>PK<|rg<|j8 b6H e2n 1 h fun a04 h=>fE h
def b3s(n:j5):Option Bool :=
 (((bif n.i7 then ((a7V n.i5).bind fun C7=>(bif (!C7) then some (l8.ret false) else ((a1j n.b6).bind fun C8=>(bif (!C8) then some (l8.ret false) else (bif n.b6.i8 then some (l8.ret false) else (bif (!(([n.b6.a0.d6,n.b6.a0.Seq]:List Int)==[n.Id,n.Seq])) then some (l8.ret false) else some (l8.brk ()))))))) else (bif decide ((n.i5.length:Int)>0) then some (l8.ret false) else ((Z1 n.b6 (m4.mk false (p8.mk 0 0) (m9.mk [] [] 0 0))).bind fun I8=>(bif (!I8) then some (l8.ret false) else some (l8.brk ()))))):Option (l8 Bool Unit)).bind fun x=>x.go some fun j=>b8O n)
theorem d6N(n)(r):NF a0g r (c7s n) (fun s=>b3s n):=fun _ h=>PK<|B0 h (e3W n r) fun x1 h hc1=>rg<|j4 1 h (fun h=>rg<|j8 a2I b49 2 h fun C7 h=>j4 4 h (fun h=>rg<|(B4 h hc1 fun h=>fE h)) (fun h=>j8 a2u a3d 7 h fun C8 h=>j4 10 h (fun h=>rg<|(B4 h hc1 fun h=>fE h)) (fun h=>j4 15 h (fun h=>rg<|(B4 h hc1 fun h=>fE h)) (fun h=>j4 25 h (fun h=>rg<|(B4 h hc1 fun h=>fE h)) (fun h=>(o6 h hc1 fun hI=>sk [] [1] [(1,0)] hI)))))) (fun h=>rg<|j4 4 h (fun h=>rg<|(B4 h hc1 fun h=>fE h)) (fun h=>j8 a2l a24 8 h fun I8 h=>j4 10 h (fun h=>rg<|(B4 h hc1 fun h=>fE h)) (fun h=>(o6 h hc1 fun hI=>sk [] [1] [(1,0)] hI))))
def e47(n:j5):Int->KS:=fun v36=>⟨a0g.k 3 [false],(bs 1 (.ptr 1 0 0::(bs 32 (j9 7 s8 n.d8::(vi (n.d8.length:Int)::(vi v36::(bs 52 []))))))),[some [],some [.var 53 (a6O n)]]⟩
def b41(n:j5)(v36:Int):Option (l7 Bool Int Unit) :=
 (bif decide (v36<(n.d8.length:Int)) then ((idx n.d8 v36).bind fun entry=>((a1j entry).bind fun a2f=>(bif (!a2f) then some (l7.ret false) else (bif entry.i8 then some (l7.ret false) else some (l7.nxt (m7 (v36+1))))))) else some (l7.brk ()))
theorem e2u(n):LQ a0g (c7s n) (e47 n) (fun s=>b41 n s):=fun lc v36 h=>PK<|rg<|j4 0 h (fun h=>rg<|v5 s8 0 h fun entry G9 h=>rg<|j8 a2u a3d 1 h fun a2f h=>j4 3 h (fun h=>rg<|fL lc h) (fun h=>j4 6 h (fun h=>rg<|fL lc h) (fun h=>rg<|(lc.nx h fun hI=>sk [] [1,34,35,36] [(1,0)] hI)))) (fun h=>(lc.bk h fun hI=>sk [] [1] [(1,0)] hI))
def a3m(n:j5):Option Bool :=
 ((C0 n.Id 0 2).bind fun in_=>(bif (!in_) then some false else ((a8O n.Acc).bind fun N4=>(bif (!N4) then some false else ((b0x n.a6).bind fun I3=>(bif (!I3) then some false else ((C0 n.Seq 0 1000).bind fun in_1=>(bif (!in_1) then some false else (bif decide ((n.d8.length:Int)>4) then some false else ((o9 (fun s:Int=>b41 n s) 0).bind fun x=>x.go (fun r=>some r) fun s=>b3s n))))))))))
theorem a64{n}:OK a0g [.agg (z9 n)] (a3m n) :=
 n7 _ fun r h=>n5<|j8 B9 D1 2 h fun in_ h=>j4 4 h (fun h=>rg<|fE h) (fun h=>j8 a3P b85 7 h fun N4 h=>j4 10 h (fun h=>rg<|fE h) (fun h=>j8 a42 c4P 13 h fun I3 h=>j4 16 h (fun h=>rg<|fE h) (fun h=>j8 B9 D1 19 h fun in_1 h=>j4 22 h (fun h=>rg<|fE h) (fun h=>j4 27 h (fun h=>rg<|fE h) (fun h=>rg<|lp (e2u n) h (fun _ h=>a0g.rt h) (d6N n r) fun hI=>sk [] [1,34,35,36] [(1,0)] hI)))))
def b9H:FS (Bool):=⟨27,Tryz.f27,[.val [] []],[none],[.val B2 []],fun r=>.b r,fun _=>[none],Tryz.func27⟩
def b0H(m:j7):Option Bool :=
 ((C0 m.d7 0 2).bind fun in_=>(bif (!in_) then some false else ((C0 m.To 0 2).bind fun in_1=>(bif (!in_1) then some false else (bif (m.d7==m.To) then some false else ((C0 m.g7 0 40).bind fun in_2=>(bif (!in_2) then some false else ((C0 m.a8 1 3000).bind fun Y3=>((Z1 m.i0 (m4.mk false (p8.mk 0 0) (m9.mk [] [] 0 0))).bind fun I8=>(bif (m.a7==1) then (bif Y3 then (bif I8 then some ((m.a5.length:Int)==0) else some false) else some false) else (bif (m.a7==4) then (bif Y3 then (bif I8 then some ((m.a5.length:Int)==0) else some false) else some false) else (bif (m.a7==2) then (bif Y3 then (bif I8 then ((a4Y m.a5).bind fun K4=>(bif K4 then some (decide ((m7 (m.g7+(m.a5.length:Int)))<=40)) else some false)) else some false) else some false) else (bif (m.a7==3) then (bif Y3 then (bif decide (m.g7<40) then ((a1j m.i0).bind fun C8=>(bif C8 then some ((m.a5.length:Int)==0) else some false)) else some false) else some false) else (bif (m.a7==5) then (bif (m.a8==0) then (bif decide (m.g7<40) then ((a1j m.i0).bind fun a2f=>(bif a2f then some ((m.a5.length:Int)==0) else some false)) else some false) else some false) else (bif (m.a7==6) then (bif Y3 then (bif (m.g7==0) then (bif I8 then some ((m.a5.length:Int)==0) else some false) else some false) else some false) else (bif (m.a7==7) then (bif (m.a8==0) then (bif (m.g7==0) then ((a1j m.i0).bind fun c5Y=>(bif c5Y then (bif (!m.i0.i8) then some ((m.a5.length:Int)==0) else some false) else some false)) else some false) else some false) else (bif (m.a7==8) then (bif (m.a8==0) then (bif I8 then some ((m.a5.length:Int)==0) else some false) else some false) else some false)))))))))))))))))
theorem c7o{m}:OK b9H [.agg (p9 m)] (b0H m) :=
 n7 _ fun r h=>n5<|j8 B9 D1 2 h fun in_ h=>j4 4 h (fun h=>rg<|fE h) (fun h=>j8 B9 D1 7 h fun in_1 h=>j4 10 h (fun h=>rg<|fE h) (fun h=>j4 17 h (fun h=>rg<|fE h) (fun h=>j8 B9 D1 20 h fun in_2 h=>j4 22 h (fun h=>rg<|fE h) (fun h=>rg<|j8 B9 D1 2 h fun Y3 h=>rg<|j8 a2l a24 3 h fun I8 h=>M3<|j4 1 h (fun h=>rg<|j4 1 h (fun h=>j4 4 h (fun h=>fE h) (fun h=>fE h)) (fun h=>fE h)) (fun h=>rg<|j4 1 h (fun h=>rg<|j4 1 h (fun h=>j4 4 h (fun h=>fE h) (fun h=>fE h)) (fun h=>fE h)) (fun h=>rg<|j4 1 h (fun h=>rg<|j4 1 h (fun h=>j4 4 h (fun h=>j8 a1Q b1t 7 h fun K4 h=>j4 9 h (fun h=>fE h) (fun h=>fE h)) (fun h=>fE h)) (fun h=>fE h)) (fun h=>rg<|j4 1 h (fun h=>rg<|j4 1 h (fun h=>j4 6 h (fun h=>j8 a2u a3d 9 h fun C8 h=>j4 11 h (fun h=>fE h) (fun h=>fE h)) (fun h=>fE h)) (fun h=>fE h)) (fun h=>rg<|j4 1 h (fun h=>rg<|j4 3 h (fun h=>j4 8 h (fun h=>j8 a2u a3d 11 h fun a2f h=>j4 13 h (fun h=>fE h) (fun h=>fE h)) (fun h=>fE h)) (fun h=>fE h)) (fun h=>rg<|j4 1 h (fun h=>rg<|j4 1 h (fun h=>j4 6 h (fun h=>j4 9 h (fun h=>fE h) (fun h=>fE h)) (fun h=>fE h)) (fun h=>fE h)) (fun h=>rg<|j4 1 h (fun h=>rg<|j4 3 h (fun h=>j4 8 h (fun h=>j8 a2u a3d 11 h fun c5Y h=>j4 13 h (fun h=>j4 19 h (fun h=>fE h) (fun h=>fE h)) (fun h=>fE h)) (fun h=>fE h)) (fun h=>fE h)) (fun h=>rg<|j4 1 h (fun h=>rg<|j4 3 h (fun h=>j4 6 h (fun h=>fE h) (fun h=>fE h)) (fun h=>fE h)) (fun h=>rg<|fE h))))))))))))
def P6:FS (Bool):=⟨11,Tryz.f11,[.val [] []],[none],[.val E2 []],fun r=>.b r,fun _=>[none],Tryz.func11⟩
def c50(w:m5):Unit->KS:=fun _=>⟨P6.k 4 [false,false],(bs 1 (.ptr 1 0 0::(bs 116 []))),[some [],some [.var 28 (I6 w)]]⟩
def d0n(w:m5):Unit->KS:=fun _=>⟨P6.k 6 [false,false,false],(bs 1 (.ptr 1 0 0::(bs 116 []))),[some [],some [.var 28 (I6 w)]]⟩
def c6l(w:m5):Unit->KS:=fun _=>⟨P6.k 8 [false,false,false,false],(bs 1 (.ptr 1 0 0::(bs 116 []))),[some [],some [.var 28 (I6 w)]]⟩
def c9j:Unit->KS:=fun _=>⟨P6.k 10 [false,false,false,false,false],(bs 118 []),[some []]⟩
def c9d:Option Bool :=
 some true
theorem e5Z(r):NF P6 r c9j (fun s=>c9d):=fun _ h=>PK<|rg<|fE h
def d5d(w:m5):Int->KS:=fun v83=>⟨P6.k 9 [false,false,false,false],(bs 81 (j9 5 u9 w.Told::(vi (w.Told.length:Int)::(vi v83::(bs 34 []))))),[some []]⟩
def b3H(w:m5)(v83:Int):Option (l7 Bool Int Unit) :=
 (bif decide (v83<(w.Told.length:Int)) then ((idx w.Told v83).bind fun told=>((C0 told.Node 0 2).bind fun in_=>(bif (!in_) then some (l7.ret false) else ((a6b told.a0).bind fun a5t=>(bif (!a5t) then some (l7.ret false) else (bif (told.a0.d6 != told.Node) then some (l7.ret false) else ((C0 told.Code 0 4).bind fun in_1=>(bif (!in_1) then some (l7.ret false) else ((C0 told.f0 (-1000000) 1000000).bind fun in_2=>(bif (!in_2) then some (l7.ret false) else some (l7.nxt (m7 (v83+1))))))))))))) else some (l7.brk ()))
theorem e8c(w):LQ P6 c9j (d5d w) (fun s=>b3H w s):=fun lc v83 h=>PK<|rg<|j4 0 h (fun h=>rg<|v5 u9 0 h fun told a5V h=>rg<|j8 B9 D1 2 h fun in_ h=>j4 4 h (fun h=>rg<|fL lc h) (fun h=>j8 a9c b0b 7 h fun a5t h=>j4 10 h (fun h=>rg<|fL lc h) (fun h=>j4 18 h (fun h=>rg<|fL lc h) (fun h=>j8 B9 D1 21 h fun in_1 h=>j4 24 h (fun h=>rg<|fL lc h) (fun h=>j8 B9 D1 27 h fun in_2 h=>j4 29 h (fun h=>rg<|fL lc h) (fun h=>rg<|(lc.nx h fun hI=>sk [] [81,82,83] [] hI))))))) (fun h=>(lc.bk h fun hI=>sk [] [] [] hI))
def b5f(w:m5):Option Bool :=
 ((o9 (fun s:Int=>b3H w s) 0).bind fun x=>x.go (fun r=>some r) fun s=>c9d)
theorem d7F(w)(r):NF P6 r (c6l w) (fun s=>b5f w):=fun _ h=>PK<|rg<|lp (e8c w) h (fun _ h=>P6.rt h) (e5Z r) fun hI=>sk [] [81,82,83] [] hI
def e0u(w:m5):Int->KS:=fun v65=>⟨P6.k 7 [false,false,false],(bs 1 (.ptr 1 0 0::(bs 61 (j9 3 z8 w.c9::(vi (w.c9.length:Int)::(vi v65::(bs 52 []))))))),[some [],some [.var 28 (I6 w)]]⟩
def b31(w:m5)(v65:Int):Option (l7 Bool Int Unit) :=
 (bif decide (v65<(w.c9.length:Int)) then ((idx w.c9 v65).bind fun asked=>((a6b asked.a0).bind fun b2e=>(bif (!b2e) then some (l7.ret false) else ((a7V asked.i5).bind fun C7=>(bif (!C7) then some (l7.ret false) else some (l7.nxt (m7 (v65+1)))))))) else some (l7.brk ()))
theorem d4J(w):LQ P6 (c6l w) (e0u w) (fun s=>b31 w s):=fun lc v65 h=>PK<|rg<|j4 0 h (fun h=>rg<|v5 z8 0 h fun asked a6A h=>rg<|j8 a9c b0b 2 h fun b2e h=>j4 4 h (fun h=>rg<|fL lc h) (fun h=>j8 a2I b49 7 h fun C7 h=>j4 9 h (fun h=>rg<|fL lc h) (fun h=>rg<|(lc.nx h fun hI=>sk [] [1,63,64,65] [(1,0)] hI)))) (fun h=>(lc.bk h fun hI=>sk [] [1] [(1,0)] hI))
def b7C(w:m5):Option Bool :=
 ((o9 (fun s:Int=>b31 w s) 0).bind fun x=>x.go (fun r=>some r) fun s=>b5f w)
theorem e2d(w)(r):NF P6 r (d0n w) (fun s=>b7C w):=fun _ h=>PK<|rg<|lp (d4J w) h (fun _ h=>P6.rt h) (d7F w r) fun hI=>sk [] [1,63,64,65] [(1,0)] hI
def e4U(w:m5):Int->KS:=fun v54=>⟨P6.k 5 [false,false],(bs 1 (.ptr 1 0 0::(bs 50 (j9 13 p9 w.b9::(vi (w.b9.length:Int)::(vi v54::(bs 63 []))))))),[some [],some [.var 28 (I6 w)]]⟩
def b6e(w:m5)(v54:Int):Option (l7 Bool Int Unit) :=
 (bif decide (v54<(w.b9.length:Int)) then ((idx w.b9 v54).bind fun msg=>((b0H msg).bind fun N3=>(bif (!N3) then some (l7.ret false) else some (l7.nxt (m7 (v54+1)))))) else some (l7.brk ()))
theorem e42(w):LQ P6 (d0n w) (e4U w) (fun s=>b6e w s):=fun lc v54 h=>PK<|rg<|j4 0 h (fun h=>rg<|v5 p9 0 h fun msg hmsg h=>rg<|j8 b9H c7o 1 h fun N3 h=>j4 2 h (fun h=>rg<|fL lc h) (fun h=>rg<|(lc.nx h fun hI=>sk [] [1,52,53,54] [(1,0)] hI))) (fun h=>(lc.bk h fun hI=>sk [] [1] [(1,0)] hI))
def b4S(w:m5):Option Bool :=
 ((o9 (fun s:Int=>b6e w s) 0).bind fun x=>x.go (fun r=>some r) fun s=>b7C w)
theorem e0n(w)(r):NF P6 r (c50 w) (fun s=>b4S w):=fun _ h=>PK<|rg<|lp (e42 w) h (fun _ h=>P6.rt h) (e2d w r) fun hI=>sk [] [1,52,53,54] [(1,0)] hI
def d4Q(w:m5):Int->KS:=fun v36=>⟨P6.k 3 [false],(bs 1 (.ptr 1 0 0::(bs 32 (j9 27 z9 w.a9::(vi (w.a9.length:Int)::(vi v36::(bs 81 []))))))),[some [],some [.var 28 (I6 w)]]⟩
def b3r(w:m5)(v36:Int):Option (l7 Bool Int Unit) :=
 (bif decide (v36<(w.a9.length:Int)) then ((idx w.a9 v36).bind fun node=>(bif (node.Id != v36) then some (l7.ret false) else ((a3m node).bind fun C5=>(bif (!C5) then some (l7.ret false) else some (l7.nxt (m7 (v36+1))))))) else some (l7.brk ()))
theorem d75(w):LQ P6 (c50 w) (d4Q w) (fun s=>b3r w s):=fun lc v36 h=>PK<|rg<|j4 0 h (fun h=>rg<|v5 z9 1 h fun node hnode h=>rg<|j4 4 h (fun h=>rg<|fL lc h) (fun h=>j8 a0g a64 6 h fun C5 h=>j4 8 h (fun h=>rg<|fL lc h) (fun h=>rg<|(lc.nx h fun hI=>sk [] [1,34,35,36] [(1,0)] hI)))) (fun h=>(lc.bk h fun hI=>sk [] [1] [(1,0)] hI))
def b3e(w:m5):Option Bool :=
 (bif ((w.a9.length:Int) != 3) then some false else (bif decide ((w.b9.length:Int)>40) then some false else (bif decide ((w.c9.length:Int)>60) then some false else (bif decide ((w.Told.length:Int)>60) then some false else ((o9 (fun s:Int=>b3r w s) 0).bind fun x=>x.go (fun r=>some r) fun s=>b4S w)))))
theorem d4s{w}:OK P6 [.agg (a0J w)] (b3e w) :=
 n7 _ fun r h=>n5<|j4 4 h (fun h=>rg<|fE h) (fun h=>j4 10 h (fun h=>rg<|fE h) (fun h=>j4 16 h (fun h=>rg<|fE h) (fun h=>j4 21 h (fun h=>rg<|fE h) (fun h=>rg<|lp (d75 w) h (fun _ h=>P6.rt h) (e0n w r) fun hI=>sk [] [1,34,35,36] [(1,0)] hI))))
def b2d:FS (n6):=⟨118,Tryz.f118,[.ptr G5 om7],[none],[.val A0 []],fun r=>.optr 142 (b6n r),fun _=>[none],Tryz.func118⟩
def a6g(n:j5):Option n6 :=
 ((a67 n).bind fun U3=>some (n6.mk U3 [] []))
theorem b5M{n}:OK b2d [.agg (z9 n)] (a6g n) :=
 n7 _ fun r h=>n5<|j8 b0i b4i 1 h fun U3 h=>H1 U3<|fE h
def a3f:FS (j5×(List j7)×(List m8)×n6):=⟨119,Tryz.f119,[.val A0 [],.val [some 13] [],.val [some 5] []],[some (0,.ptr G5 [])],[.ptr G5 []],fun r=>.tup [.agg (z9 r.1),j9 13 p9 r.2.1,j9 5 u9 r.2.2.1],fun r=>[some (.optr 142 (c7c r.2.2.2))],Tryz.func119⟩
def a0W(a:n6):Option (j5×(List j7)×(List m8)×n6) :=
 ((a67 a.n).bind fun U3=>((b2Y a.out).bind fun msgsCopy=>((b3y a.told).bind fun told=>some (U3,msgsCopy,told,a))))
theorem a3M{a}:OK a3f [.optr 142 (c7c a)] (a0W a) :=
 n7 _ fun r h=>n5<|j8 b0i b4i 4 h fun U3 h=>j8 a5E c4S 9 h fun msgsCopy h=>j8 c2z c9N 14 h fun told h=>H1 U3<|B8 msgsCopy told<|fE h
def c7d:FS (List q8):=⟨198,Tryz.f198,[.val [some 2] [some 172]],[],[],fun r=>t7 172 2 x8 r,fun _=>[],Tryz.func198⟩
def c0u:Option (List q8) :=
 (s7 (0<=(4:Int)/\(4:Int)*16<=140737488355328) (some (e8E (4:Int).toNat (q8.mk 0 0))))
theorem d6B:OK c7d [] c0u :=
 n7 _ fun r h=>n5<|s9 h fun e1 h=>S6 0 2 172 2 16 x8 (q8.mk 0 0) b1W (.none) e1 (by decide) (by rfl)<|s4 (e8E (4:Int).toNat (q8.mk 0 0))<|fE h
def c9S:FS (u6):=⟨190,Tryz.f190,[.val [none,some 2,some 4] [none,some 172,some 202]],[],[],fun r=>.agg (b1N r),fun _=>[],Tryz.func190⟩
def b7i:Option u6 :=
 ((c0u).bind fun a7B=>some (u6.mk 0 a7B []))
theorem d9A:OK c9S [] b7i :=
 n7 _ fun r h=>n5<|j8 c7d d6B 0 h fun a7B h=>s4 a7B<|fE h
def a2X:FS (Bool):=⟨160,Tryz.f160,[.val [] []],[none],[.val [some 2] []],fun r=>.b r,fun _=>[none],Tryz.func160⟩
def c8e(list:List q8):Unit->KS:=fun _=>⟨a2X.k 3 [false],(j9 2 x8 list::(bs 24 [])),[some []]⟩
def b8x(list:List q8):Option Bool :=
 some ((list.length:Int)==4)
theorem d9Y(list)(r):NF a2X r (c8e list) (fun s=>b8x list):=fun _ h=>PK<|rg<|fE h
def d5i(list:List q8):Int->KS:=fun v7=>⟨a2X.k 2 [],(j9 2 x8 list::(bs 4 (j9 2 x8 list::(vi (list.length:Int)::(vi v7::(bs 17 [])))))),[some []]⟩
def b6Z(list:List q8)(v7:Int):Option (l7 Bool Int Unit) :=
 (bif decide (v7<(list.length:Int)) then ((idx list v7).bind fun box=>((C0 box.j3 0 1000000).bind fun in_=>(bif (!in_) then some (l7.ret false) else ((C0 box.f0 (-1000000) 1000000).bind fun in_1=>(bif (!in_1) then some (l7.ret false) else some (l7.nxt (m7 (v7+1)))))))) else some (l7.brk ()))
theorem d98(list):LQ a2X (c8e list) (d5i list) (fun s=>b6Z list s):=fun lc v7 h=>PK<|rg<|j4 0 h (fun h=>rg<|v5 x8 0 h fun box a2s h=>rg<|j8 B9 D1 2 h fun in_ h=>j4 4 h (fun h=>rg<|fL lc h) (fun h=>j8 B9 D1 7 h fun in_1 h=>j4 9 h (fun h=>rg<|fL lc h) (fun h=>rg<|(lc.nx h fun hI=>sk [] [0,5,6,7] [] hI)))) (fun h=>(lc.bk h fun hI=>sk [] [0] [] hI))
def a6i(list:List q8):Option Bool :=
 ((o9 (fun s:Int=>b6Z list s) 0).bind fun x=>x.go (fun r=>some r) fun s=>b8x list)
theorem b5y{list}:OK a2X [j9 2 x8 list] (a6i list) :=
 n7 _ fun r h=>n5<|lp (d98 list) h (fun _ h=>a2X.rt h) (d9Y list r) fun hI=>sk [] [0,5,6,7] [] hI
def a35:FS (Bool):=⟨199,Tryz.f199,[.val [] []],[none],[.val [none,some 2,some 4] []],fun r=>.b r,fun _=>[none],Tryz.func199⟩
def b9N(s_:u6):Unit->KS:=fun _=>⟨a35.k 3 [false],(bs 1 (.ptr 1 0 0::(bs 64 []))),[some [],some [.var 147 [vi s_.At,j9 2 x8 s_.g8,j9 4 A8 s_.i9]]]⟩
def c2j(s_:u6):Option Bool :=
 ((C0 s_.At 0 40).bind fun in_=>(bif in_ then ((a6i s_.g8).bind fun V3=>some V3) else some false))
theorem d6O(s_)(r):NF a35 r (b9N s_) (fun s=>c2j s_):=fun _ h=>PK<|rg<|j8 B9 D1 2 h fun in_ h=>j4 3 h (fun h=>j8 a2X b5y 6 h fun V3 h=>fE h) (fun h=>fE h)
def c4Y(s_:u6):Int->KS:=fun v8=>⟨a35.k 2 [],(bs 1 (.ptr 1 0 0::(bs 4 (j9 4 A8 s_.i9::(vi (s_.i9.length:Int)::(vi v8::(bs 57 []))))))),[some [],some [.var 147 [vi s_.At,j9 2 x8 s_.g8,j9 4 A8 s_.i9]]]⟩
def e4Y(s_:u6)(v8:Int):Unit->KS:=fun _=>⟨a35.k 5 [true,false],(bs 1 (.ptr 1 0 0::(bs 4 (j9 4 A8 s_.i9::(vi (s_.i9.length:Int)::(vi v8::(bs 57 []))))))),[some [],some [.var 147 [vi s_.At,j9 2 x8 s_.g8,j9 4 A8 s_.i9]]]⟩
def b8g(v8:Int):Option (l7 Bool Int Unit) :=
 some (l7.nxt (m7 (v8+1)))
theorem d8P(s_ v8)(lc:H8 a35 (b9N s_) (c4Y s_)):NL lc (e4Y s_ v8) (fun s=>b8g v8):=fun _ h=>PK<|rg<|(lc.nx h fun hI=>sk [] [1,6,7,8] [(1,0)] hI)
def b2i(s_:u6)(v8:Int):Option (l7 Bool Int Unit) :=
 (bif decide (v8<(s_.i9.length:Int)) then ((idx s_.i9 v8).bind fun done=>(((bif decide (v8>0) then ((idx s_.i9 (m7 (v8-1))).bind fun a3E=>(bif decide (a3E.a0.d6>=done.a0.d6) then some (l8.ret (l7.ret false)) else ((a6b done.a0).bind fun a5t=>(bif (!a5t) then some (l8.ret (l7.ret false)) else ((C0 done.Code 0 2).bind fun in_1=>(bif (!in_1) then some (l8.ret (l7.ret false)) else ((C0 done.f0 (-1000000) 1000000).bind fun in_2=>(bif (!in_2) then some (l8.ret (l7.ret false)) else (bif (done.Code != 0) then (bif (done.f0 != 0) then some (l8.ret (l7.ret false)) else some (l8.brk ())) else some (l8.brk ())))))))))) else ((a6b done.a0).bind fun b2e=>(bif (!b2e) then some (l8.ret (l7.ret false)) else ((C0 done.Code 0 2).bind fun Y3=>(bif (!Y3) then some (l8.ret (l7.ret false)) else ((C0 done.f0 (-1000000) 1000000).bind fun a36=>(bif (!a36) then some (l8.ret (l7.ret false)) else (bif (done.Code != 0) then (bif (done.f0 != 0) then some (l8.ret (l7.ret false)) else some (l8.brk ())) else some (l8.brk ()))))))))):Option (l8 (l7 Bool Int Unit) Unit)).bind fun x=>x.go some fun j=>b8g v8)) else some (l7.brk ()))
theorem d9X(s_):LQ a35 (b9N s_) (c4Y s_) (fun s=>b2i s_ s):=fun lc v8 h=>PK<|rg<|j4 0 h (fun h=>rg<|v5 A8 1 h fun done b6R h=>B0 h (d8P s_ v8 lc) fun x2 h hc2=>rg<|j4 2 h (fun h=>v5 A8 7 h fun a3E d8Z h=>j4 16 h (fun h=>rg<|(B4 h hc2 fun h=>fL lc h)) (fun h=>j8 a9c b0b 19 h fun a5t h=>j4 22 h (fun h=>rg<|(B4 h hc2 fun h=>fL lc h)) (fun h=>j8 B9 D1 25 h fun in_1 h=>j4 28 h (fun h=>rg<|(B4 h hc2 fun h=>fL lc h)) (fun h=>j8 B9 D1 31 h fun in_2 h=>j4 34 h (fun h=>rg<|(B4 h hc2 fun h=>fL lc h)) (fun h=>j4 38 h (fun h=>j4 43 h (fun h=>rg<|(B4 h hc2 fun h=>fL lc h)) (fun h=>(o6 h hc2 fun hI=>sk [] [1,6,7,8] [(1,0)] hI))) (fun h=>(o6 h hc2 fun hI=>sk [] [1,6,7,8] [(1,0)] hI))))))) (fun h=>j8 a9c b0b 19 h fun b2e h=>j4 22 h (fun h=>rg<|(B4 h hc2 fun h=>fL lc h)) (fun h=>j8 B9 D1 25 h fun Y3 h=>j4 28 h (fun h=>rg<|(B4 h hc2 fun h=>fL lc h)) (fun h=>j8 B9 D1 31 h fun a36 h=>j4 34 h (fun h=>rg<|(B4 h hc2 fun h=>fL lc h)) (fun h=>j4 38 h (fun h=>j4 43 h (fun h=>rg<|(B4 h hc2 fun h=>fL lc h)) (fun h=>(o6 h hc2 fun hI=>sk [] [1,6,7,8] [(1,0)] hI))) (fun h=>(o6 h hc2 fun hI=>sk [] [1,6,7,8] [(1,0)] hI))))))) (fun h=>(lc.bk h fun hI=>sk [] [1] [(1,0)] hI))
def b3l(s_:u6):Option Bool :=
 ((o9 (fun s:Int=>b2i s_ s) 0).bind fun x=>x.go (fun r=>some r) fun s=>c2j s_)
theorem e74{s_}:OK a35 [.agg (a7g s_)] (b3l s_) :=
 n7 _ fun r h=>n5<|lp (d9X s_) h (fun _ h=>a35.rt h) (d6O s_ r) fun hI=>sk [] [1,6,7,8] [(1,0)] hI
def b8k:FS (List q8):=⟨200,Tryz.f200,[.val [some 2] [some 172]],[none],[.val [some 2] []],fun r=>t7 172 2 x8 r,fun _=>[none],Tryz.func200⟩
def a9P(list:List q8):Option (List q8) :=
 (bif ((list.length:Int)==0) then some [] else (s7 (0<=(list.length:Int)/\(list.length:Int)*16<=140737488355328) ((s7 (list.length=(e8E (list.length:Int).toNat (q8.mk 0 0)).length) (some list)))))
theorem c7v{list}:OK b8k [j9 2 x8 list] (a9P list) :=
 n7 _ fun r h=>n5<|j4 2 h (fun h=>rg<|fE h) (fun h=>rg<|s9 h fun e1 h=>S6 2 7 172 2 16 x8 (q8.mk 0 0) b1W (.none) e1 (by decide) (by rfl)<|rg<|s9 h fun e2 h=>om (r9.row 172 2 (e8E (list.length:Int).toNat (q8.mk 0 0)).length (list.map x8)=l9 172 2 x8 list) (a1M e2)<|s4 (e8E (list.length:Int).toNat (q8.mk 0 0))<|ob e2<|tl (2,{e:=some (l9 172 2 x8 list)})<|rg<|om ((e8E (list.length:Int).toNat (q8.mk 0 0)).length=list.length) (by simp)<|fE h)
def a99:FS (List q9):=⟨201,Tryz.f201,[.val [some 4] [some 202]],[none],[.val [some 4] []],fun r=>t7 202 4 A8 r,fun _=>[none],Tryz.func201⟩
def a4B(list:List q9):Option (List q9) :=
 (bif ((list.length:Int)==0) then some [] else (s7 (0<=(list.length:Int)/\(list.length:Int)*32<=140737488355328) ((s7 (list.length=(e8E (list.length:Int).toNat (q9.mk (p8.mk 0 0) 0 0)).length) (some list)))))
theorem b9y{list}:OK a99 [j9 4 A8 list] (a4B list) :=
 n7 _ fun r h=>n5<|j4 2 h (fun h=>rg<|fE h) (fun h=>rg<|s9 h fun e1 h=>S6 2 7 202 4 32 A8 (q9.mk (p8.mk 0 0) 0 0) c0b (.none) e1 (by decide) (by rfl)<|rg<|s9 h fun e2 h=>om (r9.row 202 4 (e8E (list.length:Int).toNat (q9.mk (p8.mk 0 0) 0 0)).length (list.map A8)=l9 202 4 A8 list) (a1M e2)<|s4 (e8E (list.length:Int).toNat (q9.mk (p8.mk 0 0) 0 0))<|ob e2<|tl (2,{e:=some (l9 202 4 A8 list)})<|rg<|om ((e8E (list.length:Int).toNat (q9.mk (p8.mk 0 0) 0 0)).length=list.length) (by simp)<|fE h)
def a6I:FS (Bool):=⟨202,Tryz.f202,[.val [] []],[none,none],[.val [some 2] [],.val M7 []],fun r=>.b r,fun _=>[none,none],Tryz.func202⟩
def c6y:Unit->KS:=fun _=>⟨a6I.k 4 [false,false],(bs 32 []),[some []]⟩
def d0V:Option Bool :=
 some true
theorem e5I(r):NF a6I r c6y (fun s=>d0V):=fun _ h=>PK<|rg<|fE h
def e4x(list:List q8)(r_:m9):Int->KS:=fun v18=>⟨a6I.k 3 [false],(j9 2 x8 list::(bs 15 (j9 2 t8 r_.b5::(vi (r_.b5.length:Int)::(vi v18::(bs 13 [])))))),[some []]⟩
def b59(list:List q8)(r_:m9)(v18:Int):Option (l7 Bool Int Unit) :=
 (bif decide (v18<(r_.b5.length:Int)) then ((idx r_.b5 v18).bind fun read=>((idx list read.i6).bind fun box=>(bif (box.j3 != read.j3) then some (l7.ret false) else some (l7.nxt (m7 (v18+1)))))) else some (l7.brk ()))
theorem e4p(list r_):LQ a6I c6y (e4x list r_) (fun s=>b59 list r_ s):=fun lc v18 h=>PK<|rg<|j4 0 h (fun h=>rg<|v5 t8 0 h fun read a2O h=>rg<|v5 x8 3 h fun box a2s h=>j4 8 h (fun h=>rg<|fL lc h) (fun h=>rg<|(lc.nx h fun hI=>sk [] [0,16,17,18] [] hI))) (fun h=>(lc.bk h fun hI=>sk [] [] [] hI))
def b4l(list:List q8)(r_:m9):Option Bool :=
 ((a6i list).bind fun V3=>(bif (!V3) then some false else ((a9N r_).bind fun a0u=>(bif (!a0u) then some false else ((o9 (fun s:Int=>b59 list r_ s) 0).bind fun x=>x.go (fun r=>some r) fun s=>d0V)))))
theorem d9v{list r_}:OK a6I [j9 2 x8 list,.agg (O6 r_)] (b4l list r_) :=
 n7 _ fun r h=>n5<|j8 a2X b5y 1 h fun V3 h=>j4 3 h (fun h=>rg<|fE h) (fun h=>j8 Y0 b9O 5 h fun a0u h=>j4 7 h (fun h=>rg<|fE h) (fun h=>rg<|lp (e4p list r_) h (fun _ h=>a6I.rt h) (e5I r) fun hI=>sk [] [0,16,17,18] [] hI))
def a7R:FS (List q8):=⟨203,Tryz.f203,[.val [some 2] [some 172]],[none,none],[.val [some 2] [],.val M7 []],fun r=>t7 172 2 x8 r,fun _=>[none,none],Tryz.func203⟩
def c4i:(List q8)->KS:=fun out1=>⟨a7R.k 5 [false,false],(bs 5 (.own 1 0 2 0 out1.length::(bs 36 []))),[some [],some [l9 172 2 x8 out1]]⟩
def c35(out1:List q8):Option (List q8) :=
 some out1
theorem e6h(r):NF a7R r c4i (fun s=>c35 s):=fun out1 h=>PK<|rg<|s4 out1<|fE h
def e3q(r_:m9):((List q8)×Int)->KS:=fun (out,v21)=>⟨a7R.k 4 [false],(bs 5 (.own 1 0 2 0 out.length::(bs 13 (j9 2 t9 r_.b7::(vi (r_.b7.length:Int)::(vi v21::(bs 20 []))))))),[some [],some [l9 172 2 x8 out]]⟩
def b4C(r_:m9)(out:List q8)(v21:Int):Option (l7 (List q8) ((List q8)×Int) (List q8)) :=
 (bif decide (v21<(r_.b7.length:Int)) then ((idx r_.b7 v21).bind fun put=>((idx out put.i6).bind fun V8=>some (l7.nxt (out.set put.i6.toNat (q8.mk (if (m7 (V8.j3+1))<1000000 then (m7 (V8.j3+1)) else 1000000) put.f0),m7 (v21+1))))) else some (l7.brk out))
theorem d7P(r_):LQ a7R c4i (e3q r_) (fun s=>b4C r_ s.1 s.2):=fun lc (out,v21) h=>PK<|rg<|j4 0 h (fun h=>rg<|v5 t9 0 h fun put hput h=>rg<|A4 h fun V8 a9e h=>A9 a9e<|G7 x8 8 a9e<|A9 a9e<|N8 172 2 x8 15 [] (q8.mk (if (m7 (V8.j3+1))<1000000 then (m7 (V8.j3+1)) else 1000000) put.f0) a9e<|rg<|(lc.nx h fun hI=>om ((.own 1 0 2 0 out.length:V)=.own 1 0 2 0 (out.set put.i6.toNat (q8.mk (if (m7 (V8.j3+1))<1000000 then (m7 (V8.j3+1)) else 1000000) put.f0)).length) (by simp)<|sk [.is (.tmp 5) (.own 1 0 2 0 (out.set put.i6.toNat (q8.mk (if (m7 (V8.j3+1))<1000000 then (m7 (V8.j3+1)) else 1000000) put.f0)).length)] [5,19,20,21] [(1,0)] hI)) (fun h=>(lc.bk h fun hI=>sk [] [5] [(1,0)] hI))
def b46(list:List q8)(r_:m9):Option (List q8) :=
 ((a6i list).bind fun V3=>(bif (!V3) then some [] else ((a9N r_).bind fun a0u=>(bif (!a0u) then some [] else ((a9P list).bind fun box=>((o9 (fun s:(List q8)×Int=>b4C r_ s.1 s.2) (box,0)).bind fun x=>x.go (fun r=>some r) fun s=>c35 s))))))
theorem e22{list r_}:OK a7R [j9 2 x8 list,.agg (O6 r_)] (b46 list r_) :=
 n7 _ fun r h=>n5<|j8 a2X b5y 1 h fun V3 h=>j4 3 h (fun h=>rg<|fE h) (fun h=>j8 Y0 b9O 5 h fun a0u h=>j4 7 h (fun h=>rg<|fE h) (fun h=>rg<|j8 b8k c7v 1 h fun box h=>rg<|lp (d7P r_) h (fun _ h=>a7R.rt h) (e6h r) fun hI=>sk [] [5,19,20,21] [(12,0)] hI))
def O4:FS (u6×Int):=⟨191,Tryz.f191,[.val [none,some 2,some 4] [none,some 172,some 202],.val [] []],[none,none],[.val [none,some 2,some 4] [],.val I4 []],fun r=>.tup [.agg (b1N r.1),vi r.2],fun _=>[none,none],Tryz.func191⟩
def c0L(s_:u6)(e_:m4)(box:List q8):Unit->KS:=fun _=>⟨O4.k 6 [false,false,false],(bs 2 (.ptr 1 0 0::(.ptr 2 0 0::(.ptr 3 0 0::(bs 1 (.ptr 4 0 0::(bs 145 []))))))),[some [],some [.var 147 [vi s_.At,j9 2 x8 s_.g8,j9 4 A8 s_.i9]],some [.var 51 (a3x e_)],some [.var 147 [vi 0,.nil,.nil]],some [.var 147 [vi (m7 (s_.At+1)),.own 5 0 2 0 box.length,.nil]],some [l9 172 2 x8 box]]⟩
def d3o(s_:u6):(q9×List q8)->KS:=fun (own,g8)=>⟨O4.k 9 [false,false,false,true],(bs 2 (.ptr 1 0 0::(bs 1 (.ptr 2 0 0::(bs 1 (.ptr 3 0 0::(bs 2 (.ptr 5 0 0::(bs 142 []))))))))),[some [],some [.var 147 [vi s_.At,j9 2 x8 s_.g8,j9 4 A8 s_.i9]],some [.var 147 [vi 0,.nil,.nil]],some [.var 147 [vi (m7 (s_.At+1)),.own 4 0 2 0 g8.length,.nil]],some [l9 172 2 x8 g8],some [.var 202 [vi own.a0.d6,vi own.a0.Seq,vi own.Code,vi own.f0]]]⟩
def b6I(s_:u6)(own:q9)(g8:List q8):((List q9)×Bool)->KS:=fun (dones1,put1)=>⟨O4.k 13 [false,false,false,true,false],(bs 4 (.ptr 1 0 0::(bs 1 (.ptr 2 0 0::(bs 2 (.ptr 4 0 0::(.own 5 0 4 0 dones1.length::(.b put1::(bs 140 []))))))))),[some [],some [.var 147 [vi 0,.nil,.nil]],some [.var 147 [vi (m7 (s_.At+1)),.own 3 0 2 0 g8.length,.nil]],some [l9 172 2 x8 g8],some [.var 202 [vi own.a0.d6,vi own.a0.Seq,vi own.Code,vi own.f0]],some [l9 202 4 A8 dones1]]⟩
def e1h(s_:u6)(own:q9)(g8:List q8):(List q9)->KS:=fun a8a=>⟨O4.k 15 [false,false,false,true,false,true],(bs 4 (.ptr 1 0 0::(bs 1 (.ptr 2 0 0::(bs 2 (.ptr 4 0 0::(.own 5 0 4 0 a8a.length::(bs 141 [])))))))),[some [],some [.var 147 [vi 0,.nil,.nil]],some [.var 147 [vi (m7 (s_.At+1)),.own 3 0 2 0 g8.length,.nil]],some [l9 172 2 x8 g8],some [.var 202 [vi own.a0.d6,vi own.a0.Seq,vi own.Code,vi own.f0]],some [l9 202 4 A8 a8a]]⟩
def c1L(s_:u6)(own:q9)(g8:List q8)(a8a:List q9):Option (u6×Int) :=
 ((a4B a8a).bind fun a3E=>some ((u6.mk (m7 (s_.At+1)) g8 a3E),own.Code))
theorem e1m(s_ own g8)(r):NF O4 r (e1h s_ own g8) (fun s=>c1L s_ own g8 s):=fun a8a h=>PK<|rg<|cbS a99 b9y 1 (fun _=>(by simp [a99,K6,S9,N5,V.simple,vi,t7,A8,eI,Y5])) (fun _=>(P1 1)) h fun a3E h=>s4 a8a<|rg<|B8 g8 a3E<|fE h
def c1f(s_:u6)(own:q9)(g8:List q8)(dones1:List q9)(put1:Bool):Option (u6×Int) :=
 (((bif (!put1) then (s7 ((dones1.length+1)*32<=140737488355328) (some (l8.brk (dones1++[own])))) else some (l8.brk dones1)):Option (l8 (u6×Int) (List q9))).bind fun x=>x.go some fun j=>c1L s_ own g8 j)
theorem e4a(s_ own g8)(r):NF O4 r (b6I s_ own g8) (fun s=>c1f s_ own g8 s.1 s.2):=fun (dones1,put1) h=>PK<|B0 h (e1m s_ own g8 r) fun x1 h hc1=>rg<|j4 1 h (fun h=>rg<|tk 2 []<|s9 h fun e1 h=>E8 3 11 202 4 32 A8 dones1 own e1<|D8 own<|(o6 h hc1 fun hI=>sk [] [4,6,9,10] [(1,0),(2,0),(3,0),(4,0),(11,0)] hI)) (fun h=>(o6 h hc1 fun hI=>sk [] [4,6,9,10] [(1,0),(2,0),(3,0),(4,0),(5,0)] hI))
def c2D(s_:u6)(own:q9)(g8:List q8):((List q9)×Int×Bool)->KS:=fun (dones,v109,put)=>⟨O4.k 12 [false,false,false,true],(bs 4 (.ptr 1 0 0::(bs 1 (.ptr 2 0 0::(bs 2 (.ptr 4 0 0::(.own 5 0 4 0 dones.length::(.b put::(bs 95 (j9 4 A8 s_.i9::(vi (s_.i9.length:Int)::(vi v109::(bs 42 []))))))))))))),[some [],some [.var 147 [vi 0,.nil,.nil]],some [.var 147 [vi (m7 (s_.At+1)),.own 3 0 2 0 g8.length,.nil]],some [l9 172 2 x8 g8],some [.var 202 [vi own.a0.d6,vi own.a0.Seq,vi own.Code,vi own.f0]],some [l9 202 4 A8 dones]]⟩
def d68(s_:u6)(own:q9)(g8:List q8)(v109:Int)(done2:q9):((List q9)×Bool)->KS:=fun (dones3,put2)=>⟨O4.k 17 [false,false,false,true,true,true],(bs 4 (.ptr 1 0 0::(bs 1 (.ptr 2 0 0::(bs 2 (.ptr 4 0 0::(.own 5 0 4 0 dones3.length::(.b put2::(bs 1 (.ptr 6 0 0::(bs 93 (j9 4 A8 s_.i9::(vi (s_.i9.length:Int)::(vi v109::(bs 42 []))))))))))))))),[some [],some [.var 147 [vi 0,.nil,.nil]],some [.var 147 [vi (m7 (s_.At+1)),.own 3 0 2 0 g8.length,.nil]],some [l9 172 2 x8 g8],some [.var 202 [vi own.a0.d6,vi own.a0.Seq,vi own.Code,vi own.f0]],some [l9 202 4 A8 dones3],some [.var 202 [vi done2.a0.d6,vi done2.a0.Seq,vi done2.Code,vi done2.f0]]]⟩
def d9H(s_:u6)(own:q9)(g8:List q8)(v109:Int)(put2:Bool):(List q9)->KS:=fun a90=>⟨O4.k 19 [false,false,false,true,true,true,true],(bs 4 (.ptr 1 0 0::(bs 1 (.ptr 2 0 0::(bs 2 (.ptr 4 0 0::(.own 5 0 4 0 a90.length::(.b put2::(bs 95 (j9 4 A8 s_.i9::(vi (s_.i9.length:Int)::(vi v109::(bs 42 []))))))))))))),[some [],some [.var 147 [vi 0,.nil,.nil]],some [.var 147 [vi (m7 (s_.At+1)),.own 3 0 2 0 g8.length,.nil]],some [l9 172 2 x8 g8],some [.var 202 [vi own.a0.d6,vi own.a0.Seq,vi own.Code,vi own.f0]],some [l9 202 4 A8 a90]]⟩
def b8M(v109:Int)(put2:Bool)(a90:List q9):Option (l7 (u6×Int) ((List q9)×Int×Bool) ((List q9)×Bool)) :=
 some (l7.nxt (a90,m7 (v109+1),put2))
theorem d65(s_ own g8 v109 put2)(lc:H8 O4 (b6I s_ own g8) (c2D s_ own g8)):NL lc (d9H s_ own g8 v109 put2) (fun s=>b8M v109 put2 s):=fun a90 h=>PK<|rg<|(lc.nx h fun hI=>sk [] [4,6,9,10,11,107,108,109] [(1,0),(2,0),(3,0),(4,0),(5,0)] hI)
def b8H(own:q9)(v109:Int)(done2:q9)(dones3:List q9)(put2:Bool):Option (l7 (u6×Int) ((List q9)×Int×Bool) ((List q9)×Bool)) :=
 (((bif (done2.a0.d6 != own.a0.d6) then (s7 ((dones3.length+1)*32<=140737488355328) (some (l8.brk (dones3++[done2])))) else some (l8.brk dones3)):Option (l8 (l7 (u6×Int) ((List q9)×Int×Bool) ((List q9)×Bool)) (List q9))).bind fun x=>x.go some fun j=>b8M v109 put2 j)
theorem e29(s_ own g8 v109 done2)(lc:H8 O4 (b6I s_ own g8) (c2D s_ own g8)):NL lc (d68 s_ own g8 v109 done2) (fun s=>b8H own v109 done2 s.1 s.2):=fun (dones3,put2) h=>PK<|B0 h (d65 s_ own g8 v109 put2 lc) fun x2 h hc2=>rg<|j4 6 h (fun h=>rg<|tk 2 []<|s9 h fun e2 h=>E8 3 17 202 4 32 A8 dones3 done2 e2<|D8 done2<|(o6 h hc2 fun hI=>sk [] [4,6,9,10,11,107,108,109] [(1,0),(2,0),(3,0),(4,0),(17,0)] hI)) (fun h=>(o6 h hc2 fun hI=>sk [] [4,6,9,10,11,107,108,109] [(1,0),(2,0),(3,0),(4,0),(5,0)] hI))
def b0z(s_:u6)(own:q9)(dones:List q9)(v109:Int)(put:Bool):Option (l7 (u6×Int) ((List q9)×Int×Bool) ((List q9)×Bool)) :=
 (bif decide (v109<(s_.i9.length:Int)) then ((idx s_.i9 v109).bind fun done2=>(((bif (!put) then (bif decide (done2.a0.d6>=own.a0.d6) then (s7 ((dones.length+1)*32<=140737488355328) (some (l8.brk (dones++[own],true)))) else some (l8.brk (dones,put))) else some (l8.brk (dones,put))):Option (l8 (l7 (u6×Int) ((List q9)×Int×Bool) ((List q9)×Bool)) ((List q9)×Bool))).bind fun x=>x.go some fun j=>b8H own v109 done2 j.1 j.2)) else some (l7.brk (dones,put)))
theorem d2Y(s_ own g8):LQ O4 (b6I s_ own g8) (c2D s_ own g8) (fun s=>b0z s_ own s.1 s.2.1 s.2.2):=fun lc (dones,v109,put) h=>PK<|rg<|j4 0 h (fun h=>rg<|v5 A8 0 h fun done2 e8u h=>B0 h (e29 s_ own g8 v109 done2 lc) fun x2 h hc2=>rg<|j4 2 h (fun h=>j4 10 h (fun h=>rg<|tk 2 []<|s9 h fun e3 h=>E8 3 25 202 4 32 A8 dones own e3<|D8 own<|rg<|(o6 h hc2 fun hI=>sk [] [4,6,9,10,11,13,107,108,109] [(1,0),(2,0),(3,0),(4,0),(25,0),(9,0)] hI)) (fun h=>(o6 h hc2 fun hI=>sk [] [4,6,9,10,11,13,107,108,109] [(1,0),(2,0),(3,0),(4,0),(5,0),(9,0)] hI))) (fun h=>(o6 h hc2 fun hI=>sk [] [4,6,9,10,11,13,107,108,109] [(1,0),(2,0),(3,0),(4,0),(5,0),(9,0)] hI))) (fun h=>(lc.bk h fun hI=>sk [] [4,6,9,10,11] [(1,0),(2,0),(3,0),(4,0),(5,0)] hI))
def b5V(s_:u6)(own:q9)(g8:List q8):Option (u6×Int) :=
 ((o9 (fun s:(List q9)×Int×Bool=>b0z s_ own s.1 s.2.1 s.2.2) ([],0,false)).bind fun x=>x.go (fun r=>some r) fun s=>c1f s_ own g8 s.1 s.2)
theorem d9W(s_)(r):NF O4 r (d3o s_) (fun s=>b5V s_ s.1 s.2):=fun (own,g8) h=>PK<|M3<|lp (d2Y s_ own g8) h (fun _ h=>O4.rt h) (e4a s_ own g8 r) fun hI=>sk [.own (.tmp 10) 202 4] [4,6,9,10,11,107,108,109] [(2,0),(3,0),(4,0),(5,0),(12,0)] hI
def b4D(s_:u6)(e_:m4)(box:List q8):Option (u6×Int) :=
 ((((b4l s_.g8 e_.b8).bind fun a4X=>(bif (!a4X) then some (l8.brk ((q9.mk e_.a0 1 0),box)) else (bif (e_.b8.Code != 0) then some (l8.brk ((q9.mk e_.a0 2 0),box)) else ((b46 s_.g8 e_.b8).bind fun d1S=>some (l8.brk ((q9.mk e_.a0 0 e_.b8.f0),d1S)))))):Option (l8 (u6×Int) (q9×List q8))).bind fun x=>x.go some fun j=>b5V s_ j.1 j.2)
theorem e2x(s_ e_ box)(r):NF O4 r (c0L s_ e_ box) (fun s=>b4D s_ e_ box):=fun _ h=>PK<|rg<|B0 h (d9W s_ r) fun x1 h hc1=>rg<|j8 a6I d9v 4 h fun a4X h=>j4 6 h (fun h=>rg<|(o6 h hc1 fun hI=>sk [] [2,4,6,9] [(1,0),(3,0),(4,0),(5,0),(9,0)] hI)) (fun h=>rg<|j4 4 h (fun h=>rg<|(o6 h hc1 fun hI=>sk [] [2,4,6,9] [(1,0),(3,0),(4,0),(5,0),(9,0)] hI)) (fun h=>n5<|j8 a7R e22 4 h fun d1S h=>(o6 h hc1 fun hI=>sk [] [2,4,6,9] [(1,0),(3,0),(4,0),(32,0),(9,0)] hI)))
def d2B(s_:u6)(e_:m4)(box:List q8):Int->KS:=fun v45=>⟨O4.k 5 [false,false],(bs 2 (.ptr 1 0 0::(.ptr 2 0 0::(.ptr 3 0 0::(bs 1 (.ptr 4 0 0::(bs 36 (j9 4 A8 s_.i9::(vi (s_.i9.length:Int)::(vi v45::(bs 106 []))))))))))),[some [],some [.var 147 [vi s_.At,j9 2 x8 s_.g8,j9 4 A8 s_.i9]],some [.var 51 (a3x e_)],some [.var 147 [vi 0,.nil,.nil]],some [.var 147 [vi (m7 (s_.At+1)),.own 5 0 2 0 box.length,.nil]],some [l9 172 2 x8 box]]⟩
end
end Go.Proofs.YtiplopknlhknjaaGreat
