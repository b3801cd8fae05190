/- Abstract values and states of the program, functions of the program and what their calls come to, and what follows from it: part 3 of the text that the law leans on; long names are written short. -/
import Derived.Test.YtaffmjifackfgaaGreatP2
set_option linter.unusedVariables false
set_option linter.unusedSimpArgs false
set_option linter.unnecessarySimpa false
namespace Go.Proofs.YtaffmjifackfgaaGreat
open Go
open Option renaming bind_some → e9J, map_some → f0J, getD_some → f0R, map_eq_some_iff → f0X
open List renaming getElem?_eq_getElem → e9K, replicate → e9L, getElem_mem → e9M, getElem?_eq_some_iff → e9P, mem_singleton → e9Q, mem_cons → e9R, nodup_append → e9S, length_append → e9T, range → e9U, eq_nil_of_length_eq_zero → e9V, mem_of_getElem? → e9W, getD_eq_getElem?_getD → e9X, append_assoc → e9Y, getElem?_append_right → e9Z, getElem?_set_ne → e90, drop_eq_nil_of_le → e91, getElem?_append_left → e94, length_take → e96, drop_eq_getElem_cons → e97, flatten_cons → f0a, getElem?_eq_none → f0c, map_cons → f0e, take_length → f0f, take_of_length_le → f0g, take_append_of_le_length → f0h, take_succ_eq_append_getElem → f0j, mem_of_mem_take → f0l, append_nil → f0m, mem_replicate → f0n, pairwise_iff_getElem → f0o, take_zero → f0p, nil_append → f0r, take_append_drop → f0s, mem_flatten → f0t, mem_of_mem_drop → f0u, length_cons → f0w, getElem_of_mem → f0x, length_singleton → f0y, getElem?_map → f0z, any_eq_false → f0A, getElem?_cons_zero → f0B, length_map → f0D, getElem?_set_self → f0F, mem_range → f0H, getElem?_cons_succ → f0I, drop_zero → f0N, length_set → f0O, nodup_cons → f0P, findIdx?_eq_some_iff_getElem → f0Q, pairwise_cons → f0T, mem_take_iff_getElem → f0U, map_append → f0V, getElem?_drop → f0Y, getElem?_take → f0Z, length_nil → f01, getElem?_set → f02, sublist_append_right → f04, getElem?_of_mem → f05, pairwise_append → f06, mem_append_left → f07, Perm → f09, drop_drop → f1a, any_eq_true → f1b, take_succ_cons → f1d, replicate_succ → f1e, foldl_cons → f1f, drop_append_of_le_length → f1g, size_toArray → f1h, all_eq_false → f1i, toArray → f1j, map_map → f1k, Sublist → f1l, set_getElem_self → f1n, length_replicate → f1o, getElem?_append → f1p, cons_append → f1q, mem_cons_of_mem → f1s, flatten_append → f1t, mem_of_find?_eq_some → f1u, foldl_nil → f1w
open Bool renaming and_eq_true → e9N, not_true → e9O, true_and → e93, not_false → e98, false_or → f0i, or_eq_false_iff → f0E, not_eq_true' → f0G, false_eq_true → f0L, and_true → f0M, true_or → f1c, and_assoc → f1m
open Int renaming toNat_natCast → e92, tmod → e99, le_refl → f0b, le_trans → f0q, tdiv → f1r
open Nat renaming mul_le_mul_right → e95, le_refl → f0d, eq_of_beq_eq_true → f0k, zero_add → f0v, succ_mul → f0C, lt_of_lt_of_le → f0S, le_mul_of_pos_right → f0W, add_zero → f00, le_succ_of_le → f03, zero_le → f08, sub_zero → f1v
open Option.some renaming inj → f0K
noncomputable section
def d3M:(List Int)->KS:=fun b6L=>⟨b3P.k 3 [true],(l7 1 J0 b6L::(bs 10 [])),[some []]⟩
def c3z(b6L:List Int):Option s9 :=
 some (s9.mk b6L 0)
theorem d8p(r):NF b3P r d3M (fun s=>c3z s):=fun b6L h=>PK<|rg<|fE h
def b7n(code:List Int):Option s9 :=
 (((bif decide ((code.length:Int)>2000) then (t5 ((0:Int)<=2000/\2000<=(code.length:Int)) (some (l9.brk ((code.drop 0).take ((2000:Int).toNat-0))))) else some (l9.brk code)):Option (l9 s9 (List Int))).bind fun x=>x.go some fun j=>c3z j)
theorem d9F{code}:OK b3P [l7 1 J0 code] (b7n code) :=
 n8 _ fun r h=>rg<|B2 h (d8p r) fun x1 h hc1=>rg<|j5 2 h (fun h=>rg<|t6 h fun e1 h=>om (V.sl 1 ((2000:Int).toNat-0) (((code.map J0).drop 0).take ((2000:Int).toNat-0))=l7 1 J0 ((code.drop 0).take ((2000:Int).toNat-0))) (b1X e1)<|ob e1.1<|ob e1.2<|tl (1,{v:=some (l7 1 J0 ((code.drop 0).take ((2000:Int).toNat-0)))})<|(o8 h hc1 fun hI=>sk [] [0] [] hI)) (fun h=>(o8 h hc1 fun hI=>sk [] [0] [] hI))
def c4j:FS (j6):=⟨28,Tryz.f28,[.val A3 F8],[none],[.val [] []],fun r=>.agg (F9 r),fun _=>[none],Tryz.func28⟩
def b95(id:Int):Option j6 :=
 (bif decide (id<0) then some (j6.mk 0 (x6.mk 0 []) [] 0 0 0 [] [] (m4.mk false (q8.mk 0 0) (n5.mk [] [] 0 0)) [] false [] (m4.mk false (q8.mk 0 0) (n5.mk [] [] 0 0)) []) else (bif decide (id>=3) then some (j6.mk 0 (x6.mk 0 []) [] 0 0 0 [] [] (m4.mk false (q8.mk 0 0) (n5.mk [] [] 0 0)) [] false [] (m4.mk false (q8.mk 0 0) (n5.mk [] [] 0 0)) []) else some (j6.mk id (x6.mk 0 []) [] 0 0 0 [] [] (m4.mk false (q8.mk 0 0) (n5.mk [] [] 0 0)) [] false [] (m4.mk false (q8.mk 0 0) (n5.mk [] [] 0 0)) [])))
theorem d3T{id}:OK c4j [vi id] (b95 id) :=
 n8 _ fun r h=>n6<|j5 2 h (fun h=>rg<|fE h) (fun h=>j5 5 h (fun h=>rg<|fE h) (fun h=>rg<|fE h))
def a5I:FS (m6):=⟨9,Tryz.f9,[.val E4 Q2],[],[],fun r=>.agg (R7 r),fun _=>[],Tryz.func9⟩
def d2C:(List j6)->KS:=fun Nodes1=>⟨a5I.k 4 [false],(.ptr 1 0 0::(.ptr 2 0 0::(bs 14 []))),[some [],some [.var 28 [.nil,.nil,.nil,.nil]],some [.var 28 [.own 3 0 27 0 Nodes1.length,.nil,.nil,.nil]],some [B8 65 27 x9 Nodes1]]⟩
def d0i(Nodes1:List j6):Option m6 :=
 some (m6.mk Nodes1 [] [] [])
theorem d9T(r):NF a5I r d2C (fun s=>d0i s):=fun Nodes1 h=>PK<|rg<|s7 Nodes1<|fE h
def e0i:((List j6)×Int)->KS:=fun (a9,i)=>⟨a5I.k 3 [],(.ptr 1 0 0::(.ptr 2 0 0::(vi i::(bs 13 [])))),[some [],some [.var 28 [.nil,.nil,.nil,.nil]],some [.var 28 [.own 3 0 27 0 a9.length,.nil,.nil,.nil]],some [B8 65 27 x9 a9]]⟩
def d5v(V4:j6):List V:=(a6a V4)
def a3y(a9:List j6)(i:Int):Option (l8 m6 ((List j6)×Int) (List j6)) :=
 (bif decide (i<3) then ((b95 i).bind fun V4=>(t5 ((a9.length+1)*392<=140737488355328) (some (l8.nxt (a9++[V4],m8 (i+1)))))) else some (l8.brk a9))
theorem d83:LQ a5I d2C e0i (fun s=>a3y s.1 s.2):=fun lc (a9,i) h=>PK<|rg<|j5 1 h (fun h=>rg<|j9 c4j d3T 3 h fun V4 h=>om (s6.deep false 65 27 1 [(d5v V4)]=B8 65 27 x9 [V4]) rfl<|z9 V4<|tl (4,{a:=.dck [none,none,some 8,some 7,none,none,none,some 1,some 8,none,none,none,some 2,some 2,none,none,some 1,none,some 4,none,none,none,some 2,some 2,none,none,some 7] [none,none,some 152,some 43,none,none,none,some 4,none,none,none,none,none,none,none,none,some 4,none,none,none,none,none,none,none,none,none,some 43],e:=some (B8 65 27 x9 [V4])})<|t6 h fun e1 h=>om (V.own 11 0 27 0 (a9.length+1)=.own 11 0 27 0 (a9++[V4]).length) (by simp)<|om (s6.deep false 65 27 (a9.length+1) (a9.map x9++[x9 V4])=B8 65 27 x9 (a9++[V4])) (c1m rfl)<|s7 a9<|ob e1<|om (1=1) rfl<|tl (5,{a:=.dck [] [],v:=some (.own 11 0 27 0 (a9++[V4]).length),e:=some (B8 65 27 x9 (a9++[V4]))})<|rg<|(lc.nx h fun hI=>sk [] [0,1,2] [(1,0),(2,0),(11,0)] hI)) (fun h=>(lc.bk h fun hI=>sk [] [0,1] [(1,0),(2,0),(3,0)] hI))
def b19:Option m6 :=
 ((p8 (fun s:(List j6)×Int=>a3y s.1 s.2) ([],0)).bind fun x=>x.go (fun r=>some r) fun s=>d0i s)
theorem d16:OK a5I [] b19 :=
 n8 _ fun r h=>M5<|lp (d83) h (fun _ h=>a5I.rt h) (d9T r) fun hI=>sk [.ownD (.cell 3 0 0) 65 27] [0,1,2] [(1,0),(3,0),(6,0)] hI
def E7:FS (Int×s9):=⟨53,Tryz.f53,[.val [] []],[some (0,.ptr [some 1,none] []),none],[.ptr [some 1,none] [],.val [] []],fun r=>vi r.1,fun r=>[some (.optr 119 (W5 r.2)),none],Tryz.func53⟩
def E2(r_:s9)(n:Int):Option (Int×s9) :=
 (bif decide (n<1) then some (0,(s9.mk r_.b (m8 (r_.p+1)))) else (bif ((r_.b.length:Int)==0) then some (0,(s9.mk r_.b (m8 (r_.p+1)))) else (bif decide ((m8 ((m8 (r_.p+1))-1))<(r_.b.length:Int)) then ((idx r_.b (m8 ((m8 (r_.p+1))-1))).bind fun y=>(t5 (n≠0) (some (e99 (m8 y) n,(s9.mk r_.b (m8 (r_.p+1))))))) else (t5 ((r_.b.length:Int)≠0) (((idx r_.b (e99 (m8 ((m8 (r_.p+1))-1)) (r_.b.length:Int))).bind fun y1=>(t5 ((r_.b.length:Int)≠0) (((idx r_.b (e99 (m8 ((m8 ((m8 ((m8 (r_.p+1))-1))*7))+3)) (r_.b.length:Int))).bind fun y2=>(t5 ((r_.b.length:Int)≠0) ((t5 (n≠0) (some (e99 (a5z .i64 (m8 ((m8 ((m8 ((m8 ((m8 y1)*131))+(m8 ((m8 y2)*1117))))+(m8 ((m8 ((m8 (r_.p+1))-1))*29))))+(m8 ((m8 (f1r (m8 ((m8 (r_.p+1))-1)) (r_.b.length:Int)))*53)))) (m8 (f1r (m8 ((m8 ((m8 ((m8 ((m8 y1)*131))+(m8 ((m8 y2)*1117))))+(m8 ((m8 ((m8 (r_.p+1))-1))*29))))+(m8 ((m8 (f1r (m8 ((m8 (r_.p+1))-1)) (r_.b.length:Int)))*53)))) 64))) n,(s9.mk r_.b (m8 (r_.p+1)))))))))))))))))
theorem F4{r_ n}:OK E7 [.optr 119 (W5 r_),vi n] (E2 r_ n) :=
 n8 _ fun r h=>M5<|j5 2 h (fun h=>rg<|fE h) (fun h=>j5 9 h (fun h=>rg<|fE h) (fun h=>n6<|j5 6 h (fun h=>rg<|w9 J0 5 h fun y hy h=>t6 h fun e1 h=>ob e1<|fE h) (fun h=>rg<|t6 h fun e2 h=>ob e2<|w9 J0 11 h fun y1 hy1 h=>t6 h fun e3 h=>ob e3<|w9 J0 28 h fun y2 hy2 h=>t6 h fun e4 h=>ob e4<|rg<|om (64≠(0:Int)) (by decide)<|rg<|t6 h fun e5 h=>ob e5<|fE h)))
def d2i:FS (n5):=⟨161,Tryz.f161,[.val N6 []],[none],[.val N6 []],fun r=>.agg (P3 r),fun _=>[none],Tryz.func161⟩
def c1t(r_:n5):Option n5 :=
 (t5 ((([]:List p9).length+r_.b5.length)*16<=140737488355328) ((t5 ((([]:List n9).length+r_.b6.length)*16<=140737488355328) (some (n5.mk (([]:List p9)++r_.b5) (([]:List n9)++r_.b6) r_.f0 r_.Code)))))
theorem d99{r_}:OK d2i [.agg (P3 r_)] (c1t r_) :=
 n8 _ fun r h=>n6<|tk 0 []<|t6 h fun e1 h=>oa 6 0 2 ([]:List p9) r_.b5<|oz 86 2 u5 ([]:List p9) r_.b5<|B6 p9<|ob e1<|tl (3,{v:=some (.own 6 0 2 0 (([]:List p9)++r_.b5).length),e:=some (m5 86 2 u5 (([]:List p9)++r_.b5))})<|tk 4 []<|t6 h fun e2 h=>oa 10 0 2 ([]:List n9) r_.b6<|oz 89 2 u6 ([]:List n9) r_.b6<|B6 n9<|ob e2<|tl (7,{v:=some (.own 10 0 2 0 (([]:List n9)++r_.b6).length),e:=some (m5 89 2 u6 (([]:List n9)++r_.b6))})<|C2 (([]:List p9)++r_.b5) (([]:List n9)++r_.b6)<|fE h
def Z2:FS (m4):=⟨114,Tryz.f114,[.val J9 []],[none],[.val J9 []],fun r=>.agg (t0 r),fun _=>[none],Tryz.func114⟩
def V5(e_:m4):Option m4 :=
 ((c1t e_.b8).bind fun c4c=>some (m4.mk e_.i8 e_.a5 c4c))
theorem a0u{e_}:OK Z2 [.agg (t0 e_)] (V5 e_) :=
 n8 _ fun r h=>n6<|j9 d2i d99 6 h fun c4c h=>fE h
def a3U:FS (List m7):=⟨113,Tryz.f113,[.val [some 8] [some 152]],[none],[.val [some 8] []],fun r=>u7 152 8 p6 r,fun _=>[none],Tryz.func113⟩
def c9G:(List m7)->KS:=fun out1=>⟨a3U.k 4 [false],(bs 3 (.own 1 0 8 0 out1.length::(bs 24 []))),[some [],some [m5 152 8 p6 out1]]⟩
def c45(out1:List m7):Option (List m7) :=
 some out1
theorem d9K(r):NF a3U r c9G (fun s=>c45 s):=fun out1 h=>PK<|rg<|s7 out1<|fE h
def d56(list:List m7):((List m7)×Int)->KS:=fun (out,i)=>⟨a3U.k 3 [],(l7 8 p6 list::(bs 2 (.own 1 0 8 0 out.length::(vi i::(bs 23 []))))),[some [],some [m5 152 8 p6 out]]⟩
def b2m(list:List m7)(out:List m7)(i:Int):Option (l8 (List m7) ((List m7)×Int) (List m7)) :=
 (bif decide (i<(list.length:Int)) then ((idx list i).bind fun vote=>((V5 vote.i0).bind fun l5Entry=>(t5 ((out.length+1)*96<=140737488355328) (some (l8.nxt (out++[(m7.mk vote.a7 l5Entry)],m8 (i+1))))))) else some (l8.brk out))
theorem e9s(list):LQ a3U c9G (d56 list) (fun s=>b2m list s.1 s.2):=fun lc (out,i) h=>PK<|rg<|j5 3 h (fun h=>rg<|w9 p6 3 h fun vote M9 h=>L7 p6 8 M9<|j9 Z2 a0u 11 h fun l5Entry h=>tk 13 T5<|t6 h fun e1 h=>F7 14 20 152 8 96 p6 out (m7.mk vote.a7 l5Entry) e1<|E5 (m7.mk vote.a7 l5Entry)<|rg<|(lc.nx h fun hI=>sk [] [0,3,4] [(20,0)] hI)) (fun h=>(lc.bk h fun hI=>sk [] [3] [(1,0)] hI))
def a7i(list:List m7):Option (List m7) :=
 ((p8 (fun s:(List m7)×Int=>b2m list s.1 s.2) (([]:List m7),0)).bind fun x=>x.go (fun r=>some r) fun s=>c45 s)
theorem b39{list}:OK a3U [l7 8 p6 list] (a7i list) :=
 n8 _ fun r h=>n6<|tk 0 T5<|rg<|lp (e9s list) h (fun _ h=>a3U.rt h) (d9K r) fun hI=>om ((.own 2 0 8 0 0:V)=.own 2 0 8 0 ([]:List m7).length) (by simp)<|sk [.is (.tmp 3) (.own 2 0 8 0 ([]:List m7).length)] [0,3,4] [(2,0)] hI
def b1P:FS (j8):=⟨70,Tryz.f70,[.val B5 []],[none],[.val B5 []],fun r=>.agg (s5 r),fun _=>[none],Tryz.func70⟩
def a7e(m:j8):Option j8 :=
 ((V5 m.i0).bind fun l5Entry=>((a7i m.a6).bind fun W1=>some (j8.mk m.a8 m.c8 m.To m.a7 m.g7 l5Entry W1)))
theorem b66{m}:OK b1P [.agg (s5 m)] (a7e m) :=
 n8 _ fun r h=>M5<|j9 Z2 a0u 2 h fun l5Entry h=>rg<|j9 a3U b39 2 h fun W1 h=>rg<|s7 W1<|fE h
def a00:FS (m6):=⟨77,Tryz.f77,[.val E4 Q2],[none,none],[.val E4 Q2,.val [some 13] []],fun r=>.agg (R7 r),fun _=>[none,none],Tryz.func77⟩
def c80(w:m6):(List j8)->KS:=fun Net1=>⟨a00.k 3 [false],(bs 2 (.ptr 1 0 0::(bs 1 (.ptr 3 0 0::(bs 24 []))))),[some [B8 65 27 x9 w.a9,.dead,m5 78 3 A7 w.d7,m5 72 5 x7 w.Told],some [.var 28 [.own 0 0 27 0 w.a9.length,.own 2 0 13 0 Net1.length,.own 0 2 3 0 w.d7.length,.own 0 3 5 0 w.Told.length]],some [m5 76 13 s5 Net1],some [.var 28 [.nil,.nil,.nil,.nil]]]⟩
def c4e(w:m6)(Net1:List j8):Option m6 :=
 some (m6.mk w.a9 Net1 w.d7 w.Told)
theorem e0d(w)(r):NF a00 r (c80 w) (fun s=>c4e w s):=fun Net1 h=>PK<|rg<|G0 w.a9 Net1 w.d7 w.Told<|fE h
def e8M(w:m6)(list:List j8):((List j8)×Int)->KS:=fun (b9,i)=>⟨a00.k 2 [],(bs 1 (l7 13 s5 list::(.ptr 1 0 0::(bs 1 (.ptr 2 0 0::(vi i::(bs 23 []))))))),[some [B8 65 27 x9 w.a9,.dead,m5 78 3 A7 w.d7,m5 72 5 x7 w.Told],some [.var 28 [.own 0 0 27 0 w.a9.length,.own 3 0 13 0 b9.length,.own 0 2 3 0 w.d7.length,.own 0 3 5 0 w.Told.length]],some [.var 28 [.nil,.nil,.nil,.nil]],some [m5 76 13 s5 b9]]⟩
def a2F(list:List j8)(b9:List j8)(i:Int):Option (l8 m6 ((List j8)×Int) (List j8)) :=
 (bif decide (i<(list.length:Int)) then (bif decide ((b9.length:Int)<40) then ((idx list i).bind fun msg=>((a7e msg).bind fun E9=>(t5 ((b9.length+1)*152<=140737488355328) (some (l8.nxt (b9++[E9],m8 (i+1))))))) else some (l8.brk b9)) else some (l8.brk b9))
theorem d8u(w list):LQ a00 (c80 w) (e8M w list) (fun s=>a2F list s.1 s.2):=fun lc (b9,i) h=>PK<|rg<|j5 4 h (fun h=>j5 9 h (fun h=>rg<|w9 s5 4 h fun msg hmsg h=>j9 b1P b66 6 h fun E9 h=>tk 7 B5<|t6 h fun e1 h=>F7 8 22 76 13 152 s5 b9 E9 e1<|E5 E9<|rg<|(lc.nx h fun hI=>sk [] [1,2,4,5] [(1,0),(2,0),(22,0)] hI)) (fun h=>(lc.bk h fun hI=>sk [] [2,4] [(1,0),(3,0),(2,0)] hI))) (fun h=>(lc.bk h fun hI=>sk [] [2,4] [(1,0),(3,0),(2,0)] hI))
def a2X(w:m6)(list:List j8):Option m6 :=
 ((p8 (fun s:(List j8)×Int=>a2F list s.1 s.2) (w.b9,0)).bind fun x=>x.go (fun r=>some r) fun s=>c4e w s)
theorem a5s{w list}:OK a00 [.agg (R7 w),l7 13 s5 list] (a2X w list) :=
 n8 _ fun r h=>n6<|lp (d8u w list) h (fun _ h=>a00.rt h) (e0d w r) fun hI=>sk [] [1,2,4,5] [(1,0),(2,0),(0,1)] hI
def b98:FS (m6):=⟨115,Tryz.f115,[.val E4 Q2],[none,none],[.val E4 Q2,.val [] []],fun r=>.agg (R7 r),fun _=>[none,none],Tryz.func115⟩
def b1i(w:m6)(i:Int):Option m6 :=
 (t5 ((0:Int)<=i/\i<=(w.b9.length:Int)) ((t5 ((([]:List j8).length+(i.toNat-0))*152<=140737488355328) ((t5 ((0:Int)<=m8 (i+1)/\m8 (i+1)<=(w.b9.length:Int)) ((t5 (((([]:List j8)++(w.b9.drop (0+0)).take (i.toNat-0)).length+(w.b9.length-(m8 (i+1)).toNat))*152<=140737488355328) (some (m6.mk w.a9 ((([]:List j8)++(w.b9.drop (0+0)).take (i.toNat-0))++(w.b9.drop (0+(m8 (i+1)).toNat)).take (w.b9.length-(m8 (i+1)).toNat)) w.d7 w.Told)))))))))
set_option maxRecDepth 20000 in
theorem d0t{w i}:OK b98 [.agg (R7 w),vi i] (b1i w i) :=
 n8 _ fun r h=>n6<|tk 0 B5<|t6 h fun e1 h=>ob e1.1<|ob e1.2<|t6 h fun e2 h=>om (V.own 8 0 13 0 (([]:List j8).length+(i.toNat-0))=.own 8 0 13 0 (([]:List j8)++(w.b9.drop (0+0)).take (i.toNat-0)).length) (c1F (by omega))<|om (s6.row 76 13 (([]:List j8).length+(i.toNat-0)) (([]:List j8).map s5++((w.b9.map s5).drop (0+0)).take (i.toNat-0))=m5 76 13 s5 (([]:List j8)++(w.b9.drop (0+0)).take (i.toNat-0))) (b8J (by omega))<|B6 j8<|ob e2<|om ((0+0)+(i.toNat-0)<=w.b9.length) (by omega)<|tl (5,{a:=.part,v:=some (.own 8 0 13 0 (([]:List j8)++(w.b9.drop (0+0)).take (i.toNat-0)).length),e:=some (m5 76 13 s5 (([]:List j8)++(w.b9.drop (0+0)).take (i.toNat-0)))})<|t6 h fun e3 h=>ob e3.1<|ob e3.2<|t6 h fun e4 h=>om (V.own 14 0 13 0 ((([]:List j8)++(w.b9.drop (0+0)).take (i.toNat-0)).length+(w.b9.length-(m8 (i+1)).toNat))=.own 14 0 13 0 ((([]:List j8)++(w.b9.drop (0+0)).take (i.toNat-0))++(w.b9.drop (0+(m8 (i+1)).toNat)).take (w.b9.length-(m8 (i+1)).toNat)).length) (c1F (by omega))<|om (s6.row 76 13 ((([]:List j8)++(w.b9.drop (0+0)).take (i.toNat-0)).length+(w.b9.length-(m8 (i+1)).toNat)) ((([]:List j8)++(w.b9.drop (0+0)).take (i.toNat-0)).map s5++((w.b9.map s5).drop (0+(m8 (i+1)).toNat)).take (w.b9.length-(m8 (i+1)).toNat))=m5 76 13 s5 ((([]:List j8)++(w.b9.drop (0+0)).take (i.toNat-0))++(w.b9.drop (0+(m8 (i+1)).toNat)).take (w.b9.length-(m8 (i+1)).toNat))) (b8J (by omega))<|s7 (([]:List j8)++(w.b9.drop (0+0)).take (i.toNat-0))<|ob e4<|om ((0+(m8 (i+1)).toNat)+(w.b9.length-(m8 (i+1)).toNat)<=w.b9.length) (by omega)<|tl (11,{a:=.part,v:=some (.own 14 0 13 0 ((([]:List j8)++(w.b9.drop (0+0)).take (i.toNat-0))++(w.b9.drop (0+(m8 (i+1)).toNat)).take (w.b9.length-(m8 (i+1)).toNat)).length),e:=some (m5 76 13 s5 ((([]:List j8)++(w.b9.drop (0+0)).take (i.toNat-0))++(w.b9.drop (0+(m8 (i+1)).toNat)).take (w.b9.length-(m8 (i+1)).toNat)))})<|rg<|G0 w.a9 ((([]:List j8)++(w.b9.drop (0+0)).take (i.toNat-0))++(w.b9.drop (0+(m8 (i+1)).toNat)).take (w.b9.length-(m8 (i+1)).toNat)) w.d7 w.Told<|fE h
def a1x:FS (Bool):=⟨107,Tryz.f107,[.val [] []],[none],[.val [] []],fun r=>.b r,fun _=>[none],Tryz.func107⟩
def a0K(n:Int):Option Bool :=
 (bif decide (n>=1) then some (decide (n<=3000)) else some false)
theorem a18{n}:OK a1x [vi n] (a0K n) :=
 n8 _ fun r h=>n6<|j5 2 h (fun h=>fE h) (fun h=>fE h)
def a5t:FS (x6×Bool):=⟨120,Tryz.f120,[.val [none,some 8] [none,some 9000000],.val [] []],[none,none],[.val [none,some 8] [],.val [] []],fun r=>.tup [.agg [vi r.1.g8,.bot],.b r.2],fun _=>[none,none],Tryz.func120⟩
def a9A(a:x6)(bal:Int):Option (x6×Bool) :=
 ((a0K bal).bind fun W7=>(bif (!W7) then some (a,false) else (bif decide (bal<a.g8) then some (a,false) else none)))
theorem c3g{a bal}:OK a5t [.agg (Y5 a),vi bal] (a9A a bal) :=
 n8 _ fun r h=>n6<|j9 a1x a18 1 h fun W7 h=>j5 3 h (fun h=>rg<|fE h) (fun h=>j5 8 h (fun h=>rg<|fE h) (fun h=>(nomatch h)))
def a3D:FS (List j8):=⟨182,Tryz.f182,[.val [some 13] []],[none,none],[.val B5 [],.val B5 []],fun r=>l7 13 s5 r,fun _=>[none,none],Tryz.func182⟩
def a4u(m:j8)(out:j8):Option (List j8) :=
 some [(j8.mk out.a8 m.To m.c8 out.a7 out.g7 out.i0 out.a6)]
theorem a6N{m out}:OK a3D [.agg (s5 m),.agg (s5 out)] (a4u m out) :=
 n8 _ fun r h=>rg4<|tk 1 B5<|E5 (j8.mk out.a8 m.To m.c8 out.a7 out.g7 out.i0 out.a6)<|fE h
def d0a(rv:Value):FS (j6):=⟨119,Tryz.f119,[.val A3 om1],[none],[.val A3 om1],fun r=>.agg ([vi r.Id,vi r.Acc.g8,.raw rv]++a88 r),fun _=>[none],Tryz.func119⟩
def d1A(n:j6):Option j6 :=
 some (j6.mk n.Id n.Acc n.a0 n.Seq 0 0 [] [] (m4.mk false (q8.mk 0 0) (n5.mk [] [] 0 0)) [] n.i7 n.i5 n.b7 n.d9)
theorem e3x{n}(rv):OK (d0a rv) [.agg ([vi n.Id,vi n.Acc.g8,.raw rv]++a88 n)] (d1A n) :=
 n8 _ fun r h=>rg4<|rg4<|C2 n.a0 n.d9<|fE h
def b1S(rv:Value):FS (j6):=⟨167,Tryz.f167,[.val A3 om1],[none,none],[.val A3 om1,.val [] []],fun r=>.agg ([vi r.Id,vi r.Acc.g8,.raw rv]++a88 r),fun _=>[none,none],Tryz.func167⟩
def d6W(i:Nat)(fr:Bool)(r:j6):Nat×J6:=(i,{a:=.callr 0 2 [.val A3 om1,.val [] []] fr (.agg ([vi r.Id,vi r.Acc.g8,.hole]++a88 r)) [none,none]})
def d53(rv:Value)(n:j6):Unit->KS:=fun _=>⟨(b1S rv).k 2 [false],(bs 2 (.ptr 1 0 0::(bs 1 (.ptr 2 0 0::(bs 12 []))))),[some [m5 43 7 t0 n.a0,m5 4 1 eB n.c8,m5 4 1 eB n.a6,m5 43 7 t0 n.d9],some [.var 65 ([vi n.Id,vi n.Acc.g8,.raw rv,.own 0 0 7 0 n.a0.length,vi n.Seq,vi n.d6,vi n.a7,.own 0 1 1 0 n.c8.length]++a48 n++[.own 0 2 1 0 n.a6.length]++a3C n++[.own 0 3 7 0 n.d9.length])],some [.var 65 [vi 0,vi 0,.nil,.nil,vi 0,vi 0,vi 0,.nil,.nil,.b false,vi 0,vi 0,.nil,.nil,vi 0,vi 0,.nil,.b false,.nil,.b false,vi 0,vi 0,.nil,.nil,vi 0,vi 0,.nil]]]⟩
def d1C(n:j6):Option j6 :=
 some n
theorem d5d(rv n)(r):NF (b1S rv) r (d53 rv n) (fun s=>d1C n):=fun _ h=>PK<|rg<|I3 n<|fE h
def b2N(n:j6)(bal:Int):Option j6 :=
 (((bif (n.d6 != 0) then (bif decide (bal>n.a7) then ((d1A n).bind fun r_=>some (l9.ret r_)) else some (l9.brk ())) else some (l9.brk ())):Option (l9 j6 Unit)).bind fun x=>x.go some fun j=>d1C n)
theorem e9A{n bal}(rv):OK (b1S rv) [.agg ([vi n.Id,vi n.Acc.g8,.raw rv]++a88 n),vi bal] (b2N n bal) :=
 n8 _ fun r h=>rg<|B2 h (d5d rv n r) fun x1 h hc1=>rg<|j5 3 h (fun h=>j5 8 h (fun h=>rg<|cb (d0a rv).t (e3x rv) 1 false h fun r_ h=>I3 n<|(B7 h hc1 fun h=>I3 r_<|fE h)) (fun h=>(o8 h hc1 fun hI=>sk [] [2,4] [(1,0),(2,0)] hI))) (fun h=>(o8 h hc1 fun hI=>sk [] [2,4] [(1,0),(2,0)] hI))
theorem e3y{n bal}(r)(h:b2N n bal=some r):∀c,X7 cx.P 167 [.agg ([vi n.Id,vi n.Acc.g8,.raw c]++a88 n),vi bal] ((b1S c).R r) ((b1S c).O r):=fun c=>e9A c r h
def b0w:FS (x6×Bool):=⟨120,Tryz.f120,[.val [none,some 8] [none,some 152],.val [] []],[none,none],[.val [none,some 8] [none,some 152],.val [] []],fun r=>.tup [.agg [vi r.1.g8,u7 152 8 p6 r.1.a6],.b r.2],fun _=>[none,none],Tryz.func120⟩
def a6Q(a:x6)(bal:Int):Option (x6×Bool) :=
 ((a0K bal).bind fun W7=>(bif (!W7) then some (a,false) else (bif decide (bal<a.g8) then some (a,false) else some ((x6.mk bal a.a6),true))))
theorem b7w{a bal}:OK b0w [.agg [vi a.g8,u7 152 8 p6 a.a6],vi bal] (a6Q a bal) :=
 n8 _ fun r h=>n6<|j9 a1x a18 1 h fun W7 h=>j5 3 h (fun h=>rg<|s7 a.a6<|fE h) (fun h=>j5 8 h (fun h=>rg<|s7 a.a6<|fE h) (fun h=>n6<|s7 a.a6<|fE h))
def d1t:FS (n5):=⟨161,Tryz.f161,[.val N6 om5],[none],[.val N6 []],fun r=>.agg (a5w r),fun _=>[none],Tryz.func161⟩
def c25(r_:n5):Option n5 :=
 (t5 ((([]:List p9).length+r_.b5.length)*16<=140737488355328) ((t5 ((([]:List n9).length+r_.b6.length)*16<=140737488355328) (some (n5.mk (([]:List p9)++r_.b5) (([]:List n9)++r_.b6) r_.f0 r_.Code)))))
theorem d7k{r_}:OK d1t [.agg (P3 r_)] (c25 r_) :=
 n8 _ fun r h=>n6<|tk 0 []<|t6 h fun e1 h=>oa 6 0 2 ([]:List p9) r_.b5<|oz 86 2 u5 ([]:List p9) r_.b5<|B6 p9<|ob e1<|tl (3,{v:=some (.own 6 0 2 0 (([]:List p9)++r_.b5).length),e:=some (m5 86 2 u5 (([]:List p9)++r_.b5))})<|tk 4 []<|t6 h fun e2 h=>oa 10 0 2 ([]:List n9) r_.b6<|oz 89 2 u6 ([]:List n9) r_.b6<|B6 n9<|ob e2<|tl (7,{v:=some (.own 10 0 2 0 (([]:List n9)++r_.b6).length),e:=some (m5 89 2 u6 (([]:List n9)++r_.b6))})<|C2 (([]:List p9)++r_.b5) (([]:List n9)++r_.b6)<|fE h
def c6l:FS (m4):=⟨114,Tryz.f114,[.val J9 om6],[none],[.val J9 []],fun r=>.agg (e6C r),fun _=>[none],Tryz.func114⟩
def b3R(e_:m4):Option m4 :=
 ((c25 e_.b8).bind fun d=>some (m4.mk e_.i8 e_.a5 d))
theorem d7e{e_}:OK c6l [.agg (t0 e_)] (b3R e_) :=
 n8 _ fun r h=>n6<|j9 d1t d7k 6 h fun d h=>olR d<|fE h
def a2R:FS (List m7):=⟨113,Tryz.f113,[.val [some 8] [some 1000152]],[none],[.part],fun r=>a9c 152 8 a0d r,fun _=>[none],Tryz.func113⟩
def c7y:(List m7)->KS:=fun out1=>⟨a2R.k 4 [false],(bs 3 (.own 1 0 8 0 out1.length::(bs 24 []))),[some [],some [B8 152 8 a0d out1]]⟩
def c9b(out1:List m7):Option (List m7) :=
 some out1
theorem d35(r):NF a2R r c7y (fun s=>c9b s):=fun out1 h=>PK<|rg<|s7 out1<|fE h
def e8a(list:List m7):((List m7)×Int)->KS:=fun (out,i)=>⟨a2R.k 3 [],(l7 8 p6 list::(bs 2 (.own 1 0 8 0 out.length::(vi i::(bs 23 []))))),[some [],some [B8 152 8 a0d out]]⟩
def d3E(vote:m7)(d:m4):List V:=[vi vote.a7,.b d.i8,vi d.a5.d8,vi d.a5.Seq,u7 86 2 u5 d.b8.b5,u7 89 2 u6 d.b8.b6,vi d.b8.f0,vi d.b8.Code]
def b1f(list:List m7)(out:List m7)(i:Int):Option (l8 (List m7) ((List m7)×Int) (List m7)) :=
 (bif decide (i<(list.length:Int)) then ((idx list i).bind fun vote=>((b3R vote.i0).bind fun d=>(t5 ((out.length+1)*96<=140737488355328) (some (l8.nxt (out++[(m7.mk vote.a7 d)],m8 (i+1))))))) else some (l8.brk out))
theorem e1J(list):LQ a2R c7y (e8a list) (fun s=>b1f list s.1 s.2):=fun lc (out,i) h=>PK<|rg<|j5 3 h (fun h=>rg<|w9 p6 3 h fun vote M9 h=>L7 p6 8 M9<|j9 c6l d7e 11 h fun d h=>om (s6.deep false 152 8 1 [(d3E vote d)]=B8 152 8 a0d [(m7.mk vote.a7 d)]) rfl<|olR d.b8<|tl (13,{a:=.dck [none,none,none,none,some 2,some 2,none,none] [none,none,none,none,some 86,some 89,none,none],e:=some (B8 152 8 a0d [(m7.mk vote.a7 d)])})<|t6 h fun e1 h=>om (V.own 20 0 8 0 (out.length+1)=.own 20 0 8 0 (out++[(m7.mk vote.a7 d)]).length) (by simp)<|om (s6.deep false 152 8 (out.length+1) (out.map a0d++[a0d (m7.mk vote.a7 d)])=B8 152 8 a0d (out++[(m7.mk vote.a7 d)])) (c1m rfl)<|s7 out<|ob e1<|om (1=1) rfl<|tl (14,{a:=.dck [] [],v:=some (.own 20 0 8 0 (out++[(m7.mk vote.a7 d)]).length),e:=some (B8 152 8 a0d (out++[(m7.mk vote.a7 d)]))})<|rg<|(lc.nx h fun hI=>sk [] [0,3,4] [(20,0)] hI)) (fun h=>(lc.bk h fun hI=>sk [] [3] [(1,0)] hI))
def b8n(list:List m7):Option (List m7) :=
 ((p8 (fun s:(List m7)×Int=>b1f list s.1 s.2) (([]:List m7),0)).bind fun x=>x.go (fun r=>some r) fun s=>c9b s)
theorem e8h{list}:OK a2R [l7 8 p6 list] (b8n list) :=
 n8 _ fun r h=>n6<|om (s6.deep false 152 8 0 []=B8 152 8 a0d ([]:List m7)) rfl<|tl (0,{a:=.dck [] [],e:=some (B8 152 8 a0d ([]:List m7))})<|rg<|lp (e1J list) h (fun _ h=>a2R.rt h) (d35 r) fun hI=>om ((.own 2 0 8 0 0:V)=.own 2 0 8 0 ([]:List m7).length) (by simp)<|sk [.is (.tmp 3) (.own 2 0 8 0 ([]:List m7).length)] [0,3,4] [(2,0)] hI
def d1K:FS (j6×List j8):=⟨162,Tryz.f162,[.val A3 F8,.val [some 13] []],[none,none],[.val A3 F8,.val B5 []],fun r=>.tup [.agg (F9 r.1),l7 13 s5 r.2],fun _=>[none,none],Tryz.func162⟩
def b6U(n:j6)(m:j8):Option (j6×List j8) :=
 (a4e (a9A n.Acc m.a7) (fun no=>(bif (!no.2) then ((a4u m (j8.mk 6 0 0 n.Acc.g8 0 (m4.mk false (q8.mk 0 0) (n5.mk [] [] 0 0)) [])).bind fun a1a=>some (n,a1a)) else none)) (((a6Q n.Acc m.a7).bind fun l6Promise=>(bif (!l6Promise.2) then none else ((b2N (j6.mk n.Id l6Promise.1 n.a0 n.Seq n.d6 n.a7 n.c8 n.g9 n.c9 n.a6 n.i7 n.i5 n.b7 n.d9) m.a7).bind fun r_=>(bif decide (m.g7<(l6Promise.1.a6.length:Int)) then (t5 ((0:Int)<=m.g7/\m.g7<=(l6Promise.1.a6.length:Int)) (((b8n ((l6Promise.1.a6.drop m.g7.toNat).take (l6Promise.1.a6.length-m.g7.toNat))).bind fun d=>((a4u m (j8.mk 2 0 0 m.a7 m.g7 (m4.mk false (q8.mk 0 0) (n5.mk [] [] 0 0)) d)).bind fun a37=>some ((j6.mk r_.Id (x6.mk r_.Acc.g8 l6Promise.1.a6) r_.a0 r_.Seq r_.d6 r_.a7 r_.c8 r_.g9 r_.c9 r_.a6 r_.i7 r_.i5 r_.b7 r_.d9),a37))))) else ((a4u m (j8.mk 2 0 0 m.a7 m.g7 (m4.mk false (q8.mk 0 0) (n5.mk [] [] 0 0)) ([]:List m7))).bind fun c9L=>some ((j6.mk r_.Id (x6.mk r_.Acc.g8 l6Promise.1.a6) r_.a0 r_.Seq r_.d6 r_.a7 r_.c8 r_.g9 r_.c9 r_.a6 r_.i7 r_.i5 r_.b7 r_.d9),c9L))))))))
set_option maxRecDepth 20000 in
theorem e0C{n m}:OK d1K [.agg (F9 n),.agg (s5 m)] (b6U n m) :=
 n8 _ fun r h=>n6<|cbA a5t.t c3g 4 true h (fun no h=>osc a5t no (by simp [a5t,M3,T9,O4,V.simple,vi,u7,Y5,eB,t0,eI,u6,u5,Z1,P3,p6]) (P8 2)<|s7 n.Acc.a6<|rg<|j5 1 h (fun h=>rg<|j9 a3D a6N 6 h fun a1a h=>z9 n<|fE h) (fun h=>(nomatch h))) (fun h=>j9 b0w b7w 4 h fun l6Promise h=>s7 n.Acc.a6<|rg<|j5 1 h (fun h=>(nomatch h)) (fun h=>n6<|cb d6W e3y 3 false h fun r_ h=>I3 n<|rg<|tk 0 T5<|rg<|j5 5 h (fun h=>rg<|t6 h fun e1 h=>ob e1.1<|ob e1.2<|A6 h fun d hd h=>om (X7 cx.P 113 [.sl 8 (l6Promise.1.a6.length-m.g7.toNat) (((l6Promise.1.a6.map p6).drop (0+m.g7.toNat)).take (l6Promise.1.a6.length-m.g7.toNat))] (a2R.R d) (a2R.O d)) (by rw [f0v,b5O e1];exact (e8h d hd))<|osc a2R d (by simp [a2R,M3,T9,O4,V.simple,vi,u7,b40,eB,t0,eI,u6,u5,Z1,P3,p6,a0d,a9c]) (P8 1)<|om ((0+m.g7.toNat)+(l6Promise.1.a6.length-m.g7.toNat)<=l6Promise.1.a6.length) (by omega)<|tl (a2R.t 5 true d)<|rg<|A6 h fun a37 e6f h=>om (X7 cx.P 182 [.agg (s5 m),.agg [vi 2,vi 0,vi 0,vi m.a7,vi m.g7,.b false,vi 0,vi 0,l7 2 u5 ([]:List p9),l7 2 u6 ([]:List n9),vi 0,vi 0,.sl 8 d.length (Z6 (d.map a0d))]] (a3D.R a37) (a3D.O a37)) (by simp only [a9b d6w];exact (a6N a37 e6f))<|s7 d<|tl (a3D.t 8 false a37)<|s7 l6Promise.1.a6<|I3 r_<|fE h) (fun h=>rg<|j9 a3D a6N 8 h fun c9L h=>B6 m7<|s7 l6Promise.1.a6<|I3 r_<|fE h)))
def d1l:FS (List m7):=⟨184,Tryz.f184,[.val [some 8] [some 152]],[none,none],[.val [some 8] [],.val [] []],fun r=>u7 152 8 p6 r,fun _=>[none,none],Tryz.func184⟩
def b5o(list:List m7)(slot:Int):Option (List m7) :=
 (t5 (0<=slot/\slot*96<=140737488355328) (((a7i list).bind fun W1=>(t5 (((e9L slot.toNat (m7.mk 0 (m4.mk false (q8.mk 0 0) (n5.mk [] [] 0 0)))).length+W1.length)*96<=140737488355328) (some ((e9L slot.toNat (m7.mk 0 (m4.mk false (q8.mk 0 0) (n5.mk [] [] 0 0))))++W1))))))
theorem e2s{list slot}:OK d1l [l7 8 p6 list,vi slot] (b5o list slot) :=
 n8 _ fun r h=>n6<|t6 h fun e1 h=>U1 1 3 152 8 96 p6 (m7.mk 0 (m4.mk false (q8.mk 0 0) (n5.mk [] [] 0 0))) b3B (.ck T5) e1 (by decide) (by rfl)<|rg<|j9 a3U b39 2 h fun W1 h=>t6 h fun e2 h=>apL 3 8 152 8 96 p6 (e9L slot.toNat (m7.mk 0 (m4.mk false (q8.mk 0 0) (n5.mk [] [] 0 0)))) W1 e2<|s7 W1<|s7 ((e9L slot.toNat (m7.mk 0 (m4.mk false (q8.mk 0 0) (n5.mk [] [] 0 0))))++W1)<|fE h
def a1G:FS (List m7):=⟨183,Tryz.f183,[.val [some 8] []],[none,none],[.val [some 8] [],.val [some 8] []],fun r=>l7 8 p6 r,fun _=>[none,none],Tryz.func183⟩
def b02:(List m7)->KS:=fun out1=>⟨a1G.k 4 [false],(bs 5 (.own 1 0 8 0 out1.length::(bs 52 []))),[some [],some [m5 152 8 p6 out1]]⟩
def c4q(out1:List m7):Option (List m7) :=
 some out1
theorem e4n(r):NF a1G r b02 (fun s=>c4q s):=fun out1 h=>PK<|rg<|s7 out1<|fE h
def b8c(a:List m7)(b:List m7):((List m7)×Int)->KS:=fun (out,i)=>⟨a1G.k 3 [],(l7 8 p6 a::(l7 8 p6 b::(bs 3 (.own 1 0 8 0 out.length::(vi i::(bs 51 [])))))),[some [],some [m5 152 8 p6 out]]⟩
def d6C(a:List m7)(b:List m7)(out:List m7)(i:Int):Unit->KS:=fun _=>⟨a1G.k 4 [true],(l7 8 p6 a::(l7 8 p6 b::(bs 3 (.own 1 0 8 0 out.length::(vi i::(bs 51 [])))))),[some [],some [m5 152 8 p6 out]]⟩
def e25(a:List m7)(b:List m7)(out:List m7)(i:Int):m7->KS:=fun v_=>⟨a1G.k 7 [true,true],(l7 8 p6 a::(l7 8 p6 b::(bs 3 (.own 1 0 8 0 out.length::(vi i::(.ptr 2 0 0::(bs 50 []))))))),[some [],some [m5 152 8 p6 out],some [.var 152 (c5z v_)]]⟩
def d5X(a:List m7)(b:List m7)(out:List m7)(i:Int):m7->KS:=fun v_1=>⟨a1G.k 9 [true,true,true],(l7 8 p6 a::(l7 8 p6 b::(bs 3 (.own 1 0 8 0 out.length::(vi i::(.ptr 2 0 0::(bs 50 []))))))),[some [],some [m5 152 8 p6 out],some [.var 152 (c5z v_1)]]⟩
def b5j(out:List m7)(i:Int)(v_1:m7):Option (l8 (List m7) ((List m7)×Int) (List m7)) :=
 ((V5 v_1.i0).bind fun l5Entry=>(t5 ((out.length+1)*96<=140737488355328) (some (l8.nxt (out++[(m7.mk v_1.a7 l5Entry)],m8 (i+1))))))
theorem e4m(a b out i)(lc:I5 a1G b02 (b8c a b)):NL lc (d5X a b out i) (fun s=>b5j out i s):=fun v_1 h=>PK<|rg<|j9 Z2 a0u 5 h fun l5Entry h=>tk 7 T5<|t6 h fun e1 h=>F7 8 11 152 8 96 p6 out (m7.mk v_1.a7 l5Entry) e1<|E5 (m7.mk v_1.a7 l5Entry)<|rg<|(lc.nx h fun hI=>sk [] [0,1,5,6] [(11,0)] hI)
def b73(b:List m7)(out:List m7)(i:Int)(v_:m7):Option (l8 (List m7) ((List m7)×Int) (List m7)) :=
 (((bif decide (i<(b.length:Int)) then ((idx b i).bind fun vote=>(bif decide (vote.a7>v_.a7) then some (l9.brk vote) else some (l9.brk v_))) else some (l9.brk v_)):Option (l9 (l8 (List m7) ((List m7)×Int) (List m7)) m7)).bind fun x=>x.go some fun j=>b5j out i j)
theorem d7U(a b out i)(lc:I5 a1G b02 (b8c a b)):NL lc (e25 a b out i) (fun s=>b73 b out i s):=fun v_ h=>PK<|B2 h (e4m a b out i lc) fun x2 h hc2=>rg<|j5 4 h (fun h=>w9 p6 7 h fun vote M9 h=>j5 13 h (fun h=>rg<|L7 p6 2 M9<|(o8 h hc2 fun hI=>sk [] [0,1,5,6,7] [(1,0),(2,0)] hI)) (fun h=>(o8 h hc2 fun hI=>sk [] [0,1,5,6,7] [(1,0),(2,0)] hI))) (fun h=>(o8 h hc2 fun hI=>sk [] [0,1,5,6,7] [(1,0),(2,0)] hI))
def b8D(a:List m7)(b:List m7)(out:List m7)(i:Int):Option (l8 (List m7) ((List m7)×Int) (List m7)) :=
 (((bif decide (i<(a.length:Int)) then ((idx a i).bind fun R0=>some (l9.brk R0)) else some (l9.brk (m7.mk 0 (m4.mk false (q8.mk 0 0) (n5.mk [] [] 0 0))))):Option (l9 (l8 (List m7) ((List m7)×Int) (List m7)) m7)).bind fun x=>x.go some fun j=>b73 b out i j)
theorem d6K(a b out i)(lc:I5 a1G b02 (b8c a b)):NL lc (d6C a b out i) (fun s=>b8D a b out i):=fun _ h=>PK<|rg<|B2 h (d7U a b out i lc) fun x2 h hc2=>rg<|j5 3 h (fun h=>rg<|w9 p6 2 h fun R0 a29 h=>(o8 h hc2 fun hI=>sk [] [0,1,5,6,7] [(1,0),(3,0)] hI)) (fun h=>(o8 h hc2 fun hI=>sk [.frz (.cell 3 0 4) (some 2),.frz (.cell 3 0 5) (some 2)] [0,1,5,6,7] [(1,0),(3,0)] hI))
def a5h(a:List m7)(b:List m7)(out:List m7)(i:Int):Option (l8 (List m7) ((List m7)×Int) (List m7)) :=
 (((bif decide (i<(a.length:Int)) then some (l9.brk ()) else (bif decide (i<(b.length:Int)) then some (l9.brk ()) else some (l9.ret (l8.brk out)))):Option (l9 (l8 (List m7) ((List m7)×Int) (List m7)) Unit)).bind fun x=>x.go some fun j=>b8D a b out i)
theorem d4B(a b):LQ a1G b02 (b8c a b) (fun s=>a5h a b s.1 s.2):=fun lc (out,i) h=>PK<|B2 h (d6K a b out i lc) fun x2 h hc2=>rg<|j5 4 h (fun h=>(o8 h hc2 fun hI=>sk [] [0,1,5,6] [(1,0)] hI)) (fun h=>j5 9 h (fun h=>(o8 h hc2 fun hI=>sk [] [0,1,5,6] [(1,0)] hI)) (fun h=>(B7 h hc2 fun h=>(lc.bk h fun hI=>sk [] [5] [(1,0)] hI))))
def b56(a:List m7)(b:List m7):Option (List m7) :=
 ((p8 (fun s:(List m7)×Int=>a5h a b s.1 s.2) (([]:List m7),0)).bind fun x=>x.go (fun r=>some r) fun s=>c4q s)
theorem e0g{a b}:OK a1G [l7 8 p6 a,l7 8 p6 b] (b56 a b) :=
 n8 _ fun r h=>n6<|tk 0 T5<|rg<|lp (d4B a b) h (fun _ h=>a1G.rt h) (e4n r) fun hI=>om ((.own 2 0 8 0 0:V)=.own 2 0 8 0 ([]:List m7).length) (by simp)<|sk [.is (.tmp 5) (.own 2 0 8 0 ([]:List m7).length)] [0,1,5,6] [(2,0)] hI
def c9P:FS (Int):=⟨193,Tryz.f193,[.val [] []],[none],[.val [] []],fun r=>vi r,fun _=>[none],Tryz.func193⟩
def b8S(b:Bool):Option Int :=
 (bif b then some 1 else some 0)
theorem e6V{b}:OK c9P [.b b] (b8S b) :=
 n8 _ fun r h=>n6<|j5 0 h (fun h=>rg<|fE h) (fun h=>rg<|fE h)
def a5T:FS (Bool):=⟨185,Tryz.f185,[.val [] []],[none],[.val [some 1] []],fun r=>.b r,fun _=>[none],Tryz.func185⟩
def d2O:Int->KS:=fun n1=>⟨a5T.k 4 [false],(bs 3 (vi n1::(bs 16 []))),[some []]⟩
def c2U(n1:Int):Option Bool :=
 some (decide (n1>=2))
theorem e52(r):NF a5T r d2O (fun s=>c2U s):=fun n1 h=>PK<|rg<|fE h
def e1z(list:List Bool):(Int×Int)->KS:=fun (n,i)=>⟨a5T.k 3 [],(l7 1 eB list::(bs 2 (vi n::(vi i::(bs 15 []))))),[some []]⟩
def a4N(list:List Bool)(n:Int)(i:Int):Option (l8 Bool (Int×Int) Int) :=
 (bif decide (i<(list.length:Int)) then ((idx list i).bind fun y=>((b8S y).bind fun d2E=>some (l8.nxt (m8 (n+d2E),m8 (i+1))))) else some (l8.brk n))
theorem e3u(list):LQ a5T d2O (e1z list) (fun s=>a4N list s.1 s.2):=fun lc (n,i) h=>PK<|rg<|j5 3 h (fun h=>rg<|w9 eB 3 h fun y hy h=>j9 c9P e6V 5 h fun d2E h=>rg<|(lc.nx h fun hI=>sk [] [0,3,4] [] hI)) (fun h=>(lc.bk h fun hI=>sk [] [3] [] hI))
def b0H(list:List Bool):Option Bool :=
 ((p8 (fun s:Int×Int=>a4N list s.1 s.2) (0,0)).bind fun x=>x.go (fun r=>some r) fun s=>c2U s)
theorem d11{list}:OK a5T [l7 1 eB list] (b0H list) :=
 n8 _ fun r h=>M5<|lp (e3u list) h (fun _ h=>a5T.rt h) (e52 r) fun hI=>sk [] [0,3,4] [] hI
def a5a:FS (Bool):=⟨191,Tryz.f191,[.val [] []],[none,none],[.val [some 8] [],.val [] []],fun r=>.b r,fun _=>[none,none],Tryz.func191⟩
def c5s:Unit->KS:=fun _=>⟨a5a.k 3 [false],(bs 19 []),[some []]⟩
def d2u:Option Bool :=
 some false
theorem d5j(r):NF a5a r c5s (fun s=>d2u):=fun _ h=>PK<|rg<|fE h
def d73(list:List m7):Int->KS:=fun i=>⟨a5a.k 2 [],(l7 8 p6 list::(bs 4 (vi i::(bs 13 [])))),[some []]⟩
def a76(list:List m7)(i:Int):Option (l8 Bool Int Unit) :=
 (bif decide (i<(list.length:Int)) then ((idx list i).bind fun vote=>(bif decide (vote.a7>0) then some (l8.ret true) else some (l8.nxt (m8 (i+1))))) else some (l8.brk ()))
theorem d64(list):LQ a5a c5s (d73 list) (fun s=>a76 list s):=fun lc i h=>PK<|rg<|j5 3 h (fun h=>rg<|w9 p6 2 h fun vote M9 h=>j5 5 h (fun h=>rg<|fL lc h) (fun h=>rg<|(lc.nx h fun hI=>sk [] [0,5] [] hI))) (fun h=>(lc.bk h fun hI=>sk [] [] [] hI))
def b49(list:List m7)(from_:Int):Option Bool :=
 ((p8 (fun s:Int=>a76 list s) from_).bind fun x=>x.go (fun r=>some r) fun s=>d2u)
theorem d8y{list from_}:OK a5a [l7 8 p6 list,vi from_] (b49 list from_) :=
 n8 _ fun r h=>n6<|lp (d64 list) h (fun _ h=>a5a.rt h) (d5j r) fun hI=>sk [] [0,5] [] hI
def a12:FS (Bool):=⟨187,Tryz.f187,[.val [] []],[none,none],[.val A3 [],.val [] []],fun r=>.b r,fun _=>[none,none],Tryz.func187⟩
def b8K:Unit->KS:=fun _=>⟨a12.k 3 [false],(bs 30 []),[some []]⟩
def d1P:Option Bool :=
 some false
theorem e8O(r):NF a12 r b8K (fun s=>d1P):=fun _ h=>PK<|rg<|fE h
def c8X(n:j6)(q:q8):Int->KS:=fun i=>⟨a12.k 2 [],(bs 2 (.ptr 1 0 0::(.ptr 2 0 0::(bs 1 (vi i::(bs 24 [])))))),[some [],some [.var 65 (a7P n)],some [.var 37 [vi q.d8,vi q.Seq]]]⟩
def e8A(n:j6)(q:q8)(i:Int):Unit->KS:=fun _=>⟨a12.k 4 [true,false],(bs 2 (.ptr 1 0 0::(.ptr 2 0 0::(bs 1 (vi i::(bs 24 [])))))),[some [],some [.var 65 (a7P n)],some [.var 37 [vi q.d8,vi q.Seq]]]⟩
def c29(i:Int):Option (l8 Bool Int Unit) :=
 some (l8.nxt (m8 (i+1)))
theorem e8y(n q i)(lc:I5 a12 b8K (c8X n q)):NL lc (e8A n q i) (fun s=>c29 i):=fun _ h=>PK<|rg<|(lc.nx h fun hI=>sk [] [2,3,5] [(1,0),(2,0)] hI)
def a8P(n:j6)(q:q8)(i:Int):Option (l8 Bool Int Unit) :=
 (bif decide (i<(n.a0.length:Int)) then ((((idx n.a0 i).bind fun entry=>(bif (!entry.i8) then (bif (([entry.a5.d8,entry.a5.Seq]:List Int)==[q.d8,q.Seq]) then some (l9.ret (l8.ret true)) else some (l9.brk ())) else some (l9.brk ()))):Option (l9 (l8 Bool Int Unit) Unit)).bind fun x=>x.go some fun j=>c29 i) else some (l8.brk ()))
theorem e70(n q):LQ a12 b8K (c8X n q) (fun s=>a8P n q s):=fun lc i h=>PK<|rg<|j5 4 h (fun h=>B2 h (e8y n q i lc) fun x2 h hc2=>rg<|w9 t0 3 h fun entry H0 h=>j5 7 h (fun h=>L7 t0 11 H0<|j5 16 h (fun h=>rg<|(B7 h hc2 fun h=>fL lc h)) (fun h=>(o8 h hc2 fun hI=>sk [] [2,3,5] [(1,0),(2,0)] hI))) (fun h=>(o8 h hc2 fun hI=>sk [] [2,3,5] [(1,0),(2,0)] hI))) (fun h=>(lc.bk h fun hI=>sk [] [] [] hI))
def a70(n:j6)(q:q8):Option Bool :=
 ((p8 (fun s:Int=>a8P n q s) 0).bind fun x=>x.go (fun r=>some r) fun s=>d1P)
theorem b6s{n q}:OK a12 [.agg (A2 n),.agg (Z1 q)] (a70 n q) :=
 n8 _ fun r h=>n6<|lp (e70 n q) h (fun _ h=>a12.rt h) (e8O r) fun hI=>sk [] [2,3,5] [(1,0),(2,0)] hI
def a2x:FS (j6×m4×Bool):=⟨172,Tryz.f172,[.val A3 F8,.val J9 [],.val [] []],[none],[.val A3 F8],fun r=>.tup [.agg (F9 r.1),.agg (t0 r.2.1),.b r.2.2],fun _=>[none],Tryz.func172⟩
def e4b(n:j6):Unit->KS:=fun _=>⟨a2x.k 3 [false],(bs 1 (.ptr 1 0 0::(.ptr 2 0 0::(.ptr 3 0 0::(bs 1 (vi (n.a0.length:Int)::(bs 69 []))))))),[some (a71 n),some [.var 65 (a7S n)],some [.var 65 [vi 0,vi 0,.nil,.nil,vi 0,vi 0,vi 0,.nil,.nil,.b false,vi 0,vi 0,.nil,.nil,vi 0,vi 0,.nil,.b false,.nil,.b false,vi 0,vi 0,.nil,.nil,vi 0,vi 0,.nil]],some [.var 43 [.b false,vi 0,vi 0,.nil,.nil,vi 0,vi 0]]]⟩
def e82(n:j6):Unit->KS:=fun _=>⟨a2x.k 5 [false,false,false],(bs 1 (.ptr 1 0 0::(.ptr 2 0 0::(.ptr 3 0 0::(bs 71 []))))),[some (a71 n),some [.var 65 (a7S n)],some [.var 65 [vi 0,vi 0,.nil,.nil,vi 0,vi 0,vi 0,.nil,.nil,.b false,vi 0,vi 0,.nil,.nil,vi 0,vi 0,.nil,.b false,.nil,.b false,vi 0,vi 0,.nil,.nil,vi 0,vi 0,.nil]],some [.var 43 [.b false,vi 0,vi 0,.nil,.nil,vi 0,vi 0]]]⟩
def c8a(n:j6):(List m4)->KS:=fun a9M=>⟨a2x.k 6 [false,false,false,false],(bs 1 (.ptr 1 0 0::(.ptr 3 0 0::(.ptr 4 0 0::(bs 71 []))))),[some [m5 152 8 p6 n.Acc.a6,m5 43 7 t0 n.a0,m5 4 1 eB n.c8,m5 4 1 eB n.a6,.dead],some [.var 65 ([vi n.Id,vi n.Acc.g8,.own 0 0 8 0 n.Acc.a6.length,.own 0 1 7 0 n.a0.length,vi n.Seq,vi n.d6,vi n.a7,.own 0 2 1 0 n.c8.length]++a48 n++[.own 0 3 1 0 n.a6.length]++a3C n++[.own 2 0 7 0 a9M.length])],some [m5 43 7 t0 a9M],some [.var 65 [vi 0,vi 0,.nil,.nil,vi 0,vi 0,vi 0,.nil,.nil,.b false,vi 0,vi 0,.nil,.nil,vi 0,vi 0,.nil,.b false,.nil,.b false,vi 0,vi 0,.nil,.nil,vi 0,vi 0,.nil]],some [.var 43 [.b false,vi 0,vi 0,.nil,.nil,vi 0,vi 0]]]⟩
def c9t(n:j6)(a9M:List m4):Option (j6×m4×Bool) :=
 some ((j6.mk n.Id n.Acc n.a0 n.Seq n.d6 n.a7 n.c8 n.g9 n.c9 n.a6 n.i7 n.i5 n.b7 a9M),(m4.mk false (q8.mk 0 0) (n5.mk [] [] 0 0)),false)
theorem d4U(n)(r):NF a2x r (c8a n) (fun s=>c9t n s):=fun a9M h=>PK<|rg<|s7 n.Acc.a6<|G0 n.a0 n.c8 n.a6 a9M<|fE h
def e2E(n:j6):(List m4)->KS:=fun d9=>⟨a2x.k 5 [false,false,false],(bs 1 (.ptr 1 0 0::(.ptr 2 0 0::(.ptr 3 0 0::(bs 71 []))))),[some [m5 152 8 p6 n.Acc.a6,m5 43 7 t0 n.a0,m5 4 1 eB n.c8,m5 4 1 eB n.a6,.dead],some [.var 65 ([vi n.Id,vi n.Acc.g8,.own 0 0 8 0 n.Acc.a6.length,.own 0 1 7 0 n.a0.length,vi n.Seq,vi n.d6,vi n.a7,.own 0 2 1 0 n.c8.length]++a48 n++[.own 0 3 1 0 n.a6.length]++a3C n++[.own 4 0 7 0 d9.length])],some [.var 65 [vi 0,vi 0,.nil,.nil,vi 0,vi 0,vi 0,.nil,.nil,.b false,vi 0,vi 0,.nil,.nil,vi 0,vi 0,.nil,.b false,.nil,.b false,vi 0,vi 0,.nil,.nil,vi 0,vi 0,.nil]],some [.var 43 [.b false,vi 0,vi 0,.nil,.nil,vi 0,vi 0]],some [m5 43 7 t0 d9]]⟩
def a9w(n:j6)(d9:List m4):Option (l8 (j6×m4×Bool) (List m4) (List m4)) :=
 (bif decide ((d9.length:Int)>0) then ((idx d9 0).bind fun entry=>(t5 ((0:Int)<=1/\1<=(d9.length:Int)) ((t5 ((([]:List m4).length+(d9.length-(1:Int).toNat))*88<=140737488355328) (((a70 (j6.mk n.Id n.Acc n.a0 n.Seq n.d6 n.a7 n.c8 n.g9 n.c9 n.a6 n.i7 n.i5 n.b7 (([]:List m4)++(d9.drop (0+(1:Int).toNat)).take (d9.length-(1:Int).toNat))) entry.a5).bind fun a5W=>(bif (!a5W) then some (l8.ret ((j6.mk n.Id n.Acc n.a0 n.Seq n.d6 n.a7 n.c8 n.g9 n.c9 n.a6 n.i7 n.i5 n.b7 (([]:List m4)++(d9.drop (0+(1:Int).toNat)).take (d9.length-(1:Int).toNat))),entry,true)) else some (l8.nxt (([]:List m4)++(d9.drop (0+(1:Int).toNat)).take (d9.length-(1:Int).toNat)))))))))) else some (l8.brk d9))
theorem e3l(n):LQ a2x (c8a n) (e2E n) (fun s=>a9w n s):=fun lc d9 h=>PK<|rg<|j5 3 h (fun h=>rg<|A6 h fun entry H0 h=>B4 H0<|H8 t0 3 H0<|rg<|tk 0 J9<|t6 h fun e1 h=>ob e1.1<|ob e1.2<|t6 h fun e2 h=>om (V.own 19 0 7 0 (([]:List m4).length+(d9.length-(1:Int).toNat))=.own 19 0 7 0 (([]:List m4)++(d9.drop (0+(1:Int).toNat)).take (d9.length-(1:Int).toNat)).length) (c1F (by omega))<|om (s6.row 43 7 (([]:List m4).length+(d9.length-(1:Int).toNat)) (([]:List m4).map t0++((d9.map t0).drop (0+(1:Int).toNat)).take (d9.length-(1:Int).toNat))=m5 43 7 t0 (([]:List m4)++(d9.drop (0+(1:Int).toNat)).take (d9.length-(1:Int).toNat))) (b8J (by omega))<|B6 m4<|ob e2<|om ((0+(1:Int).toNat)+(d9.length-(1:Int).toNat)<=d9.length) (by omega)<|tl (4,{a:=.part,v:=some (.own 19 0 7 0 (([]:List m4)++(d9.drop (0+(1:Int).toNat)).take (d9.length-(1:Int).toNat)).length),e:=some (m5 43 7 t0 (([]:List m4)++(d9.drop (0+(1:Int).toNat)).take (d9.length-(1:Int).toNat)))})<|rg<|S0 a12 b6s 3 2 h fun a5W h=>s7 n.Acc.a6<|G0 n.a0 n.c8 n.a6 (([]:List m4)++(d9.drop (0+(1:Int).toNat)).take (d9.length-(1:Int).toNat))<|j5 4 h (fun h=>rg<|s7 n.Acc.a6<|G0 n.a0 n.c8 n.a6 (([]:List m4)++(d9.drop (0+(1:Int).toNat)).take (d9.length-(1:Int).toNat))<|fL lc h) (fun h=>(lc.nx h fun hI=>sk [] [1,2,3] [(1,0),(2,0),(3,0),(19,0)] hI))) (fun h=>(lc.bk h fun hI=>sk [] [1,2,3] [(1,0),(4,0),(2,0),(3,0)] hI))
def b7o(n:j6):Option (j6×m4×Bool) :=
 ((p8 (fun s:List m4=>a9w n s) n.d9).bind fun x=>x.go (fun r=>some r) fun s=>c9t n s)
theorem e2j(n)(r):NF a2x r (e82 n) (fun s=>b7o n):=fun _ h=>PK<|lp (e3l n) h (fun _ h=>a2x.rt h) (d4U n r) fun hI=>sk [] [1,2,3] [(1,0),(2,0),(3,0),(0,4)] hI
def b8i(n:j6):Option (j6×m4×Bool) :=
 ((b49 n.g9 (n.a0.length:Int)).bind fun c2Y=>(bif c2Y then some (n,(m4.mk true (q8.mk 0 0) (n5.mk [] [] 0 0)),true) else (((bif n.i7 then ((a70 n n.b7.a5).bind fun c9S=>(bif (!c9S) then ((V5 n.b7).bind fun l5Entry=>some (l9.ret (n,l5Entry,true))) else some (l9.brk ()))) else some (l9.brk ())):Option (l9 (j6×m4×Bool) Unit)).bind fun x=>x.go some fun j=>b7o n)))
theorem d6g(n)(r):NF a2x r (e4b n) (fun s=>b8i n):=fun _ h=>PK<|rg<|cbE a5a.t d8y h fun c2Y d23 h=>cdT (a5a.t 3 false c2Y) h (fun _ h=>ob d23<|rg<|z9 n<|fE h) (fun _ h=>ob d23<|B2 h (e2j n r) fun x1 h hc1=>rg<|j5 2 h (fun h=>S0 a12 b6s 7 2 h fun c9S h=>z9 n<|j5 9 h (fun h=>rg<|j9 Z2 a0u 3 h fun l5Entry h=>(B7 h hc1 fun h=>z9 n<|fE h)) (fun h=>(o8 h hc1 fun hI=>sk [] [1,2,3] [(1,0),(2,0),(3,0)] hI))) (fun h=>(o8 h hc1 fun hI=>sk [] [1,2,3] [(1,0),(2,0),(3,0)] hI)))
def b5V(n:j6):Option (j6×m4×Bool) :=
 (((bif decide ((n.a0.length:Int)<(n.g9.length:Int)) then ((idx n.g9 (n.a0.length:Int)).bind fun vote=>(bif decide (vote.a7>0) then ((V5 vote.i0).bind fun b1I=>some (l9.ret (n,b1I,true))) else some (l9.brk ()))) else some (l9.brk ())):Option (l9 (j6×m4×Bool) Unit)).bind fun x=>x.go some fun j=>b8i n)
theorem d5q{n}:OK a2x [.agg (F9 n)] (b5V n) :=
 n8 _ fun r h=>n6<|B2 h (d6g n r) fun x1 h hc1=>rg<|j5 5 h (fun h=>w9 p6 9 h fun vote M9 h=>j5 13 h (fun h=>rg<|L7 p6 4 M9<|j9 Z2 a0u 7 h fun b1I h=>(B7 h hc1 fun h=>z9 n<|fE h)) (fun h=>(o8 h hc1 fun hI=>sk [] [1,2,3,5] [(1,0),(2,0),(3,0)] hI))) (fun h=>(o8 h hc1 fun hI=>sk [] [1,2,3,5] [(1,0),(2,0),(3,0)] hI))
def a0I:FS (Bool):=⟨156,Tryz.f156,[.val [] []],[none,none],[.val N6 [],.val N6 []],fun r=>.b r,fun _=>[none,none],Tryz.func156⟩
def d1Y(a:n5)(b:n5):Unit->KS:=fun _=>⟨a0I.k 4 [false,false],(bs 2 (.ptr 1 0 0::(.ptr 2 0 0::(bs 69 [])))),[some [],some [.var 41 (a0m a)],some [.var 41 (a0m b)]]⟩
def c8T:Unit->KS:=fun _=>⟨a0I.k 6 [false,false,false],(bs 73 []),[some []]⟩
def c40:Option Bool :=
 some true
theorem e0U(r):NF a0I r c8T (fun s=>c40):=fun _ h=>PK<|rg<|fE h
def e6N(a:n5)(b:n5):Int->KS:=fun i1=>⟨a0I.k 5 [false,false],(bs 2 (.ptr 1 0 0::(.ptr 2 0 0::(bs 2 (vi i1::(bs 66 [])))))),[some [],some [.var 41 (a0m a)],some [.var 41 (a0m b)]]⟩
def b11(a:n5)(b:n5)(i1:Int):Option (l8 Bool Int Unit) :=
 (bif decide (i1<(a.b6.length:Int)) then ((idx a.b6 i1).bind fun put=>((idx b.b6 i1).bind fun put1=>(bif (!(([put.i6,put.f0]:List Int)==[put1.i6,put1.f0])) then some (l8.ret false) else some (l8.nxt (m8 (i1+1)))))) else some (l8.brk ()))
theorem e4z(a b):LQ a0I c8T (e6N a b) (fun s=>b11 a b s):=fun lc i1 h=>PK<|rg<|j5 4 h (fun h=>rg<|w9 u6 3 h fun put hput h=>w9 u6 8 h fun put1 b2v h=>j5 10 h (fun h=>rg<|fL lc h) (fun h=>rg<|(lc.nx h fun hI=>sk [] [2,3,6] [(1,0),(2,0)] hI))) (fun h=>(lc.bk h fun hI=>sk [] [] [] hI))
def c1p(a:n5)(b:n5):Option Bool :=
 ((p8 (fun s:Int=>b11 a b s) 0).bind fun x=>x.go (fun r=>some r) fun s=>c40)
theorem d7Q(a b)(r):NF a0I r (d1Y a b) (fun s=>c1p a b):=fun _ h=>PK<|rg<|lp (e4z a b) h (fun _ h=>a0I.rt h) (e0U r) fun hI=>sk [] [2,3,6] [(1,0),(2,0)] hI
def d8V(a:n5)(b:n5):Int->KS:=fun i=>⟨a0I.k 3 [false],(bs 2 (.ptr 1 0 0::(.ptr 2 0 0::(bs 1 (vi i::(bs 67 [])))))),[some [],some [.var 41 (a0m a)],some [.var 41 (a0m b)]]⟩
def b2X(a:n5)(b:n5)(i:Int):Option (l8 Bool Int Unit) :=
 (bif decide (i<(a.b5.length:Int)) then ((idx a.b5 i).bind fun read=>((idx b.b5 i).bind fun Q0=>(bif (!(([read.i6,read.j4]:List Int)==[Q0.i6,Q0.j4])) then some (l8.ret false) else some (l8.nxt (m8 (i+1)))))) else some (l8.brk ()))
theorem d5r(a b):LQ a0I (d1Y a b) (d8V a b) (fun s=>b2X a b s):=fun lc i h=>PK<|rg<|j5 4 h (fun h=>rg<|w9 u5 3 h fun read a3I h=>w9 u5 8 h fun Q0 c6O h=>j5 10 h (fun h=>rg<|fL lc h) (fun h=>rg<|(lc.nx h fun hI=>sk [] [2,3,5] [(1,0),(2,0)] hI))) (fun h=>(lc.bk h fun hI=>sk [] [2,3] [(1,0),(2,0)] hI))
def a9V(a:n5)(b:n5):Option Bool :=
 (bif (a.f0 != b.f0) then some false else (bif (a.Code != b.Code) then some false else (bif ((a.b5.length:Int) != (b.b5.length:Int)) then some false else (bif ((a.b6.length:Int) != (b.b6.length:Int)) then some false else ((p8 (fun s:Int=>b2X a b s) 0).bind fun x=>x.go (fun r=>some r) fun s=>c1p a b)))))
theorem c1J{a b}:OK a0I [.agg (P3 a),.agg (P3 b)] (a9V a b) :=
 n8 _ fun r h=>n6<|j5 5 h (fun h=>rg<|fE h) (fun h=>j5 12 h (fun h=>rg<|fE h) (fun h=>j5 21 h (fun h=>rg<|fE h) (fun h=>j5 29 h (fun h=>rg<|fE h) (fun h=>rg<|lp (d5r a b) h (fun _ h=>a0I.rt h) (d7Q a b r) fun hI=>sk [] [2,3,5] [(1,0),(2,0)] hI))))
def b8A:FS (Bool):=⟨66,Tryz.f66,[.val [] []],[none],[.val [] []],fun r=>.b r,fun _=>[none],Tryz.func66⟩
def a8C(q:q8):Option Bool :=
 (bif decide (q.d8>=0) then (bif decide (q.d8<3) then (bif decide (q.Seq>=1) then some (decide (q.Seq<=1000)) else some false) else some false) else some false)
theorem c01{q}:OK b8A [.agg (Z1 q)] (a8C q) :=
 n8 _ fun r h=>n6<|j5 3 h (fun h=>j5 8 h (fun h=>j5 13 h (fun h=>fE h) (fun h=>fE h)) (fun h=>fE h)) (fun h=>fE h)
def a7t:FS (Bool):=⟨110,Tryz.f110,[.val [] []],[none],[.val [] []],fun r=>.b r,fun _=>[none],Tryz.func110⟩
def a5Z(n:Int):Option Bool :=
 (bif decide (n>=(-1000000)) then some (decide (n<=1000000)) else some false)
theorem a8N{n}:OK a7t [vi n] (a5Z n) :=
 n8 _ fun r h=>n6<|j5 2 h (fun h=>fE h) (fun h=>fE h)
def b2w:FS (Bool):=⟨160,Tryz.f160,[.val [] []],[none],[.val [] []],fun r=>.b r,fun _=>[none],Tryz.func160⟩
def a66(n:Int):Option Bool :=
 (bif decide (n>=0) then some (decide (n<4)) else some false)
theorem b3L{n}:OK b2w [vi n] (a66 n) :=
 n8 _ fun r h=>n6<|j5 2 h (fun h=>fE h) (fun h=>fE h)
def a5o:FS (Bool):=⟨180,Tryz.f180,[.val [] []],[none,none],[.val [some 2] [],.val [] []],fun r=>.b r,fun _=>[none,none],Tryz.func180⟩
def c39:Unit->KS:=fun _=>⟨a5o.k 3 [false],(bs 19 []),[some []]⟩
def c56:Option Bool :=
 some false
theorem d9X(r):NF a5o r c39 (fun s=>c56):=fun _ h=>PK<|rg<|fE h
def e6J(list:List p9)(box:Int):Int->KS:=fun i=>⟨a5o.k 2 [],(l7 2 u5 list::(vi box::(bs 3 (vi i::(bs 13 []))))),[some []]⟩
def b5e(list:List p9)(box:Int)(i:Int):Option (l8 Bool Int Unit) :=
 (bif decide (i<(list.length:Int)) then ((idx list i).bind fun read=>(bif (read.i6==box) then some (l8.ret true) else some (l8.nxt (m8 (i+1))))) else some (l8.brk ()))
theorem e8k(list box):LQ a5o c39 (e6J list box) (fun s=>b5e list box s):=fun lc i h=>PK<|rg<|j5 3 h (fun h=>rg<|w9 u5 2 h fun read a3I h=>j5 6 h (fun h=>rg<|fL lc h) (fun h=>rg<|(lc.nx h fun hI=>sk [] [0,1,5] [] hI))) (fun h=>(lc.bk h fun hI=>sk [] [] [] hI))
def b1o(list:List p9)(box:Int):Option Bool :=
 ((p8 (fun s:Int=>b5e list box s) 0).bind fun x=>x.go (fun r=>some r) fun s=>c56)
theorem d2J{list box}:OK a5o [l7 2 u5 list,vi box] (b1o list box) :=
 n8 _ fun r h=>n6<|lp (e8k list box) h (fun _ h=>a5o.rt h) (d9X r) fun hI=>sk [] [0,1,5] [] hI
def a4b:FS (Int):=⟨181,Tryz.f181,[.val [] []],[none,none],[.val [some 2] [],.val [] []],fun r=>vi r,fun _=>[none,none],Tryz.func181⟩
def d3c:Unit->KS:=fun _=>⟨a4b.k 3 [false],(bs 20 []),[some []]⟩
def c5w:Option Int :=
 some (-1)
theorem e2D(r):NF a4b r d3c (fun s=>c5w):=fun _ h=>PK<|rg<|fE h
def d6Y(list:List n9)(box:Int):Int->KS:=fun i=>⟨a4b.k 2 [],(l7 2 u6 list::(vi box::(bs 3 (vi i::(bs 14 []))))),[some []]⟩
def a1j(list:List n9)(box:Int)(i:Int):Option (l8 Int Int Unit) :=
 (bif decide (i<(list.length:Int)) then ((idx list i).bind fun put=>(bif (put.i6==box) then some (l8.ret i) else some (l8.nxt (m8 (i+1))))) else some (l8.brk ()))
theorem e2g(list box):LQ a4b d3c (d6Y list box) (fun s=>a1j list box s):=fun lc i h=>PK<|rg<|j5 3 h (fun h=>rg<|w9 u6 2 h fun put hput h=>j5 6 h (fun h=>rg<|fL lc h) (fun h=>rg<|(lc.nx h fun hI=>sk [] [0,1,5] [] hI))) (fun h=>(lc.bk h fun hI=>sk [] [] [] hI))
def a2A(list:List n9)(box:Int):Option Int :=
 ((p8 (fun s:Int=>a1j list box s) 0).bind fun x=>x.go (fun r=>some r) fun s=>c5w)
theorem c3j{list box}:OK a4b [l7 2 u6 list,vi box] (a2A list box) :=
 n8 _ fun r h=>n6<|lp (e2g list box) h (fun _ h=>a4b.rt h) (e2D r) fun hI=>sk [] [0,1,5] [] hI
def a0v:FS (Bool):=⟨157,Tryz.f157,[.val [] []],[none],[.val N6 []],fun r=>.b r,fun _=>[none],Tryz.func157⟩
def d5y(r_:n5):Unit->KS:=fun _=>⟨a0v.k 2 [false],(bs 1 (.ptr 1 0 0::(bs 129 []))),[some [],some [.var 41 (a0m r_)]]⟩
def c7b(r_:n5):Unit->KS:=fun _=>⟨a0v.k 4 [false,false],(bs 1 (.ptr 1 0 0::(bs 129 []))),[some [],some [.var 41 (a0m r_)]]⟩
def d17:Unit->KS:=fun _=>⟨a0v.k 6 [false,false,false],(bs 131 []),[some []]⟩
def c5u:Option Bool :=
 some true
theorem e8E(r):NF a0v r d17 (fun s=>c5u):=fun _ h=>PK<|rg<|fE h
def e3z(r_:n5):Int->KS:=fun i1=>⟨a0v.k 5 [false,false],(bs 1 (.ptr 1 0 0::(bs 2 (vi i1::(bs 126 []))))),[some [],some [.var 41 (a0m r_)]]⟩
def b3w(r_:n5)(i1:Int):Option (l8 Bool Int Unit) :=
 (bif decide (i1<(r_.b6.length:Int)) then ((idx r_.b6 i1).bind fun put=>((a66 put.i6).bind fun b3d=>(bif (!b3d) then some (l8.ret false) else ((a5Z put.f0).bind fun a0P=>(bif (!a0P) then some (l8.ret false) else (t5 ((0:Int)<=i1/\i1<=(r_.b6.length:Int)) (((a2A ((r_.b6.drop 0).take (i1.toNat-0)) put.i6).bind fun a15=>(bif decide (a15>=0) then some (l8.ret false) else some (l8.nxt (m8 (i1+1)))))))))))) else some (l8.brk ()))
theorem d57(r_):LQ a0v d17 (e3z r_) (fun s=>b3w r_ s):=fun lc i1 h=>PK<|rg<|j5 4 h (fun h=>rg<|w9 u6 3 h fun put hput h=>j9 b2w b3L 6 h fun b3d h=>j5 8 h (fun h=>rg<|fL lc h) (fun h=>L7 u6 12 hput<|j9 a7t a8N 15 h fun a0P h=>j5 18 h (fun h=>rg<|fL lc h) (fun h=>t6 h fun e1 h=>om (V.sl 2 (i1.toNat-0) (((r_.b6.map u6).drop 0).take (i1.toNat-0))=l7 2 u6 ((r_.b6.drop 0).take (i1.toNat-0))) (b1X e1)<|ob e1.1<|ob e1.2<|tl (22,{v:=some (l7 2 u6 ((r_.b6.drop 0).take (i1.toNat-0)))})<|L7 u6 26 hput<|j9 a4b c3j 29 h fun a15 h=>j5 31 h (fun h=>rg<|fL lc h) (fun h=>rg<|(lc.nx h fun hI=>sk [] [1,4] [(1,0)] hI))))) (fun h=>(lc.bk h fun hI=>sk [] [] [] hI))
def c0p(r_:n5):Option Bool :=
 ((p8 (fun s:Int=>b3w r_ s) 0).bind fun x=>x.go (fun r=>some r) fun s=>c5u)
theorem d60(r_)(r):NF a0v r (c7b r_) (fun s=>c0p r_):=fun _ h=>PK<|rg<|lp (d57 r_) h (fun _ h=>a0v.rt h) (e8E r) fun hI=>sk [] [1,4] [(1,0)] hI
def d6X(r_:n5):Int->KS:=fun i=>⟨a0v.k 3 [false],(bs 1 (.ptr 1 0 0::(bs 1 (vi i::(bs 127 []))))),[some [],some [.var 41 (a0m r_)]]⟩
def b3z(r_:n5)(i:Int):Option (l8 Bool Int Unit) :=
 (bif decide (i<(r_.b5.length:Int)) then ((idx r_.b5 i).bind fun read=>((a66 read.i6).bind fun b1Q=>(bif (!b1Q) then some (l8.ret false) else (bif decide (read.j4<0) then some (l8.ret false) else (bif decide (read.j4>1000000) then some (l8.ret false) else (t5 ((0:Int)<=i/\i<=(r_.b5.length:Int)) (((b1o ((r_.b5.drop 0).take (i.toNat-0)) read.i6).bind fun b2a=>(bif b2a then some (l8.ret false) else some (l8.nxt (m8 (i+1)))))))))))) else some (l8.brk ()))
theorem d6h(r_):LQ a0v (c7b r_) (d6X r_) (fun s=>b3z r_ s):=fun lc i h=>PK<|rg<|j5 4 h (fun h=>rg<|w9 u5 3 h fun read a3I h=>j9 b2w b3L 6 h fun b1Q h=>j5 8 h (fun h=>rg<|fL lc h) (fun h=>L7 u5 12 a3I<|j5 17 h (fun h=>rg<|fL lc h) (fun h=>L7 u5 21 a3I<|j5 26 h (fun h=>rg<|fL lc h) (fun h=>t6 h fun e2 h=>om (V.sl 2 (i.toNat-0) (((r_.b5.map u5).drop 0).take (i.toNat-0))=l7 2 u5 ((r_.b5.drop 0).take (i.toNat-0))) (b1X e2)<|ob e2.1<|ob e2.2<|tl (30,{v:=some (l7 2 u5 ((r_.b5.drop 0).take (i.toNat-0)))})<|L7 u5 34 a3I<|j9 a5o d2J 37 h fun b2a h=>j5 38 h (fun h=>rg<|fL lc h) (fun h=>rg<|(lc.nx h fun hI=>sk [] [1,3] [(1,0)] hI)))))) (fun h=>(lc.bk h fun hI=>sk [] [1] [(1,0)] hI))
def b4A(r_:n5):Option Bool :=
 ((p8 (fun s:Int=>b3z r_ s) 0).bind fun x=>x.go (fun r=>some r) fun s=>c0p r_)
theorem d84(r_)(r):NF a0v r (d5y r_) (fun s=>b4A r_):=fun _ h=>PK<|rg<|lp (d6h r_) h (fun _ h=>a0v.rt h) (d60 r_ r) fun hI=>sk [] [1,3] [(1,0)] hI
def b2b(r_:n5):Option Bool :=
 (((bif decide (r_.Code<0) then some (l9.ret false) else (bif decide (r_.Code>3) then some (l9.ret false) else ((a5Z r_.f0).bind fun c4o=>(bif (!c4o) then some (l9.ret false) else (bif (r_.Code != 0) then (bif (r_.f0 != 0) then some (l9.ret false) else (bif decide ((r_.b6.length:Int)>0) then some (l9.ret false) else (bif (r_.Code==3) then (bif decide ((r_.b5.length:Int)>0) then some (l9.ret false) else some (l9.brk ())) else some (l9.brk ())))) else (bif (r_.Code==3) then (bif decide ((r_.b5.length:Int)>0) then some (l9.ret false) else some (l9.brk ())) else some (l9.brk ()))))))):Option (l9 Bool Unit)).bind fun x=>x.go some fun j=>b4A r_)
theorem d0P{r_}:OK a0v [.agg (P3 r_)] (b2b r_) :=
 n8 _ fun r h=>rg<|B2 h (d84 r_ r) fun x1 h hc1=>rg<|j5 3 h (fun h=>rg<|(B7 h hc1 fun h=>fE h)) (fun h=>j5 8 h (fun h=>rg<|(B7 h hc1 fun h=>fE h)) (fun h=>j9 a7t a8N 11 h fun c4o h=>j5 14 h (fun h=>rg<|(B7 h hc1 fun h=>fE h)) (fun h=>j5 18 h (fun h=>j5 22 h (fun h=>rg<|(B7 h hc1 fun h=>fE h)) (fun h=>j5 30 h (fun h=>rg<|(B7 h hc1 fun h=>fE h)) (fun h=>j5 34 h (fun h=>j5 40 h (fun h=>rg<|(B7 h hc1 fun h=>fE h)) (fun h=>(o8 h hc1 fun hI=>sk [] [1] [(1,0)] hI))) (fun h=>(o8 h hc1 fun hI=>sk [] [1] [(1,0)] hI))))) (fun h=>j5 34 h (fun h=>j5 40 h (fun h=>rg<|(B7 h hc1 fun h=>fE h)) (fun h=>(o8 h hc1 fun hI=>sk [] [1] [(1,0)] hI))) (fun h=>(o8 h hc1 fun hI=>sk [] [1] [(1,0)] hI))))))
def a14:FS (Bool):=⟨105,Tryz.f105,[.val [] []],[none],[.val J9 []],fun r=>.b r,fun _=>[none],Tryz.func105⟩
def a0L(e_:m4):Option Bool :=
 (bif e_.i8 then (bif (([e_.a5.d8,e_.a5.Seq]:List Int)==[0,0]) then ((a9V e_.b8 (n5.mk [] [] 0 0)).bind fun a0U=>some a0U) else some false) else ((a8C e_.a5).bind fun a5k=>(bif a5k then ((b2b e_.b8).bind fun a02=>(bif a02 then some (e_.b8.Code != 3) else some false)) else some false)))
theorem a2L{e_}:OK a14 [.agg (t0 e_)] (a0L e_) :=
 n8 _ fun r h=>n6<|j5 1 h (fun h=>rg<|j5 4 h (fun h=>j9 a0I c1J 8 h fun a0U h=>fE h) (fun h=>fE h)) (fun h=>rg<|j9 b8A c01 2 h fun a5k h=>j5 3 h (fun h=>j9 a0v d0P 6 h fun a02 h=>j5 8 h (fun h=>fE h) (fun h=>fE h)) (fun h=>fE h))
def a7D:FS (x6×Bool):=⟨173,Tryz.f173,[.val [none,some 8] [none,some 9000000],.val [] []],[none,none,none,none],[.val [none,some 8] [],.val [] [],.val [] [],.val J9 []],fun r=>.tup [.agg [vi r.1.g8,.bot],.b r.2],fun _=>[none,none,none,none],Tryz.func173⟩
def b2V(a:x6)(bal:Int)(slot:Int)(e_:m4):Option (x6×Bool) :=
 (bif decide (slot<0) then some (a,false) else (bif decide (slot>=40) then some (a,false) else ((a0L e_).bind fun D7=>(bif (!D7) then some (a,false) else ((a9A a bal).bind fun no=>(bif (!no.2) then some (a,false) else none))))))
theorem c89{a bal slot e_}:OK a7D [.agg (Y5 a),vi bal,vi slot,.agg (t0 e_)] (b2V a bal slot e_) :=
 n8 _ fun r h=>n6<|j5 2 h (fun h=>rg<|fE h) (fun h=>j5 6 h (fun h=>rg<|fE h) (fun h=>j9 a14 a2L 8 h fun D7 h=>j5 10 h (fun h=>rg<|fE h) (fun h=>rg<|j9 a5t c3g 2 h fun no h=>rg<|j5 1 h (fun h=>rg<|fE h) (fun h=>(nomatch h)))))
def b5f:FS (j6):=⟨119,Tryz.f119,[.val A3 F8],[none],[.val A3 F8],fun r=>.agg (F9 r),fun _=>[none],Tryz.func119⟩
def b0J(n:j6):Option j6 :=
 some (j6.mk n.Id n.Acc n.a0 n.Seq 0 0 [] [] (m4.mk false (q8.mk 0 0) (n5.mk [] [] 0 0)) [] n.i7 n.i5 n.b7 n.d9)
theorem c1o{n}:OK b5f [.agg (F9 n)] (b0J n) :=
 n8 _ fun r h=>rg4<|rg4<|W0 n.Acc.a6 n.a0 n.d9<|fE h
def Y7:FS (List j8):=⟨121,Tryz.f121,[.val [some 13] [some 76]],[none,none],[.val [] [],.val B5 []],fun r=>u7 76 13 s5 r,fun _=>[none,none],Tryz.func121⟩
def b80:(List j8)->KS:=fun out1=>⟨Y7.k 4 [false],(bs 5 (.own 1 0 13 0 out1.length::(bs 21 []))),[some [],some [m5 76 13 s5 out1]]⟩
def c8I(out1:List j8):Option (List j8) :=
 some out1
theorem e34(r):NF Y7 r b80 (fun s=>c8I s):=fun out1 h=>PK<|rg<|s7 out1<|fE h
def c98(id:Int)(m:j8):((List j8)×Int)->KS:=fun (out,t_)=>⟨Y7.k 3 [],(vi id::(bs 2 (.ptr 1 0 0::(bs 1 (.own 2 0 13 0 out.length::(vi t_::(bs 20 []))))))),[some [],some [.var 76 (a38 m)],some [m5 76 13 s5 out]]⟩
def d97(id:Int)(m:j8)(t_:Int):(List j8)->KS:=fun out2=>⟨Y7.k 9 [true,true],(vi id::(bs 2 (.ptr 1 0 0::(bs 1 (.own 2 0 13 0 out2.length::(vi t_::(bs 20 []))))))),[some [],some [.var 76 (a38 m)],some [m5 76 13 s5 out2]]⟩
def c3D(t_:Int)(out2:List j8):Option (l8 (List j8) ((List j8)×Int) (List j8)) :=
 some (l8.nxt (out2,m8 (t_+1)))
theorem e81(id m t_)(lc:I5 Y7 b80 (c98 id m)):NL lc (d97 id m t_) (fun s=>c3D t_ s):=fun out2 h=>PK<|rg<|(lc.nx h fun hI=>sk [] [0,3,5,6] [(1,0),(2,0)] hI)
def a4V(id:Int)(m:j8)(out:List j8)(t_:Int):Option (l8 (List j8) ((List j8)×Int) (List j8)) :=
 (bif decide (t_<3) then (((bif (t_ != id) then ((a7e m).bind fun E9=>(t5 ((out.length+1)*152<=140737488355328) (some (l9.brk (out++[(j8.mk E9.a8 id t_ E9.a7 E9.g7 E9.i0 E9.a6)]))))) else some (l9.brk out)):Option (l9 (l8 (List j8) ((List j8)×Int) (List j8)) (List j8))).bind fun x=>x.go some fun j=>c3D t_ j) else some (l8.brk out))
theorem d5G(id m):LQ Y7 b80 (c98 id m) (fun s=>a4V id m s.1 s.2):=fun lc (out,t_) h=>PK<|rg<|j5 1 h (fun h=>B2 h (e81 id m t_ lc) fun x2 h hc2=>rg<|j5 2 h (fun h=>rg<|j9 b1P b66 1 h fun E9 h=>M5<|tk 2 B5<|t6 h fun e1 h=>F7 3 21 76 13 152 s5 out (j8.mk E9.a8 id t_ E9.a7 E9.g7 E9.i0 E9.a6) e1<|E5 (j8.mk E9.a8 id t_ E9.a7 E9.g7 E9.i0 E9.a6)<|(o8 h hc2 fun hI=>sk [] [0,3,5,6] [(1,0),(21,0)] hI)) (fun h=>(o8 h hc2 fun hI=>sk [] [0,3,5,6] [(1,0),(2,0)] hI))) (fun h=>(lc.bk h fun hI=>sk [] [5] [(2,0)] hI))
def a2C(id:Int)(m:j8):Option (List j8) :=
 ((p8 (fun s:(List j8)×Int=>a4V id m s.1 s.2) (([]:List j8),0)).bind fun x=>x.go (fun r=>some r) fun s=>c8I s)
theorem a6n{id m}:OK Y7 [vi id,.agg (s5 m)] (a2C id m) :=
 n8 _ fun r h=>n6<|tk 0 B5<|rg<|lp (d5G id m) h (fun _ h=>Y7.rt h) (e34 r) fun hI=>om ((.own 3 0 13 0 0:V)=.own 3 0 13 0 ([]:List j8).length) (by simp)<|sk [.is (.tmp 5) (.own 3 0 13 0 ([]:List j8).length)] [0,3,5,6] [(1,0),(3,0)] hI
def a5H:FS (x6×Bool):=⟨173,Tryz.f173,[.val [none,some 8] [none,some 152],.val [] []],[none,none,none,none],[.val [none,some 8] [none,some 152],.val [] [],.val [] [],.val J9 []],fun r=>.tup [.agg [vi r.1.g8,u7 152 8 p6 r.1.a6],.b r.2],fun _=>[none,none,none,none],Tryz.func173⟩
def d13(bal:Int)(slot:Int)(e_:m4)(l6Promise:x6×Bool):(List m7)->KS:=fun Y1=>⟨a5H.k 5 [false,false,false],(bs 1 (vi bal::(vi slot::(bs 4 (.ptr 1 0 0::(.ptr 2 0 0::(bs 1 (.ptr 3 0 0::(bs 42 []))))))))),[some [.dead],some [.var 43 (a4D e_)],some [.var 62 [vi 0,.nil]],some [.var 62 [vi l6Promise.1.g8,.own 4 0 8 0 Y1.length]],some [m5 152 8 p6 Y1]]⟩
def c28(bal:Int)(slot:Int)(e_:m4)(l6Promise:x6×Bool)(Y1:List m7):Option (x6×Bool) :=
 ((V5 e_).bind fun l5Entry=>((idx Y1 slot).bind fun vote=>some ((x6.mk l6Promise.1.g8 (Y1.set slot.toNat (m7.mk bal l5Entry))),true)))
theorem d65(bal slot e_ l6Promise)(r):NF a5H r (d13 bal slot e_ l6Promise) (fun s=>c28 bal slot e_ l6Promise s):=fun Y1 h=>PK<|rg<|j9 Z2 a0u 5 h fun l5Entry h=>A6 h fun vote M9 h=>B4 M9<|O6 152 8 p6 8 T5 (m7.mk bal l5Entry) M9<|rg<|om (Y1.length=(Y1.set slot.toNat (m7.mk bal l5Entry)).length) (by simp)<|fE h
def d4n(bal:Int)(slot:Int)(e_:m4)(l6Promise:x6×Bool):(List m7)->KS:=fun a6=>⟨a5H.k 4 [false,false],(bs 1 (vi bal::(vi slot::(bs 4 (.ptr 1 0 0::(.ptr 2 0 0::(bs 1 (.ptr 3 0 0::(bs 42 []))))))))),[some [.dead],some [.var 43 (a4D e_)],some [.var 62 [vi 0,.nil]],some [.var 62 [vi l6Promise.1.g8,.own 4 0 8 0 a6.length]],some [m5 152 8 p6 a6]]⟩
def a7B(slot:Int)(a6:List m7):Option (l8 (x6×Bool) (List m7) (List m7)) :=
 (bif decide ((a6.length:Int)<=slot) then (t5 ((a6.length+1)*96<=140737488355328) (some (l8.nxt (a6++[(m7.mk 0 (m4.mk false (q8.mk 0 0) (n5.mk [] [] 0 0)))])))) else some (l8.brk a6))
theorem e45(bal slot e_ l6Promise):LQ a5H (d13 bal slot e_ l6Promise) (d4n bal slot e_ l6Promise) (fun s=>a7B slot s):=fun lc a6 h=>PK<|rg<|j5 4 h (fun h=>rg<|tk 3 T5<|t6 h fun e1 h=>F7 4 14 152 8 96 p6 a6 (m7.mk 0 (m4.mk false (q8.mk 0 0) (n5.mk [] [] 0 0))) e1<|E5 (m7.mk 0 (m4.mk false (q8.mk 0 0) (n5.mk [] [] 0 0)))<|(lc.nx h fun hI=>sk [] [1,2,7,8,10] [(1,0),(2,0),(3,0),(14,0)] hI)) (fun h=>(lc.bk h fun hI=>sk [] [1,2,7,8,10] [(1,0),(2,0),(3,0),(4,0)] hI))
def b1l(a:x6)(bal:Int)(slot:Int)(e_:m4):Option (x6×Bool) :=
 (bif decide (slot<0) then some (a,false) else (bif decide (slot>=40) then some (a,false) else ((a0L e_).bind fun D7=>(bif (!D7) then some (a,false) else (a4e (a9A a bal) (fun no=>(bif (!no.2) then some (a,false) else none)) (((a6Q a bal).bind fun l6Promise=>(bif (!l6Promise.2) then none else ((p8 (fun s:List m7=>a7B slot s) l6Promise.1.a6).bind fun x=>x.go (fun r=>some r) fun s=>c28 bal slot e_ l6Promise s)))))))))
theorem d3x{a bal slot e_}:OK a5H [.agg [vi a.g8,u7 152 8 p6 a.a6],vi bal,vi slot,.agg (t0 e_)] (b1l a bal slot e_) :=
 n8 _ fun r h=>n6<|j5 2 h (fun h=>rg<|s7 a.a6<|fE h) (fun h=>j5 6 h (fun h=>rg<|s7 a.a6<|fE h) (fun h=>j9 a14 a2L 8 h fun D7 h=>j5 10 h (fun h=>rg<|s7 a.a6<|fE h) (fun h=>rg<|cbA a5t.t c3g 2 true h (fun no h=>osc a5t no (by simp [a5t,M3,T9,O4,V.simple,vi,u7,Y5,eB,t0,eI,u6,u5,Z1,P3,p6]) (P8 2)<|s7 a.a6<|rg<|j5 1 h (fun h=>rg<|s7 a.a6<|fE h) (fun h=>(nomatch h))) (fun h=>j9 b0w b7w 2 h fun l6Promise h=>s7 a.a6<|rg<|j5 1 h (fun h=>(nomatch h)) (fun h=>lp (e45 bal slot e_ l6Promise) h (fun _ h=>a5H.rt h) (d65 bal slot e_ l6Promise r) fun hI=>sk [] [1,2,7,8,10] [(2,0),(3,0),(22,0),(18,0)] hI)))))
def a9j:FS (j6×List j8):=⟨122,Tryz.f122,[.val A3 F8,.val [some 13] []],[none],[.val A3 F8],fun r=>.tup [.agg (F9 r.1),l7 13 s5 r.2],fun _=>[none],Tryz.func122⟩
def a5U(n:j6):Option (j6×List j8) :=
 (bif (n.d6 != 2) then some (n,([]:List j8)) else (bif decide ((n.a0.length:Int)>=40) then some (n,([]:List j8)) else ((b5V n).bind fun G3=>(bif (!G3.2.2) then some (G3.1,([]:List j8)) else (a4e (b2V G3.1.Acc G3.1.a7 (G3.1.a0.length:Int) G3.2.1) (fun no=>(bif (!no.2) then ((b0J G3.1).bind fun M4=>some (M4,([]:List j8))) else none)) (((b1l G3.1.Acc G3.1.a7 (G3.1.a0.length:Int) G3.2.1).bind fun a4G=>(bif (!a4G.2) then none else ((V5 G3.2.1).bind fun l5Entry=>(t5 (0<=(3:Int)/\(3:Int)*1<=140737488355328) (((idx (e9L (3:Int).toNat false) G3.1.Id).bind fun y=>((a2C G3.1.Id (j8.mk 3 0 0 G3.1.a7 (G3.1.a0.length:Int) G3.2.1 [])).bind fun I1=>some ((j6.mk G3.1.Id a4G.1 G3.1.a0 G3.1.Seq 3 G3.1.a7 G3.1.c8 G3.1.g9 l5Entry ((e9L (3:Int).toNat false).set G3.1.Id.toNat true) G3.1.i7 G3.1.i5 G3.1.b7 G3.1.d9),I1))))))))))))))
theorem b21{n}:OK a9j [.agg (F9 n)] (a5U n) :=
 n8 _ fun r h=>n6<|j5 3 h (fun h=>rg<|tk 1 B5<|z9 n<|B6 j8<|fE h) (fun h=>j5 8 h (fun h=>rg<|tk 1 B5<|z9 n<|B6 j8<|fE h) (fun h=>rg<|j9 a2x d5q 1 h fun G3 h=>z9 n<|rg<|j5 1 h (fun h=>rg<|tk 1 B5<|z9 G3.1<|B6 j8<|fE h) (fun h=>rg<|cbA a7D.t c89 8 true h (fun no h=>osc a7D no (by simp [a7D,M3,T9,O4,V.simple,vi,u7,Y5,eB,t0,eI,u6,u5,Z1,P3,p6]) (P8 4)<|s7 G3.1.Acc.a6<|rg<|j5 1 h (fun h=>rg<|j9 b5f c1o 1 h fun M4 h=>z9 G3.1<|tk 2 B5<|z9 M4<|B6 j8<|fE h) (fun h=>(nomatch h))) (fun h=>j9 a5H d3x 8 h fun a4G h=>s7 G3.1.Acc.a6<|rg<|j5 1 h (fun h=>(nomatch h)) (fun h=>M5<|j9 Z2 a0u 1 h fun l5Entry h=>rg<|t6 h fun e1 h=>U1 0 52 4 1 1 eB false ti4 (.none) e1 (by decide) (by rfl)<|rg<|A6 h fun y hy h=>B4 hy<|O6 4 1 eB 5 [] true hy<|rg<|j9 Y7 a6n 10 h fun I1 h=>W0 a4G.1.a6 G3.1.a0 G3.1.c8<|om ((e9L (3:Int).toNat false).length=((e9L (3:Int).toNat false).set G3.1.Id.toNat true).length) (by simp)<|C2 G3.1.d9 I1<|fE h)))))
def c4Q:FS (j6×List j8):=⟨163,Tryz.f163,[.val A3 F8,.val [some 13] []],[none,none],[.val A3 F8,.val B5 []],fun r=>.tup [.agg (F9 r.1),l7 13 s5 r.2],fun _=>[none,none],Tryz.func163⟩
def b34(n:j6)(m:j8):Option (j6×List j8) :=
 (bif (n.d6 != 1) then some (n,([]:List j8)) else (bif (m.a7 != n.a7) then some (n,([]:List j8)) else ((idx n.c8 m.c8).bind fun y=>((b5o m.a6 m.g7).bind fun b9P=>((b56 n.g9 b9P).bind fun c3p=>((b0H (n.c8.set m.c8.toNat true)).bind fun b05=>(bif (!b05) then some ((j6.mk n.Id n.Acc n.a0 n.Seq n.d6 n.a7 (n.c8.set m.c8.toNat true) c3p n.c9 n.a6 n.i7 n.i5 n.b7 n.d9),([]:List j8)) else ((a5U (j6.mk n.Id n.Acc n.a0 n.Seq 2 n.a7 [] c3p n.c9 n.a6 n.i7 n.i5 n.b7 n.d9)).bind fun M6=>some (M6.1,M6.2)))))))))
theorem e51{n m}:OK c4Q [.agg (F9 n),.agg (s5 m)] (b34 n m) :=
 n8 _ fun r h=>n6<|j5 3 h (fun h=>rg<|tk 1 B5<|z9 n<|B6 j8<|fE h) (fun h=>j5 9 h (fun h=>rg<|tk 1 B5<|z9 n<|B6 j8<|fE h) (fun h=>rg<|A6 h fun y hy h=>B4 hy<|O6 4 1 eB 5 [] true hy<|rg<|j9 d1l e2s 6 h fun b9P h=>j9 a1G e0g 7 h fun c3p h=>s7 b9P<|rg<|S0 a5T d11 2 1 h fun b05 h=>om (n.c8.length=(n.c8.set m.c8.toNat true).length) (by simp)<|j5 3 h (fun h=>rg<|tk 1 B5<|C2 n.Acc.a6 n.a0<|om (n.c8.length=(n.c8.set m.c8.toNat true).length) (by simp)<|C2 n.a6 n.d9<|B6 j8<|fE h) (fun h=>M5<|j9 a9j b21 1 h fun M6 h=>G0 n.Acc.a6 n.a0 n.a6 n.d9<|z9 M6.1<|fE h)))
def b2G:FS (j6):=⟨167,Tryz.f167,[.val A3 F8],[none,none],[.val A3 F8,.val [] []],fun r=>.agg (F9 r),fun _=>[none,none],Tryz.func167⟩
def d9Y(n:j6):Unit->KS:=fun _=>⟨b2G.k 2 [false],(bs 2 (.ptr 1 0 0::(bs 1 (.ptr 2 0 0::(bs 12 []))))),[some (a71 n),some [.var 65 (a7S n)],some [.var 65 [vi 0,vi 0,.nil,.nil,vi 0,vi 0,vi 0,.nil,.nil,.b false,vi 0,vi 0,.nil,.nil,vi 0,vi 0,.nil,.b false,.nil,.b false,vi 0,vi 0,.nil,.nil,vi 0,vi 0,.nil]]]⟩
def d1p(n:j6):Option j6 :=
 some n
theorem e7J(n)(r):NF b2G r (d9Y n) (fun s=>d1p n):=fun _ h=>PK<|rg<|z9 n<|fE h
def b3h(n:j6)(bal:Int):Option j6 :=
 (((bif (n.d6 != 0) then (bif decide (bal>n.a7) then ((b0J n).bind fun M4=>some (l9.ret M4)) else some (l9.brk ())) else some (l9.brk ())):Option (l9 j6 Unit)).bind fun x=>x.go some fun j=>d1p n)
theorem c9s{n bal}:OK b2G [.agg (F9 n),vi bal] (b3h n bal) :=
 n8 _ fun r h=>rg<|B2 h (e7J n r) fun x1 h hc1=>rg<|j5 3 h (fun h=>j5 8 h (fun h=>rg<|j9 b5f c1o 1 h fun M4 h=>z9 n<|(B7 h hc1 fun h=>z9 M4<|fE h)) (fun h=>(o8 h hc1 fun hI=>sk [] [2,4] [(1,0),(2,0)] hI))) (fun h=>(o8 h hc1 fun hI=>sk [] [2,4] [(1,0),(2,0)] hI))
def c7s:FS (j6×List j8):=⟨164,Tryz.f164,[.val A3 F8,.val [some 13] []],[none,none],[.val A3 F8,.val B5 []],fun r=>.tup [.agg (F9 r.1),l7 13 s5 r.2],fun _=>[none,none],Tryz.func164⟩
def b7Z(n:j6)(m:j8):Option (j6×List j8) :=
 (a4e (b2V n.Acc m.a7 m.g7 m.i0) (fun no=>(bif (!no.2) then ((a4u m (j8.mk 6 0 0 n.Acc.g8 0 (m4.mk false (q8.mk 0 0) (n5.mk [] [] 0 0)) [])).bind fun a1a=>some (n,a1a)) else none)) (((b1l n.Acc m.a7 m.g7 m.i0).bind fun a4G=>(bif (!a4G.2) then none else ((b3h (j6.mk n.Id a4G.1 n.a0 n.Seq n.d6 n.a7 n.c8 n.g9 n.c9 n.a6 n.i7 n.i5 n.b7 n.d9) m.a7).bind fun J1=>((a4u m (j8.mk 4 0 0 m.a7 m.g7 (m4.mk false (q8.mk 0 0) (n5.mk [] [] 0 0)) [])).bind fun a37=>some (J1,a37)))))))
theorem e8v{n m}:OK c7s [.agg (F9 n),.agg (s5 m)] (b7Z n m) :=
 n8 _ fun r h=>n6<|cbA a7D.t c89 8 true h (fun no h=>osc a7D no (by simp [a7D,M3,T9,O4,V.simple,vi,u7,Y5,eB,t0,eI,u6,u5,Z1,P3,p6]) (P8 4)<|s7 n.Acc.a6<|rg<|j5 1 h (fun h=>rg<|j9 a3D a6N 6 h fun a1a h=>z9 n<|fE h) (fun h=>(nomatch h))) (fun h=>j9 a5H d3x 8 h fun a4G h=>s7 n.Acc.a6<|rg<|j5 1 h (fun h=>(nomatch h)) (fun h=>n6<|j9 b2G c9s 3 h fun J1 h=>s7 a4G.1.a6<|I3 n<|rg<|j9 a3D a6N 7 h fun a37 h=>z9 J1<|fE h))
def d19:FS (List q9):=⟨200,Tryz.f200,[.val [some 2] [some 95]],[],[],fun r=>u7 95 2 z5 r,fun _=>[],Tryz.func200⟩
def c1e:Option (List q9) :=
 (t5 (0<=(4:Int)/\(4:Int)*16<=140737488355328) (some (e9L (4:Int).toNat (q9.mk 0 0))))
theorem d5V:OK d19 [] c1e :=
 n8 _ fun r h=>n6<|t6 h fun e1 h=>U1 0 2 95 2 16 z5 (q9.mk 0 0) b3u (.none) e1 (by decide) (by rfl)<|s7 (e9L (4:Int).toNat (q9.mk 0 0))<|fE h
def c3E:FS (v6):=⟨197,Tryz.f197,[.val [none,some 2,some 4] [none,some 95,none]],[],[],fun r=>.agg (b0z r),fun _=>[],Tryz.func197⟩
def b1x:Option v6 :=
 ((c1e).bind fun a6G=>some (v6.mk 0 a6G []))
theorem c7g:OK c3E [] b1x :=
 n8 _ fun r h=>n6<|j9 d19 d5V 0 h fun a6G h=>s7 a6G<|fE h
def a6C:FS (r9×Bool):=⟨201,Tryz.f201,[.val [] [],.val [] []],[none,none],[.val [none,some 2,some 4] [],.val [] []],fun r=>.tup [.agg (B3 r.1),.b r.2],fun _=>[none,none],Tryz.func201⟩
def d0B:Unit->KS:=fun _=>⟨a6C.k 3 [false],(bs 4 (.ptr 1 0 0::(bs 24 []))),[some [],some [.var 166 [vi 0,vi 0,vi 0,vi 0]]]⟩
def c6w:Option (r9×Bool) :=
 some ((r9.mk (q8.mk 0 0) 0 0),false)
theorem e4O(r):NF a6C r d0B (fun s=>c6w):=fun _ h=>PK<|rg<|fE h
def e4k(s_:v6)(who:Int):Int->KS:=fun i=>⟨a6C.k 2 [],(bs 1 (vi who::(.ptr 1 0 0::(bs 1 (.ptr 2 0 0::(bs 1 (vi i::(bs 22 [])))))))),[some [],some [.var 52 [vi s_.At,l7 2 z5 s_.i4,l7 4 B3 s_.i9]],some [.var 166 [vi 0,vi 0,vi 0,vi 0]]]⟩
def b52(s_:v6)(who:Int)(i:Int):Option (l8 (r9×Bool) Int Unit) :=
 (bif decide (i<(s_.i9.length:Int)) then ((idx s_.i9 i).bind fun done=>(bif (done.a5.d8==who) then some (l8.ret (done,true)) else some (l8.nxt (m8 (i+1))))) else some (l8.brk ()))
theorem e6G(s_ who):LQ a6C d0B (e4k s_ who) (fun s=>b52 s_ who s):=fun lc i h=>PK<|rg<|j5 4 h (fun h=>rg<|w9 B3 3 h fun done b7R h=>j5 8 h (fun h=>rg<|L7 B3 3 b7R<|fL lc h) (fun h=>rg<|(lc.nx h fun hI=>sk [] [1,2,4,6] [(1,0),(2,0)] hI))) (fun h=>(lc.bk h fun hI=>sk [] [4] [(2,0)] hI))
def b7N(s_:v6)(who:Int):Option (r9×Bool) :=
 ((p8 (fun s:Int=>b52 s_ who s) 0).bind fun x=>x.go (fun r=>some r) fun s=>c6w)
theorem e4F{s_ who}:OK a6C [.agg (a7O s_),vi who] (b7N s_ who) :=
 n8 _ fun r h=>n6<|lp (e6G s_ who) h (fun _ h=>a6C.rt h) (e4O r) fun hI=>sk [] [1,2,4,6] [(1,0),(2,0)] hI
def a6c:FS (Bool):=⟨188,Tryz.f188,[.val [] []],[none],[.val [some 2] []],fun r=>.b r,fun _=>[none],Tryz.func188⟩
def d3p:Unit->KS:=fun _=>⟨a6c.k 4 [false,false],(bs 36 []),[some []]⟩
def c8E:Option Bool :=
 some true
theorem e83(r):NF a6c r d3p (fun s=>c8E):=fun _ h=>PK<|rg<|fE h
def e4s(list:List q9):Int->KS:=fun i=>⟨a6c.k 3 [false],(l7 2 z5 list::(bs 2 (vi i::(bs 32 [])))),[some []]⟩
def b6x(list:List q9)(i:Int):Option (l8 Bool Int Unit) :=
 (bif decide (i<(list.length:Int)) then ((idx list i).bind fun box=>(bif decide (box.j4<0) then some (l8.ret false) else (bif decide (box.j4>1000000) then some (l8.ret false) else ((a5Z box.f0).bind fun a0P=>(bif (!a0P) then some (l8.ret false) else some (l8.nxt (m8 (i+1)))))))) else some (l8.brk ()))
theorem e7N(list):LQ a6c d3p (e4s list) (fun s=>b6x list s):=fun lc i h=>PK<|rg<|j5 3 h (fun h=>rg<|w9 z5 2 h fun box a2s h=>j5 6 h (fun h=>rg<|fL lc h) (fun h=>L7 z5 9 a2s<|j5 14 h (fun h=>rg<|fL lc h) (fun h=>L7 z5 17 a2s<|j9 a7t a8N 20 h fun a0P h=>j5 22 h (fun h=>rg<|fL lc h) (fun h=>rg<|(lc.nx h fun hI=>sk [] [0,3] [] hI))))) (fun h=>(lc.bk h fun hI=>sk [] [] [] hI))
def b2u(list:List q9):Option Bool :=
 (bif ((list.length:Int) != 4) then some false else ((p8 (fun s:Int=>b6x list s) 0).bind fun x=>x.go (fun r=>some r) fun s=>c8E))
theorem c7t{list}:OK a6c [l7 2 z5 list] (b2u list) :=
 n8 _ fun r h=>n6<|j5 2 h (fun h=>rg<|fE h) (fun h=>rg<|lp (e7N list) h (fun _ h=>a6c.rt h) (e83 r) fun hI=>sk [] [0,3] [] hI)
def a3G:FS (Bool):=⟨202,Tryz.f202,[.val [] []],[none,none],[.val [some 2] [],.val N6 []],fun r=>.b r,fun _=>[none,none],Tryz.func202⟩
def c4B:Unit->KS:=fun _=>⟨a3G.k 4 [false,false],(bs 38 []),[some []]⟩
def c5y:Option Bool :=
 some true
theorem d9D(r):NF a3G r c4B (fun s=>c5y):=fun _ h=>PK<|rg<|fE h
def e1T(list:List q9)(r_:n5):Int->KS:=fun i=>⟨a3G.k 3 [false],(l7 2 z5 list::(bs 2 (.ptr 1 0 0::(bs 1 (vi i::(bs 32 [])))))),[some [],some [.var 41 (a0m r_)]]⟩
def b3U(list:List q9)(r_:n5)(i:Int):Option (l8 Bool Int Unit) :=
 (bif decide (i<(r_.b5.length:Int)) then ((idx r_.b5 i).bind fun read=>((idx list read.i6).bind fun box=>(bif (box.j4 != read.j4) then some (l8.ret false) else some (l8.nxt (m8 (i+1)))))) else some (l8.brk ()))
theorem e4y(list r_):LQ a3G c4B (e1T list r_) (fun s=>b3U list r_ s):=fun lc i h=>PK<|rg<|j5 4 h (fun h=>rg<|w9 u5 4 h fun read a3I h=>w9 z5 7 h fun box a2s h=>L7 u5 13 a3I<|j5 16 h (fun h=>rg<|fL lc h) (fun h=>rg<|(lc.nx h fun hI=>sk [] [0,3,5] [(1,0)] hI))) (fun h=>(lc.bk h fun hI=>sk [] [] [] hI))
def b5I(list:List q9)(r_:n5):Option Bool :=
 ((b2u list).bind fun X2=>(bif (!X2) then some false else ((b2b r_).bind fun a02=>(bif (!a02) then some false else ((p8 (fun s:Int=>b3U list r_ s) 0).bind fun x=>x.go (fun r=>some r) fun s=>c5y)))))
theorem e4H{list r_}:OK a3G [l7 2 z5 list,.agg (P3 r_)] (b5I list r_) :=
 n8 _ fun r h=>n6<|j9 a6c c7t 1 h fun X2 h=>j5 3 h (fun h=>rg<|fE h) (fun h=>j9 a0v d0P 5 h fun a02 h=>j5 7 h (fun h=>rg<|fE h) (fun h=>rg<|lp (e4y list r_) h (fun _ h=>a3G.rt h) (d9D r) fun hI=>sk [] [0,3,5] [(1,0)] hI))
def d3f:FS (Int):=⟨205,Tryz.f205,[.val [] []],[none,none],[.val [] [],.val [] []],fun r=>vi r,fun _=>[none,none],Tryz.func205⟩
def c0j(a:Int)(b:Int):Option Int :=
 (bif decide (a<b) then some a else some b)
theorem e0D{a b}:OK d3f [vi a,vi b] (c0j a b) :=
 n8 _ fun r h=>n6<|j5 2 h (fun h=>rg<|fE h) (fun h=>rg<|fE h)
def a7I:FS (List q9):=⟨203,Tryz.f203,[.val [some 2] [some 95]],[none,none],[.val [some 2] [some 95],.val N6 []],fun r=>u7 95 2 z5 r,fun _=>[none,none],Tryz.func203⟩
def d0g:(List q9)->KS:=fun a92=>⟨a7I.k 3 [false],(.own 0 0 2 0 a92.length::(bs 37 [])),[some [m5 95 2 z5 a92]]⟩
def c5S(a92:List q9):Option (List q9) :=
 some a92
theorem d67(r):NF a7I r d0g (fun s=>c5S s):=fun a92 h=>PK<|rg<|s7 a92<|fE h
def d5Q(r_:n5):((List q9)×Int)->KS:=fun (list1,i)=>⟨a7I.k 2 [],(.own 0 0 2 0 list1.length::(bs 2 (.ptr 1 0 0::(bs 1 (vi i::(bs 32 [])))))),[some [m5 95 2 z5 list1],some [.var 41 (a0m r_)]]⟩
def b47(r_:n5)(list1:List q9)(i:Int):Option (l8 (List q9) ((List q9)×Int) (List q9)) :=
 (bif decide (i<(r_.b6.length:Int)) then ((idx r_.b6 i).bind fun put=>((idx list1 put.i6).bind fun box=>((c0j 1000000 (m8 (box.j4+1))).bind fun b1w=>some (l8.nxt (list1.set put.i6.toNat (q9.mk b1w put.f0),m8 (i+1)))))) else some (l8.brk list1))
theorem e21(r_):LQ a7I d0g (d5Q r_) (fun s=>b47 r_ s.1 s.2):=fun lc (list1,i) h=>PK<|rg<|j5 4 h (fun h=>rg<|w9 u6 3 h fun put hput h=>rg<|A6 h fun box a2s h=>B4 a2s<|H8 z5 6 a2s<|j9 d3f e0D 8 h fun b1w h=>L7 u6 12 hput<|B4 a2s<|O6 95 2 z5 17 [] (q9.mk b1w put.f0) a2s<|rg<|(lc.nx h fun hI=>om ((.own 0 0 2 0 list1.length:V)=.own 0 0 2 0 (list1.set put.i6.toNat (q9.mk b1w put.f0)).length) (by simp)<|sk [.is (.tmp 0) (.own 0 0 2 0 (list1.set put.i6.toNat (q9.mk b1w put.f0)).length)] [0,3,5] [(1,0)] hI)) (fun h=>(lc.bk h fun hI=>sk [] [0] [] hI))
def b5Q(list:List q9)(r_:n5):Option (List q9) :=
 ((p8 (fun s:(List q9)×Int=>b47 r_ s.1 s.2) (list,0)).bind fun x=>x.go (fun r=>some r) fun s=>c5S s)
theorem e7Q{list r_}:OK a7I [u7 95 2 z5 list,.agg (P3 r_)] (b5Q list r_) :=
 n8 _ fun r h=>n6<|lp (e21 r_) h (fun _ h=>a7I.rt h) (d67 r) fun hI=>sk [] [0,3,5] [(1,0)] hI
def a1c:FS (List r9):=⟨204,Tryz.f204,[.val [some 4] []],[none,none],[.val [some 4] [],.val [] []],fun r=>l7 4 B3 r,fun _=>[none,none],Tryz.func204⟩
def b4q(d:r9):((List r9)×Bool)->KS:=fun (out1,in_1)=>⟨a1c.k 5 [false],(bs 3 (.ptr 1 0 0::(bs 1 (.own 2 0 4 0 out1.length::(.b in_1::(bs 50 [])))))),[some [],some [.var 166 [vi d.a5.d8,vi d.a5.Seq,vi d.Code,vi d.f0]],some [m5 166 4 B3 out1]]⟩
def e4p:(List r9)->KS:=fun out2=>⟨a1c.k 7 [false,true],(bs 5 (.own 1 0 4 0 out2.length::(bs 51 []))),[some [],some [m5 166 4 B3 out2]]⟩
def c1P(out2:List r9):Option (List r9) :=
 some out2
theorem d6O(r):NF a1c r e4p (fun s=>c1P s):=fun out2 h=>PK<|rg<|s7 out2<|fE h
def c1S(d:r9)(out1:List r9)(in_1:Bool):Option (List r9) :=
 (((bif (!in_1) then (t5 ((out1.length+1)*32<=140737488355328) (some (l9.brk (out1++[d])))) else some (l9.brk out1)):Option (l9 (List r9) (List r9))).bind fun x=>x.go some fun j=>c1P j)
theorem e5i(d)(r):NF a1c r (b4q d) (fun s=>c1S d s.1 s.2):=fun (out1,in_1) h=>PK<|B2 h (d6O r) fun x1 h hc1=>rg<|j5 1 h (fun h=>rg<|tk 2 []<|t6 h fun e1 h=>F7 3 8 166 4 32 B3 out1 d e1<|E5 d<|(o8 h hc1 fun hI=>sk [] [5] [(8,0)] hI)) (fun h=>(o8 h hc1 fun hI=>sk [] [5] [(2,0)] hI))
def c0Z(list:List r9)(d:r9):((List r9)×Bool×Int)->KS:=fun (out,in_,i)=>⟨a1c.k 4 [],(l7 4 B3 list::(bs 2 (.ptr 1 0 0::(bs 1 (.own 2 0 4 0 out.length::(.b in_::(vi i::(bs 49 [])))))))),[some [],some [.var 166 [vi d.a5.d8,vi d.a5.Seq,vi d.Code,vi d.f0]],some [m5 166 4 B3 out]]⟩
def e2J(list:List r9)(d:r9)(i:Int):((List r9)×Bool)->KS:=fun (out3,in_2)=>⟨a1c.k 8 [true,true],(l7 4 B3 list::(bs 2 (.ptr 1 0 0::(bs 1 (.own 2 0 4 0 out3.length::(.b in_2::(vi i::(bs 49 [])))))))),[some [],some [.var 166 [vi d.a5.d8,vi d.a5.Seq,vi d.Code,vi d.f0]],some [m5 166 4 B3 out3]]⟩
def d8w(list:List r9)(d:r9)(i:Int)(in_2:Bool):(List r9)->KS:=fun out4=>⟨a1c.k 10 [true,true,true],(l7 4 B3 list::(bs 2 (.ptr 1 0 0::(bs 1 (.own 2 0 4 0 out4.length::(.b in_2::(vi i::(bs 49 [])))))))),[some [],some [.var 166 [vi d.a5.d8,vi d.a5.Seq,vi d.Code,vi d.f0]],some [m5 166 4 B3 out4]]⟩
def c1H(i:Int)(in_2:Bool)(out4:List r9):Option (l8 (List r9) ((List r9)×Bool×Int) ((List r9)×Bool)) :=
 some (l8.nxt (out4,in_2,m8 (i+1)))
theorem e4A(list d i in_2)(lc:I5 a1c (b4q d) (c0Z list d)):NL lc (d8w list d i in_2) (fun s=>c1H i in_2 s):=fun out4 h=>PK<|rg<|(lc.nx h fun hI=>sk [] [0,3,5,6,7] [(1,0),(2,0)] hI)
def c2S(list:List r9)(d:r9)(i:Int)(out3:List r9)(in_2:Bool):Option (l8 (List r9) ((List r9)×Bool×Int) ((List r9)×Bool)) :=
 ((((idx list i).bind fun done=>(bif (done.a5.d8 != d.a5.d8) then (t5 ((out3.length+1)*32<=140737488355328) (some (l9.brk (out3++[done])))) else some (l9.brk out3))):Option (l9 (l8 (List r9) ((List r9)×Bool×Int) ((List r9)×Bool)) (List r9))).bind fun x=>x.go some fun j=>c1H i in_2 j)
theorem e7w(list d i)(lc:I5 a1c (b4q d) (c0Z list d)):NL lc (e2J list d i) (fun s=>c2S list d i s.1 s.2):=fun (out3,in_2) h=>PK<|B2 h (e4A list d i in_2 lc) fun x2 h hc2=>rg<|w9 B3 2 h fun done b7R h=>j5 9 h (fun h=>rg<|L7 B3 3 b7R<|tk 5 []<|t6 h fun e2 h=>F7 6 19 166 4 32 B3 out3 done e2<|E5 done<|(o8 h hc2 fun hI=>sk [] [0,3,5,6,7] [(1,0),(19,0)] hI)) (fun h=>(o8 h hc2 fun hI=>sk [] [0,3,5,6,7] [(1,0),(2,0)] hI))
def b1A(list:List r9)(d:r9)(out:List r9)(in_:Bool)(i:Int):Option (l8 (List r9) ((List r9)×Bool×Int) ((List r9)×Bool)) :=
 (bif decide (i<(list.length:Int)) then (((bif (!in_) then ((idx list i).bind fun a32=>(bif decide (a32.a5.d8>=d.a5.d8) then (t5 ((out.length+1)*32<=140737488355328) (some (l9.brk (out++[d],true)))) else some (l9.brk (out,in_)))) else some (l9.brk (out,in_))):Option (l9 (l8 (List r9) ((List r9)×Bool×Int) ((List r9)×Bool)) ((List r9)×Bool))).bind fun x=>x.go some fun j=>c2S list d i j.1 j.2) else some (l8.brk (out,in_)))
theorem d6N(list d):LQ a1c (b4q d) (c0Z list d) (fun s=>b1A list d s.1 s.2.1 s.2.2):=fun lc (out,in_,i) h=>PK<|rg<|j5 3 h (fun h=>B2 h (e7w list d i lc) fun x2 h hc2=>rg<|j5 2 h (fun h=>w9 B3 5 h fun a32 e1W h=>j5 13 h (fun h=>rg<|tk 2 []<|t6 h fun e3 h=>F7 3 24 166 4 32 B3 out d e3<|E5 d<|rg<|(o8 h hc2 fun hI=>sk [] [0,3,5,6,7] [(1,0),(24,0)] hI)) (fun h=>(o8 h hc2 fun hI=>sk [] [0,3,5,6,7] [(1,0),(2,0)] hI))) (fun h=>(o8 h hc2 fun hI=>sk [] [0,3,5,6,7] [(1,0),(2,0)] hI))) (fun h=>(lc.bk h fun hI=>sk [] [3,5,6] [(1,0),(2,0)] hI))
def b5h(list:List r9)(d:r9):Option (List r9) :=
 ((p8 (fun s:(List r9)×Bool×Int=>b1A list d s.1 s.2.1 s.2.2) (([]:List r9),false,0)).bind fun x=>x.go (fun r=>some r) fun s=>c1S d s.1 s.2)
theorem d8R{list d}:OK a1c [l7 4 B3 list,.agg (B3 d)] (b5h list d) :=
 n8 _ fun r h=>n6<|tk 0 []<|n6<|lp (d6N list d) h (fun _ h=>a1c.rt h) (e5i d r) fun hI=>om ((.own 3 0 4 0 0:V)=.own 3 0 4 0 ([]:List r9).length) (by simp)<|sk [.is (.tmp 5) (.own 3 0 4 0 ([]:List r9).length)] [0,3,5,6,7] [(1,0),(3,0)] hI
def a4i:FS (v6×Int):=⟨198,Tryz.f198,[.val [none,some 2,some 4] [none,some 95,none],.val [] []],[none,none],[.val [none,some 2,some 4] [none,some 95,none],.val J9 []],fun r=>.tup [.agg (b0z r.1),vi r.2],fun _=>[none,none],Tryz.func198⟩
def d4D(s_:v6)(e_:m4):Unit->KS:=fun _=>⟨a4i.k 6 [false,false,false],(bs 2 (.ptr 1 0 0::(.ptr 2 0 0::(.ptr 3 0 0::(bs 78 []))))),[some [m5 95 2 z5 s_.i4],some [.var 52 [vi (m8 (s_.At+1)),.own 0 0 2 0 s_.i4.length,l7 4 B3 s_.i9]],some [.var 43 (a4D e_)],some [.var 52 [vi 0,.nil,.nil]]]⟩
def d6f(s_:v6)(e_:m4):Int->KS:=fun a9q=>⟨a4i.k 9 [false,false,false,true],(bs 2 (.ptr 1 0 0::(.ptr 2 0 0::(.ptr 3 0 0::(bs 3 (.ptr 4 0 0::(bs 74 []))))))),[some [m5 95 2 z5 s_.i4],some [.var 52 [vi (m8 (s_.At+1)),.own 0 0 2 0 s_.i4.length,l7 4 B3 s_.i9]],some [.var 43 (a4D e_)],some [.var 52 [vi 0,.nil,.nil]],some [.var 166 [vi e_.a5.d8,vi e_.a5.Seq,vi a9q,vi 0]]]⟩
def d47(s_:v6):(r9×List q9)->KS:=fun (d,i4)=>⟨a4i.k 13 [false,false,false,true,true],(bs 2 (.ptr 1 0 0::(bs 1 (.ptr 3 0 0::(bs 3 (.ptr 4 0 0::(bs 74 []))))))),[some [.dead],some [.var 52 [vi (m8 (s_.At+1)),.own 2 0 2 0 i4.length,l7 4 B3 s_.i9]],some [m5 95 2 z5 i4],some [.var 52 [vi 0,.nil,.nil]],some [.var 166 [vi d.a5.d8,vi d.a5.Seq,vi d.Code,vi d.f0]]]⟩
def c3A(s_:v6)(d:r9)(i4:List q9):Option (v6×Int) :=
 ((b5h s_.i9 d).bind fun d2K=>some ((v6.mk (m8 (s_.At+1)) i4 d2K),d.Code))
theorem e2b(s_)(r):NF a4i r (d47 s_) (fun s=>c3A s_ s.1 s.2):=fun (d,i4) h=>PK<|rg<|j9 a1c d8R 3 h fun d2K h=>rg<|s7 i4<|fE h
def c0w(s_:v6)(e_:m4)(a9q:Int):Option (v6×Int) :=
 (((bif (a9q==2) then (bif (e_.b8.Code==0) then ((b5Q s_.i4 e_.b8).bind fun c9g=>some (l9.brk ((r9.mk e_.a5 0 e_.b8.f0),c9g))) else some (l9.brk ((r9.mk e_.a5 a9q 0),s_.i4))) else some (l9.brk ((r9.mk e_.a5 a9q 0),s_.i4))):Option (l9 (v6×Int) (r9×List q9))).bind fun x=>x.go some fun j=>c3A s_ j.1 j.2)
theorem e4S(s_ e_)(r):NF a4i r (d6f s_ e_) (fun s=>c0w s_ e_ s):=fun a9q h=>PK<|B2 h (e2b s_ r) fun x1 h hc1=>rg<|j5 3 h (fun h=>j5 8 h (fun h=>M5<|j9 a7I e7Q 4 h fun c9g h=>s7 s_.i4<|(o8 h hc1 fun hI=>sk [] [2,4,8] [(1,0),(25,0),(3,0),(4,0)] hI)) (fun h=>(o8 h hc1 fun hI=>sk [] [2,4,8] [(1,0),(0,0),(3,0),(4,0)] hI))) (fun h=>(o8 h hc1 fun hI=>sk [] [2,4,8] [(1,0),(0,0),(3,0),(4,0)] hI))
def b4c(s_:v6)(e_:m4):Option (v6×Int) :=
 ((((b5I s_.i4 e_.b8).bind fun a6g=>(bif a6g then some (l9.brk 2) else some (l9.brk 1))):Option (l9 (v6×Int) Int)).bind fun x=>x.go some fun j=>c0w s_ e_ j)
theorem d75(s_ e_)(r):NF a4i r (d4D s_ e_) (fun s=>b4c s_ e_):=fun _ h=>PK<|rg<|B2 h (e4S s_ e_ r) fun x1 h hc1=>rg<|cbE a3G.t e4H h fun a6g c91 h=>cdT (a3G.t 4 true a6g) h (fun _ h=>ob c91<|osc a3G a6g rfl (P8 2)<|s7 s_.i4<|rg<|(o8 h hc1 fun hI=>sk [] [2,3,4,8] [(1,0),(2,0),(3,0),(7,0)] hI)) (fun _ h=>ob c91<|osc a3G a6g rfl (P8 2)<|s7 s_.i4<|(o8 h hc1 fun hI=>sk [] [2,3,4,8] [(1,0),(2,0),(3,0),(7,0)] hI))
def b3t(s_:v6)(e_:m4):Option (v6×Int) :=
 (bif e_.i8 then some ((v6.mk (m8 (s_.At+1)) s_.i4 s_.i9),5) else ((b7N (v6.mk (m8 (s_.At+1)) s_.i4 s_.i9) e_.a5.d8).bind fun a5D=>(((bif a5D.2 then (bif (([a5D.1.a5.d8,a5D.1.a5.Seq]:List Int)==[e_.a5.d8,e_.a5.Seq]) then some (l9.ret ((v6.mk (m8 (s_.At+1)) s_.i4 s_.i9),3)) else (bif a5D.2 then (bif decide (a5D.1.a5.Seq>e_.a5.Seq) then some (l9.ret ((v6.mk (m8 (s_.At+1)) s_.i4 s_.i9),4)) else some (l9.brk ())) else some (l9.brk ()))) else (bif a5D.2 then (bif decide (a5D.1.a5.Seq>e_.a5.Seq) then some (l9.ret ((v6.mk (m8 (s_.At+1)) s_.i4 s_.i9),4)) else some (l9.brk ())) else some (l9.brk ()))):Option (l9 (v6×Int) Unit)).bind fun x=>x.go some fun j=>b4c s_ e_)))
theorem c5I{s_ e_}:OK a4i [.agg (b0z s_),.agg (t0 e_)] (b3t s_ e_) :=
 n8 _ fun r h=>M5<|j5 1 h (fun h=>rg<|s7 s_.i4<|fE h) (fun h=>rg<|cbS a6C e4F 4 (fun _=>(by simp [a6C,M3,T9,O4,V.simple,vi,u7,eB,B3,eI,Z1])) (fun _=>(P8 2)) h fun a5D h=>s7 s_.i4<|B2 h (d75 s_ e_ r) fun x1 h hc1=>rg<|j5 1 h (fun h=>j5 8 h (fun h=>rg<|(B7 h hc1 fun h=>s7 s_.i4<|fE h)) (fun h=>rg<|j5 1 h (fun h=>j5 10 h (fun h=>rg<|(B7 h hc1 fun h=>s7 s_.i4<|fE h)) (fun h=>(o8 h hc1 fun hI=>sk [] [2,3,4] [(1,0),(2,0),(3,0)] hI))) (fun h=>(o8 h hc1 fun hI=>sk [] [2,3,4] [(1,0),(2,0),(3,0)] hI)))) (fun h=>rg<|j5 1 h (fun h=>j5 10 h (fun h=>rg<|(B7 h hc1 fun h=>s7 s_.i4<|fE h)) (fun h=>(o8 h hc1 fun hI=>sk [] [2,3,4] [(1,0),(2,0),(3,0)] hI))) (fun h=>(o8 h hc1 fun hI=>sk [] [2,3,4] [(1,0),(2,0),(3,0)] hI))))
def c4x:FS (j6):=⟨199,Tryz.f199,[.val A3 F8],[none],[.val A3 F8],fun r=>.agg (F9 r),fun _=>[none],Tryz.func199⟩
def d1m(n:j6):Option j6 :=
 some (j6.mk n.Id n.Acc n.a0 n.Seq n.d6 n.a7 n.c8 n.g9 n.c9 n.a6 false [] (m4.mk false (q8.mk 0 0) (n5.mk [] [] 0 0)) n.d9)
theorem d8q{n}:OK c4x [.agg (F9 n)] (d1m n) :=
 n8 _ fun r h=>rg4<|rg<|z9 n<|fE h
def a4C:FS (j6×List m9):=⟨194,Tryz.f194,[.val A3 F8,.val [some 5] []],[none],[.val A3 F8],fun r=>.tup [.agg (F9 r.1),l7 5 x7 r.2],fun _=>[none],Tryz.func194⟩
def c2q(n:j6):Unit->KS:=fun _=>⟨a4C.k 5 [false,false],(bs 1 (.ptr 1 0 0::(.ptr 2 0 0::(bs 81 [])))),[some (a71 n),some [.var 65 (a7S n)],some [.var 65 [vi 0,vi 0,.nil,.nil,vi 0,vi 0,vi 0,.nil,.nil,.b false,vi 0,vi 0,.nil,.nil,vi 0,vi 0,.nil,.b false,.nil,.b false,vi 0,vi 0,.nil,.nil,vi 0,vi 0,.nil]]]⟩
def c92(n:j6):Option (j6×List m9) :=
 some (n,([]:List m9))
theorem d7Z(n)(r):NF a4C r (c2q n) (fun s=>c92 n):=fun _ h=>PK<|rg<|tk 1 []<|z9 n<|B6 m9<|fE h
def d0d(n:j6):((List q9)×Int×Int×List r9)->KS:=fun (i4,i,sAt,sDones)=>⟨a4C.k 4 [false],(bs 1 (.ptr 1 0 0::(.ptr 2 0 0::(bs 1 (.ptr 3 0 0::(vi i::(bs 78 []))))))),[some (a71 n),some [.var 65 (a7S n)],some [.var 65 [vi 0,vi 0,.nil,.nil,vi 0,vi 0,vi 0,.nil,.nil,.b false,vi 0,vi 0,.nil,.nil,vi 0,vi 0,.nil,.b false,.nil,.b false,vi 0,vi 0,.nil,.nil,vi 0,vi 0,.nil]],some [.var 52 [vi sAt,.own 4 0 2 0 i4.length,l7 4 B3 sDones]],some [m5 95 2 z5 i4]]⟩
def e4Z(n:j6):(List m9)->KS:=fun out=>⟨a4C.k 11 [false,true,false,true],(bs 1 (.ptr 1 0 0::(.ptr 2 0 0::(bs 5 (.own 3 0 5 0 out.length::(bs 75 [])))))),[some (a71 n),some [.var 65 (a7S n)],some [.var 65 [vi 0,vi 0,.nil,.nil,vi 0,vi 0,vi 0,.nil,.nil,.b false,vi 0,vi 0,.nil,.nil,vi 0,vi 0,.nil,.b false,.nil,.b false,vi 0,vi 0,.nil,.nil,vi 0,vi 0,.nil]],some [m5 72 5 x7 out]]⟩
def c1M(n:j6)(out:List m9):Option (l8 (j6×List m9) ((List q9)×Int×Int×List r9) Unit) :=
 ((d1m n).bind fun c3e=>some (l8.ret (c3e,out)))
theorem d8Z(n)(lc:I5 a4C (c2q n) (d0d n)):NL lc (e4Z n) (fun s=>c1M n s):=fun out h=>PK<|rg<|j9 c4x d8q 1 h fun c3e h=>z9 n<|z9 c3e<|s7 out<|fL lc h
def b0k(n:j6)(i4:List q9)(i:Int)(sAt:Int)(sDones:List r9):Option (l8 (j6×List m9) ((List q9)×Int×Int×List r9) Unit) :=
 (bif decide (i<(n.a0.length:Int)) then ((idx n.a0 i).bind fun entry=>((b3t (v6.mk sAt i4 sDones) entry).bind fun T4=>(bif entry.i8 then some (l8.nxt (T4.1.i4,m8 (i+1),T4.1.At,T4.1.i9)) else (bif (!(([entry.a5.d8,entry.a5.Seq]:List Int)==[n.b7.a5.d8,n.b7.a5.Seq])) then some (l8.nxt (T4.1.i4,m8 (i+1),T4.1.At,T4.1.i9)) else (((bif (T4.2==0) then ((idx [(m9.mk n.Id n.b7.a5 T4.2 0)] 0).bind fun told=>some (l9.brk ([(m9.mk n.Id n.b7.a5 T4.2 0)].set (0:Int).toNat (m9.mk told.Node told.a5 told.Code entry.b8.f0)))) else some (l9.brk [(m9.mk n.Id n.b7.a5 T4.2 0)])):Option (l9 (l8 (j6×List m9) ((List q9)×Int×Int×List r9) Unit) (List m9))).bind fun x=>x.go some fun j=>c1M n j))))) else some (l8.brk ()))
theorem d5I(n):LQ a4C (c2q n) (d0d n) (fun s=>b0k n s.1 s.2.1 s.2.2.1 s.2.2.2):=fun lc (i4,i,sAt,sDones) h=>PK<|rg<|j5 4 h (fun h=>rg<|A6 h fun entry H0 h=>B4 H0<|H8 t0 5 H0<|j9 a4i c5I 6 h fun T4 h=>s7 i4<|n6<|B4 H0<|H8 t0 5 H0<|j5 6 h (fun h=>rg<|(lc.nx h fun hI=>sk [] [1,2,4,5] [(1,0),(2,0),(3,0),(16,0)] hI)) (fun h=>B4 H0<|H8 t0 12 H0<|j5 17 h (fun h=>rg<|(lc.nx h fun hI=>sk [] [1,2,4,5] [(1,0),(2,0),(3,0),(16,0)] hI)) (fun h=>rg<|tk 7 []<|B2 h (d8Z n lc) fun x2 h hc2=>rg<|j5 1 h (fun h=>rg<|B4 H0<|H8 t0 7 H0<|A6 h fun told a7l h=>ob (N2 a7l)<|om (0<((1:Nat):Int)) (by simpa using b2O a7l)<|O6 72 5 x7 10 [] (m9.mk told.Node told.a5 told.Code entry.b8.f0) a7l<|(o8 h hc2 fun hI=>om ((.own 50 0 5 0 1:V)=.own 50 0 5 0 ([(m9.mk n.Id n.b7.a5 T4.2 0)].set (0:Int).toNat (m9.mk told.Node told.a5 told.Code entry.b8.f0)).length) (by simp)<|sk [.is (.tmp 8) (.own 50 0 5 0 ([(m9.mk n.Id n.b7.a5 T4.2 0)].set (0:Int).toNat (m9.mk told.Node told.a5 told.Code entry.b8.f0)).length)] [1,2,8] [(1,0),(2,0),(50,0)] hI)) (fun h=>(o8 h hc2 fun hI=>om ((.own 50 0 5 0 1:V)=.own 50 0 5 0 ([(m9.mk n.Id n.b7.a5 T4.2 0)].length)) (by simp)<|sk [.is (.tmp 8) (.own 50 0 5 0 ([(m9.mk n.Id n.b7.a5 T4.2 0)].length))] [1,2,8] [(1,0),(2,0),(50,0)] hI))))) (fun h=>(lc.bk h fun hI=>sk [] [1,2] [(1,0),(2,0)] hI))
def b5B(n:j6):Option (j6×List m9) :=
 (bif (!n.i7) then some (n,([]:List m9)) else ((a70 n n.b7.a5).bind fun a5W=>(bif (!a5W) then some (n,([]:List m9)) else ((b1x).bind fun a0Y=>((p8 (fun s:(List q9)×Int×Int×List r9=>b0k n s.1 s.2.1 s.2.2.1 s.2.2.2) (a0Y.i4,0,a0Y.At,a0Y.i9)).bind fun x=>x.go (fun r=>some r) fun s=>c92 n)))))
theorem d3V{n}:OK a4C [.agg (F9 n)] (b5B n) :=
 n8 _ fun r h=>n6<|j5 3 h (fun h=>rg<|tk 1 []<|z9 n<|B6 m9<|fE h) (fun h=>S0 a12 b6s 8 2 h fun a5W h=>z9 n<|j5 10 h (fun h=>rg<|tk 1 []<|z9 n<|B6 m9<|fE h) (fun h=>rg<|j9 c3E c7g 0 h fun a0Y h=>rg<|lp (d5I n) h (fun _ h=>a4C.rt h) (d7Z n r) fun hI=>sk [] [1,2,4,5] [(1,0),(2,0),(16,0),(15,0)] hI))
def b2I:FS (j6×(List j8)×List m9):=⟨186,Tryz.f186,[.val A3 F8,.val [some 13] [],.val [some 5] []],[none,none],[.val A3 F8,.val J9 []],fun r=>.tup [.agg (F9 r.1),l7 13 s5 r.2.1,l7 5 x7 r.2.2],fun _=>[none,none],Tryz.func186⟩
def d8J(n:j6)(l5Entry:m4):((List Bool)×Int×Int×(List p9)×(List n9)×Int×Int×Int×Bool)->KS:=fun (a6,nCur,nCur1,nCur2,nCur3,nCur4,nCur5,nPhase,nCur6)=>⟨b2I.k 6 [true],(bs 2 (.ptr 1 0 0::(bs 1 (.ptr 3 0 0::(bs 33 []))))),[some [m5 152 8 p6 n.Acc.a6,.dead,m5 4 1 eB n.c8,.dead,m5 43 7 t0 n.d9],some [.var 65 ([vi n.Id,vi n.Acc.g8,.own 0 0 8 0 n.Acc.a6.length,.own 2 0 7 0 (n.a0++[l5Entry]).length,vi n.Seq,vi nPhase,vi n.a7,.own 0 2 1 0 n.c8.length,l7 8 p6 n.g9,.b nCur6,vi nCur,vi nCur1,l7 2 u5 nCur2,l7 2 u6 nCur3,vi nCur4,vi nCur5,.own 4 0 1 0 a6.length]++a3C n++[.own 0 4 7 0 n.d9.length])],some [m5 43 7 t0 (n.a0++[l5Entry])],some [.var 65 [vi 0,vi 0,.nil,.nil,vi 0,vi 0,vi 0,.nil,.nil,.b false,vi 0,vi 0,.nil,.nil,vi 0,vi 0,.nil,.b false,.nil,.b false,vi 0,vi 0,.nil,.nil,vi 0,vi 0,.nil]],some [m5 4 1 eB a6]]⟩
def b4P(n:j6)(l5Entry:m4)(a6:List Bool)(nCur:Int)(nCur1:Int)(nCur2:List p9)(nCur3:List n9)(nCur4:Int)(nCur5:Int)(nPhase:Int)(nCur6:Bool):Option (j6×(List j8)×List m9) :=
 ((b5B (j6.mk n.Id n.Acc (n.a0++[l5Entry]) n.Seq nPhase n.a7 n.c8 n.g9 (m4.mk nCur6 (q8.mk nCur nCur1) (n5.mk nCur2 nCur3 nCur4 nCur5)) a6 n.i7 n.i5 n.b7 n.d9)).bind fun b8b=>((a5U b8b.1).bind fun M6=>some (M6.1,M6.2,b8b.2)))
theorem e5v(n l5Entry)(r):NF b2I r (d8J n l5Entry) (fun s=>b4P n l5Entry s.1 s.2.1 s.2.2.1 s.2.2.2.1 s.2.2.2.2.1 s.2.2.2.2.2.1 s.2.2.2.2.2.2.1 s.2.2.2.2.2.2.2.1 s.2.2.2.2.2.2.2.2):=fun (a6,nCur,nCur1,nCur2,nCur3,nCur4,nCur5,nPhase,nCur6) h=>PK<|rg<|j9 a4C d3V 1 h fun b8b h=>G0 n.Acc.a6 (n.a0++[l5Entry]) n.c8 a6<|s7 n.d9<|rg<|j9 a9j b21 1 h fun M6 h=>z9 b8b.1<|rg<|z9 M6.1<|fE h
def b0E(n:j6)(e_:m4):Option (j6×(List j8)×List m9) :=
 ((V5 e_).bind fun l5Entry=>(t5 ((n.a0.length+1)*88<=140737488355328) ((((bif (n.d6==3) then some (l9.brk ([],0,0,[],[],0,0,2,false)) else some (l9.brk (n.a6,n.c9.a5.d8,n.c9.a5.Seq,n.c9.b8.b5,n.c9.b8.b6,n.c9.b8.f0,n.c9.b8.Code,n.d6,n.c9.i8))):Option (l9 (j6×(List j8)×List m9) ((List Bool)×Int×Int×(List p9)×(List n9)×Int×Int×Int×Bool))).bind fun x=>x.go some fun j=>b4P n l5Entry j.1 j.2.1 j.2.2.1 j.2.2.2.1 j.2.2.2.2.1 j.2.2.2.2.2.1 j.2.2.2.2.2.2.1 j.2.2.2.2.2.2.2.1 j.2.2.2.2.2.2.2.2))))
theorem c3H{n e_}:OK b2I [.agg (F9 n),.agg (t0 e_)] (b0E n e_) :=
 n8 _ fun r h=>n6<|j9 Z2 a0u 3 h fun l5Entry h=>tk 4 J9<|t6 h fun e1 h=>F7 5 11 43 7 88 t0 n.a0 l5Entry e1<|E5 l5Entry<|B2 h (e5v n l5Entry r) fun x1 h hc1=>rg<|j5 2 h (fun h=>M5<|(o8 h hc1 fun hI=>sk [.frz (.cell 1 0 12) (some 2),.frz (.cell 1 0 13) (some 2),.own (.cell 1 0 16) 4 1,.kill 0 3] [2,4] [(1,0),(11,0),(3,0),(24,0)] hI)) (fun h=>(o8 h hc1 fun hI=>sk [] [2,4] [(1,0),(11,0),(3,0),(0,3)] hI))
def c44:FS (j6×(List j8)×List m9):=⟨165,Tryz.f165,[.val A3 F8,.val [some 13] [],.val [some 5] []],[none,none],[.val A3 F8,.val B5 []],fun r=>.tup [.agg (F9 r.1),l7 13 s5 r.2.1,l7 5 x7 r.2.2],fun _=>[none,none],Tryz.func165⟩
def b5u(n:j6)(m:j8):Option (j6×(List j8)×List m9) :=
 (bif (n.d6 != 3) then some (n,([]:List j8),([]:List m9)) else (bif (m.a7 != n.a7) then some (n,([]:List j8),([]:List m9)) else (bif (m.g7 != (n.a0.length:Int)) then some (n,([]:List j8),([]:List m9)) else ((idx n.a6 m.c8).bind fun y=>((b0H (n.a6.set m.c8.toNat true)).bind fun b05=>(bif (!b05) then some ((j6.mk n.Id n.Acc n.a0 n.Seq n.d6 n.a7 n.c8 n.g9 n.c9 (n.a6.set m.c8.toNat true) n.i7 n.i5 n.b7 n.d9),([]:List j8),([]:List m9)) else ((V5 n.c9).bind fun l5Entry=>((a2C n.Id (j8.mk 5 0 0 0 (n.a0.length:Int) l5Entry [])).bind fun I1=>((b0E (j6.mk n.Id n.Acc n.a0 n.Seq n.d6 n.a7 n.c8 n.g9 n.c9 (n.a6.set m.c8.toNat true) n.i7 n.i5 n.b7 n.d9) l5Entry).bind fun a01=>(t5 ((I1.length+a01.2.1.length)*152<=140737488355328) (some (a01.1,I1++a01.2.1,a01.2.2))))))))))))
theorem e4P{n m}:OK c44 [.agg (F9 n),.agg (s5 m)] (b5u n m) :=
 n8 _ fun r h=>n6<|j5 3 h (fun h=>rg<|tk 1 B5<|tk 2 []<|z9 n<|B6 j8<|B6 m9<|fE h) (fun h=>j5 10 h (fun h=>rg<|tk 1 B5<|tk 2 []<|z9 n<|B6 j8<|B6 m9<|fE h) (fun h=>j5 17 h (fun h=>rg<|tk 1 B5<|tk 2 []<|z9 n<|B6 j8<|B6 m9<|fE h) (fun h=>rg<|A6 h fun y hy h=>B4 hy<|O6 4 1 eB 5 [] true hy<|rg<|S0 a5T d11 2 1 h fun b05 h=>om (n.a6.length=(n.a6.set m.c8.toNat true).length) (by simp)<|j5 3 h (fun h=>rg<|tk 1 B5<|tk 2 []<|W0 n.Acc.a6 n.a0 n.c8<|om (n.a6.length=(n.a6.set m.c8.toNat true).length) (by simp)<|s7 n.d9<|B6 j8<|B6 m9<|fE h) (fun h=>rg<|j9 Z2 a0u 2 h fun l5Entry h=>rg<|j9 Y7 a6n 7 h fun I1 h=>rg<|j9 b2I c3H 2 h fun a01 h=>W0 n.Acc.a6 n.a0 n.c8<|om (n.a6.length=(n.a6.set m.c8.toNat true).length) (by simp)<|s7 n.d9<|rg<|t6 h fun e1 h=>apL 3 62 76 13 152 s5 I1 a01.2.1 e1<|z9 a01.1<|s7 (I1++a01.2.1)<|fE h))))
def d3g:FS (j6×(List j8)×List m9):=⟨166,Tryz.f166,[.val A3 F8,.val [some 13] [],.val [some 5] []],[none,none],[.val A3 F8,.val B5 []],fun r=>.tup [.agg (F9 r.1),l7 13 s5 r.2.1,l7 5 x7 r.2.2],fun _=>[none,none],Tryz.func166⟩
def b5s(n:j6)(m:j8):Option (j6×(List j8)×List m9) :=
 (bif decide (m.g7<(n.a0.length:Int)) then some (n,([]:List j8),([]:List m9)) else (bif decide (m.g7>(n.a0.length:Int)) then ((a4u m (j8.mk 8 0 0 0 (n.a0.length:Int) (m4.mk false (q8.mk 0 0) (n5.mk [] [] 0 0)) [])).bind fun a1a=>some (n,a1a,([]:List m9))) else ((b0E n m.i0).bind fun a01=>some (a01.1,a01.2.1,a01.2.2))))
theorem d3Z{n m}:OK d3g [.agg (F9 n),.agg (s5 m)] (b5s n m) :=
 n8 _ fun r h=>n6<|j5 6 h (fun h=>rg<|tk 1 B5<|tk 2 []<|z9 n<|B6 j8<|B6 m9<|fE h) (fun h=>rg<|j5 6 h (fun h=>rg<|j9 a3D a6N 6 h fun a1a h=>tk 7 []<|z9 n<|B6 m9<|fE h) (fun h=>rg<|j9 b2I c3H 3 h fun a01 h=>z9 n<|z9 a01.1<|fE h))
def d0Y:FS (j6×List j8):=⟨168,Tryz.f168,[.val A3 F8,.val [some 13] []],[none,none],[.val A3 F8,.val B5 []],fun r=>.tup [.agg (F9 r.1),l7 13 s5 r.2],fun _=>[none,none],Tryz.func168⟩
def b8r(n:j6)(m:j8):Option (j6×List j8) :=
 (bif (n.d6==0) then some (n,([]:List j8)) else (bif decide ((n.d9.length:Int)>=4) then some (n,([]:List j8)) else ((a70 n m.i0.a5).bind fun a5W=>(bif a5W then some (n,([]:List j8)) else ((V5 m.i0).bind fun l5Entry=>(t5 ((n.d9.length+1)*88<=140737488355328) (((a5U (j6.mk n.Id n.Acc n.a0 n.Seq n.d6 n.a7 n.c8 n.g9 n.c9 n.a6 n.i7 n.i5 n.b7 (n.d9++[l5Entry]))).bind fun M6=>some (M6.1,M6.2)))))))))
theorem e1G{n m}:OK d0Y [.agg (F9 n),.agg (s5 m)] (b8r n m) :=
 n8 _ fun r h=>n6<|j5 3 h (fun h=>rg<|tk 1 B5<|z9 n<|B6 j8<|fE h) (fun h=>j5 9 h (fun h=>rg<|tk 1 B5<|z9 n<|B6 j8<|fE h) (fun h=>S0 a12 b6s 14 2 h fun a5W h=>z9 n<|j5 15 h (fun h=>rg<|tk 1 B5<|z9 n<|B6 j8<|fE h) (fun h=>rg<|j9 Z2 a0u 4 h fun l5Entry h=>tk 5 J9<|t6 h fun e1 h=>F7 6 27 43 7 88 t0 n.d9 l5Entry e1<|E5 l5Entry<|rg<|j9 a9j b21 1 h fun M6 h=>s7 n.Acc.a6<|G0 n.a0 n.c8 n.a6 (n.d9++[l5Entry])<|z9 M6.1<|fE h)))
def a74:FS ((List j8)×j6):=⟨169,Tryz.f169,[.val [some 13] []],[some (0,.val A3 F8),none],[.val A3 F8,.val B5 []],fun r=>l7 13 s5 r.1,fun r=>[some (.agg (d6p r.2)),none],Tryz.func169⟩
def c7Q(n:j6):(List j8)->KS:=fun out1=>⟨a74.k 4 [false],(bs 5 (.own 1 0 13 0 out1.length::(bs 24 []))),[some [m5 152 8 p6 n.Acc.a6,m5 43 7 t0 n.a0,m5 4 1 eB n.c8,m5 4 1 eB n.a6,m5 43 7 t0 n.d9],some [m5 76 13 s5 out1]]⟩
def c8o(n:j6)(out1:List j8):Option ((List j8)×j6) :=
 some (out1,n)
theorem e8F(n)(r):NF a74 r (c7Q n) (fun s=>c8o n s):=fun out1 h=>PK<|rg<|s7 out1<|z9 n<|fE h
def d7G(n:j6)(m:j8):((List j8)×Int)->KS:=fun (out,s_)=>⟨a74.k 3 [],(bs 2 (.ptr 1 0 0::(.ptr 2 0 0::(bs 1 (.own 3 0 13 0 out.length::(vi s_::(bs 23 []))))))),[some (a71 n),some [.var 65 (a7S n)],some [.var 76 (a38 m)],some [m5 76 13 s5 out]]⟩
def a45(n:j6)(m:j8)(out:List j8)(s_:Int):Option (l8 ((List j8)×j6) ((List j8)×Int) (List j8)) :=
 (bif decide (s_<(n.a0.length:Int)) then ((idx n.a0 s_).bind fun entry=>((V5 entry).bind fun l5Entry=>((a4u m (j8.mk 5 0 0 0 s_ l5Entry [])).bind fun a1a=>(t5 ((out.length+a1a.length)*152<=140737488355328) (some (l8.nxt (out++a1a,m8 (s_+1)))))))) else some (l8.brk out))
theorem d4l(n m):LQ a74 (c7Q n) (d7G n m) (fun s=>a45 n m s.1 s.2):=fun lc (out,s_) h=>PK<|rg<|j5 4 h (fun h=>rg<|A6 h fun entry H0 h=>B4 H0<|H8 t0 7 H0<|j9 Z2 a0u 8 h fun l5Entry h=>j9 a3D a6N 10 h fun a1a h=>t6 h fun e1 h=>apL 11 20 76 13 152 s5 out a1a e1<|rg<|(lc.nx h fun hI=>sk [] [2,3,5,6] [(1,0),(2,0),(20,0)] hI)) (fun h=>(lc.bk h fun hI=>sk [] [5] [(3,0)] hI))
def b6p(n:j6)(m:j8):Option ((List j8)×j6) :=
 ((p8 (fun s:(List j8)×Int=>a45 n m s.1 s.2) (([]:List j8),m.g7)).bind fun x=>x.go (fun r=>some r) fun s=>c8o n s)
theorem e4i{n m}:OK a74 [.agg (F9 n),.agg (s5 m)] (b6p n m) :=
 n8 _ fun r h=>n6<|tk 0 B5<|rg<|lp (d4l n m) h (fun _ h=>a74.rt h) (e8F n r) fun hI=>om ((.own 4 0 13 0 0:V)=.own 4 0 13 0 ([]:List j8).length) (by simp)<|sk [.is (.tmp 5) (.own 4 0 13 0 ([]:List j8).length)] [2,3,5,6] [(1,0),(2,0),(4,0)] hI
def b5x:FS (j6×(List j8)×List m9):=⟨116,Tryz.f116,[.val A3 F8,.val [some 13] [],.val [some 5] []],[none,none],[.val A3 F8,.val B5 []],fun r=>.tup [.agg (F9 r.1),l7 13 s5 r.2.1,l7 5 x7 r.2.2],fun _=>[none,none],Tryz.func116⟩
def d6E:((List m7)×(List m4)×(List Bool)×(List Bool)×(List m4)×(List j8)×Int×Int×Int×Int×(List p9)×(List n9)×Int×Int×Bool×(List o9)×Bool×Int×Int×(List p9)×(List n9)×Int×Int×Int×Int×Int×(List m7)×Bool)->KS:=fun (Acc,a0,c8,a6,d9,out,nId,nAcc,nCur,nCur1,nCur2,nCur3,nCur4,nCur5,nBusy,nProg,nWant,nWant1,nWant2,nWant3,nWant4,nWant5,nWant6,nSeq,nPhase,nBal,nBest,nCur6)=>⟨b5x.k 5 [true],(bs 2 (.ptr 1 0 0::(bs 1 (.ptr 7 0 0::(bs 2 (l7 13 s5 out::(bs 77 []))))))),[some [.dead,.dead,.dead,.dead,.dead],some [.var 65 [vi nId,vi nAcc,.own 2 0 8 0 Acc.length,.own 3 0 7 0 a0.length,vi nSeq,vi nPhase,vi nBal,.own 4 0 1 0 c8.length,l7 8 p6 nBest,.b nCur6,vi nCur,vi nCur1,l7 2 u5 nCur2,l7 2 u6 nCur3,vi nCur4,vi nCur5,.own 5 0 1 0 a6.length,.b nBusy,l7 4 z6 nProg,.b nWant,vi nWant1,vi nWant2,l7 2 u5 nWant3,l7 2 u6 nWant4,vi nWant5,vi nWant6,.own 6 0 7 0 d9.length]],some [m5 152 8 p6 Acc],some [m5 43 7 t0 a0],some [m5 4 1 eB c8],some [m5 4 1 eB a6],some [m5 43 7 t0 d9],some [.var 65 [vi 0,vi 0,.nil,.nil,vi 0,vi 0,vi 0,.nil,.nil,.b false,vi 0,vi 0,.nil,.nil,vi 0,vi 0,.nil,.b false,.nil,.b false,vi 0,vi 0,.nil,.nil,vi 0,vi 0,.nil]]]⟩
def c4D(Acc:List m7)(a0:List m4)(c8:List Bool)(a6:List Bool)(d9:List m4)(out:List j8)(nId:Int)(nAcc:Int)(nCur:Int)(nCur1:Int)(nCur2:List p9)(nCur3:List n9)(nCur4:Int)(nCur5:Int)(nBusy:Bool)(nProg:List o9)(nWant:Bool)(nWant1:Int)(nWant2:Int)(nWant3:List p9)(nWant4:List n9)(nWant5:Int)(nWant6:Int)(nSeq:Int)(nPhase:Int)(nBal:Int)(nBest:List m7)(nCur6:Bool):Option (j6×(List j8)×List m9) :=
 some ((j6.mk nId (x6.mk nAcc Acc) a0 nSeq nPhase nBal c8 nBest (m4.mk nCur6 (q8.mk nCur nCur1) (n5.mk nCur2 nCur3 nCur4 nCur5)) a6 nBusy nProg (m4.mk nWant (q8.mk nWant1 nWant2) (n5.mk nWant3 nWant4 nWant5 nWant6)) d9),out,([]:List m9))
theorem e28(r):NF b5x r d6E (fun s=>c4D s.1 s.2.1 s.2.2.1 s.2.2.2.1 s.2.2.2.2.1 s.2.2.2.2.2.1 s.2.2.2.2.2.2.1 s.2.2.2.2.2.2.2.1 s.2.2.2.2.2.2.2.2.1 s.2.2.2.2.2.2.2.2.2.1 s.2.2.2.2.2.2.2.2.2.2.1 s.2.2.2.2.2.2.2.2.2.2.2.1 s.2.2.2.2.2.2.2.2.2.2.2.2.1 s.2.2.2.2.2.2.2.2.2.2.2.2.2.1 s.2.2.2.2.2.2.2.2.2.2.2.2.2.2.1 s.2.2.2.2.2.2.2.2.2.2.2.2.2.2.2.1 s.2.2.2.2.2.2.2.2.2.2.2.2.2.2.2.2.1 s.2.2.2.2.2.2.2.2.2.2.2.2.2.2.2.2.2.1 s.2.2.2.2.2.2.2.2.2.2.2.2.2.2.2.2.2.2.1 s.2.2.2.2.2.2.2.2.2.2.2.2.2.2.2.2.2.2.2.1 s.2.2.2.2.2.2.2.2.2.2.2.2.2.2.2.2.2.2.2.2.1 s.2.2.2.2.2.2.2.2.2.2.2.2.2.2.2.2.2.2.2.2.2.1 s.2.2.2.2.2.2.2.2.2.2.2.2.2.2.2.2.2.2.2.2.2.2.1 s.2.2.2.2.2.2.2.2.2.2.2.2.2.2.2.2.2.2.2.2.2.2.2.1 s.2.2.2.2.2.2.2.2.2.2.2.2.2.2.2.2.2.2.2.2.2.2.2.2.1 s.2.2.2.2.2.2.2.2.2.2.2.2.2.2.2.2.2.2.2.2.2.2.2.2.2.1 s.2.2.2.2.2.2.2.2.2.2.2.2.2.2.2.2.2.2.2.2.2.2.2.2.2.2.1 s.2.2.2.2.2.2.2.2.2.2.2.2.2.2.2.2.2.2.2.2.2.2.2.2.2.2.2):=fun (Acc,a0,c8,a6,d9,out,nId,nAcc,nCur,nCur1,nCur2,nCur3,nCur4,nCur5,nBusy,nProg,nWant,nWant1,nWant2,nWant3,nWant4,nWant5,nWant6,nSeq,nPhase,nBal,nBest,nCur6) h=>PK<|rg<|tk 2 []<|G0 Acc a0 c8 a6<|s7 d9<|B6 m9<|fE h
def b7i(n:j6)(m:j8):Option (j6×(List j8)×List m9) :=
 (((bif (m.a8==1) then ((b6U n m).bind fun K9=>some (l9.brk (K9.1.Acc.a6,K9.1.a0,K9.1.c8,K9.1.a6,K9.1.d9,K9.2,K9.1.Id,K9.1.Acc.g8,K9.1.c9.a5.d8,K9.1.c9.a5.Seq,K9.1.c9.b8.b5,K9.1.c9.b8.b6,K9.1.c9.b8.f0,K9.1.c9.b8.Code,K9.1.i7,K9.1.i5,K9.1.b7.i8,K9.1.b7.a5.d8,K9.1.b7.a5.Seq,K9.1.b7.b8.b5,K9.1.b7.b8.b6,K9.1.b7.b8.f0,K9.1.b7.b8.Code,K9.1.Seq,K9.1.d6,K9.1.a7,K9.1.g9,K9.1.c9.i8))) else (bif (m.a8==2) then ((b34 n m).bind fun K5=>some (l9.brk (K5.1.Acc.a6,K5.1.a0,K5.1.c8,K5.1.a6,K5.1.d9,K5.2,K5.1.Id,K5.1.Acc.g8,K5.1.c9.a5.d8,K5.1.c9.a5.Seq,K5.1.c9.b8.b5,K5.1.c9.b8.b6,K5.1.c9.b8.f0,K5.1.c9.b8.Code,K5.1.i7,K5.1.i5,K5.1.b7.i8,K5.1.b7.a5.d8,K5.1.b7.a5.Seq,K5.1.b7.b8.b5,K5.1.b7.b8.b6,K5.1.b7.b8.f0,K5.1.b7.b8.Code,K5.1.Seq,K5.1.d6,K5.1.a7,K5.1.g9,K5.1.c9.i8))) else (bif (m.a8==3) then ((b7Z n m).bind fun K3=>some (l9.brk (K3.1.Acc.a6,K3.1.a0,K3.1.c8,K3.1.a6,K3.1.d9,K3.2,K3.1.Id,K3.1.Acc.g8,K3.1.c9.a5.d8,K3.1.c9.a5.Seq,K3.1.c9.b8.b5,K3.1.c9.b8.b6,K3.1.c9.b8.f0,K3.1.c9.b8.Code,K3.1.i7,K3.1.i5,K3.1.b7.i8,K3.1.b7.a5.d8,K3.1.b7.a5.Seq,K3.1.b7.b8.b5,K3.1.b7.b8.b6,K3.1.b7.b8.f0,K3.1.b7.b8.Code,K3.1.Seq,K3.1.d6,K3.1.a7,K3.1.g9,K3.1.c9.i8))) else (bif (m.a8==4) then ((b5u n m).bind fun b1j=>some (l9.ret (b1j.1,b1j.2.1,b1j.2.2))) else (bif (m.a8==5) then ((b5s n m).bind fun b2c=>some (l9.ret (b2c.1,b2c.2.1,b2c.2.2))) else (bif (m.a8==6) then ((a6Q n.Acc m.a7).bind fun l6Promise=>((b3h (j6.mk n.Id l6Promise.1 n.a0 n.Seq n.d6 n.a7 n.c8 n.g9 n.c9 n.a6 n.i7 n.i5 n.b7 n.d9) m.a7).bind fun J1=>some (l9.brk (J1.Acc.a6,J1.a0,J1.c8,J1.a6,J1.d9,([]:List j8),J1.Id,J1.Acc.g8,J1.c9.a5.d8,J1.c9.a5.Seq,J1.c9.b8.b5,J1.c9.b8.b6,J1.c9.b8.f0,J1.c9.b8.Code,J1.i7,J1.i5,J1.b7.i8,J1.b7.a5.d8,J1.b7.a5.Seq,J1.b7.b8.b5,J1.b7.b8.b6,J1.b7.b8.f0,J1.b7.b8.Code,J1.Seq,J1.d6,J1.a7,J1.g9,J1.c9.i8)))) else (bif (m.a8==7) then ((b8r n m).bind fun L0=>some (l9.brk (L0.1.Acc.a6,L0.1.a0,L0.1.c8,L0.1.a6,L0.1.d9,L0.2,L0.1.Id,L0.1.Acc.g8,L0.1.c9.a5.d8,L0.1.c9.a5.Seq,L0.1.c9.b8.b5,L0.1.c9.b8.b6,L0.1.c9.b8.f0,L0.1.c9.b8.Code,L0.1.i7,L0.1.i5,L0.1.b7.i8,L0.1.b7.a5.d8,L0.1.b7.a5.Seq,L0.1.b7.b8.b5,L0.1.b7.b8.b6,L0.1.b7.b8.f0,L0.1.b7.b8.Code,L0.1.Seq,L0.1.d6,L0.1.a7,L0.1.g9,L0.1.c9.i8))) else (bif (m.a8==8) then ((b6p n m).bind fun R6=>(t5 (n.Acc.a6.length=R6.2.Acc.a6.length) ((t5 (n.a0.length=R6.2.a0.length) ((t5 (n.c8.length=R6.2.c8.length) ((t5 (n.a6.length=R6.2.a6.length) ((t5 (n.d9.length=R6.2.d9.length) (some (l9.brk (R6.2.Acc.a6,R6.2.a0,R6.2.c8,R6.2.a6,R6.2.d9,R6.1,n.Id,n.Acc.g8,n.c9.a5.d8,n.c9.a5.Seq,n.c9.b8.b5,n.c9.b8.b6,n.c9.b8.f0,n.c9.b8.Code,n.i7,n.i5,n.b7.i8,n.b7.a5.d8,n.b7.a5.Seq,n.b7.b8.b5,n.b7.b8.b6,n.b7.b8.f0,n.b7.b8.Code,n.Seq,n.d6,n.a7,n.g9,n.c9.i8))))))))))))) else some (l9.brk (n.Acc.a6,n.a0,n.c8,n.a6,n.d9,([]:List j8),n.Id,n.Acc.g8,n.c9.a5.d8,n.c9.a5.Seq,n.c9.b8.b5,n.c9.b8.b6,n.c9.b8.f0,n.c9.b8.Code,n.i7,n.i5,n.b7.i8,n.b7.a5.d8,n.b7.a5.Seq,n.b7.b8.b5,n.b7.b8.b6,n.b7.b8.f0,n.b7.b8.Code,n.Seq,n.d6,n.a7,n.g9,n.c9.i8)))))))))):Option (l9 (j6×(List j8)×List m9) ((List m7)×(List m4)×(List Bool)×(List Bool)×(List m4)×(List j8)×Int×Int×Int×Int×(List p9)×(List n9)×Int×Int×Bool×(List o9)×Bool×Int×Int×(List p9)×(List n9)×Int×Int×Int×Int×Int×(List m7)×Bool))).bind fun x=>x.go some fun j=>c4D j.1 j.2.1 j.2.2.1 j.2.2.2.1 j.2.2.2.2.1 j.2.2.2.2.2.1 j.2.2.2.2.2.2.1 j.2.2.2.2.2.2.2.1 j.2.2.2.2.2.2.2.2.1 j.2.2.2.2.2.2.2.2.2.1 j.2.2.2.2.2.2.2.2.2.2.1 j.2.2.2.2.2.2.2.2.2.2.2.1 j.2.2.2.2.2.2.2.2.2.2.2.2.1 j.2.2.2.2.2.2.2.2.2.2.2.2.2.1 j.2.2.2.2.2.2.2.2.2.2.2.2.2.2.1 j.2.2.2.2.2.2.2.2.2.2.2.2.2.2.2.1 j.2.2.2.2.2.2.2.2.2.2.2.2.2.2.2.2.1 j.2.2.2.2.2.2.2.2.2.2.2.2.2.2.2.2.2.1 j.2.2.2.2.2.2.2.2.2.2.2.2.2.2.2.2.2.2.1 j.2.2.2.2.2.2.2.2.2.2.2.2.2.2.2.2.2.2.2.1 j.2.2.2.2.2.2.2.2.2.2.2.2.2.2.2.2.2.2.2.2.1 j.2.2.2.2.2.2.2.2.2.2.2.2.2.2.2.2.2.2.2.2.2.1 j.2.2.2.2.2.2.2.2.2.2.2.2.2.2.2.2.2.2.2.2.2.2.1 j.2.2.2.2.2.2.2.2.2.2.2.2.2.2.2.2.2.2.2.2.2.2.2.1 j.2.2.2.2.2.2.2.2.2.2.2.2.2.2.2.2.2.2.2.2.2.2.2.2.1 j.2.2.2.2.2.2.2.2.2.2.2.2.2.2.2.2.2.2.2.2.2.2.2.2.2.1 j.2.2.2.2.2.2.2.2.2.2.2.2.2.2.2.2.2.2.2.2.2.2.2.2.2.2.1 j.2.2.2.2.2.2.2.2.2.2.2.2.2.2.2.2.2.2.2.2.2.2.2.2.2.2.2)
set_option maxRecDepth 20000 in
theorem e8b{n m}:OK b5x [.agg (F9 n),.agg (s5 m)] (b7i n m) :=
 n8 _ fun r h=>n6<|tk 0 B5<|rg<|B2 h (e28 r) fun x1 h hc1=>rg<|j5 1 h (fun h=>rg<|j9 d1K e0C 2 h fun K9 h=>z9 n<|(o8 h hc1 fun hI=>sk [] [2,4,7] [(1,0),(14,0),(14,1),(14,2),(14,3),(14,4),(3,0)] hI)) (fun h=>rg<|j5 1 h (fun h=>rg<|j9 c4Q e51 2 h fun K5 h=>z9 n<|(o8 h hc1 fun hI=>sk [] [2,4,7] [(1,0),(16,0),(16,1),(16,2),(16,3),(16,4),(3,0)] hI)) (fun h=>rg<|j5 1 h (fun h=>rg<|j9 c7s e8v 2 h fun K3 h=>z9 n<|(o8 h hc1 fun hI=>sk [] [2,4,7] [(1,0),(18,0),(18,1),(18,2),(18,3),(18,4),(3,0)] hI)) (fun h=>rg<|j5 1 h (fun h=>rg<|j9 c44 e4P 2 h fun b1j h=>z9 n<|(B7 h hc1 fun h=>z9 b1j.1<|fE h)) (fun h=>rg<|j5 1 h (fun h=>rg<|j9 d3g d3Z 2 h fun b2c h=>z9 n<|(B7 h hc1 fun h=>z9 b2c.1<|fE h)) (fun h=>rg<|j5 1 h (fun h=>rg<|j9 b0w b7w 4 h fun l6Promise h=>s7 n.Acc.a6<|n6<|j9 b2G c9s 3 h fun J1 h=>s7 l6Promise.1.a6<|I3 n<|(o8 h hc1 fun hI=>B6 j8<|sk [.frz (.tmp 7) (none)] [2,4,7] [(1,0),(39,0),(39,1),(39,2),(39,3),(39,4),(3,0)] hI)) (fun h=>rg<|j5 1 h (fun h=>rg<|j9 d0Y e1G 2 h fun L0 h=>z9 n<|(o8 h hc1 fun hI=>sk [] [2,4,7] [(1,0),(26,0),(26,1),(26,2),(26,3),(26,4),(3,0)] hI)) (fun h=>rg<|j5 1 h (fun h=>rg<|j9 a74 e4i 2 h fun R6 h=>t6 h fun e1 h=>t6 h fun e2 h=>t6 h fun e3 h=>t6 h fun e4 h=>t6 h fun e5 h=>z9 n<|(o8 h hc1 fun hI=>om ((.own 0 0 8 0 n.Acc.a6.length:V)=.own 0 0 8 0 R6.2.Acc.a6.length) (by first|(simp;done)|(simp [e1,e2,e3,e4,e5];done))<|om ((.own 0 1 7 0 n.a0.length:V)=.own 0 1 7 0 R6.2.a0.length) (by first|(simp;done)|(simp [e1,e2,e3,e4,e5];done))<|om ((.own 0 2 1 0 n.c8.length:V)=.own 0 2 1 0 R6.2.c8.length) (by first|(simp;done)|(simp [e1,e2,e3,e4,e5];done))<|om ((.own 0 3 1 0 n.a6.length:V)=.own 0 3 1 0 R6.2.a6.length) (by first|(simp;done)|(simp [e1,e2,e3,e4,e5];done))<|om ((.own 0 4 7 0 n.d9.length:V)=.own 0 4 7 0 R6.2.d9.length) (by first|(simp;done)|(simp [e1,e2,e3,e4,e5];done))<|sk [.is (.cell 1 0 2) (.own 0 0 8 0 R6.2.Acc.a6.length),.is (.cell 1 0 3) (.own 0 1 7 0 R6.2.a0.length),.is (.cell 1 0 7) (.own 0 2 1 0 R6.2.c8.length),.is (.cell 1 0 16) (.own 0 3 1 0 R6.2.a6.length),.is (.cell 1 0 26) (.own 0 4 7 0 R6.2.d9.length)] [2,4,7] [(1,0),(0,0),(0,1),(0,2),(0,3),(0,4),(3,0)] hI)) (fun h=>(o8 h hc1 fun hI=>B6 j8<|sk [.frz (.tmp 7) (none)] [2,4,7] [(1,0),(0,0),(0,1),(0,2),(0,3),(0,4),(3,0)] hI)))))))))
def a1r:FS (m6):=⟨76,Tryz.f76,[.val E4 Q2],[none,none],[.val E4 Q2,.val [some 5] []],fun r=>.agg (R7 r),fun _=>[none,none],Tryz.func76⟩
def d0U(w:m6):(List m9)->KS:=fun Told1=>⟨a1r.k 3 [false],(bs 2 (.ptr 1 0 0::(bs 1 (.ptr 3 0 0::(bs 23 []))))),[some [B8 65 27 x9 w.a9,m5 76 13 s5 w.b9,m5 78 3 A7 w.d7,.dead],some [.var 28 [.own 0 0 27 0 w.a9.length,.own 0 1 13 0 w.b9.length,.own 0 2 3 0 w.d7.length,.own 2 0 5 0 Told1.length]],some [m5 72 5 x7 Told1],some [.var 28 [.nil,.nil,.nil,.nil]]]⟩
def d1i(w:m6)(Told1:List m9):Option m6 :=
 some (m6.mk w.a9 w.b9 w.d7 Told1)
theorem e7Z(w)(r):NF a1r r (d0U w) (fun s=>d1i w s):=fun Told1 h=>PK<|rg<|G0 w.a9 w.b9 w.d7 Told1<|fE h
def d66(w:m6)(list:List m9):((List m9)×Int)->KS:=fun (Told,i)=>⟨a1r.k 2 [],(bs 1 (l7 5 x7 list::(.ptr 1 0 0::(bs 1 (.ptr 2 0 0::(vi i::(bs 22 []))))))),[some [B8 65 27 x9 w.a9,m5 76 13 s5 w.b9,m5 78 3 A7 w.d7,.dead],some [.var 28 [.own 0 0 27 0 w.a9.length,.own 0 1 13 0 w.b9.length,.own 0 2 3 0 w.d7.length,.own 3 0 5 0 Told.length]],some [.var 28 [.nil,.nil,.nil,.nil]],some [m5 72 5 x7 Told]]⟩
def a2o(list:List m9)(Told:List m9)(i:Int):Option (l8 m6 ((List m9)×Int) (List m9)) :=
 (bif decide (i<(list.length:Int)) then (bif decide ((Told.length:Int)<60) then ((idx list i).bind fun told=>(t5 ((Told.length+1)*40<=140737488355328) (some (l8.nxt (Told++[told],m8 (i+1)))))) else some (l8.brk Told)) else some (l8.brk Told))
theorem d7X(w list):LQ a1r (d0U w) (d66 w list) (fun s=>a2o list s.1 s.2):=fun lc (Told,i) h=>PK<|rg<|j5 4 h (fun h=>j5 9 h (fun h=>rg<|w9 x7 4 h fun told a7l h=>tk 6 []<|t6 h fun e1 h=>F7 7 21 72 5 40 x7 Told told e1<|E5 told<|rg<|(lc.nx h fun hI=>sk [] [1,2,4,5] [(1,0),(2,0),(21,0)] hI)) (fun h=>(lc.bk h fun hI=>sk [] [2,4] [(1,0),(3,0),(2,0)] hI))) (fun h=>(lc.bk h fun hI=>sk [] [2,4] [(1,0),(3,0),(2,0)] hI))
def a3z(w:m6)(list:List m9):Option m6 :=
 ((p8 (fun s:(List m9)×Int=>a2o list s.1 s.2) (w.Told,0)).bind fun x=>x.go (fun r=>some r) fun s=>d1i w s)
theorem a7x{w list}:OK a1r [.agg (R7 w),l7 5 x7 list] (a3z w list) :=
 n8 _ fun r h=>n6<|lp (d7X w list) h (fun _ h=>a1r.rt h) (e7Z w r) fun hI=>sk [] [1,2,4,5] [(1,0),(2,0),(0,3)] hI
def b7l:FS (m6):=⟨71,Tryz.f71,[.val E4 Q2],[none,none],[.val E4 Q2,.val [none,none,some 4] []],fun r=>.agg (R7 r),fun _=>[none,none],Tryz.func71⟩
def b3r(node:j6):List V:=([vi node.Id,vi node.Acc.g8,.own 40 0 8 0 node.Acc.a6.length,.own 40 1 7 0 node.a0.length,vi node.Seq,vi node.d6,vi node.a7,.own 40 2 1 0 node.c8.length]++a48 node++[.own 40 3 1 0 node.a6.length]++a3C node++[.own 40 4 7 0 node.d9.length])
def d2y(a1R:j6×(List j8)×List m9):List V:=(a6a a1R.1)
def a8M(w:m6)(e_:p7):Option m6 :=
 (bif decide (e_.A<0) then some w else (bif decide (e_.A>=(w.b9.length:Int)) then some w else ((idx w.b9 e_.A).bind fun msg=>((a7e msg).bind fun E9=>(bif (e_.a8==4) then ((a2X w [E9]).bind fun a2Y=>some a2Y) else (bif (e_.a8==3) then ((b1i w e_.A).bind fun c1r=>some c1r) else ((b1i w e_.A).bind fun Y4=>((idx Y4.a9 E9.To).bind fun node=>((b7i node E9).bind fun a1R=>((a2X (m6.mk (Y4.a9.set E9.To.toNat a1R.1) Y4.b9 Y4.d7 Y4.Told) a1R.2.1).bind fun a2Q=>((a3z a2Q a1R.2.2).bind fun a2P=>some a2P)))))))))))
set_option maxRecDepth 20000 in
theorem c2W{w e_}:OK b7l [.agg (R7 w),.agg (G1 e_)] (a8M w e_) :=
 n8 _ fun r h=>n6<|j5 3 h (fun h=>rg<|A5 w<|fE h) (fun h=>j5 10 h (fun h=>rg<|A5 w<|fE h) (fun h=>rg<|A6 h fun msg hmsg h=>B4 hmsg<|H8 s5 5 hmsg<|j9 b1P b66 6 h fun E9 h=>n6<|j5 1 h (fun h=>rg<|tk 2 B5<|j9 a00 a5s 3 h fun a2Y h=>A5 w<|E5 E9<|A5 a2Y<|fE h) (fun h=>rg<|j5 1 h (fun h=>rg<|j9 b98 d0t 3 h fun c1r h=>A5 w<|A5 c1r<|fE h) (fun h=>rg<|j9 b98 d0t 3 h fun Y4 h=>A5 w<|rg<|A6 h fun node hnode h=>B4 hnode<|ob (b13 (enc:=x9) hnode)<|tl (5,{a:=.drow (x9 node)})<|j9 b5x e8b 7 h fun a1R h=>z9 node<|rg<|B4 hnode<|om (s6.deep false 65 27 Y4.a9.length (((Y4.a9.map x9).set (0+E9.To.toNat) (b3r node)).set (0+E9.To.toNat) (d2y a1R))=B8 65 27 x9 (Y4.a9.set E9.To.toNat a1R.1)) (a7b (U2 (a0q rfl)) (by simp))<|om (G7 (((Y4.a9.map x9).set (0+E9.To.toNat) (b3r node)).set (0+E9.To.toNat) (d2y a1R))) (a7p (U2 (a0q rfl)) a5x)<|om (((Y4.a9.map x9).set (0+E9.To.toNat) (b3r node))[0+E9.To.toNat]?=some (b3r node)) (a06 (a1n hnode))<|z9 a1R.1<|tl (6,{a:=.dsc (b3r node) [none,none,some 8,some 7,none,none,none,some 1,some 8,none,none,none,some 2,some 2,none,none,some 1,none,some 4,none,none,none,some 2,some 2,none,none,some 7] [none,none,some 152,some 43,none,none,none,some 4,none,none,none,none,none,none,none,none,some 4,none,none,none,none,none,none,none,none,none,some 43],e:=some (B8 65 27 x9 (Y4.a9.set E9.To.toNat a1R.1))})<|rg<|j9 a00 a5s 2 h fun a2Q h=>om (Y4.a9.length=(Y4.a9.set E9.To.toNat a1R.1).length) (by simp)<|W0 Y4.b9 Y4.d7 Y4.Told<|j9 a1r a7x 4 h fun a2P h=>A5 a2Q<|A5 a2P<|fE h))))
def d2d:FS (Bool):=⟨158,Tryz.f158,[.val [] []],[none],[.val T5 []],fun r=>.b r,fun _=>[none],Tryz.func158⟩
def b5K(v_:m7):Option Bool :=
 (bif (v_.a7==0) then (bif (!v_.i0.i8) then (bif (([v_.i0.a5.d8,v_.i0.a5.Seq]:List Int)==[0,0]) then ((a9V v_.i0.b8 (n5.mk [] [] 0 0)).bind fun a0U=>some a0U) else some false) else some false) else ((a0K v_.a7).bind fun W7=>(bif W7 then ((a0L v_.i0).bind fun D7=>some D7) else some false)))
theorem d8a{v_}:OK d2d [.agg (p6 v_)] (b5K v_) :=
 n8 _ fun r h=>n6<|j5 2 h (fun h=>rg<|j5 4 h (fun h=>j5 11 h (fun h=>j9 a0I c1J 16 h fun a0U h=>fE h) (fun h=>fE h)) (fun h=>fE h)) (fun h=>rg<|j9 a1x a18 2 h fun W7 h=>j5 3 h (fun h=>j9 a14 a2L 6 h fun D7 h=>fE h) (fun h=>fE h))
def a2y:FS (Bool):=⟨108,Tryz.f108,[.val [] []],[none],[.val [some 8] []],fun r=>.b r,fun _=>[none],Tryz.func108⟩
def c7K:Unit->KS:=fun _=>⟨a2y.k 4 [false,false],(bs 19 []),[some []]⟩
def d06:Option Bool :=
 some true
theorem d3U(r):NF a2y r c7K (fun s=>d06):=fun _ h=>PK<|rg<|fE h
def d5b(list:List m7):Int->KS:=fun i=>⟨a2y.k 3 [false],(l7 8 p6 list::(bs 2 (vi i::(bs 15 [])))),[some []]⟩
def b7G(list:List m7)(i:Int):Option (l8 Bool Int Unit) :=
 (bif decide (i<(list.length:Int)) then ((idx list i).bind fun vote=>((b5K vote).bind fun c5W=>(bif (!c5W) then some (l8.ret false) else some (l8.nxt (m8 (i+1)))))) else some (l8.brk ()))
theorem e0n(list):LQ a2y c7K (d5b list) (fun s=>b7G list s):=fun lc i h=>PK<|rg<|j5 3 h (fun h=>rg<|w9 p6 2 h fun vote M9 h=>j9 d2d d8a 4 h fun c5W h=>j5 5 h (fun h=>rg<|fL lc h) (fun h=>rg<|(lc.nx h fun hI=>sk [] [0,3] [] hI))) (fun h=>(lc.bk h fun hI=>sk [] [] [] hI))
def a5c(list:List m7):Option Bool :=
 (bif decide ((list.length:Int)>40) then some false else ((p8 (fun s:Int=>b7G list s) 0).bind fun x=>x.go (fun r=>some r) fun s=>d06))
theorem b28{list}:OK a2y [l7 8 p6 list] (a5c list) :=
 n8 _ fun r h=>n6<|j5 2 h (fun h=>rg<|fE h) (fun h=>rg<|lp (e0n list) h (fun _ h=>a2y.rt h) (d3U r) fun hI=>sk [] [0,3] [] hI)
def a7Q:FS (Bool):=⟨101,Tryz.f101,[.val [] []],[none],[.val [none,some 8] []],fun r=>.b r,fun _=>[none],Tryz.func101⟩
def c9q:Unit->KS:=fun _=>⟨a7Q.k 4 [false,false],(bs 34 []),[some []]⟩
def c6d:Option Bool :=
 some true
theorem d9d(r):NF a7Q r c9q (fun s=>c6d):=fun _ h=>PK<|rg<|fE h
def e3K(a:x6):Int->KS:=fun i=>⟨a7Q.k 3 [false],(bs 1 (.ptr 1 0 0::(bs 1 (vi i::(bs 30 []))))),[some [],some [.var 62 [vi a.g8,l7 8 p6 a.a6]]]⟩
def b79(a:x6)(i:Int):Option (l8 Bool Int Unit) :=
 (bif decide (i<(a.a6.length:Int)) then ((idx a.a6 i).bind fun vote=>(bif decide (vote.a7>a.g8) then some (l8.ret false) else some (l8.nxt (m8 (i+1))))) else some (l8.brk ()))
theorem e3t(a):LQ a7Q c9q (e3K a) (fun s=>b79 a s):=fun lc i h=>PK<|rg<|j5 4 h (fun h=>rg<|w9 p6 3 h fun vote M9 h=>j5 8 h (fun h=>rg<|fL lc h) (fun h=>rg<|(lc.nx h fun hI=>sk [] [1,3] [(1,0)] hI))) (fun h=>(lc.bk h fun hI=>sk [] [] [] hI))
def b75(a:x6):Option Bool :=
 (bif decide (a.g8<0) then some false else (bif decide (a.g8>3000) then some false else ((a5c a.a6).bind fun a5d=>(bif (!a5d) then some false else ((p8 (fun s:Int=>b79 a s) 0).bind fun x=>x.go (fun r=>some r) fun s=>c6d)))))
theorem e6M{a}:OK a7Q [.agg (Y5 a)] (b75 a) :=
 n8 _ fun r h=>n6<|j5 3 h (fun h=>rg<|fE h) (fun h=>j5 8 h (fun h=>rg<|fE h) (fun h=>j9 a2y b28 11 h fun a5d h=>j5 13 h (fun h=>rg<|fE h) (fun h=>rg<|lp (e3t a) h (fun _ h=>a7Q.rt h) (d9d r) fun hI=>sk [] [1,3] [(1,0)] hI)))
def a7u:FS (Bool):=⟨102,Tryz.f102,[.val [] []],[none],[.val [some 7] []],fun r=>.b r,fun _=>[none],Tryz.func102⟩
def d29:Unit->KS:=fun _=>⟨a7u.k 4 [false,false],(bs 19 []),[some []]⟩
def c7o:Option Bool :=
 some true
theorem e9o(r):NF a7u r d29 (fun s=>c7o):=fun _ h=>PK<|rg<|fE h
def e9p(list:List m4):Int->KS:=fun i=>⟨a7u.k 3 [false],(l7 7 t0 list::(bs 2 (vi i::(bs 15 [])))),[some []]⟩
def b6V(list:List m4)(i:Int):Option (l8 Bool Int Unit) :=
 (bif decide (i<(list.length:Int)) then ((idx list i).bind fun entry=>((a0L entry).bind fun D7=>(bif (!D7) then some (l8.ret false) else some (l8.nxt (m8 (i+1)))))) else some (l8.brk ()))
theorem e6l(list):LQ a7u d29 (e9p list) (fun s=>b6V list s):=fun lc i h=>PK<|rg<|j5 3 h (fun h=>rg<|w9 t0 2 h fun entry H0 h=>j9 a14 a2L 4 h fun D7 h=>j5 5 h (fun h=>rg<|fL lc h) (fun h=>rg<|(lc.nx h fun hI=>sk [] [0,3] [] hI))) (fun h=>(lc.bk h fun hI=>sk [] [] [] hI))
def b3J(list:List m4):Option Bool :=
 (bif decide ((list.length:Int)>40) then some false else ((p8 (fun s:Int=>b6V list s) 0).bind fun x=>x.go (fun r=>some r) fun s=>c7o))
theorem d7F{list}:OK a7u [l7 7 t0 list] (b3J list) :=
 n8 _ fun r h=>n6<|j5 2 h (fun h=>rg<|fE h) (fun h=>rg<|lp (e6l list) h (fun _ h=>a7u.rt h) (e9o r) fun hI=>sk [] [0,3] [] hI)
def a6S:FS (Bool):=⟨106,Tryz.f106,[.val [] []],[none],[.val J9 []],fun r=>.b r,fun _=>[none],Tryz.func106⟩
def a4J(e_:m4):Option Bool :=
 (bif (!e_.i8) then (bif (([e_.a5.d8,e_.a5.Seq]:List Int)==[0,0]) then ((a9V e_.b8 (n5.mk [] [] 0 0)).bind fun a0U=>some a0U) else some false) else some false)
theorem a81{e_}:OK a6S [.agg (t0 e_)] (a4J e_) :=
 n8 _ fun r h=>n6<|j5 3 h (fun h=>j5 9 h (fun h=>j9 a0I c1J 13 h fun a0U h=>fE h) (fun h=>fE h)) (fun h=>fE h)
def b6I:FS (Int):=⟨155,Tryz.f155,[.val [] []],[none],[.val [] []],fun r=>vi r,fun _=>[none],Tryz.func155⟩
def a9W(bal:Int):Option Int :=
 ((a0K bal).bind fun W7=>(bif (!W7) then some (-1) else some (e99 bal 3)))
theorem c26{bal}:OK b6I [vi bal] (a9W bal) :=
 n8 _ fun r h=>n6<|j9 a1x a18 1 h fun W7 h=>j5 2 h (fun h=>rg<|fE h) (fun h=>rg<|om (3≠(0:Int)) (by decide)<|fE h)
def d2M:FS (Bool):=⟨103,Tryz.f103,[.val [] []],[none],[.val A3 []],fun r=>.b r,fun _=>[none],Tryz.func103⟩
def b59(n:j6):Option Bool :=
 (bif (n.d6==0) then (bif (n.a7==0) then (bif ((n.c8.length:Int)==0) then (bif ((n.g9.length:Int)==0) then ((a4J n.c9).bind fun l7None=>(bif l7None then some ((n.a6.length:Int)==0) else some false)) else some false) else some false) else some false) else (bif (n.d6==1) then ((a0K n.a7).bind fun W7=>(bif W7 then (bif decide (n.a7<=n.Acc.g8) then ((a9W n.a7).bind fun a5f=>(bif (a5f==n.Id) then (bif ((n.c8.length:Int)==3) then ((idx n.c8 n.Id).bind fun y=>(bif y then ((a5c n.g9).bind fun a5d=>(bif a5d then ((a4J n.c9).bind fun c4V=>(bif c4V then some ((n.a6.length:Int)==0) else some false)) else some false)) else some false)) else some false) else some false)) else some false) else some false)) else (bif (n.d6==2) then ((a0K n.a7).bind fun b1K=>(bif (!b1K) then some false else (bif decide (n.a7>n.Acc.g8) then some false else ((a9W n.a7).bind fun d2q=>(bif (d2q != n.Id) then some false else (bif ((n.c8.length:Int) != 0) then some false else ((a5c n.g9).bind fun c61=>(bif (!c61) then some false else (bif (n.d6==2) then ((a4J n.c9).bind fun c8y=>(bif c8y then some ((n.a6.length:Int)==0) else some false)) else ((a0L n.c9).bind fun D7=>(bif D7 then (bif ((n.a6.length:Int)==3) then ((idx n.a6 n.Id).bind fun y1=>(bif y1 then some (decide ((n.a0.length:Int)<40)) else some false)) else some false) else some false))))))))))) else (bif (n.d6==3) then ((a0K n.a7).bind fun b1c=>(bif (!b1c) then some false else (bif decide (n.a7>n.Acc.g8) then some false else ((a9W n.a7).bind fun d18=>(bif (d18 != n.Id) then some false else (bif ((n.c8.length:Int) != 0) then some false else ((a5c n.g9).bind fun d1S=>(bif (!d1S) then some false else (bif (n.d6==2) then ((a4J n.c9).bind fun d1I=>(bif d1I then some ((n.a6.length:Int)==0) else some false)) else ((a0L n.c9).bind fun a2u=>(bif a2u then (bif ((n.a6.length:Int)==3) then ((idx n.a6 n.Id).bind fun y2=>(bif y2 then some (decide ((n.a0.length:Int)<40)) else some false)) else some false) else some false))))))))))) else some false))))
set_option maxRecDepth 20000 in
theorem d6Q{n}:OK d2M [.agg (A2 n)] (b59 n) :=
 n8 _ fun r h=>M5<|j5 1 h (fun h=>rg<|j5 3 h (fun h=>j5 9 h (fun h=>j5 15 h (fun h=>j9 a6S a81 18 h fun l7None h=>j5 20 h (fun h=>fE h) (fun h=>fE h)) (fun h=>fE h)) (fun h=>fE h)) (fun h=>fE h)) (fun h=>rg<|j5 1 h (fun h=>rg<|j9 a1x a18 2 h fun W7 h=>j5 3 h (fun h=>j5 11 h (fun h=>j9 b6I c26 14 h fun a5f h=>j5 19 h (fun h=>j5 25 h (fun h=>w9 eB 30 h fun y hy h=>j5 33 h (fun h=>j9 a2y b28 36 h fun a5d h=>j5 38 h (fun h=>j9 a6S a81 41 h fun c4V h=>j5 43 h (fun h=>fE h) (fun h=>fE h)) (fun h=>fE h)) (fun h=>fE h)) (fun h=>fE h)) (fun h=>fE h)) (fun h=>fE h)) (fun h=>fE h)) (fun h=>rg<|j5 1 h (fun h=>rg<|j9 a1x a18 2 h fun b1K h=>j5 4 h (fun h=>rg<|fE h) (fun h=>j5 12 h (fun h=>rg<|fE h) (fun h=>j9 b6I c26 15 h fun d2q h=>j5 20 h (fun h=>rg<|fE h) (fun h=>j5 26 h (fun h=>rg<|fE h) (fun h=>j9 a2y b28 29 h fun c61 h=>j5 31 h (fun h=>rg<|fE h) (fun h=>rg<|j5 2 h (fun h=>rg<|j9 a6S a81 2 h fun c8y h=>j5 3 h (fun h=>fE h) (fun h=>fE h)) (fun h=>rg<|j9 a14 a2L 2 h fun D7 h=>j5 3 h (fun h=>j5 9 h (fun h=>w9 eB 14 h fun y1 hy1 h=>j5 17 h (fun h=>fE h) (fun h=>fE h)) (fun h=>fE h)) (fun h=>fE h)))))))) (fun h=>rg<|j5 1 h (fun h=>rg<|j9 a1x a18 2 h fun b1c h=>j5 4 h (fun h=>rg<|fE h) (fun h=>j5 12 h (fun h=>rg<|fE h) (fun h=>j9 b6I c26 15 h fun d18 h=>j5 20 h (fun h=>rg<|fE h) (fun h=>j5 26 h (fun h=>rg<|fE h) (fun h=>j9 a2y b28 29 h fun d1S h=>j5 31 h (fun h=>rg<|fE h) (fun h=>rg<|j5 2 h (fun h=>rg<|j9 a6S a81 2 h fun d1I h=>j5 3 h (fun h=>fE h) (fun h=>fE h)) (fun h=>rg<|j9 a14 a2L 2 h fun a2u h=>j5 3 h (fun h=>j5 9 h (fun h=>w9 eB 14 h fun y2 hy2 h=>j5 17 h (fun h=>fE h) (fun h=>fE h)) (fun h=>fE h)) (fun h=>fE h)))))))) (fun h=>rg<|fE h))))
def a3j:FS (Bool):=⟨159,Tryz.f159,[.val [] []],[none],[.val [] []],fun r=>.b r,fun _=>[none],Tryz.func159⟩
def a1L(n:Int):Option Bool :=
 (bif decide (n>=0) then some (decide (n<4)) else some false)
theorem a39{n}:OK a3j [vi n] (a1L n) :=
 n8 _ fun r h=>n6<|j5 2 h (fun h=>fE h) (fun h=>fE h)
def c4L:FS (Bool):=⟨109,Tryz.f109,[.val [] []],[none],[.val [] []],fun r=>.b r,fun _=>[none],Tryz.func109⟩
def b6r(i:o9):Option Bool :=
 (bif (i.a8==1) then ((a1L i.A).bind fun d1e=>(bif d1e then ((a66 i.B).bind fun b3d=>(bif b3d then some (i.N==0) else some false)) else some false)) else (bif (i.a8==2) then ((a66 i.A).bind fun b1Q=>(bif b1Q then ((a1L i.B).bind fun d1y=>(bif d1y then some (i.N==0) else some false)) else some false)) else (bif (i.a8==3) then ((a1L i.A).bind fun c77=>(bif c77 then (bif (i.B==0) then ((a5Z i.N).bind fun a0P=>some a0P) else some false) else some false)) else (bif (i.a8==4) then ((a1L i.A).bind fun d2I=>(bif d2I then ((a1L i.B).bind fun d0l=>(bif d0l then some (i.N==0) else some false)) else some false)) else (bif (i.a8==5) then ((a1L i.A).bind fun d1D=>(bif d1D then ((a1L i.B).bind fun c76=>(bif c76 then some (i.N==0) else some false)) else some false)) else (bif (i.a8==6) then ((a1L i.A).bind fun c3M=>(bif c3M then ((a1L i.B).bind fun d2L=>(bif d2L then (bif decide (i.N>=1) then some (decide (i.N<=10)) else some false) else some false)) else some false)) else (bif (i.a8==7) then (bif (i.A==0) then (bif (i.B==0) then some (i.N==0) else some false) else some false) else some false)))))))
theorem d7K{i}:OK c4L [.agg (z6 i)] (b6r i) :=
 n8 _ fun r h=>M5<|j5 1 h (fun h=>rg<|j9 a3j a39 2 h fun d1e h=>j5 3 h (fun h=>j9 b2w b3L 6 h fun b3d h=>j5 8 h (fun h=>fE h) (fun h=>fE h)) (fun h=>fE h)) (fun h=>rg<|j5 1 h (fun h=>rg<|j9 b2w b3L 2 h fun b1Q h=>j5 3 h (fun h=>j9 a3j a39 6 h fun d1y h=>j5 8 h (fun h=>fE h) (fun h=>fE h)) (fun h=>fE h)) (fun h=>rg<|j5 1 h (fun h=>rg<|j9 a3j a39 2 h fun c77 h=>j5 3 h (fun h=>j5 8 h (fun h=>j9 a7t a8N 11 h fun a0P h=>fE h) (fun h=>fE h)) (fun h=>fE h)) (fun h=>rg<|j5 1 h (fun h=>rg<|j9 a3j a39 2 h fun d2I h=>j5 3 h (fun h=>j9 a3j a39 6 h fun d0l h=>j5 8 h (fun h=>fE h) (fun h=>fE h)) (fun h=>fE h)) (fun h=>rg<|j5 1 h (fun h=>rg<|j9 a3j a39 2 h fun d1D h=>j5 3 h (fun h=>j9 a3j a39 6 h fun c76 h=>j5 8 h (fun h=>fE h) (fun h=>fE h)) (fun h=>fE h)) (fun h=>rg<|j5 1 h (fun h=>rg<|j9 a3j a39 2 h fun c3M h=>j5 3 h (fun h=>j9 a3j a39 6 h fun d2L h=>j5 8 h (fun h=>j5 13 h (fun h=>fE h) (fun h=>fE h)) (fun h=>fE h)) (fun h=>fE h)) (fun h=>rg<|j5 1 h (fun h=>rg<|j5 3 h (fun h=>j5 8 h (fun h=>fE h) (fun h=>fE h)) (fun h=>fE h)) (fun h=>rg<|fE h)))))))
def a4Z:FS (Bool):=⟨67,Tryz.f67,[.val [] []],[none],[.val [some 4] []],fun r=>.b r,fun _=>[none],Tryz.func67⟩
def d15:Unit->KS:=fun _=>⟨a4Z.k 4 [false,false],(bs 19 []),[some []]⟩
def c9l:Option Bool :=
 some true
theorem d4T(r):NF a4Z r d15 (fun s=>c9l):=fun _ h=>PK<|rg<|fE h
def e1I(list:List o9):Int->KS:=fun i=>⟨a4Z.k 3 [false],(l7 4 z6 list::(bs 2 (vi i::(bs 15 [])))),[some []]⟩
def b6F(list:List o9)(i:Int):Option (l8 Bool Int Unit) :=
 (bif decide (i<(list.length:Int)) then ((idx list i).bind fun ins=>((b6r ins).bind fun c4n=>(bif (!c4n) then some (l8.ret false) else some (l8.nxt (m8 (i+1)))))) else some (l8.brk ()))
theorem d4u(list):LQ a4Z d15 (e1I list) (fun s=>b6F list s):=fun lc i h=>PK<|rg<|j5 3 h (fun h=>rg<|w9 z6 2 h fun ins hins h=>j9 c4L d7K 4 h fun c4n h=>j5 5 h (fun h=>rg<|fL lc h) (fun h=>rg<|(lc.nx h fun hI=>sk [] [0,3] [] hI))) (fun h=>(lc.bk h fun hI=>sk [] [] [] hI))
def b0b(list:List o9):Option Bool :=
 (bif decide ((list.length:Int)>10) then some false else ((p8 (fun s:Int=>b6F list s) 0).bind fun x=>x.go (fun r=>some r) fun s=>c9l))
theorem c1s{list}:OK a4Z [l7 4 z6 list] (b0b list) :=
 n8 _ fun r h=>n6<|j5 2 h (fun h=>rg<|fE h) (fun h=>rg<|lp (d4u list) h (fun _ h=>a4Z.rt h) (d4T r) fun hI=>sk [] [0,3] [] hI)
def c30:FS (Bool):=⟨104,Tryz.f104,[.val [] []],[none],[.val A3 []],fun r=>.b r,fun _=>[none],Tryz.func104⟩
def b77(n:j6):Option Bool :=
 (bif (!n.i7) then (bif ((n.i5.length:Int)==0) then ((a4J n.b7).bind fun l7None=>some l7None) else some false) else ((b0b n.i5).bind fun D5=>(bif D5 then ((a0L n.b7).bind fun D7=>(bif D7 then (bif (!n.b7.i8) then some (([n.b7.a5.d8,n.b7.a5.Seq]:List Int)==[n.Id,n.Seq]) else some false) else some false)) else some false)))
theorem d6T{n}:OK c30 [.agg (A2 n)] (b77 n) :=
 n8 _ fun r h=>n6<|j5 2 h (fun h=>rg<|j5 4 h (fun h=>j9 a6S a81 7 h fun l7None h=>fE h) (fun h=>fE h)) (fun h=>rg<|j9 a4Z c1s 2 h fun D5 h=>j5 3 h (fun h=>j9 a14 a2L 6 h fun D7 h=>j5 8 h (fun h=>j5 14 h (fun h=>fE h) (fun h=>fE h)) (fun h=>fE h)) (fun h=>fE h))
def a1K:FS (Bool):=⟨64,Tryz.f64,[.val [] []],[none],[.val A3 []],fun r=>.b r,fun _=>[none],Tryz.func64⟩
def c7w:Unit->KS:=fun _=>⟨a1K.k 4 [false,false],(bs 72 []),[some []]⟩
def c3d:Option Bool :=
 some true
theorem d7O(r):NF a1K r c7w (fun s=>c3d):=fun _ h=>PK<|rg<|fE h
def e03(n:j6):Int->KS:=fun i=>⟨a1K.k 3 [false],(bs 1 (.ptr 1 0 0::(bs 1 (vi i::(bs 68 []))))),[some [],some [.var 65 (a7P n)]]⟩
def b4X(n:j6)(i:Int):Option (l8 Bool Int Unit) :=
 (bif decide (i<(n.d9.length:Int)) then ((idx n.d9 i).bind fun entry=>((a0L entry).bind fun D7=>(bif (!D7) then some (l8.ret false) else (bif entry.i8 then some (l8.ret false) else some (l8.nxt (m8 (i+1))))))) else some (l8.brk ()))
theorem d4e(n):LQ a1K c7w (e03 n) (fun s=>b4X n s):=fun lc i h=>PK<|rg<|j5 4 h (fun h=>rg<|w9 t0 3 h fun entry H0 h=>j9 a14 a2L 5 h fun D7 h=>j5 7 h (fun h=>rg<|fL lc h) (fun h=>L7 t0 11 H0<|j5 14 h (fun h=>rg<|fL lc h) (fun h=>rg<|(lc.nx h fun hI=>sk [] [1,3] [(1,0)] hI)))) (fun h=>(lc.bk h fun hI=>sk [] [] [] hI))
def a4s(n:j6):Option Bool :=
 (bif decide (n.Id<0) then some false else (bif decide (n.Id>=3) then some false else ((b75 n.Acc).bind fun O0=>(bif (!O0) then some false else ((b3J n.a0).bind fun c4t=>(bif (!c4t) then some false else (bif decide (n.Seq<0) then some false else (bif decide (n.Seq>1000) then some false else (bif decide ((n.d9.length:Int)>4) then some false else ((b59 n).bind fun c6D=>(bif (!c6D) then some false else ((b77 n).bind fun c8q=>(bif (!c8q) then some false else ((p8 (fun s:Int=>b4X n s) 0).bind fun x=>x.go (fun r=>some r) fun s=>c3d))))))))))))))
theorem a9U{n}:OK a1K [.agg (A2 n)] (a4s n) :=
 n8 _ fun r h=>n6<|j5 3 h (fun h=>rg<|fE h) (fun h=>j5 8 h (fun h=>rg<|fE h) (fun h=>j9 a7Q e6M 11 h fun O0 h=>j5 14 h (fun h=>rg<|fE h) (fun h=>j9 a7u d7F 17 h fun c4t h=>j5 20 h (fun h=>rg<|fE h) (fun h=>j5 25 h (fun h=>rg<|fE h) (fun h=>j5 30 h (fun h=>rg<|fE h) (fun h=>j5 36 h (fun h=>rg<|fE h) (fun h=>j9 d2M d6Q 38 h fun c6D h=>j5 41 h (fun h=>rg<|fE h) (fun h=>j9 c30 d6T 43 h fun c8q h=>j5 45 h (fun h=>rg<|fE h) (fun h=>rg<|lp (d4e n) h (fun _ h=>a1K.rt h) (d7O r) fun hI=>sk [] [1,3] [(1,0)] hI)))))))))
def d0T:FS (x6):=⟨111,Tryz.f111,[.val [none,some 8] [none,some 152]],[none],[.val [none,some 8] []],fun r=>.agg [vi r.g8,u7 152 8 p6 r.a6],fun _=>[none],Tryz.func111⟩
def b9W(a:x6):Option x6 :=
 ((a7i a.a6).bind fun W1=>some (x6.mk a.g8 W1))
theorem e1w{a}:OK d0T [.agg (Y5 a)] (b9W a) :=
 n8 _ fun r h=>n6<|j9 a3U b39 4 h fun W1 h=>s7 W1<|fE h
def a56:FS (List m4):=⟨112,Tryz.f112,[.val [some 7] [some 43]],[none],[.val [some 7] []],fun r=>u7 43 7 t0 r,fun _=>[none],Tryz.func112⟩
def d3w:(List m4)->KS:=fun out1=>⟨a56.k 4 [false],(bs 3 (.own 1 0 7 0 out1.length::(bs 17 []))),[some [],some [m5 43 7 t0 out1]]⟩
def c93(out1:List m4):Option (List m4) :=
 some out1
theorem d9P(r):NF a56 r d3w (fun s=>c93 s):=fun out1 h=>PK<|rg<|s7 out1<|fE h
def d5o(list:List m4):((List m4)×Int)->KS:=fun (out,i)=>⟨a56.k 3 [],(l7 7 t0 list::(bs 2 (.own 1 0 7 0 out.length::(vi i::(bs 16 []))))),[some [],some [m5 43 7 t0 out]]⟩
def b0V(list:List m4)(out:List m4)(i:Int):Option (l8 (List m4) ((List m4)×Int) (List m4)) :=
 (bif decide (i<(list.length:Int)) then ((idx list i).bind fun entry=>((V5 entry).bind fun l5Entry=>(t5 ((out.length+1)*88<=140737488355328) (some (l8.nxt (out++[l5Entry],m8 (i+1))))))) else some (l8.brk out))
theorem d49(list):LQ a56 d3w (d5o list) (fun s=>b0V list s.1 s.2):=fun lc (out,i) h=>PK<|rg<|j5 3 h (fun h=>rg<|w9 t0 3 h fun entry H0 h=>j9 Z2 a0u 5 h fun l5Entry h=>tk 6 J9<|t6 h fun e1 h=>F7 7 13 43 7 88 t0 out l5Entry e1<|E5 l5Entry<|rg<|(lc.nx h fun hI=>sk [] [0,3,4] [(13,0)] hI)) (fun h=>(lc.bk h fun hI=>sk [] [3] [(1,0)] hI))
def b2Q(list:List m4):Option (List m4) :=
 ((p8 (fun s:(List m4)×Int=>b0V list s.1 s.2) (([]:List m4),0)).bind fun x=>x.go (fun r=>some r) fun s=>c93 s)
theorem d2h{list}:OK a56 [l7 7 t0 list] (b2Q list) :=
 n8 _ fun r h=>n6<|tk 0 J9<|rg<|lp (d49 list) h (fun _ h=>a56.rt h) (d9P r) fun hI=>om ((.own 2 0 7 0 0:V)=.own 2 0 7 0 ([]:List m4).length) (by simp)<|sk [.is (.tmp 3) (.own 2 0 7 0 ([]:List m4).length)] [0,3,4] [(2,0)] hI
def b0a:FS (j6):=⟨69,Tryz.f69,[.val A3 F8],[none],[.val A3 []],fun r=>.agg (F9 r),fun _=>[none],Tryz.func69⟩
def a6h(n:j6):Option j6 :=
 ((b9W n.Acc).bind fun b9e=>((b2Q n.a0).bind fun c2y=>(t5 ((([]:List Bool).length+n.c8.length)*1<=140737488355328) (((a7i n.g9).bind fun W1=>((V5 n.c9).bind fun l5Entry=>(t5 ((([]:List Bool).length+n.a6.length)*1<=140737488355328) ((t5 ((([]:List o9).length+n.i5.length)*32<=140737488355328) (((V5 n.b7).bind fun b1I=>((b2Q n.d9).bind fun b8Z=>some (j6.mk n.Id b9e c2y n.Seq n.d6 n.a7 (([]:List Bool)++n.c8) W1 l5Entry (([]:List Bool)++n.a6) n.i7 (([]:List o9)++n.i5) b1I b8Z)))))))))))))
set_option maxRecDepth 20000 in
theorem b2P{n}:OK b0a [.agg (A2 n)] (a6h n) :=
 n8 _ fun r h=>M5<|j9 d0T e1w 2 h fun b9e h=>rg<|j9 a56 d2h 2 h fun c2y h=>rg<|tk 0 []<|t6 h fun e1 h=>oa 19 0 1 ([]:List Bool) n.c8<|oz 4 1 eB ([]:List Bool) n.c8<|B6 Bool<|ob e1<|tl (3,{v:=some (.own 19 0 1 0 (([]:List Bool)++n.c8).length),e:=some (m5 4 1 eB (([]:List Bool)++n.c8))})<|rg<|j9 a3U b39 2 h fun W1 h=>rg<|j9 Z2 a0u 2 h fun l5Entry h=>rg<|tk 0 []<|t6 h fun e2 h=>oa 35 0 1 ([]:List Bool) n.a6<|oz 4 1 eB ([]:List Bool) n.a6<|B6 Bool<|ob e2<|tl (3,{v:=some (.own 35 0 1 0 (([]:List Bool)++n.a6).length),e:=some (m5 4 1 eB (([]:List Bool)++n.a6))})<|rg<|tk 0 []<|t6 h fun e3 h=>oa 41 0 4 ([]:List o9) n.i5<|oz 83 4 z6 ([]:List o9) n.i5<|B6 o9<|ob e3<|tl (3,{v:=some (.own 41 0 4 0 (([]:List o9)++n.i5).length),e:=some (m5 83 4 z6 (([]:List o9)++n.i5))})<|rg<|j9 Z2 a0u 2 h fun b1I h=>rg<|j9 a56 d2h 2 h fun b8Z h=>rg<|G0 b9e.a6 c2y (([]:List Bool)++n.c8) W1<|W0 (([]:List Bool)++n.a6) (([]:List o9)++n.i5) b8Z<|fE h
def a7Y:FS (v6):=⟨190,Tryz.f190,[.val [none,some 2,some 4] [none,some 95,none]],[none],[.val [some 7] []],fun r=>.agg (b0z r),fun _=>[none],Tryz.func190⟩
def c8L:((List q9)×Int×List r9)->KS:=fun (Boxes1,sAt1,sDones1)=>⟨a7Y.k 5 [false,false],(bs 2 (.ptr 1 0 0::(.ptr 2 0 0::(bs 32 [])))),[some [],some [.var 52 [vi 0,.nil,.nil]],some [.var 52 [vi sAt1,.own 3 0 2 0 Boxes1.length,l7 4 B3 sDones1]],some [m5 95 2 z5 Boxes1]]⟩
def c6q(Boxes1:List q9)(sAt1:Int)(sDones1:List r9):Option v6 :=
 some (v6.mk sAt1 Boxes1 sDones1)
theorem e0u(r):NF a7Y r c8L (fun s=>c6q s.1 s.2.1 s.2.2):=fun (Boxes1,sAt1,sDones1) h=>PK<|rg<|s7 Boxes1<|fE h
def e4G(list:List m4):((List q9)×Int×Int×List r9)->KS:=fun (i4,i,sAt,sDones)=>⟨a7Y.k 4 [false],(l7 7 t0 list::(bs 1 (.ptr 1 0 0::(.ptr 2 0 0::(vi i::(bs 31 [])))))),[some [],some [.var 52 [vi 0,.nil,.nil]],some [.var 52 [vi sAt,.own 3 0 2 0 i4.length,l7 4 B3 sDones]],some [m5 95 2 z5 i4]]⟩
def a9t(list:List m4)(i4:List q9)(i:Int)(sAt:Int)(sDones:List r9):Option (l8 v6 ((List q9)×Int×Int×List r9) ((List q9)×Int×List r9)) :=
 (bif decide (i<(list.length:Int)) then ((idx list i).bind fun entry=>((a0L entry).bind fun D7=>(bif (!D7) then some (l8.ret (v6.mk 0 [] [])) else ((b3t (v6.mk sAt i4 sDones) entry).bind fun T4=>some (l8.nxt (T4.1.i4,m8 (i+1),T4.1.At,T4.1.i9)))))) else some (l8.brk (i4,sAt,sDones)))
theorem d7S(list):LQ a7Y c8L (e4G list) (fun s=>a9t list s.1 s.2.1 s.2.2.1 s.2.2.2):=fun lc (i4,i,sAt,sDones) h=>PK<|rg<|j5 3 h (fun h=>rg<|w9 t0 2 h fun entry H0 h=>j9 a14 a2L 4 h fun D7 h=>j5 5 h (fun h=>rg<|fL lc h) (fun h=>rg<|L7 t0 3 H0<|j9 a4i c5I 5 h fun T4 h=>s7 i4<|n6<|(lc.nx h fun hI=>sk [] [0,2,3,4] [(1,0),(2,0),(19,0)] hI))) (fun h=>(lc.bk h fun hI=>sk [] [2,3] [(1,0),(2,0),(3,0)] hI))
def b7u(list:List m4):Option v6 :=
 ((b1x).bind fun a0Y=>(bif decide ((list.length:Int)>40) then some (v6.mk 0 [] []) else ((p8 (fun s:(List q9)×Int×Int×List r9=>a9t list s.1 s.2.1 s.2.2.1 s.2.2.2) (a0Y.i4,0,a0Y.At,a0Y.i9)).bind fun x=>x.go (fun r=>some r) fun s=>c6q s.1 s.2.1 s.2.2)))
theorem e5h{list}:OK a7Y [l7 7 t0 list] (b7u list) :=
 n8 _ fun r h=>n6<|j9 c3E c7g 0 h fun a0Y h=>rg<|j5 2 h (fun h=>rg<|fE h) (fun h=>rg<|lp (d7S list) h (fun _ h=>a7Y.rt h) (e0u r) fun hI=>sk [] [0,2,3,4] [(1,0),(3,0),(2,0)] hI)
def d0e:FS (v6):=⟨171,Tryz.f171,[.val [none,some 2,some 4] []],[none],[.val A3 []],fun r=>.agg (a7O r),fun _=>[none],Tryz.func171⟩
def b6v(n:j6):Option v6 :=
 ((a4s n).bind fun C7=>(bif (!C7) then some (v6.mk 0 [] []) else ((b7u n.a0).bind fun a2W=>some a2W)))
theorem d5L{n}:OK d0e [.agg (A2 n)] (b6v n) :=
 n8 _ fun r h=>n6<|j9 a1K a9U 1 h fun C7 h=>j5 2 h (fun h=>rg<|fE h) (fun h=>rg<|j9 a7Y e5h 2 h fun a2W h=>s7 a2W.i4<|fE h)
def b5t:FS (Int×n5):=⟨195,Tryz.f195,[.val [] [],.val N6 om5],[none,none,none],[.val [some 2] [],.val N6 om5,.val [] []],fun r=>.tup [vi r.1,.agg (a5w r.2)],fun _=>[none,none,none],Tryz.func195⟩
def e5l(list:List q9)(r_:n5)(box:Int):(List p9)->KS:=fun b5=>⟨b5t.k 5 [false,true],(l7 2 z5 list::(bs 1 (vi box::(bs 1 (.ptr 1 0 0::(bs 2 (.ptr 3 0 0::(bs 37 [])))))))),[some [.dead,m5 89 2 u6 r_.b6],some [.var 41 [.own 2 0 2 0 b5.length,.own 0 1 2 0 r_.b6.length,vi r_.f0,vi r_.Code]],some [m5 86 2 u5 b5],some [.var 41 [.nil,.nil,vi 0,vi 0]]]⟩
def b2o(list:List q9)(r_:n5)(box:Int)(b5:List p9):Option (Int×n5) :=
 ((idx list box).bind fun X8=>some (X8.f0,(n5.mk b5 r_.b6 r_.f0 r_.Code)))
theorem d8s(list r_ box)(r):NF b5t r (e5l list r_ box) (fun s=>b2o list r_ box s):=fun b5 h=>PK<|rg<|w9 z5 2 h fun X8 a9u h=>C2 b5 r_.b6<|fE h
def b0u(list:List q9)(r_:n5)(box:Int):Option (Int×n5) :=
 ((a2A r_.b6 box).bind fun a15=>(bif decide (a15>=0) then ((idx r_.b6 a15).bind fun put=>some (put.f0,r_)) else ((((b1o r_.b5 box).bind fun b2a=>(bif (!b2a) then ((idx list box).bind fun b4v=>(t5 ((r_.b5.length+1)*16<=140737488355328) (some (l9.brk (r_.b5++[(p9.mk box b4v.j4)]))))) else some (l9.brk r_.b5))):Option (l9 (Int×n5) (List p9))).bind fun x=>x.go some fun j=>b2o list r_ box j)))
theorem d9h{list r_ box}:OK b5t [l7 2 z5 list,.agg (a5w r_),vi box] (b0u list r_ box) :=
 n8 _ fun r h=>n6<|S0 a4b c3j 3 2 h fun a15 h=>s7 r_.b6<|rg<|j5 1 h (fun h=>rg<|A6 h fun put hput h=>B4 hput<|H8 u6 5 hput<|olR r_<|fE h) (fun h=>B2 h (d8s list r_ box r) fun x1 h hc1=>rg<|S0 a5o d2J 3 2 h fun b2a h=>s7 r_.b5<|j5 4 h (fun h=>rg<|w9 z5 5 h fun b4v e9H h=>tk 9 []<|t6 h fun e1 h=>F7 10 26 86 2 16 u5 r_.b5 (p9.mk box b4v.j4) e1<|E5 (p9.mk box b4v.j4)<|(o8 h hc1 fun hI=>sk [] [0,2,4,7] [(1,0),(26,0),(3,0)] hI)) (fun h=>(o8 h hc1 fun hI=>sk [] [0,2,4,7] [(1,0),(0,0),(3,0)] hI)))
def c3X:FS (n5):=⟨196,Tryz.f196,[.val N6 om5],[none,none,none],[.val N6 om5,.val [] [],.val [] []],fun r=>.agg (a5w r),fun _=>[none,none,none],Tryz.func196⟩
def b2l(r_:n5)(box:Int)(val:Int):Option n5 :=
 ((a2A r_.b6 box).bind fun a15=>(bif decide (a15>=0) then ((idx r_.b6 a15).bind fun put=>some (n5.mk r_.b5 (r_.b6.set a15.toNat (n9.mk put.i6 val)) r_.f0 r_.Code)) else (t5 ((r_.b6.length+1)*16<=140737488355328) (some (n5.mk r_.b5 (r_.b6++[(n9.mk box val)]) r_.f0 r_.Code)))))
theorem e7k{r_ box val}:OK c3X [.agg (a5w r_),vi box,vi val] (b2l r_ box val) :=
 n8 _ fun r h=>n6<|S0 a4b c3j 3 2 h fun a15 h=>s7 r_.b6<|rg<|j5 1 h (fun h=>rg<|A6 h fun put hput h=>B4 hput<|O6 89 2 u6 6 [] (n9.mk put.i6 val) hput<|rg<|s7 r_.b5<|om (r_.b6.length=(r_.b6.set a15.toNat (n9.mk put.i6 val)).length) (by simp)<|fE h) (fun h=>rg<|tk 5 []<|t6 h fun e1 h=>F7 6 16 89 2 16 u6 r_.b6 (n9.mk box val) e1<|E5 (n9.mk box val)<|rg<|C2 r_.b5 (r_.b6++[(n9.mk box val)])<|fE h)
def a9h:FS (n5×List Int):=⟨189,Tryz.f189,[.val N6 om5],[none,none,some (2,.row),none],[.val [some 2] [],.val N6 om5,.row,.val [] []],fun r=>.agg (a5w r.1),fun r=>[none,none,some (u7 3 1 eI r.2),none],Tryz.func189⟩
def e4W(i:o9):((List Int)×(List p9)×(List n9)×Int×Int)->KS:=fun (regs1,b5,b6,rVal,rCode)=>⟨a9h.k 6 [true],(bs 2 (.own 0 2 1 0 regs1.length::(bs 2 (.ptr 1 0 0::(bs 1 (.ptr 4 0 0::(.ptr 5 0 0::(bs 90 [])))))))),[some [.dead,.dead,m5 3 1 eI regs1],some [.var 41 [.own 2 0 2 0 b5.length,.own 3 0 2 0 b6.length,vi rVal,vi rCode]],some [m5 86 2 u5 b5],some [m5 89 2 u6 b6],some [.var 83 [vi i.a8,vi i.A,vi i.B,vi i.N]],some [.var 41 [.nil,.nil,vi 0,vi 0]]]⟩
def e1f(regs1:List Int)(b5:List p9)(b6:List n9)(rVal:Int):Int->KS:=fun rCode1=>⟨a9h.k 8 [true,true],(bs 5 (.ptr 1 0 0::(bs 2 (.ptr 4 0 0::(bs 90 []))))),[some [.dead,.dead,m5 3 1 eI regs1],some [.var 41 [.own 2 0 2 0 b5.length,.own 3 0 2 0 b6.length,vi rVal,vi rCode1]],some [m5 86 2 u5 b5],some [m5 89 2 u6 b6],some [.var 41 [.nil,.nil,vi 0,vi 0]]]⟩
def a7M(regs1:List Int)(b5:List p9)(b6:List n9)(rVal:Int)(rCode1:Int):Option (n5×List Int) :=
 some ((n5.mk b5 b6 rVal rCode1),regs1)
theorem d7p(regs1 b5 b6 rVal)(r):NF a9h r (e1f regs1 b5 b6 rVal) (fun s=>a7M regs1 b5 b6 rVal s):=fun rCode1 h=>PK<|rg<|W0 b5 b6 regs1<|fE h
def a3J(i:o9)(regs1:List Int)(b5:List p9)(b6:List n9)(rVal:Int)(rCode:Int):Option (n5×List Int) :=
 (((bif (i.a8 != 2) then ((idx regs1 i.A).bind fun y=>((a5Z y).bind fun a0P=>(bif (!a0P) then some (l9.brk 2) else some (l9.brk rCode)))) else some (l9.brk rCode)):Option (l9 (n5×List Int) Int)).bind fun x=>x.go some fun j=>a7M regs1 b5 b6 rVal j)
theorem e7T(i)(r):NF a9h r (e4W i) (fun s=>a3J i s.1 s.2.1 s.2.2.1 s.2.2.2.1 s.2.2.2.2):=fun (regs1,b5,b6,rVal,rCode) h=>PK<|B2 h (d7p regs1 b5 b6 rVal r) fun x1 h hc1=>rg<|j5 3 h (fun h=>A6 h fun y hy h=>B4 hy<|H8 eI 8 hy<|j9 a7t a8N 9 h fun a0P h=>j5 11 h (fun h=>rg<|(o8 h hc1 fun hI=>sk [] [5,8] [(1,0),(2,0),(3,0),(5,0)] hI)) (fun h=>(o8 h hc1 fun hI=>sk [] [5,8] [(1,0),(2,0),(3,0),(5,0)] hI))) (fun h=>(o8 h hc1 fun hI=>sk [] [5,8] [(1,0),(2,0),(3,0),(5,0)] hI))
def a6E(list:List q9)(r_:n5)(regs:List Int)(i:o9):Option (n5×List Int) :=
 (((bif (i.a8==1) then ((b0u list r_ i.B).bind fun a4E=>((idx regs i.A).bind fun y1=>some (l9.brk (regs.set i.A.toNat a4E.1,a4E.2.b5,a4E.2.b6,a4E.2.f0,a4E.2.Code)))) else (bif (i.a8==2) then ((idx regs i.B).bind fun y2=>((b2l r_ i.A y2).bind fun b2S=>some (l9.brk (regs,b2S.b5,b2S.b6,b2S.f0,b2S.Code)))) else (bif (i.a8==3) then ((idx regs i.A).bind fun y3=>some (l9.brk (regs.set i.A.toNat i.N,r_.b5,r_.b6,r_.f0,r_.Code))) else (bif (i.a8==4) then ((idx regs i.A).bind fun y4=>((idx regs i.B).bind fun y5=>some (l9.brk (regs.set i.A.toNat (m8 (y4+y5)),r_.b5,r_.b6,r_.f0,r_.Code)))) else (bif (i.a8==5) then ((idx regs i.A).bind fun y6=>((idx regs i.B).bind fun y7=>some (l9.brk (regs.set i.A.toNat (m8 (y6-y7)),r_.b5,r_.b6,r_.f0,r_.Code)))) else (bif (i.a8==7) then some (l9.brk (regs,r_.b5,r_.b6,r_.f0,1)) else some (l9.brk (regs,r_.b5,r_.b6,r_.f0,r_.Code)))))))):Option (l9 (n5×List Int) ((List Int)×(List p9)×(List n9)×Int×Int))).bind fun x=>x.go some fun j=>a3J i j.1 j.2.1 j.2.2.1 j.2.2.2.1 j.2.2.2.2)
set_option maxRecDepth 20000 in
theorem d9Z{list r_ regs i}:OK a9h [l7 2 z5 list,.agg (a5w r_),u7 3 1 eI regs,.agg (z6 i)] (a6E list r_ regs i) :=
 n8 _ fun r h=>n6<|B2 h (e7T i r) fun x1 h hc1=>rg<|j5 1 h (fun h=>rg<|j9 b5t d9h 4 h fun a4E h=>olR r_<|rg<|A6 h fun y1 hy1 h=>B4 hy1<|O6 3 1 eI 5 [] a4E.1 hy1<|rg<|(o8 h hc1 fun hI=>om ((.own 0 2 1 0 regs.length:V)=.own 0 2 1 0 (regs.set i.A.toNat a4E.1).length) (by simp)<|sk [.is (.tmp 2) (.own 0 2 1 0 (regs.set i.A.toNat a4E.1).length)] [2,5,7,8] [(1,0),(12,0),(12,1),(2,0),(3,0)] hI)) (fun h=>rg<|j5 1 h (fun h=>rg<|A6 h fun y2 hy2 h=>B4 hy2<|H8 eI 7 hy2<|j9 c3X e7k 8 h fun b2S h=>olR r_<|(o8 h hc1 fun hI=>sk [] [2,5,7,8] [(1,0),(18,0),(18,1),(2,0),(3,0)] hI)) (fun h=>rg<|j5 1 h (fun h=>rg<|A6 h fun y3 hy3 h=>B4 hy3<|O6 3 1 eI 6 [] i.N hy3<|(o8 h hc1 fun hI=>om ((.own 0 2 1 0 regs.length:V)=.own 0 2 1 0 (regs.set i.A.toNat i.N).length) (by simp)<|sk [.is (.tmp 2) (.own 0 2 1 0 (regs.set i.A.toNat i.N).length)] [2,5,7,8] [(1,0),(0,0),(0,1),(2,0),(3,0)] hI)) (fun h=>rg<|j5 1 h (fun h=>rg<|A6 h fun y4 hy4 h=>B4 hy4<|H8 eI 7 hy4<|A6 h fun y5 hy5 h=>B4 hy5<|H8 eI 12 hy5<|B4 hy4<|O6 3 1 eI 15 [] (m8 (y4+y5)) hy4<|(o8 h hc1 fun hI=>om ((.own 0 2 1 0 regs.length:V)=.own 0 2 1 0 (regs.set i.A.toNat (m8 (y4+y5))).length) (by simp)<|sk [.is (.tmp 2) (.own 0 2 1 0 (regs.set i.A.toNat (m8 (y4+y5))).length)] [2,5,7,8] [(1,0),(0,0),(0,1),(2,0),(3,0)] hI)) (fun h=>rg<|j5 1 h (fun h=>rg<|A6 h fun y6 hy6 h=>B4 hy6<|H8 eI 7 hy6<|A6 h fun y7 hy7 h=>B4 hy7<|H8 eI 12 hy7<|B4 hy6<|O6 3 1 eI 15 [] (m8 (y6-y7)) hy6<|(o8 h hc1 fun hI=>om ((.own 0 2 1 0 regs.length:V)=.own 0 2 1 0 (regs.set i.A.toNat (m8 (y6-y7))).length) (by simp)<|sk [.is (.tmp 2) (.own 0 2 1 0 (regs.set i.A.toNat (m8 (y6-y7))).length)] [2,5,7,8] [(1,0),(0,0),(0,1),(2,0),(3,0)] hI)) (fun h=>rg<|j5 1 h (fun h=>rg<|(o8 h hc1 fun hI=>sk [] [2,5,7,8] [(1,0),(0,0),(0,1),(2,0),(3,0)] hI)) (fun h=>(o8 h hc1 fun hI=>sk [] [2,5,7,8] [(1,0),(0,0),(0,1),(2,0),(3,0)] hI)))))))
def a4y:FS (n5):=⟨170,Tryz.f170,[.val N6 om5],[none,none],[.val [some 2] [],.val [some 4] []],fun r=>.agg (a5w r),fun _=>[none,none],Tryz.func170⟩
def b9K:((List p9)×(List n9)×(List Int)×Int×Int)->KS:=fun (Reads1,Puts1,regs1,rVal1,rCode1)=>⟨a4y.k 6 [false,false],(bs 4 (.ptr 1 0 0::(.ptr 2 0 0::(.own 5 0 1 0 regs1.length::(bs 61 []))))),[some [],some [.var 41 [.nil,.nil,vi 0,vi 0]],some [.var 41 [.own 3 0 2 0 Reads1.length,.own 4 0 2 0 Puts1.length,vi rVal1,vi rCode1]],some [m5 86 2 u5 Reads1],some [m5 89 2 u6 Puts1],some [m5 3 1 eI regs1]]⟩
def a46(Reads1:List p9)(Puts1:List n9)(regs1:List Int)(rVal1:Int)(rCode1:Int):Option n5 :=
 (bif (rCode1 != 0) then some (n5.mk Reads1 [] rVal1 rCode1) else ((idx regs1 0).bind fun y=>some (n5.mk Reads1 Puts1 y rCode1)))
theorem e69(r):NF a4y r b9K (fun s=>a46 s.1 s.2.1 s.2.2.1 s.2.2.2.1 s.2.2.2.2):=fun (Reads1,Puts1,regs1,rVal1,rCode1) h=>PK<|rg<|j5 2 h (fun h=>n6<|s7 Reads1<|fE h) (fun h=>rg<|A6 h fun y hy h=>B4 hy<|H8 eI 2 hy<|rg<|C2 Reads1 Puts1<|fE h)
def c9c(list:List q9)(prog:List o9):((List Int)×(List p9)×(List n9)×Int×Int×Int)->KS:=fun (regs,b5,b6,k,rVal,rCode)=>⟨a4y.k 5 [false],(l7 2 z5 list::(l7 4 z6 prog::(bs 2 (.ptr 1 0 0::(.ptr 2 0 0::(.own 3 0 1 0 regs.length::(vi k::(bs 60 [])))))))),[some [],some [.var 41 [.nil,.nil,vi 0,vi 0]],some [.var 41 [.own 4 0 2 0 b5.length,.own 5 0 2 0 b6.length,vi rVal,vi rCode]],some [m5 3 1 eI regs],some [m5 86 2 u5 b5],some [m5 89 2 u6 b6]]⟩
def e7M(list:List q9)(prog:List o9)(regs:List Int)(b5:List p9)(b6:List n9)(rVal:Int)(rCode:Int):Int->KS:=fun k1=>⟨a4y.k 10 [false,true,true,true],(l7 2 z5 list::(l7 4 z6 prog::(bs 2 (.ptr 1 0 0::(.ptr 2 0 0::(.own 5 0 1 0 regs.length::(vi k1::(bs 60 [])))))))),[some [],some [.var 41 [.nil,.nil,vi 0,vi 0]],some [.var 41 [.own 3 0 2 0 b5.length,.own 4 0 2 0 b6.length,vi rVal,vi rCode]],some [m5 86 2 u5 b5],some [m5 89 2 u6 b6],some [m5 3 1 eI regs]]⟩
def b5a(regs:List Int)(b5:List p9)(b6:List n9)(rVal:Int)(rCode:Int)(k1:Int):Option (l8 n5 ((List Int)×(List p9)×(List n9)×Int×Int×Int) ((List p9)×(List n9)×(List Int)×Int×Int)) :=
 some (l8.nxt (regs,b5,b6,m8 (k1+1),rVal,rCode))
theorem e2T(list prog regs b5 b6 rVal rCode)(lc:I5 a4y b9K (c9c list prog)):NL lc (e7M list prog regs b5 b6 rVal rCode) (fun s=>b5a regs b5 b6 rVal rCode s):=fun k1 h=>PK<|rg<|(lc.nx h fun hI=>sk [] [0,1,4,5,6,7] [(1,0),(2,0),(5,0),(3,0),(4,0)] hI)
def a0B(list:List q9)(prog:List o9)(regs:List Int)(b5:List p9)(b6:List n9)(k:Int)(rVal:Int)(rCode:Int):Option (l8 n5 ((List Int)×(List p9)×(List n9)×Int×Int×Int) ((List p9)×(List n9)×(List Int)×Int×Int)) :=
 (bif decide (k<(prog.length:Int)) then (bif (rCode==0) then ((idx prog k).bind fun ins=>(bif (ins.a8==6) then ((((idx regs ins.A).bind fun y1=>((idx regs ins.B).bind fun y2=>(bif decide (y1<y2) then some (l9.brk (m8 (k+ins.N))) else some (l9.brk k)))):Option (l9 (l8 n5 ((List Int)×(List p9)×(List n9)×Int×Int×Int) ((List p9)×(List n9)×(List Int)×Int×Int)) Int)).bind fun x=>x.go some fun j=>b5a regs b5 b6 rVal rCode j) else ((a6E list (n5.mk b5 b6 rVal rCode) regs ins).bind fun a4T=>(t5 (regs.length=a4T.2.length) (some (l8.nxt (a4T.2,a4T.1.b5,a4T.1.b6,m8 (k+1),a4T.1.f0,a4T.1.Code))))))) else some (l8.brk (b5,b6,regs,rVal,rCode))) else some (l8.brk (b5,b6,regs,rVal,rCode)))
theorem e6D(list prog):LQ a4y b9K (c9c list prog) (fun s=>a0B list prog s.1 s.2.1 s.2.2.1 s.2.2.2.1 s.2.2.2.2.1 s.2.2.2.2.2):=fun lc (regs,b5,b6,k,rVal,rCode) h=>PK<|rg<|j5 4 h (fun h=>j5 8 h (fun h=>rg<|w9 z6 2 h fun ins hins h=>rg<|j5 2 h (fun h=>B2 h (e2T list prog regs b5 b6 rVal rCode lc) fun x2 h hc2=>rg<|A6 h fun y1 hy1 h=>B4 hy1<|H8 eI 4 hy1<|A6 h fun y2 hy2 h=>B4 hy2<|H8 eI 9 hy2<|j5 10 h (fun h=>rg<|(o8 h hc2 fun hI=>sk [] [0,1,4,5,6,7] [(1,0),(2,0),(4,0),(5,0),(3,0)] hI)) (fun h=>(o8 h hc2 fun hI=>sk [] [0,1,4,5,6,7] [(1,0),(2,0),(4,0),(5,0),(3,0)] hI))) (fun h=>rg<|j9 a9h d9Z 4 h fun a4T h=>t6 h fun e2 h=>W0 b5 b6 regs<|rg<|(lc.nx h fun hI=>om ((.own 3 0 1 0 regs.length:V)=.own 3 0 1 0 a4T.2.length) (by first|(simp;done)|(simp [e2];done))<|sk [.is (.tmp 6) (.own 3 0 1 0 a4T.2.length)] [0,1,4,5,6,7] [(1,0),(2,0),(3,0),(28,0),(28,1)] hI))) (fun h=>(lc.bk h fun hI=>sk [] [4,5,6] [(1,0),(2,0),(4,0),(5,0),(3,0)] hI))) (fun h=>(lc.bk h fun hI=>sk [] [4,5,6] [(1,0),(2,0),(4,0),(5,0),(3,0)] hI))
def a89(list:List q9)(prog:List o9):Option n5 :=
 ((b2u list).bind fun X2=>(bif (!X2) then some (n5.mk [] [] 0 3) else ((b0b prog).bind fun D5=>(bif (!D5) then some (n5.mk [] [] 0 3) else (t5 (0<=(4:Int)/\(4:Int)*8<=140737488355328) (((p8 (fun s:(List Int)×(List p9)×(List n9)×Int×Int×Int=>a0B list prog s.1 s.2.1 s.2.2.1 s.2.2.2.1 s.2.2.2.2.1 s.2.2.2.2.2) (e9L (4:Int).toNat (0:Int),[],[],0,0,0)).bind fun x=>x.go (fun r=>some r) fun s=>a46 s.1 s.2.1 s.2.2.1 s.2.2.2.1 s.2.2.2.2)))))))
theorem e6c{list prog}:OK a4y [l7 2 z5 list,l7 4 z6 prog] (a89 list prog) :=
 n8 _ fun r h=>n6<|j9 a6c c7t 1 h fun X2 h=>j5 3 h (fun h=>rg<|fE h) (fun h=>j9 a4Z c1s 5 h fun D5 h=>j5 7 h (fun h=>rg<|fE h) (fun h=>n6<|t6 h fun e1 h=>U1 0 13 3 1 8 eI (0:Int) ti3 (.none) e1 (by decide) (by rfl)<|rg<|lp (e6D list prog) h (fun _ h=>a4y.rt h) (e69 r) fun hI=>sk [.own (.cell 11 0 0) 86 2,.own (.cell 11 0 1) 89 2] [0,1,4,5,6,7] [(1,0),(11,0),(13,0),(16,0),(17,0)] hI))
def c7m:FS (j6×(List j8)×List m9):=⟨117,Tryz.f117,[.val A3 F8,.val [some 13] [],.val [some 5] []],[none,none],[.val A3 F8,.val [some 4] []],fun r=>.tup [.agg (F9 r.1),l7 13 s5 r.2.1,l7 5 x7 r.2.2],fun _=>[none,none],Tryz.func117⟩
def b3I(n:j6)(prog:List o9):Option (j6×(List j8)×List m9) :=
 ((a4s n).bind fun C7=>(bif (!C7) then some ((j6.mk 0 (x6.mk 0 []) [] 0 0 0 [] [] (m4.mk false (q8.mk 0 0) (n5.mk [] [] 0 0)) [] false [] (m4.mk false (q8.mk 0 0) (n5.mk [] [] 0 0)) []),([]:List j8),([]:List m9)) else ((a6h n).bind fun l8Copy=>((b6v n).bind fun b2f=>((a89 b2f.i4 prog).bind fun D4=>(bif n.i7 then some (l8Copy,([]:List j8),([]:List m9)) else (bif (n.Seq==1000) then some (l8Copy,([]:List j8),([]:List m9)) else (bif (D4.Code==3) then some (l8Copy,([]:List j8),([]:List m9)) else (t5 ((([]:List o9).length+prog.length)*32<=140737488355328) ((bif (l8Copy.d6==2) then ((a5U (j6.mk l8Copy.Id l8Copy.Acc l8Copy.a0 (m8 (l8Copy.Seq+1)) l8Copy.d6 l8Copy.a7 l8Copy.c8 l8Copy.g9 l8Copy.c9 l8Copy.a6 true (([]:List o9)++prog) (m4.mk false (q8.mk l8Copy.Id (m8 (l8Copy.Seq+1))) D4) l8Copy.d9)).bind fun M6=>some (M6.1,M6.2,([]:List m9))) else (bif (l8Copy.d6==0) then ((a2C l8Copy.Id (j8.mk 7 0 0 0 0 (m4.mk false (q8.mk l8Copy.Id (m8 (l8Copy.Seq+1))) D4) [])).bind fun I1=>some ((j6.mk l8Copy.Id l8Copy.Acc l8Copy.a0 (m8 (l8Copy.Seq+1)) l8Copy.d6 l8Copy.a7 l8Copy.c8 l8Copy.g9 l8Copy.c9 l8Copy.a6 true (([]:List o9)++prog) (m4.mk false (q8.mk l8Copy.Id (m8 (l8Copy.Seq+1))) D4) l8Copy.d9),I1,([]:List m9))) else some ((j6.mk l8Copy.Id l8Copy.Acc l8Copy.a0 (m8 (l8Copy.Seq+1)) l8Copy.d6 l8Copy.a7 l8Copy.c8 l8Copy.g9 l8Copy.c9 l8Copy.a6 true (([]:List o9)++prog) (m4.mk false (q8.mk l8Copy.Id (m8 (l8Copy.Seq+1))) D4) l8Copy.d9),([]:List j8),([]:List m9))))))))))))))
set_option maxRecDepth 20000 in
theorem e5O{n prog}:OK c7m [.agg (F9 n),l7 4 z6 prog] (b3I n prog) :=
 n8 _ fun r h=>n6<|S0 a1K a9U 1 1 h fun C7 h=>z9 n<|j5 2 h (fun h=>rg<|tk 1 B5<|tk 2 []<|B6 j8<|B6 m9<|fE h) (fun h=>rg<|j9 b0a b2P 1 h fun l8Copy h=>z9 n<|rg<|j9 d0e d5L 1 h fun b2f h=>z9 n<|j9 a4y e6c 4 h fun D4 h=>rg<|j5 2 h (fun h=>rg<|tk 1 B5<|tk 2 []<|z9 l8Copy<|B6 j8<|B6 m9<|fE h) (fun h=>j5 7 h (fun h=>rg<|tk 1 B5<|tk 2 []<|z9 l8Copy<|B6 j8<|B6 m9<|fE h) (fun h=>j5 11 h (fun h=>rg<|tk 1 B5<|tk 2 []<|z9 l8Copy<|B6 j8<|B6 m9<|fE h) (fun h=>M5<|tk 0 []<|t6 h fun e1 h=>oa 40 0 4 ([]:List o9) prog<|oz 83 4 z6 ([]:List o9) prog<|B6 o9<|ob e1<|tl (2,{v:=some (.own 40 0 4 0 (([]:List o9)++prog).length),e:=some (m5 83 4 z6 (([]:List o9)++prog))})<|n6<|j5 2 h (fun h=>rg<|j9 a9j b21 1 h fun M6 h=>s7 l8Copy.Acc.a6<|G0 l8Copy.a0 l8Copy.c8 l8Copy.a6 (([]:List o9)++prog)<|olR D4<|s7 l8Copy.d9<|rg<|tk 2 []<|z9 M6.1<|B6 m9<|fE h) (fun h=>rg<|j5 2 h (fun h=>rg<|j9 Y7 a6n 6 h fun I1 h=>olR D4<|tk 7 []<|s7 l8Copy.Acc.a6<|G0 l8Copy.a0 l8Copy.c8 l8Copy.a6 (([]:List o9)++prog)<|olR D4<|C2 l8Copy.d9 I1<|B6 m9<|fE h) (fun h=>rg<|tk 1 B5<|tk 2 []<|s7 l8Copy.Acc.a6<|G0 l8Copy.a0 l8Copy.c8 l8Copy.a6 (([]:List o9)++prog)<|olR D4<|s7 l8Copy.d9<|B6 j8<|B6 m9<|fE h))))))
def d2Q:FS (m6):=⟨72,Tryz.f72,[.val E4 Q2],[none,none,none],[.val E4 Q2,.val [] [],.val [some 4] []],fun r=>.agg (R7 r),fun _=>[none,none,none],Tryz.func72⟩
def a1o(node:j6):List V:=([vi node.Id,vi node.Acc.g8,.own 11 0 8 0 node.Acc.a6.length,.own 11 1 7 0 node.a0.length,vi node.Seq,vi node.d6,vi node.a7,.own 11 2 1 0 node.c8.length]++a48 node++[.own 11 3 1 0 node.a6.length]++a3C node++[.own 11 4 7 0 node.d9.length])
def b8u(H5:j6×(List j8)×List m9):List V:=(a6a H5.1)
def b42(w:m6)(i:Int)(prog:List o9):Option m6 :=
 (bif decide ((w.d7.length:Int)>=60) then some w else ((idx w.a9 i).bind fun node=>((b3I node prog).bind fun H5=>(bif decide (H5.1.Seq>node.Seq) then (t5 ((([]:List o9).length+prog.length)*32<=140737488355328) ((t5 ((w.d7.length+1)*40<=140737488355328) (((a2X (m6.mk (w.a9.set i.toNat H5.1) w.b9 (w.d7++[(v5.mk H5.1.b7.a5 (([]:List o9)++prog))]) w.Told) H5.2.1).bind fun a2Y=>((a3z a2Y H5.2.2).bind fun a2P=>some a2P)))))) else ((a2X (m6.mk (w.a9.set i.toNat H5.1) w.b9 w.d7 w.Told) H5.2.1).bind fun a2Q=>((a3z a2Q H5.2.2).bind fun a8i=>some a8i))))))
set_option maxRecDepth 20000 in
theorem e0v{w i prog}:OK d2Q [.agg (R7 w),vi i,l7 4 z6 prog] (b42 w i prog) :=
 n8 _ fun r h=>n6<|j5 3 h (fun h=>rg<|A5 w<|fE h) (fun h=>rg<|A6 h fun node hnode h=>B4 hnode<|ob (b13 (enc:=x9) hnode)<|tl (4,{a:=.drow (x9 node)})<|j9 c7m e5O 6 h fun H5 h=>z9 node<|rg<|B4 hnode<|om (((w.a9.map x9).set (0+i.toNat) (a1o node))[0+i.toNat]?=some (a1o node)) (a06 (a1n hnode))<|tl (7,{a:=.prow (a1o node)})<|j5 8 h (fun h=>rg<|tk 5 []<|t6 h fun e1 h=>oa 38 0 4 ([]:List o9) prog<|oz 83 4 z6 ([]:List o9) prog<|B6 o9<|ob e1<|tl (7,{v:=some (.own 38 0 4 0 (([]:List o9)++prog).length),e:=some (m5 83 4 z6 (([]:List o9)++prog))})<|s7 (([]:List o9)++prog)<|tk 9 [none,none,some 4]<|t6 h fun e2 h=>F7 10 41 78 3 40 A7 w.d7 (v5.mk H5.1.b7.a5 (([]:List o9)++prog)) e2<|E5 (v5.mk H5.1.b7.a5 (([]:List o9)++prog))<|rg<|B4 hnode<|om (s6.deep false 65 27 w.a9.length (((w.a9.map x9).set (0+i.toNat) (a1o node)).set (0+i.toNat) (b8u H5))=B8 65 27 x9 (w.a9.set i.toNat H5.1)) (a7b (U2 (a0q rfl)) (by simp))<|om (G7 (((w.a9.map x9).set (0+i.toNat) (a1o node)).set (0+i.toNat) (b8u H5))) (a7p (U2 (a0q rfl)) a5x)<|om (((w.a9.map x9).set (0+i.toNat) (a1o node))[0+i.toNat]?=some (a1o node)) (a06 (a1n hnode))<|z9 H5.1<|tl (5,{a:=.dsc (a1o node) [none,none,some 8,some 7,none,none,none,some 1,some 8,none,none,none,some 2,some 2,none,none,some 1,none,some 4,none,none,none,some 2,some 2,none,none,some 7] [none,none,some 152,some 43,none,none,none,some 4,none,none,none,none,none,none,none,none,some 4,none,none,none,none,none,none,none,none,none,some 43],e:=some (B8 65 27 x9 (w.a9.set i.toNat H5.1))})<|rg<|j9 a00 a5s 2 h fun a2Y h=>om (w.a9.length=(w.a9.set i.toNat H5.1).length) (by simp)<|W0 w.b9 (w.d7++[(v5.mk H5.1.b7.a5 (([]:List o9)++prog))]) w.Told<|j9 a1r a7x 4 h fun a2P h=>A5 a2Y<|A5 a2P<|fE h) (fun h=>rg<|B4 hnode<|om (s6.deep false 65 27 w.a9.length (((w.a9.map x9).set (0+i.toNat) (a1o node)).set (0+i.toNat) (b8u H5))=B8 65 27 x9 (w.a9.set i.toNat H5.1)) (a7b (U2 (a0q rfl)) (by simp))<|om (G7 (((w.a9.map x9).set (0+i.toNat) (a1o node)).set (0+i.toNat) (b8u H5))) (a7p (U2 (a0q rfl)) a5x)<|om (((w.a9.map x9).set (0+i.toNat) (a1o node))[0+i.toNat]?=some (a1o node)) (a06 (a1n hnode))<|z9 H5.1<|tl (5,{a:=.dsc (a1o node) [none,none,some 8,some 7,none,none,none,some 1,some 8,none,none,none,some 2,some 2,none,none,some 1,none,some 4,none,none,none,some 2,some 2,none,none,some 7] [none,none,some 152,some 43,none,none,none,some 4,none,none,none,none,none,none,none,none,some 4,none,none,none,none,none,none,none,none,none,some 43],e:=some (B8 65 27 x9 (w.a9.set i.toNat H5.1))})<|rg<|j9 a00 a5s 2 h fun a2Q h=>om (w.a9.length=(w.a9.set i.toNat H5.1).length) (by simp)<|W0 w.b9 w.d7 w.Told<|j9 a1r a7x 4 h fun a8i h=>A5 a2Q<|A5 a8i<|fE h))
def a8r:FS (Int):=⟨118,Tryz.f118,[.val [] []],[none,none],[.val [] [],.val [] []],fun r=>vi r,fun _=>[none,none],Tryz.func118⟩
def c84:Unit->KS:=fun _=>⟨a8r.k 4 [false,false],(bs 37 []),[some []]⟩
def c71:Option Int :=
 some (-1)
theorem e1d(r):NF a8r r c84 (fun s=>c71):=fun _ h=>PK<|rg<|fE h
def e7O(bal:Int)(who:Int):Int->KS:=fun b=>⟨a8r.k 3 [false],(vi bal::(vi who::(bs 3 (vi b::(bs 31 []))))),[some []]⟩
def a3s(bal:Int)(who:Int)(b:Int):Option (l8 Int Int Unit) :=
 (bif decide (b<=(m8 (bal+3))) then (bif decide (b<=3000) then (bif ((e99 b 3)==who) then some (l8.ret b) else some (l8.nxt (m8 (b+1)))) else some (l8.brk ())) else some (l8.brk ()))
theorem e5V(bal who):LQ a8r c84 (e7O bal who) (fun s=>a3s bal who s):=fun lc b h=>PK<|rg<|j5 4 h (fun h=>j5 7 h (fun h=>rg<|om (3≠(0:Int)) (by decide)<|j5 3 h (fun h=>rg<|fL lc h) (fun h=>rg<|(lc.nx h fun hI=>sk [] [0,1,5] [] hI))) (fun h=>(lc.bk h fun hI=>sk [] [] [] hI))) (fun h=>(lc.bk h fun hI=>sk [] [] [] hI))
def b3F(bal:Int)(who:Int):Option Int :=
 (bif decide (bal<0) then some (-1) else (bif decide (bal>3000) then some (-1) else (bif decide (who<0) then some (-1) else (bif decide (who>=3) then some (-1) else ((p8 (fun s:Int=>a3s bal who s) (m8 (bal+1))).bind fun x=>x.go (fun r=>some r) fun s=>c71)))))
theorem d5W{bal who}:OK a8r [vi bal,vi who] (b3F bal who) :=
 n8 _ fun r h=>n6<|j5 2 h (fun h=>rg<|fE h) (fun h=>j5 6 h (fun h=>rg<|fE h) (fun h=>j5 10 h (fun h=>rg<|fE h) (fun h=>j5 13 h (fun h=>rg<|fE h) (fun h=>rg<|lp (e5V bal who) h (fun _ h=>a8r.rt h) (e1d r) fun hI=>sk [] [0,1,5] [] hI))))
def a7c:FS ((List m7)×List m7):=⟨113,Tryz.f113,[.val [some 8] [some 152]],[some (0,.row)],[.row],fun r=>u7 152 8 p6 r.1,fun r=>[some (u7 152 8 p6 r.2)],Tryz.func113⟩
def c6a(list:List m7):(List m7)->KS:=fun out1=>⟨a7c.k 4 [false],(bs 3 (.own 1 0 8 0 out1.length::(bs 24 []))),[some [m5 152 8 p6 list],some [m5 152 8 p6 out1]]⟩
def c7d(list:List m7)(out1:List m7):Option ((List m7)×List m7) :=
 some (out1,list)
theorem e4E(list)(r):NF a7c r (c6a list) (fun s=>c7d list s):=fun out1 h=>PK<|rg<|C2 out1 list<|fE h
def e0t(list:List m7):((List m7)×Int)->KS:=fun (out,i)=>⟨a7c.k 3 [],(.own 0 0 8 0 list.length::(bs 2 (.own 1 0 8 0 out.length::(vi i::(bs 23 []))))),[some [m5 152 8 p6 list],some [m5 152 8 p6 out]]⟩
def b1Z(list:List m7)(out:List m7)(i:Int):Option (l8 ((List m7)×List m7) ((List m7)×Int) (List m7)) :=
 (bif decide (i<(list.length:Int)) then ((idx list i).bind fun vote=>((V5 vote.i0).bind fun l5Entry=>(t5 ((out.length+1)*96<=140737488355328) (some (l8.nxt (out++[(m7.mk vote.a7 l5Entry)],m8 (i+1))))))) else some (l8.brk out))
theorem d3N(list):LQ a7c (c6a list) (e0t list) (fun s=>b1Z list s.1 s.2):=fun lc (out,i) h=>PK<|rg<|j5 3 h (fun h=>rg<|A6 h fun vote M9 h=>B4 M9<|H8 p6 5 M9<|B4 M9<|H8 p6 10 M9<|j9 Z2 a0u 11 h fun l5Entry h=>tk 13 T5<|t6 h fun e1 h=>F7 14 20 152 8 96 p6 out (m7.mk vote.a7 l5Entry) e1<|E5 (m7.mk vote.a7 l5Entry)<|rg<|(lc.nx h fun hI=>sk [] [0,3,4] [(20,0)] hI)) (fun h=>(lc.bk h fun hI=>sk [] [3] [(1,0)] hI))
def b6W(list:List m7):Option ((List m7)×List m7) :=
 ((p8 (fun s:(List m7)×Int=>b1Z list s.1 s.2) (([]:List m7),0)).bind fun x=>x.go (fun r=>some r) fun s=>c7d list s)
theorem d9H{list}:OK a7c [u7 152 8 p6 list] (b6W list) :=
 n8 _ fun r h=>n6<|tk 0 T5<|rg<|lp (d3N list) h (fun _ h=>a7c.rt h) (e4E list r) fun hI=>om ((.own 2 0 8 0 0:V)=.own 2 0 8 0 ([]:List m7).length) (by simp)<|sk [.is (.tmp 3) (.own 2 0 8 0 ([]:List m7).length)] [0,3,4] [(2,0)] hI
def d26:FS (j6×List j8):=⟨73,Tryz.f73,[.val A3 F8,.val [some 13] []],[none],[.val A3 F8],fun r=>.tup [.agg (F9 r.1),l7 13 s5 r.2],fun _=>[none],Tryz.func73⟩
def b4w(n:j6):Option (j6×List j8) :=
 ((a4s n).bind fun C7=>(bif (!C7) then some ((j6.mk 0 (x6.mk 0 []) [] 0 0 0 [] [] (m4.mk false (q8.mk 0 0) (n5.mk [] [] 0 0)) [] false [] (m4.mk false (q8.mk 0 0) (n5.mk [] [] 0 0)) []),([]:List j8)) else ((a6h n).bind fun l8Copy=>((b3F l8Copy.Acc.g8 l8Copy.Id).bind fun a2t=>(bif decide (a2t<0) then some (l8Copy,([]:List j8)) else ((b0J l8Copy).bind fun M4=>((a6Q M4.Acc a2t).bind fun l6Promise=>(t5 (0<=(3:Int)/\(3:Int)*1<=140737488355328) (((idx (e9L (3:Int).toNat false) M4.Id).bind fun y=>((b6W l6Promise.1.a6).bind fun o=>(t5 (l6Promise.1.a6.length=o.2.length) (((a2C M4.Id (j8.mk 1 0 0 a2t (M4.a0.length:Int) (m4.mk false (q8.mk 0 0) (n5.mk [] [] 0 0)) [])).bind fun I1=>some ((j6.mk M4.Id (x6.mk l6Promise.1.g8 o.2) M4.a0 M4.Seq 1 a2t ((e9L (3:Int).toNat false).set M4.Id.toNat true) o.1 M4.c9 M4.a6 M4.i7 M4.i5 M4.b7 M4.d9),I1)))))))))))))))
theorem e7m{n}:OK d26 [.agg (F9 n)] (b4w n) :=
 n8 _ fun r h=>n6<|S0 a1K a9U 1 1 h fun C7 h=>z9 n<|j5 2 h (fun h=>rg<|tk 1 B5<|B6 j8<|fE h) (fun h=>rg<|j9 b0a b2P 1 h fun l8Copy h=>z9 n<|rg<|j9 a8r d5W 5 h fun a2t h=>rg<|j5 1 h (fun h=>rg<|tk 1 B5<|z9 l8Copy<|B6 j8<|fE h) (fun h=>rg<|j9 b5f c1o 1 h fun M4 h=>z9 l8Copy<|rg<|j9 b0w b7w 3 h fun l6Promise h=>s7 M4.Acc.a6<|M5<|t6 h fun e1 h=>U1 0 37 4 1 1 eB false ti4 (.none) e1 (by decide) (by rfl)<|rg<|A6 h fun y hy h=>B4 hy<|O6 4 1 eB 5 [] true hy<|rg<|j9 a7c d9H 3 h fun o h=>t6 h fun e2 h=>s7 l6Promise.1.a6<|rg<|j9 Y7 a6n 8 h fun I1 h=>om (l6Promise.1.a6.length=o.2.length) (by first|(simp;done)|(simp [e2];done))<|s7 M4.a0<|om ((e9L (3:Int).toNat false).length=((e9L (3:Int).toNat false).set M4.Id.toNat true).length) (by first|(simp;done)|(simp [e2];done))<|G0 o.1 M4.a6 M4.d9 I1<|fE h))
def b4Y:FS (j6×(List j8)×List m9):=⟨74,Tryz.f74,[.val A3 F8,.val [some 13] [],.val [some 5] []],[none],[.val A3 F8],fun r=>.tup [.agg (F9 r.1),l7 13 s5 r.2.1,l7 5 x7 r.2.2],fun _=>[none],Tryz.func74⟩
def d9i(n:j6)(l8Copy:j6):(List j8)->KS:=fun out=>⟨b4Y.k 7 [false,true],(bs 2 (.ptr 1 0 0::(bs 2 (.ptr 2 0 0::(.own 8 0 13 0 out.length::(bs 72 [])))))),[some [b1s 8 p6 n.Acc.a6,b1s 7 t0 n.a0,b1s 1 eB n.c8,b1s 1 eB n.a6,b1s 7 t0 n.d9],some [.var 65 [vi 0,vi 0,.nil,.nil,vi 0,vi 0,vi 0,.nil,.nil,.b false,vi 0,vi 0,.nil,.nil,vi 0,vi 0,.nil,.b false,.nil,.b false,vi 0,vi 0,.nil,.nil,vi 0,vi 0,.nil]],some [.var 65 (d9W l8Copy)]]++d8i l8Copy++[some [m5 76 13 s5 out]]⟩
def d2F(l8Copy:j6)(out:List j8):Option (j6×(List j8)×List m9) :=
 some (l8Copy,out,([]:List m9))
theorem e5B(n l8Copy)(r):NF b4Y r (d9i n l8Copy) (fun s=>d2F l8Copy s):=fun out h=>PK<|rg<|tk 2 []<|z9 l8Copy<|s7 out<|B6 m9<|fE h
def b6S(n:j6):Option (j6×(List j8)×List m9) :=
 ((a4s n).bind fun C7=>(bif (!C7) then some ((j6.mk 0 (x6.mk 0 []) [] 0 0 0 [] [] (m4.mk false (q8.mk 0 0) (n5.mk [] [] 0 0)) [] false [] (m4.mk false (q8.mk 0 0) (n5.mk [] [] 0 0)) []),([]:List j8),([]:List m9)) else ((a6h n).bind fun l8Copy=>((a2C l8Copy.Id (j8.mk 8 0 0 0 (l8Copy.a0.length:Int) (m4.mk false (q8.mk 0 0) (n5.mk [] [] 0 0)) [])).bind fun I1=>(((bif (l8Copy.d6==1) then ((a2C l8Copy.Id (j8.mk 1 0 0 l8Copy.a7 (l8Copy.a0.length:Int) (m4.mk false (q8.mk 0 0) (n5.mk [] [] 0 0)) [])).bind fun b1J=>(t5 ((I1.length+b1J.length)*152<=140737488355328) (some (l9.brk (I1++b1J))))) else (bif (l8Copy.d6==2) then ((a5U l8Copy).bind fun M6=>(t5 ((I1.length+M6.2.length)*152<=140737488355328) (some (l9.ret (M6.1,I1++M6.2,([]:List m9)))))) else (bif (l8Copy.d6==3) then ((a2C l8Copy.Id (j8.mk 3 0 0 l8Copy.a7 (l8Copy.a0.length:Int) l8Copy.c9 [])).bind fun b1y=>(t5 ((I1.length+b1y.length)*152<=140737488355328) (some (l9.brk (I1++b1y))))) else (bif l8Copy.i7 then ((a2C l8Copy.Id (j8.mk 7 0 0 0 0 l8Copy.b7 [])).bind fun b0N=>(t5 ((I1.length+b0N.length)*152<=140737488355328) (some (l9.brk (I1++b0N))))) else some (l9.brk I1))))):Option (l9 (j6×(List j8)×List m9) (List j8))).bind fun x=>x.go some fun j=>d2F l8Copy j)))))
theorem e3q{n}:OK b4Y [.agg (F9 n)] (b6S n) :=
 n8 _ fun r h=>n6<|S0 a1K a9U 1 1 h fun C7 h=>z9 n<|j5 2 h (fun h=>rg<|tk 1 B5<|tk 2 []<|B6 j8<|B6 m9<|fE h) (fun h=>rg<|j9 b0a b2P 1 h fun l8Copy h=>z9 n<|rg<|j9 Y7 a6n 6 h fun I1 h=>rg<|B2 h (e5B n l8Copy r) fun x1 h hc1=>rg<|j5 1 h (fun h=>rg<|j9 Y7 a6n 9 h fun b1J h=>t6 h fun e1 h=>apL 10 34 76 13 152 s5 I1 b1J e1<|s7 b1J<|(o8 h hc1 fun hI=>sk [] [2,5,6] [(2,0),(10,0),(9,0),(9,1),(9,2),(9,3),(9,4),(34,0)] hI)) (fun h=>rg<|j5 1 h (fun h=>rg<|j9 a9j b21 1 h fun M6 h=>z9 l8Copy<|rg<|t6 h fun e2 h=>apL 3 37 76 13 152 s5 I1 M6.2 e2<|tk 4 []<|(B7 h hc1 fun h=>z9 M6.1<|s7 (I1++M6.2)<|B6 m9<|fE h)) (fun h=>rg<|j5 1 h (fun h=>rg<|j9 Y7 a6n 11 h fun b1y h=>t6 h fun e3 h=>apL 12 40 76 13 152 s5 I1 b1y e3<|s7 b1y<|(o8 h hc1 fun hI=>sk [] [2,5,6] [(2,0),(10,0),(9,0),(9,1),(9,2),(9,3),(9,4),(40,0)] hI)) (fun h=>rg<|j5 1 h (fun h=>rg<|j9 Y7 a6n 6 h fun b0N h=>t6 h fun e4 h=>apL 7 37 76 13 152 s5 I1 b0N e4<|s7 b0N<|(o8 h hc1 fun hI=>sk [] [2,5,6] [(2,0),(10,0),(9,0),(9,1),(9,2),(9,3),(9,4),(37,0)] hI)) (fun h=>(o8 h hc1 fun hI=>sk [] [2,5,6] [(2,0),(10,0),(9,0),(9,1),(9,2),(9,3),(9,4),(18,0)] hI))))))
def d0R:FS (j6):=⟨75,Tryz.f75,[.val A3 F8],[none],[.val A3 F8],fun r=>.agg (F9 r),fun _=>[none],Tryz.func75⟩
def b7M(n:j6):Option j6 :=
 ((a4s n).bind fun C7=>(bif (!C7) then some (j6.mk 0 (x6.mk 0 []) [] 0 0 0 [] [] (m4.mk false (q8.mk 0 0) (n5.mk [] [] 0 0)) [] false [] (m4.mk false (q8.mk 0 0) (n5.mk [] [] 0 0)) []) else ((a6h n).bind fun l8Copy=>some (j6.mk l8Copy.Id l8Copy.Acc l8Copy.a0 l8Copy.Seq 0 0 [] [] (m4.mk false (q8.mk 0 0) (n5.mk [] [] 0 0)) [] false [] (m4.mk false (q8.mk 0 0) (n5.mk [] [] 0 0)) []))))
theorem e2w{n}:OK d0R [.agg (F9 n)] (b7M n) :=
 n8 _ fun r h=>n6<|S0 a1K a9U 1 1 h fun C7 h=>z9 n<|j5 2 h (fun h=>rg<|fE h) (fun h=>rg<|j9 b0a b2P 1 h fun l8Copy h=>z9 n<|rg<|C2 l8Copy.Acc.a6 l8Copy.a0<|fE h)
def a86:FS (m6):=⟨27,Tryz.f27,[.val E4 Q2],[none,none],[.val E4 Q2,.val [none,none,some 4] []],fun r=>.agg (R7 r),fun _=>[none,none],Tryz.func27⟩
def e6h(w:m6)(e_:p7)(node:j6):Unit->KS:=fun _=>⟨a86.k 8 [false,false,true],(bs 2 (.ptr 1 0 0::(.ptr 2 0 0::(.ptr 3 0 0::(bs 76 []))))),[some [B8 65 27 x9 (w.a9.set e_.A.toNat node),m5 76 13 s5 w.b9,m5 78 3 A7 w.d7,m5 72 5 x7 w.Told],some [.var 28 [.own 0 0 27 0 (w.a9.set e_.A.toNat node).length,.own 0 1 13 0 w.b9.length,.own 0 2 3 0 w.d7.length,.own 0 3 5 0 w.Told.length]],some [.var 58 [vi e_.a8,vi e_.A,l7 4 z6 e_.i5]],some [.var 28 [.nil,.nil,.nil,.nil]]]⟩
def c3n(w:m6)(e_:p7)(node:j6):Option m6 :=
 ((b42 (m6.mk (w.a9.set e_.A.toNat node) w.b9 w.d7 w.Told) e_.A e_.i5).bind fun c2f=>some c2f)
theorem e7r(w e_ node)(r):NF a86 r (e6h w e_ node) (fun s=>c3n w e_ node):=fun _ h=>PK<|rg<|j9 d2Q e0v 5 h fun c2f h=>G0 (w.a9.set e_.A.toNat node) w.b9 w.d7 w.Told<|A5 c2f<|fE h
def L9(node:j6):List V:=([vi node.Id,vi node.Acc.g8,.own 30 0 8 0 node.Acc.a6.length,.own 30 1 7 0 node.a0.length,vi node.Seq,vi node.d6,vi node.a7,.own 30 2 1 0 node.c8.length]++a48 node++[.own 30 3 1 0 node.a6.length]++a3C node++[.own 30 4 7 0 node.d9.length])
def a8e(node:j6):List V:=([vi node.Id,vi node.Acc.g8,u7 152 8 p6 node.Acc.a6,.own 30 1 7 0 node.a0.length,vi node.Seq,vi node.d6,vi node.a7,.own 30 2 1 0 node.c8.length]++a48 node++[.own 30 3 1 0 node.a6.length]++a3C node++[.own 30 4 7 0 node.d9.length])
def b0s(node:j6):List V:=([vi node.Id,vi node.Acc.g8,u7 152 8 p6 node.Acc.a6,u7 43 7 t0 node.a0,vi node.Seq,vi node.d6,vi node.a7,.own 30 2 1 0 node.c8.length]++a48 node++[.own 30 3 1 0 node.a6.length]++a3C node++[.own 30 4 7 0 node.d9.length])
def b1u(node:j6):List V:=([vi node.Id,vi node.Acc.g8,u7 152 8 p6 node.Acc.a6,u7 43 7 t0 node.a0,vi node.Seq,vi node.d6,vi node.a7,u7 4 1 eB node.c8,l7 8 p6 node.g9,.b node.c9.i8,vi node.c9.a5.d8,vi node.c9.a5.Seq,l7 2 u5 node.c9.b8.b5,l7 2 u6 node.c9.b8.b6,vi node.c9.b8.f0,vi node.c9.b8.Code,.own 30 3 1 0 node.a6.length]++a3C node++[.own 30 4 7 0 node.d9.length])
def b63(node:j6):List V:=[vi node.Id,vi node.Acc.g8,u7 152 8 p6 node.Acc.a6,u7 43 7 t0 node.a0,vi node.Seq,vi node.d6,vi node.a7,u7 4 1 eB node.c8,l7 8 p6 node.g9,.b node.c9.i8,vi node.c9.a5.d8,vi node.c9.a5.Seq,l7 2 u5 node.c9.b8.b5,l7 2 u6 node.c9.b8.b6,vi node.c9.b8.f0,vi node.c9.b8.Code,u7 4 1 eB node.a6,.b node.i7,l7 4 z6 node.i5,.b node.b7.i8,vi node.b7.a5.d8,vi node.b7.a5.Seq,l7 2 u5 node.b7.b8.b5,l7 2 u6 node.b7.b8.b6,vi node.b7.b8.f0,vi node.b7.b8.Code,.own 30 4 7 0 node.d9.length]
def c0X(node:j6):List V:=(a6a node)
def c6T(a0t:j6×List j8):List V:=(a6a a0t.1)
def c7W(X3:j6×(List j8)×List m9):List V:=(a6a X3.1)
def c82(a1w:j6):List V:=(a6a a1w)
def b0r(w:m6)(e_:p7):Option m6 :=
 (bif (e_.a8==2) then ((a8M w e_).bind fun c1i=>some c1i) else (bif (e_.a8==3) then ((a8M w e_).bind fun b8O=>some b8O) else (bif (e_.a8==4) then ((a8M w e_).bind fun b9w=>some b9w) else (bif decide (e_.A<0) then some w else (bif decide (e_.A>=3) then some w else ((idx w.a9 e_.A).bind fun node=>(bif (e_.a8==1) then c3n w e_ node else (bif (e_.a8==5) then ((b4w node).bind fun a0t=>((a2X (m6.mk (w.a9.set e_.A.toNat a0t.1) w.b9 w.d7 w.Told) a0t.2).bind fun a2Y=>((a3z a2Y ([]:List m9)).bind fun a2P=>some a2P))) else (bif (e_.a8==6) then ((b6S node).bind fun X3=>((a2X (m6.mk (w.a9.set e_.A.toNat X3.1) w.b9 w.d7 w.Told) X3.2.1).bind fun a2Q=>((a3z a2Q X3.2.2).bind fun a8i=>some a8i))) else (bif (e_.a8==7) then ((b7M node).bind fun a1w=>((a2X (m6.mk (w.a9.set e_.A.toNat a1w) w.b9 w.d7 w.Told) ([]:List j8)).bind fun c2D=>((a3z c2D ([]:List m9)).bind fun c3q=>some c3q))) else ((a2X (m6.mk (w.a9.set e_.A.toNat node) w.b9 w.d7 w.Told) ([]:List j8)).bind fun c1n=>((a3z c1n ([]:List m9)).bind fun c1Z=>some c1Z))))))))))))
set_option maxRecDepth 20000 in
theorem c0U{w e_}:OK a86 [.agg (R7 w),.agg (G1 e_)] (b0r w e_) :=
 n8 _ fun r h=>n6<|j5 3 h (fun h=>rg<|j9 b7l c2W 2 h fun c1i h=>A5 w<|A5 c1i<|fE h) (fun h=>j5 8 h (fun h=>rg<|j9 b7l c2W 2 h fun b8O h=>A5 w<|A5 b8O<|fE h) (fun h=>j5 12 h (fun h=>rg<|j9 b7l c2W 2 h fun b9w h=>A5 w<|A5 b9w<|fE h) (fun h=>rg<|j5 3 h (fun h=>rg<|A5 w<|fE h) (fun h=>j5 7 h (fun h=>rg<|A5 w<|fE h) (fun h=>rg<|A6 h fun node hnode h=>B4 hnode<|ob (b13 (enc:=x9) hnode)<|tl (5,{a:=.drow (x9 node)})<|rg<|tk 0 B5<|rg<|tk 0 []<|n6<|j5 1 h (fun h=>om (((w.a9.map x9).set (0+e_.A.toNat) (L9 node))[0+e_.A.toNat]?=some (L9 node)) (a06 (a1n hnode))<|s7 node.Acc.a6<|om ((((w.a9.map x9).set (0+e_.A.toNat) (L9 node)).set (0+e_.A.toNat) (a8e node))[0+e_.A.toNat]?=some (a8e node)) (a06 (a3W (a1n hnode)))<|s7 node.a0<|om (((((w.a9.map x9).set (0+e_.A.toNat) (L9 node)).set (0+e_.A.toNat) (a8e node)).set (0+e_.A.toNat) (b0s node))[0+e_.A.toNat]?=some (b0s node)) (a06 (a3W (a3W (a1n hnode))))<|s7 node.c8<|om ((((((w.a9.map x9).set (0+e_.A.toNat) (L9 node)).set (0+e_.A.toNat) (a8e node)).set (0+e_.A.toNat) (b0s node)).set (0+e_.A.toNat) (b1u node))[0+e_.A.toNat]?=some (b1u node)) (a06 (a3W (a3W (a3W (a1n hnode)))))<|s7 node.a6<|om (((((((w.a9.map x9).set (0+e_.A.toNat) (L9 node)).set (0+e_.A.toNat) (a8e node)).set (0+e_.A.toNat) (b0s node)).set (0+e_.A.toNat) (b1u node)).set (0+e_.A.toNat) (b63 node))[0+e_.A.toNat]?=some (b63 node)) (a06 (a3W (a3W (a3W (a3W (a1n hnode))))))<|s7 node.d9<|om (((((((w.a9.map x9).set (0+e_.A.toNat) (L9 node)).set (0+e_.A.toNat) (a8e node)).set (0+e_.A.toNat) (b0s node)).set (0+e_.A.toNat) (b1u node)).set (0+e_.A.toNat) (b63 node)).set (0+e_.A.toNat) (c0X node)=(w.a9.set e_.A.toNat node).map x9) (U2 (U2 (U2 (U2 (U2 (a0q rfl))))))<|om (G7 ((w.a9.set e_.A.toNat node).map x9)) (G7.map a5x _)<|om (w.a9.length=(w.a9.set e_.A.toNat node).length) (by simp)<|om ((.own 0 0 27 0 w.a9.length:V)=.own 0 0 27 0 (w.a9.set e_.A.toNat node).length) (by simp)<|sk [.plug 0 0 (0+e_.A.toNat) 2 (L9 node) 152,.plug 0 0 (0+e_.A.toNat) 3 (a8e node) 43,.plug 0 0 (0+e_.A.toNat) 7 (b0s node) 4,.plug 0 0 (0+e_.A.toNat) 16 (b1u node) 4,.plug 0 0 (0+e_.A.toNat) 26 (b63 node) 43,.shut 0 0 (w.a9.set e_.A.toNat node).length ((w.a9.set e_.A.toNat node).map x9),.is (.cell 1 0 0) (.own 0 0 27 0 (w.a9.set e_.A.toNat node).length)] [2,3,4] [(1,0),(2,0),(3,0)] (e7r w e_ node r () h)) (fun h=>rg<|j5 1 h (fun h=>rg<|j9 d26 e7m 1 h fun a0t h=>z9 node<|rg<|B4 hnode<|om (s6.deep false 65 27 w.a9.length (((w.a9.map x9).set (0+e_.A.toNat) (L9 node)).set (0+e_.A.toNat) (c6T a0t))=B8 65 27 x9 (w.a9.set e_.A.toNat a0t.1)) (a7b (U2 (a0q rfl)) (by simp))<|om (G7 (((w.a9.map x9).set (0+e_.A.toNat) (L9 node)).set (0+e_.A.toNat) (c6T a0t))) (a7p (U2 (a0q rfl)) a5x)<|om (((w.a9.map x9).set (0+e_.A.toNat) (L9 node))[0+e_.A.toNat]?=some (L9 node)) (a06 (a1n hnode))<|z9 a0t.1<|tl (6,{a:=.dsc (L9 node) [none,none,some 8,some 7,none,none,none,some 1,some 8,none,none,none,some 2,some 2,none,none,some 1,none,some 4,none,none,none,some 2,some 2,none,none,some 7] [none,none,some 152,some 43,none,none,none,some 4,none,none,none,none,none,none,none,none,some 4,none,none,none,none,none,none,none,none,none,some 43],e:=some (B8 65 27 x9 (w.a9.set e_.A.toNat a0t.1))})<|rg<|j9 a00 a5s 2 h fun a2Y h=>om (w.a9.length=(w.a9.set e_.A.toNat a0t.1).length) (by simp)<|W0 w.b9 w.d7 w.Told<|j9 a1r a7x 4 h fun a2P h=>A5 a2Y<|B6 m9<|A5 a2P<|fE h) (fun h=>rg<|j5 1 h (fun h=>rg<|j9 b4Y e3q 1 h fun X3 h=>z9 node<|rg<|B4 hnode<|om (s6.deep false 65 27 w.a9.length (((w.a9.map x9).set (0+e_.A.toNat) (L9 node)).set (0+e_.A.toNat) (c7W X3))=B8 65 27 x9 (w.a9.set e_.A.toNat X3.1)) (a7b (U2 (a0q rfl)) (by simp))<|om (G7 (((w.a9.map x9).set (0+e_.A.toNat) (L9 node)).set (0+e_.A.toNat) (c7W X3))) (a7p (U2 (a0q rfl)) a5x)<|om (((w.a9.map x9).set (0+e_.A.toNat) (L9 node))[0+e_.A.toNat]?=some (L9 node)) (a06 (a1n hnode))<|z9 X3.1<|tl (6,{a:=.dsc (L9 node) [none,none,some 8,some 7,none,none,none,some 1,some 8,none,none,none,some 2,some 2,none,none,some 1,none,some 4,none,none,none,some 2,some 2,none,none,some 7] [none,none,some 152,some 43,none,none,none,some 4,none,none,none,none,none,none,none,none,some 4,none,none,none,none,none,none,none,none,none,some 43],e:=some (B8 65 27 x9 (w.a9.set e_.A.toNat X3.1))})<|rg<|j9 a00 a5s 2 h fun a2Q h=>om (w.a9.length=(w.a9.set e_.A.toNat X3.1).length) (by simp)<|W0 w.b9 w.d7 w.Told<|j9 a1r a7x 4 h fun a8i h=>A5 a2Q<|A5 a8i<|fE h) (fun h=>rg<|j5 1 h (fun h=>rg<|j9 d0R e2w 1 h fun a1w h=>z9 node<|rg<|B4 hnode<|om (s6.deep false 65 27 w.a9.length (((w.a9.map x9).set (0+e_.A.toNat) (L9 node)).set (0+e_.A.toNat) (c82 a1w))=B8 65 27 x9 (w.a9.set e_.A.toNat a1w)) (a7b (U2 (a0q rfl)) (by simp))<|om (G7 (((w.a9.map x9).set (0+e_.A.toNat) (L9 node)).set (0+e_.A.toNat) (c82 a1w))) (a7p (U2 (a0q rfl)) a5x)<|om (((w.a9.map x9).set (0+e_.A.toNat) (L9 node))[0+e_.A.toNat]?=some (L9 node)) (a06 (a1n hnode))<|z9 a1w<|tl (6,{a:=.dsc (L9 node) [none,none,some 8,some 7,none,none,none,some 1,some 8,none,none,none,some 2,some 2,none,none,some 1,none,some 4,none,none,none,some 2,some 2,none,none,some 7] [none,none,some 152,some 43,none,none,none,some 4,none,none,none,none,none,none,none,none,some 4,none,none,none,none,none,none,none,none,none,some 43],e:=some (B8 65 27 x9 (w.a9.set e_.A.toNat a1w))})<|rg<|j9 a00 a5s 2 h fun c2D h=>om (w.a9.length=(w.a9.set e_.A.toNat a1w).length) (by simp)<|W0 w.b9 w.d7 w.Told<|B6 j8<|j9 a1r a7x 4 h fun c3q h=>A5 c2D<|B6 m9<|A5 c3q<|fE h) (fun h=>rg<|B4 hnode<|om (s6.deep false 65 27 w.a9.length (((w.a9.map x9).set (0+e_.A.toNat) (L9 node)).set (0+e_.A.toNat) (c0X node))=B8 65 27 x9 (w.a9.set e_.A.toNat node)) (a7b (U2 (a0q rfl)) (by simp))<|om (G7 (((w.a9.map x9).set (0+e_.A.toNat) (L9 node)).set (0+e_.A.toNat) (c0X node))) (a7p (U2 (a0q rfl)) a5x)<|om (((w.a9.map x9).set (0+e_.A.toNat) (L9 node))[0+e_.A.toNat]?=some (L9 node)) (a06 (a1n hnode))<|z9 node<|tl (6,{a:=.dsc (L9 node) [none,none,some 8,some 7,none,none,none,some 1,some 8,none,none,none,some 2,some 2,none,none,some 1,none,some 4,none,none,none,some 2,some 2,none,none,some 7] [none,none,some 152,some 43,none,none,none,some 4,none,none,none,none,none,none,none,none,some 4,none,none,none,none,none,none,none,none,none,some 43],e:=some (B8 65 27 x9 (w.a9.set e_.A.toNat node))})<|rg<|j9 a00 a5s 2 h fun c1n h=>om (w.a9.length=(w.a9.set e_.A.toNat node).length) (by simp)<|W0 w.b9 w.d7 w.Told<|B6 j8<|j9 a1r a7x 4 h fun c1Z h=>A5 c1n<|B6 m9<|A5 c1Z<|fE h)))))))))
def a2c:FS (m6×List p7):=⟨52,Tryz.f52,[.val E4 Q2,.val [some 3] [some 58]],[none,none,none],[.val E4 Q2,.val [some 3] [some 58],.val [none,none,some 4] []],fun r=>.tup [.agg (R7 r.1),u7 58 3 G1 r.2],fun _=>[none,none,none],Tryz.func52⟩
def a0O(w:m6)(out:List p7)(e_:p7):Option (m6×List p7) :=
 ((b0r w e_).bind fun a0C=>(t5 ((out.length+1)*40<=140737488355328) (some (a0C,out++[e_]))))
theorem a2Z{w out e_}:OK a2c [.agg (R7 w),u7 58 3 G1 out,.agg (G1 e_)] (a0O w out e_) :=
 n8 _ fun r h=>n6<|j9 a86 c0U 2 h fun a0C h=>A5 w<|tk 5 [none,none,some 4]<|t6 h fun e1 h=>F7 6 11 58 3 40 G1 out e_ e1<|E5 e_<|A5 a0C<|s7 (out++[e_])<|fE h
def b0d:FS (Int×s9):=⟨55,Tryz.f55,[.val [] []],[some (0,.ptr [some 1,none] []),none],[.ptr [some 1,none] [],.val [some 1] []],fun r=>vi r.1,fun r=>[some (.optr 119 (W5 r.2)),none],Tryz.func55⟩
def a5Q(r_:s9)(list:List Int):Option (Int×s9) :=
 ((E2 r_ (list.length:Int)).bind fun pick=>((idx list pick.1).bind fun y=>some (y,pick.2)))
theorem b1M{r_ list}:OK b0d [.optr 119 (W5 r_),l7 1 eI list] (a5Q r_ list) :=
 n8 _ fun r h=>n6<|j9 E7 F4 4 h fun pick h=>w9 eI 5 h fun y hy h=>fE h
def d2k:FS (Int):=⟨154,Tryz.f154,[.val [] []],[none,none],[.val [] [],.val [] []],fun r=>vi r,fun _=>[none,none],Tryz.func154⟩
def b5d(a:Int)(b:Int):Option Int :=
 (bif decide (a>b) then some a else some b)
theorem d5J{a b}:OK d2k [vi a,vi b] (b5d a b) :=
 n8 _ fun r h=>n6<|j5 2 h (fun h=>rg<|fE h) (fun h=>rg<|fE h)
def b4m:FS (o9×s9):=⟨100,Tryz.f100,[.val [] []],[some (0,.ptr [some 1,none] [])],[.ptr [some 1,none] []],fun r=>.agg (z6 r.1),fun r=>[some (.optr 119 (W5 r.2))],Tryz.func100⟩
def d3X:(s9×o9)->KS:=fun (w,i)=>⟨b4m.k 6 [true],(bs 2 (.ptr 1 0 0::(.ptr 2 0 0::(bs 36 [])))),[some [.var 119 [l7 1 J0 w.b,vi w.p]],some [.var 83 [vi 0,vi 0,vi 0,vi 0]],some [.var 83 [vi i.a8,vi i.A,vi i.B,vi i.N]]]⟩
def d0c(w:s9)(i:o9):Option (o9×s9) :=
 some (i,w)
theorem e56(r):NF b4m r d3X (fun s=>d0c s.1 s.2):=fun (w,i) h=>PK<|rg<|fE h
def b6Y(r_:s9):Option (o9×s9) :=
 ((a5Q r_ [1,1,2,2,3,4,4,5,6,7]).bind fun num=>((E2 num.2 3).bind fun pick=>((E2 pick.2 3).bind fun E0=>(((bif (num.1==3) then ((a5Q E0.2 [0,1,5,(-2),100,1000000]).bind fun a6Z=>some (l9.brk (a6Z.2,(o9.mk num.1 pick.1 0 a6Z.1)))) else (bif (num.1==6) then ((E2 E0.2 3).bind fun a0c=>some (l9.brk (a0c.2,(o9.mk num.1 pick.1 E0.1 (m8 (1+a0c.1)))))) else (bif (num.1==7) then ((E2 E0.2 3).bind fun Y3=>(bif decide (Y3.1>0) then ((E2 Y3.2 4).bind fun U6=>((E2 U6.2 4).bind fun a2n=>some (l9.ret ((o9.mk 4 U6.1 a2n.1 0),a2n.2)))) else some (l9.brk (Y3.2,(o9.mk num.1 0 0 0))))) else some (l9.brk (E0.2,(o9.mk num.1 pick.1 E0.1 0)))))):Option (l9 (o9×s9) (s9×o9))).bind fun x=>x.go some fun j=>d0c j.1 j.2))))
theorem e7F{r_}:OK b4m [.optr 119 (W5 r_)] (b6Y r_) :=
 n8 _ fun r h=>n6<|tk 1 []<|j9 b0d b1M 2 h fun num h=>om (10=[1,1,2,2,3,4,4,5,6,7].length) (by simp)<|j9 E7 F4 4 h fun pick h=>j9 E7 F4 6 h fun E0 h=>rg<|B2 h (e56 r) fun x1 h hc1=>rg<|j5 1 h (fun h=>n6<|tk 1 []<|j9 b0d b1M 2 h fun a6Z h=>om (6=[0,1,5,(-2),100,1000000].length) (by simp)<|(o8 h hc1 fun hI=>sk [] [2,3] [(1,0),(10,0)] hI)) (fun h=>rg<|j5 1 h (fun h=>rg<|j9 E7 F4 1 h fun a0c h=>(o8 h hc1 fun hI=>sk [] [2,3] [(1,0),(10,0)] hI)) (fun h=>rg<|j5 1 h (fun h=>rg<|j9 E7 F4 1 h fun Y3 h=>j5 2 h (fun h=>rg<|j9 E7 F4 1 h fun U6 h=>j9 E7 F4 3 h fun a2n h=>(B7 h hc1 fun h=>fE h)) (fun h=>n6<|(o8 h hc1 fun hI=>sk [] [2,3] [(1,0),(10,0)] hI))) (fun h=>(o8 h hc1 fun hI=>sk [] [2,3] [(1,0),(10,0)] hI))))
def a2k:FS ((List o9)×s9):=⟨57,Tryz.f57,[.val [some 4] [some 83]],[some (0,.ptr [some 1,none] [])],[.ptr [some 1,none] []],fun r=>u7 83 4 z6 r.1,fun r=>[some (.optr 119 (W5 r.2))],Tryz.func57⟩
def c94:(s9×List o9)->KS:=fun (w,out1)=>⟨a2k.k 5 [false,false],(bs 5 (.own 1 0 4 0 out1.length::(bs 31 []))),[some [.var 119 [l7 1 J0 w.b,vi w.p]],some [m5 83 4 z6 out1]]⟩
def d28(w:s9)(out1:List o9):Option ((List o9)×s9) :=
 some (out1,w)
theorem e3P(r):NF a2k r c94 (fun s=>d28 s.1 s.2):=fun (w,out1) h=>PK<|rg<|s7 out1<|fE h
def e5t:(s9×(List o9)×Int)->KS:=fun (r_1,out,i)=>⟨a2k.k 4 [false],(.ptr 0 0 0::(bs 4 (.own 1 0 4 0 out.length::(vi i::(bs 30 []))))),[some [.var 119 [l7 1 J0 r_1.b,vi r_1.p]],some [m5 83 4 z6 out]]⟩
def b4u(r_1:s9)(out:List o9)(i:Int):Option (l8 ((List o9)×s9) (s9×(List o9)×Int) (s9×List o9)) :=
 (bif decide (i>0) then ((b6Y r_1).bind fun b07=>(t5 ((out.length+1)*32<=140737488355328) (some (l8.nxt (b07.2,out++[b07.1],m8 (i-1)))))) else some (l8.brk (r_1,out)))
theorem e09:LQ a2k c94 e5t (fun s=>b4u s.1 s.2.1 s.2.2):=fun lc (r_1,out,i) h=>PK<|rg<|j5 1 h (fun h=>rg<|j9 b4m e7F 2 h fun b07 h=>tk 3 []<|t6 h fun e1 h=>F7 4 8 83 4 32 z6 out b07.1 e1<|E5 b07.1<|rg<|(lc.nx h fun hI=>sk [] [0,5,6] [(8,0)] hI)) (fun h=>(lc.bk h fun hI=>sk [] [5] [(1,0)] hI))
def a4K(r_:s9):Option ((List o9)×s9) :=
 ((E2 r_ 3).bind fun pick=>(bif (pick.1==0) then ((E2 pick.2 3).bind fun E0=>((E2 E0.2 3).bind fun a0c=>((E2 a0c.2 3).bind fun Y3=>some ([(o9.mk 1 0 E0.1 0),(o9.mk 3 1 0 (m8 (1+Y3.1))),(o9.mk 4 0 1 0),(o9.mk 2 a0c.1 0 0)],Y3.2)))) else ((E2 pick.2 8).bind fun U6=>((p8 (fun s:s9×(List o9)×Int=>b4u s.1 s.2.1 s.2.2) (U6.2,([]:List o9),U6.1)).bind fun x=>x.go (fun r=>some r) fun s=>d28 s.1 s.2))))
theorem b2Z{r_}:OK a2k [.optr 119 (W5 r_)] (a4K r_) :=
 n8 _ fun r h=>n6<|j9 E7 F4 1 h fun pick h=>j5 2 h (fun h=>rg<|j9 E7 F4 1 h fun E0 h=>rg<|j9 E7 F4 1 h fun a0c h=>rg<|j9 E7 F4 3 h fun Y3 h=>tk 9 []<|om (4=[(o9.mk 1 0 E0.1 0),(o9.mk 3 1 0 (m8 (1+Y3.1))),(o9.mk 4 0 1 0),(o9.mk 2 a0c.1 0 0)].length) (by simp)<|fE h) (fun h=>rg<|tk 0 []<|rg<|j9 E7 F4 1 h fun U6 h=>lp (e09) h (fun _ h=>a2k.rt h) (e3P r) fun hI=>om ((.own 5 0 4 0 0:V)=.own 5 0 4 0 ([]:List o9).length) (by simp)<|sk [.is (.tmp 5) (.own 5 0 4 0 ([]:List o9).length)] [0,5,6] [(5,0)] hI)
def b6q:FS (p7×s9×m6):=⟨99,Tryz.f99,[.val [none,none,some 4] [none,none,some 83]],[some (0,.ptr [some 1,none] []),some (1,.val E4 Q2)],[.ptr [some 1,none] [],.val E4 Q2],fun r=>.agg [vi r.1.a8,vi r.1.A,u7 83 4 z6 r.1.i5],fun r=>[some (.optr 119 (W5 r.2.1)),some (.agg (R7 r.2.2))],Tryz.func99⟩
def e7X(w:m6)(pick:Int×s9):(s9×Int)->KS:=fun (w1,eKind)=>⟨b6q.k 12 [false,false,false,false,false,false,false,true,false],(bs 4 (.ptr 1 0 0::(.ptr 2 0 0::(bs 57 [])))),[some [.var 119 [l7 1 J0 w1.b,vi w1.p],B8 65 27 x9 w.a9,m5 76 13 s5 w.b9,m5 78 3 A7 w.d7,m5 72 5 x7 w.Told],some [.var 58 [vi 0,vi 0,.nil]],some [.var 58 [vi eKind,vi pick.1,.nil]]]⟩
def c9o(w:m6)(pick:Int×s9)(w1:s9)(eKind:Int):Option (p7×s9×m6) :=
 some ((p7.mk eKind pick.1 []),w1,w)
theorem e3X(w pick)(r):NF b6q r (e7X w pick) (fun s=>c9o w pick s.1 s.2):=fun (w1,eKind) h=>PK<|rg<|A5 w<|fE h
def b4R(r_:s9)(w:m6):Option (p7×s9×m6) :=
 ((b5d 1 (w.b9.length:Int)).bind fun c5Q=>((E2 r_ c5Q).bind fun pick=>((E2 pick.2 24).bind fun E0=>(bif (E0.1==0) then ((E2 E0.2 3).bind fun a0c=>((a4K a0c.2).bind fun a4L=>some ((p7.mk 1 a0c.1 a4L.1),a4L.2,w))) else (bif (E0.1==1) then ((E2 E0.2 3).bind fun Y3=>((a4K Y3.2).bind fun b3N=>some ((p7.mk 1 Y3.1 b3N.1),b3N.2,w))) else (bif (E0.1==2) then ((E2 E0.2 3).bind fun U6=>((a4K U6.2).bind fun b7a=>some ((p7.mk 1 U6.1 b7a.1),b7a.2,w))) else (((bif (E0.1==3) then ((E2 E0.2 3).bind fun a2n=>((a4K a2n.2).bind fun b7A=>some (l9.ret ((p7.mk 1 a2n.1 b7A.1),b7A.2,w)))) else (bif (E0.1==4) then ((E2 E0.2 3).bind fun a7f=>some (l9.ret ((p7.mk 5 a7f.1 []),a7f.2,w))) else (bif (E0.1==5) then ((E2 E0.2 3).bind fun a7s=>some (l9.ret ((p7.mk 6 a7s.1 []),a7s.2,w))) else (bif (E0.1==6) then ((E2 E0.2 3).bind fun a30=>some (l9.ret ((p7.mk 6 a30.1 []),a30.2,w))) else (bif (E0.1==7) then ((E2 E0.2 2).bind fun a4M=>(bif (a4M.1==0) then ((E2 a4M.2 3).bind fun a5E=>some (l9.ret ((p7.mk 7 a5E.1 []),a5E.2,w))) else some (l9.brk (a4M.2,2)))) else (bif (E0.1==8) then some (l9.brk (E0.2,3)) else (bif (E0.1==9) then some (l9.brk (E0.2,4)) else (bif (E0.1==10) then ((E2 E0.2 3).bind fun a6r=>(bif (a6r.1==0) then ((E2 a6r.2 10).bind fun a5p=>((E2 a5p.2 5).bind fun b82=>some (l9.ret ((p7.mk (m8 (a5p.1-1)) (m8 (b82.1-1)) []),b82.2,w)))) else some (l9.brk (a6r.2,2)))) else some (l9.brk (E0.2,2)))))))))):Option (l9 (p7×s9×m6) (s9×Int))).bind fun x=>x.go some fun j=>c9o w pick j.1 j.2)))))))
set_option maxRecDepth 20000 in
theorem d9L{r_ w}:OK b6q [.optr 119 (W5 r_),.agg (R7 w)] (b4R r_ w) :=
 n8 _ fun r h=>n6<|j9 d2k d5J 4 h fun c5Q h=>j9 E7 F4 5 h fun pick h=>rg<|j9 E7 F4 1 h fun E0 h=>rg<|j5 1 h (fun h=>rg<|j9 E7 F4 1 h fun a0c h=>j9 a2k b2Z 3 h fun a4L h=>s7 a4L.1<|A5 w<|fE h) (fun h=>rg<|j5 1 h (fun h=>rg<|j9 E7 F4 1 h fun Y3 h=>j9 a2k b2Z 3 h fun b3N h=>s7 b3N.1<|A5 w<|fE h) (fun h=>rg<|j5 1 h (fun h=>rg<|j9 E7 F4 1 h fun U6 h=>j9 a2k b2Z 3 h fun b7a h=>s7 b7a.1<|A5 w<|fE h) (fun h=>B2 h (e3X w pick r) fun x1 h hc1=>rg<|j5 1 h (fun h=>rg<|j9 E7 F4 1 h fun a2n h=>j9 a2k b2Z 3 h fun b7A h=>(B7 h hc1 fun h=>s7 b7A.1<|A5 w<|fE h)) (fun h=>rg<|j5 1 h (fun h=>rg<|j9 E7 F4 1 h fun a7f h=>(B7 h hc1 fun h=>A5 w<|fE h)) (fun h=>rg<|j5 1 h (fun h=>rg<|j9 E7 F4 1 h fun a7s h=>(B7 h hc1 fun h=>A5 w<|fE h)) (fun h=>rg<|j5 1 h (fun h=>rg<|j9 E7 F4 1 h fun a30 h=>(B7 h hc1 fun h=>A5 w<|fE h)) (fun h=>rg<|j5 1 h (fun h=>rg<|j9 E7 F4 1 h fun a4M h=>j5 2 h (fun h=>rg<|j9 E7 F4 1 h fun a5E h=>(B7 h hc1 fun h=>A5 w<|fE h)) (fun h=>(o8 h hc1 fun hI=>sk [] [4,5] [(2,0),(10,0)] hI))) (fun h=>rg<|j5 1 h (fun h=>rg<|(o8 h hc1 fun hI=>sk [] [4,5] [(2,0),(10,0)] hI)) (fun h=>rg<|j5 1 h (fun h=>rg<|(o8 h hc1 fun hI=>sk [] [4,5] [(2,0),(10,0)] hI)) (fun h=>rg<|j5 1 h (fun h=>rg<|j9 E7 F4 1 h fun a6r h=>j5 2 h (fun h=>rg<|j9 E7 F4 1 h fun a5p h=>j9 E7 F4 4 h fun b82 h=>(B7 h hc1 fun h=>A5 w<|fE h)) (fun h=>(o8 h hc1 fun hI=>sk [] [4,5] [(2,0),(10,0)] hI))) (fun h=>(o8 h hc1 fun hI=>sk [] [4,5] [(2,0),(10,0)] hI))))))))))))
def a82:FS (Bool):=⟨65,Tryz.f65,[.val [] []],[none],[.val B5 []],fun r=>.b r,fun _=>[none],Tryz.func65⟩
def d4p(m:j8):Unit->KS:=fun _=>⟨a82.k 2 [false],(bs 1 (.ptr 1 0 0::(bs 158 []))),[some [],some [.var 76 (a38 m)]]⟩
def e6a(m:j8)(l7None:Bool):Bool->KS:=fun right=>⟨a82.k 4 [false],(bs 1 (.ptr 1 0 0::(bs 1 (.b l7None::(.b right::(bs 155 [])))))),[some [],some [.var 76 (a38 m)]]⟩
def b1z(m:j8)(l7None:Bool)(right:Bool):Option Bool :=
 (bif (m.a8==1) then ((a0K m.a7).bind fun W7=>(bif W7 then some l7None else some false)) else (bif (m.a8==2) then ((a0K m.a7).bind fun b1K=>(bif b1K then (bif l7None then ((a5c m.a6).bind fun a5d=>(bif a5d then some (decide ((m8 (m.g7+(m.a6.length:Int)))<=40)) else some false)) else some false) else some false)) else (bif (m.a8==3) then ((a0K m.a7).bind fun b1c=>(bif b1c then some right else some false)) else (bif (m.a8==4) then ((a0K m.a7).bind fun c5n=>(bif c5n then some l7None else some false)) else (bif (m.a8==5) then (bif (m.a7==0) then some right else some false) else (bif (m.a8==6) then ((a0K m.a7).bind fun d24=>(bif d24 then (bif l7None then some (m.g7==0) else some false) else some false)) else (bif (m.a8==7) then (bif (m.a7==0) then (bif (m.g7==0) then ((a0L m.i0).bind fun D7=>(bif D7 then some (!m.i0.i8) else some false)) else some false) else some false) else (bif (m.a8==8) then (bif (m.a7==0) then some l7None else some false) else some false))))))))
theorem d7f(m l7None)(r):NF a82 r (e6a m l7None) (fun s=>b1z m l7None s):=fun right h=>PK<|n6<|j5 1 h (fun h=>rg<|j9 a1x a18 2 h fun W7 h=>j5 3 h (fun h=>fE h) (fun h=>fE h)) (fun h=>rg<|j5 1 h (fun h=>rg<|j9 a1x a18 2 h fun b1K h=>j5 3 h (fun h=>j5 6 h (fun h=>j9 a2y b28 9 h fun a5d h=>j5 11 h (fun h=>fE h) (fun h=>fE h)) (fun h=>fE h)) (fun h=>fE h)) (fun h=>rg<|j5 1 h (fun h=>rg<|j9 a1x a18 2 h fun b1c h=>j5 3 h (fun h=>fE h) (fun h=>fE h)) (fun h=>rg<|j5 1 h (fun h=>rg<|j9 a1x a18 2 h fun c5n h=>j5 3 h (fun h=>fE h) (fun h=>fE h)) (fun h=>rg<|j5 1 h (fun h=>rg<|j5 3 h (fun h=>fE h) (fun h=>fE h)) (fun h=>rg<|j5 1 h (fun h=>rg<|j9 a1x a18 2 h fun d24 h=>j5 3 h (fun h=>j5 6 h (fun h=>fE h) (fun h=>fE h)) (fun h=>fE h)) (fun h=>rg<|j5 1 h (fun h=>rg<|j5 3 h (fun h=>j5 8 h (fun h=>j9 a14 a2L 11 h fun D7 h=>j5 13 h (fun h=>fE h) (fun h=>fE h)) (fun h=>fE h)) (fun h=>fE h)) (fun h=>rg<|j5 1 h (fun h=>rg<|j5 3 h (fun h=>fE h) (fun h=>fE h)) (fun h=>rg<|fE h))))))))
def b4h(m:j8):Option Bool :=
 ((a4J m.i0).bind fun l7None=>((((a0L m.i0).bind fun a2u=>(bif a2u then some (l9.brk (decide (m.g7<40))) else some (l9.brk false))):Option (l9 Bool Bool)).bind fun x=>x.go some fun j=>b1z m l7None j))
theorem d4d(m)(r):NF a82 r (d4p m) (fun s=>b4h m):=fun _ h=>PK<|rg<|j9 a6S a81 2 h fun l7None h=>B2 h (d7f m l7None r) fun x1 h hc1=>rg<|j9 a14 a2L 2 h fun a2u h=>j5 3 h (fun h=>(o8 h hc1 fun hI=>sk [] [1,3,4] [(1,0)] hI)) (fun h=>(o8 h hc1 fun hI=>sk [] [1,3,4] [(1,0)] hI))
def b7X(m:j8):Option Bool :=
 (((bif decide (m.c8<0) then some (l9.ret false) else (bif decide (m.c8>=3) then some (l9.ret false) else (bif decide (m.To<0) then some (l9.ret false) else (bif decide (m.To>=3) then some (l9.ret false) else (bif (m.c8==m.To) then some (l9.ret false) else (bif decide (m.g7<0) then some (l9.ret false) else (bif decide (m.g7>40) then some (l9.ret false) else (bif (m.a8 != 2) then (bif decide ((m.a6.length:Int)>0) then some (l9.ret false) else some (l9.brk ())) else some (l9.brk ()))))))))):Option (l9 Bool Unit)).bind fun x=>x.go some fun j=>b4h m)
theorem d96{m}:OK a82 [.agg (s5 m)] (b7X m) :=
 n8 _ fun r h=>rg<|B2 h (d4d m r) fun x1 h hc1=>rg<|j5 3 h (fun h=>rg<|(B7 h hc1 fun h=>fE h)) (fun h=>j5 8 h (fun h=>rg<|(B7 h hc1 fun h=>fE h)) (fun h=>j5 13 h (fun h=>rg<|(B7 h hc1 fun h=>fE h)) (fun h=>j5 18 h (fun h=>rg<|(B7 h hc1 fun h=>fE h)) (fun h=>j5 25 h (fun h=>rg<|(B7 h hc1 fun h=>fE h)) (fun h=>j5 30 h (fun h=>rg<|(B7 h hc1 fun h=>fE h)) (fun h=>j5 35 h (fun h=>rg<|(B7 h hc1 fun h=>fE h)) (fun h=>j5 39 h (fun h=>j5 45 h (fun h=>rg<|(B7 h hc1 fun h=>fE h)) (fun h=>(o8 h hc1 fun hI=>sk [] [1] [(1,0)] hI))) (fun h=>(o8 h hc1 fun hI=>sk [] [1] [(1,0)] hI)))))))))
def d2N:FS (Bool):=⟨68,Tryz.f68,[.val [] []],[none],[.val [] []],fun r=>.b r,fun _=>[none],Tryz.func68⟩
def b4p(a:m9):Option Bool :=
 (bif decide (a.Node>=0) then (bif decide (a.Node<3) then ((a8C a.a5).bind fun a5k=>(bif a5k then (bif (a.a5.d8==a.Node) then (bif decide (a.Code>=0) then (bif decide (a.Code<=4) then ((a5Z a.f0).bind fun a0P=>some a0P) else some false) else some false) else some false) else some false)) else some false) else some false)
theorem d7t{a}:OK d2N [.agg (x7 a)] (b4p a) :=
 n8 _ fun r h=>n6<|j5 3 h (fun h=>j5 8 h (fun h=>j9 b8A c01 11 h fun a5k h=>j5 13 h (fun h=>j5 21 h (fun h=>j5 26 h (fun h=>j5 31 h (fun h=>j9 a7t a8N 34 h fun a0P h=>fE h) (fun h=>fE h)) (fun h=>fE h)) (fun h=>fE h)) (fun h=>fE h)) (fun h=>fE h)) (fun h=>fE h)
def K1:FS (Bool):=⟨25,Tryz.f25,[.val [] []],[none],[.val E4 []],fun r=>.b r,fun _=>[none],Tryz.func25⟩
def c85(w:m6):Unit->KS:=fun _=>⟨K1.k 4 [false,false],(bs 1 (.ptr 1 0 0::(bs 104 []))),[some [],some [.var 28 (I0 w)]]⟩
def c8H(w:m6):Unit->KS:=fun _=>⟨K1.k 6 [false,false,false],(bs 1 (.ptr 1 0 0::(bs 104 []))),[some [],some [.var 28 (I0 w)]]⟩
def d1g(w:m6):Unit->KS:=fun _=>⟨K1.k 8 [false,false,false,false],(bs 1 (.ptr 1 0 0::(bs 104 []))),[some [],some [.var 28 (I0 w)]]⟩
def c4W:Unit->KS:=fun _=>⟨K1.k 10 [false,false,false,false,false],(bs 106 []),[some []]⟩
def d1r:Option Bool :=
 some true
theorem d5P(r):NF K1 r c4W (fun s=>d1r):=fun _ h=>PK<|rg<|fE h
def d4z(w:m6):Int->KS:=fun i3=>⟨K1.k 9 [false,false,false,false],(bs 1 (.ptr 1 0 0::(bs 4 (vi i3::(bs 99 []))))),[some [],some [.var 28 (I0 w)]]⟩
def b3D(w:m6)(i3:Int):Option (l8 Bool Int Unit) :=
 (bif decide (i3<(w.Told.length:Int)) then ((idx w.Told i3).bind fun told=>((b4p told).bind fun c37=>(bif (!c37) then some (l8.ret false) else some (l8.nxt (m8 (i3+1)))))) else some (l8.brk ()))
theorem e5Q(w):LQ K1 c4W (d4z w) (fun s=>b3D w s):=fun lc i3 h=>PK<|rg<|j5 4 h (fun h=>rg<|w9 x7 3 h fun told a7l h=>j9 d2N d7t 5 h fun c37 h=>j5 6 h (fun h=>rg<|fL lc h) (fun h=>rg<|(lc.nx h fun hI=>sk [] [1,6] [(1,0)] hI))) (fun h=>(lc.bk h fun hI=>sk [] [] [] hI))
def b5b(w:m6):Option Bool :=
 ((p8 (fun s:Int=>b3D w s) 0).bind fun x=>x.go (fun r=>some r) fun s=>d1r)
theorem e7K(w)(r):NF K1 r (d1g w) (fun s=>b5b w):=fun _ h=>PK<|rg<|lp (e5Q w) h (fun _ h=>K1.rt h) (d5P r) fun hI=>sk [] [1,6] [(1,0)] hI
def d5p(w:m6):Int->KS:=fun i2=>⟨K1.k 7 [false,false,false],(bs 1 (.ptr 1 0 0::(bs 3 (vi i2::(bs 100 []))))),[some [],some [.var 28 (I0 w)]]⟩
def b7j(w:m6)(i2:Int):Option (l8 Bool Int Unit) :=
 (bif decide (i2<(w.d7.length:Int)) then ((idx w.d7 i2).bind fun asked=>((a8C asked.a5).bind fun a5k=>(bif (!a5k) then some (l8.ret false) else ((b0b asked.i5).bind fun D5=>(bif (!D5) then some (l8.ret false) else some (l8.nxt (m8 (i2+1)))))))) else some (l8.brk ()))
theorem e2t(w):LQ K1 (d1g w) (d5p w) (fun s=>b7j w s):=fun lc i2 h=>PK<|rg<|j5 4 h (fun h=>rg<|w9 A7 3 h fun asked a7k h=>j9 b8A c01 6 h fun a5k h=>j5 8 h (fun h=>rg<|fL lc h) (fun h=>L7 A7 12 a7k<|j9 a4Z c1s 15 h fun D5 h=>j5 17 h (fun h=>rg<|fL lc h) (fun h=>rg<|(lc.nx h fun hI=>sk [] [1,5] [(1,0)] hI)))) (fun h=>(lc.bk h fun hI=>sk [] [1] [(1,0)] hI))
def b4W(w:m6):Option Bool :=
 ((p8 (fun s:Int=>b7j w s) 0).bind fun x=>x.go (fun r=>some r) fun s=>b5b w)
theorem e64(w)(r):NF K1 r (c8H w) (fun s=>b4W w):=fun _ h=>PK<|rg<|lp (e2t w) h (fun _ h=>K1.rt h) (e7K w r) fun hI=>sk [] [1,5] [(1,0)] hI
def e4r(w:m6):Int->KS:=fun i1=>⟨K1.k 5 [false,false],(bs 1 (.ptr 1 0 0::(bs 2 (vi i1::(bs 101 []))))),[some [],some [.var 28 (I0 w)]]⟩
def b3M(w:m6)(i1:Int):Option (l8 Bool Int Unit) :=
 (bif decide (i1<(w.b9.length:Int)) then ((idx w.b9 i1).bind fun msg=>((b7X msg).bind fun O2=>(bif (!O2) then some (l8.ret false) else some (l8.nxt (m8 (i1+1)))))) else some (l8.brk ()))
theorem e53(w):LQ K1 (c8H w) (e4r w) (fun s=>b3M w s):=fun lc i1 h=>PK<|rg<|j5 4 h (fun h=>rg<|w9 s5 3 h fun msg hmsg h=>j9 a82 d96 5 h fun O2 h=>j5 6 h (fun h=>rg<|fL lc h) (fun h=>rg<|(lc.nx h fun hI=>sk [] [1,4] [(1,0)] hI))) (fun h=>(lc.bk h fun hI=>sk [] [1] [(1,0)] hI))
def b7b(w:m6):Option Bool :=
 ((p8 (fun s:Int=>b3M w s) 0).bind fun x=>x.go (fun r=>some r) fun s=>b4W w)
theorem d5t(w)(r):NF K1 r (c85 w) (fun s=>b7b w):=fun _ h=>PK<|rg<|lp (e53 w) h (fun _ h=>K1.rt h) (e64 w r) fun hI=>sk [] [1,4] [(1,0)] hI
def e0S(w:m6):Int->KS:=fun i=>⟨K1.k 3 [false],(bs 1 (.ptr 1 0 0::(bs 1 (vi i::(bs 102 []))))),[some [],some [.var 28 (I0 w)]]⟩
def b7k(w:m6)(i:Int):Option (l8 Bool Int Unit) :=
 (bif decide (i<(w.a9.length:Int)) then ((idx w.a9 i).bind fun node=>(bif (node.Id != i) then some (l8.ret false) else ((a4s node).bind fun C7=>(bif (!C7) then some (l8.ret false) else some (l8.nxt (m8 (i+1))))))) else some (l8.brk ()))
theorem d9a(w):LQ K1 (c85 w) (e0S w) (fun s=>b7k w s):=fun lc i h=>PK<|rg<|j5 4 h (fun h=>rg<|w9 A2 3 h fun node hnode h=>j5 8 h (fun h=>rg<|fL lc h) (fun h=>L7 A2 12 hnode<|j9 a1K a9U 14 h fun C7 h=>j5 16 h (fun h=>rg<|fL lc h) (fun h=>rg<|(lc.nx h fun hI=>sk [] [1,3] [(1,0)] hI)))) (fun h=>(lc.bk h fun hI=>sk [] [1] [(1,0)] hI))
def b0R(w:m6):Option Bool :=
 (bif ((w.a9.length:Int) != 3) then some false else (bif decide ((w.b9.length:Int)>40) then some false else (bif decide ((w.d7.length:Int)>60) then some false else (bif decide ((w.Told.length:Int)>60) then some false else ((p8 (fun s:Int=>b7k w s) 0).bind fun x=>x.go (fun r=>some r) fun s=>b7b w)))))
theorem c0N{w}:OK K1 [.agg (a0h w)] (b0R w) :=
 n8 _ fun r h=>n6<|j5 4 h (fun h=>rg<|fE h) (fun h=>j5 10 h (fun h=>rg<|fE h) (fun h=>j5 16 h (fun h=>rg<|fE h) (fun h=>j5 21 h (fun h=>rg<|fE h) (fun h=>rg<|lp (d9a w) h (fun _ h=>K1.rt h) (d5t w r) fun hI=>sk [] [1,3] [(1,0)] hI))))
def T3:FS (m6):=⟨26,Tryz.f26,[.val E4 Q2],[none],[.val E4 []],fun r=>.agg (R7 r),fun _=>[none],Tryz.func26⟩
def d1v(w:m6):(List j6)->KS:=fun Nodes1=>⟨T3.k 4 [false],(bs 1 (.ptr 1 0 0::(.ptr 2 0 0::(.ptr 3 0 0::(bs 72 []))))),[some [],some [.var 28 (I0 w)],some [.var 28 [.nil,.nil,.nil,.nil]],some [.var 28 [.own 4 0 27 0 Nodes1.length,.nil,.nil,.own 5 0 5 0 (([]:List m9)++w.Told).length]],some [B8 65 27 x9 Nodes1],some [m5 72 5 x7 (([]:List m9)++w.Told)]]⟩
def d2v(w:m6)(Nodes1:List j6):(List j8)->KS:=fun Net1=>⟨T3.k 6 [false,false],(bs 1 (.ptr 1 0 0::(.ptr 2 0 0::(.ptr 3 0 0::(bs 72 []))))),[some [],some [.var 28 (I0 w)],some [.var 28 [.nil,.nil,.nil,.nil]],some [.var 28 [.own 4 0 27 0 Nodes1.length,.own 5 0 13 0 Net1.length,.nil,.own 6 0 5 0 (([]:List m9)++w.Told).length]],some [B8 65 27 x9 Nodes1],some [m5 76 13 s5 Net1],some [m5 72 5 x7 (([]:List m9)++w.Told)]]⟩
def c7z(w:m6)(Nodes1:List j6)(Net1:List j8):(List v5)->KS:=fun Asked1=>⟨T3.k 8 [false,false,false],(bs 2 (.ptr 1 0 0::(.ptr 2 0 0::(bs 72 [])))),[some [],some [.var 28 [.nil,.nil,.nil,.nil]],some [.var 28 [.own 3 0 27 0 Nodes1.length,.own 4 0 13 0 Net1.length,.own 5 0 3 0 Asked1.length,.own 6 0 5 0 (([]:List m9)++w.Told).length]],some [B8 65 27 x9 Nodes1],some [m5 76 13 s5 Net1],some [m5 78 3 A7 Asked1],some [m5 72 5 x7 (([]:List m9)++w.Told)]]⟩
def c7x(w:m6)(Nodes1:List j6)(Net1:List j8)(Asked1:List v5):Option m6 :=
 some (m6.mk Nodes1 Net1 Asked1 (([]:List m9)++w.Told))
theorem e78(w Nodes1 Net1)(r):NF T3 r (c7z w Nodes1 Net1) (fun s=>c7x w Nodes1 Net1 s):=fun Asked1 h=>PK<|rg<|G0 Nodes1 Net1 Asked1 (([]:List m9)++w.Told)<|fE h
def e1X(w:m6)(Nodes1:List j6)(Net1:List j8):((List v5)×Int)->KS:=fun (d7,i2)=>⟨T3.k 7 [false,false],(bs 1 (.ptr 1 0 0::(.ptr 2 0 0::(.ptr 3 0 0::(bs 2 (vi i2::(bs 69 []))))))),[some [],some [.var 28 (I0 w)],some [.var 28 [.nil,.nil,.nil,.nil]],some [.var 28 [.own 4 0 27 0 Nodes1.length,.own 5 0 13 0 Net1.length,.own 7 0 3 0 d7.length,.own 6 0 5 0 (([]:List m9)++w.Told).length]],some [B8 65 27 x9 Nodes1],some [m5 76 13 s5 Net1],some [m5 72 5 x7 (([]:List m9)++w.Told)],some [m5 78 3 A7 d7]]⟩
def b2J(w:m6)(d7:List v5)(i2:Int):Option (l8 m6 ((List v5)×Int) (List v5)) :=
 (bif decide (i2<(w.d7.length:Int)) then ((idx w.d7 i2).bind fun asked=>(t5 ((([]:List o9).length+asked.i5.length)*32<=140737488355328) ((t5 ((d7.length+1)*40<=140737488355328) (some (l8.nxt (d7++[(v5.mk asked.a5 (([]:List o9)++asked.i5))],m8 (i2+1)))))))) else some (l8.brk d7))
theorem e5N(w Nodes1 Net1):LQ T3 (c7z w Nodes1 Net1) (e1X w Nodes1 Net1) (fun s=>b2J w s.1 s.2):=fun lc (d7,i2) h=>PK<|rg<|j5 4 h (fun h=>rg<|w9 A7 5 h fun asked a7k h=>tk 8 []<|L7 A7 12 a7k<|t6 h fun e2 h=>oa 28 0 4 ([]:List o9) asked.i5<|oz 83 4 z6 ([]:List o9) asked.i5<|B6 o9<|ob e2<|tl (15,{v:=some (.own 28 0 4 0 (([]:List o9)++asked.i5).length),e:=some (m5 83 4 z6 (([]:List o9)++asked.i5))})<|s7 (([]:List o9)++asked.i5)<|tk 17 [none,none,some 4]<|t6 h fun e3 h=>F7 18 31 78 3 40 A7 d7 (v5.mk asked.a5 (([]:List o9)++asked.i5)) e3<|E5 (v5.mk asked.a5 (([]:List o9)++asked.i5))<|rg<|(lc.nx h fun hI=>sk [] [1,2,3,6] [(1,0),(2,0),(3,0),(4,0),(5,0),(6,0),(31,0)] hI)) (fun h=>(lc.bk h fun hI=>sk [] [2,3] [(2,0),(3,0),(4,0),(5,0),(7,0),(6,0)] hI))
def c2t(w:m6)(Nodes1:List j6)(Net1:List j8):Option m6 :=
 ((p8 (fun s:(List v5)×Int=>b2J w s.1 s.2) ([],0)).bind fun x=>x.go (fun r=>some r) fun s=>c7x w Nodes1 Net1 s)
theorem d4G(w Nodes1)(r):NF T3 r (d2v w Nodes1) (fun s=>c2t w Nodes1 s):=fun Net1 h=>PK<|rg<|lp (e5N w Nodes1 Net1) h (fun _ h=>T3.rt h) (e78 w Nodes1 Net1 r) fun hI=>sk [.own (.cell 3 0 2) 78 3] [1,2,3,6] [(1,0),(2,0),(3,0),(4,0),(5,0),(6,0),(8,0)] hI
def e05(w:m6)(Nodes1:List j6):((List j8)×Int)->KS:=fun (b9,i1)=>⟨T3.k 5 [false],(bs 1 (.ptr 1 0 0::(.ptr 2 0 0::(.ptr 3 0 0::(bs 1 (vi i1::(bs 70 []))))))),[some [],some [.var 28 (I0 w)],some [.var 28 [.nil,.nil,.nil,.nil]],some [.var 28 [.own 4 0 27 0 Nodes1.length,.own 6 0 13 0 b9.length,.nil,.own 5 0 5 0 (([]:List m9)++w.Told).length]],some [B8 65 27 x9 Nodes1],some [m5 72 5 x7 (([]:List m9)++w.Told)],some [m5 76 13 s5 b9]]⟩
def b1e(w:m6)(b9:List j8)(i1:Int):Option (l8 m6 ((List j8)×Int) (List j8)) :=
 (bif decide (i1<(w.b9.length:Int)) then ((idx w.b9 i1).bind fun msg=>((a7e msg).bind fun E9=>(t5 ((b9.length+1)*152<=140737488355328) (some (l8.nxt (b9++[E9],m8 (i1+1))))))) else some (l8.brk b9))
theorem e8u(w Nodes1):LQ T3 (d2v w Nodes1) (e05 w Nodes1) (fun s=>b1e w s.1 s.2):=fun lc (b9,i1) h=>PK<|rg<|j5 4 h (fun h=>rg<|w9 s5 5 h fun msg hmsg h=>j9 b1P b66 7 h fun E9 h=>tk 8 B5<|t6 h fun e4 h=>F7 9 21 76 13 152 s5 b9 E9 e4<|E5 E9<|rg<|(lc.nx h fun hI=>sk [] [1,2,3,5] [(1,0),(2,0),(3,0),(4,0),(5,0),(21,0)] hI)) (fun h=>(lc.bk h fun hI=>sk [] [1,2,3] [(1,0),(2,0),(3,0),(4,0),(6,0),(5,0)] hI))
def c2H(w:m6)(Nodes1:List j6):Option m6 :=
 ((p8 (fun s:(List j8)×Int=>b1e w s.1 s.2) ([],0)).bind fun x=>x.go (fun r=>some r) fun s=>c2t w Nodes1 s)
theorem d8A(w)(r):NF T3 r (d1v w) (fun s=>c2H w s):=fun Nodes1 h=>PK<|rg<|lp (e8u w Nodes1) h (fun _ h=>T3.rt h) (d4G w Nodes1 r) fun hI=>sk [.own (.cell 3 0 1) 76 13] [1,2,3,5] [(1,0),(2,0),(3,0),(4,0),(5,0),(7,0)] hI
def d6G(w:m6):((List j6)×Int)->KS:=fun (a9,i)=>⟨T3.k 3 [],(bs 1 (.ptr 1 0 0::(.ptr 2 0 0::(.ptr 3 0 0::(vi i::(bs 71 [])))))),[some [],some [.var 28 (I0 w)],some [.var 28 [.nil,.nil,.nil,.nil]],some [.var 28 [.own 5 0 27 0 a9.length,.nil,.nil,.own 4 0 5 0 (([]:List m9)++w.Told).length]],some [m5 72 5 x7 (([]:List m9)++w.Told)],some [B8 65 27 x9 a9]]⟩
def e0I(l8Copy:j6):List V:=(a6a l8Copy)
def b3i(w:m6)(a9:List j6)(i:Int):Option (l8 m6 ((List j6)×Int) (List j6)) :=
 (bif decide (i<(w.a9.length:Int)) then ((idx w.a9 i).bind fun node=>((a6h node).bind fun l8Copy=>(t5 ((a9.length+1)*392<=140737488355328) (some (l8.nxt (a9++[l8Copy],m8 (i+1))))))) else some (l8.brk a9))
theorem d3O(w):LQ T3 (d1v w) (d6G w) (fun s=>b3i w s.1 s.2):=fun lc (a9,i) h=>PK<|rg<|j5 4 h (fun h=>rg<|w9 A2 5 h fun node hnode h=>j9 b0a b2P 7 h fun l8Copy h=>om (s6.deep false 65 27 1 [(e0I l8Copy)]=B8 65 27 x9 [l8Copy]) rfl<|z9 l8Copy<|tl (8,{a:=.dck [none,none,some 8,some 7,none,none,none,some 1,some 8,none,none,none,some 2,some 2,none,none,some 1,none,some 4,none,none,none,some 2,some 2,none,none,some 7] [none,none,some 152,some 43,none,none,none,some 4,none,none,none,none,none,none,none,none,some 4,none,none,none,none,none,none,none,none,none,some 43],e:=some (B8 65 27 x9 [l8Copy])})<|t6 h fun e5 h=>om (V.own 20 0 27 0 (a9.length+1)=.own 20 0 27 0 (a9++[l8Copy]).length) (by simp)<|om (s6.deep false 65 27 (a9.length+1) (a9.map x9++[x9 l8Copy])=B8 65 27 x9 (a9++[l8Copy])) (c1m rfl)<|s7 a9<|ob e5<|om (1=1) rfl<|tl (9,{a:=.dck [] [],v:=some (.own 20 0 27 0 (a9++[l8Copy]).length),e:=some (B8 65 27 x9 (a9++[l8Copy]))})<|rg<|(lc.nx h fun hI=>sk [] [1,2,3,4] [(1,0),(2,0),(3,0),(4,0),(20,0)] hI)) (fun h=>(lc.bk h fun hI=>sk [] [1,2,3] [(1,0),(2,0),(3,0),(5,0),(4,0)] hI))
def b1t(w:m6):Option m6 :=
 (t5 ((([]:List m9).length+w.Told.length)*40<=140737488355328) (((p8 (fun s:(List j6)×Int=>b3i w s.1 s.2) ([],0)).bind fun x=>x.go (fun r=>some r) fun s=>c2H w s)))
theorem c5a{w}:OK T3 [.agg (a0h w)] (b1t w) :=
 n8 _ fun r h=>n6<|tk 0 []<|t6 h fun e1 h=>oa 6 0 5 ([]:List m9) w.Told<|oz 72 5 x7 ([]:List m9) w.Told<|B6 m9<|ob e1<|tl (3,{v:=some (.own 6 0 5 0 (([]:List m9)++w.Told).length),e:=some (m5 72 5 x7 (([]:List m9)++w.Told))})<|rg<|lp (d3O w) h (fun _ h=>T3.rt h) (d8A w r) fun hI=>sk [.ownD (.cell 8 0 0) 65 27] [1,2,3,4] [(1,0),(2,0),(8,0),(6,0),(11,0)] hI
def a4o:FS ((List p7)×s9):=⟨54,Tryz.f54,[.val [some 3] [some 58]],[some (0,.ptr [some 1,none] []),none,none],[.ptr [some 1,none] [],.val E4 Q2,.val [] []],fun r=>u7 58 3 G1 r.1,fun r=>[some (.optr 119 (W5 r.2)),none,none],Tryz.func54⟩
def b9y:(s9×List p7)->KS:=fun (w1,out1)=>⟨a4o.k 4 [false],(bs 7 (.own 1 0 3 0 out1.length::(bs 22 []))),[some [.var 119 [l7 1 J0 w1.b,vi w1.p],.dead,.dead,.dead,.dead],some [m5 58 3 G1 out1]]⟩
def c9p(w1:s9)(out1:List p7):Option ((List p7)×s9) :=
 some (out1,w1)
theorem e7x(r):NF a4o r b9y (fun s=>c9p s.1 s.2):=fun (w1,out1) h=>PK<|rg<|s7 out1<|fE h
def c59(n:Int):(s9×(List p7)×(List m9)×(List v5)×(List j8)×(List j6)×Int)->KS:=fun (r_1,out,Told,d7,b9,a9,i)=>⟨a4o.k 3 [],(.ptr 0 0 0::(bs 1 (vi n::(bs 1 (.ptr 1 0 0::(bs 2 (.own 2 0 3 0 out.length::(vi i::(bs 21 []))))))))),[some [.var 119 [l7 1 J0 r_1.b,vi r_1.p],.dead,.dead,.dead,.dead],some [.var 28 [.own 6 0 27 0 a9.length,.own 5 0 13 0 b9.length,.own 4 0 3 0 d7.length,.own 3 0 5 0 Told.length]],some [m5 58 3 G1 out],some [m5 72 5 x7 Told],some [m5 78 3 A7 d7],some [m5 76 13 s5 b9],some [B8 65 27 x9 a9]]⟩
def e4c(n:Int)(out:List p7)(i:Int)(l9Event:p7×s9×m6):((List j6)×(List j8)×(List v5)×List m9)->KS:=fun (Nodes1,Net1,Asked1,Told1)=>⟨a4o.k 8 [true,true],(.ptr 0 0 0::(bs 1 (vi n::(bs 1 (.ptr 1 0 0::(bs 2 (.own 6 0 3 0 (out++[l9Event.1]).length::(vi i::(bs 21 []))))))))),[some [.var 119 [l7 1 J0 l9Event.2.1.b,vi l9Event.2.1.p],.dead,.dead,.dead,.dead],some [.var 28 [.own 2 0 27 0 Nodes1.length,.own 3 0 13 0 Net1.length,.own 4 0 3 0 Asked1.length,.own 5 0 5 0 Told1.length]],some [B8 65 27 x9 Nodes1],some [m5 76 13 s5 Net1],some [m5 78 3 A7 Asked1],some [m5 72 5 x7 Told1],some [m5 58 3 G1 (out++[l9Event.1])]]⟩
def b97(out:List p7)(i:Int)(l9Event:p7×s9×m6)(Nodes1:List j6)(Net1:List j8)(Asked1:List v5)(Told1:List m9):Option (l8 ((List p7)×s9) (s9×(List p7)×(List m9)×(List v5)×(List j8)×(List j6)×Int) (s9×List p7)) :=
 some (l8.nxt (l9Event.2.1,out++[l9Event.1],Told1,Asked1,Net1,Nodes1,m8 (i+1)))
theorem d5U(n out i l9Event)(lc:I5 a4o b9y (c59 n)):NL lc (e4c n out i l9Event) (fun s=>b97 out i l9Event s.1 s.2.1 s.2.2.1 s.2.2.2):=fun (Nodes1,Net1,Asked1,Told1) h=>PK<|rg<|(lc.nx h fun hI=>sk [] [0,2,4,7,8] [(1,0),(6,0),(5,0),(4,0),(3,0),(2,0)] hI)
def b35(n:Int)(r_1:s9)(out:List p7)(Told:List m9)(d7:List v5)(b9:List j8)(a9:List j6)(i:Int):Option (l8 ((List p7)×s9) (s9×(List p7)×(List m9)×(List v5)×(List j8)×(List j6)×Int) (s9×List p7)) :=
 (bif decide (i<n) then ((b4R r_1 (m6.mk a9 b9 d7 Told)).bind fun l9Event=>(t5 (a9.length=l9Event.2.2.a9.length) ((t5 (b9.length=l9Event.2.2.b9.length) ((t5 (d7.length=l9Event.2.2.d7.length) ((t5 (Told.length=l9Event.2.2.Told.length) ((t5 ((out.length+1)*40<=140737488355328) (((((b0R l9Event.2.2).bind fun J2=>(bif J2 then ((b1t l9Event.2.2).bind fun a1h=>((b0r a1h l9Event.1).bind fun a0C=>some (l9.brk (a0C.a9,a0C.b9,a0C.d7,a0C.Told)))) else some (l9.brk (l9Event.2.2.a9,l9Event.2.2.b9,l9Event.2.2.d7,l9Event.2.2.Told)))):Option (l9 (l8 ((List p7)×s9) (s9×(List p7)×(List m9)×(List v5)×(List j8)×(List j6)×Int) (s9×List p7)) ((List j6)×(List j8)×(List v5)×List m9))).bind fun x=>x.go some fun j=>b97 out i l9Event j.1 j.2.1 j.2.2.1 j.2.2.2)))))))))))) else some (l8.brk (r_1,out)))
set_option maxRecDepth 20000 in
theorem d4s(n):LQ a4o b9y (c59 n) (fun s=>b35 n s.1 s.2.1 s.2.2.1 s.2.2.2.1 s.2.2.2.2.1 s.2.2.2.2.2.1 s.2.2.2.2.2.2):=fun lc (r_1,out,Told,d7,b9,a9,i) h=>PK<|rg<|j5 2 h (fun h=>rg<|j9 b6q d9L 2 h fun l9Event h=>t6 h fun e1 h=>t6 h fun e2 h=>t6 h fun e3 h=>t6 h fun e4 h=>G0 a9 b9 d7 Told<|rg<|s7 l9Event.1.i5<|tk 2 [none,none,some 4]<|t6 h fun e5 h=>F7 3 18 58 3 40 G1 out l9Event.1 e5<|E5 l9Event.1<|B2 h (d5U n out i l9Event lc) fun x2 h hc2=>rg<|A6 h fun J2 c7a h=>cdT (K1.t 1 true J2) h (fun _ h=>om (X7 cx.P 25 [.agg [.sl 27 l9Event.2.2.a9.length (Z6 (l9Event.2.2.a9.map x9)),l7 13 s5 l9Event.2.2.b9,l7 3 A7 l9Event.2.2.d7,l7 5 x7 l9Event.2.2.Told]] (K1.R J2) (K1.O J2)) (by simp only [a9b b23];exact (c0N J2 c7a))<|osc K1 J2 rfl (P8 1)<|om (a9.length=l9Event.2.2.a9.length) (by first|(simp;done)|(simp [e1,e2,e3,e4];done))<|om (b9.length=l9Event.2.2.b9.length) (by first|(simp;done)|(simp [e1,e2,e3,e4];done))<|om (d7.length=l9Event.2.2.d7.length) (by first|(simp;done)|(simp [e1,e2,e3,e4];done))<|om (Told.length=l9Event.2.2.Told.length) (by first|(simp;done)|(simp [e1,e2,e3,e4];done))<|rg<|A6 h fun a1h e37 h=>om (X7 cx.P 26 [.agg [.sl 27 l9Event.2.2.a9.length (Z6 (l9Event.2.2.a9.map x9)),l7 13 s5 l9Event.2.2.b9,l7 3 A7 l9Event.2.2.d7,l7 5 x7 l9Event.2.2.Told]] (T3.R a1h) (T3.O a1h)) (by simp only [a9b b23];exact (c5a a1h e37))<|om (a9.length=l9Event.2.2.a9.length) (by first|(simp;done)|(simp [e1,e2,e3,e4];done))<|om (b9.length=l9Event.2.2.b9.length) (by first|(simp;done)|(simp [e1,e2,e3,e4];done))<|om (d7.length=l9Event.2.2.d7.length) (by first|(simp;done)|(simp [e1,e2,e3,e4];done))<|om (Told.length=l9Event.2.2.Told.length) (by first|(simp;done)|(simp [e1,e2,e3,e4];done))<|tl (T3.t 1 false a1h)<|j9 a86 c0U 3 h fun a0C h=>A5 a1h<|s7 l9Event.1.i5<|(o8 h hc2 fun hI=>sk [] [0,2,4,7,8] [(1,0),(25,0),(25,1),(25,2),(25,3),(18,0)] hI)) (fun _ h=>om (X7 cx.P 25 [.agg [.sl 27 l9Event.2.2.a9.length (Z6 (l9Event.2.2.a9.map x9)),l7 13 s5 l9Event.2.2.b9,l7 3 A7 l9Event.2.2.d7,l7 5 x7 l9Event.2.2.Told]] (K1.R J2) (K1.O J2)) (by simp only [a9b b23];exact (c0N J2 c7a))<|osc K1 J2 rfl (P8 1)<|om (a9.length=l9Event.2.2.a9.length) (by first|(simp;done)|(simp [e1,e2,e3,e4];done))<|om (b9.length=l9Event.2.2.b9.length) (by first|(simp;done)|(simp [e1,e2,e3,e4];done))<|om (d7.length=l9Event.2.2.d7.length) (by first|(simp;done)|(simp [e1,e2,e3,e4];done))<|om (Told.length=l9Event.2.2.Told.length) (by first|(simp;done)|(simp [e1,e2,e3,e4];done))<|(o8 h hc2 fun hI=>om ((.own 6 0 27 0 a9.length:V)=.own 6 0 27 0 l9Event.2.2.a9.length) (by first|(simp;done)|(simp [e1,e2,e3,e4];done))<|om ((.own 5 0 13 0 b9.length:V)=.own 5 0 13 0 l9Event.2.2.b9.length) (by first|(simp;done)|(simp [e1,e2,e3,e4];done))<|om ((.own 4 0 3 0 d7.length:V)=.own 4 0 3 0 l9Event.2.2.d7.length) (by first|(simp;done)|(simp [e1,e2,e3,e4];done))<|om ((.own 3 0 5 0 Told.length:V)=.own 3 0 5 0 l9Event.2.2.Told.length) (by first|(simp;done)|(simp [e1,e2,e3,e4];done))<|sk [.is (.cell 1 0 0) (.own 6 0 27 0 l9Event.2.2.a9.length),.is (.cell 1 0 1) (.own 5 0 13 0 l9Event.2.2.b9.length),.is (.cell 1 0 2) (.own 4 0 3 0 l9Event.2.2.d7.length),.is (.cell 1 0 3) (.own 3 0 5 0 l9Event.2.2.Told.length)] [0,2,4,7,8] [(1,0),(6,0),(5,0),(4,0),(3,0),(18,0)] hI))) (fun h=>(lc.bk h fun hI=>sk [] [7] [(2,0)] hI))
def b3Z(r_:s9)(w:m6)(n:Int):Option ((List p7)×s9) :=
 ((p8 (fun s:s9×(List p7)×(List m9)×(List v5)×(List j8)×(List j6)×Int=>b35 n s.1 s.2.1 s.2.2.1 s.2.2.2.1 s.2.2.2.2.1 s.2.2.2.2.2.1 s.2.2.2.2.2.2) (r_,([]:List p7),w.Told,w.d7,w.b9,w.a9,0)).bind fun x=>x.go (fun r=>some r) fun s=>c9p s.1 s.2)
theorem e9b{r_ w n}:OK a4o [.optr 119 (W5 r_),.agg (R7 w),vi n] (b3Z r_ w n) :=
 n8 _ fun r h=>n6<|tk 0 [none,none,some 4]<|rg<|lp (d4s n) h (fun _ h=>a4o.rt h) (e7x r) fun hI=>om ((.own 3 0 3 0 0:V)=.own 3 0 3 0 ([]:List p7).length) (by simp)<|sk [.is (.tmp 7) (.own 3 0 3 0 ([]:List p7).length)] [0,2,4,7,8] [(1,0),(3,0),(0,4),(0,3),(0,2),(0,1)] hI
def a1C:FS (m6×(List p7)×s9):=⟨56,Tryz.f56,[.val E4 Q2,.val [some 3] [some 58]],[some (0,.ptr [some 1,none] []),none,none],[.ptr [some 1,none] [],.val E4 Q2,.val [some 3] [some 58]],fun r=>.tup [.agg (R7 r.1),u7 58 3 G1 r.2.1],fun r=>[some (.optr 119 (W5 r.2.2)),none,none],Tryz.func56⟩
def c02(pick:Int×s9)(num:Int×s9):((List p7)×(List j6)×(List j8)×(List v5)×List m9)->KS:=fun (out2,Nodes1,Net1,Asked1,Told1)=>⟨a1C.k 4 [false],(.ptr 0 0 0::(bs 1 (.own 1 0 3 0 out2.length::(bs 1 (.ptr 2 0 0::(bs 1 (.ptr 7 0 0::(bs 1 (vi pick.1::(bs 52 [])))))))))),[some [.var 119 [l7 1 J0 num.2.b,vi num.2.p],.dead,.dead,.dead,.dead,.dead],some [m5 58 3 G1 out2],some [.var 28 [.own 3 0 27 0 Nodes1.length,.own 4 0 13 0 Net1.length,.own 5 0 3 0 Asked1.length,.own 6 0 5 0 Told1.length]],some [B8 65 27 x9 Nodes1],some [m5 76 13 s5 Net1],some [m5 78 3 A7 Asked1],some [m5 72 5 x7 Told1],some [.var 28 [.nil,.nil,.nil,.nil]]]⟩
def d44(pick:Int×s9):(s9×(List p7)×(List j6)×(List j8)×(List v5)×List m9)->KS:=fun (w1,out3,Nodes2,Net2,Asked2,Told2)=>⟨a1C.k 6 [false,true],(bs 2 (.own 1 0 3 0 out3.length::(bs 1 (.ptr 2 0 0::(bs 1 (.ptr 7 0 0::(bs 1 (vi pick.1::(bs 52 []))))))))),[some [.var 119 [l7 1 J0 w1.b,vi w1.p],.dead,.dead,.dead,.dead,.dead],some [m5 58 3 G1 out3],some [.var 28 [.own 3 0 27 0 Nodes2.length,.own 4 0 13 0 Net2.length,.own 5 0 3 0 Asked2.length,.own 6 0 5 0 Told2.length]],some [B8 65 27 x9 Nodes2],some [m5 76 13 s5 Net2],some [m5 78 3 A7 Asked2],some [m5 72 5 x7 Told2],some [.var 28 [.nil,.nil,.nil,.nil]]]⟩
def b4i(pick:Int×s9)(w1:s9)(out3:List p7)(Nodes2:List j6)(Net2:List j8)(Asked2:List v5)(Told2:List m9):Option (m6×(List p7)×s9) :=
 ((a0O (m6.mk Nodes2 Net2 Asked2 Told2) out3 (p7.mk 7 pick.1 [])).bind fun R3=>some (R3.1,R3.2,w1))
theorem e6u(pick)(r):NF a1C r (d44 pick) (fun s=>b4i pick s.1 s.2.1 s.2.2.1 s.2.2.2.1 s.2.2.2.2.1 s.2.2.2.2.2):=fun (w1,out3,Nodes2,Net2,Asked2,Told2) h=>PK<|rg<|j9 a2c a2Z 4 h fun R3 h=>G0 Nodes2 Net2 Asked2 Told2<|s7 out3<|A5 R3.1<|s7 R3.2<|fE h
def c0x(pick:Int×s9)(num:Int×s9)(out2:List p7)(Nodes1:List j6)(Net1:List j8)(Asked1:List v5)(Told1:List m9):Option (m6×(List p7)×s9) :=
 (((bif decide ((Net1.length:Int)>0) then ((E2 num.2 (Net1.length:Int)).bind fun E0=>((a0O (m6.mk Nodes1 Net1 Asked1 Told1) out2 (p7.mk 2 E0.1 [])).bind fun a1u=>some (l9.brk (E0.2,a1u.2,a1u.1.a9,a1u.1.b9,a1u.1.d7,a1u.1.Told)))) else some (l9.brk (num.2,out2,Nodes1,Net1,Asked1,Told1))):Option (l9 (m6×(List p7)×s9) (s9×(List p7)×(List j6)×(List j8)×(List v5)×List m9))).bind fun x=>x.go some fun j=>b4i pick j.1 j.2.1 j.2.2.1 j.2.2.2.1 j.2.2.2.2.1 j.2.2.2.2.2)
theorem d4E(pick num)(r):NF a1C r (c02 pick num) (fun s=>c0x pick num s.1 s.2.1 s.2.2.1 s.2.2.2.1 s.2.2.2.2):=fun (out2,Nodes1,Net1,Asked1,Told1) h=>PK<|B2 h (e6u pick r) fun x1 h hc1=>rg<|j5 3 h (fun h=>rg<|j9 E7 F4 6 h fun E0 h=>j9 a2c a2Z 8 h fun a1u h=>G0 Nodes1 Net1 Asked1 Told1<|s7 out2<|(o8 h hc1 fun hI=>sk [] [2,4,6,8] [(20,4),(2,0),(20,0),(20,1),(20,2),(20,3),(7,0)] hI)) (fun h=>(o8 h hc1 fun hI=>sk [] [2,4,6,8] [(1,0),(2,0),(3,0),(4,0),(5,0),(6,0),(7,0)] hI))
def c6L(pick:Int×s9)(num:Int×s9):((List m9)×(List v5)×(List j8)×(List j6)×(List p7)×Int)->KS:=fun (Told,d7,b9,a9,out1,i)=>⟨a1C.k 3 [],(.ptr 0 0 0::(bs 1 (.own 7 0 3 0 out1.length::(bs 1 (.ptr 1 0 0::(bs 1 (.ptr 2 0 0::(bs 1 (vi pick.1::(vi i::(bs 51 []))))))))))),[some [.var 119 [l7 1 J0 num.2.b,vi num.2.p],.dead,.dead,.dead,.dead,.dead],some [.var 28 [.own 6 0 27 0 a9.length,.own 5 0 13 0 b9.length,.own 4 0 3 0 d7.length,.own 3 0 5 0 Told.length]],some [.var 28 [.nil,.nil,.nil,.nil]],some [m5 72 5 x7 Told],some [m5 78 3 A7 d7],some [m5 76 13 s5 b9],some [B8 65 27 x9 a9],some [m5 58 3 G1 out1]]⟩
def c4G(pick:Int×s9)(num:Int×s9)(i:Int):((List p7)×(List j6)×(List j8)×(List v5)×List m9)->KS:=fun (out5,Nodes4,Net4,Asked4,Told4)=>⟨a1C.k 5 [true,false],(.ptr 0 0 0::(bs 1 (.own 1 0 3 0 out5.length::(bs 1 (.ptr 2 0 0::(bs 1 (.ptr 7 0 0::(bs 1 (vi pick.1::(vi i::(bs 51 []))))))))))),[some [.var 119 [l7 1 J0 num.2.b,vi num.2.p],.dead,.dead,.dead,.dead,.dead],some [m5 58 3 G1 out5],some [.var 28 [.own 3 0 27 0 Nodes4.length,.own 4 0 13 0 Net4.length,.own 5 0 3 0 Asked4.length,.own 6 0 5 0 Told4.length]],some [B8 65 27 x9 Nodes4],some [m5 76 13 s5 Net4],some [m5 78 3 A7 Asked4],some [m5 72 5 x7 Told4],some [.var 28 [.nil,.nil,.nil,.nil]]]⟩
def c27(pick:Int×s9)(i:Int)(out5:List p7)(Nodes4:List j6)(Net4:List j8)(Asked4:List v5)(Told4:List m9):Option (l8 (m6×(List p7)×s9) ((List m9)×(List v5)×(List j8)×(List j6)×(List p7)×Int) ((List p7)×(List j6)×(List j8)×(List v5)×List m9)) :=
 ((a0O (m6.mk Nodes4 Net4 Asked4 Told4) out5 (p7.mk 5 pick.1 [])).bind fun a1y=>some (l8.nxt (a1y.1.Told,a1y.1.d7,a1y.1.b9,a1y.1.a9,a1y.2,m8 (i-1))))
theorem e1B(pick num i)(lc:I5 a1C (c02 pick num) (c6L pick num)):NL lc (c4G pick num i) (fun s=>c27 pick i s.1 s.2.1 s.2.2.1 s.2.2.2.1 s.2.2.2.2):=fun (out5,Nodes4,Net4,Asked4,Told4) h=>PK<|rg<|j9 a2c a2Z 4 h fun a1y h=>G0 Nodes4 Net4 Asked4 Told4<|s7 out5<|rg<|(lc.nx h fun hI=>sk [] [0,2,4,6,8,9] [(2,0),(7,0),(12,3),(12,2),(12,1),(12,0),(12,4)] hI)
def e8G(pick:Int×s9)(num:Int×s9)(i:Int):((List p7)×(List j6)×(List j8)×(List v5)×List m9)->KS:=fun (out4,Nodes3,Net3,Asked3,Told3)=>⟨a1C.k 4 [true],(.ptr 0 0 0::(bs 1 (.own 1 0 3 0 out4.length::(bs 1 (.ptr 2 0 0::(bs 1 (.ptr 7 0 0::(bs 1 (vi pick.1::(vi i::(bs 51 []))))))))))),[some [.var 119 [l7 1 J0 num.2.b,vi num.2.p],.dead,.dead,.dead,.dead,.dead],some [m5 58 3 G1 out4],some [.var 28 [.own 3 0 27 0 Nodes3.length,.own 4 0 13 0 Net3.length,.own 5 0 3 0 Asked3.length,.own 6 0 5 0 Told3.length]],some [B8 65 27 x9 Nodes3],some [m5 76 13 s5 Net3],some [m5 78 3 A7 Asked3],some [m5 72 5 x7 Told3],some [.var 28 [.nil,.nil,.nil,.nil]]]⟩
def a6t(out4:List p7)(Nodes3:List j6)(Net3:List j8)(Asked3:List v5)(Told3:List m9):Option (l8 (m6×(List p7)×s9) ((List p7)×(List j6)×(List j8)×(List v5)×List m9) ((List p7)×(List j6)×(List j8)×(List v5)×List m9)) :=
 (bif decide ((Net3.length:Int)>0) then ((a0O (m6.mk Nodes3 Net3 Asked3 Told3) out4 (p7.mk 3 0 [])).bind fun a1d=>some (l8.nxt (a1d.2,a1d.1.a9,a1d.1.b9,a1d.1.d7,a1d.1.Told))) else some (l8.brk (out4,Nodes3,Net3,Asked3,Told3)))
theorem e8w(pick num i):LQ a1C (c4G pick num i) (e8G pick num i) (fun s=>a6t s.1 s.2.1 s.2.2.1 s.2.2.2.1 s.2.2.2.2):=fun lc (out4,Nodes3,Net3,Asked3,Told3) h=>PK<|rg<|j5 3 h (fun h=>rg<|j9 a2c a2Z 3 h fun a1d h=>G0 Nodes3 Net3 Asked3 Told3<|s7 out4<|(lc.nx h fun hI=>sk [] [0,2,4,6,8,9] [(15,4),(2,0),(15,0),(15,1),(15,2),(15,3),(7,0)] hI)) (fun h=>(lc.bk h fun hI=>sk [] [0,2,4,6,8,9] [(1,0),(2,0),(3,0),(4,0),(5,0),(6,0),(7,0)] hI))
def a8F(pick:Int×s9)(Told:List m9)(d7:List v5)(b9:List j8)(a9:List j6)(out1:List p7)(i:Int):Option (l8 (m6×(List p7)×s9) ((List m9)×(List v5)×(List j8)×(List j6)×(List p7)×Int) ((List p7)×(List j6)×(List j8)×(List v5)×List m9)) :=
 (bif decide (i>0) then ((p8 (fun s:(List p7)×(List j6)×(List j8)×(List v5)×List m9=>a6t s.1 s.2.1 s.2.2.1 s.2.2.2.1 s.2.2.2.2) (out1,a9,b9,d7,Told)).bind fun x=>x.go (fun r=>some (l8.ret r)) fun s=>c27 pick i s.1 s.2.1 s.2.2.1 s.2.2.2.1 s.2.2.2.2) else some (l8.brk (out1,a9,b9,d7,Told)))
theorem d6j(pick num):LQ a1C (c02 pick num) (c6L pick num) (fun s=>a8F pick s.1 s.2.1 s.2.2.1 s.2.2.2.1 s.2.2.2.2.1 s.2.2.2.2.2):=fun lc (Told,d7,b9,a9,out1,i) h=>PK<|rg<|j5 1 h (fun h=>lp (e8w pick num i) h (fun _ h=>lc.rt h) (e1B pick num i lc) fun hI=>sk [] [0,2,4,6,8,9] [(7,0),(1,0),(6,0),(5,0),(4,0),(3,0),(2,0)] hI) (fun h=>(lc.bk h fun hI=>sk [] [0,2,4,6,8] [(7,0),(1,0),(6,0),(5,0),(4,0),(3,0),(2,0)] hI))
def b7J(r_:s9)(w:m6)(out:List p7):Option (m6×(List p7)×s9) :=
 ((E2 r_ 3).bind fun pick=>((a5Q pick.2 [3,8,20]).bind fun num=>((p8 (fun s:(List m9)×(List v5)×(List j8)×(List j6)×(List p7)×Int=>a8F pick s.1 s.2.1 s.2.2.1 s.2.2.2.1 s.2.2.2.2.1 s.2.2.2.2.2) (w.Told,w.d7,w.b9,w.a9,out,num.1)).bind fun x=>x.go (fun r=>some r) fun s=>c0x pick num s.1 s.2.1 s.2.2.1 s.2.2.2.1 s.2.2.2.2)))
theorem d8o{r_ w out}:OK a1C [.optr 119 (W5 r_),.agg (R7 w),u7 58 3 G1 out] (b7J r_ w out) :=
 n8 _ fun r h=>n6<|j9 E7 F4 1 h fun pick h=>rg<|tk 1 []<|j9 b0d b1M 2 h fun num h=>om (3=[3,8,20].length) (by simp)<|lp (d6j pick num) h (fun _ h=>a1C.rt h) (d4E pick num r) fun hI=>sk [] [0,2,4,6,8,9] [(1,0),(2,0),(0,4),(0,3),(0,2),(0,1),(0,5)] hI
def X4:FS ((List p7)×s9):=⟨19,Tryz.f19,[.val [some 3] [some 58]],[some (0,.ptr [some 1,none] [])],[.ptr [some 1,none] []],fun r=>u7 58 3 G1 r.1,fun r=>[some (.optr 119 (W5 r.2))],Tryz.func19⟩
def d6t:(s9×(List j6)×(List j8)×(List v5)×(List m9)×List p7)->KS:=fun (r_1,a9,b9,d7,Told,out)=>⟨X4.k 5 [false,true],(.ptr 0 0 0::(bs 2 (.ptr 1 0 0::(.own 6 0 3 0 out.length::(bs 126 []))))),[some [.var 119 [l7 1 J0 r_1.b,vi r_1.p]],some [.var 28 [.own 2 0 27 0 a9.length,.own 3 0 13 0 b9.length,.own 4 0 3 0 d7.length,.own 5 0 5 0 Told.length]],some [B8 65 27 x9 a9],some [m5 76 13 s5 b9],some [m5 78 3 A7 d7],some [m5 72 5 x7 Told],some [m5 58 3 G1 out]]⟩
def b5X:(s9×List p7)->KS:=fun (w,out2)=>⟨X4.k 7 [false,true,false],(bs 4 (.own 1 0 3 0 out2.length::(bs 126 []))),[some [.var 119 [l7 1 J0 w.b,vi w.p]],some [m5 58 3 G1 out2]]⟩
def c6k(w:s9)(out2:List p7):Option ((List p7)×s9) :=
 some (out2,w)
theorem e3f(r):NF X4 r b5X (fun s=>c6k s.1 s.2):=fun (w,out2) h=>PK<|rg<|s7 out2<|fE h
def b9s:(s9×(List j6)×(List j8)×(List v5)×(List m9)×(List p7)×Int)->KS:=fun (r_2,Nodes1,Net1,Asked1,Told1,out1,i)=>⟨X4.k 6 [false,true],(.ptr 0 0 0::(bs 2 (.ptr 1 0 0::(.own 6 0 3 0 out1.length::(vi i::(bs 125 [])))))),[some [.var 119 [l7 1 J0 r_2.b,vi r_2.p]],some [.var 28 [.own 2 0 27 0 Nodes1.length,.own 3 0 13 0 Net1.length,.own 4 0 3 0 Asked1.length,.own 5 0 5 0 Told1.length]],some [B8 65 27 x9 Nodes1],some [m5 76 13 s5 Net1],some [m5 78 3 A7 Asked1],some [m5 72 5 x7 Told1],some [m5 58 3 G1 out1]]⟩
def c3t(i:Int):(s9×(List j6)×(List j8)×(List v5)×(List m9)×List p7)->KS:=fun (r_4,Nodes3,Net3,Asked3,Told3,out4)=>⟨X4.k 9 [false,true,true,false],(.ptr 0 0 0::(bs 2 (.ptr 1 0 0::(.own 6 0 3 0 out4.length::(vi i::(bs 125 [])))))),[some [.var 119 [l7 1 J0 r_4.b,vi r_4.p]],some [.var 28 [.own 2 0 27 0 Nodes3.length,.own 3 0 13 0 Net3.length,.own 4 0 3 0 Asked3.length,.own 5 0 5 0 Told3.length]],some [B8 65 27 x9 Nodes3],some [m5 76 13 s5 Net3],some [m5 78 3 A7 Asked3],some [m5 72 5 x7 Told3],some [m5 58 3 G1 out4]]⟩
def d5D(i:Int):(s9×(List j6)×(List j8)×(List v5)×(List m9)×List p7)->KS:=fun (r_5,Nodes4,Net4,Asked4,Told4,out5)=>⟨X4.k 12 [false,true,true,false,true],(.ptr 0 0 0::(bs 2 (.ptr 1 0 0::(.own 6 0 3 0 out5.length::(vi i::(bs 125 [])))))),[some [.var 119 [l7 1 J0 r_5.b,vi r_5.p]],some [.var 28 [.own 2 0 27 0 Nodes4.length,.own 3 0 13 0 Net4.length,.own 4 0 3 0 Asked4.length,.own 5 0 5 0 Told4.length]],some [B8 65 27 x9 Nodes4],some [m5 76 13 s5 Net4],some [m5 78 3 A7 Asked4],some [m5 72 5 x7 Told4],some [m5 58 3 G1 out5]]⟩
def b7F(i:Int)(r_5:s9)(Nodes4:List j6)(Net4:List j8)(Asked4:List v5)(Told4:List m9)(out5:List p7):Option (l8 ((List p7)×s9) (s9×(List j6)×(List j8)×(List v5)×(List m9)×(List p7)×Int) (s9×List p7)) :=
 ((E2 r_5 3).bind fun a2n=>((a0O (m6.mk Nodes4 Net4 Asked4 Told4) out5 (p7.mk 6 a2n.1 [])).bind fun a1y=>some (l8.nxt (a2n.2,a1y.1.a9,a1y.1.b9,a1y.1.d7,a1y.1.Told,a1y.2,m8 (i-1)))))
theorem d43(i)(lc:I5 X4 b5X b9s):NL lc (d5D i) (fun s=>b7F i s.1 s.2.1 s.2.2.1 s.2.2.2.1 s.2.2.2.2.1 s.2.2.2.2.2):=fun (r_5,Nodes4,Net4,Asked4,Told4,out5) h=>PK<|rg<|j9 E7 F4 3 h fun a2n h=>j9 a2c a2Z 5 h fun a1y h=>G0 Nodes4 Net4 Asked4 Told4<|s7 out5<|rg<|(lc.nx h fun hI=>sk [] [0,3,4,5] [(1,0),(12,0),(12,1),(12,2),(12,3),(12,4)] hI)
def c0f(i:Int)(r_4:s9)(Nodes3:List j6)(Net3:List j8)(Asked3:List v5)(Told3:List m9)(out4:List p7):Option (l8 ((List p7)×s9) (s9×(List j6)×(List j8)×(List v5)×(List m9)×(List p7)×Int) (s9×List p7)) :=
 ((E2 r_4 4).bind fun U6=>(((bif (U6.1==0) then ((E2 U6.2 3).bind fun a7f=>((a0O (m6.mk Nodes3 Net3 Asked3 Told3) out4 (p7.mk 7 a7f.1 [])).bind fun a1d=>some (l9.brk (a7f.2,a1d.1.a9,a1d.1.b9,a1d.1.d7,a1d.1.Told,a1d.2)))) else (bif (U6.1==1) then ((E2 U6.2 3).bind fun a7s=>((a0O (m6.mk Nodes3 Net3 Asked3 Told3) out4 (p7.mk 5 a7s.1 [])).bind fun a8Y=>some (l9.brk (a7s.2,a8Y.1.a9,a8Y.1.b9,a8Y.1.d7,a8Y.1.Told,a8Y.2)))) else some (l9.brk (U6.2,Nodes3,Net3,Asked3,Told3,out4)))):Option (l9 (l8 ((List p7)×s9) (s9×(List j6)×(List j8)×(List v5)×(List m9)×(List p7)×Int) (s9×List p7)) (s9×(List j6)×(List j8)×(List v5)×(List m9)×List p7))).bind fun x=>x.go some fun j=>b7F i j.1 j.2.1 j.2.2.1 j.2.2.2.1 j.2.2.2.2.1 j.2.2.2.2.2))
theorem d3D(i)(lc:I5 X4 b5X b9s):NL lc (c3t i) (fun s=>c0f i s.1 s.2.1 s.2.2.1 s.2.2.2.1 s.2.2.2.2.1 s.2.2.2.2.2):=fun (r_4,Nodes3,Net3,Asked3,Told3,out4) h=>PK<|rg<|j9 E7 F4 1 h fun U6 h=>B2 h (d43 i lc) fun x2 h hc2=>rg<|j5 1 h (fun h=>rg<|j9 E7 F4 3 h fun a7f h=>j9 a2c a2Z 5 h fun a1d h=>G0 Nodes3 Net3 Asked3 Told3<|s7 out4<|(o8 h hc2 fun hI=>sk [] [0,3,4,5] [(1,0),(16,0),(16,1),(16,2),(16,3),(16,4)] hI)) (fun h=>rg<|j5 1 h (fun h=>rg<|j9 E7 F4 3 h fun a7s h=>j9 a2c a2Z 5 h fun a8Y h=>G0 Nodes3 Net3 Asked3 Told3<|s7 out4<|(o8 h hc2 fun hI=>sk [] [0,3,4,5] [(1,0),(18,0),(18,1),(18,2),(18,3),(18,4)] hI)) (fun h=>(o8 h hc2 fun hI=>sk [] [0,3,4,5] [(1,0),(2,0),(3,0),(4,0),(5,0),(6,0)] hI)))
def d0C(i:Int):(s9×(List j6)×(List j8)×(List v5)×(List m9)×List p7)->KS:=fun (r_3,Nodes2,Net2,Asked2,Told2,out3)=>⟨X4.k 8 [false,true,true],(.ptr 0 0 0::(bs 2 (.ptr 1 0 0::(.own 6 0 3 0 out3.length::(vi i::(bs 125 [])))))),[some [.var 119 [l7 1 J0 r_3.b,vi r_3.p]],some [.var 28 [.own 2 0 27 0 Nodes2.length,.own 3 0 13 0 Net2.length,.own 4 0 3 0 Asked2.length,.own 5 0 5 0 Told2.length]],some [B8 65 27 x9 Nodes2],some [m5 76 13 s5 Net2],some [m5 78 3 A7 Asked2],some [m5 72 5 x7 Told2],some [m5 58 3 G1 out3]]⟩
def e3U(i:Int):(s9×(List j6)×(List j8)×(List v5)×(List m9)×List p7)->KS:=fun (r_6,Nodes5,Net5,Asked5,Told5,out6)=>⟨X4.k 11 [false,true,true,true,true],(.ptr 0 0 0::(bs 2 (.ptr 1 0 0::(.own 6 0 3 0 out6.length::(vi i::(bs 125 [])))))),[some [.var 119 [l7 1 J0 r_6.b,vi r_6.p]],some [.var 28 [.own 2 0 27 0 Nodes5.length,.own 3 0 13 0 Net5.length,.own 4 0 3 0 Asked5.length,.own 5 0 5 0 Told5.length]],some [B8 65 27 x9 Nodes5],some [m5 76 13 s5 Net5],some [m5 78 3 A7 Asked5],some [m5 72 5 x7 Told5],some [m5 58 3 G1 out6]]⟩
def b8y(r_6:s9)(Nodes5:List j6)(Net5:List j8)(Asked5:List v5)(Told5:List m9)(out6:List p7):Option (l8 ((List p7)×s9) (s9×(List j6)×(List j8)×(List v5)×(List m9)×List p7) (s9×(List j6)×(List j8)×(List v5)×(List m9)×List p7)) :=
 ((E2 r_6 (Net5.length:Int)).bind fun a4M=>((a5Q a4M.2 [0,0,a4M.1]).bind fun a6Z=>((a0O (m6.mk Nodes5 Net5 Asked5 Told5) out6 (p7.mk 2 a6Z.1 [])).bind fun a9v=>some (l8.nxt (a6Z.2,a9v.1.a9,a9v.1.b9,a9v.1.d7,a9v.1.Told,a9v.2)))))
theorem d9f(i)(lc:I5 X4 (c3t i) (d0C i)):NL lc (e3U i) (fun s=>b8y s.1 s.2.1 s.2.2.1 s.2.2.2.1 s.2.2.2.2.1 s.2.2.2.2.2):=fun (r_6,Nodes5,Net5,Asked5,Told5,out6) h=>PK<|rg<|j9 E7 F4 7 h fun a4M h=>tk 8 []<|j9 b0d b1M 9 h fun a6Z h=>om (3=[0,0,a4M.1].length) (by simp)<|j9 a2c a2Z 11 h fun a9v h=>G0 Nodes5 Net5 Asked5 Told5<|s7 out6<|(lc.nx h fun hI=>sk [] [0,3,4,5] [(1,0),(18,0),(18,1),(18,2),(18,3),(18,4)] hI)
def b00(r_3:s9)(Nodes2:List j6)(Net2:List j8)(Asked2:List v5)(Told2:List m9)(out3:List p7):Option (l8 ((List p7)×s9) (s9×(List j6)×(List j8)×(List v5)×(List m9)×List p7) (s9×(List j6)×(List j8)×(List v5)×(List m9)×List p7)) :=
 (bif decide ((Net2.length:Int)>0) then ((E2 r_3 9).bind fun a30=>(bif decide (a30.1>0) then (bif decide ((out3.length:Int)<200) then ((((E2 a30.2 8).bind fun a5E=>(bif (a5E.1==0) then ((E2 a5E.2 (Net2.length:Int)).bind fun a6r=>((a0O (m6.mk Nodes2 Net2 Asked2 Told2) out3 (p7.mk 4 a6r.1 [])).bind fun a9Y=>some (l9.brk (a6r.2,a9Y.1.a9,a9Y.1.b9,a9Y.1.d7,a9Y.1.Told,a9Y.2)))) else some (l9.brk (a5E.2,Nodes2,Net2,Asked2,Told2,out3)))):Option (l9 (l8 ((List p7)×s9) (s9×(List j6)×(List j8)×(List v5)×(List m9)×List p7) (s9×(List j6)×(List j8)×(List v5)×(List m9)×List p7)) (s9×(List j6)×(List j8)×(List v5)×(List m9)×List p7))).bind fun x=>x.go some fun j=>b8y j.1 j.2.1 j.2.2.1 j.2.2.2.1 j.2.2.2.2.1 j.2.2.2.2.2) else some (l8.brk (a30.2,Nodes2,Net2,Asked2,Told2,out3))) else some (l8.brk (a30.2,Nodes2,Net2,Asked2,Told2,out3)))) else some (l8.brk (r_3,Nodes2,Net2,Asked2,Told2,out3)))
theorem e8J(i):LQ X4 (c3t i) (d0C i) (fun s=>b00 s.1 s.2.1 s.2.2.1 s.2.2.2.1 s.2.2.2.2.1 s.2.2.2.2.2):=fun lc (r_3,Nodes2,Net2,Asked2,Told2,out3) h=>PK<|rg<|j5 4 h (fun h=>j9 E7 F4 6 h fun a30 h=>j5 9 h (fun h=>j5 13 h (fun h=>B2 h (d9f i lc) fun x3 h hc3=>rg<|j9 E7 F4 1 h fun a5E h=>j5 2 h (fun h=>rg<|j9 E7 F4 6 h fun a6r h=>j9 a2c a2Z 8 h fun a9Y h=>G0 Nodes2 Net2 Asked2 Told2<|s7 out3<|(o8 h hc3 fun hI=>sk [] [0,3,4,5] [(1,0),(32,0),(32,1),(32,2),(32,3),(32,4)] hI)) (fun h=>(o8 h hc3 fun hI=>sk [] [0,3,4,5] [(1,0),(2,0),(3,0),(4,0),(5,0),(6,0)] hI))) (fun h=>(lc.bk h fun hI=>sk [] [0,3,4,5] [(1,0),(2,0),(3,0),(4,0),(5,0),(6,0)] hI))) (fun h=>(lc.bk h fun hI=>sk [] [0,3,4,5] [(1,0),(2,0),(3,0),(4,0),(5,0),(6,0)] hI))) (fun h=>(lc.bk h fun hI=>sk [] [0,3,4,5] [(1,0),(2,0),(3,0),(4,0),(5,0),(6,0)] hI))
def b0h(r_2:s9)(Nodes1:List j6)(Net1:List j8)(Asked1:List v5)(Told1:List m9)(out1:List p7)(i:Int):Option (l8 ((List p7)×s9) (s9×(List j6)×(List j8)×(List v5)×(List m9)×(List p7)×Int) (s9×List p7)) :=
 (bif decide (i>0) then ((E2 r_2 3).bind fun Y3=>((a4K Y3.2).bind fun a4L=>((a0O (m6.mk Nodes1 Net1 Asked1 Told1) out1 (p7.mk 1 Y3.1 a4L.1)).bind fun a1u=>((p8 (fun s:s9×(List j6)×(List j8)×(List v5)×(List m9)×List p7=>b00 s.1 s.2.1 s.2.2.1 s.2.2.2.1 s.2.2.2.2.1 s.2.2.2.2.2) (a4L.2,a1u.1.a9,a1u.1.b9,a1u.1.d7,a1u.1.Told,a1u.2)).bind fun x=>x.go (fun r=>some (l8.ret r)) fun s=>c0f i s.1 s.2.1 s.2.2.1 s.2.2.2.1 s.2.2.2.2.1 s.2.2.2.2.2)))) else some (l8.brk (r_2,out1)))
theorem d85:LQ X4 b5X b9s (fun s=>b0h s.1 s.2.1 s.2.2.1 s.2.2.2.1 s.2.2.2.2.1 s.2.2.2.2.2.1 s.2.2.2.2.2.2):=fun lc (r_2,Nodes1,Net1,Asked1,Told1,out1,i) h=>PK<|rg<|j5 1 h (fun h=>rg<|j9 E7 F4 3 h fun Y3 h=>j9 a2k b2Z 5 h fun a4L h=>j9 a2c a2Z 7 h fun a1u h=>G0 Nodes1 Net1 Asked1 Told1<|C2 out1 a4L.1<|lp (e8J i) h (fun _ h=>lc.rt h) (d3D i lc) fun hI=>sk [] [0,3,4,5] [(1,0),(16,0),(16,1),(16,2),(16,3),(16,4)] hI) (fun h=>(lc.bk h fun hI=>sk [] [4] [(6,0)] hI))
def b53(r_1:s9)(a9:List j6)(b9:List j8)(d7:List v5)(Told:List m9)(out:List p7):Option ((List p7)×s9) :=
 ((E2 r_1 3).bind fun a0c=>((p8 (fun s:s9×(List j6)×(List j8)×(List v5)×(List m9)×(List p7)×Int=>b0h s.1 s.2.1 s.2.2.1 s.2.2.2.1 s.2.2.2.2.1 s.2.2.2.2.2.1 s.2.2.2.2.2.2) (a0c.2,a9,b9,d7,Told,out,m8 (3+a0c.1))).bind fun x=>x.go (fun r=>some r) fun s=>c6k s.1 s.2))
theorem e2V(r):NF X4 r d6t (fun s=>b53 s.1 s.2.1 s.2.2.1 s.2.2.2.1 s.2.2.2.2.1 s.2.2.2.2.2):=fun (r_1,a9,b9,d7,Told,out) h=>PK<|rg<|j9 E7 F4 1 h fun a0c h=>lp (d85) h (fun _ h=>X4.rt h) (e3f r) fun hI=>sk [] [0,3,4,5] [(1,0),(2,0),(3,0),(4,0),(5,0),(6,0)] hI
def b5p(r_:s9):Option ((List p7)×s9) :=
 ((b19).bind fun a8z=>((E2 r_ 3).bind fun pick=>((a0O a8z [] (p7.mk 5 pick.1 [])).bind fun R3=>((E2 pick.2 3).bind fun E0=>(bif decide (E0.1>0) then ((a5Q E0.2 [10,30,60,90]).bind fun num=>((b3Z num.2 R3.1 num.1).bind fun a7y=>(t5 ((R3.2.length+a7y.1.length)*40<=140737488355328) (some (R3.2++a7y.1,a7y.2))))) else ((((E2 E0.2 5).bind fun a5p=>(bif (a5p.1==0) then ((b7J a5p.2 R3.1 R3.2).bind fun a6I=>some (l9.brk (a6I.2.2,a6I.1.a9,a6I.1.b9,a6I.1.d7,a6I.1.Told,a6I.2.1))) else some (l9.brk (a5p.2,R3.1.a9,R3.1.b9,R3.1.d7,R3.1.Told,R3.2)))):Option (l9 ((List p7)×s9) (s9×(List j6)×(List j8)×(List v5)×(List m9)×List p7))).bind fun x=>x.go some fun j=>b53 j.1 j.2.1 j.2.2.1 j.2.2.2.1 j.2.2.2.2.1 j.2.2.2.2.2))))))
theorem d87{r_}:OK X4 [.optr 119 (W5 r_)] (b5p r_) :=
 n8 _ fun r h=>n6<|j9 a5I d16 0 h fun a8z h=>j9 E7 F4 2 h fun pick h=>j9 a2c a2Z 4 h fun R3 h=>A5 a8z<|rg<|j9 E7 F4 1 h fun E0 h=>j5 2 h (fun h=>rg<|tk 4 []<|j9 b0d b1M 5 h fun num h=>om (4=[10,30,60,90].length) (by simp)<|j9 a4o e9b 6 h fun a7y h=>A5 R3.1<|t6 h fun e1 h=>apL 7 23 58 3 40 G1 R3.2 a7y.1 e1<|C2 a7y.1 (R3.2++a7y.1)<|fE h) (fun h=>B2 h (e2V r) fun x1 h hc1=>rg<|j9 E7 F4 1 h fun a5p h=>j5 2 h (fun h=>rg<|j9 a1C d8o 3 h fun a6I h=>A5 R3.1<|s7 R3.2<|(o8 h hc1 fun hI=>sk [] [0,3,4] [(10,0),(22,0),(22,1),(22,2),(22,3),(22,4)] hI)) (fun h=>(o8 h hc1 fun hI=>sk [] [0,3,4] [(10,0),(6,0),(6,1),(6,2),(6,3),(6,4)] hI)))
def c1L:FS (List p7):=⟨6,Tryz.f6,[.val [some 3] []],[none],[.val [some 1] []],fun r=>l7 3 G1 r,fun _=>[none],Tryz.func6⟩
def b20(code:List Int):Option (List p7) :=
 ((b7n code).bind fun d14=>((b5p d14).bind fun c3m=>some c3m.1))
theorem d3A{code}:OK c1L [l7 1 J0 code] (b20 code) :=
 n8 _ fun r h=>n6<|j9 b3P d9F 1 h fun d14 h=>j9 X4 d87 2 h fun c3m h=>s7 c3m.1<|fE h
def a6R:FS (Bool):=⟨31,Tryz.f31,[.val [] []],[none,none],[.val [some 2] [],.val [some 2] []],fun r=>.b r,fun _=>[none,none],Tryz.func31⟩
def d0n:Unit->KS:=fun _=>⟨a6R.k 4 [false,false],(bs 26 []),[some []]⟩
def c6Z:Option Bool :=
 some true
theorem d90(r):NF a6R r d0n (fun s=>c6Z):=fun _ h=>PK<|rg<|fE h
def d5n(a:List p9)(b:List p9):Int->KS:=fun v13=>⟨a6R.k 3 [false],(l7 2 u5 a::(l7 2 u5 b::(bs 10 (vi (a.length:Int)::(vi v13::(bs 12 [])))))),[some []]⟩
def b7m(a:List p9)(b:List p9)(v13:Int):Option (l8 Bool Int Unit) :=
 (bif decide (v13<(a.length:Int)) then ((idx a v13).bind fun read=>((idx b v13).bind fun Q0=>(bif (!(([read.i6,read.j4]:List Int)==[Q0.i6,Q0.j4])) then some (l8.ret false) else some (l8.nxt (m8 (v13+1)))))) else some (l8.brk ()))
theorem e0B(a b):LQ a6R d0n (d5n a b) (fun s=>b7m a b s):=fun lc v13 h=>PK<|rg<|j5 0 h (fun h=>n6<|w9 u5 2 h fun read a3I h=>w9 u5 6 h fun Q0 c6O h=>j5 8 h (fun h=>rg<|fL lc h) (fun h=>rg<|(lc.nx h fun hI=>sk [] [0,1,12,13] [] hI))) (fun h=>(lc.bk h fun hI=>sk [] [] [] hI))
def b58(a:List p9)(b:List p9):Option Bool :=
 (bif ((a.length:Int) != (b.length:Int)) then some false else ((p8 (fun s:Int=>b7m a b s) 0).bind fun x=>x.go (fun r=>some r) fun s=>c6Z))
theorem d6R{a b}:OK a6R [l7 2 u5 a,l7 2 u5 b] (b58 a b) :=
 n8 _ fun r h=>n6<|j5 4 h (fun h=>rg<|fE h) (fun h=>rg<|lp (e0B a b) h (fun _ h=>a6R.rt h) (d90 r) fun hI=>sk [] [0,1,12,13] [] hI)
def a7n:FS (Bool):=⟨32,Tryz.f32,[.val [] []],[none,none],[.val [some 2] [],.val [some 2] []],fun r=>.b r,fun _=>[none,none],Tryz.func32⟩
def c6z:Unit->KS:=fun _=>⟨a7n.k 4 [false,false],(bs 26 []),[some []]⟩
def c8r:Option Bool :=
 some true
theorem d4I(r):NF a7n r c6z (fun s=>c8r):=fun _ h=>PK<|rg<|fE h
def e1m(a:List n9)(b:List n9):Int->KS:=fun v13=>⟨a7n.k 3 [false],(l7 2 u6 a::(l7 2 u6 b::(bs 10 (vi (a.length:Int)::(vi v13::(bs 12 [])))))),[some []]⟩
def b5U(a:List n9)(b:List n9)(v13:Int):Option (l8 Bool Int Unit) :=
 (bif decide (v13<(a.length:Int)) then ((idx a v13).bind fun put=>((idx b v13).bind fun put1=>(bif (!(([put.i6,put.f0]:List Int)==[put1.i6,put1.f0])) then some (l8.ret false) else some (l8.nxt (m8 (v13+1)))))) else some (l8.brk ()))
theorem e1e(a b):LQ a7n c6z (e1m a b) (fun s=>b5U a b s):=fun lc v13 h=>PK<|rg<|j5 0 h (fun h=>n6<|w9 u6 2 h fun put hput h=>w9 u6 6 h fun put1 b2v h=>j5 8 h (fun h=>rg<|fL lc h) (fun h=>rg<|(lc.nx h fun hI=>sk [] [0,1,12,13] [] hI))) (fun h=>(lc.bk h fun hI=>sk [] [] [] hI))
def b5S(a:List n9)(b:List n9):Option Bool :=
 (bif ((a.length:Int) != (b.length:Int)) then some false else ((p8 (fun s:Int=>b5U a b s) 0).bind fun x=>x.go (fun r=>some r) fun s=>c8r))
theorem e4t{a b}:OK a7n [l7 2 u6 a,l7 2 u6 b] (b5S a b) :=
 n8 _ fun r h=>n6<|j5 4 h (fun h=>rg<|fE h) (fun h=>rg<|lp (e1e a b) h (fun _ h=>a7n.rt h) (d4I r) fun hI=>sk [] [0,1,12,13] [] hI)
def c2G:FS (Bool):=⟨12,Tryz.f12,[.val [] []],[none,none],[.val N6 [],.val N6 []],fun r=>.b r,fun _=>[none,none],Tryz.func12⟩
def b2R(a:n5)(b:n5):Option Bool :=
 ((b58 a.b5 b.b5).bind fun read=>(bif read then ((b5S a.b6 b.b6).bind fun put=>(bif put then (bif (a.f0==b.f0) then some (a.Code==b.Code) else some false) else some false)) else some false))
theorem c6Y{a b}:OK c2G [.agg (P3 a),.agg (P3 b)] (b2R a b) :=
 n8 _ fun r h=>n6<|j9 a6R d6R 4 h fun read h=>j5 5 h (fun h=>j9 a7n e4t 10 h fun put h=>j5 12 h (fun h=>j5 19 h (fun h=>fE h) (fun h=>fE h)) (fun h=>fE h)) (fun h=>fE h)
def a2J:FS (Bool):=⟨62,Tryz.f62,[.val [] []],[none,none],[.val J9 [],.val J9 []],fun r=>.b r,fun _=>[none,none],Tryz.func62⟩
def Z9(a:m4)(b:m4):Option Bool :=
 (bif (a.i8==b.i8) then (bif (([a.a5.d8,a.a5.Seq]:List Int)==[b.a5.d8,b.a5.Seq]) then ((b2R a.b8 b.b8).bind fun a0U=>some a0U) else some false) else some false)
theorem a3e{a b}:OK a2J [.agg (t0 a),.agg (t0 b)] (Z9 a b) :=
 n8 _ fun r h=>n6<|j5 5 h (fun h=>j5 12 h (fun h=>j9 c2G c6Y 17 h fun a0U h=>fE h) (fun h=>fE h)) (fun h=>fE h)
def a8S:FS (Bool):=⟨44,Tryz.f44,[.val [] []],[none],[.val [] []],fun r=>.b r,fun _=>[none],Tryz.func44⟩
def a6p(q:q8):Option Bool :=
 ((C5 q.d8 0 2).bind fun in_=>(bif in_ then ((C5 q.Seq 1 1000).bind fun in_1=>some in_1) else some false))
theorem b1C{q}:OK a8S [.agg (Z1 q)] (a6p q) :=
 n8 _ fun r h=>n6<|j9 C3 D8 2 h fun in_ h=>j5 3 h (fun h=>j9 C3 D8 6 h fun in_1 h=>fE h) (fun h=>fE h)
def Y9:FS (Bool):=⟨126,Tryz.f126,[.val [] []],[none],[.val N6 []],fun r=>.b r,fun _=>[none],Tryz.func126⟩
def d9k(r_:n5):Unit->KS:=fun _=>⟨Y9.k 2 [false],(bs 1 (.ptr 1 0 0::(bs 98 []))),[some [],some [.var 41 (a0m r_)]]⟩
def c7f(r_:n5):Unit->KS:=fun _=>⟨Y9.k 5 [false,false],(bs 1 (.ptr 1 0 0::(bs 2 (.ptr 2 0 0::(bs 95 []))))),[some [],some [.var 41 (a0m r_)],some [.arr 187 1 4 ((e9L 4 false).map eB)]]⟩
def d0m:Unit->KS:=fun _=>⟨Y9.k 7 [false,false,false],(bs 100 []),[some []]⟩
def c7E:Option Bool :=
 some true
theorem d5T(r):NF Y9 r d0m (fun s=>c7E):=fun _ h=>PK<|rg<|fE h
def d7I(r_:n5):((List Bool)×Int)->KS:=fun (put,v76)=>⟨Y9.k 6 [false,false],(bs 4 (.ptr 1 0 0::(bs 69 (l7 2 u6 r_.b6::(vi (r_.b6.length:Int)::(vi v76::(bs 23 []))))))),[some [],some [.arr 187 1 4 (put.map eB)]]⟩
def a9r(r_:n5)(put:List Bool)(v76:Int):Option (l8 Bool ((List Bool)×Int) Unit) :=
 (bif decide (v76<(r_.b6.length:Int)) then ((idx r_.b6 v76).bind fun put1=>((C5 put1.i6 0 3).bind fun in_=>(bif (!in_) then some (l8.ret false) else ((idx put put1.i6).bind fun y=>(t5 (put1.i6<4) ((bif y then some (l8.ret false) else ((C5 put1.f0 (-1000000) 1000000).bind fun in_1=>(bif (!in_1) then some (l8.ret false) else (t5 (put1.i6<4) (some (l8.nxt (put.set put1.i6.toNat true,m8 (v76+1)))))))))))))) else some (l8.brk ()))
theorem d6d(r_):LQ Y9 d0m (d7I r_) (fun s=>a9r r_ s.1 s.2):=fun lc (put,v76) h=>PK<|rg<|j5 0 h (fun h=>rg<|w9 u6 0 h fun put1 b2v h=>rg<|j9 C3 D8 2 h fun in_ h=>j5 4 h (fun h=>rg<|fL lc h) (fun h=>A6 h fun y hy h=>t6 h fun e1 h=>ob (N2 hy)<|ob e1<|ob (T0 (enc:=eB) hy)<|tl (tr 8 (eB y))<|j5 10 h (fun h=>rg<|fL lc h) (fun h=>j9 C3 D8 13 h fun in_1 h=>j5 15 h (fun h=>rg<|fL lc h) (fun h=>rg<|t6 h fun e2 h=>ob (N2 hy)<|ob e2<|om (s6.arr 187 1 4 ((put.map eB).set (put1.i6.toNat) [.b true])=s6.arr 187 1 4 ((put.set put1.i6.toNat true).map eB)) (a60 rfl)<|ob (T0 (enc:=eB) hy)<|tl (3,{a:=.rowck (eB y) [],e:=some (.arr 187 1 4 ((put.set put1.i6.toNat true).map eB))})<|rg<|(lc.nx h fun hI=>sk [] [4,74,75,76] [(1,0)] hI))))) (fun h=>(lc.bk h fun hI=>sk [] [] [] hI))
def c0K(r_:n5):Option Bool :=
 ((p8 (fun s:(List Bool)×Int=>a9r r_ s.1 s.2) (e9L 4 false,0)).bind fun x=>x.go (fun r=>some r) fun s=>c7E)
theorem e8R(r_)(r):NF Y9 r (c7f r_) (fun s=>c0K r_):=fun _ h=>PK<|rg<|lp (d6d r_) h (fun _ h=>Y9.rt h) (d5T r) fun hI=>sk [] [4,74,75,76] [(2,0)] hI
def e3E(r_:n5):((List Bool)×Int)->KS:=fun (read,v49)=>⟨Y9.k 4 [false],(bs 1 (.ptr 1 0 0::(bs 1 (.ptr 2 0 0::(.ptr 3 0 0::(bs 42 (l7 2 u5 r_.b5::(vi (r_.b5.length:Int)::(vi v49::(bs 50 [])))))))))),[some [],some [.var 41 (a0m r_)],some [.arr 187 1 4 (read.map eB)],some [.arr 187 1 4 ((e9L 4 false).map eB)]]⟩
def a8E(r_:n5)(read:List Bool)(v49:Int):Option (l8 Bool ((List Bool)×Int) Unit) :=
 (bif decide (v49<(r_.b5.length:Int)) then ((idx r_.b5 v49).bind fun Q0=>((C5 Q0.i6 0 3).bind fun in_2=>(bif (!in_2) then some (l8.ret false) else ((idx read Q0.i6).bind fun y1=>(t5 (Q0.i6<4) ((bif y1 then some (l8.ret false) else ((C5 Q0.j4 0 1000000).bind fun a0a=>(bif (!a0a) then some (l8.ret false) else (t5 (Q0.i6<4) (some (l8.nxt (read.set Q0.i6.toNat true,m8 (v49+1)))))))))))))) else some (l8.brk ()))
theorem e7c(r_):LQ Y9 (c7f r_) (e3E r_) (fun s=>a8E r_ s.1 s.2):=fun lc (read,v49) h=>PK<|rg<|j5 0 h (fun h=>rg<|w9 u5 0 h fun Q0 c6O h=>rg<|j9 C3 D8 2 h fun in_2 h=>j5 4 h (fun h=>rg<|fL lc h) (fun h=>A6 h fun y1 hy1 h=>t6 h fun e3 h=>ob (N2 hy1)<|ob e3<|ob (T0 (enc:=eB) hy1)<|tl (tr 8 (eB y1))<|j5 10 h (fun h=>rg<|fL lc h) (fun h=>j9 C3 D8 13 h fun a0a h=>j5 15 h (fun h=>rg<|fL lc h) (fun h=>rg<|t6 h fun e4 h=>ob (N2 hy1)<|ob e4<|om (s6.arr 187 1 4 ((read.map eB).set (Q0.i6.toNat) [.b true])=s6.arr 187 1 4 ((read.set Q0.i6.toNat true).map eB)) (a60 rfl)<|ob (T0 (enc:=eB) hy1)<|tl (3,{a:=.rowck (eB y1) [],e:=some (.arr 187 1 4 ((read.set Q0.i6.toNat true).map eB))})<|rg<|(lc.nx h fun hI=>sk [] [1,3,4,47,48,49] [(1,0),(2,0),(3,0)] hI))))) (fun h=>(lc.bk h fun hI=>sk [] [1,4] [(1,0),(3,0)] hI))
def b8d(r_:n5):Option Bool :=
 ((p8 (fun s:(List Bool)×Int=>a8E r_ s.1 s.2) (e9L 4 false,0)).bind fun x=>x.go (fun r=>some r) fun s=>c0K r_)
theorem e5w(r_)(r):NF Y9 r (d9k r_) (fun s=>b8d r_):=fun _ h=>PK<|rg<|om ((e9L 4 ([.b false]:List V)).flatten=[.b false,.b false,.b false,.b false]/\([.b false]:List V).length=1) ⟨rfl,rfl⟩<|om ((e9L 4 ([.b false]:List V)).flatten=[.b false,.b false,.b false,.b false]/\([.b false]:List V).length=1) ⟨rfl,rfl⟩<|rg<|lp (e7c r_) h (fun _ h=>Y9.rt h) (e8R r_ r) fun hI=>sk [] [1,3,4,47,48,49] [(1,0),(2,0),(3,0)] hI
def a9I(r_:n5):Option Bool :=
 ((((C5 r_.Code 0 3).bind fun a4A=>(bif (!a4A) then some (l9.ret false) else ((C5 r_.f0 (-1000000) 1000000).bind fun a9o=>(bif (!a9o) then some (l9.ret false) else (bif (r_.Code != 0) then (bif (r_.f0 != 0) then some (l9.ret false) else (bif decide ((r_.b6.length:Int)>0) then some (l9.ret false) else (bif (r_.Code==3) then (bif decide ((r_.b5.length:Int)>0) then some (l9.ret false) else some (l9.brk ())) else some (l9.brk ())))) else (bif (r_.Code==3) then (bif decide ((r_.b5.length:Int)>0) then some (l9.ret false) else some (l9.brk ())) else some (l9.brk ()))))))):Option (l9 Bool Unit)).bind fun x=>x.go some fun j=>b8d r_)
theorem c2m{r_}:OK Y9 [.agg (P3 r_)] (a9I r_) :=
 n8 _ fun r h=>rg<|B2 h (e5w r_ r) fun x1 h hc1=>rg<|j9 C3 D8 2 h fun a4A h=>j5 4 h (fun h=>rg<|(B7 h hc1 fun h=>fE h)) (fun h=>j9 C3 D8 7 h fun a9o h=>j5 10 h (fun h=>rg<|(B7 h hc1 fun h=>fE h)) (fun h=>j5 14 h (fun h=>j5 18 h (fun h=>rg<|(B7 h hc1 fun h=>fE h)) (fun h=>j5 26 h (fun h=>rg<|(B7 h hc1 fun h=>fE h)) (fun h=>j5 30 h (fun h=>j5 36 h (fun h=>rg<|(B7 h hc1 fun h=>fE h)) (fun h=>(o8 h hc1 fun hI=>sk [] [1] [(1,0)] hI))) (fun h=>(o8 h hc1 fun hI=>sk [] [1] [(1,0)] hI))))) (fun h=>j5 30 h (fun h=>j5 36 h (fun h=>rg<|(B7 h hc1 fun h=>fE h)) (fun h=>(o8 h hc1 fun hI=>sk [] [1] [(1,0)] hI))) (fun h=>(o8 h hc1 fun hI=>sk [] [1] [(1,0)] hI)))))
def a2g:FS (Bool):=⟨81,Tryz.f81,[.val [] []],[none],[.val J9 []],fun r=>.b r,fun _=>[none],Tryz.func81⟩
def a1z(e_:m4):Option Bool :=
 (bif e_.i8 then ((Z9 e_ (m4.mk true (q8.mk 0 0) (n5.mk [] [] 0 0))).bind fun J8=>some J8) else ((a6p e_.a5).bind fun a5G=>(bif a5G then ((a9I e_.b8).bind fun a02=>(bif a02 then some (e_.b8.Code != 3) else some false)) else some false)))
theorem a3L{e_}:OK a2g [.agg (t0 e_)] (a1z e_) :=
 n8 _ fun r h=>n6<|j5 1 h (fun h=>rg<|j9 a2J a3e 2 h fun J8 h=>fE h) (fun h=>rg<|j9 a8S b1C 2 h fun a5G h=>j5 3 h (fun h=>j9 Y9 c2m 6 h fun a02 h=>j5 8 h (fun h=>fE h) (fun h=>fE h)) (fun h=>fE h))
def c8R:FS (Bool):=⟨135,Tryz.f135,[.val [] []],[none],[.val T5 []],fun r=>.b r,fun _=>[none],Tryz.func135⟩
def b3Y(v_:m7):Option Bool :=
 (bif (v_.a7==0) then ((Z9 v_.i0 (m4.mk false (q8.mk 0 0) (n5.mk [] [] 0 0))).bind fun J8=>some J8) else ((C5 v_.a7 1 3000).bind fun in_=>(bif in_ then ((a1z v_.i0).bind fun D7=>some D7) else some false)))
theorem d5O{v_}:OK c8R [.agg (p6 v_)] (b3Y v_) :=
 n8 _ fun r h=>n6<|j5 2 h (fun h=>rg<|j9 a2J a3e 3 h fun J8 h=>fE h) (fun h=>rg<|j9 C3 D8 2 h fun in_ h=>j5 3 h (fun h=>j9 a2g a3L 6 h fun D7 h=>fE h) (fun h=>fE h))
def a2D:FS (Bool):=⟨86,Tryz.f86,[.val [] []],[none],[.val [some 8] []],fun r=>.b r,fun _=>[none],Tryz.func86⟩
def c7R(list:List m7):Unit->KS:=fun _=>⟨a2D.k 3 [false],(l7 8 p6 list::(bs 17 [])),[some []]⟩
def c1k(list:List m7):Option Bool :=
 some (decide ((list.length:Int)<=40))
theorem e6t(list)(r):NF a2D r (c7R list) (fun s=>c1k list):=fun _ h=>PK<|rg<|fE h
def e6j(list:List m7):Int->KS:=fun v7=>⟨a2D.k 2 [],(l7 8 p6 list::(bs 4 (l7 8 p6 list::(vi (list.length:Int)::(vi v7::(bs 10 [])))))),[some []]⟩
def b76(list:List m7)(v7:Int):Option (l8 Bool Int Unit) :=
 (bif decide (v7<(list.length:Int)) then ((idx list v7).bind fun vote=>((b3Y vote).bind fun Y8=>(bif (!Y8) then some (l8.ret false) else some (l8.nxt (m8 (v7+1)))))) else some (l8.brk ()))
theorem e5Y(list):LQ a2D (c7R list) (e6j list) (fun s=>b76 list s):=fun lc v7 h=>PK<|rg<|j5 0 h (fun h=>rg<|w9 p6 0 h fun vote M9 h=>rg<|j9 c8R d5O 1 h fun Y8 h=>j5 2 h (fun h=>rg<|fL lc h) (fun h=>rg<|(lc.nx h fun hI=>sk [] [0,5,6,7] [] hI))) (fun h=>(lc.bk h fun hI=>sk [] [0] [] hI))
def a52(list:List m7):Option Bool :=
 ((p8 (fun s:Int=>b76 list s) 0).bind fun x=>x.go (fun r=>some r) fun s=>c1k list)
theorem b0x{list}:OK a2D [l7 8 p6 list] (a52 list) :=
 n8 _ fun r h=>n6<|lp (e5Y list) h (fun _ h=>a2D.rt h) (e6t list r) fun hI=>sk [] [0,5,6,7] [] hI
def a4X:FS (Bool):=⟨84,Tryz.f84,[.val [] []],[none],[.val [none,some 8] []],fun r=>.b r,fun _=>[none],Tryz.func84⟩
def d1J(a:x6):Unit->KS:=fun _=>⟨a4X.k 3 [false],(bs 1 (.ptr 1 0 0::(bs 24 []))),[some [],some [.var 62 [vi a.g8,l7 8 p6 a.a6]]]⟩
def c06(a:x6):Option Bool :=
 ((C5 a.g8 0 3000).bind fun in_=>(bif in_ then ((a52 a.a6).bind fun K2=>some K2) else some false))
theorem e46(a)(r):NF a4X r (d1J a) (fun s=>c06 a):=fun _ h=>PK<|rg<|j9 C3 D8 2 h fun in_ h=>j5 3 h (fun h=>j9 a2D b0x 6 h fun K2 h=>fE h) (fun h=>fE h)
def d71(a:x6):Int->KS:=fun v8=>⟨a4X.k 2 [],(bs 1 (.ptr 1 0 0::(bs 4 (l7 8 p6 a.a6::(vi (a.a6.length:Int)::(vi v8::(bs 17 []))))))),[some [],some [.var 62 [vi a.g8,l7 8 p6 a.a6]]]⟩
def b37(a:x6)(v8:Int):Option (l8 Bool Int Unit) :=
 (bif decide (v8<(a.a6.length:Int)) then ((idx a.a6 v8).bind fun vote=>(bif decide (vote.a7>a.g8) then some (l8.ret false) else some (l8.nxt (m8 (v8+1))))) else some (l8.brk ()))
theorem d8m(a):LQ a4X (d1J a) (d71 a) (fun s=>b37 a s):=fun lc v8 h=>PK<|rg<|j5 0 h (fun h=>rg<|w9 p6 0 h fun vote M9 h=>rg<|j5 4 h (fun h=>rg<|fL lc h) (fun h=>rg<|(lc.nx h fun hI=>sk [] [1,6,7,8] [(1,0)] hI))) (fun h=>(lc.bk h fun hI=>sk [] [1] [(1,0)] hI))
def a9R(a:x6):Option Bool :=
 ((p8 (fun s:Int=>b37 a s) 0).bind fun x=>x.go (fun r=>some r) fun s=>c06 a)
theorem b94{a}:OK a4X [.agg (Y5 a)] (a9R a) :=
 n8 _ fun r h=>n6<|lp (d8m a) h (fun _ h=>a4X.rt h) (e46 a r) fun hI=>sk [] [1,6,7,8] [(1,0)] hI
def a5A:FS (Bool):=⟨40,Tryz.f40,[.val [] []],[none],[.val [some 7] []],fun r=>.b r,fun _=>[none],Tryz.func40⟩
def d0S(list:List m4):Unit->KS:=fun _=>⟨a5A.k 3 [false],(l7 7 t0 list::(bs 17 [])),[some []]⟩
def c20(list:List m4):Option Bool :=
 some (decide ((list.length:Int)<=40))
theorem e5p(list)(r):NF a5A r (d0S list) (fun s=>c20 list):=fun _ h=>PK<|rg<|fE h
def e32(list:List m4):Int->KS:=fun v7=>⟨a5A.k 2 [],(l7 7 t0 list::(bs 4 (l7 7 t0 list::(vi (list.length:Int)::(vi v7::(bs 10 [])))))),[some []]⟩
def b62(list:List m4)(v7:Int):Option (l8 Bool Int Unit) :=
 (bif decide (v7<(list.length:Int)) then ((idx list v7).bind fun entry=>((a1z entry).bind fun D7=>(bif (!D7) then some (l8.ret false) else some (l8.nxt (m8 (v7+1)))))) else some (l8.brk ()))
theorem d63(list):LQ a5A (d0S list) (e32 list) (fun s=>b62 list s):=fun lc v7 h=>PK<|rg<|j5 0 h (fun h=>rg<|w9 t0 0 h fun entry H0 h=>rg<|j9 a2g a3L 1 h fun D7 h=>j5 2 h (fun h=>rg<|fL lc h) (fun h=>rg<|(lc.nx h fun hI=>sk [] [0,5,6,7] [] hI))) (fun h=>(lc.bk h fun hI=>sk [] [0] [] hI))
def b2F(list:List m4):Option Bool :=
 ((p8 (fun s:Int=>b62 list s) 0).bind fun x=>x.go (fun r=>some r) fun s=>c20 list)
theorem c4O{list}:OK a5A [l7 7 t0 list] (b2F list) :=
 n8 _ fun r h=>n6<|lp (d63 list) h (fun _ h=>a5A.rt h) (e5p list r) fun hI=>sk [] [0,5,6,7] [] hI
def a3l:FS (Bool):=⟨124,Tryz.f124,[.val [] []],[none],[.val [] []],fun r=>.b r,fun _=>[none],Tryz.func124⟩
def a2H(n:Int):Option Bool :=
 ((C5 n 0 3).bind fun in_=>some in_)
theorem a4w{n}:OK a3l [vi n] (a2H n) :=
 n8 _ fun r h=>n6<|j9 C3 D8 1 h fun in_ h=>fE h
def c1d:FS (Bool):=⟨125,Tryz.f125,[.val [] []],[none],[.val [] []],fun r=>.b r,fun _=>[none],Tryz.func125⟩
def b6T(n:Int):Option Bool :=
 ((C5 n 0 3).bind fun in_=>some in_)
theorem c4X{n}:OK c1d [vi n] (b6T n) :=
 n8 _ fun r h=>n6<|j9 C3 D8 1 h fun in_ h=>fE h
def c6t:FS (Bool):=⟨80,Tryz.f80,[.val [] []],[none],[.val [] []],fun r=>.b r,fun _=>[none],Tryz.func80⟩
def b57(x_:o9):Option Bool :=
 (bif (x_.a8==1) then ((a2H x_.A).bind fun c1=>(bif c1 then ((b6T x_.B).bind fun c2=>(bif c2 then some (x_.N==0) else some false)) else some false)) else (bif (x_.a8==2) then ((b6T x_.A).bind fun c21=>(bif c21 then ((a2H x_.B).bind fun c11=>(bif c11 then some (x_.N==0) else some false)) else some false)) else (bif (x_.a8==3) then ((a2H x_.A).bind fun c12=>(bif c12 then (bif (x_.B==0) then ((C5 x_.N (-1000000) 1000000).bind fun in_=>some in_) else some false) else some false)) else (bif (x_.a8==4) then ((a2H x_.A).bind fun c13=>(bif c13 then ((a2H x_.B).bind fun c14=>(bif c14 then some (x_.N==0) else some false)) else some false)) else (bif (x_.a8==5) then ((a2H x_.A).bind fun c15=>(bif c15 then ((a2H x_.B).bind fun c16=>(bif c16 then some (x_.N==0) else some false)) else some false)) else (bif (x_.a8==6) then ((a2H x_.A).bind fun c17=>(bif c17 then ((a2H x_.B).bind fun c18=>(bif c18 then ((C5 x_.N 1 10).bind fun in_1=>some in_1) else some false)) else some false)) else (bif (x_.a8==7) then (bif (x_.A==0) then (bif (x_.B==0) then some (x_.N==0) else some false) else some false) else some false)))))))
theorem e3H{x_}:OK c6t [.agg (z6 x_)] (b57 x_) :=
 n8 _ fun r h=>rg4<|rg<|j5 1 h (fun h=>rg<|j9 a3l a4w 3 h fun c1 h=>j5 4 h (fun h=>j9 c1d c4X 8 h fun c2 h=>j5 10 h (fun h=>fE h) (fun h=>fE h)) (fun h=>fE h)) (fun h=>rg<|j5 1 h (fun h=>rg<|j9 c1d c4X 3 h fun c21 h=>j5 4 h (fun h=>j9 a3l a4w 8 h fun c11 h=>j5 10 h (fun h=>fE h) (fun h=>fE h)) (fun h=>fE h)) (fun h=>rg<|j5 1 h (fun h=>rg<|j9 a3l a4w 3 h fun c12 h=>j5 4 h (fun h=>j5 9 h (fun h=>j9 C3 D8 12 h fun in_ h=>fE h) (fun h=>fE h)) (fun h=>fE h)) (fun h=>rg<|j5 1 h (fun h=>rg<|j9 a3l a4w 3 h fun c13 h=>j5 4 h (fun h=>j9 a3l a4w 8 h fun c14 h=>j5 10 h (fun h=>fE h) (fun h=>fE h)) (fun h=>fE h)) (fun h=>rg<|j5 1 h (fun h=>rg<|j9 a3l a4w 3 h fun c15 h=>j5 4 h (fun h=>j9 a3l a4w 8 h fun c16 h=>j5 10 h (fun h=>fE h) (fun h=>fE h)) (fun h=>fE h)) (fun h=>rg<|j5 1 h (fun h=>rg<|j9 a3l a4w 3 h fun c17 h=>j5 4 h (fun h=>j9 a3l a4w 8 h fun c18 h=>j5 10 h (fun h=>j9 C3 D8 13 h fun in_1 h=>fE h) (fun h=>fE h)) (fun h=>fE h)) (fun h=>rg<|j5 1 h (fun h=>rg<|j5 3 h (fun h=>j5 8 h (fun h=>fE h) (fun h=>fE h)) (fun h=>fE h)) (fun h=>rg<|fE h)))))))
def a3r:FS (Bool):=⟨34,Tryz.f34,[.val [] []],[none],[.val [some 4] []],fun r=>.b r,fun _=>[none],Tryz.func34⟩
def d2R(list:List o9):Unit->KS:=fun _=>⟨a3r.k 3 [false],(l7 4 z6 list::(bs 17 [])),[some []]⟩
def c2e(list:List o9):Option Bool :=
 some (decide ((list.length:Int)<=10))
theorem e7y(list)(r):NF a3r r (d2R list) (fun s=>c2e list):=fun _ h=>PK<|rg<|fE h
def d4W(list:List o9):Int->KS:=fun v7=>⟨a3r.k 2 [],(l7 4 z6 list::(bs 4 (l7 4 z6 list::(vi (list.length:Int)::(vi v7::(bs 10 [])))))),[some []]⟩
def b5D(list:List o9)(v7:Int):Option (l8 Bool Int Unit) :=
 (bif decide (v7<(list.length:Int)) then ((idx list v7).bind fun ins=>((b57 ins).bind fun P4=>(bif (!P4) then some (l8.ret false) else some (l8.nxt (m8 (v7+1)))))) else some (l8.brk ()))
theorem e5m(list):LQ a3r (d2R list) (d4W list) (fun s=>b5D list s):=fun lc v7 h=>PK<|rg<|j5 0 h (fun h=>rg<|w9 z6 0 h fun ins hins h=>rg<|j9 c6t e3H 1 h fun P4 h=>j5 2 h (fun h=>rg<|fL lc h) (fun h=>rg<|(lc.nx h fun hI=>sk [] [0,5,6,7] [] hI))) (fun h=>(lc.bk h fun hI=>sk [] [0] [] hI))
def a64(list:List o9):Option Bool :=
 ((p8 (fun s:Int=>b5D list s) 0).bind fun x=>x.go (fun r=>some r) fun s=>c2e list)
theorem b5C{list}:OK a3r [l7 4 z6 list] (a64 list) :=
 n8 _ fun r h=>n6<|lp (e5m list) h (fun _ h=>a3r.rt h) (e7y list r) fun hI=>sk [] [0,5,6,7] [] hI
def c0g:FS (Int):=⟨133,Tryz.f133,[.val [] []],[none],[.val [] []],fun r=>vi r,fun _=>[none],Tryz.func133⟩
def b2H(bal:Int):Option Int :=
 ((C5 bal 1 3000).bind fun in_=>(bif (!in_) then some (-1) else some (e99 bal 3)))
theorem d2n{bal}:OK c0g [vi bal] (b2H bal) :=
 n8 _ fun r h=>n6<|j9 C3 D8 1 h fun in_ h=>j5 2 h (fun h=>rg<|fE h) (fun h=>rg<|om (3≠(0:Int)) (by decide)<|fE h)
def c2b:FS (Bool):=⟨134,Tryz.f134,[.val [] []],[none,none],[.val [some 1] [],.val [] []],fun r=>.b r,fun _=>[none,none],Tryz.func134⟩
def b1O(list:List Bool)(id:Int):Option Bool :=
 (bif ((list.length:Int)==3) then ((idx list id).bind fun y=>some y) else some false)
theorem c4Y{list id}:OK c2b [l7 1 eB list,vi id] (b1O list id) :=
 n8 _ fun r h=>n6<|j5 3 h (fun h=>w9 eB 6 h fun y hy h=>fE h) (fun h=>fE h)
def b8k:FS (Bool):=⟨85,Tryz.f85,[.val [] []],[none],[.val A3 []],fun r=>.b r,fun _=>[none],Tryz.func85⟩
def e5W(n:j6):Bool->KS:=fun a9x=>⟨b8k.k 2 [],(bs 1 (.ptr 1 0 0::(bs 1 (.b a9x::(bs 92 []))))),[some [],some [.var 65 (a7P n)]]⟩
def b6g(n:j6)(a9x:Bool):Option Bool :=
 (bif (n.d6==0) then (bif (n.a7==0) then (bif ((n.c8.length:Int)==0) then (bif ((n.g9.length:Int)==0) then some a9x else some false) else some false) else some false) else ((b2H n.a7).bind fun a5f=>(bif (a5f != n.Id) then some false else (bif decide (n.a7>n.Acc.g8) then some false else ((a52 n.g9).bind fun K2=>(bif (!K2) then some false else (bif (n.d6==1) then ((b1O n.c8 n.Id).bind fun d2j=>(bif d2j then some a9x else some false)) else (bif (n.d6==2) then (bif ((n.c8.length:Int)==0) then some a9x else some false) else (bif (n.d6==3) then (bif ((n.c8.length:Int)==0) then ((a1z n.c9).bind fun D7=>(bif D7 then ((b1O n.a6 n.Id).bind fun c6C=>(bif c6C then some (decide ((n.a0.length:Int)<40)) else some false)) else some false)) else some false) else some false)))))))))
theorem e4J(n)(r):NF b8k r (e5W n) (fun s=>b6g n s):=fun a9x h=>PK<|n6<|j5 2 h (fun h=>rg<|j5 3 h (fun h=>j5 6 h (fun h=>j5 12 h (fun h=>fE h) (fun h=>fE h)) (fun h=>fE h)) (fun h=>fE h)) (fun h=>rg<|j9 c0g d2n 2 h fun a5f h=>j5 6 h (fun h=>rg<|fE h) (fun h=>j5 14 h (fun h=>rg<|fE h) (fun h=>j9 a2D b0x 17 h fun K2 h=>j5 19 h (fun h=>rg<|fE h) (fun h=>n6<|j5 1 h (fun h=>rg<|j9 c2b c4Y 4 h fun d2j h=>j5 5 h (fun h=>fE h) (fun h=>fE h)) (fun h=>rg<|j5 1 h (fun h=>rg<|j5 1 h (fun h=>fE h) (fun h=>fE h)) (fun h=>rg<|j5 1 h (fun h=>rg<|j5 1 h (fun h=>j9 a2g a3L 4 h fun D7 h=>j5 6 h (fun h=>j9 c2b c4Y 11 h fun c6C h=>j5 13 h (fun h=>fE h) (fun h=>fE h)) (fun h=>fE h)) (fun h=>fE h)) (fun h=>rg<|fE h)))))))
def b1h(n:j6):Option Bool :=
 ((((Z9 n.c9 (m4.mk false (q8.mk 0 0) (n5.mk [] [] 0 0))).bind fun J8=>(bif J8 then some (l9.brk ((n.a6.length:Int)==0)) else some (l9.brk false))):Option (l9 Bool Bool)).bind fun x=>x.go some fun j=>b6g n j)
theorem d7w{n}:OK b8k [.agg (A2 n)] (b1h n) :=
 n8 _ fun r h=>rg<|B2 h (e4J n r) fun x1 h hc1=>rg<|j9 a2J a3e 3 h fun J8 h=>j5 4 h (fun h=>(o8 h hc1 fun hI=>sk [] [1,3] [(1,0)] hI)) (fun h=>(o8 h hc1 fun hI=>sk [] [1,3] [(1,0)] hI))
def a0z:FS (Bool):=⟨42,Tryz.f42,[.val [] []],[none],[.val A3 []],fun r=>.b r,fun _=>[none],Tryz.func42⟩
def c5J(n:j6):Unit->KS:=fun _=>⟨a0z.k 4 [false,false],(bs 1 (.ptr 1 0 0::(bs 87 []))),[some [],some [.var 65 (a7P n)]]⟩
def e8S(n:j6):Unit->KS:=fun _=>⟨a0z.k 6 [false,false,true,false],(bs 1 (.ptr 1 0 0::(bs 87 []))),[some [],some [.var 65 (a7P n)]]⟩
def b9o(n:j6):Option Bool :=
 ((b1h n).bind fun a0Z=>some a0Z)
theorem e54(n)(r):NF a0z r (e8S n) (fun s=>b9o n):=fun _ h=>PK<|rg<|j9 b8k d7w 1 h fun a0Z h=>fE h
def b3G(n:j6):Option Bool :=
 (((bif n.i7 then ((a64 n.i5).bind fun D5=>(bif (!D5) then some (l9.ret false) else ((a1z n.b7).bind fun D7=>(bif (!D7) then some (l9.ret false) else (bif n.b7.i8 then some (l9.ret false) else (bif (!(([n.b7.a5.d8,n.b7.a5.Seq]:List Int)==[n.Id,n.Seq])) then some (l9.ret false) else some (l9.brk ()))))))) else (bif decide ((n.i5.length:Int)>0) then some (l9.ret false) else ((Z9 n.b7 (m4.mk false (q8.mk 0 0) (n5.mk [] [] 0 0))).bind fun J8=>(bif (!J8) then some (l9.ret false) else some (l9.brk ()))))):Option (l9 Bool Unit)).bind fun x=>x.go some fun j=>b9o n)
theorem e5J(n)(r):NF a0z r (c5J n) (fun s=>b3G n):=fun _ h=>PK<|B2 h (e54 n r) fun x1 h hc1=>rg<|j5 1 h (fun h=>rg<|j9 a3r b5C 2 h fun D5 h=>j5 4 h (fun h=>rg<|(B7 h hc1 fun h=>fE h)) (fun h=>j9 a2g a3L 7 h fun D7 h=>j5 10 h (fun h=>rg<|(B7 h hc1 fun h=>fE h)) (fun h=>j5 15 h (fun h=>rg<|(B7 h hc1 fun h=>fE h)) (fun h=>j5 25 h (fun h=>rg<|(B7 h hc1 fun h=>fE h)) (fun h=>(o8 h hc1 fun hI=>sk [] [1] [(1,0)] hI)))))) (fun h=>rg<|j5 4 h (fun h=>rg<|(B7 h hc1 fun h=>fE h)) (fun h=>j9 a2J a3e 8 h fun J8 h=>j5 10 h (fun h=>rg<|(B7 h hc1 fun h=>fE h)) (fun h=>(o8 h hc1 fun hI=>sk [] [1] [(1,0)] hI))))
def e8D(n:j6):Int->KS:=fun v36=>⟨a0z.k 3 [false],(bs 1 (.ptr 1 0 0::(bs 32 (l7 7 t0 n.d9::(vi (n.d9.length:Int)::(vi v36::(bs 52 []))))))),[some [],some [.var 65 (a7P n)]]⟩
def b4F(n:j6)(v36:Int):Option (l8 Bool Int Unit) :=
 (bif decide (v36<(n.d9.length:Int)) then ((idx n.d9 v36).bind fun entry=>((a1z entry).bind fun a2u=>(bif (!a2u) then some (l8.ret false) else (bif entry.i8 then some (l8.ret false) else some (l8.nxt (m8 (v36+1))))))) else some (l8.brk ()))
theorem d4h(n):LQ a0z (c5J n) (e8D n) (fun s=>b4F n s):=fun lc v36 h=>PK<|rg<|j5 0 h (fun h=>rg<|w9 t0 0 h fun entry H0 h=>rg<|j9 a2g a3L 1 h fun a2u h=>j5 3 h (fun h=>rg<|fL lc h) (fun h=>j5 6 h (fun h=>rg<|fL lc h) (fun h=>rg<|(lc.nx h fun hI=>sk [] [1,34,35,36] [(1,0)] hI)))) (fun h=>(lc.bk h fun hI=>sk [] [1] [(1,0)] hI))
def a3B(n:j6):Option Bool :=
 ((C5 n.Id 0 2).bind fun in_=>(bif (!in_) then some false else ((a9R n.Acc).bind fun O0=>(bif (!O0) then some false else ((b2F n.a0).bind fun G5=>(bif (!G5) then some false else ((C5 n.Seq 0 1000).bind fun in_1=>(bif (!in_1) then some false else (bif decide ((n.d9.length:Int)>4) then some false else ((p8 (fun s:Int=>b4F n s) 0).bind fun x=>x.go (fun r=>some r) fun s=>b3G n))))))))))
theorem a8j{n}:OK a0z [.agg (A2 n)] (a3B n) :=
 n8 _ fun r h=>n6<|j9 C3 D8 2 h fun in_ h=>j5 4 h (fun h=>rg<|fE h) (fun h=>j9 a4X b94 7 h fun O0 h=>j5 10 h (fun h=>rg<|fE h) (fun h=>j9 a5A c4O 13 h fun G5 h=>j5 16 h (fun h=>rg<|fE h) (fun h=>j9 C3 D8 19 h fun in_1 h=>j5 22 h (fun h=>rg<|fE h) (fun h=>j5 27 h (fun h=>rg<|fE h) (fun h=>rg<|lp (d4h n) h (fun _ h=>a0z.rt h) (e5J n r) fun hI=>sk [] [1,34,35,36] [(1,0)] hI)))))
def b9m:FS (Bool):=⟨43,Tryz.f43,[.val [] []],[none],[.val B5 []],fun r=>.b r,fun _=>[none],Tryz.func43⟩
def b2s(m:j8):Option Bool :=
 ((C5 m.c8 0 2).bind fun in_=>(bif (!in_) then some false else ((C5 m.To 0 2).bind fun in_1=>(bif (!in_1) then some false else (bif (m.c8==m.To) then some false else ((C5 m.g7 0 40).bind fun in_2=>(bif (!in_2) then some false else ((C5 m.a7 1 3000).bind fun a0a=>((Z9 m.i0 (m4.mk false (q8.mk 0 0) (n5.mk [] [] 0 0))).bind fun J8=>(bif (m.a8==1) then (bif a0a then (bif J8 then some ((m.a6.length:Int)==0) else some false) else some false) else (bif (m.a8==4) then (bif a0a then (bif J8 then some ((m.a6.length:Int)==0) else some false) else some false) else (bif (m.a8==2) then (bif a0a then (bif J8 then ((a52 m.a6).bind fun K2=>(bif K2 then some (decide ((m8 (m.g7+(m.a6.length:Int)))<=40)) else some false)) else some false) else some false) else (bif (m.a8==3) then (bif a0a then (bif decide (m.g7<40) then ((a1z m.i0).bind fun D7=>(bif D7 then some ((m.a6.length:Int)==0) else some false)) else some false) else some false) else (bif (m.a8==5) then (bif (m.a7==0) then (bif decide (m.g7<40) then ((a1z m.i0).bind fun a2u=>(bif a2u then some ((m.a6.length:Int)==0) else some false)) else some false) else some false) else (bif (m.a8==6) then (bif a0a then (bif (m.g7==0) then (bif J8 then some ((m.a6.length:Int)==0) else some false) else some false) else some false) else (bif (m.a8==7) then (bif (m.a7==0) then (bif (m.g7==0) then ((a1z m.i0).bind fun d1U=>(bif d1U then (bif (!m.i0.i8) then some ((m.a6.length:Int)==0) else some false) else some false)) else some false) else some false) else (bif (m.a8==8) then (bif (m.a7==0) then (bif J8 then some ((m.a6.length:Int)==0) else some false) else some false) else some false)))))))))))))))))
theorem d0K{m}:OK b9m [.agg (s5 m)] (b2s m) :=
 n8 _ fun r h=>n6<|j9 C3 D8 2 h fun in_ h=>j5 4 h (fun h=>rg<|fE h) (fun h=>j9 C3 D8 7 h fun in_1 h=>j5 10 h (fun h=>rg<|fE h) (fun h=>j5 17 h (fun h=>rg<|fE h) (fun h=>j9 C3 D8 20 h fun in_2 h=>j5 22 h (fun h=>rg<|fE h) (fun h=>rg<|j9 C3 D8 2 h fun a0a h=>rg<|j9 a2J a3e 3 h fun J8 h=>M5<|j5 1 h (fun h=>rg<|j5 1 h (fun h=>j5 4 h (fun h=>fE h) (fun h=>fE h)) (fun h=>fE h)) (fun h=>rg<|j5 1 h (fun h=>rg<|j5 1 h (fun h=>j5 4 h (fun h=>fE h) (fun h=>fE h)) (fun h=>fE h)) (fun h=>rg<|j5 1 h (fun h=>rg<|j5 1 h (fun h=>j5 4 h (fun h=>j9 a2D b0x 7 h fun K2 h=>j5 9 h (fun h=>fE h) (fun h=>fE h)) (fun h=>fE h)) (fun h=>fE h)) (fun h=>rg<|j5 1 h (fun h=>rg<|j5 1 h (fun h=>j5 6 h (fun h=>j9 a2g a3L 9 h fun D7 h=>j5 11 h (fun h=>fE h) (fun h=>fE h)) (fun h=>fE h)) (fun h=>fE h)) (fun h=>rg<|j5 1 h (fun h=>rg<|j5 3 h (fun h=>j5 8 h (fun h=>j9 a2g a3L 11 h fun a2u h=>j5 13 h (fun h=>fE h) (fun h=>fE h)) (fun h=>fE h)) (fun h=>fE h)) (fun h=>rg<|j5 1 h (fun h=>rg<|j5 1 h (fun h=>j5 6 h (fun h=>j5 9 h (fun h=>fE h) (fun h=>fE h)) (fun h=>fE h)) (fun h=>fE h)) (fun h=>rg<|j5 1 h (fun h=>rg<|j5 3 h (fun h=>j5 8 h (fun h=>j9 a2g a3L 11 h fun d1U h=>j5 13 h (fun h=>j5 19 h (fun h=>fE h) (fun h=>fE h)) (fun h=>fE h)) (fun h=>fE h)) (fun h=>fE h)) (fun h=>rg<|j5 1 h (fun h=>rg<|j5 3 h (fun h=>j5 6 h (fun h=>fE h) (fun h=>fE h)) (fun h=>fE h)) (fun h=>rg<|fE h))))))))))))
def Q5:FS (Bool):=⟨15,Tryz.f15,[.val [] []],[none],[.val E4 []],fun r=>.b r,fun _=>[none],Tryz.func15⟩
def d1T(w:m6):Unit->KS:=fun _=>⟨Q5.k 4 [false,false],(bs 1 (.ptr 1 0 0::(bs 116 []))),[some [],some [.var 28 (I0 w)]]⟩
def c72(w:m6):Unit->KS:=fun _=>⟨Q5.k 6 [false,false,false],(bs 1 (.ptr 1 0 0::(bs 116 []))),[some [],some [.var 28 (I0 w)]]⟩
def d1X(w:m6):Unit->KS:=fun _=>⟨Q5.k 8 [false,false,false,false],(bs 1 (.ptr 1 0 0::(bs 116 []))),[some [],some [.var 28 (I0 w)]]⟩
def c7u:Unit->KS:=fun _=>⟨Q5.k 10 [false,false,false,false,false],(bs 118 []),[some []]⟩
def c42:Option Bool :=
 some true
theorem d3Y(r):NF Q5 r c7u (fun s=>c42):=fun _ h=>PK<|rg<|fE h
def e6X(w:m6):Int->KS:=fun v83=>⟨Q5.k 9 [false,false,false,false],(bs 81 (l7 5 x7 w.Told::(vi (w.Told.length:Int)::(vi v83::(bs 34 []))))),[some []]⟩
def b4r(w:m6)(v83:Int):Option (l8 Bool Int Unit) :=
 (bif decide (v83<(w.Told.length:Int)) then ((idx w.Told v83).bind fun told=>((C5 told.Node 0 2).bind fun in_=>(bif (!in_) then some (l8.ret false) else ((a6p told.a5).bind fun a5G=>(bif (!a5G) then some (l8.ret false) else (bif (told.a5.d8 != told.Node) then some (l8.ret false) else ((C5 told.Code 0 4).bind fun in_1=>(bif (!in_1) then some (l8.ret false) else ((C5 told.f0 (-1000000) 1000000).bind fun in_2=>(bif (!in_2) then some (l8.ret false) else some (l8.nxt (m8 (v83+1))))))))))))) else some (l8.brk ()))
theorem d8U(w):LQ Q5 c7u (e6X w) (fun s=>b4r w s):=fun lc v83 h=>PK<|rg<|j5 0 h (fun h=>rg<|w9 x7 0 h fun told a7l h=>rg<|j9 C3 D8 2 h fun in_ h=>j5 4 h (fun h=>rg<|fL lc h) (fun h=>j9 a8S b1C 7 h fun a5G h=>j5 10 h (fun h=>rg<|fL lc h) (fun h=>j5 18 h (fun h=>rg<|fL lc h) (fun h=>j9 C3 D8 21 h fun in_1 h=>j5 24 h (fun h=>rg<|fL lc h) (fun h=>j9 C3 D8 27 h fun in_2 h=>j5 29 h (fun h=>rg<|fL lc h) (fun h=>rg<|(lc.nx h fun hI=>sk [] [81,82,83] [] hI))))))) (fun h=>(lc.bk h fun hI=>sk [] [] [] hI))
def b69(w:m6):Option Bool :=
 ((p8 (fun s:Int=>b4r w s) 0).bind fun x=>x.go (fun r=>some r) fun s=>c42)
theorem e0R(w)(r):NF Q5 r (d1X w) (fun s=>b69 w):=fun _ h=>PK<|rg<|lp (d8U w) h (fun _ h=>Q5.rt h) (d3Y r) fun hI=>sk [] [81,82,83] [] hI
def e87(w:m6):Int->KS:=fun v65=>⟨Q5.k 7 [false,false,false],(bs 1 (.ptr 1 0 0::(bs 61 (l7 3 A7 w.d7::(vi (w.d7.length:Int)::(vi v65::(bs 52 []))))))),[some [],some [.var 28 (I0 w)]]⟩
def b60(w:m6)(v65:Int):Option (l8 Bool Int Unit) :=
 (bif decide (v65<(w.d7.length:Int)) then ((idx w.d7 v65).bind fun asked=>((a6p asked.a5).bind fun b06=>(bif (!b06) then some (l8.ret false) else ((a64 asked.i5).bind fun D5=>(bif (!D5) then some (l8.ret false) else some (l8.nxt (m8 (v65+1)))))))) else some (l8.brk ()))
theorem e89(w):LQ Q5 (d1X w) (e87 w) (fun s=>b60 w s):=fun lc v65 h=>PK<|rg<|j5 0 h (fun h=>rg<|w9 A7 0 h fun asked a7k h=>rg<|j9 a8S b1C 2 h fun b06 h=>j5 4 h (fun h=>rg<|fL lc h) (fun h=>j9 a3r b5C 7 h fun D5 h=>j5 9 h (fun h=>rg<|fL lc h) (fun h=>rg<|(lc.nx h fun hI=>sk [] [1,63,64,65] [(1,0)] hI)))) (fun h=>(lc.bk h fun hI=>sk [] [1] [(1,0)] hI))
def b7D(w:m6):Option Bool :=
 ((p8 (fun s:Int=>b60 w s) 0).bind fun x=>x.go (fun r=>some r) fun s=>b69 w)
theorem e7H(w)(r):NF Q5 r (c72 w) (fun s=>b7D w):=fun _ h=>PK<|rg<|lp (e89 w) h (fun _ h=>Q5.rt h) (e0R w r) fun hI=>sk [] [1,63,64,65] [(1,0)] hI
def e8V(w:m6):Int->KS:=fun v54=>⟨Q5.k 5 [false,false],(bs 1 (.ptr 1 0 0::(bs 50 (l7 13 s5 w.b9::(vi (w.b9.length:Int)::(vi v54::(bs 63 []))))))),[some [],some [.var 28 (I0 w)]]⟩
def b7B(w:m6)(v54:Int):Option (l8 Bool Int Unit) :=
 (bif decide (v54<(w.b9.length:Int)) then ((idx w.b9 v54).bind fun msg=>((b2s msg).bind fun O2=>(bif (!O2) then some (l8.ret false) else some (l8.nxt (m8 (v54+1)))))) else some (l8.brk ()))
theorem d7V(w):LQ Q5 (c72 w) (e8V w) (fun s=>b7B w s):=fun lc v54 h=>PK<|rg<|j5 0 h (fun h=>rg<|w9 s5 0 h fun msg hmsg h=>rg<|j9 b9m d0K 1 h fun O2 h=>j5 2 h (fun h=>rg<|fL lc h) (fun h=>rg<|(lc.nx h fun hI=>sk [] [1,52,53,54] [(1,0)] hI))) (fun h=>(lc.bk h fun hI=>sk [] [1] [(1,0)] hI))
def b6d(w:m6):Option Bool :=
 ((p8 (fun s:Int=>b7B w s) 0).bind fun x=>x.go (fun r=>some r) fun s=>b7D w)
theorem e9a(w)(r):NF Q5 r (d1T w) (fun s=>b6d w):=fun _ h=>PK<|rg<|lp (d7V w) h (fun _ h=>Q5.rt h) (e7H w r) fun hI=>sk [] [1,52,53,54] [(1,0)] hI
def d45(w:m6):Int->KS:=fun v36=>⟨Q5.k 3 [false],(bs 1 (.ptr 1 0 0::(bs 32 (l7 27 A2 w.a9::(vi (w.a9.length:Int)::(vi v36::(bs 81 []))))))),[some [],some [.var 28 (I0 w)]]⟩
def b5k(w:m6)(v36:Int):Option (l8 Bool Int Unit) :=
 (bif decide (v36<(w.a9.length:Int)) then ((idx w.a9 v36).bind fun node=>(bif (node.Id != v36) then some (l8.ret false) else ((a3B node).bind fun C7=>(bif (!C7) then some (l8.ret false) else some (l8.nxt (m8 (v36+1))))))) else some (l8.brk ()))
theorem e0e(w):LQ Q5 (d1T w) (d45 w) (fun s=>b5k w s):=fun lc v36 h=>PK<|rg<|j5 0 h (fun h=>rg<|w9 A2 1 h fun node hnode h=>rg<|j5 4 h (fun h=>rg<|fL lc h) (fun h=>j9 a0z a8j 6 h fun C7 h=>j5 8 h (fun h=>rg<|fL lc h) (fun h=>rg<|(lc.nx h fun hI=>sk [] [1,34,35,36] [(1,0)] hI)))) (fun h=>(lc.bk h fun hI=>sk [] [1] [(1,0)] hI))
def b6B(w:m6):Option Bool :=
 (bif ((w.a9.length:Int) != 3) then some false else (bif decide ((w.b9.length:Int)>40) then some false else (bif decide ((w.d7.length:Int)>60) then some false else (bif decide ((w.Told.length:Int)>60) then some false else ((p8 (fun s:Int=>b5k w s) 0).bind fun x=>x.go (fun r=>some r) fun s=>b6d w)))))
theorem e5Z{w}:OK Q5 [.agg (a0h w)] (b6B w) :=
 n8 _ fun r h=>n6<|j5 4 h (fun h=>rg<|fE h) (fun h=>j5 10 h (fun h=>rg<|fE h) (fun h=>j5 16 h (fun h=>rg<|fE h) (fun h=>j5 21 h (fun h=>rg<|fE h) (fun h=>rg<|lp (e0e w) h (fun _ h=>Q5.rt h) (e9a w r) fun hI=>sk [] [1,34,35,36] [(1,0)] hI))))
def b3m:FS (n7):=⟨137,Tryz.f137,[.ptr H6 om7],[none],[.val A3 []],fun r=>.optr 175 (b7U r),fun _=>[none],Tryz.func137⟩
def a8w(n:j6):Option n7 :=
 ((a7C n).bind fun V6=>some (n7.mk V6 [] []))
theorem b3E{n}:OK b3m [.agg (A2 n)] (a8w n) :=
 n8 _ fun r h=>n6<|j9 b2k b38 1 h fun V6 h=>I3 V6<|fE h
def a27:FS (j6×(List j8)×(List m9)×n7):=⟨138,Tryz.f138,[.val A3 [],.val [some 13] [],.val [some 5] []],[some (0,.ptr H6 [])],[.ptr H6 []],fun r=>.tup [.agg (A2 r.1),l7 13 s5 r.2.1,l7 5 x7 r.2.2.1],fun r=>[some (.optr 175 (c4w r.2.2.2))],Tryz.func138⟩
def a1l(a:n7):Option (j6×(List j8)×(List m9)×n7) :=
 ((a7C a.n).bind fun V6=>((b2q a.out).bind fun msgsCopy=>((b6G a.told).bind fun told=>some (V6,msgsCopy,told,a))))
theorem a4k{a}:OK a27 [.optr 175 (c4w a)] (a1l a) :=
 n8 _ fun r h=>n6<|j9 b2k b38 4 h fun V6 h=>j9 a6m c9E 9 h fun msgsCopy h=>j9 c2g c9k 14 h fun told h=>I3 V6<|C2 msgsCopy told<|fE h
def c9N:FS (List q9):=⟨127,Tryz.f127,[.val [some 2] [some 95]],[],[],fun r=>u7 95 2 z5 r,fun _=>[],Tryz.func127⟩
def c1v:Option (List q9) :=
 (t5 (0<=(4:Int)/\(4:Int)*16<=140737488355328) (some (e9L (4:Int).toNat (q9.mk 0 0))))
theorem e5U:OK c9N [] c1v :=
 n8 _ fun r h=>n6<|t6 h fun e1 h=>U1 0 2 95 2 16 z5 (q9.mk 0 0) b3u (.none) e1 (by decide) (by rfl)<|s7 (e9L (4:Int).toNat (q9.mk 0 0))<|fE h
def c6u:FS (v6):=⟨82,Tryz.f82,[.val [none,some 2,some 4] [none,some 95,some 166]],[],[],fun r=>.agg (b2r r),fun _=>[],Tryz.func82⟩
def b8f:Option v6 :=
 ((c1v).bind fun a6G=>some (v6.mk 0 a6G []))
theorem e3o:OK c6u [] b8f :=
 n8 _ fun r h=>n6<|j9 c9N e5U 0 h fun a6G h=>s7 a6G<|fE h
def a3O:FS (Bool):=⟨33,Tryz.f33,[.val [] []],[none],[.val [some 2] []],fun r=>.b r,fun _=>[none],Tryz.func33⟩
def d0F(list:List q9):Unit->KS:=fun _=>⟨a3O.k 3 [false],(l7 2 z5 list::(bs 24 [])),[some []]⟩
def c0z(list:List q9):Option Bool :=
 some ((list.length:Int)==4)
theorem e8T(list)(r):NF a3O r (d0F list) (fun s=>c0z list):=fun _ h=>PK<|rg<|fE h
def d9E(list:List q9):Int->KS:=fun v7=>⟨a3O.k 2 [],(l7 2 z5 list::(bs 4 (l7 2 z5 list::(vi (list.length:Int)::(vi v7::(bs 17 [])))))),[some []]⟩
def b8e(list:List q9)(v7:Int):Option (l8 Bool Int Unit) :=
 (bif decide (v7<(list.length:Int)) then ((idx list v7).bind fun box=>((C5 box.j4 0 1000000).bind fun in_=>(bif (!in_) then some (l8.ret false) else ((C5 box.f0 (-1000000) 1000000).bind fun in_1=>(bif (!in_1) then some (l8.ret false) else some (l8.nxt (m8 (v7+1)))))))) else some (l8.brk ()))
theorem e9k(list):LQ a3O (d0F list) (d9E list) (fun s=>b8e list s):=fun lc v7 h=>PK<|rg<|j5 0 h (fun h=>rg<|w9 z5 0 h fun box a2s h=>rg<|j9 C3 D8 2 h fun in_ h=>j5 4 h (fun h=>rg<|fL lc h) (fun h=>j9 C3 D8 7 h fun in_1 h=>j5 9 h (fun h=>rg<|fL lc h) (fun h=>rg<|(lc.nx h fun hI=>sk [] [0,5,6,7] [] hI)))) (fun h=>(lc.bk h fun hI=>sk [] [0] [] hI))
def a7V(list:List q9):Option Bool :=
 ((p8 (fun s:Int=>b8e list s) 0).bind fun x=>x.go (fun r=>some r) fun s=>c0z list)
theorem b54{list}:OK a3O [l7 2 z5 list] (a7V list) :=
 n8 _ fun r h=>n6<|lp (e9k list) h (fun _ h=>a3O.rt h) (e8T list r) fun hI=>sk [] [0,5,6,7] [] hI
def a4B:FS (Bool):=⟨128,Tryz.f128,[.val [] []],[none],[.val [none,some 2,some 4] []],fun r=>.b r,fun _=>[none],Tryz.func128⟩
def b90(s_:v6):Unit->KS:=fun _=>⟨a4B.k 3 [false],(bs 1 (.ptr 1 0 0::(bs 64 []))),[some [],some [.var 52 [vi s_.At,l7 2 z5 s_.i4,l7 4 B3 s_.i9]]]⟩
def c3w(s_:v6):Option Bool :=
 ((C5 s_.At 0 40).bind fun in_=>(bif in_ then ((a7V s_.i4).bind fun X2=>some X2) else some false))
theorem d3H(s_)(r):NF a4B r (b90 s_) (fun s=>c3w s_):=fun _ h=>PK<|rg<|j9 C3 D8 2 h fun in_ h=>j5 3 h (fun h=>j9 a3O b54 6 h fun X2 h=>fE h) (fun h=>fE h)
def c7S(s_:v6):Int->KS:=fun v8=>⟨a4B.k 2 [],(bs 1 (.ptr 1 0 0::(bs 4 (l7 4 B3 s_.i9::(vi (s_.i9.length:Int)::(vi v8::(bs 57 []))))))),[some [],some [.var 52 [vi s_.At,l7 2 z5 s_.i4,l7 4 B3 s_.i9]]]⟩
def e6q(s_:v6)(v8:Int):Unit->KS:=fun _=>⟨a4B.k 5 [true,false],(bs 1 (.ptr 1 0 0::(bs 4 (l7 4 B3 s_.i9::(vi (s_.i9.length:Int)::(vi v8::(bs 57 []))))))),[some [],some [.var 52 [vi s_.At,l7 2 z5 s_.i4,l7 4 B3 s_.i9]]]⟩
def c3s(v8:Int):Option (l8 Bool Int Unit) :=
 some (l8.nxt (m8 (v8+1)))
theorem d4A(s_ v8)(lc:I5 a4B (b90 s_) (c7S s_)):NL lc (e6q s_ v8) (fun s=>c3s v8):=fun _ h=>PK<|rg<|(lc.nx h fun hI=>sk [] [1,6,7,8] [(1,0)] hI)
def b1m(s_:v6)(v8:Int):Option (l8 Bool Int Unit) :=
 (bif decide (v8<(s_.i9.length:Int)) then ((idx s_.i9 v8).bind fun done=>(((bif decide (v8>0) then ((idx s_.i9 (m8 (v8-1))).bind fun a32=>(bif decide (a32.a5.d8>=done.a5.d8) then some (l9.ret (l8.ret false)) else ((a6p done.a5).bind fun a5G=>(bif (!a5G) then some (l9.ret (l8.ret false)) else ((C5 done.Code 0 2).bind fun in_1=>(bif (!in_1) then some (l9.ret (l8.ret false)) else ((C5 done.f0 (-1000000) 1000000).bind fun in_2=>(bif (!in_2) then some (l9.ret (l8.ret false)) else (bif (done.Code != 0) then (bif (done.f0 != 0) then some (l9.ret (l8.ret false)) else some (l9.brk ())) else some (l9.brk ())))))))))) else ((a6p done.a5).bind fun b06=>(bif (!b06) then some (l9.ret (l8.ret false)) else ((C5 done.Code 0 2).bind fun a0a=>(bif (!a0a) then some (l9.ret (l8.ret false)) else ((C5 done.f0 (-1000000) 1000000).bind fun a4A=>(bif (!a4A) then some (l9.ret (l8.ret false)) else (bif (done.Code != 0) then (bif (done.f0 != 0) then some (l9.ret (l8.ret false)) else some (l9.brk ())) else some (l9.brk ()))))))))):Option (l9 (l8 Bool Int Unit) Unit)).bind fun x=>x.go some fun j=>c3s v8)) else some (l8.brk ()))
theorem e7P(s_):LQ a4B (b90 s_) (c7S s_) (fun s=>b1m s_ s):=fun lc v8 h=>PK<|rg<|j5 0 h (fun h=>rg<|w9 B3 1 h fun done b7R h=>B2 h (d4A s_ v8 lc) fun x2 h hc2=>rg<|j5 2 h (fun h=>w9 B3 7 h fun a32 e1W h=>j5 16 h (fun h=>rg<|(B7 h hc2 fun h=>fL lc h)) (fun h=>j9 a8S b1C 19 h fun a5G h=>j5 22 h (fun h=>rg<|(B7 h hc2 fun h=>fL lc h)) (fun h=>j9 C3 D8 25 h fun in_1 h=>j5 28 h (fun h=>rg<|(B7 h hc2 fun h=>fL lc h)) (fun h=>j9 C3 D8 31 h fun in_2 h=>j5 34 h (fun h=>rg<|(B7 h hc2 fun h=>fL lc h)) (fun h=>j5 38 h (fun h=>j5 43 h (fun h=>rg<|(B7 h hc2 fun h=>fL lc h)) (fun h=>(o8 h hc2 fun hI=>sk [] [1,6,7,8] [(1,0)] hI))) (fun h=>(o8 h hc2 fun hI=>sk [] [1,6,7,8] [(1,0)] hI))))))) (fun h=>j9 a8S b1C 19 h fun b06 h=>j5 22 h (fun h=>rg<|(B7 h hc2 fun h=>fL lc h)) (fun h=>j9 C3 D8 25 h fun a0a h=>j5 28 h (fun h=>rg<|(B7 h hc2 fun h=>fL lc h)) (fun h=>j9 C3 D8 31 h fun a4A h=>j5 34 h (fun h=>rg<|(B7 h hc2 fun h=>fL lc h)) (fun h=>j5 38 h (fun h=>j5 43 h (fun h=>rg<|(B7 h hc2 fun h=>fL lc h)) (fun h=>(o8 h hc2 fun hI=>sk [] [1,6,7,8] [(1,0)] hI))) (fun h=>(o8 h hc2 fun hI=>sk [] [1,6,7,8] [(1,0)] hI))))))) (fun h=>(lc.bk h fun hI=>sk [] [1] [(1,0)] hI))
def b31(s_:v6):Option Bool :=
 ((p8 (fun s:Int=>b1m s_ s) 0).bind fun x=>x.go (fun r=>some r) fun s=>c3w s_)
theorem e5E{s_}:OK a4B [.agg (a7O s_)] (b31 s_) :=
 n8 _ fun r h=>n6<|lp (e7P s_) h (fun _ h=>a4B.rt h) (d3H s_ r) fun hI=>sk [] [1,6,7,8] [(1,0)] hI
def c2X:FS (List q9):=⟨129,Tryz.f129,[.val [some 2] [some 95]],[none],[.val [some 2] []],fun r=>u7 95 2 z5 r,fun _=>[none],Tryz.func129⟩
def a8B(list:List q9):Option (List q9) :=
 (bif ((list.length:Int)==0) then some [] else (t5 (0<=(list.length:Int)/\(list.length:Int)*16<=140737488355328) ((t5 (list.length=(e9L (list.length:Int).toNat (q9.mk 0 0)).length) (some list)))))
theorem c5F{list}:OK c2X [l7 2 z5 list] (a8B list) :=
 n8 _ fun r h=>n6<|j5 2 h (fun h=>rg<|fE h) (fun h=>rg<|t6 h fun e1 h=>U1 2 7 95 2 16 z5 (q9.mk 0 0) b3u (.none) e1 (by decide) (by rfl)<|rg<|t6 h fun e2 h=>om (s6.row 95 2 (e9L (list.length:Int).toNat (q9.mk 0 0)).length (list.map z5)=m5 95 2 z5 list) (a1M e2)<|s7 (e9L (list.length:Int).toNat (q9.mk 0 0))<|ob e2<|tl (2,{e:=some (m5 95 2 z5 list)})<|rg<|om ((e9L (list.length:Int).toNat (q9.mk 0 0)).length=list.length) (by simp)<|fE h)
def b2K:FS (List r9):=⟨130,Tryz.f130,[.val [some 4] [some 166]],[none],[.val [some 4] []],fun r=>u7 166 4 B3 r,fun _=>[none],Tryz.func130⟩
def a42(list:List r9):Option (List r9) :=
 (bif ((list.length:Int)==0) then some [] else (t5 (0<=(list.length:Int)/\(list.length:Int)*32<=140737488355328) ((t5 (list.length=(e9L (list.length:Int).toNat (r9.mk (q8.mk 0 0) 0 0)).length) (some list)))))
theorem b9q{list}:OK b2K [l7 4 B3 list] (a42 list) :=
 n8 _ fun r h=>n6<|j5 2 h (fun h=>rg<|fE h) (fun h=>rg<|t6 h fun e1 h=>U1 2 7 166 4 32 B3 (r9.mk (q8.mk 0 0) 0 0) c1u (.none) e1 (by decide) (by rfl)<|rg<|t6 h fun e2 h=>om (s6.row 166 4 (e9L (list.length:Int).toNat (r9.mk (q8.mk 0 0) 0 0)).length (list.map B3)=m5 166 4 B3 list) (a1M e2)<|s7 (e9L (list.length:Int).toNat (r9.mk (q8.mk 0 0) 0 0))<|ob e2<|tl (2,{e:=some (m5 166 4 B3 list)})<|rg<|om ((e9L (list.length:Int).toNat (r9.mk (q8.mk 0 0) 0 0)).length=list.length) (by simp)<|fE h)
def a8p:FS (Bool):=⟨131,Tryz.f131,[.val [] []],[none,none],[.val [some 2] [],.val N6 []],fun r=>.b r,fun _=>[none,none],Tryz.func131⟩
def c9Y:Unit->KS:=fun _=>⟨a8p.k 4 [false,false],(bs 32 []),[some []]⟩
def c5T:Option Bool :=
 some true
theorem d8l(r):NF a8p r c9Y (fun s=>c5T):=fun _ h=>PK<|rg<|fE h
def e5e(list:List q9)(r_:n5):Int->KS:=fun v18=>⟨a8p.k 3 [false],(l7 2 z5 list::(bs 15 (l7 2 u5 r_.b5::(vi (r_.b5.length:Int)::(vi v18::(bs 13 [])))))),[some []]⟩
def b44(list:List q9)(r_:n5)(v18:Int):Option (l8 Bool Int Unit) :=
 (bif decide (v18<(r_.b5.length:Int)) then ((idx r_.b5 v18).bind fun read=>((idx list read.i6).bind fun box=>(bif (box.j4 != read.j4) then some (l8.ret false) else some (l8.nxt (m8 (v18+1)))))) else some (l8.brk ()))
theorem d4F(list r_):LQ a8p c9Y (e5e list r_) (fun s=>b44 list r_ s):=fun lc v18 h=>PK<|rg<|j5 0 h (fun h=>rg<|w9 u5 0 h fun read a3I h=>rg<|w9 z5 3 h fun box a2s h=>j5 8 h (fun h=>rg<|fL lc h) (fun h=>rg<|(lc.nx h fun hI=>sk [] [0,16,17,18] [] hI))) (fun h=>(lc.bk h fun hI=>sk [] [] [] hI))
def b5c(list:List q9)(r_:n5):Option Bool :=
 ((a7V list).bind fun X2=>(bif (!X2) then some false else ((a9I r_).bind fun a02=>(bif (!a02) then some false else ((p8 (fun s:Int=>b44 list r_ s) 0).bind fun x=>x.go (fun r=>some r) fun s=>c5T)))))
theorem d40{list r_}:OK a8p [l7 2 z5 list,.agg (P3 r_)] (b5c list r_) :=
 n8 _ fun r h=>n6<|j9 a3O b54 1 h fun X2 h=>j5 3 h (fun h=>rg<|fE h) (fun h=>j9 Y9 c2m 5 h fun a02 h=>j5 7 h (fun h=>rg<|fE h) (fun h=>rg<|lp (d4F list r_) h (fun _ h=>a8p.rt h) (d8l r) fun hI=>sk [] [0,16,17,18] [] hI))
def a8d:FS (List q9):=⟨132,Tryz.f132,[.val [some 2] [some 95]],[none,none],[.val [some 2] [],.val N6 []],fun r=>u7 95 2 z5 r,fun _=>[none,none],Tryz.func132⟩
def c8l:(List q9)->KS:=fun out1=>⟨a8d.k 5 [false,false],(bs 5 (.own 1 0 2 0 out1.length::(bs 36 []))),[some [],some [m5 95 2 z5 out1]]⟩
def d0r(out1:List q9):Option (List q9) :=
 some out1
theorem e55(r):NF a8d r c8l (fun s=>d0r s):=fun out1 h=>PK<|rg<|s7 out1<|fE h
def d8F(r_:n5):((List q9)×Int)->KS:=fun (out,v21)=>⟨a8d.k 4 [false],(bs 5 (.own 1 0 2 0 out.length::(bs 13 (l7 2 u6 r_.b6::(vi (r_.b6.length:Int)::(vi v21::(bs 20 []))))))),[some [],some [m5 95 2 z5 out]]⟩
def b48(r_:n5)(out:List q9)(v21:Int):Option (l8 (List q9) ((List q9)×Int) (List q9)) :=
 (bif decide (v21<(r_.b6.length:Int)) then ((idx r_.b6 v21).bind fun put=>((idx out put.i6).bind fun X8=>some (l8.nxt (out.set put.i6.toNat (q9.mk (if (m8 (X8.j4+1))<1000000 then (m8 (X8.j4+1)) else 1000000) put.f0),m8 (v21+1))))) else some (l8.brk out))
theorem e3Y(r_):LQ a8d c8l (d8F r_) (fun s=>b48 r_ s.1 s.2):=fun lc (out,v21) h=>PK<|rg<|j5 0 h (fun h=>rg<|w9 u6 0 h fun put hput h=>rg<|A6 h fun X8 a9u h=>B4 a9u<|H8 z5 8 a9u<|B4 a9u<|O6 95 2 z5 15 [] (q9.mk (if (m8 (X8.j4+1))<1000000 then (m8 (X8.j4+1)) else 1000000) put.f0) a9u<|rg<|(lc.nx h fun hI=>om ((.own 1 0 2 0 out.length:V)=.own 1 0 2 0 (out.set put.i6.toNat (q9.mk (if (m8 (X8.j4+1))<1000000 then (m8 (X8.j4+1)) else 1000000) put.f0)).length) (by simp)<|sk [.is (.tmp 5) (.own 1 0 2 0 (out.set put.i6.toNat (q9.mk (if (m8 (X8.j4+1))<1000000 then (m8 (X8.j4+1)) else 1000000) put.f0)).length)] [5,19,20,21] [(1,0)] hI)) (fun h=>(lc.bk h fun hI=>sk [] [5] [(1,0)] hI))
def b70(list:List q9)(r_:n5):Option (List q9) :=
 ((a7V list).bind fun X2=>(bif (!X2) then some [] else ((a9I r_).bind fun a02=>(bif (!a02) then some [] else ((a8B list).bind fun box=>((p8 (fun s:(List q9)×Int=>b48 r_ s.1 s.2) (box,0)).bind fun x=>x.go (fun r=>some r) fun s=>d0r s))))))
theorem d3I{list r_}:OK a8d [l7 2 z5 list,.agg (P3 r_)] (b70 list r_) :=
 n8 _ fun r h=>n6<|j9 a3O b54 1 h fun X2 h=>j5 3 h (fun h=>rg<|fE h) (fun h=>j9 Y9 c2m 5 h fun a02 h=>j5 7 h (fun h=>rg<|fE h) (fun h=>rg<|j9 c2X c5F 1 h fun box h=>rg<|lp (e3Y r_) h (fun _ h=>a8d.rt h) (e55 r) fun hI=>sk [] [5,19,20,21] [(12,0)] hI))
def O7:FS (v6×Int):=⟨83,Tryz.f83,[.val [none,some 2,some 4] [none,some 95,some 166],.val [] []],[none,none],[.val [none,some 2,some 4] [],.val J9 []],fun r=>.tup [.agg (b2r r.1),vi r.2],fun _=>[none,none],Tryz.func83⟩
def c1g(s_:v6)(e_:m4)(box:List q9):Unit->KS:=fun _=>⟨O7.k 6 [false,false,false],(bs 2 (.ptr 1 0 0::(.ptr 2 0 0::(.ptr 3 0 0::(bs 1 (.ptr 4 0 0::(bs 145 []))))))),[some [],some [.var 52 [vi s_.At,l7 2 z5 s_.i4,l7 4 B3 s_.i9]],some [.var 43 (a4D e_)],some [.var 52 [vi 0,.nil,.nil]],some [.var 52 [vi (m8 (s_.At+1)),.own 5 0 2 0 box.length,.nil]],some [m5 95 2 z5 box]]⟩
def e1y(s_:v6):(r9×List q9)->KS:=fun (own,i4)=>⟨O7.k 9 [false,false,false,true],(bs 2 (.ptr 1 0 0::(bs 1 (.ptr 2 0 0::(bs 1 (.ptr 3 0 0::(bs 2 (.ptr 5 0 0::(bs 142 []))))))))),[some [],some [.var 52 [vi s_.At,l7 2 z5 s_.i4,l7 4 B3 s_.i9]],some [.var 52 [vi 0,.nil,.nil]],some [.var 52 [vi (m8 (s_.At+1)),.own 4 0 2 0 i4.length,.nil]],some [m5 95 2 z5 i4],some [.var 166 [vi own.a5.d8,vi own.a5.Seq,vi own.Code,vi own.f0]]]⟩
def b8q(s_:v6)(own:r9)(i4:List q9):((List r9)×Bool)->KS:=fun (dones1,put1)=>⟨O7.k 13 [false,false,false,true,false],(bs 4 (.ptr 1 0 0::(bs 1 (.ptr 2 0 0::(bs 2 (.ptr 4 0 0::(.own 5 0 4 0 dones1.length::(.b put1::(bs 140 []))))))))),[some [],some [.var 52 [vi 0,.nil,.nil]],some [.var 52 [vi (m8 (s_.At+1)),.own 3 0 2 0 i4.length,.nil]],some [m5 95 2 z5 i4],some [.var 166 [vi own.a5.d8,vi own.a5.Seq,vi own.Code,vi own.f0]],some [m5 166 4 B3 dones1]]⟩
def e1H(s_:v6)(own:r9)(i4:List q9):(List r9)->KS:=fun a9n=>⟨O7.k 15 [false,false,false,true,false,true],(bs 4 (.ptr 1 0 0::(bs 1 (.ptr 2 0 0::(bs 2 (.ptr 4 0 0::(.own 5 0 4 0 a9n.length::(bs 141 [])))))))),[some [],some [.var 52 [vi 0,.nil,.nil]],some [.var 52 [vi (m8 (s_.At+1)),.own 3 0 2 0 i4.length,.nil]],some [m5 95 2 z5 i4],some [.var 166 [vi own.a5.d8,vi own.a5.Seq,vi own.Code,vi own.f0]],some [m5 166 4 B3 a9n]]⟩
def b8Y(s_:v6)(own:r9)(i4:List q9)(a9n:List r9):Option (v6×Int) :=
 ((a42 a9n).bind fun a32=>some ((v6.mk (m8 (s_.At+1)) i4 a32),own.Code))
theorem e2Y(s_ own i4)(r):NF O7 r (e1H s_ own i4) (fun s=>b8Y s_ own i4 s):=fun a9n h=>PK<|rg<|cbS b2K b9q 1 (fun _=>(by simp [b2K,M3,T9,O4,V.simple,vi,u7,B3,eI,Z1])) (fun _=>(P8 1)) h fun a32 h=>s7 a9n<|rg<|C2 i4 a32<|fE h
def c2w(s_:v6)(own:r9)(i4:List q9)(dones1:List r9)(put1:Bool):Option (v6×Int) :=
 (((bif (!put1) then (t5 ((dones1.length+1)*32<=140737488355328) (some (l9.brk (dones1++[own])))) else some (l9.brk dones1)):Option (l9 (v6×Int) (List r9))).bind fun x=>x.go some fun j=>b8Y s_ own i4 j)
theorem e5X(s_ own i4)(r):NF O7 r (b8q s_ own i4) (fun s=>c2w s_ own i4 s.1 s.2):=fun (dones1,put1) h=>PK<|B2 h (e2Y s_ own i4 r) fun x1 h hc1=>rg<|j5 1 h (fun h=>rg<|tk 2 []<|t6 h fun e1 h=>F7 3 11 166 4 32 B3 dones1 own e1<|E5 own<|(o8 h hc1 fun hI=>sk [] [4,6,9,10] [(1,0),(2,0),(3,0),(4,0),(11,0)] hI)) (fun h=>(o8 h hc1 fun hI=>sk [] [4,6,9,10] [(1,0),(2,0),(3,0),(4,0),(5,0)] hI))
def b9j(s_:v6)(own:r9)(i4:List q9):((List r9)×Int×Bool)->KS:=fun (dones,v109,put)=>⟨O7.k 12 [false,false,false,true],(bs 4 (.ptr 1 0 0::(bs 1 (.ptr 2 0 0::(bs 2 (.ptr 4 0 0::(.own 5 0 4 0 dones.length::(.b put::(bs 95 (l7 4 B3 s_.i9::(vi (s_.i9.length:Int)::(vi v109::(bs 42 []))))))))))))),[some [],some [.var 52 [vi 0,.nil,.nil]],some [.var 52 [vi (m8 (s_.At+1)),.own 3 0 2 0 i4.length,.nil]],some [m5 95 2 z5 i4],some [.var 166 [vi own.a5.d8,vi own.a5.Seq,vi own.Code,vi own.f0]],some [m5 166 4 B3 dones]]⟩
def e5k(s_:v6)(own:r9)(i4:List q9)(v109:Int)(done2:r9):((List r9)×Bool)->KS:=fun (dones3,put2)=>⟨O7.k 17 [false,false,false,true,true,true],(bs 4 (.ptr 1 0 0::(bs 1 (.ptr 2 0 0::(bs 2 (.ptr 4 0 0::(.own 5 0 4 0 dones3.length::(.b put2::(bs 1 (.ptr 6 0 0::(bs 93 (l7 4 B3 s_.i9::(vi (s_.i9.length:Int)::(vi v109::(bs 42 []))))))))))))))),[some [],some [.var 52 [vi 0,.nil,.nil]],some [.var 52 [vi (m8 (s_.At+1)),.own 3 0 2 0 i4.length,.nil]],some [m5 95 2 z5 i4],some [.var 166 [vi own.a5.d8,vi own.a5.Seq,vi own.Code,vi own.f0]],some [m5 166 4 B3 dones3],some [.var 166 [vi done2.a5.d8,vi done2.a5.Seq,vi done2.Code,vi done2.f0]]]⟩
def e6K(s_:v6)(own:r9)(i4:List q9)(v109:Int)(put2:Bool):(List r9)->KS:=fun b2Y=>⟨O7.k 19 [false,false,false,true,true,true,true],(bs 4 (.ptr 1 0 0::(bs 1 (.ptr 2 0 0::(bs 2 (.ptr 4 0 0::(.own 5 0 4 0 b2Y.length::(.b put2::(bs 95 (l7 4 B3 s_.i9::(vi (s_.i9.length:Int)::(vi v109::(bs 42 []))))))))))))),[some [],some [.var 52 [vi 0,.nil,.nil]],some [.var 52 [vi (m8 (s_.At+1)),.own 3 0 2 0 i4.length,.nil]],some [m5 95 2 z5 i4],some [.var 166 [vi own.a5.d8,vi own.a5.Seq,vi own.Code,vi own.f0]],some [m5 166 4 B3 b2Y]]⟩
def c2c(v109:Int)(put2:Bool)(b2Y:List r9):Option (l8 (v6×Int) ((List r9)×Int×Bool) ((List r9)×Bool)) :=
 some (l8.nxt (b2Y,m8 (v109+1),put2))
theorem e7h(s_ own i4 v109 put2)(lc:I5 O7 (b8q s_ own i4) (b9j s_ own i4)):NL lc (e6K s_ own i4 v109 put2) (fun s=>c2c v109 put2 s):=fun b2Y h=>PK<|rg<|(lc.nx h fun hI=>sk [] [4,6,9,10,11,107,108,109] [(1,0),(2,0),(3,0),(4,0),(5,0)] hI)
def c1y(own:r9)(v109:Int)(done2:r9)(dones3:List r9)(put2:Bool):Option (l8 (v6×Int) ((List r9)×Int×Bool) ((List r9)×Bool)) :=
 (((bif (done2.a5.d8 != own.a5.d8) then (t5 ((dones3.length+1)*32<=140737488355328) (some (l9.brk (dones3++[done2])))) else some (l9.brk dones3)):Option (l9 (l8 (v6×Int) ((List r9)×Int×Bool) ((List r9)×Bool)) (List r9))).bind fun x=>x.go some fun j=>c2c v109 put2 j)
theorem e7B(s_ own i4 v109 done2)(lc:I5 O7 (b8q s_ own i4) (b9j s_ own i4)):NL lc (e5k s_ own i4 v109 done2) (fun s=>c1y own v109 done2 s.1 s.2):=fun (dones3,put2) h=>PK<|B2 h (e7h s_ own i4 v109 put2 lc) fun x2 h hc2=>rg<|j5 6 h (fun h=>rg<|tk 2 []<|t6 h fun e2 h=>F7 3 17 166 4 32 B3 dones3 done2 e2<|E5 done2<|(o8 h hc2 fun hI=>sk [] [4,6,9,10,11,107,108,109] [(1,0),(2,0),(3,0),(4,0),(17,0)] hI)) (fun h=>(o8 h hc2 fun hI=>sk [] [4,6,9,10,11,107,108,109] [(1,0),(2,0),(3,0),(4,0),(5,0)] hI))
def b0I(s_:v6)(own:r9)(dones:List r9)(v109:Int)(put:Bool):Option (l8 (v6×Int) ((List r9)×Int×Bool) ((List r9)×Bool)) :=
 (bif decide (v109<(s_.i9.length:Int)) then ((idx s_.i9 v109).bind fun done2=>(((bif (!put) then (bif decide (done2.a5.d8>=own.a5.d8) then (t5 ((dones.length+1)*32<=140737488355328) (some (l9.brk (dones++[own],true)))) else some (l9.brk (dones,put))) else some (l9.brk (dones,put))):Option (l9 (l8 (v6×Int) ((List r9)×Int×Bool) ((List r9)×Bool)) ((List r9)×Bool))).bind fun x=>x.go some fun j=>c1y own v109 done2 j.1 j.2)) else some (l8.brk (dones,put)))
theorem e48(s_ own i4):LQ O7 (b8q s_ own i4) (b9j s_ own i4) (fun s=>b0I s_ own s.1 s.2.1 s.2.2):=fun lc (dones,v109,put) h=>PK<|rg<|j5 0 h (fun h=>rg<|w9 B3 0 h fun done2 e9F h=>B2 h (e7B s_ own i4 v109 done2 lc) fun x2 h hc2=>rg<|j5 2 h (fun h=>j5 10 h (fun h=>rg<|tk 2 []<|t6 h fun e3 h=>F7 3 25 166 4 32 B3 dones own e3<|E5 own<|rg<|(o8 h hc2 fun hI=>sk [] [4,6,9,10,11,13,107,108,109] [(1,0),(2,0),(3,0),(4,0),(25,0),(9,0)] hI)) (fun h=>(o8 h hc2 fun hI=>sk [] [4,6,9,10,11,13,107,108,109] [(1,0),(2,0),(3,0),(4,0),(5,0),(9,0)] hI))) (fun h=>(o8 h hc2 fun hI=>sk [] [4,6,9,10,11,13,107,108,109] [(1,0),(2,0),(3,0),(4,0),(5,0),(9,0)] hI))) (fun h=>(lc.bk h fun hI=>sk [] [4,6,9,10,11] [(1,0),(2,0),(3,0),(4,0),(5,0)] hI))
def b8x(s_:v6)(own:r9)(i4:List q9):Option (v6×Int) :=
 ((p8 (fun s:(List r9)×Int×Bool=>b0I s_ own s.1 s.2.1 s.2.2) ([],0,false)).bind fun x=>x.go (fun r=>some r) fun s=>c2w s_ own i4 s.1 s.2)
theorem e4j(s_)(r):NF O7 r (e1y s_) (fun s=>b8x s_ s.1 s.2):=fun (own,i4) h=>PK<|M5<|lp (e48 s_ own i4) h (fun _ h=>O7.rt h) (e5X s_ own i4 r) fun hI=>sk [.own (.tmp 10) 166 4] [4,6,9,10,11,107,108,109] [(2,0),(3,0),(4,0),(5,0),(12,0)] hI
def b5Z(s_:v6)(e_:m4)(box:List q9):Option (v6×Int) :=
 ((((b5c s_.i4 e_.b8).bind fun a6g=>(bif (!a6g) then some (l9.brk ((r9.mk e_.a5 1 0),box)) else (bif (e_.b8.Code != 0) then some (l9.brk ((r9.mk e_.a5 2 0),box)) else ((b70 s_.i4 e_.b8).bind fun c4b=>some (l9.brk ((r9.mk e_.a5 0 e_.b8.f0),c4b)))))):Option (l9 (v6×Int) (r9×List q9))).bind fun x=>x.go some fun j=>b8x s_ j.1 j.2)
theorem d9M(s_ e_ box)(r):NF O7 r (c1g s_ e_ box) (fun s=>b5Z s_ e_ box):=fun _ h=>PK<|rg<|B2 h (e4j s_ r) fun x1 h hc1=>rg<|j9 a8p d40 4 h fun a6g h=>j5 6 h (fun h=>rg<|(o8 h hc1 fun hI=>sk [] [2,4,6,9] [(1,0),(3,0),(4,0),(5,0),(9,0)] hI)) (fun h=>rg<|j5 4 h (fun h=>rg<|(o8 h hc1 fun hI=>sk [] [2,4,6,9] [(1,0),(3,0),(4,0),(5,0),(9,0)] hI)) (fun h=>n6<|j9 a8d d3I 4 h fun c4b h=>(o8 h hc1 fun hI=>sk [] [2,4,6,9] [(1,0),(3,0),(4,0),(32,0),(9,0)] hI)))
def c9H(s_:v6)(e_:m4)(box:List q9):Int->KS:=fun v45=>⟨O7.k 5 [false,false],(bs 2 (.ptr 1 0 0::(.ptr 2 0 0::(.ptr 3 0 0::(bs 1 (.ptr 4 0 0::(bs 36 (l7 4 B3 s_.i9::(vi (s_.i9.length:Int)::(vi v45::(bs 106 []))))))))))),[some [],some [.var 52 [vi s_.At,l7 2 z5 s_.i4,l7 4 B3 s_.i9]],some [.var 43 (a4D e_)],some [.var 52 [vi 0,.nil,.nil]],some [.var 52 [vi (m8 (s_.At+1)),.own 5 0 2 0 box.length,.nil]],some [m5 95 2 z5 box]]⟩
end
end Go.Proofs.YtaffmjifackfgaaGreat
