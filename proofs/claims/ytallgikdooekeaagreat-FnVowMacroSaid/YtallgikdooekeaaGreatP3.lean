/- Abstract values and states of the program, functions of the program and what their calls come to, and what follows from it: part 3 of the text that the law leans on; long names are written short. -/
import Derived.Test.YtallgikdooekeaaGreatP2
import Derived.IntWalk
set_option linter.unusedVariables false
set_option linter.unusedSimpArgs false
set_option linter.unnecessarySimpa false
namespace Go.Proofs.YtallgikdooekeaaGreat
open Go
open Option renaming bind_some → d9s, map_some → e0b, getD_some → e0A, map_eq_some_iff → e0J
open List renaming getElem?_eq_getElem → d9t, replicate → d9u, getElem_mem → d9w, getElem?_eq_some_iff → d9x, mem_singleton → d9y, mem_cons → d9z, nodup_append → d9A, range → d9C, eq_nil_of_length_eq_zero → d9D, length_append → d9E, getD_eq_getElem?_getD → d9F, mem_of_getElem? → d9G, getElem?_append_right → d9H, getElem?_set_ne → d9J, getElem?_append_left → d9L, map_append → d9M, append_assoc → d9N, take_length → d9P, map_cons → d9R, flatten_cons → d9S, getElem?_eq_none → d9U, take_succ_eq_append_getElem → d9V, append_nil → d9X, getElem_of_mem → d9Y, drop_eq_nil_of_le → d9Z, findIdx?_eq_some_iff_getElem → d90, take_append_of_le_length → d91, length_take → d93, length_set → d94, any_eq_false → d95, drop_eq_getElem_cons → d97, pairwise_iff_getElem → d98, take_of_length_le → d99, take_append_drop → e0d, mem_flatten → e0e, mem_of_mem_take → e0f, mem_take_iff_getElem → e0g, mem_replicate → e0i, take_zero → e0j, nil_append → e0k, getElem?_cons_zero → e0l, mem_range → e0m, mem_of_mem_drop → e0n, length_cons → e0o, length_singleton → e0q, getElem?_cons_succ → e0r, getElem?_set_self → e0t, pairwise_cons → e0w, nodup_cons → e0x, map_singleton → e0D, findIdx?_eq_none_iff → e0E, mem_append_left → e0F, getElem?_set → e0G, any_eq_true → e0I, getElem?_drop → e0K, getElem?_take → e0L, find?_cons → e0M, sublist_append_right → e0O, getElem?_of_mem → e0P, pairwise_append → e0Q, Perm → e0S, drop_zero → e0T, drop_drop → e0U, cons_append → e0V, getElem_map → e0W, replicate_succ → e0X, drop_append_of_le_length → e0Y, size_toArray → e0Z, all_eq_false → e00, toArray → e02, map_map → e03, Sublist → e04, set_getElem_self → e05, length_replicate → e07, getElem?_append → e08, not_mem_nil → e09, length_drop → e1b, flatten_append → e1c, foldl_cons → e1d, map_set → e1f
open Bool renaming and_eq_true → d9v, not_true → d9B, true_and → d9Q, not_eq_true' → d9T, not_false → d9W, or_eq_false_iff → e0h, false_or → e0s, false_eq_true → e0v, eq_iff_iff → e0z, true_or → e06, not_eq_true → e1a
open Int renaming tmod → d9I, le_refl → d9O, toNat_natCast → d96, le_trans → e0c, tdiv → e0B, tmod_eq_emod_of_nonneg → e0N
open Nat renaming le_refl → d9K, mul_le_mul_right → d92, eq_of_beq_eq_true → e0a, succ_mul → e0p, zero_add → e0u, lt_of_lt_of_le → e0C, le_mul_of_pos_right → e0H, zero_le → e0R, add_zero → e01
open Option.some renaming inj → e0y
open Classical renaming byContradiction → e1e
noncomputable section
def c0O:FS (o7):=⟨80,Tryz.f80,[.val a1U []],[none],[.val a1U []],fun r=>.agg (a13 r),fun _=>[none],Tryz.func80⟩
def b69(r_:o7):Option o7 :=
 ((a03 r_.b9).bind fun read=>((a4P r_.c6).bind fun put=>some (o7.mk read put r_.c8 r_.Code)))
theorem d0k{r_}:OK c0O [.agg (a13 r_)] (b69 r_) :=
 q8 _ fun r h=>o8<|j7 a0Y a52 2 h fun read h=>j7 b0Z c3r 5 h fun put h=>C1 read put<|fE h
def a6K:FS (j8):=⟨48,Tryz.f48,[.val V8 []],[none],[.val V8 []],fun r=>.agg (u0 r),fun _=>[none],Tryz.func48⟩
def a3y(e_:j8):Option j8 :=
 ((b69 e_.c7).bind fun c1N=>some (j8.mk e_.i6 e_.a0 c1N))
theorem a81{e_}:OK a6K [.agg (u0 e_)] (a3y e_) :=
 q8 _ fun r h=>o8<|j7 c0O d0k 6 h fun c1N h=>fE h
def c3g:FS (List n8):=⟨113,Tryz.f113,[.val [some 8] [some 86]],[none],[.val [some 8] []],fun r=>A4 86 8 s6 r,fun _=>[none],Tryz.func113⟩
def b5d(list:List n8):Option (List n8) :=
 (bif ((list.length:Int)==0) then some [] else (s5 (0<=(list.length:Int)/\(list.length:Int)*96<=140737488355328) ((s5 (list.length=(d9u (list.length:Int).toNat (n8.mk 0 (j8.mk false (m8.mk 0 0) (o7.mk [] [] 0 0)))).length) (some list)))))
theorem d3j{list}:OK c3g [j4 8 s6 list] (b5d list) :=
 q8 _ fun r h=>o8<|i9 2 h (fun h=>rg<|fE h) (fun h=>rg<|t8 h fun e1 h=>Q6 2 7 86 8 96 s6 (n8.mk 0 (j8.mk false (m8.mk 0 0) (o7.mk [] [] 0 0))) b2F (.ck a2R) e1 (by decide) (by rfl)<|rg<|t8 h fun e2 h=>om (n9.row 86 8 (d9u (list.length:Int).toNat (n8.mk 0 (j8.mk false (m8.mk 0 0) (o7.mk [] [] 0 0)))).length (list.map s6)=m4 86 8 s6 list) (Y7 e2)<|z6 (d9u (list.length:Int).toNat (n8.mk 0 (j8.mk false (m8.mk 0 0) (o7.mk [] [] 0 0))))<|ob e2<|tl (2,{e:=some (m4 86 8 s6 list)})<|rg<|om ((d9u (list.length:Int).toNat (n8.mk 0 (j8.mk false (m8.mk 0 0) (o7.mk [] [] 0 0)))).length=list.length) (by simp)<|fE h)
def a1E:FS (List n8):=⟨79,Tryz.f79,[.val [some 8] [some 86]],[none],[.val [some 8] []],fun r=>A4 86 8 s6 r,fun _=>[none],Tryz.func79⟩
def c0B:(List n8)->KS:=fun out1=>⟨a1E.k 4 [false],(bs 3 (.own 1 0 8 0 out1.length::(bs 20 []))),[some [],some [m4 86 8 s6 out1]]⟩
def c49(out1:List n8):Option (List n8) :=
 some out1
theorem d3P(r):NF a1E r c0B (fun s=>c49 s):=fun out1 h=>PK<|rg<|z6 out1<|fE h
def d9b(vote:List n8):((List n8)×Int)->KS:=fun (out,v9)=>⟨a1E.k 3 [],(bs 3 (.own 1 0 8 0 out.length::(bs 4 (vi (vote.length:Int)::(vi v9::(bs 14 [])))))),[some [],some [m4 86 8 s6 out]]⟩
def b3n(vote:List n8)(out:List n8)(v9:Int):Option (j6 (List n8) ((List n8)×Int) (List n8)) :=
 (bif decide (v9<(vote.length:Int)) then ((idx out v9).bind fun Q0=>((a3y Q0.d7).bind fun S9=>some (j6.nxt (out.set v9.toNat (n8.mk Q0.a6 S9),l9 (v9+1))))) else some (j6.brk out))
theorem c7x(vote):LQ a1E c0B (d9b vote) (fun s=>b3n vote s.1 s.2):=fun lc (out,v9) h=>PK<|rg<|i9 0 h (fun h=>o8<|B3 h fun Q0 a2T h=>E3 a2T<|T4 s6 6 a2T<|j7 a6K a81 7 h fun S9 h=>E3 a2T<|R1 86 8 s6 10 V8 (n8.mk Q0.a6 S9) a2T<|rg<|(lc.nx h fun hI=>om ((.own 1 0 8 0 out.length:V)=.own 1 0 8 0 (out.set v9.toNat (n8.mk Q0.a6 S9)).length) (by simp)<|sk [.is (.tmp 3) (.own 1 0 8 0 (out.set v9.toNat (n8.mk Q0.a6 S9)).length)] [3,8,9] [(1,0)] hI)) (fun h=>(lc.bk h fun hI=>sk [] [3] [(1,0)] hI))
def a4L(list:List n8):Option (List n8) :=
 ((b5d list).bind fun vote=>((p8 (fun s:(List n8)×Int=>b3n vote s.1 s.2) (vote,0)).bind fun x=>x.go (fun r=>some r) fun s=>c49 s))
theorem b1W{list}:OK a1E [j4 8 s6 list] (a4L list) :=
 q8 _ fun r h=>o8<|j7 c3g d3j 1 h fun vote h=>rg<|lp (c7x vote) h (fun _ h=>a1E.rt h) (d3P r) fun hI=>sk [] [3,8,9] [(3,0)] hI
def c02:FS (l8):=⟨76,Tryz.f76,[.val R2 []],[none],[.val R2 []],fun r=>.agg (u5 r),fun _=>[none],Tryz.func76⟩
def a95(m:l8):Option l8 :=
 ((a3y m.d7).bind fun S9=>((a4L m.a9).bind fun W0=>some (l8.mk m.a7 m.b8 m.To m.a6 m.c9 S9 W0)))
theorem d8C{m}:OK c02 [.agg (u5 m)] (a95 m) :=
 q8 _ fun r h=>W9<|j7 a6K a81 2 h fun S9 h=>rg<|j7 a1E b1W 2 h fun W0 h=>rg<|z6 W0<|fE h
def a3H:FS (List l8):=⟨42,Tryz.f42,[.val [some 13] [some 49]],[none],[.val [some 13] []],fun r=>A4 49 13 u5 r,fun _=>[none],Tryz.func42⟩
def c54:(List l8)->KS:=fun out1=>⟨a3H.k 4 [false],(bs 3 (.own 1 0 13 0 out1.length::(bs 18 []))),[some [],some [m4 49 13 u5 out1]]⟩
def c5s(out1:List l8):Option (List l8) :=
 some out1
theorem d3g(r):NF a3H r c54 (fun s=>c5s s):=fun out1 h=>PK<|rg<|z6 out1<|fE h
def d4B(msg:List l8):((List l8)×Int)->KS:=fun (out,v9)=>⟨a3H.k 3 [],(bs 3 (.own 1 0 13 0 out.length::(bs 4 (vi (msg.length:Int)::(vi v9::(bs 12 [])))))),[some [],some [m4 49 13 u5 out]]⟩
def b2e(msg:List l8)(out:List l8)(v9:Int):Option (j6 (List l8) ((List l8)×Int) (List l8)) :=
 (bif decide (v9<(msg.length:Int)) then ((idx out v9).bind fun c4I=>((a95 c4I).bind fun a8Q=>some (j6.nxt (out.set v9.toNat a8Q,l9 (v9+1))))) else some (j6.brk out))
theorem d8Q(msg):LQ a3H c54 (d4B msg) (fun s=>b2e msg s.1 s.2):=fun lc (out,v9) h=>PK<|rg<|i9 0 h (fun h=>o8<|B3 h fun c4I b0S h=>E3 b0S<|T4 u5 5 b0S<|j7 c02 d8C 6 h fun a8Q h=>E3 b0S<|R1 49 13 u5 8 R2 a8Q b0S<|rg<|(lc.nx h fun hI=>om ((.own 1 0 13 0 out.length:V)=.own 1 0 13 0 (out.set v9.toNat a8Q).length) (by simp)<|sk [.is (.tmp 3) (.own 1 0 13 0 (out.set v9.toNat a8Q).length)] [3,8,9] [(1,0)] hI)) (fun h=>(lc.bk h fun hI=>sk [] [3] [(1,0)] hI))
def a7E(list:List l8):Option (List l8) :=
 ((b7I list).bind fun msg=>((p8 (fun s:(List l8)×Int=>b2e msg s.1 s.2) (msg,0)).bind fun x=>x.go (fun r=>some r) fun s=>c5s s))
theorem b74{list}:OK a3H [j4 13 u5 list] (a7E list) :=
 q8 _ fun r h=>o8<|j7 b9a c8L 1 h fun msg h=>rg<|lp (d8Q msg) h (fun _ h=>a3H.rt h) (d3g r) fun hI=>sk [] [3,8,9] [(3,0)] hI
def c0y:FS (List D5):=⟨43,Tryz.f43,[.val [some 3] [some 73]],[none],[.val [some 3] []],fun r=>A4 73 3 D6 r,fun _=>[none],Tryz.func43⟩
def b6F(list:List D5):Option (List D5) :=
 (bif ((list.length:Int)==0) then some [] else (s5 (0<=(list.length:Int)/\(list.length:Int)*40<=140737488355328) ((s5 (list.length=(d9u (list.length:Int).toNat (D5.mk (m8.mk 0 0) [])).length) (some list)))))
theorem d59{list}:OK c0y [j4 3 D6 list] (b6F list) :=
 q8 _ fun r h=>o8<|i9 2 h (fun h=>rg<|fE h) (fun h=>rg<|t8 h fun e1 h=>Q6 2 7 73 3 40 D6 (D5.mk (m8.mk 0 0) []) b6d (.ck [none,none,some 4]) e1 (by decide) (by rfl)<|rg<|t8 h fun e2 h=>om (n9.row 73 3 (d9u (list.length:Int).toNat (D5.mk (m8.mk 0 0) [])).length (list.map D6)=m4 73 3 D6 list) (Y7 e2)<|z6 (d9u (list.length:Int).toNat (D5.mk (m8.mk 0 0) []))<|ob e2<|tl (2,{e:=some (m4 73 3 D6 list)})<|rg<|om ((d9u (list.length:Int).toNat (D5.mk (m8.mk 0 0) [])).length=list.length) (by simp)<|fE h)
def b52:FS (List s9):=⟨44,Tryz.f44,[.val [some 5] [some 76]],[none],[.val [some 5] []],fun r=>A4 76 5 A3 r,fun _=>[none],Tryz.func44⟩
def b2G(list:List s9):Option (List s9) :=
 (bif ((list.length:Int)==0) then some [] else (s5 (0<=(list.length:Int)/\(list.length:Int)*40<=140737488355328) ((s5 (list.length=(d9u (list.length:Int).toNat (s9.mk 0 (m8.mk 0 0) 0 0)).length) (some list)))))
theorem c1y{list}:OK b52 [j4 5 A3 list] (b2G list) :=
 q8 _ fun r h=>o8<|i9 2 h (fun h=>rg<|fE h) (fun h=>rg<|t8 h fun e1 h=>Q6 2 7 76 5 40 A3 (s9.mk 0 (m8.mk 0 0) 0 0) b4n (.none) e1 (by decide) (by rfl)<|rg<|t8 h fun e2 h=>om (n9.row 76 5 (d9u (list.length:Int).toNat (s9.mk 0 (m8.mk 0 0) 0 0)).length (list.map A3)=m4 76 5 A3 list) (Y7 e2)<|z6 (d9u (list.length:Int).toNat (s9.mk 0 (m8.mk 0 0) 0 0))<|ob e2<|tl (2,{e:=some (m4 76 5 A3 list)})<|rg<|om ((d9u (list.length:Int).toNat (s9.mk 0 (m8.mk 0 0) 0 0)).length=list.length) (by simp)<|fE h)
def a5d:FS (z4):=⟨77,Tryz.f77,[.val [none,some 8] [none,some 86]],[none],[.val [none,some 8] []],fun r=>.agg [vi r.g9,A4 86 8 s6 r.a9],fun _=>[none],Tryz.func77⟩
def a2D(a:z4):Option z4 :=
 ((a4L a.a9).bind fun W0=>some (z4.mk a.g9 W0))
theorem a66{a}:OK a5d [.agg (a5s a)] (a2D a) :=
 q8 _ fun r h=>o8<|j7 a1E b1W 4 h fun W0 h=>z6 W0<|fE h
def c5r:FS (List j8):=⟨47,Tryz.f47,[.val [some 7] [some 46]],[none],[.val [some 7] []],fun r=>A4 46 7 u0 r,fun _=>[none],Tryz.func47⟩
def b2W(list:List j8):Option (List j8) :=
 (bif ((list.length:Int)==0) then some [] else (s5 (0<=(list.length:Int)/\(list.length:Int)*88<=140737488355328) ((s5 (list.length=(d9u (list.length:Int).toNat (j8.mk false (m8.mk 0 0) (o7.mk [] [] 0 0))).length) (some list)))))
theorem d6D{list}:OK c5r [j4 7 u0 list] (b2W list) :=
 q8 _ fun r h=>o8<|i9 2 h (fun h=>rg<|fE h) (fun h=>rg<|t8 h fun e1 h=>Q6 2 7 46 7 88 u0 (j8.mk false (m8.mk 0 0) (o7.mk [] [] 0 0)) b6X (.ck V8) e1 (by decide) (by rfl)<|rg<|t8 h fun e2 h=>om (n9.row 46 7 (d9u (list.length:Int).toNat (j8.mk false (m8.mk 0 0) (o7.mk [] [] 0 0))).length (list.map u0)=m4 46 7 u0 list) (Y7 e2)<|z6 (d9u (list.length:Int).toNat (j8.mk false (m8.mk 0 0) (o7.mk [] [] 0 0)))<|ob e2<|tl (2,{e:=some (m4 46 7 u0 list)})<|rg<|om ((d9u (list.length:Int).toNat (j8.mk false (m8.mk 0 0) (o7.mk [] [] 0 0))).length=list.length) (by simp)<|fE h)
def a2p:FS (List j8):=⟨19,Tryz.f19,[.val [some 7] [some 46]],[none],[.val [some 7] []],fun r=>A4 46 7 u0 r,fun _=>[none],Tryz.func19⟩
def c5X:(List j8)->KS:=fun out1=>⟨a2p.k 4 [false],(bs 3 (.own 1 0 7 0 out1.length::(bs 18 []))),[some [],some [m4 46 7 u0 out1]]⟩
def b91(out1:List j8):Option (List j8) :=
 some out1
theorem d8G(r):NF a2p r c5X (fun s=>b91 s):=fun out1 h=>PK<|rg<|z6 out1<|fE h
def d6Y(entry:List j8):((List j8)×Int)->KS:=fun (out,v9)=>⟨a2p.k 3 [],(bs 3 (.own 1 0 7 0 out.length::(bs 4 (vi (entry.length:Int)::(vi v9::(bs 12 [])))))),[some [],some [m4 46 7 u0 out]]⟩
def a8W(entry:List j8)(out:List j8)(v9:Int):Option (j6 (List j8) ((List j8)×Int) (List j8)) :=
 (bif decide (v9<(entry.length:Int)) then ((idx out v9).bind fun a8r=>((a3y a8r).bind fun S9=>some (j6.nxt (out.set v9.toNat S9,l9 (v9+1))))) else some (j6.brk out))
theorem c7y(entry):LQ a2p c5X (d6Y entry) (fun s=>a8W entry s.1 s.2):=fun lc (out,v9) h=>PK<|rg<|i9 0 h (fun h=>o8<|B3 h fun a8r a84 h=>E3 a84<|T4 u0 5 a84<|j7 a6K a81 6 h fun S9 h=>E3 a84<|R1 46 7 u0 8 V8 S9 a84<|rg<|(lc.nx h fun hI=>om ((.own 1 0 7 0 out.length:V)=.own 1 0 7 0 (out.set v9.toNat S9).length) (by simp)<|sk [.is (.tmp 3) (.own 1 0 7 0 (out.set v9.toNat S9).length)] [3,8,9] [(1,0)] hI)) (fun h=>(lc.bk h fun hI=>sk [] [3] [(1,0)] hI))
def a6c(list:List j8):Option (List j8) :=
 ((b2W list).bind fun entry=>((p8 (fun s:(List j8)×Int=>a8W entry s.1 s.2) (entry,0)).bind fun x=>x.go (fun r=>some r) fun s=>b91 s))
theorem b4A{list}:OK a2p [j4 7 u0 list] (a6c list) :=
 q8 _ fun r h=>o8<|j7 c5r d6D 1 h fun entry h=>rg<|lp (c7y entry) h (fun _ h=>a2p.rt h) (d8G r) fun hI=>sk [] [3,8,9] [(3,0)] hI
def b3X:FS (List Bool):=⟨78,Tryz.f78,[.val [some 1] [some 4]],[none],[.val [some 1] []],fun r=>A4 4 1 eB r,fun _=>[none],Tryz.func78⟩
def b0H(list:List Bool):Option (List Bool) :=
 (bif ((list.length:Int)==0) then some [] else (s5 (0<=(list.length:Int)/\(list.length:Int)*1<=140737488355328) ((s5 (list.length=(d9u (list.length:Int).toNat false).length) (some list)))))
theorem c5c{list}:OK b3X [j4 1 eB list] (b0H list) :=
 q8 _ fun r h=>o8<|i9 2 h (fun h=>rg<|fE h) (fun h=>rg<|t8 h fun e1 h=>Q6 2 7 4 1 1 eB false ti4 (.none) e1 (by decide) (by rfl)<|rg<|t8 h fun e2 h=>om (n9.row 4 1 (d9u (list.length:Int).toNat false).length (list.map eB)=m4 4 1 eB list) (Y7 e2)<|z6 (d9u (list.length:Int).toNat false)<|ob e2<|tl (2,{e:=some (m4 4 1 eB list)})<|rg<|om ((d9u (list.length:Int).toNat false).length=list.length) (by simp)<|fE h)
def b0c:FS (List m7):=⟨46,Tryz.f46,[.val [some 4] [some 56]],[none],[.val [some 4] []],fun r=>A4 56 4 z8 r,fun _=>[none],Tryz.func46⟩
def a4U(list:List m7):Option (List m7) :=
 (bif ((list.length:Int)==0) then some [] else (s5 (0<=(list.length:Int)/\(list.length:Int)*32<=140737488355328) ((s5 (list.length=(d9u (list.length:Int).toNat (m7.mk 0 0 0 0)).length) (some list)))))
theorem b4c{list}:OK b0c [j4 4 z8 list] (a4U list) :=
 q8 _ fun r h=>o8<|i9 2 h (fun h=>rg<|fE h) (fun h=>rg<|t8 h fun e1 h=>Q6 2 7 56 4 32 z8 (m7.mk 0 0 0 0) b7T (.none) e1 (by decide) (by rfl)<|rg<|t8 h fun e2 h=>om (n9.row 56 4 (d9u (list.length:Int).toNat (m7.mk 0 0 0 0)).length (list.map z8)=m4 56 4 z8 list) (Y7 e2)<|z6 (d9u (list.length:Int).toNat (m7.mk 0 0 0 0))<|ob e2<|tl (2,{e:=some (m4 56 4 z8 list)})<|rg<|om ((d9u (list.length:Int).toNat (m7.mk 0 0 0 0)).length=list.length) (by simp)<|fE h)
def a9j:FS (j5):=⟨45,Tryz.f45,[.val L3 om1],[none],[.val L3 []],fun r=>.agg (c6V r),fun _=>[none],Tryz.func45⟩
def a4N(n:j5):Option j5 :=
 ((a2D n.Acc).bind fun L6=>((a6c n.a5).bind fun a4S=>((b0H n.b8).bind fun bool=>((a4L n.g7).bind fun W0=>((a3y n.d6).bind fun S9=>((b0H n.a9).bind fun b6m=>((a4U n.i5).bind fun ins=>((a3y n.b7).bind fun c08=>((a6c n.d9).bind fun b4Z=>some (j5.mk n.Id L6 a4S n.Seq n.b5 n.a6 bool W0 S9 b6m n.i3 ins c08 b4Z))))))))))
theorem b1d{n}:OK a9j [.agg (r9 n)] (a4N n) :=
 q8 _ fun r h=>W9<|j7 a5d a66 2 h fun L6 h=>rg<|j7 a2p b4A 2 h fun a4S h=>rg<|j7 b3X c5c 2 h fun bool h=>rg<|j7 a1E b1W 2 h fun W0 h=>rg<|j7 a6K a81 2 h fun S9 h=>rg<|j7 b3X c5c 2 h fun b6m h=>rg<|j7 b0c b4c 2 h fun ins h=>rg<|j7 a6K a81 2 h fun c08 h=>rg<|j7 a2p b4A 2 h fun b4Z h=>rg<|ol4 L6.a9 a4S bool W0<|ol3 b6m ins b4Z<|fE h
def S6:FS (j9):=⟨18,Tryz.f18,[.val I5 om2],[none],[.val I5 []],fun r=>.agg (a4o r),fun _=>[none],Tryz.func18⟩
def c1T(msgsCopy:List l8)(asked:List D5)(told:List s9):(List j5)->KS:=fun Nodes1=>⟨S6.k 4 [false],(bs 2 (.ptr 1 0 0::(.ptr 2 0 0::(bs 52 [])))),[some [],some [.var 33 [.nil,.nil,.nil,.nil]],some [.var 33 [.own 3 0 27 0 Nodes1.length,.own 4 0 13 0 msgsCopy.length,.own 5 0 3 0 asked.length,.own 6 0 5 0 told.length]],some [m4 61 27 r9 Nodes1],some [m4 49 13 u5 msgsCopy],some [m4 73 3 D6 asked],some [m4 76 5 A3 told]]⟩
def c1c(msgsCopy:List l8)(told:List s9)(Nodes1:List j5):(List D5)->KS:=fun a7c=>⟨S6.k 6 [false,false],(bs 2 (.ptr 1 0 0::(.ptr 2 0 0::(bs 52 [])))),[some [],some [.var 33 [.nil,.nil,.nil,.nil]],some [.var 33 [.own 3 0 27 0 Nodes1.length,.own 4 0 13 0 msgsCopy.length,.own 5 0 3 0 a7c.length,.own 6 0 5 0 told.length]],some [m4 61 27 r9 Nodes1],some [m4 49 13 u5 msgsCopy],some [m4 73 3 D6 a7c],some [m4 76 5 A3 told]]⟩
def c1S(msgsCopy:List l8)(told:List s9)(Nodes1:List j5)(a7c:List D5):Option j9 :=
 some (j9.mk Nodes1 msgsCopy a7c told)
theorem d8M(msgsCopy told Nodes1)(r):NF S6 r (c1c msgsCopy told Nodes1) (fun s=>c1S msgsCopy told Nodes1 s):=fun a7c h=>PK<|rg<|ol4 Nodes1 msgsCopy a7c told<|fE h
def d0T(msgsCopy:List l8)(asked:List D5)(told:List s9)(Nodes1:List j5):((List D5)×Int)->KS:=fun (f0,v39)=>⟨S6.k 5 [false],(bs 2 (.ptr 1 0 0::(.ptr 2 0 0::(bs 34 (vi (asked.length:Int)::(vi v39::(bs 16 []))))))),[some [],some [.var 33 [.nil,.nil,.nil,.nil]],some [.var 33 [.own 3 0 27 0 Nodes1.length,.own 4 0 13 0 msgsCopy.length,.own 5 0 3 0 f0.length,.own 6 0 5 0 told.length]],some [m4 61 27 r9 Nodes1],some [m4 49 13 u5 msgsCopy],some [m4 73 3 D6 f0],some [m4 76 5 A3 told]]⟩
def b1n(asked:List D5)(f0:List D5)(v39:Int):Option (j6 j9 ((List D5)×Int) (List D5)) :=
 (bif decide (v39<(asked.length:Int)) then ((idx f0 v39).bind fun a6F=>((a4U a6F.i5).bind fun ins=>some (j6.nxt (f0.set v39.toNat (D5.mk a6F.a0 ins),l9 (v39+1))))) else some (j6.brk f0))
theorem c6O(msgsCopy asked told Nodes1):LQ S6 (c1c msgsCopy told Nodes1) (d0T msgsCopy asked told Nodes1) (fun s=>b1n asked s.1 s.2):=fun lc (f0,v39) h=>PK<|rg<|i9 0 h (fun h=>o8<|B3 h fun a6F b0m h=>E3 b0m<|T4 D6 8 b0m<|j7 b0c b4c 9 h fun ins h=>E3 b0m<|R1 73 3 D6 12 [some 4] (D5.mk a6F.a0 ins) b0m<|z6 ins<|rg<|(lc.nx h fun hI=>om ((.own 5 0 3 0 f0.length:V)=.own 5 0 3 0 (f0.set v39.toNat (D5.mk a6F.a0 ins)).length) (by simp)<|sk [.is (.cell 2 0 2) (.own 5 0 3 0 (f0.set v39.toNat (D5.mk a6F.a0 ins)).length)] [2,3,38,39] [(1,0),(2,0),(3,0),(4,0),(5,0),(6,0)] hI)) (fun h=>(lc.bk h fun hI=>sk [] [2,3] [(1,0),(2,0),(3,0),(4,0),(5,0),(6,0)] hI))
def b7E(msgsCopy:List l8)(asked:List D5)(told:List s9)(Nodes1:List j5):Option j9 :=
 ((p8 (fun s:(List D5)×Int=>b1n asked s.1 s.2) (asked,0)).bind fun x=>x.go (fun r=>some r) fun s=>c1S msgsCopy told Nodes1 s)
theorem c8H(msgsCopy asked told)(r):NF S6 r (c1T msgsCopy asked told) (fun s=>b7E msgsCopy asked told s):=fun Nodes1 h=>PK<|rg<|lp (c6O msgsCopy asked told Nodes1) h (fun _ h=>S6.rt h) (d8M msgsCopy told Nodes1 r) fun hI=>sk [] [2,3,38,39] [(1,0),(2,0),(3,0),(4,0),(5,0),(6,0)] hI
def c9X(node:List j5)(msgsCopy:List l8)(asked:List D5)(told:List s9):((List j5)×Int)->KS:=fun (a8,v22)=>⟨S6.k 3 [],(bs 2 (.ptr 1 0 0::(.ptr 2 0 0::(bs 17 (vi (node.length:Int)::(vi v22::(bs 33 []))))))),[some [],some [.var 33 [.nil,.nil,.nil,.nil]],some [.var 33 [.own 3 0 27 0 a8.length,.own 4 0 13 0 msgsCopy.length,.own 5 0 3 0 asked.length,.own 6 0 5 0 told.length]],some [m4 61 27 r9 a8],some [m4 49 13 u5 msgsCopy],some [m4 73 3 D6 asked],some [m4 76 5 A3 told]]⟩
def b22(node:List j5)(a8:List j5)(v22:Int):Option (j6 j9 ((List j5)×Int) (List j5)) :=
 (bif decide (v22<(node.length:Int)) then ((idx a8 v22).bind fun node1=>((a4N node1).bind fun Q9=>some (j6.nxt (a8.set v22.toNat Q9,l9 (v22+1))))) else some (j6.brk a8))
theorem d5h(node msgsCopy asked told):LQ S6 (c1T msgsCopy asked told) (c9X node msgsCopy asked told) (fun s=>b22 node s.1 s.2):=fun lc (a8,v22) h=>PK<|rg<|i9 0 h (fun h=>o8<|B3 h fun node1 a01 h=>E3 a01<|T4 r9 7 a01<|j7 a9j b1d 8 h fun Q9 h=>E3 a01<|R1 61 27 r9 10 L3 Q9 a01<|K1 Q9<|rg<|(lc.nx h fun hI=>om ((.own 3 0 27 0 a8.length:V)=.own 3 0 27 0 (a8.set v22.toNat Q9).length) (by simp)<|sk [.is (.cell 2 0 0) (.own 3 0 27 0 (a8.set v22.toNat Q9).length)] [2,3,21,22] [(1,0),(2,0),(3,0),(4,0),(5,0),(6,0)] hI)) (fun h=>(lc.bk h fun hI=>sk [] [2,3] [(1,0),(2,0),(3,0),(4,0),(5,0),(6,0)] hI))
def a0M(w:j9):Option j9 :=
 ((b4S w.a8).bind fun node=>((a7E w.i0).bind fun msgsCopy=>((b6F w.f0).bind fun asked=>((b2G w.Told).bind fun told=>((p8 (fun s:(List j5)×Int=>b22 node s.1 s.2) (node,0)).bind fun x=>x.go (fun r=>some r) fun s=>b7E msgsCopy asked told s)))))
theorem a7f{w}:OK S6 [.agg (O8 w)] (a0M w) :=
 q8 _ fun r h=>o8<|j7 b9m d4X 2 h fun node h=>j7 a3H b74 5 h fun msgsCopy h=>j7 c0y d59 8 h fun asked h=>j7 b52 c1y 11 h fun told h=>rg<|lp (d5h node msgsCopy asked told) h (fun _ h=>S6.rt h) (c8H msgsCopy asked told r) fun hI=>sk [] [2,3,21,22] [(2,0),(16,0),(5,0),(8,0),(11,0),(14,0)] hI
def a5x:FS (j9):=⟨8,Tryz.f8,[.val I5 []],[],[],fun r=>.agg (O8 r),fun _=>[],Tryz.func8⟩
def c0F:(List j5)->KS:=fun Nodes1=>⟨a5x.k 4 [false],(.ptr 1 0 0::(.ptr 2 0 0::(bs 15 []))),[some [],some [.var 33 [.nil,.nil,.nil,.nil]],some [.var 33 [.own 3 0 27 0 Nodes1.length,.nil,.nil,.nil]],some [m4 61 27 r9 Nodes1]]⟩
def c36(Nodes1:List j5):Option j9 :=
 ((a0M (j9.mk Nodes1 [] [] [])).bind fun E9=>some E9)
theorem c6D(r):NF a5x r c0F (fun s=>c36 s):=fun Nodes1 h=>PK<|rg<|j7 S6 a7f 1 h fun E9 h=>z6 Nodes1<|K4 E9<|fE h
def c8h:((List j5)×Int)->KS:=fun (a8,id)=>⟨a5x.k 3 [],(.ptr 1 0 0::(.ptr 2 0 0::(vi id::(bs 14 [])))),[some [],some [.var 33 [.nil,.nil,.nil,.nil]],some [.var 33 [.own 3 0 27 0 a8.length,.nil,.nil,.nil]],some [m4 61 27 r9 a8]]⟩
def a6Y(a8:List j5)(id:Int):Option (j6 j9 ((List j5)×Int) (List j5)) :=
 (bif decide (id<3) then ((b2z id).bind fun b06=>(s5 ((a8.length+1)*392<=140737488355328) (some (j6.nxt (a8++[b06],l9 (id+1)))))) else some (j6.brk a8))
theorem d0J:LQ a5x c0F c8h (fun s=>a6Y s.1 s.2):=fun lc (a8,id) h=>PK<|rg<|i9 1 h (fun h=>rg<|j7 c0m c80 3 h fun b06 h=>tk 4 L3<|t8 h fun e1 h=>K2 5 11 61 27 392 r9 a8 b06 e1<|K0 b06<|rg<|(lc.nx h fun hI=>sk [] [0,1,2] [(1,0),(2,0),(11,0)] hI)) (fun h=>(lc.bk h fun hI=>sk [] [0,1] [(1,0),(2,0),(3,0)] hI))
def b2b:Option j9 :=
 ((p8 (fun s:(List j5)×Int=>a6Y s.1 s.2) ([],0)).bind fun x=>x.go (fun r=>some r) fun s=>c36 s)
theorem c9v:OK a5x [] b2b :=
 q8 _ fun r h=>W9<|lp (d0J) h (fun _ h=>a5x.rt h) (c6D r) fun hI=>sk [.own (.cell 3 0 0) 61 27] [0,1,2] [(1,0),(3,0),(6,0)] hI
def a5H:FS (Bool):=⟨116,Tryz.f116,[.val [] []],[none,none],[.val [some 2] [],.val [some 2] []],fun r=>.b r,fun _=>[none,none],Tryz.func116⟩
def c39:Unit->KS:=fun _=>⟨a5H.k 4 [false,false],(bs 26 []),[some []]⟩
def b8B:Option Bool :=
 some true
theorem d2Q(r):NF a5H r c39 (fun s=>b8B):=fun _ h=>PK<|rg<|fE h
def d8z(a:List p9)(b:List p9):Int->KS:=fun v13=>⟨a5H.k 3 [false],(j4 2 u7 a::(j4 2 u7 b::(bs 10 (vi (a.length:Int)::(vi v13::(bs 12 [])))))),[some []]⟩
def b0K(a:List p9)(b:List p9)(v13:Int):Option (j6 Bool Int Unit) :=
 (bif decide (v13<(a.length:Int)) then ((idx a v13).bind fun read=>((idx b v13).bind fun R3=>(bif (!(([read.g8,read.i7]:List Int)==[R3.g8,R3.i7])) then some (j6.ret false) else some (j6.nxt (l9 (v13+1)))))) else some (j6.brk ()))
theorem d2v(a b):LQ a5H c39 (d8z a b) (fun s=>b0K a b s):=fun lc v13 h=>PK<|rg<|i9 0 h (fun h=>o8<|v5 u7 2 h fun read b8m h=>v5 u7 6 h fun R3 d2N h=>i9 8 h (fun h=>rg<|fL lc h) (fun h=>rg<|(lc.nx h fun hI=>sk [] [0,1,12,13] [] hI))) (fun h=>(lc.bk h fun hI=>sk [] [] [] hI))
def b0r(a:List p9)(b:List p9):Option Bool :=
 (bif ((a.length:Int) != (b.length:Int)) then some false else ((p8 (fun s:Int=>b0K a b s) 0).bind fun x=>x.go (fun r=>some r) fun s=>b8B))
theorem d9a{a b}:OK a5H [j4 2 u7 a,j4 2 u7 b] (b0r a b) :=
 q8 _ fun r h=>o8<|i9 4 h (fun h=>rg<|fE h) (fun h=>rg<|lp (d2v a b) h (fun _ h=>a5H.rt h) (d2Q r) fun hI=>sk [] [0,1,12,13] [] hI)
def a4t:FS (Bool):=⟨117,Tryz.f117,[.val [] []],[none,none],[.val [some 2] [],.val [some 2] []],fun r=>.b r,fun _=>[none,none],Tryz.func117⟩
def c3G:Unit->KS:=fun _=>⟨a4t.k 4 [false,false],(bs 26 []),[some []]⟩
def b9j:Option Bool :=
 some true
theorem c7S(r):NF a4t r c3G (fun s=>b9j):=fun _ h=>PK<|rg<|fE h
def d5Z(a:List n6)(b:List n6):Int->KS:=fun v13=>⟨a4t.k 3 [false],(j4 2 v6 a::(j4 2 v6 b::(bs 10 (vi (a.length:Int)::(vi v13::(bs 12 [])))))),[some []]⟩
def b3h(a:List n6)(b:List n6)(v13:Int):Option (j6 Bool Int Unit) :=
 (bif decide (v13<(a.length:Int)) then ((idx a v13).bind fun put=>((idx b v13).bind fun put1=>(bif (!(([put.g8,put.c8]:List Int)==[put1.g8,put1.c8])) then some (j6.ret false) else some (j6.nxt (l9 (v13+1)))))) else some (j6.brk ()))
theorem d0x(a b):LQ a4t c3G (d5Z a b) (fun s=>b3h a b s):=fun lc v13 h=>PK<|rg<|i9 0 h (fun h=>o8<|v5 v6 2 h fun put hput h=>v5 v6 6 h fun put1 b2g h=>i9 8 h (fun h=>rg<|fL lc h) (fun h=>rg<|(lc.nx h fun hI=>sk [] [0,1,12,13] [] hI))) (fun h=>(lc.bk h fun hI=>sk [] [] [] hI))
def b24(a:List n6)(b:List n6):Option Bool :=
 (bif ((a.length:Int) != (b.length:Int)) then some false else ((p8 (fun s:Int=>b3h a b s) 0).bind fun x=>x.go (fun r=>some r) fun s=>b9j))
theorem d3v{a b}:OK a4t [j4 2 v6 a,j4 2 v6 b] (b24 a b) :=
 q8 _ fun r h=>o8<|i9 4 h (fun h=>rg<|fE h) (fun h=>rg<|lp (d0x a b) h (fun _ h=>a4t.rt h) (c7S r) fun hI=>sk [] [0,1,12,13] [] hI)
def c1n:FS (Bool):=⟨81,Tryz.f81,[.val [] []],[none,none],[.val a1U [],.val a1U []],fun r=>.b r,fun _=>[none,none],Tryz.func81⟩
def b0d(a:o7)(b:o7):Option Bool :=
 ((b0r a.b9 b.b9).bind fun read=>(bif read then ((b24 a.c6 b.c6).bind fun put=>(bif put then (bif (a.c8==b.c8) then some (a.Code==b.Code) else some false) else some false)) else some false))
theorem d5j{a b}:OK c1n [.agg (a13 a),.agg (a13 b)] (b0d a b) :=
 q8 _ fun r h=>o8<|j7 a5H d9a 4 h fun read h=>i9 5 h (fun h=>j7 a4t d3v 10 h fun put h=>i9 12 h (fun h=>i9 19 h (fun h=>fE h) (fun h=>fE h)) (fun h=>fE h)) (fun h=>fE h)
def a16:FS (Bool):=⟨49,Tryz.f49,[.val [] []],[none,none],[.val V8 [],.val V8 []],fun r=>.b r,fun _=>[none,none],Tryz.func49⟩
def a0c(a:j8)(b:j8):Option Bool :=
 (bif (a.i6==b.i6) then (bif (([a.a0.b6,a.a0.Seq]:List Int)==[b.a0.b6,b.a0.Seq]) then ((b0d a.c7 b.c7).bind fun c3z=>some c3z) else some false) else some false)
theorem a2l{a b}:OK a16 [.agg (u0 a),.agg (u0 b)] (a0c a b) :=
 q8 _ fun r h=>o8<|i9 5 h (fun h=>i9 12 h (fun h=>j7 c1n d5j 17 h fun c3z h=>fE h) (fun h=>fE h)) (fun h=>fE h)
def a55:FS (Bool):=⟨38,Tryz.f38,[.val [] []],[none],[.val [] []],fun r=>.b r,fun _=>[none],Tryz.func38⟩
def a4h(q:m8):Option Bool :=
 ((A7 q.b6 0 2).bind fun in_=>(bif in_ then ((A7 q.Seq 1 1000).bind fun G8=>some G8) else some false))
theorem a7Y{q}:OK a55 [.agg (I9 q)] (a4h q) :=
 q8 _ fun r h=>o8<|j7 A6 B9 2 h fun in_ h=>i9 3 h (fun h=>j7 A6 B9 6 h fun G8 h=>fE h) (fun h=>fE h)
def U3:FS (Bool):=⟨91,Tryz.f91,[.val [] []],[none],[.val a1U []],fun r=>.b r,fun _=>[none],Tryz.func91⟩
def d8E(r_:o7):Unit->KS:=fun _=>⟨U3.k 2 [false],(bs 1 (.ptr 1 0 0::(bs 98 []))),[some [],some [.var 44 [j4 2 u7 r_.b9,j4 2 v6 r_.c6,vi r_.c8,vi r_.Code]]]⟩
def b9O(r_:o7):Unit->KS:=fun _=>⟨U3.k 5 [false,false],(bs 1 (.ptr 1 0 0::(bs 2 (.ptr 2 0 0::(bs 95 []))))),[some [],some [.var 44 [j4 2 u7 r_.b9,j4 2 v6 r_.c6,vi r_.c8,vi r_.Code]],some [.arr 171 1 4 ((d9u 4 false).map eB)]]⟩
def b83:Unit->KS:=fun _=>⟨U3.k 7 [false,false,false],(bs 100 []),[some []]⟩
def b9t:Option Bool :=
 some true
theorem d7F(r):NF U3 r b83 (fun s=>b9t):=fun _ h=>PK<|rg<|fE h
def d72(r_:o7):((List Bool)×Int)->KS:=fun (put,v76)=>⟨U3.k 6 [false,false],(bs 4 (.ptr 1 0 0::(bs 69 (j4 2 v6 r_.c6::(vi (r_.c6.length:Int)::(vi v76::(bs 23 []))))))),[some [],some [.arr 171 1 4 (put.map eB)]]⟩
def a6x(r_:o7)(put:List Bool)(v76:Int):Option (j6 Bool ((List Bool)×Int) Unit) :=
 (bif decide (v76<(r_.c6.length:Int)) then ((idx r_.c6 v76).bind fun put1=>((A7 put1.g8 0 3).bind fun in_=>(bif (!in_) then some (j6.ret false) else ((idx put put1.g8).bind fun y=>(s5 (put1.g8<4) ((bif y then some (j6.ret false) else ((A7 put1.c8 (-1000000) 1000000).bind fun G8=>(bif (!G8) then some (j6.ret false) else (s5 (put1.g8<4) (some (j6.nxt (put.set put1.g8.toNat true,l9 (v76+1)))))))))))))) else some (j6.brk ()))
theorem d1K(r_):LQ U3 b83 (d72 r_) (fun s=>a6x r_ s.1 s.2):=fun lc (put,v76) h=>PK<|rg<|i9 0 h (fun h=>rg<|v5 v6 0 h fun put1 b2g h=>rg<|j7 A6 B9 2 h fun in_ h=>i9 4 h (fun h=>rg<|fL lc h) (fun h=>B3 h fun y hy h=>t8 h fun e1 h=>ob (K7 hy)<|ob e1<|ob (N9 (enc:=eB) hy)<|tl (tr 8 (eB y))<|i9 10 h (fun h=>rg<|fL lc h) (fun h=>j7 A6 B9 13 h fun G8 h=>i9 15 h (fun h=>rg<|fL lc h) (fun h=>rg<|t8 h fun e2 h=>ob (K7 hy)<|ob e2<|om (n9.arr 171 1 4 ((put.map eB).set (put1.g8.toNat) [.b true])=n9.arr 171 1 4 ((put.set put1.g8.toNat true).map eB)) (a5y rfl)<|ob (N9 (enc:=eB) hy)<|tl (3,{a:=.rowck (eB y) [],e:=some (.arr 171 1 4 ((put.set put1.g8.toNat true).map eB))})<|rg<|(lc.nx h fun hI=>sk [] [4,74,75,76] [(1,0)] hI))))) (fun h=>(lc.bk h fun hI=>sk [] [] [] hI))
def b3N(r_:o7):Option Bool :=
 ((p8 (fun s:(List Bool)×Int=>a6x r_ s.1 s.2) (d9u 4 false,0)).bind fun x=>x.go (fun r=>some r) fun s=>b9t)
theorem d6O(r_)(r):NF U3 r (b9O r_) (fun s=>b3N r_):=fun _ h=>PK<|rg<|lp (d1K r_) h (fun _ h=>U3.rt h) (d7F r) fun hI=>sk [] [4,74,75,76] [(2,0)] hI
def d3L(r_:o7):((List Bool)×Int)->KS:=fun (read,v49)=>⟨U3.k 4 [false],(bs 1 (.ptr 1 0 0::(bs 1 (.ptr 2 0 0::(.ptr 3 0 0::(bs 42 (j4 2 u7 r_.b9::(vi (r_.b9.length:Int)::(vi v49::(bs 50 [])))))))))),[some [],some [.var 44 [j4 2 u7 r_.b9,j4 2 v6 r_.c6,vi r_.c8,vi r_.Code]],some [.arr 171 1 4 (read.map eB)],some [.arr 171 1 4 ((d9u 4 false).map eB)]]⟩
def a6d(r_:o7)(read:List Bool)(v49:Int):Option (j6 Bool ((List Bool)×Int) Unit) :=
 (bif decide (v49<(r_.b9.length:Int)) then ((idx r_.b9 v49).bind fun R3=>((A7 R3.g8 0 3).bind fun Q7=>(bif (!Q7) then some (j6.ret false) else ((idx read R3.g8).bind fun y1=>(s5 (R3.g8<4) ((bif y1 then some (j6.ret false) else ((A7 R3.i7 0 1000000).bind fun U8=>(bif (!U8) then some (j6.ret false) else (s5 (R3.g8<4) (some (j6.nxt (read.set R3.g8.toNat true,l9 (v49+1)))))))))))))) else some (j6.brk ()))
theorem c73(r_):LQ U3 (b9O r_) (d3L r_) (fun s=>a6d r_ s.1 s.2):=fun lc (read,v49) h=>PK<|rg<|i9 0 h (fun h=>rg<|v5 u7 0 h fun R3 d2N h=>rg<|j7 A6 B9 2 h fun Q7 h=>i9 4 h (fun h=>rg<|fL lc h) (fun h=>B3 h fun y1 hy1 h=>t8 h fun e3 h=>ob (K7 hy1)<|ob e3<|ob (N9 (enc:=eB) hy1)<|tl (tr 8 (eB y1))<|i9 10 h (fun h=>rg<|fL lc h) (fun h=>j7 A6 B9 13 h fun U8 h=>i9 15 h (fun h=>rg<|fL lc h) (fun h=>rg<|t8 h fun e4 h=>ob (K7 hy1)<|ob e4<|om (n9.arr 171 1 4 ((read.map eB).set (R3.g8.toNat) [.b true])=n9.arr 171 1 4 ((read.set R3.g8.toNat true).map eB)) (a5y rfl)<|ob (N9 (enc:=eB) hy1)<|tl (3,{a:=.rowck (eB y1) [],e:=some (.arr 171 1 4 ((read.set R3.g8.toNat true).map eB))})<|rg<|(lc.nx h fun hI=>sk [] [1,3,4,47,48,49] [(1,0),(2,0),(3,0)] hI))))) (fun h=>(lc.bk h fun hI=>sk [] [1,4] [(1,0),(3,0)] hI))
def b1A(r_:o7):Option Bool :=
 ((p8 (fun s:(List Bool)×Int=>a6d r_ s.1 s.2) (d9u 4 false,0)).bind fun x=>x.go (fun r=>some r) fun s=>b3N r_)
theorem d8o(r_)(r):NF U3 r (d8E r_) (fun s=>b1A r_):=fun _ h=>PK<|rg<|om ((d9u 4 ([.b false]:List V)).flatten=[.b false,.b false,.b false,.b false]/\([.b false]:List V).length=1) ⟨rfl,rfl⟩<|om ((d9u 4 ([.b false]:List V)).flatten=[.b false,.b false,.b false,.b false]/\([.b false]:List V).length=1) ⟨rfl,rfl⟩<|rg<|lp (c73 r_) h (fun _ h=>U3.rt h) (d6O r_ r) fun hI=>sk [] [1,3,4,47,48,49] [(1,0),(2,0),(3,0)] hI
def a6R(r_:o7):Option Bool :=
 ((((A7 r_.Code 0 3).bind fun a20=>(bif (!a20) then some (l7.ret false) else ((A7 r_.c8 (-1000000) 1000000).bind fun a6W=>(bif (!a6W) then some (l7.ret false) else (bif (r_.Code != 0) then (bif (r_.c8 != 0) then some (l7.ret false) else (bif decide ((r_.c6.length:Int)>0) then some (l7.ret false) else (bif (r_.Code==3) then (bif decide ((r_.b9.length:Int)>0) then some (l7.ret false) else some (l7.brk ())) else some (l7.brk ())))) else (bif (r_.Code==3) then (bif decide ((r_.b9.length:Int)>0) then some (l7.ret false) else some (l7.brk ())) else some (l7.brk ()))))))):Option (l7 Bool Unit)).bind fun x=>x.go some fun j=>b1A r_)
theorem b7w{r_}:OK U3 [.agg (a13 r_)] (a6R r_) :=
 q8 _ fun r h=>rg<|C2 h (d8o r_ r) fun x1 h hc1=>rg<|j7 A6 B9 2 h fun a20 h=>i9 4 h (fun h=>rg<|(E6 h hc1 fun h=>fE h)) (fun h=>j7 A6 B9 7 h fun a6W h=>i9 10 h (fun h=>rg<|(E6 h hc1 fun h=>fE h)) (fun h=>i9 14 h (fun h=>i9 18 h (fun h=>rg<|(E6 h hc1 fun h=>fE h)) (fun h=>i9 26 h (fun h=>rg<|(E6 h hc1 fun h=>fE h)) (fun h=>i9 30 h (fun h=>i9 36 h (fun h=>rg<|(E6 h hc1 fun h=>fE h)) (fun h=>(p7 h hc1 fun hI=>sk [] [1] [(1,0)] hI))) (fun h=>(p7 h hc1 fun hI=>sk [] [1] [(1,0)] hI))))) (fun h=>i9 30 h (fun h=>i9 36 h (fun h=>rg<|(E6 h hc1 fun h=>fE h)) (fun h=>(p7 h hc1 fun hI=>sk [] [1] [(1,0)] hI))) (fun h=>(p7 h hc1 fun hI=>sk [] [1] [(1,0)] hI)))))
def a1n:FS (Bool):=⟨65,Tryz.f65,[.val [] []],[none],[.val V8 []],fun r=>.b r,fun _=>[none],Tryz.func65⟩
def a0a(e_:j8):Option Bool :=
 (bif e_.i6 then ((a0c e_ (j8.mk true (m8.mk 0 0) (o7.mk [] [] 0 0))).bind fun G6=>some G6) else ((a4h e_.a0).bind fun a3v=>(bif a3v then ((a6R e_.c7).bind fun a29=>(bif a29 then some (e_.c7.Code != 3) else some false)) else some false)))
theorem a15{e_}:OK a1n [.agg (u0 e_)] (a0a e_) :=
 q8 _ fun r h=>o8<|i9 1 h (fun h=>rg<|j7 a16 a2l 2 h fun G6 h=>fE h) (fun h=>rg<|j7 a55 a7Y 2 h fun a3v h=>i9 3 h (fun h=>j7 U3 b7w 6 h fun a29 h=>i9 8 h (fun h=>fE h) (fun h=>fE h)) (fun h=>fE h))
def c5x:FS (Bool):=⟨94,Tryz.f94,[.val [] []],[none],[.val a2R []],fun r=>.b r,fun _=>[none],Tryz.func94⟩
def a93(v_:n8):Option Bool :=
 (bif (v_.a6==0) then ((a0c v_.d7 (j8.mk false (m8.mk 0 0) (o7.mk [] [] 0 0))).bind fun G6=>some G6) else ((A7 v_.a6 1 3000).bind fun in_=>(bif in_ then ((a0a v_.d7).bind fun P9=>some P9) else some false)))
theorem d29{v_}:OK c5x [.agg (s6 v_)] (a93 v_) :=
 q8 _ fun r h=>o8<|i9 2 h (fun h=>rg<|j7 a16 a2l 3 h fun G6 h=>fE h) (fun h=>rg<|j7 A6 B9 2 h fun in_ h=>i9 3 h (fun h=>j7 a1n a15 6 h fun P9 h=>fE h) (fun h=>fE h))
def a1k:FS (Bool):=⟨67,Tryz.f67,[.val [] []],[none],[.val [some 8] []],fun r=>.b r,fun _=>[none],Tryz.func67⟩
def c59(list:List n8):Unit->KS:=fun _=>⟨a1k.k 3 [false],(j4 8 s6 list::(bs 17 [])),[some []]⟩
def b7F(list:List n8):Option Bool :=
 some (decide ((list.length:Int)<=40))
theorem d1o(list)(r):NF a1k r (c59 list) (fun s=>b7F list):=fun _ h=>PK<|rg<|fE h
def d8S(list:List n8):Int->KS:=fun v7=>⟨a1k.k 2 [],(j4 8 s6 list::(bs 4 (j4 8 s6 list::(vi (list.length:Int)::(vi v7::(bs 10 [])))))),[some []]⟩
def b14(list:List n8)(v7:Int):Option (j6 Bool Int Unit) :=
 (bif decide (v7<(list.length:Int)) then ((idx list v7).bind fun vote=>((a93 vote).bind fun a1a=>(bif (!a1a) then some (j6.ret false) else some (j6.nxt (l9 (v7+1)))))) else some (j6.brk ()))
theorem c7M(list):LQ a1k (c59 list) (d8S list) (fun s=>b14 list s):=fun lc v7 h=>PK<|rg<|i9 0 h (fun h=>rg<|v5 s6 0 h fun vote a0V h=>rg<|j7 c5x d29 1 h fun a1a h=>i9 2 h (fun h=>rg<|fL lc h) (fun h=>rg<|(lc.nx h fun hI=>sk [] [0,5,6,7] [] hI))) (fun h=>(lc.bk h fun hI=>sk [] [0] [] hI))
def a4a(list:List n8):Option Bool :=
 ((p8 (fun s:Int=>b14 list s) 0).bind fun x=>x.go (fun r=>some r) fun s=>b7F list)
theorem a9m{list}:OK a1k [j4 8 s6 list] (a4a list) :=
 q8 _ fun r h=>o8<|lp (c7M list) h (fun _ h=>a1k.rt h) (d1o list r) fun hI=>sk [] [0,5,6,7] [] hI
def a2Z:FS (Bool):=⟨63,Tryz.f63,[.val [] []],[none],[.val [none,some 8] []],fun r=>.b r,fun _=>[none],Tryz.func63⟩
def b9Z(a:z4):Unit->KS:=fun _=>⟨a2Z.k 3 [false],(bs 1 (.ptr 1 0 0::(bs 24 []))),[some [],some [.var 58 [vi a.g9,j4 8 s6 a.a9]]]⟩
def b5m(a:z4):Option Bool :=
 ((A7 a.g9 0 3000).bind fun in_=>(bif in_ then ((a4a a.a9).bind fun L7=>some L7) else some false))
theorem d8T(a)(r):NF a2Z r (b9Z a) (fun s=>b5m a):=fun _ h=>PK<|rg<|j7 A6 B9 2 h fun in_ h=>i9 3 h (fun h=>j7 a1k a9m 6 h fun L7 h=>fE h) (fun h=>fE h)
def c7j(a:z4):Int->KS:=fun v8=>⟨a2Z.k 2 [],(bs 1 (.ptr 1 0 0::(bs 4 (j4 8 s6 a.a9::(vi (a.a9.length:Int)::(vi v8::(bs 17 []))))))),[some [],some [.var 58 [vi a.g9,j4 8 s6 a.a9]]]⟩
def b0C(a:z4)(v8:Int):Option (j6 Bool Int Unit) :=
 (bif decide (v8<(a.a9.length:Int)) then ((idx a.a9 v8).bind fun vote=>(bif decide (vote.a6>a.g9) then some (j6.ret false) else some (j6.nxt (l9 (v8+1))))) else some (j6.brk ()))
theorem c8c(a):LQ a2Z (b9Z a) (c7j a) (fun s=>b0C a s):=fun lc v8 h=>PK<|rg<|i9 0 h (fun h=>rg<|v5 s6 0 h fun vote a0V h=>rg<|i9 4 h (fun h=>rg<|fL lc h) (fun h=>rg<|(lc.nx h fun hI=>sk [] [1,6,7,8] [(1,0)] hI))) (fun h=>(lc.bk h fun hI=>sk [] [1] [(1,0)] hI))
def a6I(a:z4):Option Bool :=
 ((p8 (fun s:Int=>b0C a s) 0).bind fun x=>x.go (fun r=>some r) fun s=>b5m a)
theorem b7h{a}:OK a2Z [.agg (a5s a)] (a6I a) :=
 q8 _ fun r h=>o8<|lp (c8c a) h (fun _ h=>a2Z.rt h) (d8T a r) fun hI=>sk [] [1,6,7,8] [(1,0)] hI
def a2V:FS (Bool):=⟨64,Tryz.f64,[.val [] []],[none],[.val [some 7] []],fun r=>.b r,fun _=>[none],Tryz.func64⟩
def c3u(list:List j8):Unit->KS:=fun _=>⟨a2V.k 3 [false],(j4 7 u0 list::(bs 17 [])),[some []]⟩
def b5I(list:List j8):Option Bool :=
 some (decide ((list.length:Int)<=40))
theorem d7B(list)(r):NF a2V r (c3u list) (fun s=>b5I list):=fun _ h=>PK<|rg<|fE h
def c8k(list:List j8):Int->KS:=fun v7=>⟨a2V.k 2 [],(j4 7 u0 list::(bs 4 (j4 7 u0 list::(vi (list.length:Int)::(vi v7::(bs 10 [])))))),[some []]⟩
def b2j(list:List j8)(v7:Int):Option (j6 Bool Int Unit) :=
 (bif decide (v7<(list.length:Int)) then ((idx list v7).bind fun entry=>((a0a entry).bind fun P9=>(bif (!P9) then some (j6.ret false) else some (j6.nxt (l9 (v7+1)))))) else some (j6.brk ()))
theorem d81(list):LQ a2V (c3u list) (c8k list) (fun s=>b2j list s):=fun lc v7 h=>PK<|rg<|i9 0 h (fun h=>rg<|v5 u0 0 h fun entry S0 h=>rg<|j7 a1n a15 1 h fun P9 h=>i9 2 h (fun h=>rg<|fL lc h) (fun h=>rg<|(lc.nx h fun hI=>sk [] [0,5,6,7] [] hI))) (fun h=>(lc.bk h fun hI=>sk [] [0] [] hI))
def a7e(list:List j8):Option Bool :=
 ((p8 (fun s:Int=>b2j list s) 0).bind fun x=>x.go (fun r=>some r) fun s=>b5I list)
theorem b4R{list}:OK a2V [j4 7 u0 list] (a7e list) :=
 q8 _ fun r h=>o8<|lp (d81 list) h (fun _ h=>a2V.rt h) (d7B list r) fun hI=>sk [] [0,5,6,7] [] hI
def b5s:FS (Int):=⟨92,Tryz.f92,[.val [] []],[none],[.val [] []],fun r=>vi r,fun _=>[none],Tryz.func92⟩
def a9y(bal:Int):Option Int :=
 ((A7 bal 1 3000).bind fun in_=>(bif (!in_) then some (-1) else some (d9I bal 3)))
theorem c5b{bal}:OK b5s [vi bal] (a9y bal) :=
 q8 _ fun r h=>o8<|j7 A6 B9 1 h fun in_ h=>i9 2 h (fun h=>rg<|fE h) (fun h=>rg<|om (3≠(0:Int)) (by decide)<|fE h)
def b4x:FS (Bool):=⟨93,Tryz.f93,[.val [] []],[none,none],[.val [some 1] [],.val [] []],fun r=>.b r,fun _=>[none,none],Tryz.func93⟩
def a8I(list:List Bool)(id:Int):Option Bool :=
 (bif ((list.length:Int)==3) then ((idx list id).bind fun y=>some y) else some false)
theorem c0X{list id}:OK b4x [j4 1 eB list,vi id] (a8I list id) :=
 q8 _ fun r h=>o8<|i9 3 h (fun h=>v5 eB 6 h fun y hy h=>fE h) (fun h=>fE h)
def b05:FS (Bool):=⟨66,Tryz.f66,[.val [] []],[none],[.val L3 []],fun r=>.b r,fun _=>[none],Tryz.func66⟩
def d3u(n:j5):Bool->KS:=fun a7k=>⟨b05.k 2 [],(bs 1 (.ptr 1 0 0::(bs 1 (.b a7k::(bs 92 []))))),[some [],some [.var 61 (W8 n)]]⟩
def b2Z(n:j5)(a7k:Bool):Option Bool :=
 (bif (n.b5==0) then (bif (n.a6==0) then (bif ((n.b8.length:Int)==0) then (bif ((n.g7.length:Int)==0) then some a7k else some false) else some false) else some false) else ((a9y n.a6).bind fun a8Y=>(bif (a8Y != n.Id) then some false else (bif decide (n.a6>n.Acc.g9) then some false else ((a4a n.g7).bind fun L7=>(bif (!L7) then some false else (bif (n.b5==1) then ((a8I n.b8 n.Id).bind fun c5g=>(bif c5g then some a7k else some false)) else (bif (n.b5==2) then (bif ((n.b8.length:Int)==0) then some a7k else some false) else (bif (n.b5==3) then (bif ((n.b8.length:Int)==0) then ((a0a n.d6).bind fun P9=>(bif P9 then ((a8I n.a9 n.Id).bind fun c19=>(bif c19 then some (decide ((n.a5.length:Int)<40)) else some false)) else some false)) else some false) else some false)))))))))
theorem c9r(n)(r):NF b05 r (d3u n) (fun s=>b2Z n s):=fun a7k h=>PK<|o8<|i9 2 h (fun h=>rg<|i9 3 h (fun h=>i9 6 h (fun h=>i9 12 h (fun h=>fE h) (fun h=>fE h)) (fun h=>fE h)) (fun h=>fE h)) (fun h=>rg<|j7 b5s c5b 2 h fun a8Y h=>i9 6 h (fun h=>rg<|fE h) (fun h=>i9 14 h (fun h=>rg<|fE h) (fun h=>j7 a1k a9m 17 h fun L7 h=>i9 19 h (fun h=>rg<|fE h) (fun h=>o8<|i9 1 h (fun h=>rg<|j7 b4x c0X 4 h fun c5g h=>i9 5 h (fun h=>fE h) (fun h=>fE h)) (fun h=>rg<|i9 1 h (fun h=>rg<|i9 1 h (fun h=>fE h) (fun h=>fE h)) (fun h=>rg<|i9 1 h (fun h=>rg<|i9 1 h (fun h=>j7 a1n a15 4 h fun P9 h=>i9 6 h (fun h=>j7 b4x c0X 11 h fun c19 h=>i9 13 h (fun h=>fE h) (fun h=>fE h)) (fun h=>fE h)) (fun h=>fE h)) (fun h=>rg<|fE h)))))))
def a8T(n:j5):Option Bool :=
 ((((a0c n.d6 (j8.mk false (m8.mk 0 0) (o7.mk [] [] 0 0))).bind fun G6=>(bif G6 then some (l7.brk ((n.a9.length:Int)==0)) else some (l7.brk false))):Option (l7 Bool Bool)).bind fun x=>x.go some fun j=>b2Z n j)
theorem d6H{n}:OK b05 [.agg (r9 n)] (a8T n) :=
 q8 _ fun r h=>rg<|C2 h (c9r n r) fun x1 h hc1=>rg<|j7 a16 a2l 3 h fun G6 h=>i9 4 h (fun h=>(p7 h hc1 fun hI=>sk [] [1,3] [(1,0)] hI)) (fun h=>(p7 h hc1 fun hI=>sk [] [1,3] [(1,0)] hI))
def V5:FS (Bool):=⟨36,Tryz.f36,[.val [] []],[none],[.val L3 []],fun r=>.b r,fun _=>[none],Tryz.func36⟩
def b80(n:j5):Unit->KS:=fun _=>⟨V5.k 4 [false,false],(bs 1 (.ptr 1 0 0::(bs 87 []))),[some [],some [.var 61 (W8 n)]]⟩
def d6a(n:j5):Unit->KS:=fun _=>⟨V5.k 6 [false,false,true,false],(bs 1 (.ptr 1 0 0::(bs 87 []))),[some [],some [.var 61 (W8 n)]]⟩
def b4X(n:j5):Option Bool :=
 ((a8T n).bind fun a0u=>some a0u)
theorem d6E(n)(r):NF V5 r (d6a n) (fun s=>b4X n):=fun _ h=>PK<|rg<|j7 b05 d6H 1 h fun a0u h=>fE h
def b0k(n:j5):Option Bool :=
 (((bif n.i3 then ((a3A n.i5).bind fun C3=>(bif (!C3) then some (l7.ret false) else ((a0a n.b7).bind fun P9=>(bif (!P9) then some (l7.ret false) else (bif n.b7.i6 then some (l7.ret false) else (bif (!(([n.b7.a0.b6,n.b7.a0.Seq]:List Int)==[n.Id,n.Seq])) then some (l7.ret false) else some (l7.brk ()))))))) else (bif decide ((n.i5.length:Int)>0) then some (l7.ret false) else ((a0c n.b7 (j8.mk false (m8.mk 0 0) (o7.mk [] [] 0 0))).bind fun G6=>(bif (!G6) then some (l7.ret false) else some (l7.brk ()))))):Option (l7 Bool Unit)).bind fun x=>x.go some fun j=>b4X n)
theorem d7m(n)(r):NF V5 r (b80 n) (fun s=>b0k n):=fun _ h=>PK<|C2 h (d6E n r) fun x1 h hc1=>rg<|i9 1 h (fun h=>rg<|j7 a1s a9x 2 h fun C3 h=>i9 4 h (fun h=>rg<|(E6 h hc1 fun h=>fE h)) (fun h=>j7 a1n a15 7 h fun P9 h=>i9 10 h (fun h=>rg<|(E6 h hc1 fun h=>fE h)) (fun h=>i9 15 h (fun h=>rg<|(E6 h hc1 fun h=>fE h)) (fun h=>i9 25 h (fun h=>rg<|(E6 h hc1 fun h=>fE h)) (fun h=>(p7 h hc1 fun hI=>sk [] [1] [(1,0)] hI)))))) (fun h=>rg<|i9 4 h (fun h=>rg<|(E6 h hc1 fun h=>fE h)) (fun h=>j7 a16 a2l 8 h fun G6 h=>i9 10 h (fun h=>rg<|(E6 h hc1 fun h=>fE h)) (fun h=>(p7 h hc1 fun hI=>sk [] [1] [(1,0)] hI))))
def d83(n:j5):Int->KS:=fun v36=>⟨V5.k 3 [false],(bs 1 (.ptr 1 0 0::(bs 32 (j4 7 u0 n.d9::(vi (n.d9.length:Int)::(vi v36::(bs 52 []))))))),[some [],some [.var 61 (W8 n)]]⟩
def b0L(n:j5)(v36:Int):Option (j6 Bool Int Unit) :=
 (bif decide (v36<(n.d9.length:Int)) then ((idx n.d9 v36).bind fun entry=>((a0a entry).bind fun a7P=>(bif (!a7P) then some (j6.ret false) else (bif entry.i6 then some (j6.ret false) else some (j6.nxt (l9 (v36+1))))))) else some (j6.brk ()))
theorem d5R(n):LQ V5 (b80 n) (d83 n) (fun s=>b0L n s):=fun lc v36 h=>PK<|rg<|i9 0 h (fun h=>rg<|v5 u0 0 h fun entry S0 h=>rg<|j7 a1n a15 1 h fun a7P h=>i9 3 h (fun h=>rg<|fL lc h) (fun h=>i9 6 h (fun h=>rg<|fL lc h) (fun h=>rg<|(lc.nx h fun hI=>sk [] [1,34,35,36] [(1,0)] hI)))) (fun h=>(lc.bk h fun hI=>sk [] [1] [(1,0)] hI))
def a1Q(n:j5):Option Bool :=
 ((A7 n.Id 0 2).bind fun in_=>(bif (!in_) then some false else ((a6I n.Acc).bind fun Q1=>(bif (!Q1) then some false else ((a7e n.a5).bind fun F5=>(bif (!F5) then some false else ((A7 n.Seq 0 1000).bind fun G8=>(bif (!G8) then some false else (bif decide ((n.d9.length:Int)>4) then some false else ((p8 (fun s:Int=>b0L n s) 0).bind fun x=>x.go (fun r=>some r) fun s=>b0k n))))))))))
theorem a5z{n}:OK V5 [.agg (r9 n)] (a1Q n) :=
 q8 _ fun r h=>o8<|j7 A6 B9 2 h fun in_ h=>i9 4 h (fun h=>rg<|fE h) (fun h=>j7 a2Z b7h 7 h fun Q1 h=>i9 10 h (fun h=>rg<|fE h) (fun h=>j7 a2V b4R 13 h fun F5 h=>i9 16 h (fun h=>rg<|fE h) (fun h=>j7 A6 B9 19 h fun G8 h=>i9 22 h (fun h=>rg<|fE h) (fun h=>i9 27 h (fun h=>rg<|fE h) (fun h=>rg<|lp (d5R n) h (fun _ h=>V5.rt h) (d7m n r) fun hI=>sk [] [1,34,35,36] [(1,0)] hI)))))
def b6R:FS (Bool):=⟨37,Tryz.f37,[.val [] []],[none],[.val R2 []],fun r=>.b r,fun _=>[none],Tryz.func37⟩
def a7p(m:l8):Option Bool :=
 ((A7 m.b8 0 2).bind fun in_=>(bif (!in_) then some false else ((A7 m.To 0 2).bind fun G8=>(bif (!G8) then some false else (bif (m.b8==m.To) then some false else ((A7 m.c9 0 40).bind fun Q7=>(bif (!Q7) then some false else ((A7 m.a6 1 3000).bind fun U8=>((a0c m.d7 (j8.mk false (m8.mk 0 0) (o7.mk [] [] 0 0))).bind fun G6=>(bif (m.a7==1) then (bif U8 then (bif G6 then some ((m.a9.length:Int)==0) else some false) else some false) else (bif (m.a7==4) then (bif U8 then (bif G6 then some ((m.a9.length:Int)==0) else some false) else some false) else (bif (m.a7==2) then (bif U8 then (bif G6 then ((a4a m.a9).bind fun L7=>(bif L7 then some (decide ((l9 (m.c9+(m.a9.length:Int)))<=40)) else some false)) else some false) else some false) else (bif (m.a7==3) then (bif U8 then (bif decide (m.c9<40) then ((a0a m.d7).bind fun P9=>(bif P9 then some ((m.a9.length:Int)==0) else some false)) else some false) else some false) else (bif (m.a7==5) then (bif (m.a6==0) then (bif decide (m.c9<40) then ((a0a m.d7).bind fun a7P=>(bif a7P then some ((m.a9.length:Int)==0) else some false)) else some false) else some false) else (bif (m.a7==6) then (bif U8 then (bif (m.c9==0) then (bif G6 then some ((m.a9.length:Int)==0) else some false) else some false) else some false) else (bif (m.a7==7) then (bif (m.a6==0) then (bif (m.c9==0) then ((a0a m.d7).bind fun c5Z=>(bif c5Z then (bif (!m.d7.i6) then some ((m.a9.length:Int)==0) else some false) else some false)) else some false) else some false) else (bif (m.a7==8) then (bif (m.a6==0) then (bif G6 then some ((m.a9.length:Int)==0) else some false) else some false) else some false)))))))))))))))))
theorem c5a{m}:OK b6R [.agg (u5 m)] (a7p m) :=
 q8 _ fun r h=>o8<|j7 A6 B9 2 h fun in_ h=>i9 4 h (fun h=>rg<|fE h) (fun h=>j7 A6 B9 7 h fun G8 h=>i9 10 h (fun h=>rg<|fE h) (fun h=>i9 17 h (fun h=>rg<|fE h) (fun h=>j7 A6 B9 20 h fun Q7 h=>i9 22 h (fun h=>rg<|fE h) (fun h=>rg<|j7 A6 B9 2 h fun U8 h=>rg<|j7 a16 a2l 3 h fun G6 h=>W9<|i9 1 h (fun h=>rg<|i9 1 h (fun h=>i9 4 h (fun h=>fE h) (fun h=>fE h)) (fun h=>fE h)) (fun h=>rg<|i9 1 h (fun h=>rg<|i9 1 h (fun h=>i9 4 h (fun h=>fE h) (fun h=>fE h)) (fun h=>fE h)) (fun h=>rg<|i9 1 h (fun h=>rg<|i9 1 h (fun h=>i9 4 h (fun h=>j7 a1k a9m 7 h fun L7 h=>i9 9 h (fun h=>fE h) (fun h=>fE h)) (fun h=>fE h)) (fun h=>fE h)) (fun h=>rg<|i9 1 h (fun h=>rg<|i9 1 h (fun h=>i9 6 h (fun h=>j7 a1n a15 9 h fun P9 h=>i9 11 h (fun h=>fE h) (fun h=>fE h)) (fun h=>fE h)) (fun h=>fE h)) (fun h=>rg<|i9 1 h (fun h=>rg<|i9 3 h (fun h=>i9 8 h (fun h=>j7 a1n a15 11 h fun a7P h=>i9 13 h (fun h=>fE h) (fun h=>fE h)) (fun h=>fE h)) (fun h=>fE h)) (fun h=>rg<|i9 1 h (fun h=>rg<|i9 1 h (fun h=>i9 6 h (fun h=>i9 9 h (fun h=>fE h) (fun h=>fE h)) (fun h=>fE h)) (fun h=>fE h)) (fun h=>rg<|i9 1 h (fun h=>rg<|i9 3 h (fun h=>i9 8 h (fun h=>j7 a1n a15 11 h fun c5Z h=>i9 13 h (fun h=>i9 19 h (fun h=>fE h) (fun h=>fE h)) (fun h=>fE h)) (fun h=>fE h)) (fun h=>fE h)) (fun h=>rg<|i9 1 h (fun h=>rg<|i9 3 h (fun h=>i9 6 h (fun h=>fE h) (fun h=>fE h)) (fun h=>fE h)) (fun h=>rg<|fE h))))))))))))
def H1:FS (Bool):=⟨15,Tryz.f15,[.val [] []],[none],[.val I5 []],fun r=>.b r,fun _=>[none],Tryz.func15⟩
def c6k(w:j9):Unit->KS:=fun _=>⟨H1.k 4 [false,false],(bs 1 (.ptr 1 0 0::(bs 116 []))),[some [],some [.var 33 (H5 w)]]⟩
def b8D(w:j9):Unit->KS:=fun _=>⟨H1.k 6 [false,false,false],(bs 1 (.ptr 1 0 0::(bs 116 []))),[some [],some [.var 33 (H5 w)]]⟩
def c34(w:j9):Unit->KS:=fun _=>⟨H1.k 8 [false,false,false,false],(bs 1 (.ptr 1 0 0::(bs 116 []))),[some [],some [.var 33 (H5 w)]]⟩
def c2F:Unit->KS:=fun _=>⟨H1.k 10 [false,false,false,false,false],(bs 118 []),[some []]⟩
def b8j:Option Bool :=
 some true
theorem d22(r):NF H1 r c2F (fun s=>b8j):=fun _ h=>PK<|rg<|fE h
def d1R(w:j9):Int->KS:=fun v83=>⟨H1.k 9 [false,false,false,false],(bs 81 (j4 5 A3 w.Told::(vi (w.Told.length:Int)::(vi v83::(bs 34 []))))),[some []]⟩
def b3p(w:j9)(v83:Int):Option (j6 Bool Int Unit) :=
 (bif decide (v83<(w.Told.length:Int)) then ((idx w.Told v83).bind fun told=>((A7 told.Node 0 2).bind fun in_=>(bif (!in_) then some (j6.ret false) else ((a4h told.a0).bind fun a3v=>(bif (!a3v) then some (j6.ret false) else (bif (told.a0.b6 != told.Node) then some (j6.ret false) else ((A7 told.Code 0 4).bind fun G8=>(bif (!G8) then some (j6.ret false) else ((A7 told.c8 (-1000000) 1000000).bind fun Q7=>(bif (!Q7) then some (j6.ret false) else some (j6.nxt (l9 (v83+1))))))))))))) else some (j6.brk ()))
theorem d7e(w):LQ H1 c2F (d1R w) (fun s=>b3p w s):=fun lc v83 h=>PK<|rg<|i9 0 h (fun h=>rg<|v5 A3 0 h fun told c5T h=>rg<|j7 A6 B9 2 h fun in_ h=>i9 4 h (fun h=>rg<|fL lc h) (fun h=>j7 a55 a7Y 7 h fun a3v h=>i9 10 h (fun h=>rg<|fL lc h) (fun h=>i9 18 h (fun h=>rg<|fL lc h) (fun h=>j7 A6 B9 21 h fun G8 h=>i9 24 h (fun h=>rg<|fL lc h) (fun h=>j7 A6 B9 27 h fun Q7 h=>i9 29 h (fun h=>rg<|fL lc h) (fun h=>rg<|(lc.nx h fun hI=>sk [] [81,82,83] [] hI))))))) (fun h=>(lc.bk h fun hI=>sk [] [] [] hI))
def b1t(w:j9):Option Bool :=
 ((p8 (fun s:Int=>b3p w s) 0).bind fun x=>x.go (fun r=>some r) fun s=>b8j)
theorem d7C(w)(r):NF H1 r (c34 w) (fun s=>b1t w):=fun _ h=>PK<|rg<|lp (d7e w) h (fun _ h=>H1.rt h) (d22 r) fun hI=>sk [] [81,82,83] [] hI
def d3p(w:j9):Int->KS:=fun v65=>⟨H1.k 7 [false,false,false],(bs 1 (.ptr 1 0 0::(bs 61 (j4 3 D6 w.f0::(vi (w.f0.length:Int)::(vi v65::(bs 52 []))))))),[some [],some [.var 33 (H5 w)]]⟩
def b0E(w:j9)(v65:Int):Option (j6 Bool Int Unit) :=
 (bif decide (v65<(w.f0.length:Int)) then ((idx w.f0 v65).bind fun asked=>((a4h asked.a0).bind fun a8H=>(bif (!a8H) then some (j6.ret false) else ((a3A asked.i5).bind fun C3=>(bif (!C3) then some (j6.ret false) else some (j6.nxt (l9 (v65+1)))))))) else some (j6.brk ()))
theorem c94(w):LQ H1 (c34 w) (d3p w) (fun s=>b0E w s):=fun lc v65 h=>PK<|rg<|i9 0 h (fun h=>rg<|v5 D6 0 h fun asked d3K h=>rg<|j7 a55 a7Y 2 h fun a8H h=>i9 4 h (fun h=>rg<|fL lc h) (fun h=>j7 a1s a9x 7 h fun C3 h=>i9 9 h (fun h=>rg<|fL lc h) (fun h=>rg<|(lc.nx h fun hI=>sk [] [1,63,64,65] [(1,0)] hI)))) (fun h=>(lc.bk h fun hI=>sk [] [1] [(1,0)] hI))
def b0w(w:j9):Option Bool :=
 ((p8 (fun s:Int=>b0E w s) 0).bind fun x=>x.go (fun r=>some r) fun s=>b1t w)
theorem d4J(w)(r):NF H1 r (b8D w) (fun s=>b0w w):=fun _ h=>PK<|rg<|lp (c94 w) h (fun _ h=>H1.rt h) (d7C w r) fun hI=>sk [] [1,63,64,65] [(1,0)] hI
def d2h(w:j9):Int->KS:=fun v54=>⟨H1.k 5 [false,false],(bs 1 (.ptr 1 0 0::(bs 50 (j4 13 u5 w.i0::(vi (w.i0.length:Int)::(vi v54::(bs 63 []))))))),[some [],some [.var 33 (H5 w)]]⟩
def b1w(w:j9)(v54:Int):Option (j6 Bool Int Unit) :=
 (bif decide (v54<(w.i0.length:Int)) then ((idx w.i0 v54).bind fun msg=>((a7p msg).bind fun V7=>(bif (!V7) then some (j6.ret false) else some (j6.nxt (l9 (v54+1)))))) else some (j6.brk ()))
theorem d6x(w):LQ H1 (b8D w) (d2h w) (fun s=>b1w w s):=fun lc v54 h=>PK<|rg<|i9 0 h (fun h=>rg<|v5 u5 0 h fun msg hmsg h=>rg<|j7 b6R c5a 1 h fun V7 h=>i9 2 h (fun h=>rg<|fL lc h) (fun h=>rg<|(lc.nx h fun hI=>sk [] [1,52,53,54] [(1,0)] hI))) (fun h=>(lc.bk h fun hI=>sk [] [1] [(1,0)] hI))
def b1s(w:j9):Option Bool :=
 ((p8 (fun s:Int=>b1w w s) 0).bind fun x=>x.go (fun r=>some r) fun s=>b0w w)
theorem d7X(w)(r):NF H1 r (c6k w) (fun s=>b1s w):=fun _ h=>PK<|rg<|lp (d6x w) h (fun _ h=>H1.rt h) (d4J w r) fun hI=>sk [] [1,52,53,54] [(1,0)] hI
def c60(w:j9):Int->KS:=fun v36=>⟨H1.k 3 [false],(bs 1 (.ptr 1 0 0::(bs 32 (j4 27 r9 w.a8::(vi (w.a8.length:Int)::(vi v36::(bs 81 []))))))),[some [],some [.var 33 (H5 w)]]⟩
def b1i(w:j9)(v36:Int):Option (j6 Bool Int Unit) :=
 (bif decide (v36<(w.a8.length:Int)) then ((idx w.a8 v36).bind fun node=>(bif (node.Id != v36) then some (j6.ret false) else ((a1Q node).bind fun G0=>(bif (!G0) then some (j6.ret false) else some (j6.nxt (l9 (v36+1))))))) else some (j6.brk ()))
theorem c8y(w):LQ H1 (c6k w) (c60 w) (fun s=>b1i w s):=fun lc v36 h=>PK<|rg<|i9 0 h (fun h=>rg<|v5 r9 1 h fun node hnode h=>rg<|i9 4 h (fun h=>rg<|fL lc h) (fun h=>j7 V5 a5z 6 h fun G0 h=>i9 8 h (fun h=>rg<|fL lc h) (fun h=>rg<|(lc.nx h fun hI=>sk [] [1,34,35,36] [(1,0)] hI)))) (fun h=>(lc.bk h fun hI=>sk [] [1] [(1,0)] hI))
def a05(w:j9):Option Bool :=
 (bif ((w.a8.length:Int) != 3) then some false else (bif decide ((w.i0.length:Int)>40) then some false else (bif decide ((w.f0.length:Int)>60) then some false else (bif decide ((w.Told.length:Int)>60) then some false else ((p8 (fun s:Int=>b1i w s) 0).bind fun x=>x.go (fun r=>some r) fun s=>b1s w)))))
theorem a3X{w}:OK H1 [.agg (O8 w)] (a05 w) :=
 q8 _ fun r h=>o8<|i9 4 h (fun h=>rg<|fE h) (fun h=>i9 10 h (fun h=>rg<|fE h) (fun h=>i9 16 h (fun h=>rg<|fE h) (fun h=>i9 21 h (fun h=>rg<|fE h) (fun h=>rg<|lp (c8y w) h (fun _ h=>H1.rt h) (d7X w r) fun hI=>sk [] [1,34,35,36] [(1,0)] hI))))
def a9k:FS (m6):=⟨95,Tryz.f95,[.ptr E4 om3],[none],[.val L3 []],fun r=>.optr 147 (a9P r),fun _=>[none],Tryz.func95⟩
def a5A(n:j5):Option m6 :=
 ((a4N n).bind fun Q9=>some (m6.mk Q9 [] []))
theorem b3l{n}:OK a9k [.agg (r9 n)] (a5A n) :=
 q8 _ fun r h=>o8<|j7 a9j b1d 1 h fun Q9 h=>K1 Q9<|fE h
def a14:FS (j5×(List l8)×(List s9)×m6):=⟨96,Tryz.f96,[.val L3 [],.val [some 13] [],.val [some 5] []],[some (0,.ptr E4 [])],[.ptr E4 []],fun r=>.tup [.agg (r9 r.1),j4 13 u5 r.2.1,j4 5 A3 r.2.2.1],fun r=>[some (.optr 147 (b9i r.2.2.2))],Tryz.func96⟩
def a0l(a:m6):Option (j5×(List l8)×(List s9)×m6) :=
 ((a4N a.n).bind fun Q9=>((a7E a.out).bind fun msgsCopy=>((b2G a.told).bind fun told=>some (Q9,msgsCopy,told,a))))
theorem a2U{a}:OK a14 [.optr 147 (b9i a)] (a0l a) :=
 q8 _ fun r h=>o8<|j7 a9j b1d 4 h fun Q9 h=>j7 a3H b74 9 h fun msgsCopy h=>j7 b52 c1y 14 h fun told h=>K1 Q9<|C1 msgsCopy told<|fE h
def b5p:FS (List m5):=⟨54,Tryz.f54,[.val [some 2] [some 111]],[],[],fun r=>A4 111 2 u6 r,fun _=>[],Tryz.func54⟩
def a9a:Option (List m5) :=
 (s5 (0<=(4:Int)/\(4:Int)*16<=140737488355328) (some (d9u (4:Int).toNat (m5.mk 0 0))))
theorem c0L:OK b5p [] a9a :=
 q8 _ fun r h=>o8<|t8 h fun e1 h=>Q6 0 2 111 2 16 u6 (m5.mk 0 0) a9h (.none) e1 (by decide) (by rfl)<|z6 (d9u (4:Int).toNat (m5.mk 0 0))<|fE h
def c3p:FS (t7):=⟨88,Tryz.f88,[.val [none,some 2,some 4] [none,some 111,some 169]],[],[],fun r=>.agg (a7O r),fun _=>[],Tryz.func88⟩
def b15:Option t7 :=
 ((a9a).bind fun a1R=>some (t7.mk 0 a1R []))
theorem c9g:OK c3p [] b15 :=
 q8 _ fun r h=>o8<|j7 b5p c0L 0 h fun a1R h=>z6 a1R<|fE h
def a1e:FS (Bool):=⟨83,Tryz.f83,[.val [] []],[none],[.val [some 2] []],fun r=>.b r,fun _=>[none],Tryz.func83⟩
def b8J(list:List m5):Unit->KS:=fun _=>⟨a1e.k 3 [false],(j4 2 u6 list::(bs 24 [])),[some []]⟩
def b5M(list:List m5):Option Bool :=
 some ((list.length:Int)==4)
theorem d7U(list)(r):NF a1e r (b8J list) (fun s=>b5M list):=fun _ h=>PK<|rg<|fE h
def c7P(list:List m5):Int->KS:=fun v7=>⟨a1e.k 2 [],(j4 2 u6 list::(bs 4 (j4 2 u6 list::(vi (list.length:Int)::(vi v7::(bs 17 [])))))),[some []]⟩
def b0u(list:List m5)(v7:Int):Option (j6 Bool Int Unit) :=
 (bif decide (v7<(list.length:Int)) then ((idx list v7).bind fun box=>((A7 box.i7 0 1000000).bind fun in_=>(bif (!in_) then some (j6.ret false) else ((A7 box.c8 (-1000000) 1000000).bind fun G8=>(bif (!G8) then some (j6.ret false) else some (j6.nxt (l9 (v7+1)))))))) else some (j6.brk ()))
theorem d1g(list):LQ a1e (b8J list) (c7P list) (fun s=>b0u list s):=fun lc v7 h=>PK<|rg<|i9 0 h (fun h=>rg<|v5 u6 0 h fun box a7i h=>rg<|j7 A6 B9 2 h fun in_ h=>i9 4 h (fun h=>rg<|fL lc h) (fun h=>j7 A6 B9 7 h fun G8 h=>i9 9 h (fun h=>rg<|fL lc h) (fun h=>rg<|(lc.nx h fun hI=>sk [] [0,5,6,7] [] hI)))) (fun h=>(lc.bk h fun hI=>sk [] [0] [] hI))
def a3u(list:List m5):Option Bool :=
 ((p8 (fun s:Int=>b0u list s) 0).bind fun x=>x.go (fun r=>some r) fun s=>b5M list)
theorem a8A{list}:OK a1e [j4 2 u6 list] (a3u list) :=
 q8 _ fun r h=>o8<|lp (d1g list) h (fun _ h=>a1e.rt h) (d7U list r) fun hI=>sk [] [0,5,6,7] [] hI
def a2Q:FS (Bool):=⟨119,Tryz.f119,[.val [] []],[none],[.val [none,some 2,some 4] []],fun r=>.b r,fun _=>[none],Tryz.func119⟩
def b7a(s_:t7):Unit->KS:=fun _=>⟨a2Q.k 3 [false],(bs 1 (.ptr 1 0 0::(bs 64 []))),[some [],some [.var 100 [vi s_.At,j4 2 u6 s_.d8,j4 4 D4 s_.i4]]]⟩
def b58(s_:t7):Option Bool :=
 ((A7 s_.At 0 40).bind fun in_=>(bif in_ then ((a3u s_.d8).bind fun X9=>some X9) else some false))
theorem d9f(s_)(r):NF a2Q r (b7a s_) (fun s=>b58 s_):=fun _ h=>PK<|rg<|j7 A6 B9 2 h fun in_ h=>i9 3 h (fun h=>j7 a1e a8A 6 h fun X9 h=>fE h) (fun h=>fE h)
def b9s(s_:t7):Int->KS:=fun v8=>⟨a2Q.k 2 [],(bs 1 (.ptr 1 0 0::(bs 4 (j4 4 D4 s_.i4::(vi (s_.i4.length:Int)::(vi v8::(bs 57 []))))))),[some [],some [.var 100 [vi s_.At,j4 2 u6 s_.d8,j4 4 D4 s_.i4]]]⟩
def d46(s_:t7)(v8:Int):Unit->KS:=fun _=>⟨a2Q.k 5 [true,false],(bs 1 (.ptr 1 0 0::(bs 4 (j4 4 D4 s_.i4::(vi (s_.i4.length:Int)::(vi v8::(bs 57 []))))))),[some [],some [.var 100 [vi s_.At,j4 2 u6 s_.d8,j4 4 D4 s_.i4]]]⟩
def b7y(v8:Int):Option (j6 Bool Int Unit) :=
 some (j6.nxt (l9 (v8+1)))
theorem d2U(s_ v8)(lc:G1 a2Q (b7a s_) (b9s s_)):NL lc (d46 s_ v8) (fun s=>b7y v8):=fun _ h=>PK<|rg<|(lc.nx h fun hI=>sk [] [1,6,7,8] [(1,0)] hI)
def a8O(s_:t7)(v8:Int):Option (j6 Bool Int Unit) :=
 (bif decide (v8<(s_.i4.length:Int)) then ((idx s_.i4 v8).bind fun done=>(((bif decide (v8>0) then ((idx s_.i4 (l9 (v8-1))).bind fun a6m=>(bif decide (a6m.a0.b6>=done.a0.b6) then some (l7.ret (j6.ret false)) else ((a4h done.a0).bind fun a3v=>(bif (!a3v) then some (l7.ret (j6.ret false)) else ((A7 done.Code 0 2).bind fun G8=>(bif (!G8) then some (l7.ret (j6.ret false)) else ((A7 done.c8 (-1000000) 1000000).bind fun Q7=>(bif (!Q7) then some (l7.ret (j6.ret false)) else (bif (done.Code != 0) then (bif (done.c8 != 0) then some (l7.ret (j6.ret false)) else some (l7.brk ())) else some (l7.brk ())))))))))) else ((a4h done.a0).bind fun a8H=>(bif (!a8H) then some (l7.ret (j6.ret false)) else ((A7 done.Code 0 2).bind fun U8=>(bif (!U8) then some (l7.ret (j6.ret false)) else ((A7 done.c8 (-1000000) 1000000).bind fun a20=>(bif (!a20) then some (l7.ret (j6.ret false)) else (bif (done.Code != 0) then (bif (done.c8 != 0) then some (l7.ret (j6.ret false)) else some (l7.brk ())) else some (l7.brk ()))))))))):Option (l7 (j6 Bool Int Unit) Unit)).bind fun x=>x.go some fun j=>b7y v8)) else some (j6.brk ()))
theorem d5n(s_):LQ a2Q (b7a s_) (b9s s_) (fun s=>a8O s_ s):=fun lc v8 h=>PK<|rg<|i9 0 h (fun h=>rg<|v5 D4 1 h fun done d9j h=>C2 h (d2U s_ v8 lc) fun x2 h hc2=>rg<|i9 2 h (fun h=>v5 D4 7 h fun a6m d9q h=>i9 16 h (fun h=>rg<|(E6 h hc2 fun h=>fL lc h)) (fun h=>j7 a55 a7Y 19 h fun a3v h=>i9 22 h (fun h=>rg<|(E6 h hc2 fun h=>fL lc h)) (fun h=>j7 A6 B9 25 h fun G8 h=>i9 28 h (fun h=>rg<|(E6 h hc2 fun h=>fL lc h)) (fun h=>j7 A6 B9 31 h fun Q7 h=>i9 34 h (fun h=>rg<|(E6 h hc2 fun h=>fL lc h)) (fun h=>i9 38 h (fun h=>i9 43 h (fun h=>rg<|(E6 h hc2 fun h=>fL lc h)) (fun h=>(p7 h hc2 fun hI=>sk [] [1,6,7,8] [(1,0)] hI))) (fun h=>(p7 h hc2 fun hI=>sk [] [1,6,7,8] [(1,0)] hI))))))) (fun h=>j7 a55 a7Y 19 h fun a8H h=>i9 22 h (fun h=>rg<|(E6 h hc2 fun h=>fL lc h)) (fun h=>j7 A6 B9 25 h fun U8 h=>i9 28 h (fun h=>rg<|(E6 h hc2 fun h=>fL lc h)) (fun h=>j7 A6 B9 31 h fun a20 h=>i9 34 h (fun h=>rg<|(E6 h hc2 fun h=>fL lc h)) (fun h=>i9 38 h (fun h=>i9 43 h (fun h=>rg<|(E6 h hc2 fun h=>fL lc h)) (fun h=>(p7 h hc2 fun hI=>sk [] [1,6,7,8] [(1,0)] hI))) (fun h=>(p7 h hc2 fun hI=>sk [] [1,6,7,8] [(1,0)] hI))))))) (fun h=>(lc.bk h fun hI=>sk [] [1] [(1,0)] hI))
def b0R(s_:t7):Option Bool :=
 ((p8 (fun s:Int=>a8O s_ s) 0).bind fun x=>x.go (fun r=>some r) fun s=>b58 s_)
theorem d0O{s_}:OK a2Q [.agg (a8D s_)] (b0R s_) :=
 q8 _ fun r h=>o8<|lp (d5n s_) h (fun _ h=>a2Q.rt h) (d9f s_ r) fun hI=>sk [] [1,6,7,8] [(1,0)] hI
def b2U:FS (List m5):=⟨84,Tryz.f84,[.val [some 2] [some 111]],[none],[.val [some 2] []],fun r=>A4 111 2 u6 r,fun _=>[none],Tryz.func84⟩
def a5t(list:List m5):Option (List m5) :=
 (bif ((list.length:Int)==0) then some [] else (s5 (0<=(list.length:Int)/\(list.length:Int)*16<=140737488355328) ((s5 (list.length=(d9u (list.length:Int).toNat (m5.mk 0 0)).length) (some list)))))
theorem b55{list}:OK b2U [j4 2 u6 list] (a5t list) :=
 q8 _ fun r h=>o8<|i9 2 h (fun h=>rg<|fE h) (fun h=>rg<|t8 h fun e1 h=>Q6 2 7 111 2 16 u6 (m5.mk 0 0) a9h (.none) e1 (by decide) (by rfl)<|rg<|t8 h fun e2 h=>om (n9.row 111 2 (d9u (list.length:Int).toNat (m5.mk 0 0)).length (list.map u6)=m4 111 2 u6 list) (Y7 e2)<|z6 (d9u (list.length:Int).toNat (m5.mk 0 0))<|ob e2<|tl (2,{e:=some (m4 111 2 u6 list)})<|rg<|om ((d9u (list.length:Int).toNat (m5.mk 0 0)).length=list.length) (by simp)<|fE h)
def a9l:FS (List s8):=⟨120,Tryz.f120,[.val [some 4] [some 169]],[none],[.val [some 4] []],fun r=>A4 169 4 D4 r,fun _=>[none],Tryz.func120⟩
def a3r(list:List s8):Option (List s8) :=
 (bif ((list.length:Int)==0) then some [] else (s5 (0<=(list.length:Int)/\(list.length:Int)*32<=140737488355328) ((s5 (list.length=(d9u (list.length:Int).toNat (s8.mk (m8.mk 0 0) 0 0)).length) (some list)))))
theorem b3O{list}:OK a9l [j4 4 D4 list] (a3r list) :=
 q8 _ fun r h=>o8<|i9 2 h (fun h=>rg<|fE h) (fun h=>rg<|t8 h fun e1 h=>Q6 2 7 169 4 32 D4 (s8.mk (m8.mk 0 0) 0 0) b38 (.none) e1 (by decide) (by rfl)<|rg<|t8 h fun e2 h=>om (n9.row 169 4 (d9u (list.length:Int).toNat (s8.mk (m8.mk 0 0) 0 0)).length (list.map D4)=m4 169 4 D4 list) (Y7 e2)<|z6 (d9u (list.length:Int).toNat (s8.mk (m8.mk 0 0) 0 0))<|ob e2<|tl (2,{e:=some (m4 169 4 D4 list)})<|rg<|om ((d9u (list.length:Int).toNat (s8.mk (m8.mk 0 0) 0 0)).length=list.length) (by simp)<|fE h)
def a4r:FS (Bool):=⟨121,Tryz.f121,[.val [] []],[none,none],[.val [some 2] [],.val a1U []],fun r=>.b r,fun _=>[none,none],Tryz.func121⟩
def c3M:Unit->KS:=fun _=>⟨a4r.k 4 [false,false],(bs 32 []),[some []]⟩
def b8X:Option Bool :=
 some true
theorem d1C(r):NF a4r r c3M (fun s=>b8X):=fun _ h=>PK<|rg<|fE h
def d5z(list:List m5)(r_:o7):Int->KS:=fun v18=>⟨a4r.k 3 [false],(j4 2 u6 list::(bs 15 (j4 2 u7 r_.b9::(vi (r_.b9.length:Int)::(vi v18::(bs 13 [])))))),[some []]⟩
def b1r(list:List m5)(r_:o7)(v18:Int):Option (j6 Bool Int Unit) :=
 (bif decide (v18<(r_.b9.length:Int)) then ((idx r_.b9 v18).bind fun read=>((idx list read.g8).bind fun box=>(bif (box.i7 != read.i7) then some (j6.ret false) else some (j6.nxt (l9 (v18+1)))))) else some (j6.brk ()))
theorem c7l(list r_):LQ a4r c3M (d5z list r_) (fun s=>b1r list r_ s):=fun lc v18 h=>PK<|rg<|i9 0 h (fun h=>rg<|v5 u7 0 h fun read b8m h=>rg<|v5 u6 3 h fun box a7i h=>i9 8 h (fun h=>rg<|fL lc h) (fun h=>rg<|(lc.nx h fun hI=>sk [] [0,16,17,18] [] hI))) (fun h=>(lc.bk h fun hI=>sk [] [] [] hI))
def b1h(list:List m5)(r_:o7):Option Bool :=
 ((a3u list).bind fun X9=>(bif (!X9) then some false else ((a6R r_).bind fun a29=>(bif (!a29) then some false else ((p8 (fun s:Int=>b1r list r_ s) 0).bind fun x=>x.go (fun r=>some r) fun s=>b8X)))))
theorem c6I{list r_}:OK a4r [j4 2 u6 list,.agg (a13 r_)] (b1h list r_) :=
 q8 _ fun r h=>o8<|j7 a1e a8A 1 h fun X9 h=>i9 3 h (fun h=>rg<|fE h) (fun h=>j7 U3 b7w 5 h fun a29 h=>i9 7 h (fun h=>rg<|fE h) (fun h=>rg<|lp (c7l list r_) h (fun _ h=>a4r.rt h) (d1C r) fun hI=>sk [] [0,16,17,18] [] hI))
def a37:FS (List m5):=⟨118,Tryz.f118,[.val [some 2] [some 111]],[none,none],[.val [some 2] [],.val a1U []],fun r=>A4 111 2 u6 r,fun _=>[none,none],Tryz.func118⟩
def c0k:(List m5)->KS:=fun out1=>⟨a37.k 5 [false,false],(bs 5 (.own 1 0 2 0 out1.length::(bs 36 []))),[some [],some [m4 111 2 u6 out1]]⟩
def c5n(out1:List m5):Option (List m5) :=
 some out1
theorem d2k(r):NF a37 r c0k (fun s=>c5n s):=fun out1 h=>PK<|rg<|z6 out1<|fE h
def c8e(r_:o7):((List m5)×Int)->KS:=fun (out,v21)=>⟨a37.k 4 [false],(bs 5 (.own 1 0 2 0 out.length::(bs 13 (j4 2 v6 r_.c6::(vi (r_.c6.length:Int)::(vi v21::(bs 20 []))))))),[some [],some [m4 111 2 u6 out]]⟩
def b2M(r_:o7)(out:List m5)(v21:Int):Option (j6 (List m5) ((List m5)×Int) (List m5)) :=
 (bif decide (v21<(r_.c6.length:Int)) then ((idx r_.c6 v21).bind fun put=>((idx out put.g8).bind fun M1=>some (j6.nxt (out.set put.g8.toNat (m5.mk (if (l9 (M1.i7+1))<1000000 then (l9 (M1.i7+1)) else 1000000) put.c8),l9 (v21+1))))) else some (j6.brk out))
theorem d02(r_):LQ a37 c0k (c8e r_) (fun s=>b2M r_ s.1 s.2):=fun lc (out,v21) h=>PK<|rg<|i9 0 h (fun h=>rg<|v5 v6 0 h fun put hput h=>rg<|B3 h fun M1 a2C h=>E3 a2C<|T4 u6 8 a2C<|E3 a2C<|R1 111 2 u6 15 [] (m5.mk (if (l9 (M1.i7+1))<1000000 then (l9 (M1.i7+1)) else 1000000) put.c8) a2C<|rg<|(lc.nx h fun hI=>om ((.own 1 0 2 0 out.length:V)=.own 1 0 2 0 (out.set put.g8.toNat (m5.mk (if (l9 (M1.i7+1))<1000000 then (l9 (M1.i7+1)) else 1000000) put.c8)).length) (by simp)<|sk [.is (.tmp 5) (.own 1 0 2 0 (out.set put.g8.toNat (m5.mk (if (l9 (M1.i7+1))<1000000 then (l9 (M1.i7+1)) else 1000000) put.c8)).length)] [5,19,20,21] [(1,0)] hI)) (fun h=>(lc.bk h fun hI=>sk [] [5] [(1,0)] hI))
def a72(list:List m5)(r_:o7):Option (List m5) :=
 ((a3u list).bind fun X9=>(bif (!X9) then some [] else ((a6R r_).bind fun a29=>(bif (!a29) then some [] else ((a5t list).bind fun box=>((p8 (fun s:(List m5)×Int=>b2M r_ s.1 s.2) (box,0)).bind fun x=>x.go (fun r=>some r) fun s=>c5n s))))))
theorem c6f{list r_}:OK a37 [j4 2 u6 list,.agg (a13 r_)] (a72 list r_) :=
 q8 _ fun r h=>o8<|j7 a1e a8A 1 h fun X9 h=>i9 3 h (fun h=>rg<|fE h) (fun h=>j7 U3 b7w 5 h fun a29 h=>i9 7 h (fun h=>rg<|fE h) (fun h=>rg<|j7 b2U b55 1 h fun box h=>rg<|lp (d02 r_) h (fun _ h=>a37.rt h) (d2k r) fun hI=>sk [] [5,19,20,21] [(12,0)] hI))
def M0:FS (t7×Int):=⟨89,Tryz.f89,[.val [none,some 2,some 4] [none,some 111,some 169],.val [] []],[none,none],[.val [none,some 2,some 4] [],.val V8 []],fun r=>.tup [.agg (a7O r.1),vi r.2],fun _=>[none,none],Tryz.func89⟩
def b4G(s_:t7)(e_:j8)(box:List m5):Unit->KS:=fun _=>⟨M0.k 6 [false,false,false],(bs 2 (.ptr 1 0 0::(.ptr 2 0 0::(.ptr 3 0 0::(bs 1 (.ptr 4 0 0::(bs 145 []))))))),[some [],some [.var 100 [vi s_.At,j4 2 u6 s_.d8,j4 4 D4 s_.i4]],some [.var 46 (a46 e_)],some [.var 100 [vi 0,.nil,.nil]],some [.var 100 [vi (l9 (s_.At+1)),.own 5 0 2 0 box.length,.nil]],some [m4 111 2 u6 box]]⟩
def d04(s_:t7):(s8×List m5)->KS:=fun (own,d8)=>⟨M0.k 9 [false,false,false,true],(bs 2 (.ptr 1 0 0::(bs 1 (.ptr 2 0 0::(bs 1 (.ptr 3 0 0::(bs 2 (.ptr 5 0 0::(bs 142 []))))))))),[some [],some [.var 100 [vi s_.At,j4 2 u6 s_.d8,j4 4 D4 s_.i4]],some [.var 100 [vi 0,.nil,.nil]],some [.var 100 [vi (l9 (s_.At+1)),.own 4 0 2 0 d8.length,.nil]],some [m4 111 2 u6 d8],some [.var 169 [vi own.a0.b6,vi own.a0.Seq,vi own.Code,vi own.c8]]]⟩
def b1y(s_:t7)(own:s8)(d8:List m5):((List s8)×Bool)->KS:=fun (dones1,put1)=>⟨M0.k 13 [false,false,false,true,false],(bs 4 (.ptr 1 0 0::(bs 1 (.ptr 2 0 0::(bs 2 (.ptr 4 0 0::(.own 5 0 4 0 dones1.length::(.b put1::(bs 140 []))))))))),[some [],some [.var 100 [vi 0,.nil,.nil]],some [.var 100 [vi (l9 (s_.At+1)),.own 3 0 2 0 d8.length,.nil]],some [m4 111 2 u6 d8],some [.var 169 [vi own.a0.b6,vi own.a0.Seq,vi own.Code,vi own.c8]],some [m4 169 4 D4 dones1]]⟩
def d23(s_:t7)(own:s8)(d8:List m5):(List s8)->KS:=fun a6H=>⟨M0.k 15 [false,false,false,true,false,true],(bs 4 (.ptr 1 0 0::(bs 1 (.ptr 2 0 0::(bs 2 (.ptr 4 0 0::(.own 5 0 4 0 a6H.length::(bs 141 [])))))))),[some [],some [.var 100 [vi 0,.nil,.nil]],some [.var 100 [vi (l9 (s_.At+1)),.own 3 0 2 0 d8.length,.nil]],some [m4 111 2 u6 d8],some [.var 169 [vi own.a0.b6,vi own.a0.Seq,vi own.Code,vi own.c8]],some [m4 169 4 D4 a6H]]⟩
def b67(s_:t7)(own:s8)(d8:List m5)(a6H:List s8):Option (t7×Int) :=
 ((a3r a6H).bind fun a6m=>some ((t7.mk (l9 (s_.At+1)) d8 a6m),own.Code))
theorem d4Z(s_ own d8)(r):NF M0 r (d23 s_ own d8) (fun s=>b67 s_ own d8 s):=fun a6H h=>PK<|rg<|cbS a9l b3O 1 (fun _=>(by simp [a9l,N3,U6,P7,V.simple,vi,A4,D4,eI,I9])) (fun _=>(Z8 1)) h fun a6m h=>z6 a6H<|rg<|C1 d8 a6m<|fE h
def b5f(s_:t7)(own:s8)(d8:List m5)(dones1:List s8)(put1:Bool):Option (t7×Int) :=
 (((bif (!put1) then (s5 ((dones1.length+1)*32<=140737488355328) (some (l7.brk (dones1++[own])))) else some (l7.brk dones1)):Option (l7 (t7×Int) (List s8))).bind fun x=>x.go some fun j=>b67 s_ own d8 j)
theorem d2P(s_ own d8)(r):NF M0 r (b1y s_ own d8) (fun s=>b5f s_ own d8 s.1 s.2):=fun (dones1,put1) h=>PK<|C2 h (d4Z s_ own d8 r) fun x1 h hc1=>rg<|i9 1 h (fun h=>rg<|tk 2 []<|t8 h fun e1 h=>K2 3 11 169 4 32 D4 dones1 own e1<|K0 own<|(p7 h hc1 fun hI=>sk [] [4,6,9,10] [(1,0),(2,0),(3,0),(4,0),(11,0)] hI)) (fun h=>(p7 h hc1 fun hI=>sk [] [4,6,9,10] [(1,0),(2,0),(3,0),(4,0),(5,0)] hI))
def b6I(s_:t7)(own:s8)(d8:List m5):((List s8)×Int×Bool)->KS:=fun (dones,v109,put)=>⟨M0.k 12 [false,false,false,true],(bs 4 (.ptr 1 0 0::(bs 1 (.ptr 2 0 0::(bs 2 (.ptr 4 0 0::(.own 5 0 4 0 dones.length::(.b put::(bs 95 (j4 4 D4 s_.i4::(vi (s_.i4.length:Int)::(vi v109::(bs 42 []))))))))))))),[some [],some [.var 100 [vi 0,.nil,.nil]],some [.var 100 [vi (l9 (s_.At+1)),.own 3 0 2 0 d8.length,.nil]],some [m4 111 2 u6 d8],some [.var 169 [vi own.a0.b6,vi own.a0.Seq,vi own.Code,vi own.c8]],some [m4 169 4 D4 dones]]⟩
def c7h(s_:t7)(own:s8)(d8:List m5)(v109:Int)(done2:s8):((List s8)×Bool)->KS:=fun (dones3,put2)=>⟨M0.k 17 [false,false,false,true,true,true],(bs 4 (.ptr 1 0 0::(bs 1 (.ptr 2 0 0::(bs 2 (.ptr 4 0 0::(.own 5 0 4 0 dones3.length::(.b put2::(bs 1 (.ptr 6 0 0::(bs 93 (j4 4 D4 s_.i4::(vi (s_.i4.length:Int)::(vi v109::(bs 42 []))))))))))))))),[some [],some [.var 100 [vi 0,.nil,.nil]],some [.var 100 [vi (l9 (s_.At+1)),.own 3 0 2 0 d8.length,.nil]],some [m4 111 2 u6 d8],some [.var 169 [vi own.a0.b6,vi own.a0.Seq,vi own.Code,vi own.c8]],some [m4 169 4 D4 dones3],some [.var 169 [vi done2.a0.b6,vi done2.a0.Seq,vi done2.Code,vi done2.c8]]]⟩
def c9R(s_:t7)(own:s8)(d8:List m5)(v109:Int)(put2:Bool):(List s8)->KS:=fun a7t=>⟨M0.k 19 [false,false,false,true,true,true,true],(bs 4 (.ptr 1 0 0::(bs 1 (.ptr 2 0 0::(bs 2 (.ptr 4 0 0::(.own 5 0 4 0 a7t.length::(.b put2::(bs 95 (j4 4 D4 s_.i4::(vi (s_.i4.length:Int)::(vi v109::(bs 42 []))))))))))))),[some [],some [.var 100 [vi 0,.nil,.nil]],some [.var 100 [vi (l9 (s_.At+1)),.own 3 0 2 0 d8.length,.nil]],some [m4 111 2 u6 d8],some [.var 169 [vi own.a0.b6,vi own.a0.Seq,vi own.Code,vi own.c8]],some [m4 169 4 D4 a7t]]⟩
def b6U(v109:Int)(put2:Bool)(a7t:List s8):Option (j6 (t7×Int) ((List s8)×Int×Bool) ((List s8)×Bool)) :=
 some (j6.nxt (a7t,l9 (v109+1),put2))
theorem d5G(s_ own d8 v109 put2)(lc:G1 M0 (b1y s_ own d8) (b6I s_ own d8)):NL lc (c9R s_ own d8 v109 put2) (fun s=>b6U v109 put2 s):=fun a7t h=>PK<|rg<|(lc.nx h fun hI=>sk [] [4,6,9,10,11,107,108,109] [(1,0),(2,0),(3,0),(4,0),(5,0)] hI)
def b3E(own:s8)(v109:Int)(done2:s8)(dones3:List s8)(put2:Bool):Option (j6 (t7×Int) ((List s8)×Int×Bool) ((List s8)×Bool)) :=
 (((bif (done2.a0.b6 != own.a0.b6) then (s5 ((dones3.length+1)*32<=140737488355328) (some (l7.brk (dones3++[done2])))) else some (l7.brk dones3)):Option (l7 (j6 (t7×Int) ((List s8)×Int×Bool) ((List s8)×Bool)) (List s8))).bind fun x=>x.go some fun j=>b6U v109 put2 j)
theorem d5A(s_ own d8 v109 done2)(lc:G1 M0 (b1y s_ own d8) (b6I s_ own d8)):NL lc (c7h s_ own d8 v109 done2) (fun s=>b3E own v109 done2 s.1 s.2):=fun (dones3,put2) h=>PK<|C2 h (d5G s_ own d8 v109 put2 lc) fun x2 h hc2=>rg<|i9 6 h (fun h=>rg<|tk 2 []<|t8 h fun e2 h=>K2 3 17 169 4 32 D4 dones3 done2 e2<|K0 done2<|(p7 h hc2 fun hI=>sk [] [4,6,9,10,11,107,108,109] [(1,0),(2,0),(3,0),(4,0),(17,0)] hI)) (fun h=>(p7 h hc2 fun hI=>sk [] [4,6,9,10,11,107,108,109] [(1,0),(2,0),(3,0),(4,0),(5,0)] hI))
def a7F(s_:t7)(own:s8)(dones:List s8)(v109:Int)(put:Bool):Option (j6 (t7×Int) ((List s8)×Int×Bool) ((List s8)×Bool)) :=
 (bif decide (v109<(s_.i4.length:Int)) then ((idx s_.i4 v109).bind fun done2=>(((bif (!put) then (bif decide (done2.a0.b6>=own.a0.b6) then (s5 ((dones.length+1)*32<=140737488355328) (some (l7.brk (dones++[own],true)))) else some (l7.brk (dones,put))) else some (l7.brk (dones,put))):Option (l7 (j6 (t7×Int) ((List s8)×Int×Bool) ((List s8)×Bool)) ((List s8)×Bool))).bind fun x=>x.go some fun j=>b3E own v109 done2 j.1 j.2)) else some (j6.brk (dones,put)))
theorem d0L(s_ own d8):LQ M0 (b1y s_ own d8) (b6I s_ own d8) (fun s=>a7F s_ own s.1 s.2.1 s.2.2):=fun lc (dones,v109,put) h=>PK<|rg<|i9 0 h (fun h=>rg<|v5 D4 0 h fun done2 d9k h=>C2 h (d5A s_ own d8 v109 done2 lc) fun x2 h hc2=>rg<|i9 2 h (fun h=>i9 10 h (fun h=>rg<|tk 2 []<|t8 h fun e3 h=>K2 3 25 169 4 32 D4 dones own e3<|K0 own<|rg<|(p7 h hc2 fun hI=>sk [] [4,6,9,10,11,13,107,108,109] [(1,0),(2,0),(3,0),(4,0),(25,0),(9,0)] hI)) (fun h=>(p7 h hc2 fun hI=>sk [] [4,6,9,10,11,13,107,108,109] [(1,0),(2,0),(3,0),(4,0),(5,0),(9,0)] hI))) (fun h=>(p7 h hc2 fun hI=>sk [] [4,6,9,10,11,13,107,108,109] [(1,0),(2,0),(3,0),(4,0),(5,0),(9,0)] hI))) (fun h=>(lc.bk h fun hI=>sk [] [4,6,9,10,11] [(1,0),(2,0),(3,0),(4,0),(5,0)] hI))
def b20(s_:t7)(own:s8)(d8:List m5):Option (t7×Int) :=
 ((p8 (fun s:(List s8)×Int×Bool=>a7F s_ own s.1 s.2.1 s.2.2) ([],0,false)).bind fun x=>x.go (fun r=>some r) fun s=>b5f s_ own d8 s.1 s.2)
theorem c9l(s_)(r):NF M0 r (d04 s_) (fun s=>b20 s_ s.1 s.2):=fun (own,d8) h=>PK<|W9<|lp (d0L s_ own d8) h (fun _ h=>M0.rt h) (d2P s_ own d8 r) fun hI=>sk [.own (.tmp 10) 169 4] [4,6,9,10,11,107,108,109] [(2,0),(3,0),(4,0),(5,0),(12,0)] hI
def a9O(s_:t7)(e_:j8)(box:List m5):Option (t7×Int) :=
 ((((b1h s_.d8 e_.c7).bind fun c03=>(bif (!c03) then some (l7.brk ((s8.mk e_.a0 1 0),box)) else (bif (e_.c7.Code != 0) then some (l7.brk ((s8.mk e_.a0 2 0),box)) else ((a72 s_.d8 e_.c7).bind fun a62=>some (l7.brk ((s8.mk e_.a0 0 e_.c7.c8),a62)))))):Option (l7 (t7×Int) (s8×List m5))).bind fun x=>x.go some fun j=>b20 s_ j.1 j.2)
theorem d8k(s_ e_ box)(r):NF M0 r (b4G s_ e_ box) (fun s=>a9O s_ e_ box):=fun _ h=>PK<|rg<|C2 h (c9l s_ r) fun x1 h hc1=>rg<|j7 a4r c6I 4 h fun c03 h=>i9 6 h (fun h=>rg<|(p7 h hc1 fun hI=>sk [] [2,4,6,9] [(1,0),(3,0),(4,0),(5,0),(9,0)] hI)) (fun h=>rg<|i9 4 h (fun h=>rg<|(p7 h hc1 fun hI=>sk [] [2,4,6,9] [(1,0),(3,0),(4,0),(5,0),(9,0)] hI)) (fun h=>o8<|j7 a37 c6f 4 h fun a62 h=>(p7 h hc1 fun hI=>sk [] [2,4,6,9] [(1,0),(3,0),(4,0),(32,0),(9,0)] hI)))
def c0Z(s_:t7)(e_:j8)(box:List m5):Int->KS:=fun v45=>⟨M0.k 5 [false,false],(bs 2 (.ptr 1 0 0::(.ptr 2 0 0::(.ptr 3 0 0::(bs 1 (.ptr 4 0 0::(bs 36 (j4 4 D4 s_.i4::(vi (s_.i4.length:Int)::(vi v45::(bs 106 []))))))))))),[some [],some [.var 100 [vi s_.At,j4 2 u6 s_.d8,j4 4 D4 s_.i4]],some [.var 46 (a46 e_)],some [.var 100 [vi 0,.nil,.nil]],some [.var 100 [vi (l9 (s_.At+1)),.own 5 0 2 0 box.length,.nil]],some [m4 111 2 u6 box]]⟩
def d4O(s_:t7)(e_:j8)(box:List m5)(v45:Int):Unit->KS:=fun _=>⟨M0.k 8 [false,false,true,false],(bs 2 (.ptr 1 0 0::(.ptr 2 0 0::(.ptr 3 0 0::(bs 1 (.ptr 4 0 0::(bs 36 (j4 4 D4 s_.i4::(vi (s_.i4.length:Int)::(vi v45::(bs 106 []))))))))))),[some [],some [.var 100 [vi s_.At,j4 2 u6 s_.d8,j4 4 D4 s_.i4]],some [.var 46 (a46 e_)],some [.var 100 [vi 0,.nil,.nil]],some [.var 100 [vi (l9 (s_.At+1)),.own 5 0 2 0 box.length,.nil]],some [m4 111 2 u6 box]]⟩
def b4W(v45:Int):Option (j6 (t7×Int) Int Unit) :=
 some (j6.nxt (l9 (v45+1)))
theorem d70(s_ e_ box v45)(lc:G1 M0 (b4G s_ e_ box) (c0Z s_ e_ box)):NL lc (d4O s_ e_ box v45) (fun s=>b4W v45):=fun _ h=>PK<|rg<|(lc.nx h fun hI=>sk [] [2,3,4,6,43,44,45] [(1,0),(2,0),(3,0),(4,0),(5,0)] hI)
def b0o(s_:t7)(e_:j8)(box:List m5)(v45:Int):Option (j6 (t7×Int) Int Unit) :=
 (bif decide (v45<(s_.i4.length:Int)) then ((idx s_.i4 v45).bind fun b0D=>(((bif (b0D.a0.b6==e_.a0.b6) then (bif decide (b0D.a0.Seq>=e_.a0.Seq) then ((a3r s_.i4).bind fun a83=>(bif (b0D.a0.Seq==e_.a0.Seq) then some (l7.ret (j6.ret ((t7.mk (l9 (s_.At+1)) box a83),3))) else some (l7.ret (j6.ret ((t7.mk (l9 (s_.At+1)) box a83),4))))) else some (l7.brk ())) else some (l7.brk ())):Option (l7 (j6 (t7×Int) Int Unit) Unit)).bind fun x=>x.go some fun j=>b4W v45)) else some (j6.brk ()))
theorem c78(s_ e_ box):LQ M0 (b4G s_ e_ box) (c0Z s_ e_ box) (fun s=>b0o s_ e_ box s):=fun lc v45 h=>PK<|rg<|i9 0 h (fun h=>rg<|v5 D4 0 h fun b0D d9h h=>C2 h (d70 s_ e_ box v45 lc) fun x2 h hc2=>rg<|i9 7 h (fun h=>i9 15 h (fun h=>rg<|j7 a9l b3O 2 h fun a83 h=>rg<|i9 6 h (fun h=>rg<|(E6 h hc2 fun h=>C1 box a83<|fL lc h)) (fun h=>rg<|(E6 h hc2 fun h=>C1 box a83<|fL lc h))) (fun h=>(p7 h hc2 fun hI=>sk [] [2,3,4,6,43,44,45] [(1,0),(2,0),(3,0),(4,0),(5,0)] hI))) (fun h=>(p7 h hc2 fun hI=>sk [] [2,3,4,6,43,44,45] [(1,0),(2,0),(3,0),(4,0),(5,0)] hI))) (fun h=>(lc.bk h fun hI=>sk [] [2,3,4,6] [(1,0),(2,0),(3,0),(4,0),(5,0)] hI))
def b0G(s_:t7)(e_:j8):Option (t7×Int) :=
 ((b0R s_).bind fun c5R=>(bif (!c5R) then some ((t7.mk 0 [] []),(-1)) else ((a0a e_).bind fun P9=>(bif (!P9) then some ((t7.mk 0 [] []),(-1)) else (bif (s_.At==40) then some ((t7.mk 0 [] []),(-1)) else ((a5t s_.d8).bind fun box=>(bif e_.i6 then ((a3r s_.i4).bind fun done=>some ((t7.mk (l9 (s_.At+1)) box done),5)) else ((p8 (fun s:Int=>b0o s_ e_ box s) 0).bind fun x=>x.go (fun r=>some r) fun s=>a9O s_ e_ box))))))))
theorem d7t{s_ e_}:OK M0 [.agg (a8D s_),.agg (u0 e_)] (b0G s_ e_) :=
 q8 _ fun r h=>o8<|j7 a2Q d0O 1 h fun c5R h=>i9 3 h (fun h=>rg<|fE h) (fun h=>j7 a1n a15 5 h fun P9 h=>i9 8 h (fun h=>rg<|fE h) (fun h=>i9 12 h (fun h=>rg<|fE h) (fun h=>rg<|j7 b2U b55 5 h fun box h=>rg<|i9 1 h (fun h=>rg<|j7 a9l b3O 2 h fun done h=>rg<|C1 box done<|fE h) (fun h=>rg<|lp (c78 s_ e_ box) h (fun _ h=>M0.rt h) (d8k s_ e_ box r) fun hI=>sk [] [2,3,4,6,43,44,45] [(1,0),(2,0),(3,0),(25,0),(23,0)] hI))))
def a1r:FS (t7×List Int):=⟨58,Tryz.f58,[.val [none,some 2,some 4] [none,some 111,some 169],.val [some 1] [some 3]],[none],[.val [some 7] []],fun r=>.tup [.agg (a7O r.1),A4 3 1 eI r.2],fun _=>[none],Tryz.func58⟩
def c4R:((List m5)×(List s8)×(List Int)×Int)->KS:=fun (Boxes1,Dones1,codes1,sAt1)=>⟨a1r.k 5 [false],(bs 2 (.ptr 1 0 0::(bs 1 (.ptr 2 0 0::(.own 5 0 1 0 codes1.length::(bs 25 [])))))),[some [],some [.var 100 [vi 0,.nil,.nil]],some [.var 100 [vi sAt1,.own 3 0 2 0 Boxes1.length,.own 4 0 4 0 Dones1.length]],some [m4 111 2 u6 Boxes1],some [m4 169 4 D4 Dones1],some [m4 3 1 eI codes1]]⟩
def c1m(Boxes1:List m5)(Dones1:List s8)(codes1:List Int)(sAt1:Int):Option (t7×List Int) :=
 some ((t7.mk sAt1 Boxes1 Dones1),codes1)
theorem c97(r):NF a1r r c4R (fun s=>c1m s.1 s.2.1 s.2.2.1 s.2.2.2):=fun (Boxes1,Dones1,codes1,sAt1) h=>PK<|rg<|ol3 Boxes1 Dones1 codes1<|fE h
def c9Q(list:List j8):((List m5)×(List s8)×(List Int)×Int×Int)->KS:=fun (d8,i4,codes,v13,sAt)=>⟨a1r.k 4 [],(bs 2 (.ptr 1 0 0::(bs 1 (.ptr 2 0 0::(.own 5 0 1 0 codes.length::(bs 5 (j4 7 u0 list::(vi (list.length:Int)::(vi v13::(bs 17 [])))))))))),[some [],some [.var 100 [vi 0,.nil,.nil]],some [.var 100 [vi sAt,.own 3 0 2 0 d8.length,.own 4 0 4 0 i4.length]],some [m4 111 2 u6 d8],some [m4 169 4 D4 i4],some [m4 3 1 eI codes]]⟩
def X7(list:List j8)(d8:List m5)(i4:List s8)(codes:List Int)(v13:Int)(sAt:Int):Option (j6 (t7×List Int) ((List m5)×(List s8)×(List Int)×Int×Int) ((List m5)×(List s8)×(List Int)×Int)) :=
 (bif decide (v13<(list.length:Int)) then ((idx list v13).bind fun entry=>((b0G (t7.mk sAt d8 i4) entry).bind fun a42=>(s5 ((codes.length+1)*8<=140737488355328) (some (j6.nxt (a42.1.d8,a42.1.i4,codes++[a42.2],l9 (v13+1),a42.1.At)))))) else some (j6.brk (d8,i4,codes,sAt)))
theorem d01(list):LQ a1r c4R (c9Q list) (fun s=>X7 list s.1 s.2.1 s.2.2.1 s.2.2.2.1 s.2.2.2.2):=fun lc (d8,i4,codes,v13,sAt) h=>PK<|rg<|i9 0 h (fun h=>rg<|v5 u0 0 h fun entry S0 h=>rg<|cbS M0 d7t 2 (fun _=>(by simp [M0,N3,U6,P7,V.simple,vi,A4,a7O,u6,D4,eI,I9,a8D])) (fun _=>(Z8 2)) h fun a42 h=>C1 d8 i4<|o8<|tk 2 []<|t8 h fun e1 h=>K2 3 25 3 1 8 eI codes a42.2 e1<|K0 a42.2<|rg<|(lc.nx h fun hI=>sk [] [2,4,5,11,12,13] [(1,0),(2,0),(13,0),(13,1),(25,0)] hI)) (fun h=>(lc.bk h fun hI=>sk [] [2,4,5] [(1,0),(2,0),(3,0),(4,0),(5,0)] hI))
def a4G(list:List j8):Option (t7×List Int) :=
 ((b15).bind fun b1c=>((p8 (fun s:(List m5)×(List s8)×(List Int)×Int×Int=>X7 list s.1 s.2.1 s.2.2.1 s.2.2.2.1 s.2.2.2.2) (b1c.d8,b1c.i4,[],0,b1c.At)).bind fun x=>x.go (fun r=>some r) fun s=>c1m s.1 s.2.1 s.2.2.1 s.2.2.2))
theorem b1v{list}:OK a1r [j4 7 u0 list] (a4G list) :=
 q8 _ fun r h=>o8<|j7 c3p c9g 0 h fun b1c h=>o8<|lp (d01 list) h (fun _ h=>a1r.rt h) (c97 r) fun hI=>sk [.own (.tmp 5) 3 1] [2,4,5,11,12,13] [(1,0),(4,0),(3,0),(3,1),(10,0)] hI
def b7o:FS (t7):=⟨56,Tryz.f56,[.val [none,some 2,some 4] [none,some 111,none]],[none],[.val [some 7] []],fun r=>.agg (c9y r),fun _=>[none],Tryz.func56⟩
def a9F(list:List j8):Option t7 :=
 ((a7e list).bind fun F5=>(bif (!F5) then some (t7.mk 0 [] []) else ((a4G list).bind fun m9=>some m9.1)))
theorem b8H{list}:OK b7o [j4 7 u0 list] (a9F list) :=
 q8 _ fun r h=>o8<|j7 a2V b4R 1 h fun F5 h=>i9 2 h (fun h=>rg<|fE h) (fun h=>rg<|j7 a1r b1v 1 h fun m9 h=>rg<|C1 m9.1.d8 m9.1.i4<|fE h)
def c2v:FS (t7):=⟨98,Tryz.f98,[.val [none,some 2,some 4] []],[none],[.val L3 []],fun r=>.agg (a8D r),fun _=>[none],Tryz.func98⟩
def a97(n:j5):Option t7 :=
 ((a1Q n).bind fun G0=>(bif (!G0) then some (t7.mk 0 [] []) else ((a9F n.a5).bind fun a4M=>some a4M)))
theorem d4g{n}:OK c2v [.agg (r9 n)] (a97 n) :=
 q8 _ fun r h=>o8<|j7 V5 a5z 1 h fun G0 h=>i9 2 h (fun h=>rg<|fE h) (fun h=>rg<|j7 b7o b8H 2 h fun a4M h=>z6 a4M.d8<|fE h)
def a3z:FS (Int):=⟨122,Tryz.f122,[.val [] []],[none,none],[.val a1U [],.val [] []],fun r=>vi r,fun _=>[none,none],Tryz.func122⟩
def c1Y:Unit->KS:=fun _=>⟨a3z.k 3 [false],(bs 21 []),[some []]⟩
def c6a:Option Int :=
 some (-1)
theorem c7z(r):NF a3z r c1Y (fun s=>c6a):=fun _ h=>PK<|rg<|fE h
def d2T(r_:o7)(box:Int):Int->KS:=fun v10=>⟨a3z.k 2 [],(bs 1 (vi box::(bs 6 (j4 2 v6 r_.c6::(vi (r_.c6.length:Int)::(vi v10::(bs 10 []))))))),[some []]⟩
def a7L(r_:o7)(box:Int)(v10:Int):Option (j6 Int Int Unit) :=
 (bif decide (v10<(r_.c6.length:Int)) then ((idx r_.c6 v10).bind fun put=>(bif (put.g8==box) then some (j6.ret v10) else some (j6.nxt (l9 (v10+1))))) else some (j6.brk ()))
theorem d8F(r_ box):LQ a3z c1Y (d2T r_ box) (fun s=>a7L r_ box s):=fun lc v10 h=>PK<|rg<|i9 0 h (fun h=>rg<|v5 v6 1 h fun put hput h=>rg<|i9 3 h (fun h=>rg<|fL lc h) (fun h=>rg<|(lc.nx h fun hI=>sk [] [1,8,9,10] [] hI))) (fun h=>(lc.bk h fun hI=>sk [] [] [] hI))
def a87(r_:o7)(box:Int):Option Int :=
 ((p8 (fun s:Int=>a7L r_ box s) 0).bind fun x=>x.go (fun r=>some r) fun s=>c6a)
theorem c0t{r_ box}:OK a3z [.agg (a13 r_),vi box] (a87 r_ box) :=
 q8 _ fun r h=>o8<|lp (d8F r_ box) h (fun _ h=>a3z.rt h) (c7z r) fun hI=>sk [] [1,8,9,10] [] hI
def a5v:FS (Int):=⟨123,Tryz.f123,[.val [] []],[none,none],[.val a1U [],.val [] []],fun r=>vi r,fun _=>[none,none],Tryz.func123⟩
def b9E:Unit->KS:=fun _=>⟨a5v.k 3 [false],(bs 21 []),[some []]⟩
def c2Z:Option Int :=
 some (-1)
theorem d3h(r):NF a5v r b9E (fun s=>c2Z):=fun _ h=>PK<|rg<|fE h
def d5W(r_:o7)(box:Int):Int->KS:=fun v10=>⟨a5v.k 2 [],(bs 1 (vi box::(bs 6 (j4 2 u7 r_.b9::(vi (r_.b9.length:Int)::(vi v10::(bs 10 []))))))),[some []]⟩
def a8C(r_:o7)(box:Int)(v10:Int):Option (j6 Int Int Unit) :=
 (bif decide (v10<(r_.b9.length:Int)) then ((idx r_.b9 v10).bind fun read=>(bif (read.g8==box) then some (j6.ret v10) else some (j6.nxt (l9 (v10+1))))) else some (j6.brk ()))
theorem c7X(r_ box):LQ a5v b9E (d5W r_ box) (fun s=>a8C r_ box s):=fun lc v10 h=>PK<|rg<|i9 0 h (fun h=>rg<|v5 u7 1 h fun read b8m h=>rg<|i9 3 h (fun h=>rg<|fL lc h) (fun h=>rg<|(lc.nx h fun hI=>sk [] [1,8,9,10] [] hI))) (fun h=>(lc.bk h fun hI=>sk [] [] [] hI))
def a8R(r_:o7)(box:Int):Option Int :=
 ((p8 (fun s:Int=>a8C r_ box s) 0).bind fun x=>x.go (fun r=>some r) fun s=>c2Z)
theorem d4o{r_ box}:OK a5v [.agg (a13 r_),vi box] (a8R r_ box) :=
 q8 _ fun r h=>o8<|lp (c7X r_ box) h (fun _ h=>a5v.rt h) (d3h r) fun hI=>sk [] [1,8,9,10] [] hI
def K5:FS (o7):=⟨97,Tryz.f97,[.val a1U []],[none,none],[.val [some 2] [],.val [some 4] []],fun r=>.agg (a13 r),fun _=>[none,none],Tryz.func97⟩
def a4p:((List p9)×(List n6)×(List Int)×(List p9)×List n6)->KS:=fun (Reads2,Puts2,regs1,Reads3,Puts3)=>⟨K5.k 6 [false,false],(bs 4 (.ptr 1 0 0::(.ptr 4 0 0::(.ptr 5 0 0::(bs 175 []))))),[some [],some [.var 44 [.own 2 0 2 0 Reads2.length,.own 3 0 2 0 Puts2.length,vi 0,vi 0]],some [m4 159 2 u7 Reads2],some [m4 162 2 v6 Puts2],some [.arr 172 1 4 (regs1.map eI)],some [.var 44 [.own 6 0 2 0 Reads3.length,.own 7 0 2 0 Puts3.length,vi 0,vi 0]],some [m4 159 2 u7 Reads3],some [m4 162 2 v6 Puts3]]⟩
def a8J(Reads2:List p9)(Puts2:List n6)(regs1:List Int)(Reads3:List p9)(Puts3:List n6):Option o7 :=
 ((a03 Reads3).bind fun read=>((a4P Puts3).bind fun put=>((idx regs1 0).bind fun y=>(s5 ((0:Int)<4) (some (o7.mk read put y 0))))))
theorem c86(r):NF K5 r a4p (fun s=>a8J s.1 s.2.1 s.2.2.1 s.2.2.2.1 s.2.2.2.2):=fun (Reads2,Puts2,regs1,Reads3,Puts3) h=>PK<|rg<|cbS a0Y a52 2 (fun _=>(by simp [a0Y,N3,U6,P7,V.simple,vi,A4,eI,u7])) (fun _=>(Z8 1)) h fun read h=>z6 Reads3<|cbS b0Z c3r 5 (fun _=>(by simp [b0Z,N3,U6,P7,V.simple,vi,A4,eI,v6])) (fun _=>(Z8 1)) h fun put h=>z6 Puts3<|B3 h fun y hy h=>t8 h fun e1 h=>ob (K7 hy)<|ob e1<|ob (N9 (enc:=eI) hy)<|tl (tr 7 (eI y))<|C1 read put<|fE h
def a6b(list:List m5)(prog:List m7):((List Int)×(List p9)×(List n6)×(List p9)×(List n6)×Int)->KS:=fun (regs,b9,c6,Reads1,Puts1,at_)=>⟨K5.k 5 [false],(j4 2 u6 list::(j4 4 z8 prog::(bs 2 (.ptr 1 0 0::(.ptr 2 0 0::(.ptr 3 0 0::(vi at_::(bs 174 [])))))))),[some [],some [.var 44 [.own 4 0 2 0 b9.length,.own 5 0 2 0 c6.length,vi 0,vi 0]],some [.arr 172 1 4 (regs.map eI)],some [.var 44 [.own 6 0 2 0 Reads1.length,.own 7 0 2 0 Puts1.length,vi 0,vi 0]],some [m4 159 2 u7 b9],some [m4 162 2 v6 c6],some [m4 159 2 u7 Reads1],some [m4 162 2 v6 Puts1]]⟩
def c1k(list:List m5)(prog:List m7)(regs:List Int)(b9:List p9)(c6:List n6)(Reads1:List p9)(Puts1:List n6)(at_:Int)(ins:m7)(put1:n6):Unit->KS:=fun _=>⟨K5.k 14 [false,true,true,true,false],(j4 2 u6 list::(j4 4 z8 prog::(bs 2 (.ptr 1 0 0::(.ptr 4 0 0::(.ptr 5 0 0::(vi at_::(bs 174 [])))))))),[some [],some [.var 44 [.own 2 0 2 0 b9.length,.own 3 0 2 0 c6.length,vi 0,vi 0]],some [m4 159 2 u7 b9],some [m4 162 2 v6 c6],some [.arr 172 1 4 ((regs.set ins.A.toNat put1.c8).map eI)],some [.var 44 [.own 6 0 2 0 Reads1.length,.own 7 0 2 0 Puts1.length,vi 0,vi 0]],some [m4 159 2 u7 Reads1],some [m4 162 2 v6 Puts1]]⟩
def b5O(regs:List Int)(b9:List p9)(c6:List n6)(Reads1:List p9)(Puts1:List n6)(at_:Int)(ins:m7)(put1:n6):Option (j6 o7 ((List Int)×(List p9)×(List n6)×(List p9)×(List n6)×Int) ((List p9)×(List n6)×(List Int)×(List p9)×List n6)) :=
 some (j6.nxt (regs.set ins.A.toNat put1.c8,b9,c6,Reads1,Puts1,l9 (at_+1)))
theorem d4W(list prog regs b9 c6 Reads1 Puts1 at_ ins put1)(lc:G1 K5 a4p (a6b list prog)):NL lc (c1k list prog regs b9 c6 Reads1 Puts1 at_ ins put1) (fun s=>b5O regs b9 c6 Reads1 Puts1 at_ ins put1):=fun _ h=>PK<|rg<|(lc.nx h fun hI=>sk [] [0,1,4,5,6,7] [(1,0),(4,0),(5,0),(2,0),(3,0),(6,0),(7,0)] hI)
def c6W(list:List m5)(prog:List m7)(regs:List Int)(b9:List p9)(c6:List n6)(Reads1:List p9)(Puts1:List n6)(at_:Int)(ins:m7)(put1:n6):Int->KS:=fun a3l=>⟨K5.k 13 [false,true,true,true],(j4 2 u6 list::(j4 4 z8 prog::(bs 2 (.ptr 1 0 0::(.ptr 4 0 0::(.ptr 5 0 0::(vi at_::(bs 153 (.agg ((regs.set ins.A.toNat put1.c8).map eI).flatten::(vi a3l::(bs 19 []))))))))))),[some [],some [.var 44 [.own 2 0 2 0 b9.length,.own 3 0 2 0 c6.length,vi 0,vi 0]],some [m4 159 2 u7 b9],some [m4 162 2 v6 c6],some [.arr 172 1 4 ((regs.set ins.A.toNat put1.c8).map eI)],some [.var 44 [.own 6 0 2 0 Reads1.length,.own 7 0 2 0 Puts1.length,vi 0,vi 0]],some [m4 159 2 u7 Reads1],some [m4 162 2 v6 Puts1]]⟩
def a7W(regs:List Int)(Reads1:List p9)(ins:m7)(put1:n6)(a3l:Int):Option (j6 o7 Int Unit) :=
 (bif decide (a3l<4) then ((idx (regs.set ins.A.toNat put1.c8) a3l).bind fun y2=>(s5 (a3l<4) (((A7 y2 (-1000000) 1000000).bind fun in_=>(bif (!in_) then ((a03 Reads1).bind fun R3=>some (j6.ret (o7.mk R3 [] 0 2))) else some (j6.nxt (l9 (a3l+1)))))))) else some (j6.brk ()))
theorem d2A(list prog regs b9 c6 Reads1 Puts1 at_ ins put1):LQ K5 (c1k list prog regs b9 c6 Reads1 Puts1 at_ ins put1) (c6W list prog regs b9 c6 Reads1 Puts1 at_ ins put1) (fun s=>a7W regs Reads1 ins put1 s):=fun lc a3l h=>PK<|rg<|i9 0 h (fun h=>rg<|B3 h fun y2 hy2 h=>t8 h fun e3 h=>ob (K7 hy2)<|ob e3<|om (((regs.set ins.A.toNat put1.c8).map eI).flatten[a3l.toNat]?=some (vi y2)) (b5e (fun _=>rfl) hy2)<|tl (0,{a:=.val (vi y2)})<|rg<|j7 A6 B9 1 h fun in_ h=>i9 2 h (fun h=>rg<|cbS a0Y a52 2 (fun _=>(by simp [a0Y,N3,U6,P7,V.simple,vi,A4,eI,u7])) (fun _=>(Z8 1)) h fun R3 h=>C1 Reads1 R3<|fL lc h) (fun h=>rg<|(lc.nx h fun hI=>om (V.agg (((regs.set ins.A.toNat put1.c8).map eI).flatten.map (Q4 [(1,0),(2,0),(3,0),(4,0),(5,0),(6,0),(7,0)]))=.agg ((regs.set ins.A.toNat put1.c8).map eI).flatten) (congrArg V.agg (a4V (fun _=>rfl) _))<|skT [] [0,1,4,5,6,7,161,162] [(1,0),(2,0),(3,0),(4,0),(5,0),(6,0),(7,0)] [(161,.agg ((regs.set ins.A.toNat put1.c8).map eI).flatten)] hI))) (fun h=>(lc.bk h fun hI=>sk [] [0,1,4,5,6,7] [(1,0),(2,0),(3,0),(4,0),(5,0),(6,0),(7,0)] hI))
def d8f(list:List m5)(prog:List m7)(regs:List Int)(b9:List p9)(c6:List n6)(Puts1:List n6)(at_:Int)(ins:m7):(List p9)->KS:=fun Reads4=>⟨K5.k 13 [false,true,true,false,true],(j4 2 u6 list::(j4 4 z8 prog::(bs 2 (.ptr 1 0 0::(.ptr 4 0 0::(.ptr 5 0 0::(vi at_::(.ptr 8 0 0::(bs 173 []))))))))),[some [],some [.var 44 [.own 2 0 2 0 b9.length,.own 3 0 2 0 c6.length,vi 0,vi 0]],some [m4 159 2 u7 b9],some [m4 162 2 v6 c6],some [.arr 172 1 4 (regs.map eI)],some [.var 44 [.own 6 0 2 0 Reads4.length,.own 7 0 2 0 Puts1.length,vi 0,vi 0]],some [m4 159 2 u7 Reads4],some [m4 162 2 v6 Puts1],some [.var 56 [vi ins.a7,vi ins.A,vi ins.B,vi ins.N]]]⟩
def c1Z(list:List m5)(prog:List m7)(regs:List Int)(b9:List p9)(c6:List n6)(Puts1:List n6)(at_:Int)(ins:m7)(Reads4:List p9)(box:m5):Unit->KS:=fun _=>⟨K5.k 16 [false,true,true,false,true,false],(j4 2 u6 list::(j4 4 z8 prog::(bs 2 (.ptr 1 0 0::(.ptr 4 0 0::(.ptr 5 0 0::(vi at_::(bs 174 [])))))))),[some [],some [.var 44 [.own 2 0 2 0 b9.length,.own 3 0 2 0 c6.length,vi 0,vi 0]],some [m4 159 2 u7 b9],some [m4 162 2 v6 c6],some [.arr 172 1 4 ((regs.set ins.A.toNat box.c8).map eI)],some [.var 44 [.own 6 0 2 0 Reads4.length,.own 7 0 2 0 Puts1.length,vi 0,vi 0]],some [m4 159 2 u7 Reads4],some [m4 162 2 v6 Puts1]]⟩
def b2T(regs:List Int)(b9:List p9)(c6:List n6)(Puts1:List n6)(at_:Int)(ins:m7)(Reads4:List p9)(box:m5):Option (j6 o7 ((List Int)×(List p9)×(List n6)×(List p9)×(List n6)×Int) ((List p9)×(List n6)×(List Int)×(List p9)×List n6)) :=
 some (j6.nxt (regs.set ins.A.toNat box.c8,b9,c6,Reads4,Puts1,l9 (at_+1)))
theorem d9c(list prog regs b9 c6 Puts1 at_ ins Reads4 box)(lc:G1 K5 a4p (a6b list prog)):NL lc (c1Z list prog regs b9 c6 Puts1 at_ ins Reads4 box) (fun s=>b2T regs b9 c6 Puts1 at_ ins Reads4 box):=fun _ h=>PK<|rg<|(lc.nx h fun hI=>sk [] [0,1,4,5,6,7] [(1,0),(4,0),(5,0),(2,0),(3,0),(6,0),(7,0)] hI)
def d28(list:List m5)(prog:List m7)(regs:List Int)(b9:List p9)(c6:List n6)(Puts1:List n6)(at_:Int)(ins:m7)(Reads4:List p9)(box:m5):Int->KS:=fun a3Q=>⟨K5.k 15 [false,true,true,false,true],(j4 2 u6 list::(j4 4 z8 prog::(bs 2 (.ptr 1 0 0::(.ptr 4 0 0::(.ptr 5 0 0::(vi at_::(bs 153 (.agg ((regs.set ins.A.toNat box.c8).map eI).flatten::(vi a3Q::(bs 19 []))))))))))),[some [],some [.var 44 [.own 2 0 2 0 b9.length,.own 3 0 2 0 c6.length,vi 0,vi 0]],some [m4 159 2 u7 b9],some [m4 162 2 v6 c6],some [.arr 172 1 4 ((regs.set ins.A.toNat box.c8).map eI)],some [.var 44 [.own 6 0 2 0 Reads4.length,.own 7 0 2 0 Puts1.length,vi 0,vi 0]],some [m4 159 2 u7 Reads4],some [m4 162 2 v6 Puts1]]⟩
def a9z(regs:List Int)(ins:m7)(Reads4:List p9)(box:m5)(a3Q:Int):Option (j6 o7 Int Unit) :=
 (bif decide (a3Q<4) then ((idx (regs.set ins.A.toNat box.c8) a3Q).bind fun y4=>(s5 (a3Q<4) (((A7 y4 (-1000000) 1000000).bind fun G8=>(bif (!G8) then ((a03 Reads4).bind fun b6g=>some (j6.ret (o7.mk b6g [] 0 2))) else some (j6.nxt (l9 (a3Q+1)))))))) else some (j6.brk ()))
theorem d3s(list prog regs b9 c6 Puts1 at_ ins Reads4 box):LQ K5 (c1Z list prog regs b9 c6 Puts1 at_ ins Reads4 box) (d28 list prog regs b9 c6 Puts1 at_ ins Reads4 box) (fun s=>a9z regs ins Reads4 box s):=fun lc a3Q h=>PK<|rg<|i9 0 h (fun h=>rg<|B3 h fun y4 hy4 h=>t8 h fun e5 h=>ob (K7 hy4)<|ob e5<|om (((regs.set ins.A.toNat box.c8).map eI).flatten[a3Q.toNat]?=some (vi y4)) (b5e (fun _=>rfl) hy4)<|tl (0,{a:=.val (vi y4)})<|rg<|j7 A6 B9 1 h fun G8 h=>i9 2 h (fun h=>rg<|cbS a0Y a52 2 (fun _=>(by simp [a0Y,N3,U6,P7,V.simple,vi,A4,eI,u7])) (fun _=>(Z8 1)) h fun b6g h=>C1 Reads4 b6g<|fL lc h) (fun h=>rg<|(lc.nx h fun hI=>om (V.agg (((regs.set ins.A.toNat box.c8).map eI).flatten.map (Q4 [(1,0),(2,0),(3,0),(4,0),(5,0),(6,0),(7,0)]))=.agg ((regs.set ins.A.toNat box.c8).map eI).flatten) (congrArg V.agg (a4V (fun _=>rfl) _))<|skT [] [0,1,4,5,6,7,161,162] [(1,0),(2,0),(3,0),(4,0),(5,0),(6,0),(7,0)] [(161,.agg ((regs.set ins.A.toNat box.c8).map eI).flatten)] hI))) (fun h=>(lc.bk h fun hI=>sk [] [0,1,4,5,6,7] [(1,0),(2,0),(3,0),(4,0),(5,0),(6,0),(7,0)] hI))
def b1z(list:List m5)(regs:List Int)(b9:List p9)(c6:List n6)(Puts1:List n6)(at_:Int)(ins:m7)(Reads4:List p9):Option (j6 o7 ((List Int)×(List p9)×(List n6)×(List p9)×(List n6)×Int) ((List p9)×(List n6)×(List Int)×(List p9)×List n6)) :=
 ((idx list ins.B).bind fun box=>((idx regs ins.A).bind fun y3=>(s5 (ins.A<4) (((p8 (fun s:Int=>a9z regs ins Reads4 box s) 0).bind fun x=>x.go (fun r=>some (j6.ret r)) fun s=>b2T regs b9 c6 Puts1 at_ ins Reads4 box)))))
theorem d5T(list prog regs b9 c6 Puts1 at_ ins)(lc:G1 K5 a4p (a6b list prog)):NL lc (d8f list prog regs b9 c6 Puts1 at_ ins) (fun s=>b1z list regs b9 c6 Puts1 at_ ins s):=fun Reads4 h=>PK<|rg<|v5 u6 5 h fun box a7i h=>B3 h fun y3 hy3 h=>t8 h fun e4 h=>ob (K7 hy3)<|ob e4<|om (n9.arr 172 1 4 ((regs.map eI).set (ins.A.toNat) [vi box.c8])=n9.arr 172 1 4 ((regs.set ins.A.toNat box.c8).map eI)) (a5y rfl)<|ob (N9 (enc:=eI) hy3)<|tl (9,{a:=.rowck (eI y3) [],e:=some (.arr 172 1 4 ((regs.set ins.A.toNat box.c8).map eI))})<|rg<|om (4*1=4) rfl<|lp (d3s list prog regs b9 c6 Puts1 at_ ins Reads4 box) h (fun _ h=>lc.rt h) (d9c list prog regs b9 c6 Puts1 at_ ins Reads4 box lc) fun hI=>om (V.agg (((regs.set ins.A.toNat box.c8).map eI).flatten.map (Q4 [(1,0),(2,0),(3,0),(4,0),(5,0),(6,0),(7,0)]))=.agg ((regs.set ins.A.toNat box.c8).map eI).flatten) (congrArg V.agg (a4V (fun _=>rfl) _))<|skT [] [0,1,4,5,6,7,161,162] [(1,0),(2,0),(3,0),(4,0),(5,0),(6,0),(7,0)] [(161,.agg ((regs.set ins.A.toNat box.c8).map eI).flatten)] hI
def d52(list:List m5)(prog:List m7)(b9:List p9)(c6:List n6)(Reads1:List p9):((List Int)×(List n6)×Int)->KS:=fun (regs2,Puts4,at_1)=>⟨K5.k 13 [false,true,false,true,true],(j4 2 u6 list::(j4 4 z8 prog::(bs 2 (.ptr 1 0 0::(.ptr 4 0 0::(.ptr 5 0 0::(vi at_1::(bs 174 [])))))))),[some [],some [.var 44 [.own 2 0 2 0 b9.length,.own 3 0 2 0 c6.length,vi 0,vi 0]],some [m4 159 2 u7 b9],some [m4 162 2 v6 c6],some [.arr 172 1 4 (regs2.map eI)],some [.var 44 [.own 6 0 2 0 Reads1.length,.own 7 0 2 0 Puts4.length,vi 0,vi 0]],some [m4 159 2 u7 Reads1],some [m4 162 2 v6 Puts4]]⟩
def b9W(list:List m5)(prog:List m7)(b9:List p9)(c6:List n6)(Reads1:List p9)(regs2:List Int)(Puts4:List n6)(at_1:Int):Unit->KS:=fun _=>⟨K5.k 15 [false,true,false,true,true,false],(j4 2 u6 list::(j4 4 z8 prog::(bs 2 (.ptr 1 0 0::(.ptr 4 0 0::(.ptr 5 0 0::(vi at_1::(bs 174 [])))))))),[some [],some [.var 44 [.own 2 0 2 0 b9.length,.own 3 0 2 0 c6.length,vi 0,vi 0]],some [m4 159 2 u7 b9],some [m4 162 2 v6 c6],some [.arr 172 1 4 (regs2.map eI)],some [.var 44 [.own 6 0 2 0 Reads1.length,.own 7 0 2 0 Puts4.length,vi 0,vi 0]],some [m4 159 2 u7 Reads1],some [m4 162 2 v6 Puts4]]⟩
def a8P(b9:List p9)(c6:List n6)(Reads1:List p9)(regs2:List Int)(Puts4:List n6)(at_1:Int):Option (j6 o7 ((List Int)×(List p9)×(List n6)×(List p9)×(List n6)×Int) ((List p9)×(List n6)×(List Int)×(List p9)×List n6)) :=
 some (j6.nxt (regs2,b9,c6,Reads1,Puts4,l9 (at_1+1)))
theorem d0s(list prog b9 c6 Reads1 regs2 Puts4 at_1)(lc:G1 K5 a4p (a6b list prog)):NL lc (b9W list prog b9 c6 Reads1 regs2 Puts4 at_1) (fun s=>a8P b9 c6 Reads1 regs2 Puts4 at_1):=fun _ h=>PK<|rg<|(lc.nx h fun hI=>sk [] [0,1,4,5,6,7] [(1,0),(4,0),(5,0),(2,0),(3,0),(6,0),(7,0)] hI)
def d1a(list:List m5)(prog:List m7)(b9:List p9)(c6:List n6)(Reads1:List p9)(regs2:List Int)(Puts4:List n6)(at_1:Int):Int->KS:=fun a3p=>⟨K5.k 14 [false,true,false,true,true],(j4 2 u6 list::(j4 4 z8 prog::(bs 2 (.ptr 1 0 0::(.ptr 4 0 0::(.ptr 5 0 0::(vi at_1::(bs 153 (.agg (regs2.map eI).flatten::(vi a3p::(bs 19 []))))))))))),[some [],some [.var 44 [.own 2 0 2 0 b9.length,.own 3 0 2 0 c6.length,vi 0,vi 0]],some [m4 159 2 u7 b9],some [m4 162 2 v6 c6],some [.arr 172 1 4 (regs2.map eI)],some [.var 44 [.own 6 0 2 0 Reads1.length,.own 7 0 2 0 Puts4.length,vi 0,vi 0]],some [m4 159 2 u7 Reads1],some [m4 162 2 v6 Puts4]]⟩
def a7K(Reads1:List p9)(regs2:List Int)(a3p:Int):Option (j6 o7 Int Unit) :=
 (bif decide (a3p<4) then ((idx regs2 a3p).bind fun y5=>(s5 (a3p<4) (((A7 y5 (-1000000) 1000000).bind fun Q7=>(bif (!Q7) then ((a03 Reads1).bind fun b7B=>some (j6.ret (o7.mk b7B [] 0 2))) else some (j6.nxt (l9 (a3p+1)))))))) else some (j6.brk ()))
theorem d1y(list prog b9 c6 Reads1 regs2 Puts4 at_1):LQ K5 (b9W list prog b9 c6 Reads1 regs2 Puts4 at_1) (d1a list prog b9 c6 Reads1 regs2 Puts4 at_1) (fun s=>a7K Reads1 regs2 s):=fun lc a3p h=>PK<|rg<|i9 0 h (fun h=>rg<|B3 h fun y5 hy5 h=>t8 h fun e7 h=>ob (K7 hy5)<|ob e7<|om ((regs2.map eI).flatten[a3p.toNat]?=some (vi y5)) (b5e (fun _=>rfl) hy5)<|tl (0,{a:=.val (vi y5)})<|rg<|j7 A6 B9 1 h fun Q7 h=>i9 2 h (fun h=>rg<|cbS a0Y a52 2 (fun _=>(by simp [a0Y,N3,U6,P7,V.simple,vi,A4,eI,u7])) (fun _=>(Z8 1)) h fun b7B h=>C1 Reads1 b7B<|fL lc h) (fun h=>rg<|(lc.nx h fun hI=>om (V.agg ((regs2.map eI).flatten.map (Q4 [(1,0),(2,0),(3,0),(4,0),(5,0),(6,0),(7,0)]))=.agg (regs2.map eI).flatten) (congrArg V.agg (a4V (fun _=>rfl) _))<|skT [] [0,1,4,5,6,7,161,162] [(1,0),(2,0),(3,0),(4,0),(5,0),(6,0),(7,0)] [(161,.agg (regs2.map eI).flatten)] hI))) (fun h=>(lc.bk h fun hI=>sk [] [0,1,4,5,6,7] [(1,0),(2,0),(3,0),(4,0),(5,0),(6,0),(7,0)] hI))
def a6k(b9:List p9)(c6:List n6)(Reads1:List p9)(regs2:List Int)(Puts4:List n6)(at_1:Int):Option (j6 o7 ((List Int)×(List p9)×(List n6)×(List p9)×(List n6)×Int) ((List p9)×(List n6)×(List Int)×(List p9)×List n6)) :=
 ((p8 (fun s:Int=>a7K Reads1 regs2 s) 0).bind fun x=>x.go (fun r=>some (j6.ret r)) fun s=>a8P b9 c6 Reads1 regs2 Puts4 at_1)
theorem d7h(list prog b9 c6 Reads1)(lc:G1 K5 a4p (a6b list prog)):NL lc (d52 list prog b9 c6 Reads1) (fun s=>a6k b9 c6 Reads1 s.1 s.2.1 s.2.2):=fun (regs2,Puts4,at_1) h=>PK<|rg<|om (4*1=4) rfl<|lp (d1y list prog b9 c6 Reads1 regs2 Puts4 at_1) h (fun _ h=>lc.rt h) (d0s list prog b9 c6 Reads1 regs2 Puts4 at_1 lc) fun hI=>om (V.agg ((regs2.map eI).flatten.map (Q4 [(1,0),(2,0),(3,0),(4,0),(5,0),(6,0),(7,0)]))=.agg (regs2.map eI).flatten) (congrArg V.agg (a4V (fun _=>rfl) _))<|skT [] [0,1,4,5,6,7,161,162] [(1,0),(2,0),(3,0),(4,0),(5,0),(6,0),(7,0)] [(161,.agg (regs2.map eI).flatten)] hI
def a07(list:List m5)(prog:List m7)(regs:List Int)(b9:List p9)(c6:List n6)(Reads1:List p9)(Puts1:List n6)(at_:Int):Option (j6 o7 ((List Int)×(List p9)×(List n6)×(List p9)×(List n6)×Int) ((List p9)×(List n6)×(List Int)×(List p9)×List n6)) :=
 (bif decide (at_<(prog.length:Int)) then ((idx prog at_).bind fun ins=>(bif (ins.a7==1) then ((a87 (o7.mk Reads1 Puts1 0 0) ins.B).bind fun U2=>(bif decide (U2>=0) then ((idx Puts1 U2).bind fun put1=>((idx regs ins.A).bind fun y1=>(s5 (ins.A<4) (((p8 (fun s:Int=>a7W regs Reads1 ins put1 s) 0).bind fun x=>x.go (fun r=>some (j6.ret r)) fun s=>b5O regs b9 c6 Reads1 Puts1 at_ ins put1))))) else ((((a8R (o7.mk Reads1 Puts1 0 0) ins.B).bind fun c1L=>(bif decide (c1L<0) then ((idx list ins.B).bind fun M1=>(s5 ((Reads1.length+1)*16<=140737488355328) (some (l7.brk (Reads1++[(p9.mk ins.B M1.i7)]))))) else some (l7.brk Reads1))):Option (l7 (j6 o7 ((List Int)×(List p9)×(List n6)×(List p9)×(List n6)×Int) ((List p9)×(List n6)×(List Int)×(List p9)×List n6)) (List p9))).bind fun x=>x.go some fun j=>b1z list regs b9 c6 Puts1 at_ ins j))) else (((bif (ins.a7==2) then ((a87 (o7.mk Reads1 Puts1 0 0) ins.A).bind fun a7l=>(bif decide (a7l>=0) then ((idx regs ins.B).bind fun y6=>(s5 (ins.B<4) (((idx Puts1 a7l).bind fun put2=>some (l7.brk (regs,Puts1.set a7l.toNat (n6.mk put2.g8 y6),at_)))))) else ((idx regs ins.B).bind fun y7=>(s5 (ins.B<4) ((s5 ((Puts1.length+1)*16<=140737488355328) (some (l7.brk (regs,Puts1++[(n6.mk ins.A y7)],at_))))))))) else (bif (ins.a7==3) then ((idx regs ins.A).bind fun y8=>(s5 (ins.A<4) (some (l7.brk (regs.set ins.A.toNat ins.N,Puts1,at_))))) else (bif (ins.a7==4) then ((idx regs ins.A).bind fun y9=>(s5 (ins.A<4) (((idx regs ins.B).bind fun y10=>(s5 (ins.B<4) ((s5 (ins.A<4) (some (l7.brk (regs.set ins.A.toNat (l9 (y9+y10)),Puts1,at_)))))))))) else (bif (ins.a7==5) then ((idx regs ins.A).bind fun y11=>(s5 (ins.A<4) (((idx regs ins.B).bind fun y12=>(s5 (ins.B<4) ((s5 (ins.A<4) (some (l7.brk (regs.set ins.A.toNat (l9 (y11-y12)),Puts1,at_)))))))))) else (bif (ins.a7==6) then ((idx regs ins.A).bind fun y13=>(s5 (ins.A<4) (((idx regs ins.B).bind fun y14=>(s5 (ins.B<4) ((bif decide (y13<y14) then some (l7.brk (regs,Puts1,l9 (at_+ins.N))) else some (l7.brk (regs,Puts1,at_))))))))) else (bif (ins.a7==7) then ((a03 Reads1).bind fun b6p=>some (l7.ret (j6.ret (o7.mk b6p [] 0 1)))) else some (l7.brk (regs,Puts1,at_)))))))):Option (l7 (j6 o7 ((List Int)×(List p9)×(List n6)×(List p9)×(List n6)×Int) ((List p9)×(List n6)×(List Int)×(List p9)×List n6)) ((List Int)×(List n6)×Int))).bind fun x=>x.go some fun j=>a6k b9 c6 Reads1 j.1 j.2.1 j.2.2))) else some (j6.brk (b9,c6,regs,Reads1,Puts1)))
set_option maxRecDepth 20000 in
theorem d7K(list prog):LQ K5 a4p (a6b list prog) (fun s=>a07 list prog s.1 s.2.1 s.2.2.1 s.2.2.2.1 s.2.2.2.2.1 s.2.2.2.2.2):=fun lc (regs,b9,c6,Reads1,Puts1,at_) h=>PK<|rg<|i9 3 h (fun h=>rg<|v5 z8 2 h fun ins hins h=>o8<|i9 1 h (fun h=>rg<|cb1 a3z c0t 3 2 h fun U2 h=>C1 Reads1 Puts1<|rg<|i9 1 h (fun h=>rg<|B3 h fun put1 b2g h=>E3 b2g<|T4 v6 7 b2g<|B3 h fun y1 hy1 h=>t8 h fun e2 h=>ob (K7 hy1)<|ob e2<|om (n9.arr 172 1 4 ((regs.map eI).set (ins.A.toNat) [vi put1.c8])=n9.arr 172 1 4 ((regs.set ins.A.toNat put1.c8).map eI)) (a5y rfl)<|ob (N9 (enc:=eI) hy1)<|tl (9,{a:=.rowck (eI y1) [],e:=some (.arr 172 1 4 ((regs.set ins.A.toNat put1.c8).map eI))})<|rg<|om (4*1=4) rfl<|lp (d2A list prog regs b9 c6 Reads1 Puts1 at_ ins put1) h (fun _ h=>lc.rt h) (d4W list prog regs b9 c6 Reads1 Puts1 at_ ins put1 lc) fun hI=>om (V.agg (((regs.set ins.A.toNat put1.c8).map eI).flatten.map (Q4 [(1,0),(4,0),(5,0),(2,0),(3,0),(6,0),(7,0)]))=.agg ((regs.set ins.A.toNat put1.c8).map eI).flatten) (congrArg V.agg (a4V (fun _=>rfl) _))<|skT [] [0,1,4,5,6,7,161,162] [(1,0),(4,0),(5,0),(2,0),(3,0),(6,0),(7,0)] [(161,.agg ((regs.set ins.A.toNat put1.c8).map eI).flatten)] hI) (fun h=>C2 h (d5T list prog regs b9 c6 Puts1 at_ ins lc) fun x2 h hc2=>rg<|cb1 a5v d4o 3 2 h fun c1L h=>C1 Reads1 Puts1<|i9 4 h (fun h=>rg<|v5 u6 7 h fun M1 a2C h=>tk 11 []<|t8 h fun e6 h=>K2 12 46 159 2 16 u7 Reads1 (p9.mk ins.B M1.i7) e6<|K0 (p9.mk ins.B M1.i7)<|(p7 h hc2 fun hI=>sk [] [0,1,4,5,6,7,8] [(1,0),(4,0),(5,0),(2,0),(3,0),(46,0),(7,0),(16,0)] hI)) (fun h=>(p7 h hc2 fun hI=>sk [] [0,1,4,5,6,7,8] [(1,0),(4,0),(5,0),(2,0),(3,0),(6,0),(7,0),(16,0)] hI)))) (fun h=>C2 h (d7h list prog b9 c6 Reads1 lc) fun x2 h hc2=>rg<|i9 1 h (fun h=>rg<|cb1 a3z c0t 3 2 h fun a7l h=>C1 Reads1 Puts1<|rg<|i9 1 h (fun h=>rg<|B3 h fun y6 hy6 h=>t8 h fun e8 h=>ob (K7 hy6)<|ob e8<|ob (N9 (enc:=eI) hy6)<|tl (tr 6 (eI y6))<|B3 h fun put2 c0j h=>E3 c0j<|R1 162 2 v6 9 [] (n6.mk put2.g8 y6) c0j<|(p7 h hc2 fun hI=>om ((.own 7 0 2 0 Puts1.length:V)=.own 7 0 2 0 (Puts1.set a7l.toNat (n6.mk put2.g8 y6)).length) (by simp)<|sk [.is (.cell 3 0 1) (.own 7 0 2 0 (Puts1.set a7l.toNat (n6.mk put2.g8 y6)).length)] [0,1,4,5,6,7] [(1,0),(4,0),(5,0),(2,0),(3,0),(6,0),(7,0)] hI)) (fun h=>rg<|B3 h fun y7 hy7 h=>t8 h fun e9 h=>ob (K7 hy7)<|ob e9<|ob (N9 (enc:=eI) hy7)<|tl (tr 7 (eI y7))<|tk 9 []<|t8 h fun e10 h=>K2 10 41 162 2 16 v6 Puts1 (n6.mk ins.A y7) e10<|K0 (n6.mk ins.A y7)<|(p7 h hc2 fun hI=>sk [] [0,1,4,5,6,7] [(1,0),(4,0),(5,0),(2,0),(3,0),(6,0),(41,0)] hI))) (fun h=>rg<|i9 1 h (fun h=>rg<|B3 h fun y8 hy8 h=>t8 h fun e11 h=>ob (K7 hy8)<|ob e11<|om (n9.arr 172 1 4 ((regs.map eI).set (ins.A.toNat) [vi ins.N])=n9.arr 172 1 4 ((regs.set ins.A.toNat ins.N).map eI)) (a5y rfl)<|ob (N9 (enc:=eI) hy8)<|tl (5,{a:=.rowck (eI y8) [],e:=some (.arr 172 1 4 ((regs.set ins.A.toNat ins.N).map eI))})<|(p7 h hc2 fun hI=>sk [] [0,1,4,5,6,7] [(1,0),(4,0),(5,0),(2,0),(3,0),(6,0),(7,0)] hI)) (fun h=>rg<|i9 1 h (fun h=>rg<|B3 h fun y9 hy9 h=>t8 h fun e12 h=>ob (K7 hy9)<|ob e12<|ob (N9 (enc:=eI) hy9)<|tl (tr 3 (eI y9))<|B3 h fun y10 c2C h=>t8 h fun e13 h=>ob (K7 c2C)<|ob e13<|ob (N9 (enc:=eI) c2C)<|tl (tr 7 (eI y10))<|t8 h fun e14 h=>ob (K7 hy9)<|ob e14<|om (n9.arr 172 1 4 ((regs.map eI).set (ins.A.toNat) [vi (l9 (y9+y10))])=n9.arr 172 1 4 ((regs.set ins.A.toNat (l9 (y9+y10))).map eI)) (a5y rfl)<|ob (N9 (enc:=eI) hy9)<|tl (10,{a:=.rowck (eI y9) [],e:=some (.arr 172 1 4 ((regs.set ins.A.toNat (l9 (y9+y10))).map eI))})<|(p7 h hc2 fun hI=>sk [] [0,1,4,5,6,7] [(1,0),(4,0),(5,0),(2,0),(3,0),(6,0),(7,0)] hI)) (fun h=>rg<|i9 1 h (fun h=>rg<|B3 h fun y11 b1E h=>t8 h fun e15 h=>ob (K7 b1E)<|ob e15<|ob (N9 (enc:=eI) b1E)<|tl (tr 3 (eI y11))<|B3 h fun y12 c1Q h=>t8 h fun e16 h=>ob (K7 c1Q)<|ob e16<|ob (N9 (enc:=eI) c1Q)<|tl (tr 7 (eI y12))<|t8 h fun e17 h=>ob (K7 b1E)<|ob e17<|om (n9.arr 172 1 4 ((regs.map eI).set (ins.A.toNat) [vi (l9 (y11-y12))])=n9.arr 172 1 4 ((regs.set ins.A.toNat (l9 (y11-y12))).map eI)) (a5y rfl)<|ob (N9 (enc:=eI) b1E)<|tl (10,{a:=.rowck (eI y11) [],e:=some (.arr 172 1 4 ((regs.set ins.A.toNat (l9 (y11-y12))).map eI))})<|(p7 h hc2 fun hI=>sk [] [0,1,4,5,6,7] [(1,0),(4,0),(5,0),(2,0),(3,0),(6,0),(7,0)] hI)) (fun h=>rg<|i9 1 h (fun h=>rg<|B3 h fun y13 c3j h=>t8 h fun e18 h=>ob (K7 c3j)<|ob e18<|ob (N9 (enc:=eI) c3j)<|tl (tr 3 (eI y13))<|B3 h fun y14 c6j h=>t8 h fun e19 h=>ob (K7 c6j)<|ob e19<|ob (N9 (enc:=eI) c6j)<|tl (tr 7 (eI y14))<|i9 8 h (fun h=>rg<|(p7 h hc2 fun hI=>sk [] [0,1,4,5,6,7] [(1,0),(4,0),(5,0),(2,0),(3,0),(6,0),(7,0)] hI)) (fun h=>(p7 h hc2 fun hI=>sk [] [0,1,4,5,6,7] [(1,0),(4,0),(5,0),(2,0),(3,0),(6,0),(7,0)] hI))) (fun h=>rg<|i9 1 h (fun h=>rg<|cbS a0Y a52 2 (fun _=>(by simp [a0Y,N3,U6,P7,V.simple,vi,A4,eI,u7])) (fun _=>(Z8 1)) h fun b6p h=>z6 Reads1<|(E6 h hc2 fun h=>z6 b6p<|fL lc h)) (fun h=>(p7 h hc2 fun hI=>sk [] [0,1,4,5,6,7] [(1,0),(4,0),(5,0),(2,0),(3,0),(6,0),(7,0)] hI))))))))) (fun h=>(lc.bk h fun hI=>sk [] [4,5,6] [(1,0),(4,0),(5,0),(2,0),(3,0),(6,0),(7,0)] hI))
def a7R(list:List m5)(prog:List m7):Option o7 :=
 ((a3u list).bind fun X9=>(bif (!X9) then some (o7.mk [] [] 0 3) else ((a3A prog).bind fun C3=>(bif (!C3) then some (o7.mk [] [] 0 3) else ((p8 (fun s:(List Int)×(List p9)×(List n6)×(List p9)×(List n6)×Int=>a07 list prog s.1 s.2.1 s.2.2.1 s.2.2.2.1 s.2.2.2.2.1 s.2.2.2.2.2) (d9u 4 (0:Int),[],[],[],[],0)).bind fun x=>x.go (fun r=>some r) fun s=>a8J s.1 s.2.1 s.2.2.1 s.2.2.2.1 s.2.2.2.2)))))
theorem c1q{list prog}:OK K5 [j4 2 u6 list,j4 4 z8 prog] (a7R list prog) :=
 q8 _ fun r h=>o8<|j7 a1e a8A 1 h fun X9 h=>i9 3 h (fun h=>rg<|fE h) (fun h=>j7 a1s a9x 5 h fun C3 h=>i9 7 h (fun h=>rg<|fE h) (fun h=>rg<|om ((d9u 4 ([vi 0]:List V)).flatten=[vi 0,vi 0,vi 0,vi 0]/\([vi 0]:List V).length=1) ⟨rfl,rfl⟩<|o8<|lp (d7K list prog) h (fun _ h=>K5.rt h) (c86 r) fun hI=>sk [.own (.cell 1 0 0) 159 2,.own (.cell 1 0 1) 162 2,.own (.cell 12 0 0) 159 2,.own (.cell 12 0 1) 162 2] [0,1,4,5,6,7] [(1,0),(10,0),(12,0),(15,0),(16,0),(17,0),(18,0)] hI))
def a0t:FS (Int):=⟨57,Tryz.f57,[.val [] []],[none,none],[.val [some 7] [],.val [] []],fun r=>vi r,fun _=>[none,none],Tryz.func57⟩
def b5D:Unit->KS:=fun _=>⟨a0t.k 3 [false],(bs 25 []),[some []]⟩
def c3y:Option Int :=
 some (-1)
theorem d2B(r):NF a0t r b5D (fun s=>c3y):=fun _ h=>PK<|rg<|fE h
def b8h(list:List j8)(q:m8):Int->KS:=fun v9=>⟨a0t.k 2 [],(bs 3 (.ptr 1 0 0::(bs 3 (j4 7 u0 list::(vi (list.length:Int)::(vi v9::(bs 15 []))))))),[some [],some [.var 40 [vi q.b6,vi q.Seq]]]⟩
def d5O(list:List j8)(q:m8)(v9:Int):Unit->KS:=fun _=>⟨a0t.k 5 [true,false],(bs 3 (.ptr 1 0 0::(bs 3 (j4 7 u0 list::(vi (list.length:Int)::(vi v9::(bs 15 []))))))),[some [],some [.var 40 [vi q.b6,vi q.Seq]]]⟩
def b7D(v9:Int):Option (j6 Int Int Unit) :=
 some (j6.nxt (l9 (v9+1)))
theorem d0l(list q v9)(lc:G1 a0t b5D (b8h list q)):NL lc (d5O list q v9) (fun s=>b7D v9):=fun _ h=>PK<|rg<|(lc.nx h fun hI=>sk [] [3,7,8,9] [(1,0)] hI)
def a5W(list:List j8)(q:m8)(v9:Int):Option (j6 Int Int Unit) :=
 (bif decide (v9<(list.length:Int)) then ((idx list v9).bind fun entry=>(((bif (!entry.i6) then (bif (([entry.a0.b6,entry.a0.Seq]:List Int)==[q.b6,q.Seq]) then some (l7.ret (j6.ret v9)) else some (l7.brk ())) else some (l7.brk ())):Option (l7 (j6 Int Int Unit) Unit)).bind fun x=>x.go some fun j=>b7D v9)) else some (j6.brk ()))
theorem d7N(list q):LQ a0t b5D (b8h list q) (fun s=>a5W list q s):=fun lc v9 h=>PK<|rg<|i9 0 h (fun h=>rg<|v5 u0 1 h fun entry S0 h=>C2 h (d0l list q v9 lc) fun x2 h hc2=>rg<|i9 3 h (fun h=>i9 8 h (fun h=>rg<|(E6 h hc2 fun h=>fL lc h)) (fun h=>(p7 h hc2 fun hI=>sk [] [3,7,8,9] [(1,0)] hI))) (fun h=>(p7 h hc2 fun hI=>sk [] [3,7,8,9] [(1,0)] hI))) (fun h=>(lc.bk h fun hI=>sk [] [] [] hI))
def a3d(list:List j8)(q:m8):Option Int :=
 ((p8 (fun s:Int=>a5W list q s) 0).bind fun x=>x.go (fun r=>some r) fun s=>c3y)
theorem a9H{list q}:OK a0t [j4 7 u0 list,.agg (I9 q)] (a3d list q) :=
 q8 _ fun r h=>o8<|lp (d7N list q) h (fun _ h=>a0t.rt h) (d2B r) fun hI=>sk [] [3,7,8,9] [(1,0)] hI
def b7K:FS (Bool×m6):=⟨129,Tryz.f129,[.val [] []],[some (0,.ptr E4 H8),none],[.ptr E4 H8,.val [] []],fun r=>.b r.1,fun r=>[some (.optr 147 (H9 r.2)),none],Tryz.func129⟩
def a71(a:m6)(q:m8):Option (Bool×m6) :=
 ((a3d a.n.a5 q).bind fun first=>some (decide (first>=0),a))
theorem c2Q{a q}:OK b7K [.optr 147 (H9 a),.agg (I9 q)] (a71 a q) :=
 q8 _ fun r h=>o8<|cb1 a0t a9H 6 2 h fun first h=>z6 a.n.a5<|A5 a<|fE h
def U1:FS (j8×Bool×m6):=⟨124,Tryz.f124,[.val V8 [],.val [] []],[some (0,.ptr E4 H8)],[.ptr E4 H8],fun r=>.tup [.agg (u0 r.1),.b r.2.1],fun r=>[some (.optr 147 (H9 r.2.2))],Tryz.func124⟩
def c7J(a:m6):Unit->KS:=fun _=>⟨U1.k 3 [false],(.ptr 0 0 0::(bs 1 (.ptr 1 0 0::(bs 1 (vi (a.n.a5.length:Int)::(bs 112 [])))))),[some ([.var 147 (b7x a)]++b5n a),some [.var 46 [.b false,vi 0,vi 0,.nil,.nil,vi 0,vi 0]]]⟩
def c1i(a:m6):Unit->KS:=fun _=>⟨U1.k 5 [false,false],(.ptr 0 0 0::(bs 1 (.ptr 1 0 0::(bs 114 [])))),[some ([.var 147 (b7x a)]++b5n a),some [.var 46 [.b false,vi 0,vi 0,.nil,.nil,vi 0,vi 0]]]⟩
def c8d:m6->KS:=fun a1=>⟨U1.k 6 [false,false,false],(.ptr 0 0 0::(bs 1 (.ptr 6 0 0::(bs 114 [])))),[some [.var 147 (a7C a1),.dead,.dead,.dead,.dead,.dead]]++a1v a1++[some [.var 46 [.b false,vi 0,vi 0,.nil,.nil,vi 0,vi 0]]]⟩
def b9Q:m6->KS:=fun w=>⟨U1.k 7 [false,false,false,false],(bs 2 (.ptr 6 0 0::(bs 114 []))),[some [.var 147 (a7C w),.dead,.dead,.dead,.dead,.dead]]++a1v w++[some [.var 46 [.b false,vi 0,vi 0,.nil,.nil,vi 0,vi 0]]]⟩
def c2D(w:m6):Option (j8×Bool×m6) :=
 some ((j8.mk false (m8.mk 0 0) (o7.mk [] [] 0 0)),false,w)
theorem c71(r):NF U1 r b9Q (fun s=>c2D s):=fun w h=>PK<|rg<|A5 w<|fE h
def d4h:m6->KS:=fun a2=>⟨U1.k 6 [false,false,false],(.ptr 0 0 0::(bs 1 (.ptr 6 0 0::(bs 114 [])))),[some [.var 147 (a7C a2),.dead,.dead,.dead,.dead,.dead]]++a1v a2++[some [.var 46 [.b false,vi 0,vi 0,.nil,.nil,vi 0,vi 0]]]⟩
def a2Y(a2:m6):Option (j6 (j8×Bool×m6) m6 m6) :=
 (bif decide ((a2.n.d9.length:Int)>0) then ((idx a2.n.d9 0).bind fun entry=>(s5 ((0:Int)<=1/\1<=(a2.n.d9.length:Int)) (((a71 (m6.mk (j5.mk a2.n.Id a2.n.Acc a2.n.a5 a2.n.Seq a2.n.b5 a2.n.a6 a2.n.b8 a2.n.g7 a2.n.d6 a2.n.a9 a2.n.i3 a2.n.i5 a2.n.b7 ((a2.n.d9.drop (1:Int).toNat).take (a2.n.d9.length-(1:Int).toNat))) a2.out a2.told) entry.a0).bind fun a70=>(bif (!a70.1) then some (j6.ret (entry,true,a70.2)) else some (j6.nxt a70.2)))))) else some (j6.brk a2))
theorem c9K:LQ U1 b9Q d4h (fun s=>a2Y s):=fun lc a2 h=>PK<|rg<|i9 6 h (fun h=>rg<|v5 u0 5 h fun entry S0 h=>rg<|t8 h fun e1 h=>om (V.sl 7 (a2.n.d9.length-(1:Int).toNat) (((a2.n.d9.map u0).drop (1:Int).toNat).take (a2.n.d9.length-(1:Int).toNat))=j4 7 u0 ((a2.n.d9.drop (1:Int).toNat).take (a2.n.d9.length-(1:Int).toNat))) (b3j e1)<|ob e1.1<|ob e1.2<|tl (6,{v:=some (j4 7 u0 ((a2.n.d9.drop (1:Int).toNat).take (a2.n.d9.length-(1:Int).toNat)))})<|rg<|j7 b7K c2Q 3 h fun a70 h=>A5 a2<|i9 4 h (fun h=>rg<|A5 a70.2<|fL lc h) (fun h=>(lc.nx h fun hI=>sk [] [0,2] [(37,0),(37,1),(37,2),(37,3),(37,4),(6,0)] hI))) (fun h=>(lc.bk h fun hI=>sk [] [2] [(1,0),(2,0),(3,0),(4,0),(5,0),(6,0)] hI))
def b2c(a1:m6):Option (j8×Bool×m6) :=
 ((p8 (fun s:m6=>a2Y s) a1).bind fun x=>x.go (fun r=>some r) fun s=>c2D s)
theorem d6t(r):NF U1 r c8d (fun s=>b2c s):=fun a1 h=>PK<|lp (c9K) h (fun _ h=>U1.rt h) (c71 r) fun hI=>sk [] [0,2] [(1,0),(2,0),(3,0),(4,0),(5,0),(6,0)] hI
def b46(a:m6):Option (j8×Bool×m6) :=
 (((bif a.n.i3 then ((a71 a a.n.b7.a0).bind fun a64=>(bif (!a64.1) then some (l7.ret (a64.2.n.b7,true,a64.2)) else some (l7.brk a64.2))) else some (l7.brk a)):Option (l7 (j8×Bool×m6) m6)).bind fun x=>x.go some fun j=>b2c j)
theorem d6f(a)(r):NF U1 r (c1i a) (fun s=>b46 a):=fun _ h=>PK<|C2 h (d6t r) fun x1 h hc1=>rg<|i9 5 h (fun h=>j7 b7K c2Q 13 h fun a64 h=>A5 a<|i9 15 h (fun h=>rg<|(E6 h hc1 fun h=>A5 a64.2<|fE h)) (fun h=>(p7 h hc1 fun hI=>sk [] [0,2] [(15,0),(15,1),(15,2),(15,3),(15,4),(1,0)] hI))) (fun h=>(p7 h hc1 fun hI=>sk [] [0,2] [(0,1),(0,2),(0,3),(0,4),(0,5),(1,0)] hI))
def d6c(a:m6):Int->KS:=fun i=>⟨U1.k 4 [false],(.ptr 0 0 0::(bs 1 (.ptr 1 0 0::(bs 2 (vi i::(bs 111 [])))))),[some ([.var 147 (b7x a)]++b5n a),some [.var 46 [.b false,vi 0,vi 0,.nil,.nil,vi 0,vi 0]]]⟩
def a2H(a:m6)(i:Int):Option (j6 (j8×Bool×m6) Int Unit) :=
 (bif decide (i<(a.n.g7.length:Int)) then ((idx a.n.g7 i).bind fun vote=>(bif (vote.a6 != 0) then some (j6.ret ((j8.mk true (m8.mk 0 0) (o7.mk [] [] 0 0)),true,a)) else some (j6.nxt (l9 (i+1))))) else some (j6.brk ()))
theorem d3r(a):LQ U1 (c1i a) (d6c a) (fun s=>a2H a s):=fun lc i h=>PK<|rg<|i9 7 h (fun h=>rg<|v5 s6 6 h fun vote a0V h=>i9 9 h (fun h=>rg<|A5 a<|fL lc h) (fun h=>rg<|(lc.nx h fun hI=>sk [] [0,2,5] [(1,0)] hI))) (fun h=>(lc.bk h fun hI=>sk [] [0,2] [(1,0)] hI))
def b01(a:m6):Option (j8×Bool×m6) :=
 ((p8 (fun s:Int=>a2H a s) (l9 ((a.n.a5.length:Int)+1))).bind fun x=>x.go (fun r=>some r) fun s=>b46 a)
theorem c6G(a)(r):NF U1 r (c7J a) (fun s=>b01 a):=fun _ h=>PK<|rg<|lp (d3r a) h (fun _ h=>U1.rt h) (d6f a r) fun hI=>sk [] [0,2,5] [(1,0)] hI
def b3e(a:m6):Option (j8×Bool×m6) :=
 (((bif decide ((a.n.a5.length:Int)<(a.n.g7.length:Int)) then ((idx a.n.g7 (a.n.a5.length:Int)).bind fun Q0=>(bif (Q0.a6 != 0) then some (l7.ret (Q0.d7,true,a)) else some (l7.brk ()))) else some (l7.brk ())):Option (l7 (j8×Bool×m6) Unit)).bind fun x=>x.go some fun j=>b01 a)
theorem d63{a}:OK U1 [.optr 147 (H9 a)] (b3e a) :=
 q8 _ fun r h=>o8<|C2 h (c6G a r) fun x1 h hc1=>rg<|i9 8 h (fun h=>v5 s6 15 h fun Q0 a2T h=>i9 19 h (fun h=>rg<|ixR s6 6 a2T<|(E6 h hc1 fun h=>A5 a<|fE h)) (fun h=>(p7 h hc1 fun hI=>sk [] [0,2,4] [(1,0)] hI))) (fun h=>(p7 h hc1 fun hI=>sk [] [0,2,4] [(1,0)] hI))
def b9w:FS (z4×Bool):=⟨103,Tryz.f103,[.val [none,some 8] [none,some 86],.val [] []],[none,none],[.val [none,some 8] [],.val [] []],fun r=>.tup [.agg [vi r.1.g9,A4 86 8 s6 r.1.a9],.b r.2],fun _=>[none,none],Tryz.func103⟩
def b6q(a:z4)(bal:Int):Option (z4×Bool) :=
 ((a6I a).bind fun Q1=>(bif (!Q1) then some ((z4.mk 0 []),false) else ((a2D a).bind fun L6=>((A7 bal 1 3000).bind fun in_=>(bif (!in_) then some (L6,false) else (bif decide (bal<a.g9) then some (L6,false) else some ((z4.mk bal L6.a9),true)))))))
theorem d4e{a bal}:OK b9w [.agg (a5s a),vi bal] (b6q a bal) :=
 q8 _ fun r h=>o8<|j7 a2Z b7h 1 h fun Q1 h=>i9 2 h (fun h=>rg<|fE h) (fun h=>rg<|j7 a5d a66 1 h fun L6 h=>rg<|j7 A6 B9 1 h fun in_ h=>i9 3 h (fun h=>rg<|z6 L6.a9<|fE h) (fun h=>i9 8 h (fun h=>rg<|z6 L6.a9<|fE h) (fun h=>o8<|z6 L6.a9<|fE h)))
def a38:FS (z4×Bool):=⟨125,Tryz.f125,[.val [none,some 8] [],.val [] []],[none,none,none,none],[.val [none,some 8] [],.val [] [],.val [] [],.val V8 []],fun r=>.tup [.agg (a5s r.1),.b r.2],fun _=>[none,none,none,none],Tryz.func125⟩
def c4j(bal:Int)(slot:Int)(e_:j8)(o:z4×Bool):(List n8)->KS:=fun a4d=>⟨a38.k 5 [false,false,false],(bs 1 (vi bal::(vi slot::(bs 4 (.ptr 1 0 0::(.ptr 2 0 0::(bs 1 (.ptr 3 0 0::(bs 40 []))))))))),[some [],some [.var 46 (a46 e_)],some [.var 58 [vi 0,.nil]],some [.var 58 [vi o.1.g9,.own 4 0 8 0 a4d.length]],some [m4 86 8 s6 a4d]]⟩
def b3Q(bal:Int)(slot:Int)(e_:j8)(o:z4×Bool)(a4d:List n8):Option (z4×Bool) :=
 ((idx a4d slot).bind fun vote=>((a2D (z4.mk o.1.g9 (a4d.set slot.toNat (n8.mk bal e_)))).bind fun b5r=>some (b5r,true)))
theorem d0E(bal slot e_ o)(r):NF a38 r (c4j bal slot e_ o) (fun s=>b3Q bal slot e_ o s):=fun a4d h=>PK<|rg<|B3 h fun vote a0V h=>E3 a0V<|R1 86 8 s6 7 a2R (n8.mk bal e_) a0V<|rg<|j7 a5d a66 1 h fun b5r h=>om (a4d.length=(a4d.set slot.toNat (n8.mk bal e_)).length) (by simp)<|z6 b5r.a9<|fE h
def d7G(bal:Int)(slot:Int)(e_:j8)(o:z4×Bool):(List n8)->KS:=fun a9=>⟨a38.k 4 [false,false],(bs 1 (vi bal::(vi slot::(bs 4 (.ptr 1 0 0::(.ptr 2 0 0::(bs 1 (.ptr 3 0 0::(bs 40 []))))))))),[some [],some [.var 46 (a46 e_)],some [.var 58 [vi 0,.nil]],some [.var 58 [vi o.1.g9,.own 4 0 8 0 a9.length]],some [m4 86 8 s6 a9]]⟩
def a4J(slot:Int)(a9:List n8):Option (j6 (z4×Bool) (List n8) (List n8)) :=
 (bif decide ((a9.length:Int)<=slot) then (s5 ((a9.length+1)*96<=140737488355328) (some (j6.nxt (a9++[(n8.mk 0 (j8.mk false (m8.mk 0 0) (o7.mk [] [] 0 0)))])))) else some (j6.brk a9))
theorem d7Q(bal slot e_ o):LQ a38 (c4j bal slot e_ o) (d7G bal slot e_ o) (fun s=>a4J slot s):=fun lc a9 h=>PK<|rg<|i9 4 h (fun h=>rg<|tk 3 a2R<|t8 h fun e1 h=>K2 4 14 86 8 96 s6 a9 (n8.mk 0 (j8.mk false (m8.mk 0 0) (o7.mk [] [] 0 0))) e1<|K0 (n8.mk 0 (j8.mk false (m8.mk 0 0) (o7.mk [] [] 0 0)))<|(lc.nx h fun hI=>sk [] [1,2,7,8,10] [(1,0),(2,0),(3,0),(14,0)] hI)) (fun h=>(lc.bk h fun hI=>sk [] [1,2,7,8,10] [(1,0),(2,0),(3,0),(4,0)] hI))
def a8v(a:z4)(bal:Int)(slot:Int)(e_:j8):Option (z4×Bool) :=
 ((b6q a bal).bind fun o=>(bif (!o.2) then some (o.1,false) else ((A7 slot 0 39).bind fun in_=>(bif (!in_) then ((a2D a).bind fun L6=>some (L6,false)) else ((a0a e_).bind fun P9=>(bif (!P9) then ((a2D a).bind fun b6B=>some (b6B,false)) else ((p8 (fun s:List n8=>a4J slot s) o.1.a9).bind fun x=>x.go (fun r=>some r) fun s=>b3Q bal slot e_ o s)))))))
theorem c26{a bal slot e_}:OK a38 [.agg (a5s a),vi bal,vi slot,.agg (u0 e_)] (a8v a bal slot e_) :=
 q8 _ fun r h=>o8<|j7 b9w d4e 2 h fun o h=>rg<|i9 1 h (fun h=>rg<|z6 o.1.a9<|fE h) (fun h=>rg<|j7 A6 B9 1 h fun in_ h=>i9 3 h (fun h=>rg<|j7 a5d a66 1 h fun L6 h=>z6 L6.a9<|fE h) (fun h=>j7 a1n a15 5 h fun P9 h=>i9 7 h (fun h=>rg<|j7 a5d a66 1 h fun b6B h=>z6 b6B.a9<|fE h) (fun h=>lp (d7Q bal slot e_ o) h (fun _ h=>a38.rt h) (d0E bal slot e_ o r) fun hI=>sk [] [1,2,7,8,10] [(2,0),(3,0),(11,0),(7,0)] hI)))
def b2Q:FS (m6):=⟨102,Tryz.f102,[],[some (0,.ptr E4 H8)],[.ptr E4 H8],fun _=>.tup [],fun r=>[some (.optr 147 (H9 r))],Tryz.func102⟩
def a8a(a:m6):Option m6 :=
 some (m6.mk (j5.mk a.n.Id a.n.Acc a.n.a5 a.n.Seq 0 0 [] [] (j8.mk false (m8.mk 0 0) (o7.mk [] [] 0 0)) [] a.n.i3 a.n.i5 a.n.b7 a.n.d9) a.out a.told)
theorem b50{a}:OK b2Q [.optr 147 (H9 a)] (a8a a) :=
 q8 _ fun r h=>rg4<|o8<|ol3 a.n.a5 a.out a.told<|fE h
def b3H:FS ((List Bool)×m6):=⟨104,Tryz.f104,[.val [some 1] [some 4]],[some (0,.ptr E4 H8)],[.ptr E4 H8],fun r=>A4 4 1 eB r.1,fun r=>[some (.optr 147 (H9 r.2))],Tryz.func104⟩
def a9K(a:m6):Option ((List Bool)×m6) :=
 (s5 (0<=(3:Int)/\(3:Int)*1<=140737488355328) (((idx (d9u (3:Int).toNat false) a.n.Id).bind fun y=>some ((d9u (3:Int).toNat false).set a.n.Id.toNat true,a))))
theorem c5V{a}:OK b3H [.optr 147 (H9 a)] (a9K a) :=
 q8 _ fun r h=>o8<|t8 h fun e1 h=>Q6 0 2 4 1 1 eB false ti4 (.none) e1 (by decide) (by rfl)<|rg<|B3 h fun y hy h=>E3 hy<|R1 4 1 eB 7 [] true hy<|rg<|om ((d9u (3:Int).toNat false).length=((d9u (3:Int).toNat false).set a.n.Id.toNat true).length) (by simp)<|A5 a<|fE h
def a3q:FS (m6):=⟨112,Tryz.f112,[],[some (0,.ptr E4 H8),none,none],[.ptr E4 H8,.val [] [],.val R2 []],fun _=>.tup [],fun r=>[some (.optr 147 (H9 r)),none,none],Tryz.func112⟩
def a1M(a:m6)(to:Int)(m:l8):Option m6 :=
 (s5 ((a.out.length+1)*152<=140737488355328) (some (m6.mk a.n (a.out++[(l8.mk m.a7 a.n.Id to m.a6 m.c9 m.d7 m.a9)]) a.told)))
theorem a40{a to m}:OK a3q [.optr 147 (H9 a),vi to,.agg (u5 m)] (a1M a to m) :=
 q8 _ fun r h=>rg4<|tk 6 R2<|t8 h fun e1 h=>K2 7 19 49 13 152 u5 a.out (l8.mk m.a7 a.n.Id to m.a6 m.c9 m.d7 m.a9) e1<|K0 (l8.mk m.a7 a.n.Id to m.a6 m.c9 m.d7 m.a9)<|ol4 a.n.a5 a.n.b8 a.n.a9 (a.out++[(l8.mk m.a7 a.n.Id to m.a6 m.c9 m.d7 m.a9)])<|z6 a.told<|fE h
def X6:FS (m6):=⟨100,Tryz.f100,[],[some (0,.ptr E4 H8),none],[.ptr E4 H8,.val R2 []],fun _=>.tup [],fun r=>[some (.optr 147 (H9 r)),none],Tryz.func100⟩
def c3A(m:l8):(Int×m6)->KS:=fun (to,a1)=>⟨X6.k 2 [],(.ptr 0 0 0::(bs 2 (.ptr 1 0 0::(vi to::(bs 15 []))))),[some [.var 147 (d0Z a1),.dead,.dead,.dead,.dead,.dead],some [.var 49 (b1g m)]]++d1b a1⟩
def d0e(m:l8)(to:Int):m6->KS:=fun a2=>⟨X6.k 5 [true,true],(.ptr 0 0 0::(bs 2 (.ptr 6 0 0::(vi to::(bs 15 []))))),[some [.var 147 (a7C a2),.dead,.dead,.dead,.dead,.dead]]++a1v a2++[some [.var 49 (b1g m)]]⟩
def b6L(to:Int)(a2:m6):Option (j6 m6 (Int×m6) Unit) :=
 some (j6.nxt (l9 (to+1),a2))
theorem d3d(m to)(lc:G1 X6 noK (c3A m)):NL lc (d0e m to) (fun s=>b6L to s):=fun a2 h=>PK<|rg<|(lc.nx h fun hI=>sk [] [0,3,4] [(6,0),(5,0),(4,0),(3,0),(2,0),(1,0)] hI)
def a2x(m:l8)(to:Int)(a1:m6):Option (j6 m6 (Int×m6) Unit) :=
 (bif decide (to<3) then (((bif (to != a1.n.Id) then ((a1M a1 to m).bind fun T1=>some (l7.brk T1)) else some (l7.brk a1)):Option (l7 (j6 m6 (Int×m6) Unit) m6)).bind fun x=>x.go some fun j=>b6L to j) else some (j6.ret a1))
theorem d47(m):LQ X6 noK (c3A m) (fun s=>a2x m s.1 s.2):=fun lc (to,a1) h=>PK<|rg<|i9 1 h (fun h=>C2 h (d3d m to lc) fun x2 h hc2=>rg<|i9 6 h (fun h=>rg<|j7 a3q a40 3 h fun T1 h=>A5 a1<|(p7 h hc2 fun hI=>sk [] [0,3,4] [(19,0),(19,1),(19,2),(19,3),(19,4),(1,0)] hI)) (fun h=>(p7 h hc2 fun hI=>sk [] [0,3,4] [(6,0),(5,0),(4,0),(3,0),(2,0),(1,0)] hI))) (fun h=>A5 a1<|fL lc h)
def a1B(a:m6)(m:l8):Option m6 :=
 ((p8 (fun s:Int×m6=>a2x m s.1 s.2) (0,a)).bind fun x=>x.go (fun r=>some r) fun _=>none)
theorem a3s{a m}:OK X6 [.optr 147 (H9 a),.agg (u5 m)] (a1B a m) :=
 q8 _ fun r h=>o8<|lp (d47 m) h (fun _ h=>X6.rt h) (fun _ h=>nomatch h) fun hI=>sk [] [0,3,4] [(1,0),(0,5),(0,4),(0,3),(0,2),(0,1)] hI
def a5U:FS (m6):=⟨99,Tryz.f99,[],[some (0,.ptr E4 H8)],[.ptr E4 H8],fun _=>.tup [],fun r=>[some (.optr 147 (H9 r))],Tryz.func99⟩
def a32(a:m6):Option m6 :=
 (bif (a.n.b5 != 2) then some a else (bif decide ((a.n.a5.length:Int)>=40) then some a else ((b3e a).bind fun next=>(bif (!next.2.1) then some next.2.2 else ((a8v next.2.2.n.Acc next.2.2.n.a6 (next.2.2.n.a5.length:Int) next.1).bind fun a5k=>(bif (!a5k.2) then ((a8a next.2.2).bind fun follow=>some follow) else ((a9K (m6.mk (j5.mk next.2.2.n.Id a5k.1 next.2.2.n.a5 next.2.2.n.Seq next.2.2.n.b5 next.2.2.n.a6 next.2.2.n.b8 next.2.2.n.g7 next.1 next.2.2.n.a9 next.2.2.n.i3 next.2.2.n.i5 next.2.2.n.b7 next.2.2.n.d9) next.2.2.out next.2.2.told)).bind fun B8=>((a1B (m6.mk (j5.mk B8.2.n.Id B8.2.n.Acc B8.2.n.a5 B8.2.n.Seq 3 B8.2.n.a6 B8.2.n.b8 B8.2.n.g7 B8.2.n.d6 B8.1 B8.2.n.i3 B8.2.n.i5 B8.2.n.b7 B8.2.n.d9) B8.2.out B8.2.told) (l8.mk 3 0 0 B8.2.n.a6 (B8.2.n.a5.length:Int) next.1 [])).bind fun all=>some all))))))))
theorem a7B{a}:OK a5U [.optr 147 (H9 a)] (a32 a) :=
 q8 _ fun r h=>rg<|i9 6 h (fun h=>A5 a<|fE h) (fun h=>i9 14 h (fun h=>A5 a<|fE h) (fun h=>rg<|j7 U1 d63 1 h fun next h=>A5 a<|rg<|i9 1 h (fun h=>A5 next.2.2<|fE h) (fun h=>rg<|j7 a38 c26 17 h fun a5k h=>rg<|i9 1 h (fun h=>rg<|j7 b2Q b50 1 h fun follow h=>A5 next.2.2<|A5 follow<|fE h) (fun h=>W9<|j7 b3H c5V 2 h fun B8 h=>A5 next.2.2<|o8<|j7 X6 a3s 14 h fun all h=>ol4 B8.2.n.a5 B8.2.n.b8 B8.1 B8.2.out<|z6 B8.2.told<|A5 all<|fE h))))
def b2E:FS (j5×(List l8)×List s9):=⟨68,Tryz.f68,[.val L3 [],.val [some 13] [],.val [some 5] []],[none,none],[.val L3 [],.val [some 4] []],fun r=>.tup [.agg (r9 r.1),j4 13 u5 r.2.1,j4 5 A3 r.2.2],fun _=>[none,none],Tryz.func68⟩
def d39:m6->KS:=fun a=>⟨b2E.k 11 [false,false,true],(bs 4 (.ptr 1 0 0::(bs 2 (.ptr 2 0 0::(bs 80 []))))),[some [],some [.var 61 [vi 0,vi 0,.nil,.nil,vi 0,vi 0,vi 0,.nil,.nil,.b false,vi 0,vi 0,.nil,.nil,vi 0,vi 0,.nil,.b false,.nil,.b false,vi 0,vi 0,.nil,.nil,vi 0,vi 0,.nil]],some [.var 147 (a9E a)]]++a1v a⟩
def b2H(a:m6):Option (j5×(List l8)×List s9) :=
 ((a0l a).bind fun b2R=>some (b2R.1,b2R.2.1,b2R.2.2.1))
theorem c6C(r):NF b2E r d39 (fun s=>b2H s):=fun a h=>PK<|rg<|j7 a14 a2U 1 h fun b2R h=>A5 a<|fE h
def b1P(n:j5)(prog:List m7):Option (j5×(List l8)×List s9) :=
 ((a1Q n).bind fun G0=>(bif (!G0) then some ((j5.mk 0 (z4.mk 0 []) [] 0 0 0 [] [] (j8.mk false (m8.mk 0 0) (o7.mk [] [] 0 0)) [] false [] (j8.mk false (m8.mk 0 0) (o7.mk [] [] 0 0)) []),[],[]) else ((a5A n).bind fun begin=>(bif n.i3 then ((a0l begin).bind fun R5=>some (R5.1,R5.2.1,R5.2.2.1)) else (bif (n.Seq==1000) then ((a0l begin).bind fun a21=>some (a21.1,a21.2.1,a21.2.2.1)) else ((a3A prog).bind fun C3=>(bif (!C3) then ((a0l begin).bind fun a2G=>some (a2G.1,a2G.2.1,a2G.2.2.1)) else ((a97 n).bind fun c4v=>((a7R c4v.d8 prog).bind fun B2=>(((bif (n.b5==2) then ((a32 (m6.mk (j5.mk begin.n.Id begin.n.Acc begin.n.a5 (l9 (begin.n.Seq+1)) begin.n.b5 begin.n.a6 begin.n.b8 begin.n.g7 begin.n.d6 begin.n.a9 true prog (j8.mk false (m8.mk n.Id (l9 (begin.n.Seq+1))) B2) begin.n.d9) begin.out begin.told)).bind fun S4=>some (l7.brk S4)) else (bif (n.b5==0) then ((a1B (m6.mk (j5.mk begin.n.Id begin.n.Acc begin.n.a5 (l9 (begin.n.Seq+1)) begin.n.b5 begin.n.a6 begin.n.b8 begin.n.g7 begin.n.d6 begin.n.a9 true prog (j8.mk false (m8.mk n.Id (l9 (begin.n.Seq+1))) B2) begin.n.d9) begin.out begin.told) (l8.mk 7 0 0 0 0 (j8.mk false (m8.mk n.Id (l9 (begin.n.Seq+1))) B2) [])).bind fun all=>some (l7.brk all)) else some (l7.brk (m6.mk (j5.mk begin.n.Id begin.n.Acc begin.n.a5 (l9 (begin.n.Seq+1)) begin.n.b5 begin.n.a6 begin.n.b8 begin.n.g7 begin.n.d6 begin.n.a9 true prog (j8.mk false (m8.mk n.Id (l9 (begin.n.Seq+1))) B2) begin.n.d9) begin.out begin.told)))):Option (l7 (j5×(List l8)×List s9) m6)).bind fun x=>x.go some fun j=>b2H j))))))))))
theorem d3T{n prog}:OK b2E [.agg (r9 n),j4 4 z8 prog] (b1P n prog) :=
 q8 _ fun r h=>o8<|j7 V5 a5z 1 h fun G0 h=>i9 2 h (fun h=>rg<|fE h) (fun h=>rg<|j7 a9k b3l 1 h fun begin h=>rg<|i9 2 h (fun h=>rg<|j7 a14 a2U 1 h fun R5 h=>K1 begin.n<|C1 begin.out begin.told<|fE h) (fun h=>i9 7 h (fun h=>rg<|j7 a14 a2U 1 h fun a21 h=>K1 begin.n<|C1 begin.out begin.told<|fE h) (fun h=>j7 a1s a9x 9 h fun C3 h=>i9 11 h (fun h=>rg<|j7 a14 a2U 1 h fun a2G h=>K1 begin.n<|C1 begin.out begin.told<|fE h) (fun h=>rg4<|j7 c2v d4g 10 h fun c4v h=>j7 K5 c1q 13 h fun B2 h=>rg<|C2 h (c6C r) fun x1 h hc1=>rg<|i9 1 h (fun h=>rg<|j7 a5U a7B 1 h fun S4 h=>K1 begin.n<|C1 begin.out begin.told<|(p7 h hc1 fun hI=>sk [] [4,7] [(2,0),(9,0),(68,0),(68,1),(68,2),(68,3),(68,4)] hI)) (fun h=>rg<|i9 1 h (fun h=>rg<|j7 X6 a3s 7 h fun all h=>K1 begin.n<|C1 begin.out begin.told<|(p7 h hc1 fun hI=>sk [] [4,7] [(2,0),(9,0),(76,0),(76,1),(76,2),(76,3),(76,4)] hI)) (fun h=>(p7 h hc1 fun hI=>z6 begin.n.d9<|sk [.frz (.cell 9 0 26) (none)] [4,7] [(2,0),(9,0),(9,1),(9,2),(9,3),(9,5),(9,6)] hI)))))))
def O0:FS (j9):=⟨69,Tryz.f69,[.val I5 om2],[none,none,none,none],[.val I5 om2,.val L3 [],.val [some 13] [],.val [some 5] []],fun r=>.agg (a4o r),fun _=>[none,none,none,none],Tryz.func69⟩
def b5C(w:j9)(n:j5)(told:List s9):(List l8)->KS:=fun Net1=>⟨O0.k 4 [false],(bs 3 (j4 5 A3 told::(.ptr 1 0 0::(bs 3 (.ptr 3 0 0::(bs 45 [])))))),[some [m4 61 27 r9 (w.a8.set n.Id.toNat n),.dead,m4 73 3 D6 w.f0,m4 76 5 A3 w.Told],some [.var 33 [.own 0 0 27 0 (w.a8.set n.Id.toNat n).length,.own 2 0 13 0 Net1.length,.own 0 2 3 0 w.f0.length,.own 0 3 5 0 w.Told.length]],some [m4 49 13 u5 Net1],some [.var 33 [.nil,.nil,.nil,.nil]]]⟩
def b4C(w:j9)(n:j5)(Net1:List l8):(List s9)->KS:=fun a6v=>⟨O0.k 6 [false,false],(bs 4 (.ptr 1 0 0::(bs 3 (.ptr 4 0 0::(bs 45 []))))),[some [m4 61 27 r9 (w.a8.set n.Id.toNat n),.dead,m4 73 3 D6 w.f0,.dead],some [.var 33 [.own 0 0 27 0 (w.a8.set n.Id.toNat n).length,.own 2 0 13 0 Net1.length,.own 0 2 3 0 w.f0.length,.own 3 0 5 0 a6v.length]],some [m4 49 13 u5 Net1],some [m4 76 5 A3 a6v],some [.var 33 [.nil,.nil,.nil,.nil]]]⟩
def b4q(w:j9)(n:j5)(Net1:List l8)(a6v:List s9):Option j9 :=
 some (j9.mk (w.a8.set n.Id.toNat n) Net1 w.f0 a6v)
theorem d1T(w n Net1)(r):NF O0 r (b4C w n Net1) (fun s=>b4q w n Net1 s):=fun a6v h=>PK<|rg<|ol4 (w.a8.set n.Id.toNat n) Net1 w.f0 a6v<|fE h
def b79(w:j9)(n:j5)(told:List s9)(Net1:List l8):((List s9)×Int)->KS:=fun (Told,v38)=>⟨O0.k 5 [false],(bs 4 (.ptr 1 0 0::(bs 3 (.ptr 3 0 0::(bs 27 (j4 5 A3 told::(vi (told.length:Int)::(vi v38::(bs 15 []))))))))),[some [m4 61 27 r9 (w.a8.set n.Id.toNat n),.dead,m4 73 3 D6 w.f0,.dead],some [.var 33 [.own 0 0 27 0 (w.a8.set n.Id.toNat n).length,.own 2 0 13 0 Net1.length,.own 0 2 3 0 w.f0.length,.own 4 0 5 0 Told.length]],some [m4 49 13 u5 Net1],some [.var 33 [.nil,.nil,.nil,.nil]],some [m4 76 5 A3 Told]]⟩
def d1P(w:j9)(n:j5)(told:List s9)(Net1:List l8)(v38:Int):(List s9)->KS:=fun a9v=>⟨O0.k 9 [false,true,true],(bs 4 (.ptr 1 0 0::(bs 3 (.ptr 4 0 0::(bs 27 (j4 5 A3 told::(vi (told.length:Int)::(vi v38::(bs 15 []))))))))),[some [m4 61 27 r9 (w.a8.set n.Id.toNat n),.dead,m4 73 3 D6 w.f0,.dead],some [.var 33 [.own 0 0 27 0 (w.a8.set n.Id.toNat n).length,.own 2 0 13 0 Net1.length,.own 0 2 3 0 w.f0.length,.own 3 0 5 0 a9v.length]],some [m4 49 13 u5 Net1],some [m4 76 5 A3 a9v],some [.var 33 [.nil,.nil,.nil,.nil]]]⟩
def b3q(v38:Int)(a9v:List s9):Option (j6 j9 ((List s9)×Int) (List s9)) :=
 some (j6.nxt (a9v,l9 (v38+1)))
theorem d0H(w n told Net1 v38)(lc:G1 O0 (b4C w n Net1) (b79 w n told Net1)):NL lc (d1P w n told Net1 v38) (fun s=>b3q v38 s):=fun a9v h=>PK<|rg<|(lc.nx h fun hI=>sk [] [4,8,36,37,38] [(1,0),(2,0),(4,0),(3,0)] hI)
def a1S(told:List s9)(Told:List s9)(v38:Int):Option (j6 j9 ((List s9)×Int) (List s9)) :=
 (bif decide (v38<(told.length:Int)) then ((idx told v38).bind fun b3v=>(((bif decide ((Told.length:Int)<60) then (s5 ((Told.length+1)*40<=140737488355328) (some (l7.brk (Told++[b3v])))) else some (l7.brk Told)):Option (l7 (j6 j9 ((List s9)×Int) (List s9)) (List s9))).bind fun x=>x.go some fun j=>b3q v38 j)) else some (j6.brk Told))
theorem c7f(w n told Net1):LQ O0 (b4C w n Net1) (b79 w n told Net1) (fun s=>a1S told s.1 s.2):=fun lc (Told,v38) h=>PK<|rg<|i9 0 h (fun h=>rg<|v5 A3 0 h fun b3v d9n h=>C2 h (d0H w n told Net1 v38 lc) fun x2 h hc2=>rg<|i9 3 h (fun h=>rg<|tk 3 []<|t8 h fun e1 h=>K2 4 18 76 5 40 A3 Told b3v e1<|K0 b3v<|(p7 h hc2 fun hI=>sk [] [4,8,36,37,38] [(1,0),(2,0),(18,0),(3,0)] hI)) (fun h=>(p7 h hc2 fun hI=>sk [] [4,8,36,37,38] [(1,0),(2,0),(4,0),(3,0)] hI))) (fun h=>(lc.bk h fun hI=>sk [] [4,8] [(1,0),(2,0),(4,0),(3,0)] hI))
def b6E(w:j9)(n:j5)(told:List s9)(Net1:List l8):Option j9 :=
 ((p8 (fun s:(List s9)×Int=>a1S told s.1 s.2) (w.Told,0)).bind fun x=>x.go (fun r=>some r) fun s=>b4q w n Net1 s)
theorem c95(w n told)(r):NF O0 r (b5C w n told) (fun s=>b6E w n told s):=fun Net1 h=>PK<|rg<|lp (c7f w n told Net1) h (fun _ h=>O0.rt h) (d1T w n Net1 r) fun hI=>sk [] [4,8,36,37,38] [(1,0),(2,0),(3,0),(0,3)] hI
def c5w(w:j9)(n:j5)(list:List l8)(told:List s9):((List l8)×Int)->KS:=fun (i0,v21)=>⟨O0.k 3 [],(bs 3 (j4 5 A3 told::(.ptr 1 0 0::(bs 3 (.ptr 2 0 0::(bs 10 (j4 13 u5 list::(vi (list.length:Int)::(vi v21::(bs 32 [])))))))))),[some [m4 61 27 r9 (w.a8.set n.Id.toNat n),.dead,m4 73 3 D6 w.f0,m4 76 5 A3 w.Told],some [.var 33 [.own 0 0 27 0 (w.a8.set n.Id.toNat n).length,.own 3 0 13 0 i0.length,.own 0 2 3 0 w.f0.length,.own 0 3 5 0 w.Told.length]],some [.var 33 [.nil,.nil,.nil,.nil]],some [m4 49 13 u5 i0]]⟩
def c7i(w:j9)(n:j5)(list:List l8)(told:List s9)(v21:Int):(List l8)->KS:=fun a7Q=>⟨O0.k 7 [true,true],(bs 3 (j4 5 A3 told::(.ptr 1 0 0::(bs 3 (.ptr 3 0 0::(bs 10 (j4 13 u5 list::(vi (list.length:Int)::(vi v21::(bs 32 [])))))))))),[some [m4 61 27 r9 (w.a8.set n.Id.toNat n),.dead,m4 73 3 D6 w.f0,m4 76 5 A3 w.Told],some [.var 33 [.own 0 0 27 0 (w.a8.set n.Id.toNat n).length,.own 2 0 13 0 a7Q.length,.own 0 2 3 0 w.f0.length,.own 0 3 5 0 w.Told.length]],some [m4 49 13 u5 a7Q],some [.var 33 [.nil,.nil,.nil,.nil]]]⟩
def b3o(v21:Int)(a7Q:List l8):Option (j6 j9 ((List l8)×Int) (List l8)) :=
 some (j6.nxt (a7Q,l9 (v21+1)))
theorem c7b(w n list told v21)(lc:G1 O0 (b5C w n told) (c5w w n list told)):NL lc (c7i w n list told v21) (fun s=>b3o v21 s):=fun a7Q h=>PK<|rg<|(lc.nx h fun hI=>sk [] [3,4,8,19,20,21] [(1,0),(3,0),(2,0)] hI)
def a1J(list:List l8)(i0:List l8)(v21:Int):Option (j6 j9 ((List l8)×Int) (List l8)) :=
 (bif decide (v21<(list.length:Int)) then ((idx list v21).bind fun msg=>(((bif decide ((i0.length:Int)<40) then (s5 ((i0.length+1)*152<=140737488355328) (some (l7.brk (i0++[msg])))) else some (l7.brk i0)):Option (l7 (j6 j9 ((List l8)×Int) (List l8)) (List l8))).bind fun x=>x.go some fun j=>b3o v21 j)) else some (j6.brk i0))
theorem d0W(w n list told):LQ O0 (b5C w n told) (c5w w n list told) (fun s=>a1J list s.1 s.2):=fun lc (i0,v21) h=>PK<|rg<|i9 0 h (fun h=>rg<|v5 u5 0 h fun msg hmsg h=>C2 h (c7b w n list told v21 lc) fun x2 h hc2=>rg<|i9 3 h (fun h=>rg<|tk 3 R2<|t8 h fun e2 h=>K2 4 17 49 13 152 u5 i0 msg e2<|K0 msg<|(p7 h hc2 fun hI=>sk [] [3,4,8,19,20,21] [(1,0),(17,0),(2,0)] hI)) (fun h=>(p7 h hc2 fun hI=>sk [] [3,4,8,19,20,21] [(1,0),(3,0),(2,0)] hI))) (fun h=>(lc.bk h fun hI=>sk [] [3,4,8] [(1,0),(3,0),(2,0)] hI))
def a2k(w:j9)(n:j5)(list:List l8)(told:List s9):Option j9 :=
 ((idx w.a8 n.Id).bind fun node=>((p8 (fun s:(List l8)×Int=>a1J list s.1 s.2) (w.i0,0)).bind fun x=>x.go (fun r=>some r) fun s=>b6E w n told s))
theorem a67{w n list told}:OK O0 [.agg (a4o w),.agg (r9 n),j4 13 u5 list,j4 5 A3 told] (a2k w n list told) :=
 q8 _ fun r h=>o8<|B3 h fun node hnode h=>E3 hnode<|R1 61 27 r9 6 L3 n hnode<|rg<|lp (d0W w n list told) h (fun _ h=>O0.rt h) (c95 w n told r) fun hI=>om ((.own 0 0 27 0 w.a8.length:V)=.own 0 0 27 0 (w.a8.set n.Id.toNat n).length) (by simp)<|sk [.is (.cell 1 0 0) (.own 0 0 27 0 (w.a8.set n.Id.toNat n).length)] [3,4,8,19,20,21] [(1,0),(3,0),(0,1)] hI
def a4q:FS (Int):=⟨101,Tryz.f101,[.val [] []],[none,none],[.val [] [],.val [] []],fun r=>vi r,fun _=>[none,none],Tryz.func101⟩
def b8t:Unit->KS:=fun _=>⟨a4q.k 4 [false,false],(bs 28 []),[some []]⟩
def c1x:Option Int :=
 some (-1)
theorem d41(r):NF a4q r b8t (fun s=>c1x):=fun _ h=>PK<|rg<|fE h
def d0u(who:Int):Int->KS:=fun n=>⟨a4q.k 3 [false],(bs 1 (vi who::(bs 3 (vi n::(bs 22 []))))),[some []]⟩
def a0L(who:Int)(n:Int):Option (j6 Int Int Unit) :=
 (bif decide (n<=3000) then (bif decide (n>0) then ((a9y n).bind fun a8Y=>(bif (a8Y==who) then some (j6.ret n) else some (j6.nxt (l9 (n+1))))) else some (j6.brk ())) else some (j6.brk ()))
theorem d3k(who):LQ a4q b8t (d0u who) (fun s=>a0L who s):=fun lc n h=>PK<|rg<|i9 2 h (fun h=>i9 5 h (fun h=>rg<|j7 b5s c5b 1 h fun a8Y h=>i9 3 h (fun h=>rg<|fL lc h) (fun h=>rg<|(lc.nx h fun hI=>sk [] [1,5] [] hI))) (fun h=>(lc.bk h fun hI=>sk [] [] [] hI))) (fun h=>(lc.bk h fun hI=>sk [] [] [] hI))
def a94(bal:Int)(who:Int):Option Int :=
 (bif decide (bal<0) then some (-1) else ((A7 who 0 2).bind fun in_=>(bif (!in_) then some (-1) else ((p8 (fun s:Int=>a0L who s) (l9 (bal+1))).bind fun x=>x.go (fun r=>some r) fun s=>c1x))))
theorem d7v{bal who}:OK a4q [vi bal,vi who] (a94 bal who) :=
 q8 _ fun r h=>o8<|i9 2 h (fun h=>rg<|fE h) (fun h=>j7 A6 B9 4 h fun in_ h=>i9 6 h (fun h=>rg<|fE h) (fun h=>rg<|lp (d3k who) h (fun _ h=>a4q.rt h) (d41 r) fun hI=>sk [] [1,5] [] hI))
def b2L:FS (z4×Bool):=⟨103,Tryz.f103,[.val [none,some 8] [],.val [] []],[none,none],[.val [none,some 8] [],.val [] []],fun r=>.tup [.agg (a5s r.1),.b r.2],fun _=>[none,none],Tryz.func103⟩
def a6G(a:z4)(bal:Int):Option (z4×Bool) :=
 ((a6I a).bind fun Q1=>(bif (!Q1) then some ((z4.mk 0 []),false) else ((a2D a).bind fun L6=>((A7 bal 1 3000).bind fun in_=>(bif (!in_) then some (L6,false) else (bif decide (bal<a.g9) then some (L6,false) else some ((z4.mk bal L6.a9),true)))))))
theorem b4p{a bal}:OK b2L [.agg (a5s a),vi bal] (a6G a bal) :=
 q8 _ fun r h=>o8<|j7 a2Z b7h 1 h fun Q1 h=>i9 2 h (fun h=>rg<|fE h) (fun h=>rg<|j7 a5d a66 1 h fun L6 h=>rg<|j7 A6 B9 1 h fun in_ h=>i9 3 h (fun h=>rg<|z6 L6.a9<|fE h) (fun h=>i9 8 h (fun h=>rg<|z6 L6.a9<|fE h) (fun h=>o8<|z6 L6.a9<|fE h)))
def b1k:FS (j5×List l8):=⟨70,Tryz.f70,[.val L3 [],.val [some 13] []],[none],[.val L3 []],fun r=>.tup [.agg (r9 r.1),j4 13 u5 r.2],fun _=>[none],Tryz.func70⟩
def d5Q:m6->KS:=fun a=>⟨b1k.k 12 [false,true],(bs 2 (.ptr 1 0 0::(bs 1 (.ptr 2 0 0::(bs 74 []))))),[some [],some [.var 61 [vi 0,vi 0,.nil,.nil,vi 0,vi 0,vi 0,.nil,.nil,.b false,vi 0,vi 0,.nil,.nil,vi 0,vi 0,.nil,.b false,.nil,.b false,vi 0,vi 0,.nil,.nil,vi 0,vi 0,.nil]],some [.var 147 (a9E a)]]++a1v a⟩
def a9w(a:m6):Option (j5×List l8) :=
 ((a0l a).bind fun R5=>some (R5.1,R5.2.1))
theorem d31(r):NF b1k r d5Q (fun s=>a9w s):=fun a h=>PK<|rg<|j7 a14 a2U 1 h fun R5 h=>A5 a<|rg<|fE h
def b1F(n:j5):Option (j5×List l8) :=
 ((a1Q n).bind fun G0=>(bif (!G0) then some ((j5.mk 0 (z4.mk 0 []) [] 0 0 0 [] [] (j8.mk false (m8.mk 0 0) (o7.mk [] [] 0 0)) [] false [] (j8.mk false (m8.mk 0 0) (o7.mk [] [] 0 0)) []),[]) else ((a5A n).bind fun begin=>((a94 n.Acc.g9 n.Id).bind fun a7S=>(((bif decide (a7S>=0) then ((a8a begin).bind fun follow=>((a6G follow.n.Acc a7S).bind fun P6=>((a9K (m6.mk (j5.mk follow.n.Id P6.1 follow.n.a5 follow.n.Seq 1 a7S follow.n.b8 follow.n.g7 follow.n.d6 follow.n.a9 follow.n.i3 follow.n.i5 follow.n.b7 follow.n.d9) follow.out follow.told)).bind fun B8=>((a1B (m6.mk (j5.mk B8.2.n.Id B8.2.n.Acc B8.2.n.a5 B8.2.n.Seq B8.2.n.b5 B8.2.n.a6 B8.1 B8.2.n.Acc.a9 B8.2.n.d6 B8.2.n.a9 B8.2.n.i3 B8.2.n.i5 B8.2.n.b7 B8.2.n.d9) B8.2.out B8.2.told) (l8.mk 1 0 0 a7S (n.a5.length:Int) (j8.mk false (m8.mk 0 0) (o7.mk [] [] 0 0)) [])).bind fun all=>some (l7.brk all))))) else some (l7.brk begin)):Option (l7 (j5×List l8) m6)).bind fun x=>x.go some fun j=>a9w j)))))
theorem c9M{n}:OK b1k [.agg (r9 n)] (b1F n) :=
 q8 _ fun r h=>o8<|j7 V5 a5z 1 h fun G0 h=>i9 2 h (fun h=>rg<|fE h) (fun h=>rg<|j7 a9k b3l 1 h fun begin h=>rg<|j7 a4q d7v 5 h fun a7S h=>C2 h (d31 r) fun x1 h hc1=>rg<|i9 1 h (fun h=>rg<|j7 b2Q b50 1 h fun follow h=>K1 begin.n<|C1 begin.out begin.told<|rg<|j7 b2L b4p 7 h fun P6 h=>W9<|j7 b3H c5V 2 h fun B8 h=>A5 follow<|o8<|j7 X6 a3s 6 h fun all h=>ol4 B8.2.n.a5 B8.1 B8.2.n.a9 B8.2.out<|z6 B8.2.told<|(p7 h hc1 fun hI=>sk [] [2,4] [(2,0),(8,0),(71,0),(71,1),(71,2),(71,3),(71,4)] hI)) (fun h=>(p7 h hc1 fun hI=>z6 begin.n.d9<|sk [.frz (.cell 8 0 26) (none)] [2,4] [(2,0),(8,0),(8,1),(8,2),(8,3),(8,5),(8,6)] hI)))
def b0F:FS (j5×(List l8)×List s9):=⟨71,Tryz.f71,[.val L3 [],.val [some 13] [],.val [some 5] []],[none],[.val L3 []],fun r=>.tup [.agg (r9 r.1),j4 13 u5 r.2.1,j4 5 A3 r.2.2],fun _=>[none],Tryz.func71⟩
def d7f:m6->KS:=fun a=>⟨b0F.k 7 [false,true],(bs 2 (.ptr 1 0 0::(bs 2 (.ptr 2 0 0::(bs 55 []))))),[some [],some [.var 61 [vi 0,vi 0,.nil,.nil,vi 0,vi 0,vi 0,.nil,.nil,.b false,vi 0,vi 0,.nil,.nil,vi 0,vi 0,.nil,.b false,.nil,.b false,vi 0,vi 0,.nil,.nil,vi 0,vi 0,.nil]],some [.var 147 (a9E a)]]++a1v a⟩
def a90(a:m6):Option (j5×(List l8)×List s9) :=
 ((a0l a).bind fun R5=>some (R5.1,R5.2.1,R5.2.2.1))
theorem d2l(r):NF b0F r d7f (fun s=>a90 s):=fun a h=>PK<|rg<|j7 a14 a2U 1 h fun R5 h=>A5 a<|fE h
def b2K(n:j5):Option (j5×(List l8)×List s9) :=
 ((a1Q n).bind fun G0=>(bif (!G0) then some ((j5.mk 0 (z4.mk 0 []) [] 0 0 0 [] [] (j8.mk false (m8.mk 0 0) (o7.mk [] [] 0 0)) [] false [] (j8.mk false (m8.mk 0 0) (o7.mk [] [] 0 0)) []),[],[]) else ((a5A n).bind fun begin=>((a1B begin (l8.mk 8 0 0 0 (n.a5.length:Int) (j8.mk false (m8.mk 0 0) (o7.mk [] [] 0 0)) [])).bind fun all=>(((bif (n.b5==1) then ((a1B all (l8.mk 1 0 0 n.a6 (n.a5.length:Int) (j8.mk false (m8.mk 0 0) (o7.mk [] [] 0 0)) [])).bind fun b9v=>some (l7.brk b9v)) else (bif (n.b5==2) then ((a32 all).bind fun S4=>some (l7.brk S4)) else (bif (n.b5==3) then ((a1B all (l8.mk 3 0 0 n.a6 (n.a5.length:Int) n.d6 [])).bind fun c2K=>some (l7.brk c2K)) else (bif n.i3 then ((a1B all (l8.mk 7 0 0 0 0 n.b7 [])).bind fun c1u=>some (l7.brk c1u)) else some (l7.brk all))))):Option (l7 (j5×(List l8)×List s9) m6)).bind fun x=>x.go some fun j=>a90 j)))))
theorem d6u{n}:OK b0F [.agg (r9 n)] (b2K n) :=
 q8 _ fun r h=>o8<|j7 V5 a5z 1 h fun G0 h=>i9 2 h (fun h=>rg<|fE h) (fun h=>rg<|j7 a9k b3l 1 h fun begin h=>o8<|j7 X6 a3s 3 h fun all h=>K1 begin.n<|C1 begin.out begin.told<|C2 h (d2l r) fun x1 h hc1=>rg<|i9 3 h (fun h=>rg<|j7 X6 a3s 5 h fun b9v h=>A5 all<|(p7 h hc1 fun hI=>sk [] [2,5] [(2,0),(9,0),(28,0),(28,1),(28,2),(28,3),(28,4)] hI)) (fun h=>rg<|i9 3 h (fun h=>rg<|j7 a5U a7B 1 h fun S4 h=>A5 all<|(p7 h hc1 fun hI=>sk [] [2,5] [(2,0),(9,0),(28,0),(28,1),(28,2),(28,3),(28,4)] hI)) (fun h=>rg<|i9 3 h (fun h=>rg<|j7 X6 a3s 7 h fun c2K h=>A5 all<|(p7 h hc1 fun hI=>sk [] [2,5] [(2,0),(9,0),(38,0),(38,1),(38,2),(38,3),(38,4)] hI)) (fun h=>rg<|i9 2 h (fun h=>rg<|j7 X6 a3s 4 h fun c1u h=>A5 all<|(p7 h hc1 fun hI=>sk [] [2,5] [(2,0),(9,0),(38,0),(38,1),(38,2),(38,3),(38,4)] hI)) (fun h=>(p7 h hc1 fun hI=>sk [] [2,5] [(2,0),(9,0),(18,0),(18,1),(18,2),(18,3),(18,4)] hI))))))
def c4q:FS (j5):=⟨72,Tryz.f72,[.val L3 []],[none],[.val L3 []],fun r=>.agg (r9 r),fun _=>[none],Tryz.func72⟩
def b0n(n:j5):Option j5 :=
 ((a1Q n).bind fun G0=>(bif (!G0) then some (j5.mk 0 (z4.mk 0 []) [] 0 0 0 [] [] (j8.mk false (m8.mk 0 0) (o7.mk [] [] 0 0)) [] false [] (j8.mk false (m8.mk 0 0) (o7.mk [] [] 0 0)) []) else ((a4N (j5.mk n.Id n.Acc n.a5 n.Seq 0 0 [] [] (j8.mk false (m8.mk 0 0) (o7.mk [] [] 0 0)) [] false [] (j8.mk false (m8.mk 0 0) (o7.mk [] [] 0 0)) [])).bind fun Q9=>some Q9)))
theorem d3B{n}:OK c4q [.agg (r9 n)] (b0n n) :=
 q8 _ fun r h=>o8<|j7 V5 a5z 1 h fun G0 h=>i9 2 h (fun h=>rg<|fE h) (fun h=>rg<|j7 a9j b1d 9 h fun Q9 h=>K1 Q9<|fE h)
def a5E:FS (j9):=⟨39,Tryz.f39,[.val I5 om2],[none,none],[.val I5 om2,.val [none,none,some 4] []],fun r=>.agg (a4o r),fun _=>[none,none],Tryz.func39⟩
def d0V:j9->KS:=fun w1=>⟨a5E.k 9 [true,false,true],(bs 2 (.ptr 1 0 0::(bs 1 (.ptr 6 0 0::(bs 86 []))))),[some [.dead,.dead,.dead,.dead],some [.var 33 [.own 2 0 27 0 w1.a8.length,.own 3 0 13 0 w1.i0.length,.own 4 0 3 0 w1.f0.length,.own 5 0 5 0 w1.Told.length]],some [m4 61 27 r9 w1.a8],some [m4 49 13 u5 w1.i0],some [m4 73 3 D6 w1.f0],some [m4 76 5 A3 w1.Told],some [.var 33 [.nil,.nil,.nil,.nil]]]⟩
def b3g(w1:j9):Option j9 :=
 some w1
theorem d3l(r):NF a5E r d0V (fun s=>b3g s):=fun w1 h=>PK<|rg<|K4 w1<|fE h
def a4b(w:j9)(e_:G5):Option j9 :=
 ((idx w.a8 e_.A).bind fun node=>(((bif (e_.a7==1) then (bif decide ((w.f0.length:Int)>=60) then some (l7.ret w) else ((b1P node e_.i5).bind fun a36=>((a2k w a36.1 a36.2.1 a36.2.2).bind fun a1d=>(bif (a36.1.Seq != node.Seq) then (s5 ((a1d.f0.length+1)*40<=140737488355328) (some (l7.brk (j9.mk a1d.a8 a1d.i0 (a1d.f0++[(D5.mk (m8.mk node.Id a36.1.Seq) e_.i5)]) a1d.Told)))) else some (l7.brk a1d))))) else (bif (e_.a7==5) then ((b1F node).bind fun b6w=>((a2k w b6w.1 b6w.2 []).bind fun a8y=>some (l7.brk a8y))) else (bif (e_.a7==6) then ((b2K node).bind fun b0l=>((a2k w b0l.1 b0l.2.1 b0l.2.2).bind fun b99=>some (l7.brk b99))) else (bif (e_.a7==7) then ((b0n node).bind fun c6g=>((a2k w c6g [] []).bind fun c5d=>some (l7.brk c5d))) else some (l7.brk w))))):Option (l7 j9 j9)).bind fun x=>x.go some fun j=>b3g j))
theorem b08{w e_}:OK a5E [.agg (a4o w),.agg (b19 e_)] (a4b w e_) :=
 q8 _ fun r h=>o8<|B3 h fun node hnode h=>E3 hnode<|T4 r9 5 hnode<|rg<|C2 h (d3l r) fun x1 h hc1=>rg<|i9 1 h (fun h=>rg<|i9 3 h (fun h=>rg<|(E6 h hc1 fun h=>K4 w<|fE h)) (fun h=>rg<|j7 b2E d3T 3 h fun a36 h=>rg<|j7 O0 a67 4 h fun a1d h=>K4 w<|rg<|i9 4 h (fun h=>rg<|tk 10 [none,none,some 4]<|t8 h fun e1 h=>K2 11 54 73 3 40 D6 a1d.f0 (D5.mk (m8.mk node.Id a36.1.Seq) e_.i5) e1<|K0 (D5.mk (m8.mk node.Id a36.1.Seq) e_.i5)<|(p7 h hc1 fun hI=>sk [] [2,4] [(1,0),(36,0),(36,1),(54,0),(36,3),(3,0)] hI)) (fun h=>(p7 h hc1 fun hI=>sk [] [2,4] [(1,0),(36,0),(36,1),(36,2),(36,3),(3,0)] hI)))) (fun h=>rg<|i9 1 h (fun h=>rg<|j7 b1k c9M 1 h fun b6w h=>rg<|j7 O0 a67 3 h fun a8y h=>K4 w<|(p7 h hc1 fun hI=>sk [] [2,4] [(1,0),(29,0),(29,1),(29,2),(29,3),(3,0)] hI)) (fun h=>rg<|i9 1 h (fun h=>rg<|j7 b0F d6u 1 h fun b0l h=>rg<|j7 O0 a67 4 h fun b99 h=>K4 w<|(p7 h hc1 fun hI=>sk [] [2,4] [(1,0),(34,0),(34,1),(34,2),(34,3),(3,0)] hI)) (fun h=>rg<|i9 1 h (fun h=>rg<|j7 c4q d3B 2 h fun c6g h=>j7 O0 a67 3 h fun c5d h=>K4 w<|(p7 h hc1 fun hI=>sk [] [2,4] [(1,0),(25,0),(25,1),(25,2),(25,3),(3,0)] hI)) (fun h=>(p7 h hc1 fun hI=>sk [] [2,4] [(1,0),(0,0),(0,1),(0,2),(0,3),(3,0)] hI)))))
def b6y:FS (List l8):=⟨73,Tryz.f73,[.val [some 13] [some 49]],[none,none],[.val [some 13] [],.val [] []],fun r=>A4 49 13 u5 r,fun _=>[none,none],Tryz.func73⟩
def a9t(list:List l8)(at_:Int):Option (List l8) :=
 (s5 ((0:Int)<=at_/\at_<=(list.length:Int)) ((s5 ((([]:List l8).length+((list.drop 0).take (at_.toNat-0)).length)*152<=140737488355328) ((s5 ((0:Int)<=l9 (at_+1)/\l9 (at_+1)<=(list.length:Int)) ((s5 (((([]:List l8)++((list.drop 0).take (at_.toNat-0))).length+((list.drop (l9 (at_+1)).toNat).take (list.length-(l9 (at_+1)).toNat)).length)*152<=140737488355328) (some ((([]:List l8)++((list.drop 0).take (at_.toNat-0)))++((list.drop (l9 (at_+1)).toNat).take (list.length-(l9 (at_+1)).toNat)))))))))))
theorem c3F{list at_}:OK b6y [j4 13 u5 list,vi at_] (a9t list at_) :=
 q8 _ fun r h=>o8<|tk 0 R2<|t8 h fun e1 h=>om (V.sl 13 (at_.toNat-0) (((list.map u5).drop 0).take (at_.toNat-0))=j4 13 u5 ((list.drop 0).take (at_.toNat-0))) (b7Z e1)<|ob e1.1<|ob e1.2<|tl (3,{v:=some (j4 13 u5 ((list.drop 0).take (at_.toNat-0)))})<|t8 h fun e2 h=>om (V.own 6 0 13 0 (([]:List l8).length+((list.drop 0).take (at_.toNat-0)).length)=.own 6 0 13 0 (([]:List l8)++((list.drop 0).take (at_.toNat-0))).length) (by first|exact congrArg (V.own 6 0 13 0) d9E.symm|simp)<|om (n9.row 49 13 (([]:List l8).length+((list.drop 0).take (at_.toNat-0)).length) (([]:List l8).map u5++((list.drop 0).take (at_.toNat-0)).map u5)=m4 49 13 u5 (([]:List l8)++((list.drop 0).take (at_.toNat-0)))) (by first|exact b4V rfl rfl|simp [m4])<|ol0 l8<|ob e2<|tl (4,{v:=some (.own 6 0 13 0 (([]:List l8)++((list.drop 0).take (at_.toNat-0))).length),e:=some (m4 49 13 u5 (([]:List l8)++((list.drop 0).take (at_.toNat-0))))})<|t8 h fun e3 h=>om (V.sl 13 (list.length-(l9 (at_+1)).toNat) (((list.map u5).drop (l9 (at_+1)).toNat).take (list.length-(l9 (at_+1)).toNat))=j4 13 u5 ((list.drop (l9 (at_+1)).toNat).take (list.length-(l9 (at_+1)).toNat))) (b3j e3)<|ob e3.1<|ob e3.2<|tl (8,{v:=some (j4 13 u5 ((list.drop (l9 (at_+1)).toNat).take (list.length-(l9 (at_+1)).toNat)))})<|t8 h fun e4 h=>apL 9 11 49 13 152 u5 (([]:List l8)++((list.drop 0).take (at_.toNat-0))) ((list.drop (l9 (at_+1)).toNat).take (list.length-(l9 (at_+1)).toNat)) e4<|z6 ((([]:List l8)++((list.drop 0).take (at_.toNat-0)))++((list.drop (l9 (at_+1)).toNat).take (list.length-(l9 (at_+1)).toNat)))<|fE h
def a9R:FS (m6):=⟨110,Tryz.f110,[],[some (0,.ptr E4 H8),none],[.ptr E4 H8,.val [] []],fun _=>.tup [],fun r=>[some (.optr 147 (H9 r)),none],Tryz.func110⟩
def a53(a:m6)(bal:Int):Option m6 :=
 (bif (a.n.b5 != 0) then (bif decide (bal>a.n.a6) then ((a8a a).bind fun follow=>some follow) else some a) else some a)
theorem b4J{a bal}:OK a9R [.optr 147 (H9 a),vi bal] (a53 a bal) :=
 q8 _ fun r h=>rg<|i9 6 h (fun h=>i9 14 h (fun h=>rg<|j7 b2Q b50 1 h fun follow h=>A5 a<|A5 follow<|fE h) (fun h=>A5 a<|fE h)) (fun h=>A5 a<|fE h)
def b0q:FS (m6):=⟨105,Tryz.f105,[],[some (0,.ptr E4 H8),none],[.ptr E4 H8,.val R2 []],fun _=>.tup [],fun r=>[some (.optr 147 (H9 r)),none],Tryz.func105⟩
def c9c(m:l8)(yield:m6):(List n8)->KS:=fun b1O=>⟨b0q.k 8 [false,true],(.ptr 0 0 0::(bs 2 (.ptr 6 0 0::(bs 2 (j4 8 s6 b1O::(bs 54 [])))))),[some [.var 147 (a7C yield),.dead,.dead,.dead,.dead,.dead]]++a1v yield++[some [.var 49 (b1g m)]]⟩
def b2V(m:l8)(yield:m6)(b1O:List n8):Option m6 :=
 ((a1M yield m.b8 (l8.mk 2 0 0 m.a6 m.c9 (j8.mk false (m8.mk 0 0) (o7.mk [] [] 0 0)) b1O)).bind fun a4C=>some a4C)
theorem c7W(m yield)(r):NF b0q r (c9c m yield) (fun s=>b2V m yield s):=fun b1O h=>PK<|rg<|j7 a3q a40 9 h fun a4C h=>A5 yield<|A5 a4C<|fE h
def b1C(a:m6)(m:l8):Option m6 :=
 ((a6G a.n.Acc m.a6).bind fun P6=>(bif (!P6.2) then ((a1M a m.b8 (l8.mk 6 0 0 a.n.Acc.g9 0 (j8.mk false (m8.mk 0 0) (o7.mk [] [] 0 0)) [])).bind fun T1=>some T1) else ((a53 (m6.mk (j5.mk a.n.Id P6.1 a.n.a5 a.n.Seq a.n.b5 a.n.a6 a.n.b8 a.n.g7 a.n.d6 a.n.a9 a.n.i3 a.n.i5 a.n.b7 a.n.d9) a.out a.told) m.a6).bind fun yield=>(((bif decide (m.c9<(P6.1.a9.length:Int)) then (s5 ((0:Int)<=m.c9/\m.c9<=(P6.1.a9.length:Int)) (some (l7.brk ((P6.1.a9.drop m.c9.toNat).take (P6.1.a9.length-m.c9.toNat))))) else some (l7.brk [])):Option (l7 m6 (List n8))).bind fun x=>x.go some fun j=>b2V m yield j))))
theorem d7k{a m}:OK b0q [.optr 147 (H9 a),.agg (u5 m)] (b1C a m) :=
 q8 _ fun r h=>o8<|j7 b2L b4p 7 h fun P6 h=>rg<|i9 1 h (fun h=>rg<|j7 a3q a40 10 h fun T1 h=>A5 a<|A5 T1<|fE h) (fun h=>o8<|j7 a9R b4J 3 h fun yield h=>A5 a<|rg<|C2 h (c7W m yield r) fun x1 h hc1=>rg<|i9 5 h (fun h=>rg<|t8 h fun e1 h=>om (V.sl 8 (P6.1.a9.length-m.c9.toNat) (((P6.1.a9.map s6).drop m.c9.toNat).take (P6.1.a9.length-m.c9.toNat))=j4 8 s6 ((P6.1.a9.drop m.c9.toNat).take (P6.1.a9.length-m.c9.toNat))) (b3j e1)<|ob e1.1<|ob e1.2<|tl (4,{v:=some (j4 8 s6 ((P6.1.a9.drop m.c9.toNat).take (P6.1.a9.length-m.c9.toNat)))})<|(p7 h hc1 fun hI=>sk [] [0,3,6] [(27,0),(27,1),(27,2),(27,3),(27,4),(1,0)] hI)) (fun h=>(p7 h hc1 fun hI=>sk [.frz (.tmp 6) (some 8)] [0,3,6] [(27,0),(27,1),(27,2),(27,3),(27,4),(1,0)] hI)))
def a1x:FS (List n8):=⟨126,Tryz.f126,[.val [some 8] []],[none,none],[.val [some 8] [],.val [some 8] []],fun r=>j4 8 s6 r,fun _=>[none,none],Tryz.func126⟩
def b3k:(List n8)->KS:=fun out1=>⟨a1x.k 5 [false,false],(bs 5 (.own 1 0 8 0 out1.length::(bs 67 []))),[some [],some [m4 86 8 s6 out1]]⟩
def b5N(out1:List n8):Option (List n8) :=
 ((a4L out1).bind fun W0=>some W0)
theorem d17(r):NF a1x r b3k (fun s=>b5N s):=fun out1 h=>PK<|rg<|j7 a1E b1W 1 h fun W0 h=>C1 out1 W0<|fE h
def b5R(a:List n8)(b:List n8):((List n8)×Int)->KS:=fun (out,i)=>⟨a1x.k 4 [false],(j4 8 s6 a::(j4 8 s6 b::(bs 3 (.own 1 0 8 0 out.length::(vi i::(bs 66 [])))))),[some [],some [m4 86 8 s6 out]]⟩
def d20(a:List n8)(b:List n8)(out:List n8)(i:Int):Unit->KS:=fun _=>⟨a1x.k 5 [false,true],(j4 8 s6 a::(j4 8 s6 b::(bs 3 (.own 1 0 8 0 out.length::(vi i::(bs 66 [])))))),[some [],some [m4 86 8 s6 out]]⟩
def d4m(a:List n8)(b:List n8)(i:Int):(List n8)->KS:=fun out2=>⟨a1x.k 7 [false,true,true],(j4 8 s6 a::(j4 8 s6 b::(bs 3 (.own 1 0 8 0 out2.length::(vi i::(bs 66 [])))))),[some [],some [m4 86 8 s6 out2]]⟩
def b6r(i:Int)(out2:List n8):Option (j6 (List n8) ((List n8)×Int) (List n8)) :=
 some (j6.nxt (out2,l9 (i+1)))
theorem d0z(a b i)(lc:G1 a1x b3k (b5R a b)):NL lc (d4m a b i) (fun s=>b6r i s):=fun out2 h=>PK<|rg<|(lc.nx h fun hI=>sk [] [0,1,5,6] [(1,0)] hI)
def b28(a:List n8)(b:List n8)(out:List n8)(i:Int):Option (j6 (List n8) ((List n8)×Int) (List n8)) :=
 (((bif decide (i>=(a.length:Int)) then ((idx b i).bind fun vote=>(s5 ((out.length+1)*96<=140737488355328) (some (l7.brk (out++[vote]))))) else (bif decide (i>=(b.length:Int)) then ((idx a i).bind fun Q0=>(s5 ((out.length+1)*96<=140737488355328) (some (l7.brk (out++[Q0]))))) else ((idx a i).bind fun a8c=>((idx b i).bind fun a8l=>(bif decide (a8c.a6>=a8l.a6) then (s5 ((out.length+1)*96<=140737488355328) (some (l7.brk (out++[a8c])))) else (s5 ((out.length+1)*96<=140737488355328) (some (l7.brk (out++[a8l]))))))))):Option (l7 (j6 (List n8) ((List n8)×Int) (List n8)) (List n8))).bind fun x=>x.go some fun j=>b6r i j)
theorem d8Y(a b out i)(lc:G1 a1x b3k (b5R a b)):NL lc (d20 a b out i) (fun s=>b28 a b out i):=fun _ h=>PK<|C2 h (d0z a b i lc) fun x2 h hc2=>rg<|i9 4 h (fun h=>rg<|v5 s6 3 h fun vote a0V h=>tk 5 a2R<|t8 h fun e1 h=>K2 6 13 86 8 96 s6 out vote e1<|K0 vote<|(p7 h hc2 fun hI=>sk [] [0,1,5,6] [(13,0)] hI)) (fun h=>rg<|i9 4 h (fun h=>rg<|v5 s6 3 h fun Q0 a2T h=>tk 5 a2R<|t8 h fun e2 h=>K2 6 31 86 8 96 s6 out Q0 e2<|K0 Q0<|(p7 h hc2 fun hI=>sk [] [0,1,5,6] [(31,0)] hI)) (fun h=>v5 s6 7 h fun a8c d2E h=>v5 s6 12 h fun a8l d06 h=>i9 17 h (fun h=>rg<|ixR s6 3 d2E<|tk 5 a2R<|t8 h fun e3 h=>K2 6 31 86 8 96 s6 out a8c e3<|K0 a8c<|(p7 h hc2 fun hI=>sk [] [0,1,5,6] [(31,0)] hI)) (fun h=>rg<|ixR s6 3 d06<|tk 5 a2R<|t8 h fun e4 h=>K2 6 31 86 8 96 s6 out a8l e4<|K0 a8l<|(p7 h hc2 fun hI=>sk [] [0,1,5,6] [(31,0)] hI))))
def a3t(a:List n8)(b:List n8)(out:List n8)(i:Int):Option (j6 (List n8) ((List n8)×Int) (List n8)) :=
 (((bif decide (i<(a.length:Int)) then some (l7.brk ()) else (bif decide (i<(b.length:Int)) then some (l7.brk ()) else some (l7.ret (j6.brk out)))):Option (l7 (j6 (List n8) ((List n8)×Int) (List n8)) Unit)).bind fun x=>x.go some fun j=>b28 a b out i)
theorem d48(a b):LQ a1x b3k (b5R a b) (fun s=>a3t a b s.1 s.2):=fun lc (out,i) h=>PK<|C2 h (d8Y a b out i lc) fun x2 h hc2=>rg<|i9 4 h (fun h=>(p7 h hc2 fun hI=>sk [] [0,1,5,6] [(1,0)] hI)) (fun h=>i9 9 h (fun h=>(p7 h hc2 fun hI=>sk [] [0,1,5,6] [(1,0)] hI)) (fun h=>(E6 h hc2 fun h=>(lc.bk h fun hI=>sk [] [5] [(1,0)] hI))))
def b2J(a:List n8)(b:List n8):Option (List n8) :=
 ((a4a a).bind fun L7=>(bif (!L7) then some [] else ((a4a b).bind fun c3v=>(bif (!c3v) then some [] else ((p8 (fun s:(List n8)×Int=>a3t a b s.1 s.2) ([],0)).bind fun x=>x.go (fun r=>some r) fun s=>b5N s)))))
theorem d8H{a b}:OK a1x [j4 8 s6 a,j4 8 s6 b] (b2J a b) :=
 q8 _ fun r h=>o8<|j7 a1k a9m 1 h fun L7 h=>i9 3 h (fun h=>rg<|fE h) (fun h=>j7 a1k a9m 5 h fun c3v h=>i9 7 h (fun h=>rg<|fE h) (fun h=>o8<|lp (d48 a b) h (fun _ h=>a1x.rt h) (d17 r) fun hI=>sk [.own (.tmp 5) 86 8] [0,1,5,6] [(12,0)] hI))
def a1W:FS (Int):=⟨127,Tryz.f127,[.val [] []],[none],[.val [some 1] []],fun r=>vi r,fun _=>[none],Tryz.func127⟩
def b4O:Int->KS:=fun n1=>⟨a1W.k 4 [false],(bs 3 (vi n1::(bs 13 []))),[some []]⟩
def c4z(n1:Int):Option Int :=
 some n1
theorem d8O(r):NF a1W r b4O (fun s=>c4z s):=fun n1 h=>PK<|rg<|fE h
def b8v(list:List Bool):(Int×Int)->KS:=fun (n,v8)=>⟨a1W.k 3 [],(bs 3 (vi n::(bs 2 (j4 1 eB list::(vi (list.length:Int)::(vi v8::(bs 8 []))))))),[some []]⟩
def d1D(list:List Bool)(v8:Int):Int->KS:=fun n2=>⟨a1W.k 7 [true,true],(bs 3 (vi n2::(bs 2 (j4 1 eB list::(vi (list.length:Int)::(vi v8::(bs 8 []))))))),[some []]⟩
def b7G(v8:Int)(n2:Int):Option (j6 Int (Int×Int) Int) :=
 some (j6.nxt (n2,l9 (v8+1)))
theorem d6M(list v8)(lc:G1 a1W b4O (b8v list)):NL lc (d1D list v8) (fun s=>b7G v8 s):=fun n2 h=>PK<|rg<|(lc.nx h fun hI=>sk [] [3,6,7,8] [] hI)
def a2o(list:List Bool)(n:Int)(v8:Int):Option (j6 Int (Int×Int) Int) :=
 (bif decide (v8<(list.length:Int)) then ((idx list v8).bind fun y=>(((bif y then some (l7.brk (l9 (n+1))) else some (l7.brk n)):Option (l7 (j6 Int (Int×Int) Int) Int)).bind fun x=>x.go some fun j=>b7G v8 j)) else some (j6.brk n))
theorem d4q(list):LQ a1W b4O (b8v list) (fun s=>a2o list s.1 s.2):=fun lc (n,v8) h=>PK<|rg<|i9 0 h (fun h=>rg<|v5 eB 0 h fun y hy h=>C2 h (d6M list v8 lc) fun x2 h hc2=>rg<|i9 0 h (fun h=>rg<|(p7 h hc2 fun hI=>sk [] [3,6,7,8] [] hI)) (fun h=>(p7 h hc2 fun hI=>sk [] [3,6,7,8] [] hI))) (fun h=>(lc.bk h fun hI=>sk [] [3] [] hI))
def a7v(list:List Bool):Option Int :=
 ((p8 (fun s:Int×Int=>a2o list s.1 s.2) (0,0)).bind fun x=>x.go (fun r=>some r) fun s=>c4z s)
theorem c2m{list}:OK a1W [j4 1 eB list] (a7v list) :=
 q8 _ fun r h=>W9<|lp (d4q list) h (fun _ h=>a1W.rt h) (d8O r) fun hI=>sk [] [3,6,7,8] [] hI
def b9L:FS (m6):=⟨106,Tryz.f106,[],[some (0,.ptr E4 H8),none],[.ptr E4 H8,.val R2 []],fun _=>.tup [],fun r=>[some (.optr 147 (H9 r)),none],Tryz.func106⟩
def a91(a:m6)(m:l8):Option m6 :=
 (bif (a.n.b5 != 1) then some a else (bif (m.a6 != a.n.a6) then some a else ((idx a.n.b8 m.b8).bind fun y=>(s5 (0<=m.c9/\m.c9*96<=140737488355328) ((s5 (((d9u m.c9.toNat (n8.mk 0 (j8.mk false (m8.mk 0 0) (o7.mk [] [] 0 0)))).length+m.a9.length)*96<=140737488355328) (((b2J a.n.g7 ((d9u m.c9.toNat (n8.mk 0 (j8.mk false (m8.mk 0 0) (o7.mk [] [] 0 0))))++m.a9)).bind fun b6n=>((a7v (a.n.b8.set m.b8.toNat true)).bind fun a7X=>(bif decide (a7X>=2) then ((a32 (m6.mk (j5.mk a.n.Id a.n.Acc a.n.a5 a.n.Seq 2 a.n.a6 [] b6n a.n.d6 a.n.a9 a.n.i3 a.n.i5 a.n.b7 a.n.d9) a.out a.told)).bind fun S4=>some S4) else some (m6.mk (j5.mk a.n.Id a.n.Acc a.n.a5 a.n.Seq a.n.b5 a.n.a6 (a.n.b8.set m.b8.toNat true) b6n a.n.d6 a.n.a9 a.n.i3 a.n.i5 a.n.b7 a.n.d9) a.out a.told)))))))))))
theorem c79{a m}:OK b9L [.optr 147 (H9 a),.agg (u5 m)] (a91 a m) :=
 q8 _ fun r h=>o8<|i9 6 h (fun h=>A5 a<|fE h) (fun h=>i9 15 h (fun h=>A5 a<|fE h) (fun h=>rg<|B3 h fun y hy h=>E3 hy<|R1 4 1 eB 8 [] true hy<|rg<|t8 h fun e1 h=>Q6 8 35 86 8 96 s6 (n8.mk 0 (j8.mk false (m8.mk 0 0) (o7.mk [] [] 0 0))) b2F (.ck a2R) e1 (by decide) (by rfl)<|t8 h fun e2 h=>apL 11 38 86 8 96 s6 (d9u m.c9.toNat (n8.mk 0 (j8.mk false (m8.mk 0 0) (o7.mk [] [] 0 0)))) m.a9 e2<|j7 a1x d8H 12 h fun b6n h=>z6 ((d9u m.c9.toNat (n8.mk 0 (j8.mk false (m8.mk 0 0) (o7.mk [] [] 0 0))))++m.a9)<|rg<|cb1 a1W c2m 5 1 h fun a7X h=>om (a.n.b8.length=(a.n.b8.set m.b8.toNat true).length) (by simp)<|i9 6 h (fun h=>W9<|j7 a5U a7B 1 h fun S4 h=>ol4 a.n.a5 a.n.a9 a.out a.told<|A5 S4<|fE h) (fun h=>z6 a.n.a5<|om (a.n.b8.length=(a.n.b8.set m.b8.toNat true).length) (by simp)<|ol3 a.n.a9 a.out a.told<|fE h)))
def c20:FS (m6):=⟨107,Tryz.f107,[],[some (0,.ptr E4 H8),none],[.ptr E4 H8,.val R2 []],fun _=>.tup [],fun r=>[some (.optr 147 (H9 r)),none],Tryz.func107⟩
def b1Q(a:m6)(m:l8):Option m6 :=
 ((a8v a.n.Acc m.a6 m.c9 m.d7).bind fun a5k=>(bif (!a5k.2) then ((a1M a m.b8 (l8.mk 6 0 0 a.n.Acc.g9 0 (j8.mk false (m8.mk 0 0) (o7.mk [] [] 0 0)) [])).bind fun T1=>some T1) else ((a53 (m6.mk (j5.mk a.n.Id a5k.1 a.n.a5 a.n.Seq a.n.b5 a.n.a6 a.n.b8 a.n.g7 a.n.d6 a.n.a9 a.n.i3 a.n.i5 a.n.b7 a.n.d9) a.out a.told) m.a6).bind fun yield=>((a1M yield m.b8 (l8.mk 4 0 0 m.a6 m.c9 (j8.mk false (m8.mk 0 0) (o7.mk [] [] 0 0)) [])).bind fun a4C=>some a4C))))
theorem d4k{a m}:OK c20 [.optr 147 (H9 a),.agg (u5 m)] (b1Q a m) :=
 q8 _ fun r h=>o8<|j7 a38 c26 11 h fun a5k h=>rg<|i9 1 h (fun h=>rg<|j7 a3q a40 10 h fun T1 h=>A5 a<|A5 T1<|fE h) (fun h=>o8<|j7 a9R b4J 3 h fun yield h=>A5 a<|rg<|j7 a3q a40 8 h fun a4C h=>A5 yield<|A5 a4C<|fE h)
def a0E:FS (m6):=⟨128,Tryz.f128,[],[some (0,.ptr E4 H8),none],[.ptr E4 H8,.val V8 []],fun _=>.tup [],fun r=>[some (.optr 147 (H9 r)),none],Tryz.func128⟩
def d05:m6->KS:=fun a1=>⟨a0E.k 6 [true],(.ptr 0 0 0::(bs 123 [])),[some ([.var 147 (c2W a1),.dead,m4 4 1 eB a1.n.b8,.dead]++b8O a1)]++c0C a1⟩
def c1U:m6->KS:=fun a2=>⟨a0E.k 16 [true,true,true],(.ptr 0 0 0::(bs 123 [])),[some [.var 147 (c8M a2),.dead,m4 4 1 eB a2.n.b8,.dead,m4 49 13 u5 a2.out,.dead]]++d8g a2⟩
def b0Y(a2:m6):Option m6 :=
 ((a32 a2).bind fun S4=>some S4)
theorem d24(r):NF a0E r c1U (fun s=>b0Y s):=fun a2 h=>PK<|rg<|j7 a5U a7B 1 h fun S4 h=>A5 a2<|A5 S4<|fE h
def c91(a1:m6)(y:Int):Int->KS:=fun a6p=>⟨a0E.k 12 [true,true,true],(.ptr 0 0 0::(bs 6 (.ptr 3 0 0::(bs 116 [])))),[some ([.var 147 (c2W a1),.dead,m4 4 1 eB a1.n.b8,.dead]++b8O a1)]++c0C a1++[some [.var 76 [vi a1.n.Id,vi a1.n.b7.a0.b6,vi a1.n.b7.a0.Seq,vi y,vi a6p]]]⟩
def b1G(a1:m6)(y:Int)(a6p:Int):Option (l7 m6 m6) :=
 (s5 ((a1.told.length+1)*40<=140737488355328) (some (l7.brk (m6.mk (j5.mk a1.n.Id a1.n.Acc a1.n.a5 a1.n.Seq a1.n.b5 a1.n.a6 a1.n.b8 a1.n.g7 a1.n.d6 a1.n.a9 false [] (j8.mk false (m8.mk 0 0) (o7.mk [] [] 0 0)) a1.n.d9) a1.out (a1.told++[(s9.mk a1.n.Id a1.n.b7.a0 y a6p)])))))
theorem d85(a1 y)(r){x1}(hc1:JC (fun j=>FK cx a0E.X (a0E.R r) (a0E.O r) (c1U j)) r x1):NG a0E r (c91 a1 y) (fun s=>b1G a1 y s) x1:=fun a6p h=>PK<|rg<|tk 6 []<|t8 h fun e2 h=>K2 7 11 76 5 40 A3 a1.told (s9.mk a1.n.Id a1.n.b7.a0 y a6p) e2<|K0 (s9.mk a1.n.Id a1.n.b7.a0 y a6p)<|W9<|(p7 h hc1 fun hI=>sk [.frz (.cell 0 0 18) (some 4),.frz (.cell 0 0 22) (some 2),.frz (.cell 0 0 23) (some 2)] [0] [(1,0),(2,0),(11,0)] hI)
def b03(a1:m6):Option m6 :=
 ((a3d a1.n.a5 a1.n.b7.a0).bind fun first=>(((bif a1.n.i3 then (bif decide (first>=0) then ((a4G a1.n.a5).bind fun m9=>((idx m9.2 first).bind fun y=>(((bif (y==0) then ((idx a1.n.a5 first).bind fun entry=>some (l7.brk entry.c7.c8)) else some (l7.brk 0)):Option (l7 (l7 m6 m6) Int)).bind fun x=>x.go some fun j=>b1G a1 y j))) else some (l7.brk a1)) else some (l7.brk a1)):Option (l7 m6 m6)).bind fun x=>x.go some fun j=>b0Y j))
theorem d2b(r):NF a0E r d05 (fun s=>b03 s):=fun a1 h=>PK<|rg<|cb1 a0t a9H 11 2 h fun first h=>z6 a1.n.a5<|C2 h (d24 r) fun x1 h hc1=>rg<|i9 5 h (fun h=>i9 8 h (fun h=>rg<|cbS a1r b1v 5 (fun _=>(by simp [a1r,N3,U6,P7,V.simple,vi,A4,a7O,u6,D4,eI,I9,a8D])) (fun _=>(Z8 1)) h fun m9 h=>z6 a1.n.a5<|rg<|B3 h fun y hy h=>E3 hy<|T4 eI 14 hy<|C2 h (d85 a1 y r hc1) fun x2 h hc2=>rg<|i9 2 h (fun h=>rg<|B3 h fun entry S0 h=>E3 S0<|T4 u0 9 S0<|(p7 h hc2 fun hI=>sk [] [0,7] [(1,0),(2,0),(53,0)] hI)) (fun h=>(p7 h hc2 fun hI=>sk [] [0,7] [(1,0),(2,0),(53,0)] hI))) (fun h=>(p7 h hc1 fun hI=>sk [] [0] [(1,0),(2,0),(0,5)] hI))) (fun h=>(p7 h hc1 fun hI=>sk [] [0] [(1,0),(2,0),(0,5)] hI))
def a9A(a:m6)(e_:j8):Option m6 :=
 (s5 ((a.n.a5.length+1)*88<=140737488355328) ((((bif (a.n.b5==3) then some (l7.brk (m6.mk (j5.mk a.n.Id a.n.Acc (a.n.a5++[e_]) a.n.Seq 2 a.n.a6 a.n.b8 a.n.g7 (j8.mk false (m8.mk 0 0) (o7.mk [] [] 0 0)) [] a.n.i3 a.n.i5 a.n.b7 a.n.d9) a.out a.told)) else some (l7.brk (m6.mk (j5.mk a.n.Id a.n.Acc (a.n.a5++[e_]) a.n.Seq a.n.b5 a.n.a6 a.n.b8 a.n.g7 a.n.d6 a.n.a9 a.n.i3 a.n.i5 a.n.b7 a.n.d9) a.out a.told))):Option (l7 m6 m6)).bind fun x=>x.go some fun j=>b03 j)))
theorem c4C{a e_}:OK a0E [.optr 147 (H9 a),.agg (u0 e_)] (a9A a e_) :=
 q8 _ fun r h=>o8<|tk 7 V8<|t8 h fun e1 h=>K2 8 10 46 7 88 u0 a.n.a5 e_ e1<|K0 e_<|C2 h (d2b r) fun x1 h hc1=>rg<|i9 5 h (fun h=>W9<|(p7 h hc1 fun hI=>sk [.frz (.cell 0 0 12) (some 2),.frz (.cell 0 0 13) (some 2),.own (.cell 0 0 16) 4 1,.kill 0 3] [0] [(10,0),(37,0)] hI)) (fun h=>(p7 h hc1 fun hI=>sk [] [0] [(10,0),(0,3)] hI))
def b9T:FS (m6):=⟨108,Tryz.f108,[],[some (0,.ptr E4 H8),none],[.ptr E4 H8,.val R2 []],fun _=>.tup [],fun r=>[some (.optr 147 (H9 r)),none],Tryz.func108⟩
def b0i(a:m6)(m:l8):Option m6 :=
 (bif (a.n.b5 != 3) then some a else (bif (m.a6 != a.n.a6) then some a else (bif (m.c9 != (a.n.a5.length:Int)) then some a else ((idx a.n.a9 m.b8).bind fun y=>((a7v (a.n.a9.set m.b8.toNat true)).bind fun a7X=>(bif decide (a7X>=2) then ((a1B (m6.mk (j5.mk a.n.Id a.n.Acc a.n.a5 a.n.Seq a.n.b5 a.n.a6 a.n.b8 a.n.g7 a.n.d6 (a.n.a9.set m.b8.toNat true) a.n.i3 a.n.i5 a.n.b7 a.n.d9) a.out a.told) (l8.mk 5 0 0 0 m.c9 a.n.d6 [])).bind fun all=>((a9A all all.n.d6).bind fun a5e=>some a5e)) else some (m6.mk (j5.mk a.n.Id a.n.Acc a.n.a5 a.n.Seq a.n.b5 a.n.a6 a.n.b8 a.n.g7 a.n.d6 (a.n.a9.set m.b8.toNat true) a.n.i3 a.n.i5 a.n.b7 a.n.d9) a.out a.told)))))))
theorem d1t{a m}:OK b9T [.optr 147 (H9 a),.agg (u5 m)] (b0i a m) :=
 q8 _ fun r h=>o8<|i9 6 h (fun h=>A5 a<|fE h) (fun h=>i9 16 h (fun h=>A5 a<|fE h) (fun h=>i9 26 h (fun h=>A5 a<|fE h) (fun h=>rg<|B3 h fun y hy h=>E3 hy<|R1 4 1 eB 8 [] true hy<|rg<|cb1 a1W c2m 5 1 h fun a7X h=>om (a.n.a9.length=(a.n.a9.set m.b8.toNat true).length) (by simp)<|i9 6 h (fun h=>rg<|j7 X6 a3s 9 h fun all h=>C1 a.n.a5 a.n.b8<|om (a.n.a9.length=(a.n.a9.set m.b8.toNat true).length) (by simp)<|C1 a.out a.told<|rg<|j7 a0E c4C 6 h fun a5e h=>A5 all<|A5 a5e<|fE h) (fun h=>C1 a.n.a5 a.n.b8<|om (a.n.a9.length=(a.n.a9.set m.b8.toNat true).length) (by simp)<|C1 a.out a.told<|fE h))))
def c0D:FS (m6):=⟨109,Tryz.f109,[],[some (0,.ptr E4 H8),none],[.ptr E4 H8,.val R2 []],fun _=>.tup [],fun r=>[some (.optr 147 (H9 r)),none],Tryz.func109⟩
def b3s(a:m6)(m:l8):Option m6 :=
 (bif decide (m.c9<(a.n.a5.length:Int)) then some a else (bif decide (m.c9>(a.n.a5.length:Int)) then ((a1M a m.b8 (l8.mk 8 0 0 0 (a.n.a5.length:Int) (j8.mk false (m8.mk 0 0) (o7.mk [] [] 0 0)) [])).bind fun T1=>some T1) else ((a9A a m.d7).bind fun a5e=>some a5e)))
theorem d08{a m}:OK c0D [.optr 147 (H9 a),.agg (u5 m)] (b3s a m) :=
 q8 _ fun r h=>o8<|i9 9 h (fun h=>A5 a<|fE h) (fun h=>rg<|i9 9 h (fun h=>rg<|j7 a3q a40 10 h fun T1 h=>A5 a<|A5 T1<|fE h) (fun h=>rg<|j7 a0E c4C 3 h fun a5e h=>A5 a<|A5 a5e<|fE h))
def b9e:FS (Bool×m6):=⟨129,Tryz.f129,[.val [] []],[some (0,.ptr E4 om3),none],[.ptr E4 om3,.val [] []],fun r=>.b r.1,fun r=>[some (.optr 147 (a9P r.2)),none],Tryz.func129⟩
def b0J(a:m6)(q:m8):Option (Bool×m6) :=
 ((a3d a.n.a5 q).bind fun first=>some (decide (first>=0),a))
theorem d8L{a q}:OK b9e [.optr 147 (a9P a),.agg (I9 q)] (b0J a q) :=
 q8 _ fun r h=>o8<|cb1 a0t a9H 6 2 h fun first h=>z6 a.n.a5<|K1 a.n<|C1 a.out a.told<|fE h
def c0x:FS (m6):=⟨111,Tryz.f111,[],[some (0,.ptr E4 H8),none],[.ptr E4 om3,.val R2 []],fun _=>.tup [],fun r=>[some (.optr 147 (H9 r)),none],Tryz.func111⟩
def b3b(a:m6)(m:l8):Option m6 :=
 (bif (a.n.b5==0) then some a else (bif decide ((a.n.d9.length:Int)>=4) then some a else ((b0J a m.d7.a0).bind fun v_=>(bif v_.1 then some v_.2 else (s5 ((v_.2.n.d9.length+1)*88<=140737488355328) (((a32 (m6.mk (j5.mk v_.2.n.Id v_.2.n.Acc v_.2.n.a5 v_.2.n.Seq v_.2.n.b5 v_.2.n.a6 v_.2.n.b8 v_.2.n.g7 v_.2.n.d6 v_.2.n.a9 v_.2.n.i3 v_.2.n.i5 v_.2.n.b7 (v_.2.n.d9++[m.d7])) v_.2.out v_.2.told)).bind fun S4=>some S4)))))))
theorem c7Q{a m}:OK c0x [.optr 147 (a9P a),.agg (u5 m)] (b3b a m) :=
 q8 _ fun r h=>o8<|i9 6 h (fun h=>K1 a.n<|C1 a.out a.told<|fE h) (fun h=>i9 15 h (fun h=>K1 a.n<|C1 a.out a.told<|fE h) (fun h=>j7 b9e d8L 20 h fun v_ h=>K1 a.n<|C1 a.out a.told<|i9 21 h (fun h=>K1 v_.2.n<|C1 v_.2.out v_.2.told<|fE h) (fun h=>rg<|tk 8 V8<|t8 h fun e1 h=>K2 9 33 46 7 88 u0 v_.2.n.d9 m.d7 e1<|K0 m.d7<|rg<|j7 a5U a7B 1 h fun S4 h=>ol4 v_.2.n.a5 v_.2.n.b8 v_.2.n.a9 (v_.2.n.d9++[m.d7])<|C1 v_.2.out v_.2.told<|A5 S4<|fE h)))
def a0W:FS (j5×(List l8)×List s9):=⟨74,Tryz.f74,[.val L3 [],.val [some 13] [],.val [some 5] []],[none,none],[.val L3 [],.val R2 []],fun r=>.tup [.agg (r9 r.1),j4 13 u5 r.2.1,j4 5 A3 r.2.2],fun _=>[none,none],Tryz.func74⟩
def c41:m6->KS:=fun a=>⟨a0W.k 7 [false,false,true],(bs 4 (.ptr 1 0 0::(bs 2 (.ptr 2 0 0::(bs 108 []))))),[some [],some [.var 61 [vi 0,vi 0,.nil,.nil,vi 0,vi 0,vi 0,.nil,.nil,.b false,vi 0,vi 0,.nil,.nil,vi 0,vi 0,.nil,.b false,.nil,.b false,vi 0,vi 0,.nil,.nil,vi 0,vi 0,.nil]],some [.var 147 (a9E a)]]++a1v a⟩
def b0t(a:m6):Option (j5×(List l8)×List s9) :=
 ((a0l a).bind fun a2G=>some (a2G.1,a2G.2.1,a2G.2.2.1))
theorem d7a(r):NF a0W r c41 (fun s=>b0t s):=fun a h=>PK<|rg<|j7 a14 a2U 1 h fun a2G h=>A5 a<|fE h
def c0V:m6->KS:=fun a2=>⟨a0W.k 15 [false,false,false,false,false,false,false,false,false,true,false],(bs 4 (.ptr 1 0 0::(bs 2 (.ptr 2 0 0::(bs 108 []))))),[some [],some [.var 61 [vi 0,vi 0,.nil,.nil,vi 0,vi 0,vi 0,.nil,.nil,.b false,vi 0,vi 0,.nil,.nil,vi 0,vi 0,.nil,.b false,.nil,.b false,vi 0,vi 0,.nil,.nil,vi 0,vi 0,.nil]],some [.var 147 (a9E a2)]]++a1v a2⟩
def c4V(a2:m6):Option (l7 (j5×(List l8)×List s9) m6) :=
 some (l7.brk a2)
theorem d66(r){x1}(hc1:JC (fun j=>FK cx a0W.X (a0W.R r) (a0W.O r) (c41 j)) r x1):NG a0W r c0V (fun s=>c4V s) x1:=fun a2 h=>PK<|(p7 h hc1 fun hI=>sk [] [4,7] [(1,0),(2,0),(3,0),(4,0),(5,0),(6,0),(7,0)] hI)
def d7p(m:l8):(Int×m6)->KS:=fun (i,a1)=>⟨a0W.k 14 [false,false,false,false,false,false,false,false,false,true],(bs 3 (.ptr 1 0 0::(.ptr 2 0 0::(bs 2 (.ptr 3 0 0::(vi i::(bs 107 []))))))),[some [],some [.var 49 (b1g m)],some [.var 61 [vi 0,vi 0,.nil,.nil,vi 0,vi 0,vi 0,.nil,.nil,.b false,vi 0,vi 0,.nil,.nil,vi 0,vi 0,.nil,.b false,.nil,.b false,vi 0,vi 0,.nil,.nil,vi 0,vi 0,.nil]],some [.var 147 (c9t a1)]]++a1v a1⟩
def a3n(m:l8)(i:Int)(a1:m6):Option (j6 (j5×(List l8)×List s9) (Int×m6) m6) :=
 (bif decide (i<(a1.n.a5.length:Int)) then ((idx a1.n.a5 i).bind fun entry=>((a1M a1 m.b8 (l8.mk 5 0 0 0 i entry [])).bind fun T1=>some (j6.nxt (l9 (i+1),T1)))) else some (j6.brk a1))
theorem d6o(m):LQ a0W c0V (d7p m) (fun s=>a3n m s.1 s.2):=fun lc (i,a1) h=>PK<|rg<|i9 7 h (fun h=>rg<|B3 h fun entry S0 h=>E3 S0<|T4 u0 11 S0<|j7 a3q a40 13 h fun T1 h=>A5 a1<|rg<|(lc.nx h fun hI=>sk [] [3,4,7,8] [(1,0),(2,0),(3,0),(30,0),(30,1),(30,2),(30,3),(30,4)] hI)) (fun h=>(lc.bk h fun hI=>sk [] [4,7] [(2,0),(3,0),(4,0),(5,0),(6,0),(7,0),(8,0)] hI))
def a9Y(n:j5)(m:l8):Option (j5×(List l8)×List s9) :=
 ((a1Q n).bind fun G0=>(bif (!G0) then some ((j5.mk 0 (z4.mk 0 []) [] 0 0 0 [] [] (j8.mk false (m8.mk 0 0) (o7.mk [] [] 0 0)) [] false [] (j8.mk false (m8.mk 0 0) (o7.mk [] [] 0 0)) []),[],[]) else ((a5A n).bind fun begin=>((a7p m).bind fun V7=>(bif (!V7) then ((a0l begin).bind fun R5=>some (R5.1,R5.2.1,R5.2.2.1)) else (bif (m.To != n.Id) then ((a0l begin).bind fun a21=>some (a21.1,a21.2.1,a21.2.2.1)) else (((bif (m.a7==1) then ((b1C begin m).bind fun c6c=>some (l7.brk c6c)) else (bif (m.a7==2) then ((a91 begin m).bind fun c33=>some (l7.brk c33)) else (bif (m.a7==3) then ((b1Q begin m).bind fun c3i=>some (l7.brk c3i)) else (bif (m.a7==4) then ((b0i begin m).bind fun c0q=>some (l7.brk c0q)) else (bif (m.a7==5) then ((b3s begin m).bind fun b75=>some (l7.brk b75)) else (bif (m.a7==6) then ((a6G begin.n.Acc m.a6).bind fun P6=>((a53 (m6.mk (j5.mk begin.n.Id P6.1 begin.n.a5 begin.n.Seq begin.n.b5 begin.n.a6 begin.n.b8 begin.n.g7 begin.n.d6 begin.n.a9 begin.n.i3 begin.n.i5 begin.n.b7 begin.n.d9) begin.out begin.told) m.a6).bind fun yield=>some (l7.brk yield))) else (bif (m.a7==7) then ((b3b begin m).bind fun asked=>some (l7.brk asked)) else (bif (m.a7==8) then ((p8 (fun s:Int×m6=>a3n m s.1 s.2) (m.c9,begin)).bind fun x=>x.go (fun r=>some (l7.ret r)) fun s=>c4V s) else some (l7.brk begin))))))))):Option (l7 (j5×(List l8)×List s9) m6)).bind fun x=>x.go some fun j=>b0t j)))))))
set_option maxRecDepth 20000 in
theorem c8o{n m}:OK a0W [.agg (r9 n),.agg (u5 m)] (a9Y n m) :=
 q8 _ fun r h=>o8<|j7 V5 a5z 1 h fun G0 h=>i9 2 h (fun h=>rg<|fE h) (fun h=>rg<|j7 a9k b3l 1 h fun begin h=>rg<|j7 b6R c5a 1 h fun V7 h=>i9 3 h (fun h=>rg<|j7 a14 a2U 1 h fun R5 h=>K1 begin.n<|C1 begin.out begin.told<|fE h) (fun h=>i9 9 h (fun h=>rg<|j7 a14 a2U 1 h fun a21 h=>K1 begin.n<|C1 begin.out begin.told<|fE h) (fun h=>rg<|C2 h (d7a r) fun x1 h hc1=>rg<|i9 1 h (fun h=>rg<|j7 b0q d7k 2 h fun c6c h=>K1 begin.n<|C1 begin.out begin.told<|(p7 h hc1 fun hI=>sk [] [4,7] [(3,0),(10,0),(28,0),(28,1),(28,2),(28,3),(28,4)] hI)) (fun h=>rg<|i9 1 h (fun h=>rg<|j7 b9L c79 2 h fun c33 h=>K1 begin.n<|C1 begin.out begin.told<|(p7 h hc1 fun hI=>sk [] [4,7] [(3,0),(10,0),(30,0),(30,1),(30,2),(30,3),(30,4)] hI)) (fun h=>rg<|i9 1 h (fun h=>rg<|j7 c20 d4k 2 h fun c3i h=>K1 begin.n<|C1 begin.out begin.told<|(p7 h hc1 fun hI=>sk [] [4,7] [(3,0),(10,0),(32,0),(32,1),(32,2),(32,3),(32,4)] hI)) (fun h=>rg<|i9 1 h (fun h=>rg<|j7 b9T d1t 2 h fun c0q h=>K1 begin.n<|C1 begin.out begin.told<|(p7 h hc1 fun hI=>sk [] [4,7] [(3,0),(10,0),(34,0),(34,1),(34,2),(34,3),(34,4)] hI)) (fun h=>rg<|i9 1 h (fun h=>rg<|j7 c0D d08 2 h fun b75 h=>K1 begin.n<|C1 begin.out begin.told<|(p7 h hc1 fun hI=>sk [] [4,7] [(3,0),(10,0),(36,0),(36,1),(36,2),(36,3),(36,4)] hI)) (fun h=>rg<|i9 1 h (fun h=>rg<|j7 b2L b4p 8 h fun P6 h=>rg<|j7 a9R b4J 3 h fun yield h=>K1 begin.n<|C1 begin.out begin.told<|(p7 h hc1 fun hI=>sk [] [4,7] [(3,0),(10,0),(55,0),(55,1),(55,2),(55,3),(55,4)] hI)) (fun h=>rg<|i9 1 h (fun h=>rg<|j7 c0x c7Q 2 h fun asked h=>K1 begin.n<|C1 begin.out begin.told<|(p7 h hc1 fun hI=>sk [] [4,7] [(3,0),(10,0),(40,0),(40,1),(40,2),(40,3),(40,4)] hI)) (fun h=>rg<|i9 1 h (fun h=>rg<|lp (d6o m) h (fun _ h=>a0W.rt (c3m h hc1)) (d66 r hc1) fun hI=>z6 begin.n.d9<|sk [.frz (.cell 10 0 26) (none)] [3,4,7,8] [(2,0),(3,0),(10,0),(10,1),(10,2),(10,3),(10,5),(10,6)] hI) (fun h=>(p7 h hc1 fun hI=>z6 begin.n.d9<|sk [.frz (.cell 10 0 26) (none)] [4,7] [(3,0),(10,0),(10,1),(10,2),(10,3),(10,5),(10,6)] hI))))))))))))
def a6O:FS (j9):=⟨40,Tryz.f40,[.val I5 om2],[none,none],[.val I5 om2,.val [none,none,some 4] []],fun r=>.agg (a4o r),fun _=>[none,none],Tryz.func40⟩
def c8O:j9->KS:=fun w1=>⟨a6O.k 7 [true],(bs 2 (.ptr 1 0 0::(bs 1 (.ptr 6 0 0::(bs 58 []))))),[some [.dead,.dead,.dead,.dead],some [.var 33 [.own 2 0 27 0 w1.a8.length,.own 3 0 13 0 w1.i0.length,.own 4 0 3 0 w1.f0.length,.own 5 0 5 0 w1.Told.length]],some [m4 61 27 r9 w1.a8],some [m4 49 13 u5 w1.i0],some [m4 73 3 D6 w1.f0],some [m4 76 5 A3 w1.Told],some [.var 33 [.nil,.nil,.nil,.nil]]]⟩
def c5z(w1:j9):Option j9 :=
 some w1
theorem d7Z(r):NF a6O r c8O (fun s=>c5z s):=fun w1 h=>PK<|rg<|K4 w1<|fE h
def a5c(w:j9)(e_:G5):Option j9 :=
 ((idx w.i0 e_.A).bind fun msg=>(((bif (e_.a7==2) then ((a9t w.i0 e_.A).bind fun off=>((idx w.a8 msg.To).bind fun node=>((a9Y node msg).bind fun b1e=>((a2k (j9.mk w.a8 off w.f0 w.Told) b1e.1 b1e.2.1 b1e.2.2).bind fun a1d=>some (l7.brk a1d))))) else (bif (e_.a7==3) then ((a9t w.i0 e_.A).bind fun c0f=>some (l7.brk (j9.mk w.a8 c0f w.f0 w.Told))) else (bif (e_.a7==4) then ((idx w.a8 msg.To).bind fun node1=>((a2k w node1 [msg] []).bind fun a8y=>some (l7.brk a8y))) else some (l7.brk w)))):Option (l7 j9 j9)).bind fun x=>x.go some fun j=>c5z j))
theorem b4g{w e_}:OK a6O [.agg (a4o w),.agg (b19 e_)] (a5c w e_) :=
 q8 _ fun r h=>o8<|B3 h fun msg hmsg h=>E3 hmsg<|T4 u5 5 hmsg<|rg<|C2 h (d7Z r) fun x1 h hc1=>rg<|i9 1 h (fun h=>rg<|j7 b6y c3F 4 h fun off h=>z6 w.i0<|rg<|B3 h fun node hnode h=>E3 hnode<|T4 r9 5 hnode<|j7 a0W c8o 7 h fun b1e h=>rg<|j7 O0 a67 4 h fun a1d h=>ol4 w.a8 off w.f0 w.Told<|(p7 h hc1 fun hI=>sk [.kill 0 1] [2,4] [(1,0),(43,0),(43,1),(43,2),(43,3),(3,0)] hI)) (fun h=>rg<|i9 1 h (fun h=>rg<|j7 b6y c3F 4 h fun c0f h=>z6 w.i0<|(p7 h hc1 fun hI=>sk [.kill 0 1] [2,4] [(1,0),(0,0),(22,0),(0,2),(0,3),(3,0)] hI)) (fun h=>rg<|i9 1 h (fun h=>rg<|B3 h fun node1 a01 h=>E3 a01<|T4 r9 6 a01<|tk 8 R2<|j7 O0 a67 9 h fun a8y h=>K4 w<|K0 msg<|(p7 h hc1 fun hI=>sk [] [2,4] [(1,0),(29,0),(29,1),(29,2),(29,3),(3,0)] hI)) (fun h=>(p7 h hc1 fun hI=>sk [] [2,4] [(1,0),(0,0),(0,1),(0,2),(0,3),(3,0)] hI))))
def a1H:FS (j9):=⟨16,Tryz.f16,[.val I5 []],[none,none],[.val I5 [],.val [none,none,some 4] []],fun r=>.agg (O8 r),fun _=>[none,none],Tryz.func16⟩
def d3R:j9->KS:=fun out=>⟨a1H.k 6 [true,true,true],(bs 4 (.ptr 1 0 0::(.ptr 2 0 0::(bs 35 [])))),[some [],some [.var 33 [.nil,.nil,.nil,.nil]],some [.var 33 [.own 3 0 27 0 out.a8.length,.own 4 0 13 0 out.i0.length,.own 5 0 3 0 out.f0.length,.own 6 0 5 0 out.Told.length]],some [m4 61 27 r9 out.a8],some [m4 49 13 u5 out.i0],some [m4 73 3 D6 out.f0],some [m4 76 5 A3 out.Told]]⟩
def b45(out:j9):Option j9 :=
 ((a0M out).bind fun b3x=>some b3x)
theorem c9E(r):NF a1H r d3R (fun s=>b45 s):=fun out h=>PK<|rg<|j7 S6 a7f 1 h fun b3x h=>K4 out<|K4 b3x<|fE h
def d7c:j9->KS:=fun out1=>⟨a1H.k 7 [false,true,true,true],(bs 4 (.ptr 1 0 0::(.ptr 2 0 0::(bs 35 [])))),[some [],some [.var 33 [.nil,.nil,.nil,.nil]],some [.var 33 [.own 3 0 27 0 out1.a8.length,.own 4 0 13 0 out1.i0.length,.own 5 0 3 0 out1.f0.length,.own 6 0 5 0 out1.Told.length]],some [m4 61 27 r9 out1.a8],some [m4 49 13 u5 out1.i0],some [m4 73 3 D6 out1.f0],some [m4 76 5 A3 out1.Told]]⟩
def b6V(out1:j9):Option j9 :=
 ((a0M out1).bind fun b4t=>some b4t)
theorem d1G(r):NF a1H r d7c (fun s=>b6V s):=fun out1 h=>PK<|rg<|j7 S6 a7f 1 h fun b4t h=>K4 out1<|K4 b4t<|fE h
def d7H:j9->KS:=fun out2=>⟨a1H.k 8 [false,false,true,true,true],(bs 4 (.ptr 1 0 0::(.ptr 2 0 0::(bs 35 [])))),[some [],some [.var 33 [.nil,.nil,.nil,.nil]],some [.var 33 [.own 3 0 27 0 out2.a8.length,.own 4 0 13 0 out2.i0.length,.own 5 0 3 0 out2.f0.length,.own 6 0 5 0 out2.Told.length]],some [m4 61 27 r9 out2.a8],some [m4 49 13 u5 out2.i0],some [m4 73 3 D6 out2.f0],some [m4 76 5 A3 out2.Told]]⟩
def b4L(out2:j9):Option j9 :=
 ((a0M out2).bind fun b5q=>some b5q)
theorem d8N(r):NF a1H r d7H (fun s=>b4L s):=fun out2 h=>PK<|rg<|j7 S6 a7f 1 h fun b5q h=>K4 out2<|K4 b5q<|fE h
def c9e:j9->KS:=fun a0F=>⟨a1H.k 9 [false,false,false,true,true],(bs 4 (.ptr 1 0 0::(.ptr 2 0 0::(bs 35 [])))),[some [],some [.var 33 [.nil,.nil,.nil,.nil]],some [.var 33 [.own 3 0 27 0 a0F.a8.length,.own 4 0 13 0 a0F.i0.length,.own 5 0 3 0 a0F.f0.length,.own 6 0 5 0 a0F.Told.length]],some [m4 61 27 r9 a0F.a8],some [m4 49 13 u5 a0F.i0],some [m4 73 3 D6 a0F.f0],some [m4 76 5 A3 a0F.Told]]⟩
def b2o(a0F:j9):Option j9 :=
 ((a0M a0F).bind fun b64=>some b64)
theorem d8m(r):NF a1H r c9e (fun s=>b2o s):=fun a0F h=>PK<|rg<|j7 S6 a7f 1 h fun b64 h=>K4 a0F<|K4 b64<|fE h
def a9T(w:j9)(e_:G5):Option j9 :=
 ((a0M w).bind fun E9=>(bif (e_.a7==1) then ((((A7 e_.A 0 (l9 ((E9.a8.length:Int)-1))).bind fun in_=>(bif in_ then ((a4b E9 e_).bind fun b87=>some (l7.brk b87)) else some (l7.brk E9))):Option (l7 j9 j9)).bind fun x=>x.go some fun j=>b45 j) else (bif (e_.a7==5) then ((((A7 e_.A 0 (l9 ((E9.a8.length:Int)-1))).bind fun G8=>(bif G8 then ((a4b E9 e_).bind fun b97=>some (l7.brk b97)) else some (l7.brk E9))):Option (l7 j9 j9)).bind fun x=>x.go some fun j=>b6V j) else (bif (e_.a7==6) then ((((A7 e_.A 0 (l9 ((E9.a8.length:Int)-1))).bind fun Q7=>(bif Q7 then ((a4b E9 e_).bind fun b8N=>some (l7.brk b8N)) else some (l7.brk E9))):Option (l7 j9 j9)).bind fun x=>x.go some fun j=>b4L j) else (((bif (e_.a7==7) then ((A7 e_.A 0 (l9 ((E9.a8.length:Int)-1))).bind fun U8=>(bif U8 then ((a4b E9 e_).bind fun c27=>some (l7.brk c27)) else some (l7.brk E9))) else (bif (e_.a7==2) then ((A7 e_.A 0 (l9 ((E9.i0.length:Int)-1))).bind fun a20=>(bif a20 then ((a5c E9 e_).bind fun c0M=>some (l7.brk c0M)) else some (l7.brk E9))) else (bif (e_.a7==3) then ((A7 e_.A 0 (l9 ((E9.i0.length:Int)-1))).bind fun a6W=>(bif a6W then ((a5c E9 e_).bind fun c4D=>some (l7.brk c4D)) else some (l7.brk E9))) else (bif (e_.a7==4) then ((A7 e_.A 0 (l9 ((E9.i0.length:Int)-1))).bind fun b4E=>(bif b4E then ((a5c E9 e_).bind fun c5P=>some (l7.brk c5P)) else some (l7.brk E9))) else some (l7.brk E9))))):Option (l7 j9 j9)).bind fun x=>x.go some fun j=>b2o j)))))
set_option maxRecDepth 20000 in
theorem d7n{w e_}:OK a1H [.agg (O8 w),.agg (b19 e_)] (a9T w e_) :=
 q8 _ fun r h=>o8<|j7 S6 a7f 1 h fun E9 h=>o8<|i9 1 h (fun h=>C2 h (c9E r) fun x1 h hc1=>rg<|cbE A6.t B9 h fun in_ c4K h=>cdT (A6.t 6 false in_) h (fun _ h=>ob c4K<|rg<|j7 a5E b08 2 h fun b87 h=>K4 E9<|(p7 h hc1 fun hI=>sk [] [4,5] [(3,0),(6,0),(21,0),(21,1),(21,2),(21,3)] hI)) (fun _ h=>ob c4K<|(p7 h hc1 fun hI=>sk [] [4,5] [(3,0),(6,0),(5,0),(5,1),(5,2),(5,3)] hI))) (fun h=>rg<|i9 1 h (fun h=>C2 h (d1G r) fun x1 h hc1=>rg<|cbE A6.t B9 h fun G8 c3C h=>cdT (A6.t 6 false G8) h (fun _ h=>ob c3C<|rg<|j7 a5E b08 2 h fun b97 h=>K4 E9<|(p7 h hc1 fun hI=>sk [] [4,5] [(3,0),(6,0),(23,0),(23,1),(23,2),(23,3)] hI)) (fun _ h=>ob c3C<|(p7 h hc1 fun hI=>sk [] [4,5] [(3,0),(6,0),(5,0),(5,1),(5,2),(5,3)] hI))) (fun h=>rg<|i9 1 h (fun h=>C2 h (d8N r) fun x1 h hc1=>rg<|cbE A6.t B9 h fun Q7 c3K h=>cdT (A6.t 6 false Q7) h (fun _ h=>ob c3K<|rg<|j7 a5E b08 2 h fun b8N h=>K4 E9<|(p7 h hc1 fun hI=>sk [] [4,5] [(3,0),(6,0),(25,0),(25,1),(25,2),(25,3)] hI)) (fun _ h=>ob c3K<|(p7 h hc1 fun hI=>sk [] [4,5] [(3,0),(6,0),(5,0),(5,1),(5,2),(5,3)] hI))) (fun h=>C2 h (d8m r) fun x1 h hc1=>rg<|i9 1 h (fun h=>rg<|cbE A6.t B9 h fun U8 b8e h=>cdT (A6.t 6 false U8) h (fun _ h=>ob b8e<|rg<|j7 a5E b08 2 h fun c27 h=>K4 E9<|(p7 h hc1 fun hI=>sk [] [4,5] [(3,0),(6,0),(27,0),(27,1),(27,2),(27,3)] hI)) (fun _ h=>ob b8e<|(p7 h hc1 fun hI=>sk [] [4,5] [(3,0),(6,0),(5,0),(5,1),(5,2),(5,3)] hI))) (fun h=>rg<|i9 1 h (fun h=>rg<|cbE A6.t B9 h fun a20 c1X h=>cdT (A6.t 6 false a20) h (fun _ h=>ob c1X<|rg<|j7 a6O b4g 2 h fun c0M h=>K4 E9<|(p7 h hc1 fun hI=>sk [] [4,5] [(3,0),(6,0),(29,0),(29,1),(29,2),(29,3)] hI)) (fun _ h=>ob c1X<|(p7 h hc1 fun hI=>sk [] [4,5] [(3,0),(6,0),(5,0),(5,1),(5,2),(5,3)] hI))) (fun h=>rg<|i9 1 h (fun h=>rg<|cbE A6.t B9 h fun a6W c0s h=>cdT (A6.t 6 false a6W) h (fun _ h=>ob c0s<|rg<|j7 a6O b4g 2 h fun c4D h=>K4 E9<|(p7 h hc1 fun hI=>sk [] [4,5] [(3,0),(6,0),(31,0),(31,1),(31,2),(31,3)] hI)) (fun _ h=>ob c0s<|(p7 h hc1 fun hI=>sk [] [4,5] [(3,0),(6,0),(5,0),(5,1),(5,2),(5,3)] hI))) (fun h=>rg<|i9 1 h (fun h=>rg<|cbE A6.t B9 h fun b4E c5v h=>cdT (A6.t 6 false b4E) h (fun _ h=>ob c5v<|rg<|j7 a6O b4g 2 h fun c5P h=>K4 E9<|(p7 h hc1 fun hI=>sk [] [4,5] [(3,0),(6,0),(33,0),(33,1),(33,2),(33,3)] hI)) (fun _ h=>ob c5v<|(p7 h hc1 fun hI=>sk [] [4,5] [(3,0),(6,0),(5,0),(5,1),(5,2),(5,3)] hI))) (fun h=>(p7 h hc1 fun hI=>sk [] [4,5] [(3,0),(6,0),(5,0),(5,1),(5,2),(5,3)] hI))))))))
def a2J:FS (j9):=⟨7,Tryz.f7,[.val I5 []],[none,none],[.val I5 [],.val [none,none,some 4] []],fun r=>.agg (O8 r),fun _=>[none,none],Tryz.func7⟩
def a1z(w:j9)(e_:G5):Option j9 :=
 ((a05 w).bind fun C4=>(bif (!C4) then some (j9.mk [] [] [] []) else ((a9T w e_).bind fun c3T=>some c3T)))
theorem a3b{w e_}:OK a2J [.agg (O8 w),.agg (b19 e_)] (a1z w e_) :=
 q8 _ fun r h=>o8<|j7 H1 a3X 1 h fun C4 h=>i9 2 h (fun h=>rg<|fE h) (fun h=>rg<|j7 a1H d7n 2 h fun c3T h=>fE h)
def a2n:FS (j9):=⟨9,Tryz.f9,[.val I5 []],[none],[.val I5 []],fun r=>.agg (O8 r),fun _=>[none],Tryz.func9⟩
def c5e:j9->KS:=fun w2=>⟨a2n.k 3 [false],(bs 1 (.ptr 1 0 0::(.ptr 2 0 0::(bs 15 [])))),[some [],some [.var 33 [j4 27 r9 w2.a8,j4 13 u5 w2.i0,j4 3 D6 w2.f0,j4 5 A3 w2.Told]],some [.var 33 [.nil,.nil,.nil,.nil]]]⟩
def b8x(w2:j9):Option j9 :=
 some w2
theorem d5e(r):NF a2n r c5e (fun s=>b8x s):=fun w2 h=>PK<|rg<|fE h
def d3c:(Int×j9)->KS:=fun (i,w1)=>⟨a2n.k 2 [],(bs 1 (.ptr 1 0 0::(.ptr 2 0 0::(vi i::(bs 14 []))))),[some [],some [.var 33 [j4 27 r9 w1.a8,j4 13 u5 w1.i0,j4 3 D6 w1.f0,j4 5 A3 w1.Told]],some [.var 33 [.nil,.nil,.nil,.nil]]]⟩
def a19(i:Int)(w1:j9):Option (j6 j9 (Int×j9) j9) :=
 (bif decide (i<200) then (bif decide ((w1.i0.length:Int)>0) then ((a1z w1 (G5.mk 2 0 [])).bind fun a8S=>some (j6.nxt (l9 (i+1),a8S))) else some (j6.brk w1)) else some (j6.brk w1))
theorem c8p:LQ a2n c5e d3c (fun s=>a19 s.1 s.2):=fun lc (i,w1) h=>PK<|rg<|i9 2 h (fun h=>i9 7 h (fun h=>rg<|j7 a2J a3b 2 h fun a8S h=>rg<|(lc.nx h fun hI=>sk [] [1,2,3] [(1,0),(2,0)] hI)) (fun h=>(lc.bk h fun hI=>sk [] [1,2] [(1,0),(2,0)] hI))) (fun h=>(lc.bk h fun hI=>sk [] [1,2] [(1,0),(2,0)] hI))
def a6l(w:j9):Option j9 :=
 ((p8 (fun s:Int×j9=>a19 s.1 s.2) (0,w)).bind fun x=>x.go (fun r=>some r) fun s=>b8x s)
theorem b3V{w}:OK a2n [.agg (O8 w)] (a6l w) :=
 q8 _ fun r h=>o8<|lp (c8p) h (fun _ h=>a2n.rt h) (d5e r) fun hI=>sk [] [1,2,3] [(1,0),(2,0)] hI
def a1D:FS (List j8):=⟨10,Tryz.f10,[.val [some 7] []],[none],[.val I5 []],fun r=>j4 7 u0 r,fun _=>[none],Tryz.func10⟩
def b7f(w:j9):Int->KS:=fun a9C=>⟨a1D.k 4 [false],(bs 1 (.ptr 1 0 0::(bs 1 (vi a9C::(bs 36 []))))),[some [],some [.var 33 (H5 w)]]⟩
def b4U(w:j9)(a9C:Int):Option (List j8) :=
 (bif decide (a9C<0) then some [] else ((idx w.a8 a9C).bind fun node=>((a6c node.a5).bind fun a4S=>some a4S)))
theorem d1J(w)(r):NF a1D r (b7f w) (fun s=>b4U w s):=fun a9C h=>PK<|rg<|i9 1 h (fun h=>rg<|fE h) (fun h=>rg<|v5 r9 3 h fun node hnode h=>j7 a2p b4A 6 h fun a4S h=>z6 a4S<|fE h)
def c5N(w:j9):(Int×Int)->KS:=fun (best,v9)=>⟨a1D.k 3 [],(bs 1 (.ptr 1 0 0::(bs 1 (vi best::(bs 3 (j4 27 r9 w.a8::(vi (w.a8.length:Int)::(vi v9::(bs 30 []))))))))),[some [],some [.var 33 (H5 w)]]⟩
def d5o(w:j9)(v9:Int):Int->KS:=fun b0j=>⟨a1D.k 7 [true,true],(bs 1 (.ptr 1 0 0::(bs 1 (vi b0j::(bs 3 (j4 27 r9 w.a8::(vi (w.a8.length:Int)::(vi v9::(bs 30 []))))))))),[some [],some [.var 33 (H5 w)]]⟩
def b1p(v9:Int)(b0j:Int):Option (j6 (List j8) (Int×Int) Int) :=
 some (j6.nxt (b0j,l9 (v9+1)))
theorem d37(w v9)(lc:G1 a1D (b7f w) (c5N w)):NL lc (d5o w v9) (fun s=>b1p v9 s):=fun b0j h=>PK<|rg<|(lc.nx h fun hI=>sk [] [1,3,7,8,9] [(1,0)] hI)
def a2q(w:j9)(best:Int)(v9:Int):Option (j6 (List j8) (Int×Int) Int) :=
 (bif decide (v9<(w.a8.length:Int)) then ((idx w.a8 v9).bind fun node1=>(((bif decide (best<0) then some (l7.brk v9) else ((idx w.a8 best).bind fun c0d=>(bif decide ((node1.a5.length:Int)>(c0d.a5.length:Int)) then some (l7.brk v9) else some (l7.brk best)))):Option (l7 (j6 (List j8) (Int×Int) Int) Int)).bind fun x=>x.go some fun j=>b1p v9 j)) else some (j6.brk best))
theorem d0G(w):LQ a1D (b7f w) (c5N w) (fun s=>a2q w s.1 s.2):=fun lc (best,v9) h=>PK<|rg<|i9 0 h (fun h=>rg<|v5 r9 1 h fun node1 a01 h=>C2 h (d37 w v9 lc) fun x2 h hc2=>rg<|i9 2 h (fun h=>rg<|(p7 h hc2 fun hI=>sk [] [1,3,7,8,9] [(1,0)] hI)) (fun h=>v5 r9 9 h fun c0d d9m h=>i9 14 h (fun h=>rg<|(p7 h hc2 fun hI=>sk [] [1,3,7,8,9] [(1,0)] hI)) (fun h=>(p7 h hc2 fun hI=>sk [] [1,3,7,8,9] [(1,0)] hI)))) (fun h=>(lc.bk h fun hI=>sk [] [1,3] [(1,0)] hI))
def a6e(w:j9):Option (List j8) :=
 ((p8 (fun s:Int×Int=>a2q w s.1 s.2) ((-1),0)).bind fun x=>x.go (fun r=>some r) fun s=>b4U w s)
theorem b53{w}:OK a1D [.agg (O8 w)] (a6e w) :=
 q8 _ fun r h=>W9<|lp (d0G w) h (fun _ h=>a1D.rt h) (d1J w r) fun hI=>sk [] [1,3,7,8,9] [(1,0)] hI
def X2:FS (Bool):=⟨20,Tryz.f20,[.val [] []],[none],[.val I5 []],fun r=>.b r,fun _=>[none],Tryz.func20⟩
def b39:Unit->KS:=fun _=>⟨X2.k 4 [false,false],(bs 53 []),[some []]⟩
def c3S:Option Bool :=
 some true
theorem d4f(r):NF X2 r b39 (fun s=>c3S):=fun _ h=>PK<|rg<|fE h
def b86(w:j9):Int->KS:=fun v14=>⟨X2.k 3 [false],(bs 1 (.ptr 1 0 0::(bs 10 (j4 27 r9 w.a8::(vi (w.a8.length:Int)::(vi v14::(bs 38 []))))))),[some [],some [.var 33 (H5 w)]]⟩
def b34(w:j9)(v14:Int):Unit->KS:=fun _=>⟨X2.k 7 [false,true,false],(bs 1 (.ptr 1 0 0::(bs 10 (j4 27 r9 w.a8::(vi (w.a8.length:Int)::(vi v14::(bs 38 []))))))),[some [],some [.var 33 (H5 w)]]⟩
def c4Y(v14:Int):Option (j6 Bool Int Unit) :=
 some (j6.nxt (l9 (v14+1)))
theorem d0b(w v14)(lc:G1 X2 b39 (b86 w)):NL lc (b34 w v14) (fun s=>c4Y v14):=fun _ h=>PK<|rg<|(lc.nx h fun hI=>sk [] [1,12,13,14] [(1,0)] hI)
def c4G(w:j9)(v14:Int)(node:j5):Int->KS:=fun v21=>⟨X2.k 6 [false,true],(bs 1 (.ptr 1 0 0::(bs 2 (.ptr 2 0 0::(bs 7 (j4 27 r9 w.a8::(vi (w.a8.length:Int)::(vi v14::(bs 4 (j4 27 r9 w.a8::(vi (w.a8.length:Int)::(vi v21::(bs 31 []))))))))))))),[some [],some [.var 33 (H5 w)],some [.var 61 (W8 node)]]⟩
def c1R(w:j9)(v14:Int)(node:j5)(v21:Int):Unit->KS:=fun _=>⟨X2.k 10 [false,true,true,false],(bs 1 (.ptr 1 0 0::(bs 2 (.ptr 2 0 0::(bs 7 (j4 27 r9 w.a8::(vi (w.a8.length:Int)::(vi v14::(bs 4 (j4 27 r9 w.a8::(vi (w.a8.length:Int)::(vi v21::(bs 31 []))))))))))))),[some [],some [.var 33 (H5 w)],some [.var 61 (W8 node)]]⟩
def c4k(v21:Int):Option (j6 Bool Int Unit) :=
 some (j6.nxt (l9 (v21+1)))
theorem d30(w v14 node v21)(lc:G1 X2 (b34 w v14) (c4G w v14 node)):NL lc (c1R w v14 node v21) (fun s=>c4k v21):=fun _ h=>PK<|rg<|(lc.nx h fun hI=>sk [] [1,4,12,13,14,19,20,21] [(1,0),(2,0)] hI)
def d3O(w:j9)(v14:Int)(node:j5)(v21:Int)(node1:j5):Int->KS:=fun i=>⟨X2.k 9 [false,true,true],(bs 1 (.ptr 1 0 0::(bs 2 (.ptr 2 0 0::(bs 1 (.ptr 3 0 0::(vi i::(bs 4 (j4 27 r9 w.a8::(vi (w.a8.length:Int)::(vi v14::(bs 4 (j4 27 r9 w.a8::(vi (w.a8.length:Int)::(vi v21::(bs 31 [])))))))))))))))),[some [],some [.var 33 (H5 w)],some [.var 61 (W8 node)],some [.var 61 (W8 node1)]]⟩
def a9f(node:j5)(node1:j5)(i:Int):Option (j6 Bool Int Unit) :=
 (bif decide (i<(node.a5.length:Int)) then (bif decide (i<(node1.a5.length:Int)) then ((idx node.a5 i).bind fun entry=>((idx node1.a5 i).bind fun a8r=>((a0c entry a8r).bind fun G6=>(bif (!G6) then some (j6.ret false) else some (j6.nxt (l9 (i+1))))))) else some (j6.brk ())) else some (j6.brk ()))
theorem d8K(w v14 node v21 node1):LQ X2 (c1R w v14 node v21) (d3O w v14 node v21 node1) (fun s=>a9f node node1 s):=fun lc i h=>PK<|rg<|i9 5 h (fun h=>i9 11 h (fun h=>rg<|v5 u0 3 h fun entry S0 h=>v5 u0 8 h fun a8r a84 h=>j7 a16 a2l 10 h fun G6 h=>i9 11 h (fun h=>rg<|fL lc h) (fun h=>rg<|(lc.nx h fun hI=>sk [] [1,4,6,7,12,13,14,19,20,21] [(1,0),(2,0),(3,0)] hI))) (fun h=>(lc.bk h fun hI=>sk [] [1,4,12,13,14,19,20,21] [(1,0),(2,0)] hI))) (fun h=>(lc.bk h fun hI=>sk [] [1,4,12,13,14,19,20,21] [(1,0),(2,0)] hI))
def a80(w:j9)(node:j5)(v21:Int):Option (j6 Bool Int Unit) :=
 (bif decide (v21<(w.a8.length:Int)) then ((idx w.a8 v21).bind fun node1=>((p8 (fun s:Int=>a9f node node1 s) 0).bind fun x=>x.go (fun r=>some (j6.ret r)) fun s=>c4k v21)) else some (j6.brk ()))
theorem d5x(w v14 node):LQ X2 (b34 w v14) (c4G w v14 node) (fun s=>a80 w node s):=fun lc v21 h=>PK<|rg<|i9 0 h (fun h=>rg<|v5 r9 0 h fun node1 a01 h=>rg<|lp (d8K w v14 node v21 node1) h (fun _ h=>lc.rt h) (d30 w v14 node v21 lc) fun hI=>sk [] [1,4,6,7,12,13,14,19,20,21] [(1,0),(2,0),(6,0)] hI) (fun h=>(lc.bk h fun hI=>sk [] [1,12,13,14] [(1,0)] hI))
def b3i(w:j9)(v14:Int):Option (j6 Bool Int Unit) :=
 (bif decide (v14<(w.a8.length:Int)) then ((idx w.a8 v14).bind fun node=>((p8 (fun s:Int=>a80 w node s) 0).bind fun x=>x.go (fun r=>some (j6.ret r)) fun s=>c4Y v14)) else some (j6.brk ()))
theorem c90(w):LQ X2 b39 (b86 w) (fun s=>b3i w s):=fun lc v14 h=>PK<|rg<|i9 0 h (fun h=>rg<|v5 r9 0 h fun node hnode h=>rg<|lp (d5x w v14 node) h (fun _ h=>lc.rt h) (d0b w v14 lc) fun hI=>sk [] [1,4,12,13,14,19,20,21] [(1,0),(5,0)] hI) (fun h=>(lc.bk h fun hI=>sk [] [] [] hI))
def a8f(w:j9):Option Bool :=
 ((a05 w).bind fun C4=>(bif (!C4) then some false else ((p8 (fun s:Int=>b3i w s) 0).bind fun x=>x.go (fun r=>some r) fun s=>c3S)))
theorem d8B{w}:OK X2 [.agg (O8 w)] (a8f w) :=
 q8 _ fun r h=>o8<|j7 H1 a3X 1 h fun C4 h=>i9 2 h (fun h=>rg<|fE h) (fun h=>rg<|lp (c90 w) h (fun _ h=>X2.rt h) (d4f r) fun hI=>sk [] [1,12,13,14] [(1,0)] hI)
def T0:FS (Bool):=⟨21,Tryz.f21,[.val [] []],[none],[.val I5 []],fun r=>.b r,fun _=>[none],Tryz.func21⟩
def b5z:Unit->KS:=fun _=>⟨T0.k 4 [false,false],(bs 80 []),[some []]⟩
def c3Q:Option Bool :=
 some true
theorem d5k(r):NF T0 r b5z (fun s=>c3Q):=fun _ h=>PK<|rg<|fE h
def c2J(w:j9):Int->KS:=fun v16=>⟨T0.k 3 [false],(bs 1 (.ptr 1 0 0::(bs 12 (j4 27 r9 w.a8::(vi (w.a8.length:Int)::(vi v16::(bs 63 []))))))),[some [],some [.var 33 (H5 w)]]⟩
def b6A(w:j9)(v16:Int):Unit->KS:=fun _=>⟨T0.k 7 [false,true,false],(bs 1 (.ptr 1 0 0::(bs 12 (j4 27 r9 w.a8::(vi (w.a8.length:Int)::(vi v16::(bs 63 []))))))),[some [],some [.var 33 (H5 w)]]⟩
def b4h(v16:Int):Option (j6 Bool Int Unit) :=
 some (j6.nxt (l9 (v16+1)))
theorem d6S(w v16)(lc:G1 T0 b5z (c2J w)):NL lc (b6A w v16) (fun s=>b4h v16):=fun _ h=>PK<|rg<|(lc.nx h fun hI=>sk [] [1,14,15,16] [(1,0)] hI)
def c5W(w:j9)(v16:Int)(node:j5):Int->KS:=fun v23=>⟨T0.k 6 [false,true],(bs 1 (.ptr 1 0 0::(bs 2 (.ptr 2 0 0::(bs 9 (j4 27 r9 w.a8::(vi (w.a8.length:Int)::(vi v16::(bs 4 (j4 27 r9 w.a8::(vi (w.a8.length:Int)::(vi v23::(bs 56 []))))))))))))),[some [],some [.var 33 (H5 w)],some [.var 61 (W8 node)]]⟩
def b6t(w:j9)(v16:Int)(node:j5)(v23:Int):Unit->KS:=fun _=>⟨T0.k 11 [false,true,true,false],(bs 1 (.ptr 1 0 0::(bs 2 (.ptr 2 0 0::(bs 9 (j4 27 r9 w.a8::(vi (w.a8.length:Int)::(vi v16::(bs 4 (j4 27 r9 w.a8::(vi (w.a8.length:Int)::(vi v23::(bs 56 []))))))))))))),[some [],some [.var 33 (H5 w)],some [.var 61 (W8 node)]]⟩
def b6u(v23:Int):Option (j6 Bool Int Unit) :=
 some (j6.nxt (l9 (v23+1)))
theorem c7g(w v16 node v23)(lc:G1 T0 (b6A w v16) (c5W w v16 node)):NL lc (b6t w v16 node v23) (fun s=>b6u v23):=fun _ h=>PK<|rg<|(lc.nx h fun hI=>sk [] [1,4,14,15,16,21,22,23] [(1,0),(2,0)] hI)
def c4M(w:j9)(v16:Int)(node:j5)(v23:Int)(node1:j5):Int->KS:=fun i=>⟨T0.k 10 [false,true,true],(bs 1 (.ptr 1 0 0::(bs 2 (.ptr 2 0 0::(bs 2 (j4 8 s6 node.Acc.a9::(j4 8 s6 node1.Acc.a9::(vi i::(bs 4 (j4 27 r9 w.a8::(vi (w.a8.length:Int)::(vi v16::(bs 4 (j4 27 r9 w.a8::(vi (w.a8.length:Int)::(vi v23::(bs 56 []))))))))))))))))),[some [],some [.var 33 (H5 w)],some [.var 61 (W8 node)]]⟩
def d1z(w:j9)(v16:Int)(node:j5)(v23:Int)(node1:j5)(i:Int):Unit->KS:=fun _=>⟨T0.k 12 [false,true,true,true,false],(bs 1 (.ptr 1 0 0::(bs 2 (.ptr 2 0 0::(bs 2 (j4 8 s6 node.Acc.a9::(j4 8 s6 node1.Acc.a9::(vi i::(bs 4 (j4 27 r9 w.a8::(vi (w.a8.length:Int)::(vi v16::(bs 4 (j4 27 r9 w.a8::(vi (w.a8.length:Int)::(vi v23::(bs 56 []))))))))))))))))),[some [],some [.var 33 (H5 w)],some [.var 61 (W8 node)]]⟩
def b5c(i:Int):Option (j6 Bool Int Unit) :=
 some (j6.nxt (l9 (i+1)))
theorem c7E(w v16 node v23 node1 i)(lc:G1 T0 (b6t w v16 node v23) (c4M w v16 node v23 node1)):NL lc (d1z w v16 node v23 node1 i) (fun s=>b5c i):=fun _ h=>PK<|rg<|(lc.nx h fun hI=>sk [] [1,4,7,8,9,14,15,16,21,22,23] [(1,0),(2,0)] hI)
def a7o(node:j5)(node1:j5)(i:Int):Option (j6 Bool Int Unit) :=
 (bif decide (i<(node.Acc.a9.length:Int)) then (bif decide (i<(node1.Acc.a9.length:Int)) then ((((idx node.Acc.a9 i).bind fun vote=>(bif (vote.a6 != 0) then ((idx node1.Acc.a9 i).bind fun Q0=>(bif (vote.a6==Q0.a6) then ((a0c vote.d7 Q0.d7).bind fun G6=>(bif (!G6) then some (l7.ret (j6.ret false)) else some (l7.brk ()))) else some (l7.brk ()))) else some (l7.brk ()))):Option (l7 (j6 Bool Int Unit) Unit)).bind fun x=>x.go some fun j=>b5c i) else some (j6.brk ())) else some (j6.brk ()))
theorem d6g(w v16 node v23 node1):LQ T0 (b6t w v16 node v23) (c4M w v16 node v23 node1) (fun s=>a7o node node1 s):=fun lc i h=>PK<|rg<|i9 4 h (fun h=>i9 9 h (fun h=>C2 h (c7E w v16 node v23 node1 i lc) fun x4 h hc4=>rg<|v5 s6 2 h fun vote a0V h=>i9 6 h (fun h=>ixR s6 9 a0V<|v5 s6 14 h fun Q0 a2T h=>i9 19 h (fun h=>ixR s6 22 a0V<|ixR s6 27 a2T<|j7 a16 a2l 30 h fun G6 h=>i9 32 h (fun h=>rg<|(E6 h hc4 fun h=>fL lc h)) (fun h=>(p7 h hc4 fun hI=>sk [] [1,4,7,8,9,14,15,16,21,22,23] [(1,0),(2,0)] hI))) (fun h=>(p7 h hc4 fun hI=>sk [] [1,4,7,8,9,14,15,16,21,22,23] [(1,0),(2,0)] hI))) (fun h=>(p7 h hc4 fun hI=>sk [] [1,4,7,8,9,14,15,16,21,22,23] [(1,0),(2,0)] hI))) (fun h=>(lc.bk h fun hI=>sk [] [1,4,14,15,16,21,22,23] [(1,0),(2,0)] hI))) (fun h=>(lc.bk h fun hI=>sk [] [1,4,14,15,16,21,22,23] [(1,0),(2,0)] hI))
def a73(w:j9)(node:j5)(v23:Int):Option (j6 Bool Int Unit) :=
 (bif decide (v23<(w.a8.length:Int)) then ((idx w.a8 v23).bind fun node1=>((p8 (fun s:Int=>a7o node node1 s) 0).bind fun x=>x.go (fun r=>some (j6.ret r)) fun s=>b6u v23)) else some (j6.brk ()))
theorem d5y(w v16 node):LQ T0 (b6A w v16) (c5W w v16 node) (fun s=>a73 w node s):=fun lc v23 h=>PK<|rg<|i9 0 h (fun h=>rg<|v5 r9 0 h fun node1 a01 h=>o8<|lp (d6g w v16 node v23 node1) h (fun _ h=>lc.rt h) (c7g w v16 node v23 lc) fun hI=>sk [] [1,4,7,8,9,14,15,16,21,22,23] [(1,0),(2,0)] hI) (fun h=>(lc.bk h fun hI=>sk [] [1,14,15,16] [(1,0)] hI))
def b2P(w:j9)(v16:Int):Option (j6 Bool Int Unit) :=
 (bif decide (v16<(w.a8.length:Int)) then ((idx w.a8 v16).bind fun node=>((p8 (fun s:Int=>a73 w node s) 0).bind fun x=>x.go (fun r=>some (j6.ret r)) fun s=>b4h v16)) else some (j6.brk ()))
theorem c93(w):LQ T0 b5z (c2J w) (fun s=>b2P w s):=fun lc v16 h=>PK<|rg<|i9 0 h (fun h=>rg<|v5 r9 0 h fun node hnode h=>rg<|lp (d5y w v16 node) h (fun _ h=>lc.rt h) (d6S w v16 lc) fun hI=>sk [] [1,4,14,15,16,21,22,23] [(1,0),(5,0)] hI) (fun h=>(lc.bk h fun hI=>sk [] [] [] hI))
def a77(w:j9):Option Bool :=
 ((a05 w).bind fun C4=>(bif (!C4) then some false else ((p8 (fun s:Int=>b2P w s) 0).bind fun x=>x.go (fun r=>some r) fun s=>c3Q)))
theorem d2F{w}:OK T0 [.agg (O8 w)] (a77 w) :=
 q8 _ fun r h=>o8<|j7 H1 a3X 1 h fun C4 h=>i9 2 h (fun h=>rg<|fE h) (fun h=>rg<|lp (c93 w) h (fun _ h=>T0.rt h) (d5k r) fun hI=>sk [] [1,14,15,16] [(1,0)] hI)
def a2K:FS (Int):=⟨50,Tryz.f50,[.val [] []],[none,none,none],[.val I5 [],.val [] [],.val V8 []],fun r=>vi r,fun _=>[none,none,none],Tryz.func50⟩
def b3W:Int->KS:=fun n1=>⟨a2K.k 4 [false],(bs 7 (vi n1::(bs 40 []))),[some []]⟩
def c3a(n1:Int):Option Int :=
 some n1
theorem c8s(r):NF a2K r b3W (fun s=>c3a s):=fun n1 h=>PK<|rg<|fE h
def c2S(w:j9)(at_:Int)(e_:j8):(Int×Int)->KS:=fun (v13,n)=>⟨a2K.k 3 [],(bs 1 (vi at_::(bs 3 (.ptr 1 0 0::(bs 1 (vi n::(bs 3 (j4 27 r9 w.a8::(vi (w.a8.length:Int)::(vi v13::(bs 34 []))))))))))),[some [],some [.var 46 (a46 e_)]]⟩
def d16(w:j9)(at_:Int)(e_:j8)(v13:Int):Int->KS:=fun n2=>⟨a2K.k 7 [true,true],(bs 1 (vi at_::(bs 3 (.ptr 1 0 0::(bs 1 (vi n2::(bs 3 (j4 27 r9 w.a8::(vi (w.a8.length:Int)::(vi v13::(bs 34 []))))))))))),[some [],some [.var 46 (a46 e_)]]⟩
def b3Z(v13:Int)(n2:Int):Option (j6 Int (Int×Int) Int) :=
 some (j6.nxt (l9 (v13+1),n2))
theorem d4r(w at_ e_ v13)(lc:G1 a2K b3W (c2S w at_ e_)):NL lc (d16 w at_ e_ v13) (fun s=>b3Z v13 s):=fun n2 h=>PK<|rg<|(lc.nx h fun hI=>sk [] [1,5,7,11,12,13] [(1,0)] hI)
def a6r(w:j9)(at_:Int)(e_:j8)(v13:Int)(n:Int):Option (j6 Int (Int×Int) Int) :=
 (bif decide (v13<(w.a8.length:Int)) then ((idx w.a8 v13).bind fun node=>(((bif decide (at_<(node.Acc.a9.length:Int)) then ((idx node.Acc.a9 at_).bind fun vote=>(bif (vote.a6 != 0) then ((a0c vote.d7 e_).bind fun G6=>(bif G6 then some (l7.brk (l9 (n+1))) else some (l7.brk n))) else some (l7.brk n))) else some (l7.brk n)):Option (l7 (j6 Int (Int×Int) Int) Int)).bind fun x=>x.go some fun j=>b3Z v13 j)) else some (j6.brk n))
theorem d07(w at_ e_):LQ a2K b3W (c2S w at_ e_) (fun s=>a6r w at_ e_ s.1 s.2):=fun lc (v13,n) h=>PK<|rg<|i9 0 h (fun h=>rg<|v5 r9 0 h fun node hnode h=>C2 h (d4r w at_ e_ v13 lc) fun x2 h hc2=>rg<|i9 6 h (fun h=>v5 s6 11 h fun vote a0V h=>i9 16 h (fun h=>ixR s6 21 a0V<|j7 a16 a2l 25 h fun G6 h=>i9 26 h (fun h=>rg<|(p7 h hc2 fun hI=>sk [] [1,5,7,11,12,13] [(1,0)] hI)) (fun h=>(p7 h hc2 fun hI=>sk [] [1,5,7,11,12,13] [(1,0)] hI))) (fun h=>(p7 h hc2 fun hI=>sk [] [1,5,7,11,12,13] [(1,0)] hI))) (fun h=>(p7 h hc2 fun hI=>sk [] [1,5,7,11,12,13] [(1,0)] hI))) (fun h=>(lc.bk h fun hI=>sk [] [7] [] hI))
def b0M(w:j9)(at_:Int)(e_:j8):Option Int :=
 ((p8 (fun s:Int×Int=>a6r w at_ e_ s.1 s.2) (0,0)).bind fun x=>x.go (fun r=>some r) fun s=>c3a s)
theorem c81{w at_ e_}:OK a2K [.agg (O8 w),vi at_,.agg (u0 e_)] (b0M w at_ e_) :=
 q8 _ fun r h=>W9<|lp (d07 w at_ e_) h (fun _ h=>a2K.rt h) (c8s r) fun hI=>sk [] [1,5,7,11,12,13] [(2,0)] hI
def a09:FS (Bool):=⟨22,Tryz.f22,[.val [] []],[none],[.val I5 []],fun r=>.b r,fun _=>[none],Tryz.func22⟩
def b68:Unit->KS:=fun _=>⟨a09.k 4 [false,false],(bs 32 []),[some []]⟩
def c24:Option Bool :=
 some true
theorem d7w(r):NF a09 r b68 (fun s=>c24):=fun _ h=>PK<|rg<|fE h
def c1B(w:j9):Int->KS:=fun v13=>⟨a09.k 3 [false],(bs 1 (.ptr 1 0 0::(bs 9 (j4 27 r9 w.a8::(vi (w.a8.length:Int)::(vi v13::(bs 18 []))))))),[some [],some [.var 33 (H5 w)]]⟩
def c0a(w:j9)(v13:Int):Unit->KS:=fun _=>⟨a09.k 7 [false,true,false],(bs 1 (.ptr 1 0 0::(bs 9 (j4 27 r9 w.a8::(vi (w.a8.length:Int)::(vi v13::(bs 18 []))))))),[some [],some [.var 33 (H5 w)]]⟩
def b7R(v13:Int):Option (j6 Bool Int Unit) :=
 some (j6.nxt (l9 (v13+1)))
theorem d0B(w v13)(lc:G1 a09 b68 (c1B w)):NL lc (c0a w v13) (fun s=>b7R v13):=fun _ h=>PK<|rg<|(lc.nx h fun hI=>sk [] [1,11,12,13] [(1,0)] hI)
def d5D(w:j9)(v13:Int)(node:j5):Int->KS:=fun v20=>⟨a09.k 6 [false,true],(bs 1 (.ptr 1 0 0::(bs 9 (j4 27 r9 w.a8::(vi (w.a8.length:Int)::(vi v13::(bs 4 (j4 7 u0 node.a5::(vi (node.a5.length:Int)::(vi v20::(bs 11 []))))))))))),[some [],some [.var 33 (H5 w)]]⟩
def a76(w:j9)(node:j5)(v20:Int):Option (j6 Bool Int Unit) :=
 (bif decide (v20<(node.a5.length:Int)) then ((idx node.a5 v20).bind fun entry=>((b0M w v20 entry).bind fun b8n=>(bif decide (b8n<2) then some (j6.ret false) else some (j6.nxt (l9 (v20+1)))))) else some (j6.brk ()))
theorem c9T(w v13 node):LQ a09 (c0a w v13) (d5D w v13 node) (fun s=>a76 w node s):=fun lc v20 h=>PK<|rg<|i9 0 h (fun h=>rg<|v5 u0 1 h fun entry S0 h=>rg<|j7 a2K c81 3 h fun b8n h=>i9 4 h (fun h=>rg<|fL lc h) (fun h=>rg<|(lc.nx h fun hI=>sk [] [1,11,12,13,18,19,20] [(1,0)] hI))) (fun h=>(lc.bk h fun hI=>sk [] [1,11,12,13] [(1,0)] hI))
def a9X(w:j9)(v13:Int):Option (j6 Bool Int Unit) :=
 (bif decide (v13<(w.a8.length:Int)) then ((idx w.a8 v13).bind fun node=>((p8 (fun s:Int=>a76 w node s) 0).bind fun x=>x.go (fun r=>some (j6.ret r)) fun s=>b7R v13)) else some (j6.brk ()))
theorem d5i(w):LQ a09 b68 (c1B w) (fun s=>a9X w s):=fun lc v13 h=>PK<|rg<|i9 0 h (fun h=>rg<|v5 r9 0 h fun node hnode h=>rg<|lp (c9T w v13 node) h (fun _ h=>lc.rt h) (d0B w v13 lc) fun hI=>sk [] [1,11,12,13,18,19,20] [(1,0)] hI) (fun h=>(lc.bk h fun hI=>sk [] [] [] hI))
def a8p(w:j9):Option Bool :=
 ((a05 w).bind fun C4=>(bif (!C4) then some false else ((p8 (fun s:Int=>a9X w s) 0).bind fun x=>x.go (fun r=>some r) fun s=>c24)))
theorem d4w{w}:OK a09 [.agg (O8 w)] (a8p w) :=
 q8 _ fun r h=>o8<|j7 H1 a3X 1 h fun C4 h=>i9 2 h (fun h=>rg<|fE h) (fun h=>rg<|lp (d5i w) h (fun _ h=>a09.rt h) (d7w r) fun hI=>sk [] [1,11,12,13] [(1,0)] hI)
def W6:FS (Bool):=⟨23,Tryz.f23,[.val [] []],[none],[.val I5 []],fun r=>.b r,fun _=>[none],Tryz.func23⟩
def b2Y:Unit->KS:=fun _=>⟨W6.k 4 [false,false],(bs 80 []),[some []]⟩
def b9R:Option Bool :=
 some true
theorem d5s(r):NF W6 r b2Y (fun s=>b9R):=fun _ h=>PK<|rg<|fE h
def b4j(w:j9):Int->KS:=fun v15=>⟨W6.k 3 [false],(bs 1 (.ptr 1 0 0::(bs 11 (j4 27 r9 w.a8::(vi (w.a8.length:Int)::(vi v15::(bs 64 []))))))),[some [],some [.var 33 (H5 w)]]⟩
def b5T(w:j9)(v15:Int)(node:j5):Unit->KS:=fun _=>⟨W6.k 7 [false,true,false],(bs 1 (.ptr 1 0 0::(bs 2 (.ptr 2 0 0::(bs 8 (j4 27 r9 w.a8::(vi (w.a8.length:Int)::(vi v15::(bs 64 []))))))))),[some [],some [.var 33 (H5 w)],some [.var 61 (W8 node)]]⟩
def c7d(w:j9)(v15:Int):Unit->KS:=fun _=>⟨W6.k 12 [false,true,false,false,false,false],(bs 1 (.ptr 1 0 0::(bs 11 (j4 27 r9 w.a8::(vi (w.a8.length:Int)::(vi v15::(bs 64 []))))))),[some [],some [.var 33 (H5 w)]]⟩
def b7N(v15:Int):Option (j6 Bool Int Unit) :=
 some (j6.nxt (l9 (v15+1)))
theorem c8W(w v15)(lc:G1 W6 b2Y (b4j w)):NL lc (c7d w v15) (fun s=>b7N v15):=fun _ h=>PK<|rg<|(lc.nx h fun hI=>sk [] [1,13,14,15] [(1,0)] hI)
def b2n(v15:Int)(node:j5):Option (j6 Bool Int Unit) :=
 (bif (node.b5 != 3) then some (j6.nxt (l9 (v15+1))) else (bif decide ((node.a5.length:Int)>=(node.Acc.a9.length:Int)) then some (j6.ret false) else ((idx node.Acc.a9 (node.a5.length:Int)).bind fun vote=>(((bif decide (vote.a6<node.a6) then some (l7.ret (j6.ret false)) else (bif (vote.a6==node.a6) then ((a0c vote.d7 node.d6).bind fun G6=>(bif (!G6) then some (l7.ret (j6.ret false)) else some (l7.brk ()))) else some (l7.brk ()))):Option (l7 (j6 Bool Int Unit) Unit)).bind fun x=>x.go some fun j=>b7N v15))))
theorem d77(w v15 node)(lc:G1 W6 b2Y (b4j w)):NL lc (b5T w v15 node) (fun s=>b2n v15 node):=fun _ h=>PK<|rg<|i9 2 h (fun h=>rg<|(lc.nx h fun hI=>sk [] [1,13,14,15] [(1,0)] hI)) (fun h=>o8<|i9 5 h (fun h=>rg<|fL lc h) (fun h=>rg<|v5 s6 4 h fun vote a0V h=>C2 h (c8W w v15 lc) fun x2 h hc2=>rg<|i9 5 h (fun h=>rg<|(E6 h hc2 fun h=>fL lc h)) (fun h=>i9 11 h (fun h=>j7 a16 a2l 16 h fun G6 h=>i9 19 h (fun h=>rg<|(E6 h hc2 fun h=>fL lc h)) (fun h=>(p7 h hc2 fun hI=>sk [] [1,13,14,15] [(1,0)] hI))) (fun h=>(p7 h hc2 fun hI=>sk [] [1,13,14,15] [(1,0)] hI)))))
def b9c(w:j9)(v15:Int)(node:j5):Int->KS:=fun v26=>⟨W6.k 6 [false,true],(bs 1 (.ptr 1 0 0::(bs 2 (.ptr 2 0 0::(bs 8 (j4 27 r9 w.a8::(vi (w.a8.length:Int)::(vi v15::(bs 8 (j4 27 r9 ((w.a8.drop (l9 (v15+1)).toNat).take (w.a8.length-(l9 (v15+1)).toNat))::(vi (((w.a8.drop (l9 (v15+1)).toNat).take (w.a8.length-(l9 (v15+1)).toNat)).length:Int)::(vi v26::(bs 53 []))))))))))))),[some [],some [.var 33 (H5 w)],some [.var 61 (W8 node)]]⟩
def d5M(w:j9)(v15:Int)(node:j5)(v26:Int):Unit->KS:=fun _=>⟨W6.k 9 [false,true,true,false],(bs 1 (.ptr 1 0 0::(bs 2 (.ptr 2 0 0::(bs 8 (j4 27 r9 w.a8::(vi (w.a8.length:Int)::(vi v15::(bs 8 (j4 27 r9 ((w.a8.drop (l9 (v15+1)).toNat).take (w.a8.length-(l9 (v15+1)).toNat))::(vi (((w.a8.drop (l9 (v15+1)).toNat).take (w.a8.length-(l9 (v15+1)).toNat)).length:Int)::(vi v26::(bs 53 []))))))))))))),[some [],some [.var 33 (H5 w)],some [.var 61 (W8 node)]]⟩
def b7p(v26:Int):Option (j6 Bool Int Unit) :=
 some (j6.nxt (l9 (v26+1)))
theorem d71(w v15 node v26)(lc:G1 W6 (b5T w v15 node) (b9c w v15 node)):NL lc (d5M w v15 node v26) (fun s=>b7p v26):=fun _ h=>PK<|rg<|(lc.nx h fun hI=>sk [] [1,4,13,14,15,24,25,26] [(1,0),(2,0)] hI)
def a7n(w:j9)(v15:Int)(node:j5)(v26:Int):Option (j6 Bool Int Unit) :=
 (bif decide (v26<(((w.a8.drop (l9 (v15+1)).toNat).take (w.a8.length-(l9 (v15+1)).toNat)).length:Int)) then ((idx ((w.a8.drop (l9 (v15+1)).toNat).take (w.a8.length-(l9 (v15+1)).toNat)) v26).bind fun node1=>(((bif (node.a6 != 0) then (bif (node.a6==node1.a6) then some (l7.ret (j6.ret false)) else some (l7.brk ())) else some (l7.brk ())):Option (l7 (j6 Bool Int Unit) Unit)).bind fun x=>x.go some fun j=>b7p v26)) else some (j6.brk ()))
theorem d6T(w v15 node):LQ W6 (b5T w v15 node) (b9c w v15 node) (fun s=>a7n w v15 node s):=fun lc v26 h=>PK<|rg<|i9 0 h (fun h=>rg<|v5 r9 0 h fun node1 a01 h=>C2 h (d71 w v15 node v26 lc) fun x3 h hc3=>rg<|i9 3 h (fun h=>i9 9 h (fun h=>rg<|(E6 h hc3 fun h=>fL lc h)) (fun h=>(p7 h hc3 fun hI=>sk [] [1,4,13,14,15,24,25,26] [(1,0),(2,0)] hI))) (fun h=>(p7 h hc3 fun hI=>sk [] [1,4,13,14,15,24,25,26] [(1,0),(2,0)] hI))) (fun h=>(lc.bk h fun hI=>sk [] [1,4,13,14,15] [(1,0),(2,0)] hI))
def b2u(w:j9)(v15:Int):Option (j6 Bool Int Unit) :=
 (bif decide (v15<(w.a8.length:Int)) then ((idx w.a8 v15).bind fun node=>(s5 ((0:Int)<=l9 (v15+1)/\l9 (v15+1)<=(w.a8.length:Int)) (((p8 (fun s:Int=>a7n w v15 node s) 0).bind fun x=>x.go (fun r=>some (j6.ret r)) fun s=>b2n v15 node)))) else some (j6.brk ()))
theorem d56(w):LQ W6 b2Y (b4j w) (fun s=>b2u w s):=fun lc v15 h=>PK<|rg<|i9 0 h (fun h=>rg<|v5 r9 1 h fun node hnode h=>rg<|t8 h fun e1 h=>om (V.sl 27 (w.a8.length-(l9 (v15+1)).toNat) (((w.a8.map r9).drop (l9 (v15+1)).toNat).take (w.a8.length-(l9 (v15+1)).toNat))=j4 27 r9 ((w.a8.drop (l9 (v15+1)).toNat).take (w.a8.length-(l9 (v15+1)).toNat))) (b3j e1)<|ob e1.1<|ob e1.2<|tl (4,{v:=some (j4 27 r9 ((w.a8.drop (l9 (v15+1)).toNat).take (w.a8.length-(l9 (v15+1)).toNat)))})<|lp (d6T w v15 node) h (fun _ h=>lc.rt h) (d77 w v15 node lc) fun hI=>sk [] [1,4,13,14,15,24,25,26] [(1,0),(6,0)] hI) (fun h=>(lc.bk h fun hI=>sk [] [] [] hI))
def a7w(w:j9):Option Bool :=
 ((a05 w).bind fun C4=>(bif (!C4) then some false else ((p8 (fun s:Int=>b2u w s) 0).bind fun x=>x.go (fun r=>some r) fun s=>b9R)))
theorem d6I{w}:OK W6 [.agg (O8 w)] (a7w w) :=
 q8 _ fun r h=>o8<|j7 H1 a3X 1 h fun C4 h=>i9 2 h (fun h=>rg<|fE h) (fun h=>rg<|lp (d56 w) h (fun _ h=>W6.rt h) (d5s r) fun hI=>sk [] [1,13,14,15] [(1,0)] hI)
def b5w:FS (List m8):=⟨82,Tryz.f82,[.val [some 2] [some 40]],[none],[.val [some 2] []],fun r=>A4 40 2 I9 r,fun _=>[none],Tryz.func82⟩
def b2s(list:List m8):Option (List m8) :=
 (bif ((list.length:Int)==0) then some [] else (s5 (0<=(list.length:Int)/\(list.length:Int)*16<=140737488355328) ((s5 (list.length=(d9u (list.length:Int).toNat (m8.mk 0 0)).length) (some list)))))
theorem d74{list}:OK b5w [j4 2 I9 list] (b2s list) :=
 q8 _ fun r h=>o8<|i9 2 h (fun h=>rg<|fE h) (fun h=>rg<|t8 h fun e1 h=>Q6 2 7 40 2 16 I9 (m8.mk 0 0) b3T (.none) e1 (by decide) (by rfl)<|rg<|t8 h fun e2 h=>om (n9.row 40 2 (d9u (list.length:Int).toNat (m8.mk 0 0)).length (list.map I9)=m4 40 2 I9 list) (Y7 e2)<|z6 (d9u (list.length:Int).toNat (m8.mk 0 0))<|ob e2<|tl (2,{e:=some (m4 40 2 I9 list)})<|rg<|om ((d9u (list.length:Int).toNat (m8.mk 0 0)).length=list.length) (by simp)<|fE h)
def a2g:FS (List m8):=⟨51,Tryz.f51,[.val [some 2] []],[none],[.val [some 7] []],fun r=>j4 2 I9 r,fun _=>[none],Tryz.func51⟩
def b7C:(List m8)->KS:=fun out1=>⟨a2g.k 6 [false,false],(bs 5 (.own 1 0 2 0 out1.length::(bs 30 []))),[some [],some [m4 40 2 I9 out1]]⟩
def b5Q(out1:List m8):Option (List m8) :=
 ((b2s out1).bind fun req=>some req)
theorem c9s(r):NF a2g r b7C (fun s=>b5Q s):=fun out1 h=>PK<|rg<|cbS b5w d74 1 (fun _=>(by simp [b5w,N3,U6,P7,V.simple,vi,A4,eI,I9])) (fun _=>(Z8 1)) h fun req h=>C1 out1 req<|fE h
def b92(list:List j8)(m9:t7×List Int):((List m8)×Int)->KS:=fun (out,v18)=>⟨a2g.k 5 [false],(bs 4 (.own 1 0 1 0 m9.2.length::(.own 2 0 2 0 out.length::(bs 10 (j4 7 u0 list::(vi (list.length:Int)::(vi v18::(bs 17 [])))))))),[some [],some [m4 3 1 eI m9.2],some [m4 40 2 I9 out]]⟩
def d2L(list:List j8)(m9:t7×List Int)(v18:Int):(List m8)->KS:=fun out2=>⟨a2g.k 9 [false,true,true],(bs 4 (.own 1 0 1 0 m9.2.length::(.own 2 0 2 0 out2.length::(bs 10 (j4 7 u0 list::(vi (list.length:Int)::(vi v18::(bs 17 [])))))))),[some [],some [m4 3 1 eI m9.2],some [m4 40 2 I9 out2]]⟩
def b5x(v18:Int)(out2:List m8):Option (j6 (List m8) ((List m8)×Int) (List m8)) :=
 some (j6.nxt (out2,l9 (v18+1)))
theorem d1V(list m9 v18)(lc:G1 a2g b7C (b92 list m9)):NL lc (d2L list m9 v18) (fun s=>b5x v18 s):=fun out2 h=>PK<|rg<|(lc.nx h fun hI=>sk [] [4,5,16,17,18] [(1,0),(2,0)] hI)
def a6S(list:List j8)(m9:t7×List Int)(out:List m8)(v18:Int):Option (j6 (List m8) ((List m8)×Int) (List m8)) :=
 (bif decide (v18<(list.length:Int)) then ((idx list v18).bind fun entry=>((((idx m9.2 v18).bind fun y=>(bif (y==0) then (s5 ((out.length+1)*16<=140737488355328) (some (l7.brk (out++[entry.a0])))) else some (l7.brk out))):Option (l7 (j6 (List m8) ((List m8)×Int) (List m8)) (List m8))).bind fun x=>x.go some fun j=>b5x v18 j)) else some (j6.brk out))
theorem c9W(list m9):LQ a2g b7C (b92 list m9) (fun s=>a6S list m9 s.1 s.2):=fun lc (out,v18) h=>PK<|rg<|i9 0 h (fun h=>rg<|v5 u0 1 h fun entry S0 h=>C2 h (d1V list m9 v18 lc) fun x2 h hc2=>rg<|B3 h fun y hy h=>E3 hy<|T4 eI 3 hy<|i9 4 h (fun h=>rg<|tk 3 []<|t8 h fun e1 h=>K2 4 19 40 2 16 I9 out entry.a0 e1<|K0 entry.a0<|(p7 h hc2 fun hI=>sk [] [4,5,16,17,18] [(1,0),(19,0)] hI)) (fun h=>(p7 h hc2 fun hI=>sk [] [4,5,16,17,18] [(1,0),(2,0)] hI))) (fun h=>(lc.bk h fun hI=>sk [] [5] [(2,0)] hI))
def b2A(list:List j8):Option (List m8) :=
 ((a7e list).bind fun F5=>(bif (!F5) then some [] else ((a4G list).bind fun m9=>((p8 (fun s:(List m8)×Int=>a6S list m9 s.1 s.2) ([],0)).bind fun x=>x.go (fun r=>some r) fun s=>b5Q s))))
theorem c7n{list}:OK a2g [j4 7 u0 list] (b2A list) :=
 q8 _ fun r h=>o8<|j7 a2V b4R 1 h fun F5 h=>i9 2 h (fun h=>rg<|fE h) (fun h=>rg<|j7 a1r b1v 1 h fun m9 h=>o8<|lp (c9W list m9) h (fun _ h=>a2g.rt h) (c9s r) fun hI=>sk [.own (.tmp 5) 40 2] [4,5,16,17,18] [(6,2),(17,0)] hI)
def a4I:FS ((List m7)×Bool):=⟨52,Tryz.f52,[.val [some 4] [some 56],.val [] []],[none,none],[.val I5 [],.val [] []],fun r=>.tup [A4 56 4 z8 r.1,.b r.2],fun _=>[none,none],Tryz.func52⟩
def b8i:Unit->KS:=fun _=>⟨a4I.k 3 [false],(bs 23 []),[some []]⟩
def b8f:Option ((List m7)×Bool) :=
 some ([],false)
theorem d50(r):NF a4I r b8i (fun s=>b8f):=fun _ h=>PK<|rg<|fE h
def c6Y(w:j9)(q:m8):Int->KS:=fun v11=>⟨a4I.k 2 [],(bs 3 (.ptr 1 0 0::(bs 5 (j4 3 D6 w.f0::(vi (w.f0.length:Int)::(vi v11::(bs 11 []))))))),[some [],some [.var 40 [vi q.b6,vi q.Seq]]]⟩
def b02(w:j9)(q:m8)(v11:Int):Option (j6 ((List m7)×Bool) Int Unit) :=
 (bif decide (v11<(w.f0.length:Int)) then ((idx w.f0 v11).bind fun asked=>(bif (([asked.a0.b6,asked.a0.Seq]:List Int)==[q.b6,q.Seq]) then ((a4U asked.i5).bind fun ins=>some (j6.ret (ins,true))) else some (j6.nxt (l9 (v11+1))))) else some (j6.brk ()))
theorem d6B(w q):LQ a4I b8i (c6Y w q) (fun s=>b02 w q s):=fun lc v11 h=>PK<|rg<|i9 0 h (fun h=>rg<|v5 D6 0 h fun asked d3K h=>rg<|i9 3 h (fun h=>rg<|j7 b0c b4c 2 h fun ins h=>z6 ins<|fL lc h) (fun h=>rg<|(lc.nx h fun hI=>sk [] [3,9,10,11] [(1,0)] hI))) (fun h=>(lc.bk h fun hI=>sk [] [] [] hI))
def b1S(w:j9)(q:m8):Option ((List m7)×Bool) :=
 ((p8 (fun s:Int=>b02 w q s) 0).bind fun x=>x.go (fun r=>some r) fun s=>b8f)
theorem d0a{w q}:OK a4I [.agg (O8 w),.agg (I9 q)] (b1S w q) :=
 q8 _ fun r h=>o8<|lp (d6B w q) h (fun _ h=>a4I.rt h) (d50 r) fun hI=>sk [] [3,9,10,11] [(2,0)] hI
def c4H:FS ((List m5)×Int×Int):=⟨85,Tryz.f85,[.val [some 2] [],.val [] [],.val [] []],[none,none],[.val [some 2] [],.val [some 4] []],fun r=>.tup [j4 2 u6 r.1,vi r.2.1,vi r.2.2],fun _=>[none,none],Tryz.func85⟩
def b18(list:List m5)(prog:List m7):Option ((List m5)×Int×Int) :=
 ((a7R list prog).bind fun B2=>(bif (B2.Code==3) then some ([],0,3) else ((a72 list B2).bind fun a62=>some (a62,B2.c8,B2.Code))))
theorem d19{list prog}:OK c4H [j4 2 u6 list,j4 4 z8 prog] (b18 list prog) :=
 q8 _ fun r h=>o8<|j7 K5 c1q 2 h fun B2 h=>rg<|i9 2 h (fun h=>rg<|fE h) (fun h=>rg<|j7 a37 c6f 2 h fun a62 h=>z6 a62<|fE h)
def b5i:FS (List Int):=⟨86,Tryz.f86,[.val [some 1] [some 3]],[none],[.val [some 1] []],fun r=>A4 3 1 eI r,fun _=>[none],Tryz.func86⟩
def b12(list:List Int):Option (List Int) :=
 (bif ((list.length:Int)==0) then some [] else (s5 (0<=(list.length:Int)/\(list.length:Int)*8<=140737488355328) ((s5 (list.length=(d9u (list.length:Int).toNat (0:Int)).length) (some list)))))
theorem d3U{list}:OK b5i [j4 1 eI list] (b12 list) :=
 q8 _ fun r h=>o8<|i9 2 h (fun h=>rg<|fE h) (fun h=>rg<|t8 h fun e1 h=>Q6 2 7 3 1 8 eI (0:Int) ti3 (.none) e1 (by decide) (by rfl)<|rg<|t8 h fun e2 h=>om (n9.row 3 1 (d9u (list.length:Int).toNat (0:Int)).length (list.map eI)=m4 3 1 eI list) (Y7 e2)<|z6 (d9u (list.length:Int).toNat (0:Int))<|ob e2<|tl (2,{e:=some (m4 3 1 eI list)})<|rg<|om ((d9u (list.length:Int).toNat (0:Int)).length=list.length) (by simp)<|fE h)
def a4v:FS ((List m5)×List Int):=⟨53,Tryz.f53,[.val [some 2] [],.val [some 1] []],[none,none],[.val [some 2] [],.val [some 1] []],fun r=>.tup [j4 2 u6 r.1,j4 1 eI r.2],fun _=>[none,none],Tryz.func53⟩
def c2r:((List Int)×List m5)->KS:=fun (vals1,now1)=>⟨a4v.k 6 [false,false],(bs 6 (j4 2 u6 now1::(.own 1 0 1 0 vals1.length::(bs 39 [])))),[some [],some [m4 3 1 eI vals1]]⟩
def b0f(vals1:List Int)(now1:List m5):Option ((List m5)×List Int) :=
 ((b12 vals1).bind fun int=>some (now1,int))
theorem c85(r):NF a4v r c2r (fun s=>b0f s.1 s.2):=fun (vals1,now1) h=>PK<|rg<|cbS b5i d3U 2 (fun _=>(by simp [b5i,N3,U6,P7,V.simple,vi,A4,eI])) (fun _=>(Z8 1)) h fun int h=>C1 vals1 int<|fE h
def d3i(progs:List (List m7)):((List Int)×Int×List m5)->KS:=fun (vals,v25,now)=>⟨a4v.k 5 [false],(bs 6 (j4 2 u6 now::(.own 1 0 1 0 vals.length::(bs 15 (j4 1 a5P progs::(vi (progs.length:Int)::(vi v25::(bs 21 [])))))))),[some [],some [m4 3 1 eI vals]]⟩
def a58(progs:List (List m7))(vals:List Int)(v25:Int)(now:List m5):Option (j6 ((List m5)×List Int) ((List Int)×Int×List m5) ((List Int)×List m5)) :=
 (bif decide (v25<(progs.length:Int)) then ((idx progs v25).bind fun y=>((b18 now y).bind fun I2=>(bif (I2.2.2==3) then some (j6.ret ([],[])) else (s5 ((vals.length+1)*8<=140737488355328) (some (j6.nxt (vals++[I2.2.1],l9 (v25+1),I2.1))))))) else some (j6.brk (vals,now)))
theorem d10(progs):LQ a4v c2r (d3i progs) (fun s=>a58 progs s.1 s.2.1 s.2.2):=fun lc (vals,v25,now) h=>PK<|rg<|i9 0 h (fun h=>rg<|v5 a5P 0 h fun y hy h=>rg<|j7 c4H d19 2 h fun I2 h=>rg<|i9 1 h (fun h=>rg<|fL lc h) (fun h=>o8<|tk 2 []<|t8 h fun e1 h=>K2 3 23 3 1 8 eI vals I2.2.1 e1<|K0 I2.2.1<|rg<|(lc.nx h fun hI=>sk [] [6,7,23,24,25] [(23,0)] hI))) (fun h=>(lc.bk h fun hI=>sk [] [6,7] [(1,0)] hI))
def b0s(list:List m5)(progs:List (List m7)):Option ((List m5)×List Int) :=
 ((a3u list).bind fun X9=>(bif (!X9) then some ([],[]) else (bif decide ((progs.length:Int)>100) then some ([],[]) else ((a5t list).bind fun box=>((p8 (fun s:(List Int)×Int×List m5=>a58 progs s.1 s.2.1 s.2.2) ([],0,box)).bind fun x=>x.go (fun r=>some r) fun s=>b0f s.1 s.2)))))
theorem c6x{list progs}:OK a4v [j4 2 u6 list,j4 1 a5P progs] (b0s list progs) :=
 q8 _ fun r h=>o8<|j7 a1e a8A 1 h fun X9 h=>i9 3 h (fun h=>rg<|fE h) (fun h=>i9 7 h (fun h=>rg<|fE h) (fun h=>rg<|j7 b2U b55 1 h fun box h=>o8<|lp (d10 progs) h (fun _ h=>a4v.rt h) (c85 r) fun hI=>z6 box<|sk [.frz (.tmp 6) (none),.own (.tmp 7) 3 1] [6,7,23,24,25] [(18,0)] hI))
def a5j:FS (Bool):=⟨87,Tryz.f87,[.val [] []],[none,none],[.val [some 2] [],.val [some 2] []],fun r=>.b r,fun _=>[none,none],Tryz.func87⟩
def c3e:Unit->KS:=fun _=>⟨a5j.k 4 [false,false],(bs 26 []),[some []]⟩
def c0g:Option Bool :=
 some true
theorem d1B(r):NF a5j r c3e (fun s=>c0g):=fun _ h=>PK<|rg<|fE h
def d7R(a:List m5)(b:List m5):Int->KS:=fun v13=>⟨a5j.k 3 [false],(j4 2 u6 a::(j4 2 u6 b::(bs 10 (vi (a.length:Int)::(vi v13::(bs 12 [])))))),[some []]⟩
def b1x(a:List m5)(b:List m5)(v13:Int):Option (j6 Bool Int Unit) :=
 (bif decide (v13<(a.length:Int)) then ((idx a v13).bind fun box=>((idx b v13).bind fun M1=>(bif (!(([box.i7,box.c8]:List Int)==[M1.i7,M1.c8])) then some (j6.ret false) else some (j6.nxt (l9 (v13+1)))))) else some (j6.brk ()))
theorem c6p(a b):LQ a5j c3e (d7R a b) (fun s=>b1x a b s):=fun lc v13 h=>PK<|rg<|i9 0 h (fun h=>o8<|v5 u6 2 h fun box a7i h=>v5 u6 6 h fun M1 a2C h=>i9 8 h (fun h=>rg<|fL lc h) (fun h=>rg<|(lc.nx h fun hI=>sk [] [0,1,12,13] [] hI))) (fun h=>(lc.bk h fun hI=>sk [] [] [] hI))
def b6M(a:List m5)(b:List m5):Option Bool :=
 (bif ((a.length:Int) != (b.length:Int)) then some false else ((p8 (fun s:Int=>b1x a b s) 0).bind fun x=>x.go (fun r=>some r) fun s=>c0g))
theorem c8g{a b}:OK a5j [j4 2 u6 a,j4 2 u6 b] (b6M a b) :=
 q8 _ fun r h=>o8<|i9 4 h (fun h=>rg<|fE h) (fun h=>rg<|lp (c6p a b) h (fun _ h=>a5j.rt h) (d1B r) fun hI=>sk [] [0,1,12,13] [] hI)
def c4x:FS (Bool):=⟨55,Tryz.f55,[.val [] []],[none,none],[.val [some 2] [],.val [some 2] []],fun r=>.b r,fun _=>[none,none],Tryz.func55⟩
def b1Y(a:List m5)(b:List m5):Option Bool :=
 ((b6M a b).bind fun box=>some box)
theorem d7s{a b}:OK c4x [j4 2 u6 a,j4 2 u6 b] (b1Y a b) :=
 q8 _ fun r h=>o8<|j7 a5j c8g 2 h fun box h=>fE h
def a0X:FS (Bool):=⟨24,Tryz.f24,[.val [] []],[none],[.val I5 []],fun r=>.b r,fun _=>[none],Tryz.func24⟩
def b8C(worldLog:List j8)(z9:List m8):(List (List m7))->KS:=fun a68=>⟨a0X.k 7 [false,false],(bs 3 (j4 7 u0 worldLog::(j4 2 I9 z9::(.own 1 0 1 0 a68.length::(bs 74 []))))),[some [],some [m4 24 1 a5P a68]]⟩
def c2b:Unit->KS:=fun _=>⟨a0X.k 11 [false,false,false,false],(bs 80 []),[some []]⟩
def c0e:Option Bool :=
 some true
theorem d7O(r):NF a0X r c2b (fun s=>c0e):=fun _ h=>PK<|rg<|fE h
def d4F(worldLog:List j8)(z9:List m8)(I6:(List m5)×List Int):Int->KS:=fun v61=>⟨a0X.k 10 [false,false,false],(bs 3 (j4 7 u0 worldLog::(bs 7 (j4 1 eI I6.2::(bs 47 (j4 2 I9 z9::(vi (z9.length:Int)::(vi v61::(bs 18 []))))))))),[some []]⟩
def b23(worldLog:List j8)(z9:List m8)(I6:(List m5)×List Int)(v61:Int):Option (j6 Bool Int Unit) :=
 (bif decide (v61<(z9.length:Int)) then ((idx z9 v61).bind fun req=>((idx I6.2 v61).bind fun y=>((a3d worldLog req).bind fun first=>((idx worldLog first).bind fun entry=>(bif (y != entry.c7.c8) then some (j6.ret false) else some (j6.nxt (l9 (v61+1)))))))) else some (j6.brk ()))
theorem d3G(worldLog z9 I6):LQ a0X c2b (d4F worldLog z9 I6) (fun s=>b23 worldLog z9 I6 s):=fun lc v61 h=>PK<|rg<|i9 0 h (fun h=>rg<|v5 I9 1 h fun req d9l h=>rg<|v5 eI 2 h fun y hy h=>j7 a0t a9H 7 h fun first h=>v5 u0 8 h fun entry S0 h=>i9 12 h (fun h=>rg<|fL lc h) (fun h=>rg<|(lc.nx h fun hI=>sk [] [3,11,59,60,61] [] hI))) (fun h=>(lc.bk h fun hI=>sk [] [] [] hI))
def a8m(worldLog:List j8)(z9:List m8)(a68:List (List m7)):Option Bool :=
 ((a9a).bind fun a1R=>((b0s a1R a68).bind fun I6=>((a9F worldLog).bind fun a4M=>((b1Y I6.1 a4M.d8).bind fun c2E=>(bif (!c2E) then some false else (bif ((I6.2.length:Int) != (z9.length:Int)) then some false else ((p8 (fun s:Int=>b23 worldLog z9 I6 s) 0).bind fun x=>x.go (fun r=>some r) fun s=>c0e)))))))
theorem d1v(worldLog z9)(r):NF a0X r (b8C worldLog z9) (fun s=>a8m worldLog z9 s):=fun a68 h=>PK<|rg<|j7 b5p c0L 0 h fun a1R h=>j7 a4v c6x 2 h fun I6 h=>C1 a1R a68<|rg<|j7 b7o b8H 2 h fun a4M h=>cb1 c4x d7s 4 2 h fun c2E h=>z6 a4M.d8<|i9 6 h (fun h=>rg<|fE h) (fun h=>i9 12 h (fun h=>rg<|fE h) (fun h=>rg<|lp (d3G worldLog z9 I6) h (fun _ h=>a0X.rt h) (d7O r) fun hI=>sk [] [3,11,59,60,61] [] hI))
def d87(w:j9)(worldLog:List j8)(z9:List m8):((List (List m7))×Int)->KS:=fun (progs,v23)=>⟨a0X.k 6 [false],(bs 1 (.ptr 1 0 0::(bs 1 (j4 7 u0 worldLog::(j4 2 I9 z9::(.own 2 0 1 0 progs.length::(bs 15 (j4 2 I9 z9::(vi (z9.length:Int)::(vi v23::(bs 56 []))))))))))),[some [],some [.var 33 (H5 w)],some [m4 24 1 a5P progs]]⟩
def a3Z(w:j9)(z9:List m8)(progs:List (List m7))(v23:Int):Option (j6 Bool ((List (List m7))×Int) (List (List m7))) :=
 (bif decide (v23<(z9.length:Int)) then ((idx z9 v23).bind fun c4Z=>((b1S w c4Z).bind fun a60=>(bif (!a60.2) then some (j6.ret false) else (s5 ((progs.length+1)*24<=140737488355328) (some (j6.nxt (progs++[a60.1],l9 (v23+1)))))))) else some (j6.brk progs))
theorem c9H(w worldLog z9):LQ a0X (b8C worldLog z9) (d87 w worldLog z9) (fun s=>a3Z w z9 s.1 s.2):=fun lc (progs,v23) h=>PK<|rg<|i9 0 h (fun h=>rg<|v5 I9 0 h fun c4Z d9r h=>rg<|j7 a4I d0a 2 h fun a60 h=>rg<|i9 1 h (fun h=>rg<|fL lc h) (fun h=>rg<|z6 a60.1<|tk 2 [some 4]<|t8 h fun e1 h=>K2 3 21 24 1 24 a5P progs a60.1 e1<|K0 a60.1<|rg<|(lc.nx h fun hI=>sk [] [1,3,4,5,21,22,23] [(1,0),(21,0)] hI))) (fun h=>(lc.bk h fun hI=>sk [] [3,4,5] [(2,0)] hI))
def b3t(w:j9):Option Bool :=
 ((a05 w).bind fun C4=>(bif (!C4) then some false else ((a6e w).bind fun worldLog=>((b2A worldLog).bind fun z9=>((p8 (fun s:(List (List m7))×Int=>a3Z w z9 s.1 s.2) ([],0)).bind fun x=>x.go (fun r=>some r) fun s=>a8m worldLog z9 s)))))
theorem d2Y{w}:OK a0X [.agg (O8 w)] (b3t w) :=
 q8 _ fun r h=>o8<|j7 H1 a3X 1 h fun C4 h=>i9 2 h (fun h=>rg<|fE h) (fun h=>rg<|j7 a1D b53 1 h fun worldLog h=>rg<|j7 a2g c7n 1 h fun z9 h=>o8<|lp (c9H w worldLog z9) h (fun _ h=>a0X.rt h) (d1v worldLog z9 r) fun hI=>sk [.own (.tmp 5) 24 1] [1,3,4,5,21,22,23] [(1,0),(16,0)] hI)
def a2v:FS (Bool):=⟨25,Tryz.f25,[.val [] []],[none],[.val I5 []],fun r=>.b r,fun _=>[none],Tryz.func25⟩
def b4H:Unit->KS:=fun _=>⟨a2v.k 6 [false,false],(bs 56 []),[some []]⟩
def c2I:Option Bool :=
 some true
theorem d0n(r):NF a2v r b4H (fun s=>c2I):=fun _ h=>PK<|rg<|fE h
def c3X(w:j9)(worldLog:List j8)(m9:t7×List Int):Int->KS:=fun v23=>⟨a2v.k 5 [false],(bs 3 (j4 7 u0 worldLog::(bs 1 (.own 1 0 1 0 m9.2.length::(bs 15 (j4 5 A3 w.Told::(vi (w.Told.length:Int)::(vi v23::(bs 32 []))))))))),[some [],some [m4 3 1 eI m9.2]]⟩
def d8p(w:j9)(worldLog:List j8)(m9:t7×List Int)(v23:Int)(told:s9):Int->KS:=fun val=>⟨a2v.k 12 [false,true,false,true],(bs 3 (j4 7 u0 worldLog::(bs 1 (.own 1 0 1 0 m9.2.length::(bs 1 (.ptr 2 0 0::(bs 1 (vi val::(bs 11 (j4 5 A3 w.Told::(vi (w.Told.length:Int)::(vi v23::(bs 32 []))))))))))))),[some [],some [m4 3 1 eI m9.2],some [.var 76 [vi told.Node,vi told.a0.b6,vi told.a0.Seq,vi told.Code,vi told.c8]]]⟩
def b7O(v23:Int)(told:s9)(val:Int):Option (j6 Bool Int Unit) :=
 (bif (told.c8 != val) then some (j6.ret false) else some (j6.nxt (l9 (v23+1))))
theorem c9q(w worldLog m9 v23 told)(lc:G1 a2v b4H (c3X w worldLog m9)):NL lc (d8p w worldLog m9 v23 told) (fun s=>b7O v23 told s):=fun val h=>PK<|rg<|i9 3 h (fun h=>rg<|fL lc h) (fun h=>rg<|(lc.nx h fun hI=>sk [] [3,5,21,22,23] [(1,0)] hI))
def b2X(w:j9)(worldLog:List j8)(m9:t7×List Int)(v23:Int):Option (j6 Bool Int Unit) :=
 (bif decide (v23<(w.Told.length:Int)) then ((idx w.Told v23).bind fun told=>((a3d worldLog told.a0).bind fun first=>(bif decide (first<0) then some (j6.ret false) else ((idx m9.2 first).bind fun y=>(bif (y != told.Code) then some (j6.ret false) else (((bif (told.Code==0) then ((idx worldLog first).bind fun entry=>some (l7.brk entry.c7.c8)) else some (l7.brk 0)):Option (l7 (j6 Bool Int Unit) Int)).bind fun x=>x.go some fun j=>b7O v23 told j)))))) else some (j6.brk ()))
theorem d3n(w worldLog m9):LQ a2v b4H (c3X w worldLog m9) (fun s=>b2X w worldLog m9 s):=fun lc v23 h=>PK<|rg<|i9 0 h (fun h=>rg<|v5 A3 0 h fun told c5T h=>rg<|j7 a0t a9H 3 h fun first h=>rg<|i9 2 h (fun h=>rg<|fL lc h) (fun h=>B3 h fun y hy h=>E3 hy<|T4 eI 6 hy<|i9 10 h (fun h=>rg<|fL lc h) (fun h=>rg<|C2 h (c9q w worldLog m9 v23 told lc) fun x2 h hc2=>rg<|i9 2 h (fun h=>rg<|v5 u0 2 h fun entry S0 h=>(p7 h hc2 fun hI=>sk [] [3,5,7,9,21,22,23] [(1,0),(5,0)] hI)) (fun h=>(p7 h hc2 fun hI=>sk [] [3,5,7,9,21,22,23] [(1,0),(5,0)] hI))))) (fun h=>(lc.bk h fun hI=>sk [] [] [] hI))
def a9s(w:j9):Option Bool :=
 ((a05 w).bind fun C4=>(bif (!C4) then some false else ((a6e w).bind fun worldLog=>((a4G worldLog).bind fun m9=>((p8 (fun s:Int=>b2X w worldLog m9 s) 0).bind fun x=>x.go (fun r=>some r) fun s=>c2I)))))
theorem d6r{w}:OK a2v [.agg (O8 w)] (a9s w) :=
 q8 _ fun r h=>o8<|j7 H1 a3X 1 h fun C4 h=>i9 2 h (fun h=>rg<|fE h) (fun h=>rg<|j7 a1D b53 1 h fun worldLog h=>rg<|j7 a1r b1v 1 h fun m9 h=>rg<|lp (d3n w worldLog m9) h (fun _ h=>a2v.rt h) (d0n r) fun hI=>sk [] [3,5,21,22,23] [(10,2)] hI)
def a4l:FS (Bool):=⟨26,Tryz.f26,[.val [] []],[none],[.val I5 []],fun r=>.b r,fun _=>[none],Tryz.func26⟩
def c2k:Unit->KS:=fun _=>⟨a4l.k 5 [false,false],(bs 25 []),[some []]⟩
def c1K:Option Bool :=
 some true
theorem d8q(r):NF a4l r c2k (fun s=>c1K):=fun _ h=>PK<|rg<|fE h
def d8r(w:j9):((List m8)×Int)->KS:=fun (w1,v13)=>⟨a4l.k 4 [false],(bs 3 (.mp 1 0::(bs 7 (j4 5 A3 w.Told::(vi (w.Told.length:Int)::(vi v13::(bs 11 []))))))),[some [],some [.map 105 2 (w1.map fun x=>(D8 x,.b true))]]⟩
def a75(w:j9)(w1:List m8)(v13:Int):Option (j6 Bool ((List m8)×Int) Unit) :=
 (bif decide (v13<(w.Told.length:Int)) then ((idx w.Told v13).bind fun told=>(bif (w1.any fun x=>D8 told.a0==D8 x) then some (j6.ret false) else some (j6.nxt (a4B D8 w1 told.a0,l9 (v13+1))))) else some (j6.brk ()))
theorem c9a(w):LQ a4l c2k (d8r w) (fun s=>a75 w s.1 s.2):=fun lc (w1,v13) h=>PK<|rg<|i9 0 h (fun h=>rg<|v5 A3 0 h fun told c5T h=>rg<|cdT (3,{v:=some (.b (w1.any fun x=>D8 told.a0==D8 x))}) h (fun _ h=>om (a1m (w1.map fun x=>(D8 x,.b true)) (D8 told.a0) (.b false)=.b (w1.any fun x=>D8 told.a0==D8 x)) (b7q D8 _ _)<|rg<|fL lc h) (fun _ h=>om (a1m (w1.map fun x=>(D8 x,.b true)) (D8 told.a0) (.b false)=.b (w1.any fun x=>D8 told.a0==D8 x)) (b7q D8 _ _)<|rg<|om (n9.map 105 2 (Z9 (w1.map fun x=>(D8 x,.b true)) (D8 told.a0) (.b true))=.map 105 2 ((a4B D8 w1 told.a0).map fun x=>(D8 x,.b true))) (congrArg (n9.map 105 2) (c5t D8 _ _))<|tl (3,{e:=some (.map 105 2 ((a4B D8 w1 told.a0).map fun x=>(D8 x,.b true)))})<|rg<|(lc.nx h fun hI=>sk [] [3,11,12,13] [(1,0)] hI))) (fun h=>(lc.bk h fun hI=>sk [] [] [] hI))
def a82(w:j9):Option Bool :=
 ((a05 w).bind fun C4=>(bif (!C4) then some false else ((p8 (fun s:(List m8)×Int=>a75 w s.1 s.2) (([]:List m8),0)).bind fun x=>x.go (fun r=>some r) fun s=>c1K)))
theorem c7N{w}:OK a4l [.agg (O8 w)] (a82 w) :=
 q8 _ fun r h=>o8<|j7 H1 a3X 1 h fun C4 h=>i9 2 h (fun h=>rg<|fE h) (fun h=>o8<|lp (c9a w) h (fun _ h=>a4l.rt h) (d8q r) fun hI=>sk [] [3,11,12,13] [(6,0)] hI)
def c0Y:FS (Bool):=⟨11,Tryz.f11,[.val [] []],[none],[.val I5 []],fun r=>.b r,fun _=>[none],Tryz.func11⟩
def b2D(w:j9):Option Bool :=
 ((a8f w).bind fun c4w=>(bif c4w then ((a77 w).bind fun c1r=>(bif c1r then ((a8p w).bind fun c4o=>(bif c4o then ((a7w w).bind fun c2T=>(bif c2T then ((b3t w).bind fun a5n=>(bif a5n then ((a9s w).bind fun c0U=>(bif c0U then ((a82 w).bind fun c0T=>some c0T) else some false)) else some false)) else some false)) else some false)) else some false)) else some false))
theorem d6w{w}:OK c0Y [.agg (O8 w)] (b2D w) :=
 q8 _ fun r h=>o8<|j7 X2 d8B 1 h fun c4w h=>i9 2 h (fun h=>j7 T0 d2F 4 h fun c1r h=>i9 6 h (fun h=>j7 a09 d4w 8 h fun c4o h=>i9 10 h (fun h=>j7 W6 d6I 12 h fun c2T h=>i9 14 h (fun h=>j7 a0X d2Y 16 h fun a5n h=>i9 18 h (fun h=>j7 a2v d6r 20 h fun c0U h=>i9 22 h (fun h=>j7 a4l c7N 24 h fun c0T h=>fE h) (fun h=>fE h)) (fun h=>fE h)) (fun h=>fE h)) (fun h=>fE h)) (fun h=>fE h)) (fun h=>fE h)
def a0o:FS (Bool):=⟨3,Tryz.f3,[.val [] []],[none,none],[.val [some 1] [],.val [some 1] []],fun r=>.b r,fun _=>[none,none],Tryz.func3⟩
def c04(more:List Int)(drawSerialOne:(List m5×Nat)×List m7):j9->KS:=fun w=>⟨a0o.k 14 [false,false,true,true],(bs 6 (j4 4 z8 drawSerialOne.2::(vi (d9I (more.length:Int) 3)::(vi (d9I (l9 ((l9 ((d9I (more.length:Int) 3)+1))+(d9I (l9 (e0B (more.length:Int) 3)) 2))) 3)::(.ptr 1 0 0::(bs 122 [])))))),[some [],some [.var 33 [j4 27 r9 w.a8,j4 13 u5 w.i0,j4 3 D6 w.f0,j4 5 A3 w.Told]]]⟩
def b6Q(weAll2:j9)(worldLog:List j8):Int->KS:=fun n1=>⟨a0o.k 23 [false,false,true,true,false],(bs 9 (.ptr 1 0 0::(bs 1 (j4 7 u0 worldLog::(vi n1::(bs 119 [])))))),[some [],some [.var 33 [j4 27 r9 weAll2.a8,j4 13 u5 weAll2.i0,j4 3 D6 weAll2.f0,j4 5 A3 weAll2.Told]]]⟩
def b7A(weAll2:j9)(worldLog:List j8)(n1:Int):Option Bool :=
 (bif (n1==1) then (bif ((worldLog.length:Int)==2) then ((b2D weAll2).bind fun b9J=>some b9J) else some false) else some false)
theorem c9G(weAll2 worldLog)(r):NF a0o r (b6Q weAll2 worldLog) (fun s=>b7A weAll2 worldLog s):=fun n1 h=>PK<|rg<|i9 2 h (fun h=>i9 7 h (fun h=>j7 c0Y d6w 9 h fun b9J h=>fE h) (fun h=>fE h)) (fun h=>fE h)
def b8S(more:List Int)(weAll2:j9)(worldLog:List j8):(Int×Int)->KS:=fun (n,i1)=>⟨a0o.k 22 [false,false,true,true],(bs 7 (vi (d9I (more.length:Int) 3)::(bs 1 (.ptr 1 0 0::(bs 1 (j4 7 u0 worldLog::(vi n::(vi i1::(bs 118 []))))))))),[some [],some [.var 33 [j4 27 r9 weAll2.a8,j4 13 u5 weAll2.i0,j4 3 D6 weAll2.f0,j4 5 A3 weAll2.Told]]]⟩
def d4z(more:List Int)(weAll2:j9)(worldLog:List j8)(i1:Int):Int->KS:=fun n2=>⟨a0o.k 25 [false,false,true,true,true,true],(bs 7 (vi (d9I (more.length:Int) 3)::(bs 1 (.ptr 1 0 0::(bs 1 (j4 7 u0 worldLog::(vi n2::(vi i1::(bs 118 []))))))))),[some [],some [.var 33 [j4 27 r9 weAll2.a8,j4 13 u5 weAll2.i0,j4 3 D6 weAll2.f0,j4 5 A3 weAll2.Told]]]⟩
def b1f(i1:Int)(n2:Int):Option (j6 Bool (Int×Int) Int) :=
 some (j6.nxt (n2,l9 (i1+1)))
theorem d3a(more weAll2 worldLog i1)(lc:G1 a0o (b6Q weAll2 worldLog) (b8S more weAll2 worldLog)):NL lc (d4z more weAll2 worldLog i1) (fun s=>b1f i1 s):=fun n2 h=>PK<|rg<|(lc.nx h fun hI=>sk [] [7,9,11,12,13] [(1,0)] hI)
def a12(more:List Int)(worldLog:List j8)(n:Int)(i1:Int):Option (j6 Bool (Int×Int) Int) :=
 (bif decide (i1<(worldLog.length:Int)) then ((((idx worldLog i1).bind fun entry=>(bif (!entry.i6) then (bif (([entry.a0.b6,entry.a0.Seq]:List Int)==[d9I (more.length:Int) 3,1]) then some (l7.brk (l9 (n+1))) else some (l7.brk n)) else some (l7.brk n))):Option (l7 (j6 Bool (Int×Int) Int) Int)).bind fun x=>x.go some fun j=>b1f i1 j) else some (j6.brk n))
theorem d6i(more weAll2 worldLog):LQ a0o (b6Q weAll2 worldLog) (b8S more weAll2 worldLog) (fun s=>a12 more worldLog s.1 s.2):=fun lc (n,i1) h=>PK<|rg<|i9 3 h (fun h=>C2 h (d3a more weAll2 worldLog i1 lc) fun x2 h hc2=>rg<|v5 u0 2 h fun entry S0 h=>i9 6 h (fun h=>ixR u0 9 S0<|i9 15 h (fun h=>rg<|(p7 h hc2 fun hI=>sk [] [7,9,11,12,13] [(1,0)] hI)) (fun h=>(p7 h hc2 fun hI=>sk [] [7,9,11,12,13] [(1,0)] hI))) (fun h=>(p7 h hc2 fun hI=>sk [] [7,9,11,12,13] [(1,0)] hI))) (fun h=>(lc.bk h fun hI=>sk [] [9,11,12] [(1,0)] hI))
def b1R(more:List Int)(drawSerialOne:(List m5×Nat)×List m7)(w:j9):Option Bool :=
 ((a1z w (G5.mk 7 (d9I (more.length:Int) 3) [])).bind fun c1d=>((a1z c1d (G5.mk 5 (d9I (l9 ((l9 ((d9I (more.length:Int) 3)+1))+(d9I (l9 (e0B (more.length:Int) 3)) 2))) 3) [])).bind fun c2a=>((a6l c2a).bind fun b70=>((a1z b70 (G5.mk 1 (d9I (l9 ((l9 ((d9I (more.length:Int) 3)+1))+(d9I (l9 (e0B (more.length:Int) 3)) 2))) 3) drawSerialOne.2)).bind fun c4J=>((a6l c4J).bind fun weAll2=>((a6e weAll2).bind fun worldLog=>((p8 (fun s:Int×Int=>a12 more worldLog s.1 s.2) (0,0)).bind fun x=>x.go (fun r=>some r) fun s=>b7A weAll2 worldLog s)))))))
theorem c9z(more drawSerialOne)(r):NF a0o r (c04 more drawSerialOne) (fun s=>b1R more drawSerialOne s):=fun w h=>PK<|rg<|j7 a2J a3b 3 h fun c1d h=>rg<|j7 a2J a3b 3 h fun c2a h=>rg<|j7 a2n b3V 1 h fun b70 h=>rg<|j7 a2J a3b 4 h fun c4J h=>rg<|j7 a2n b3V 1 h fun weAll2 h=>rg<|j7 a1D b53 1 h fun worldLog h=>o8<|lp (d6i more weAll2 worldLog) h (fun _ h=>a0o.rt h) (c9G weAll2 worldLog r) fun hI=>sk [] [7,9,11,12,13] [(1,0)] hI
def d8l(more:List Int)(drawSerialOne:(List m5×Nat)×List m7)(worldDo1:j9):Int->KS:=fun i=>⟨a0o.k 10 [false,false],(bs 6 (j4 4 z8 drawSerialOne.2::(vi (d9I (more.length:Int) 3)::(vi (d9I (l9 ((l9 ((d9I (more.length:Int) 3)+1))+(d9I (l9 (e0B (more.length:Int) 3)) 2))) 3)::(.ptr 1 0 0::(vi i::(bs 121 []))))))),[some [],some [.var 33 [j4 27 r9 worldDo1.a8,j4 13 u5 worldDo1.i0,j4 3 D6 worldDo1.f0,j4 5 A3 worldDo1.Told]]]⟩
def a8K(more:List Int)(worldDo1:j9)(i:Int):Option (j6 Bool Int j9) :=
 (bif decide (i<(worldDo1.i0.length:Int)) then ((idx worldDo1.i0 i).bind fun msg=>(bif (msg.To==(d9I (l9 ((l9 ((d9I (more.length:Int) 3)+1))+(d9I (l9 (e0B (more.length:Int) 3)) 2))) 3)) then ((a1z worldDo1 (G5.mk 4 i [])).bind fun b78=>((a1z b78 (G5.mk 2 i [])).bind fun c6b=>some (j6.brk c6b))) else some (j6.nxt (l9 (i+1))))) else some (j6.brk worldDo1))
theorem d0R(more drawSerialOne worldDo1):LQ a0o (c04 more drawSerialOne) (d8l more drawSerialOne worldDo1) (fun s=>a8K more worldDo1 s):=fun lc i h=>PK<|rg<|i9 4 h (fun h=>rg<|v5 u5 3 h fun msg hmsg h=>i9 7 h (fun h=>rg<|j7 a2J a3b 3 h fun b78 h=>rg<|j7 a2J a3b 3 h fun c6b h=>(lc.bk h fun hI=>sk [] [6,7,8,9] [(1,0)] hI)) (fun h=>rg<|(lc.nx h fun hI=>sk [] [6,7,8,9,10] [(1,0)] hI))) (fun h=>(lc.bk h fun hI=>sk [] [6,7,8,9] [(1,0)] hI))
def b5g(code:List Int)(more:List Int):Option Bool :=
 (bif decide ((code.length:Int)>1048576) then some true else (bif decide ((more.length:Int)>1048576) then some true else ((b0v code).bind fun drawSerialOne=>((b1M drawSerialOne.2).bind fun C3=>(bif (!C3) then ((a3A drawSerialOne.2).bind fun b8T=>some (!b8T)) else ((b2b).bind fun c5L=>((a1z c5L (G5.mk 5 (d9I (more.length:Int) 3) [])).bind fun a8S=>((a6l a8S).bind fun c58=>((a1z c58 (G5.mk 1 (d9I (more.length:Int) 3) drawSerialOne.2)).bind fun worldDo1=>((p8 (fun s:Int=>a8K more worldDo1 s) 0).bind fun x=>x.go (fun r=>some r) fun s=>b1R more drawSerialOne s))))))))))
theorem d27{code more}:OK a0o [j4 1 L5 code,j4 1 L5 more] (b5g code more) :=
 q8 _ fun r h=>o8<|i9 3 h (fun h=>rg<|fE h) (fun h=>i9 7 h (fun h=>rg<|fE h) (fun h=>rg<|j7 b8Q d8X 1 h fun drawSerialOne h=>rg<|j7 a4H d3X 1 h fun C3 h=>i9 2 h (fun h=>rg<|j7 a1s a9x 1 h fun b8T h=>fE h) (fun h=>rg<|om (3≠(0:Int)) (by decide)<|rg<|om (3≠(0:Int)) (by decide)<|om (2≠(0:Int)) (by decide)<|om (3≠(0:Int)) (by decide)<|rg<|j7 a5x c9v 0 h fun c5L h=>j7 a2J a3b 3 h fun a8S h=>rg<|j7 a2n b3V 1 h fun c58 h=>rg<|j7 a2J a3b 4 h fun worldDo1 h=>rg<|lp (d0R more drawSerialOne worldDo1) h (fun _ h=>a0o.rt h) (c9z more drawSerialOne r) fun hI=>sk [] [6,7,8,9,10] [(37,0)] hI)))
theorem d5U:a56 Tryz.prog 5 L5 a2t:=d3J Tryz.underlying5
theorem c5u:a56 Tryz.prog 22 (fun l:List Int=>[j4 1 L5 l]) (A0 1 a2t):=d8A Tryz.underlying22 d5U (by kernel_rfl) (by decide) (by kernel_rfl) (fun _=>rfl)
theorem C8{n:Int}(h1:-9223372036854775808<=n)(h2:n<=9223372036854775807):l9 n=n:=IntWalk.i64_in n ⟨h1,h2⟩
def q9{α:Type}(l:List α):Prop:=l.length<=140737488351232
theorem E7{α:Type}{l:List α}(hl:q9 l){k:Nat}(h:k<l.length):l9 ((k:Int)+1)=((k+1:Nat):Int):=by
 unfold q9 at hl;rw [C8 (by omega) (by omega)];omega
section
variable {R S B:Type} {body:S->Option (j6 R S B)}
theorem I7{s t:S}(h:body s=some (.nxt t)):p8 body s=p8 body t:=by rw [b3P,h]
theorem E8{s:S}{b:B}(h:body s=some (.brk b)):p8 body s=some (.brk b):=by rw [b3P,h]
theorem a0f{s:S}{r:R}(h:body s=some (.ret r)):p8 body s=some (.ret r):=by rw [b3P,h]
theorem T8(st:Nat->S)(n:Nat)(h:∀k,k<n->body (st k)=some (.nxt (st (k+1)))):p8 body (st 0)=p8 body (st n):=by
 induction n with
 | zero=>rfl
 | succ n ih =>
  rw [ih fun k hk=>h k (by omega)];exact I7 (h n (by omega))
theorem a3h(st:Nat->S)(n:Nat)(ok:Nat->Bool)(r:Nat->R)(b:B)(h1:∀k,k<n->(∀j,j<k->ok j=true)->body (st k)=some (bif ok k then .nxt (st (k+1)) else .ret (r k)))(h2:(∀j,j<n->ok j=true)->body (st n)=some (.brk b)) :
  (p8 body (st 0)=some (.brk b)/\∀j,j<n->ok j=true)\/∃k,k<n/\ok k=false/\(∀j,j<k->ok j=true)/\p8 body (st 0)=some (.ret (r k)):=by
 by_cases hall:∀j,j<n->ok j=true
 ·left
  refine ⟨?_,hall⟩;rw [T8 st n fun k hk => ?_]
  ·exact E8 (h2 hall)
  ·rw [h1 k hk fun j hj=>hall j (by omega),hall k hk];rfl
 ·right
  have hex:∃k,k<n/\ok k=false:=by
   apply e1e;intro hn;apply hall;intro j hj;cases hj':ok j with
   | true=>rfl
   | false=>exact absurd ⟨j,hj,hj'⟩ hn
  obtain ⟨k,hk,ho,hb⟩:∃k,k<n/\ok k=false/\∀j,j<k->ok j=true:=by
   obtain ⟨k,hk,ho⟩:=hex;induction k using Nat.strongRecOn with
   | _ k ih =>
    by_cases hb:∀j,j<k->ok j=true
    ·exact ⟨k,hk,ho,hb⟩
    ·have:∃j,j<k/\ok j=false:=by
      apply e1e;intro hn;apply hb;intro j hj;cases hj':ok j with
      | true=>rfl
      | false=>exact absurd ⟨j,hj,hj'⟩ hn
     obtain ⟨j,hj,hjo⟩:=this;exact ih j hj (by omega) hjo
  refine ⟨k,hk,ho,hb,?_⟩;rw [T8 st k fun j hj => ?_]
  ·refine a0f ?_;rw [h1 k hk hb,ho];rfl
  ·rw [h1 j (by omega) fun i hi=>hb i (by omega),hb j hj];rfl
end
theorem b7g{R S B:Type}{body:S->Option (j6 R S B)}(I:Nat->S->Prop)(Q:l7 R B->Prop)(h:∀k s,I k s->∃st,body s=some st/\match st with | .ret r=>Q (.ret r) | .brk b=>Q (.brk b) | .nxt t => ∃k',k'<k/\I k' t):∀{k s},I k s->∃x,p8 body s=some x/\Q x:=by
 intro k;induction k using Nat.strongRecOn with
 | _ k ih =>
  intro s hs;obtain ⟨st,hb,hq⟩:=h k s hs;cases st with
  | ret r=>exact ⟨_,a0f hb,hq⟩
  | brk b=>exact ⟨_,E8 hb,hq⟩
  | nxt t =>
   obtain ⟨k',hk,ht⟩:=hq;obtain ⟨x,hx,hq⟩:=ih k' hk ht;exact ⟨x,by rw [I7 hb];exact hx,hq⟩
theorem x9{β:Type}{p:Prop}[Decidable p](h:p)(k:Option β):s5 p k=k:=if_pos h
theorem b10{α:Type}(l:List α)(k:Nat):idx l (k:Int)=l[k]?:=by
 unfold idx;rw [if_pos (by omega)];rfl
theorem s7{α:Type}{l:List α}{k:Nat}(h:k<l.length):idx l (k:Int)=some l[k]:=by
 rw [b10,d9t h]
theorem z5{α:Type}(l:List α)(k:Nat)(h:k<l.length):decide ((k:Int)<(l.length:Int))=true:=by simpa using h
theorem B0{α:Type}(l:List α):decide ((l.length:Int)<(l.length:Int))=false:=by simp
theorem P3{α B:Type}{body:Int->Option (j6 Bool Int B)}(l:List α)(hl:q9 l)(ok:α->Bool)(v:Bool)(b:B)(h1:∀(k:Nat) (h:k<l.length),body (k:Int)=some (bif ok l[k] then .nxt (l9 ((k:Int)+1)) else .ret v))(h2:body (l.length:Int)=some (.brk b)):p8 body 0=some (bif l.all ok then .brk b else .ret v):=by
 have h:=a3h (body:=body) (fun k=>(k:Int)) l.length (fun k=>match l[k]? with|some x=>ok x|none=>true) (fun _=>v) b
  (fun k hk _=>by
   have:=h1 k hk;rw [E7 hl hk] at this;simpa [d9t hk] using this) (fun _=>h2)
 rcases h with ⟨h,hall⟩|⟨k,hk,ho,_,h⟩
 ·have:l.all ok=true:=by
   rw [List.all_eq_true];intro x hx;obtain ⟨i,hi,rfl⟩:=d9Y hx;have:=hall i hi;simpa [d9t hi] using this
  rw [this];exact h
 ·have:l.all ok=false:=by
   rw [e00];refine ⟨l[k],d9w hk,?_⟩;simpa [d9t hk] using ho
  rw [this];exact h
theorem a45{α B:Type}{body:Int->Option (j6 Bool Int B)}(l:List α)(hl:q9 l)(ok:Nat->Bool)(v:Bool)(b:B)(h1:∀(k:Nat) (h:k<l.length),(∀j,j<k->ok j=true)->body (k:Int)=some (bif ok k then .nxt (l9 ((k:Int)+1)) else .ret v))(h2:body (l.length:Int)=some (.brk b)):p8 body 0=some (bif (d9C l.length).all ok then .brk b else .ret v):=by
 have h:=a3h (body:=body) (fun k=>(k:Int)) l.length ok (fun _=>v) b
  (fun k hk hb=>by
   have:=h1 k hk hb;rw [E7 hl hk] at this;exact this) (fun _=>h2)
 rcases h with ⟨h,hall⟩|⟨k,hk,ho,_,h⟩
 ·have:(d9C l.length).all ok=true:=by
   rw [List.all_eq_true];intro x hx;exact hall x (by simpa using hx)
  rw [this];exact h
 ·have:(d9C l.length).all ok=false:=by
   rw [e00];exact ⟨k,by simpa using hk,by simp [ho]⟩
  rw [this];exact h
theorem b71{α R B:Type}{body:Int->Option (j6 R Int B)}(l:List α)(hl:q9 l)(is:α->Bool)(f:α->R)(b:B)(h1:∀(k:Nat) (h:k<l.length),body (k:Int)=some (bif is l[k] then .ret (f l[k]) else .nxt (l9 ((k:Int)+1))))(h2:body (l.length:Int)=some (.brk b)):p8 body 0=some (match l.find? is with|some x=>.ret (f x)|none=>.brk b):=by
 have key:∀(m k:Nat),k+m=l.length->p8 body (k:Int)=some (match (l.drop k).find? is with|some x=>.ret (f x)|none=>.brk b):=by
  intro m;induction m with
  | zero =>
   intro k hk;have:k=l.length:=by omega
   subst this;rw [List.drop_length];exact E8 h2
  | succ m ih =>
   intro k hk;have hlt:k<l.length:=by omega
   have hb:=h1 k hlt;rw [d97 hlt,e0M];cases hq:is l[k] with
   | true =>
    rw [hq] at hb;exact a0f hb
   | false =>
    rw [hq] at hb;rw [I7 hb,E7 hl hlt];exact ih (k+1) (by omega)
 have:=key l.length 0 (by omega);simpa using this
theorem d8d{α S R B:Type}{body:S×Int->Option (j6 R (S×Int) B)}(l:List α)(hl:q9 l)(g:S->α->S)(s0:S)(b:S->B)(h1:∀(k:Nat) (h:k<l.length),body ((l.take k).foldl g s0,(k:Int))=some (.nxt (g ((l.take k).foldl g s0) l[k],l9 ((k:Int)+1))))(h2:body (l.foldl g s0,(l.length:Int))=some (.brk (b (l.foldl g s0)))):p8 body (s0,0)=some (.brk (b (l.foldl g s0))):=by
 have h:=T8 (body:=body) (fun k=>((l.take k).foldl g s0,(k:Int))) l.length (fun k hk=>by
  rw [h1 k hk,E7 hl hk,d9V hk,List.foldl_append];rfl)
 simp only [e0j,List.foldl_nil,d9P] at h;rw [show ((0:Nat):Int)=0 from rfl] at h;rw [h];exact E8 h2
def b6f(x:m8):Prop:=G2 x.b6/\G2 x.Seq
def c1C(x:p9):Prop:=G2 x.g8/\G2 x.i7
def c1v(x:n6):Prop:=G2 x.g8/\G2 x.c8
def b2r(x:o7):Prop:=(A0 16 c1C) x.b9/\(A0 16 c1v) x.c6/\G2 x.c8/\G2 x.Code
def J0(x:j8):Prop:=b6f x.a0/\b2r x.c7
def a1y(x:n8):Prop:=G2 x.a6/\J0 x.d7
def a4m(x:z4):Prop:=G2 x.g9/\(A0 96 a1y) x.a9
def a9b(x:m7):Prop:=G2 x.a7/\G2 x.A/\G2 x.B/\G2 x.N
def a2b(x:j5):Prop:=G2 x.Id/\a4m x.Acc/\(A0 88 J0) x.a5/\G2 x.Seq/\G2 x.b5/\G2 x.a6/\(A0 1 okT) x.b8/\(A0 96 a1y) x.g7/\J0 x.d6/\(A0 1 okT) x.a9/\(A0 32 a9b) x.i5/\J0 x.b7/\(A0 88 J0) x.d9
def a6N(x:l8):Prop:=G2 x.a7/\G2 x.b8/\G2 x.To/\G2 x.a6/\G2 x.c9/\J0 x.d7/\(A0 96 a1y) x.a9
def b9H(x:D5):Prop:=b6f x.a0/\(A0 32 a9b) x.i5
def c09(x:s9):Prop:=G2 x.Node/\b6f x.a0/\G2 x.Code/\G2 x.c8
def Q8(x:j9):Prop:=(A0 392 a2b) x.a8/\(A0 152 a6N) x.i0/\(A0 40 b9H) x.f0/\(A0 40 c09) x.Told
theorem A0.fits{α:Type}{bytes:Nat}{ok:α->Prop}{l:List α}(h:A0 bytes ok l)(hb:0<bytes):q9 l:=by
 obtain ⟨h,_⟩:=h;unfold q9;have:l.length*1<=l.length*bytes:=Nat.mul_le_mul_left _ hb;omega
def a26(x:o7):Prop:=A0 16 okT x.b9/\A0 16 okT x.c6/\True
def a2z(x:j8):Prop:=True/\a26 x.c7
theorem A0.imp{α:Type}{bytes:Nat}{ok ok':α->Prop}{l:List α}(h:A0 bytes ok l)(hi:∀x,ok x->ok' x):A0 bytes ok' l:=⟨h.1,fun x hx=>hi x (h.2 x hx)⟩
theorem b2r.f{x:o7}(h:b2r x):a26 x:=⟨h.1.imp fun _ _=>trivial,h.2.1.imp fun _ _=>trivial,trivial⟩
theorem J0.f{x:j8}(h:J0 x):a2z x:=⟨trivial,h.2.f⟩
theorem okEntries.f{l:List j8}(h:A0 88 J0 l):A0 88 a2z l:=h.imp fun _ x=>x.f
def G9(l:List p9)(box:Int):Bool:=l.any (·.g8==box)
def H3(l:List n6)(box:Int):Bool:=l.any (·.g8==box)
theorem d9d{α B:Type}{body:Int->Option (j6 Int Int B)}(l:List α)(hl:q9 l)(is:α->Bool)(b:B)(h1:∀(k:Nat) (h:k<l.length),body (k:Int)=some (bif is l[k] then .ret (k:Int) else .nxt (l9 ((k:Int)+1))))(h2:body (l.length:Int)=some (.brk b)):(p8 body 0=some (.brk b)/\l.any is=false)\/∃k:Nat,p8 body 0=some (.ret (k:Int))/\l.any is=true:=by
 have h:=a3h (body:=body) (fun k=>(k:Int)) l.length (fun k=>match l[k]? with|some x => !is x|none=>true) (fun k=>(k:Int)) b
  (fun k hk _=>by
   have:=h1 k hk;rw [E7 hl hk] at this;rw [this];simp only [d9t hk];cases is l[k]<;>rfl) (fun _=>h2)
 rcases h with ⟨h,hall⟩|⟨k,hk,ho,_,h⟩
 ·left
  refine ⟨h,?_⟩;rw [d95];intro x hx;obtain ⟨i,hi,rfl⟩:=d9Y hx;have:=hall i hi;simpa [d9t hi] using this
 ·right
  refine ⟨k,h,?_⟩;rw [e0I];refine ⟨l[k],d9w hk,?_⟩;simpa [d9t hk] using ho
theorem d0m{x:o7}(h:q9 x.b9)(box:Int):∃v,a8R x box=some v/\decide (v>=0)=G9 x.b9 box:=by
 unfold a8R;rcases d9d (body:=fun s:Int=>a8C x box s) x.b9 h (fun x=>x.g8==box) () (by
  intro k hk;unfold a8C;rw [z5 x.b9 k hk,s7 hk];cases hq:x.b9[k].g8==box<;>simp [hq]) (by unfold a8C;rw [B0];rfl) with ⟨h1,h2⟩|⟨k,h1,h2⟩
 ·rw [h1];exact ⟨-1,rfl,h2.symm⟩
 ·rw [h1];refine ⟨k,rfl,?_⟩;rw [show G9 x.b9 box=true from h2];simp
def n7(n lo hi:Int):Bool:=decide (lo<=n/\n<=hi)
theorem I4(n lo hi:Int):A7 n lo hi=some (n7 n lo hi):=by
 unfold A7 n7;by_cases h:n>=lo
 ·have h':lo<=n:=h;simp [h']
 ·have h':¬lo<=n:=h;simp [h']
theorem c6R(n:Int):b3U n=some (n7 n (-1000000) 1000000):=I4 n (-1000000) 1000000
theorem c7T(n:Int):a7H n=some (n7 n 0 3):=by
 rw [<-I4];unfold a7H A7;have:(n<4)=(n<=3):=by apply propext;omega
 simp only [this]
theorem b0V(q:m8):a4h q=some (n7 q.b6 0 2&&n7 q.Seq 1 1000):=by
 unfold a4h;simp only [I4,d9s];cases n7 q.b6 0 2<;>rfl
def a0I(l:List p9)(k:Nat):Bool:=match l[k]? with
 | some x=>n7 x.g8 0 3&&(n7 x.i7 0 1000000 && !G9 (l.take k) x.g8)
 | none=>true
def a00(l:List n6)(k:Nat):Bool:=match l[k]? with
 | some x=>n7 x.g8 0 3&&(n7 x.c8 (-1000000) 1000000 && !H3 (l.take k) x.g8)
 | none=>true
def a6B(f:Int->Bool):List Bool:=[f 0,f 1,f 2,f 3]
theorem b9f{f:Int->Bool}{b:Int}(h:n7 b 0 3=true):idx (a6B f) b=some (f b)/\b<4:=by
 have h:0<=b/\b<=3:=by simpa [n7] using h
 have:b=0\/b=1\/b=2\/b=3:=by omega
 rcases this with rfl|rfl|rfl|rfl<;>exact ⟨rfl,by decide⟩
theorem b8r{f g:Int->Bool}{b:Int}(h:n7 b 0 3=true)(hb:g b=true)(hne:∀c,c≠b->g c=f c):(a6B f).set b.toNat true=a6B g:=by
 have h:0<=b/\b<=3:=by simpa [n7] using h
 have:b=0\/b=1\/b=2\/b=3:=by omega
 unfold a6B;rcases this with rfl|rfl|rfl|rfl
 all_goals
  rw [show [g 0,g 1,g 2,g 3]=_ from rfl];first
   | rw [hb,hne 1 (by decide),hne 2 (by decide),hne 3 (by decide)];rfl
   | rw [hb,hne 0 (by decide),hne 2 (by decide),hne 3 (by decide)];rfl
   | rw [hb,hne 0 (by decide),hne 1 (by decide),hne 3 (by decide)];rfl
   | rw [hb,hne 0 (by decide),hne 1 (by decide),hne 2 (by decide)];rfl
theorem b94{l:List p9}{k:Nat}(hk:k<l.length)(b:Int):G9 (l.take (k+1)) b=(G9 (l.take k) b||(l[k].g8==b)):=by
 unfold G9;rw [d9V hk,List.any_append];simp
theorem c5k{l:List n6}{k:Nat}(hk:k<l.length)(b:Int):H3 (l.take (k+1)) b=(H3 (l.take k) b||(l[k].g8==b)):=by
 unfold H3;rw [d9V hk,List.any_append];simp
theorem d4p{l:List p9}{k:Nat}(hk:k<l.length)(c:Int)(hc:c≠l[k].g8):G9 (l.take (k+1)) c=G9 (l.take k) c:=by
 have:(l[k].g8==c)=false:=by simpa using fun h=>hc h.symm
 rw [b94 hk,this,Bool.or_false]
theorem d5X{l:List n6}{k:Nat}(hk:k<l.length)(c:Int)(hc:c≠l[k].g8):H3 (l.take (k+1)) c=H3 (l.take k) c:=by
 have:(l[k].g8==c)=false:=by simpa using fun h=>hc h.symm
 rw [c5k hk,this,Bool.or_false]
theorem c3f{R S B:Type}{x:Option (l7 R B)}{n:Nat}{ok:Nat->Bool}{r:R}{b:B}(h:(x=some (.brk b)/\∀j,j<n->ok j=true)\/∃k,k<n/\ok k=false/\(∀j,j<k->ok j=true)/\x=some (.ret r)):x=some (bif (d9C n).all ok then .brk b else .ret r):=by
 rcases h with ⟨h,hall⟩|⟨k,hk,ho,_,h⟩
 ·have:(d9C n).all ok=true:=by
   rw [List.all_eq_true];intro x hx;exact hall x (by simpa using hx)
  rw [this];exact h
 ·have:(d9C n).all ok=false:=by
   rw [e00];exact ⟨k,by simpa using hk,by simp [ho]⟩
  rw [this];exact h
theorem d5K{r:o7}(h:q9 r.b9):p8 (fun s:List Bool×Int=>a6d r s.1 s.2) (d9u 4 false,0)=some (bif (d9C r.b9.length).all (a0I r.b9) then .brk () else .ret false):=by
 refine c3f (S:=List Bool×Int) (a3h (body:=fun s:List Bool×Int=>a6d r s.1 s.2) (fun k=>(a6B (G9 (r.b9.take k)),(k:Int))) r.b9.length (a0I r.b9) (fun _=>false) () ?_ ?_)
 ·intro k hk _;simp only;unfold a6d a0I s5;rw [z5 _ k hk,s7 hk,d9t hk];simp only [cond_true,d9s,I4];cases hb:n7 r.b9[k].g8 0 3
  ·rfl
  ·obtain ⟨h1,h2⟩:=b9f (f:=G9 (r.b9.take k)) hb;rw [h1];simp only [if_pos h2,d9B,cond_false,d9s,d9Q];cases hs:G9 (r.b9.take k) r.b9[k].g8
   ·cases n7 r.b9[k].i7 0 1000000
    ·rfl
    ·simp only [d9B,cond_false,d9W,d9Q,cond_true];rw [b8r (f:=G9 (r.b9.take k)) (g:=G9 (r.b9.take (k+1))) hb (by rw [b94 hk];simp) (d4p hk),E7 h hk]
   ·cases n7 r.b9[k].i7 0 1000000<;>rfl
 ·intro _;simp only;unfold a6d;rw [B0];rfl
theorem d67{r:o7}(h:q9 r.c6):p8 (fun s:List Bool×Int=>a6x r s.1 s.2) (d9u 4 false,0)=some (bif (d9C r.c6.length).all (a00 r.c6) then .brk () else .ret false):=by
 refine c3f (S:=List Bool×Int) (a3h (body:=fun s:List Bool×Int=>a6x r s.1 s.2) (fun k=>(a6B (H3 (r.c6.take k)),(k:Int))) r.c6.length (a00 r.c6) (fun _=>false) () ?_ ?_)
 ·intro k hk _;simp only;unfold a6x a00 s5;rw [z5 _ k hk,s7 hk,d9t hk];simp only [cond_true,d9s,I4];cases hb:n7 r.c6[k].g8 0 3
  ·rfl
  ·obtain ⟨h1,h2⟩:=b9f (f:=H3 (r.c6.take k)) hb;rw [h1];simp only [if_pos h2,d9B,cond_false,d9s,d9Q];cases hs:H3 (r.c6.take k) r.c6[k].g8
   ·cases n7 r.c6[k].c8 (-1000000) 1000000
    ·rfl
    ·simp only [d9B,cond_false,d9W,d9Q,cond_true];rw [b8r (f:=H3 (r.c6.take k)) (g:=H3 (r.c6.take (k+1))) hb (by rw [c5k hk];simp) (d5X hk),E7 h hk]
   ·cases n7 r.c6[k].c8 (-1000000) 1000000<;>rfl
 ·intro _;simp only;unfold a6x;rw [B0];rfl
def T7(r:o7):Bool:=n7 r.Code 0 3&&(n7 r.c8 (-1000000) 1000000&&((r.Code==0||(r.c8==0&&r.c6.length==0))&&((r.Code != 3||r.b9.length==0)&&((d9C r.b9.length).all (a0I r.b9)&&(d9C r.c6.length).all (a00 r.c6)))))
theorem c9J{r:o7}(h:a26 r):b1A r=some ((d9C r.b9.length).all (a0I r.b9)&&(d9C r.c6.length).all (a00 r.c6)):=by
 unfold b1A b3N;rw [d5K (h.1.fits (by decide)),d67 (h.2.1.fits (by decide))];cases (d9C r.b9.length).all (a0I r.b9)<;>cases (d9C r.c6.length).all (a00 r.c6)<;>rfl
theorem d4a{α:Type}(l:List α):decide ((l.length:Int)>0) = !(l.length==0):=by
 cases l<;>simp
theorem b3G{r:o7}(h:a26 r):a6R r=some (T7 r):=by
 unfold a6R T7;rw [c9J h];simp only [I4,d4a,d9s,l7.go];generalize ((d9C r.b9.length).all (a0I r.b9)&&(d9C r.c6.length).all (a00 r.c6))=z;generalize (r.c6.length==0)=a;generalize (r.b9.length==0)=b;generalize n7 r.c8 (-1000000) 1000000=c;generalize n7 r.Code 0 3=d;unfold bne;cases d<;>cases c<;>cases (r.Code==0)<;>cases (r.c8==0)<;>cases a<;>cases (r.Code==3)<;>cases b<;>rfl
def a3I(a b:List p9)(k:Nat):Bool:=match a[k]?,b[k]? with
 | some x,some y=>([x.g8,x.i7]:List Int)==[y.g8,y.i7]
 | _,_=>true
def a3f(a b:List n6)(k:Nat):Bool:=match a[k]?,b[k]? with
 | some x,some y=>([x.g8,x.c8]:List Int)==[y.g8,y.c8]
 | _,_=>true
theorem c9d{a b:List p9}(h:q9 a):b0r a b=some (a.length==b.length&&(d9C a.length).all (a3I a b)):=by
 unfold b0r;by_cases hl:a.length=b.length
 ·rw [a45 a h (a3I a b) false ()]
  ·rw [hl];simp only [bne_self_eq_false,cond_false,beq_self_eq_true,d9Q];cases (d9C b.length).all (a3I a b)<;>rfl
  ·intro k hk _;unfold b0K a3I;rw [z5 _ k hk,s7 hk,s7 (hl▸hk),d9t hk,d9t (hl▸hk)];simp only [cond_true,d9s];cases ([a[k].g8,a[k].i7]:List Int)==[(b[k]'(hl▸hk)).g8,(b[k]'(hl▸hk)).i7]<;>rfl
  ·unfold b0K;rw [B0];rfl
 ·have h1:((a.length:Int) != (b.length:Int))=true:=by simp;omega
  have h2:(a.length==b.length)=false:=by simpa using hl
  rw [h1,h2];rfl
theorem d0y{a b:List n6}(h:q9 a):b24 a b=some (a.length==b.length&&(d9C a.length).all (a3f a b)):=by
 unfold b24;by_cases hl:a.length=b.length
 ·rw [a45 a h (a3f a b) false ()]
  ·rw [hl];simp only [bne_self_eq_false,cond_false,beq_self_eq_true,d9Q];cases (d9C b.length).all (a3f a b)<;>rfl
  ·intro k hk _;unfold b3h a3f;rw [z5 _ k hk,s7 hk,s7 (hl▸hk),d9t hk,d9t (hl▸hk)];simp only [cond_true,d9s];cases ([a[k].g8,a[k].c8]:List Int)==[(b[k]'(hl▸hk)).g8,(b[k]'(hl▸hk)).c8]<;>rfl
  ·unfold b3h;rw [B0];rfl
 ·have h1:((a.length:Int) != (b.length:Int))=true:=by simp;omega
  have h2:(a.length==b.length)=false:=by simpa using hl
  rw [h1,h2];rfl
def a41(a b:o7):Bool:=(a.b9.length==b.b9.length&&(d9C a.b9.length).all (a3I a.b9 b.b9))&&((a.c6.length==b.c6.length&&(d9C a.c6.length).all (a3f a.c6 b.c6))&&(a.c8==b.c8&&a.Code==b.Code))
theorem c25{a b:o7}(h:a26 a):b0d a b=some (a41 a b):=by
 unfold b0d a41;rw [c9d (h.1.fits (by decide)),d0y (h.2.1.fits (by decide))];simp only [d9s];generalize (a.b9.length==b.b9.length&&(d9C a.b9.length).all (a3I a.b9 b.b9))=x;generalize (a.c6.length==b.c6.length&&(d9C a.c6.length).all (a3f a.c6 b.c6))=y;cases x<;>cases y<;>cases a.c8==b.c8<;>rfl
def t9(e:j8):Bool:=bif e.i6 then (([e.a0.b6,e.a0.Seq]:List Int)==[0,0])&&a41 e.c7 (o7.mk [] [] 0 0) else (n7 e.a0.b6 0 2&&n7 e.a0.Seq 1 1000)&&(T7 e.c7&&e.c7.Code != 3)
theorem a3w{e:j8}(h:a2z e):a0a e=some (t9 e):=by
 unfold a0a a0c t9;simp only [c25 h.2,b0V,b3G h.2,d9s];cases e.i6
 ·simp only [cond_false];cases n7 e.a0.b6 0 2&&n7 e.a0.Seq 1 1000<;>cases T7 e.c7<;>rfl
 ·simp only [cond_true,beq_self_eq_true];cases ([e.a0.b6,e.a0.Seq]:List Int)==[0,0]<;>rfl
def F5(l:List j8):Bool:=decide (l.length<=40)&&l.all t9
theorem b5P{α:Type}(l:List α)(n:Nat):decide ((l.length:Int)<=(n:Int))=decide (l.length<=n):=by
 by_cases h:l.length<=n
 ·have:(l.length:Int)<=(n:Int):=by omega
  simp [h,this]
 ·have:¬(l.length:Int)<=(n:Int):=by omega
  simp [h,this]
theorem d6U{α:Type}(l:List α)(n:Nat):decide ((l.length:Int)>(n:Int)) = !decide (l.length<=n):=by
 by_cases h:l.length<=n
 ·have:¬(l.length:Int)>(n:Int):=by omega
  simp [h,this]
 ·have:(l.length:Int)>(n:Int):=by omega
  simp [h,this]
theorem b7i{l:List j8}(h:A0 88 a2z l):a7e l=some (F5 l):=by
 unfold a7e F5 b5I;rw [show (40:Int)=((40:Nat):Int) from rfl,b5P,P3 l (h.fits (by decide)) t9 false ()]
 ·cases l.all t9<;>cases decide (l.length<=40)<;>rfl
 ·intro k hk;unfold b2j;rw [z5 _ k hk,s7 hk];simp only [cond_true,d9s,a3w (h.2 _ (d9w hk))];cases t9 l[k]<;>rfl
 ·unfold b2j;rw [B0];rfl
def a4k(b:m5):Bool:=n7 b.i7 0 1000000&&n7 b.c8 (-1000000) 1000000
def B7(l:List m5):Bool:=l.length==4&&l.all a4k
theorem b5h{α:Type}(l:List α)(n:Nat):((l.length:Int) != (n:Int)) = !(l.length==n):=by
 unfold bne;congr 1
 by_cases h:l.length=n
 ·simp [h]
 ·have h1:((l.length:Int)==(n:Int))=false:=by simp;omega
  have h2:(l.length==n)=false:=by simpa using h
  rw [h1,h2]
theorem c8E{α:Type}(l:List α)(n:Nat):((l.length:Int)==(n:Int))=(l.length==n):=by
 have:=b5h l n;unfold bne at this;simpa using this
theorem a9i{l:List m5}(h:q9 l):a3u l=some (B7 l):=by
 unfold a3u B7 b5M;rw [show (4:Int)=((4:Nat):Int) from rfl,c8E,P3 l h a4k false ()]
 ·cases l.length==4<;>cases l.all a4k<;>rfl
 ·intro k hk;unfold b0u a4k;rw [z5 _ k hk,s7 hk];simp only [cond_true,d9s,I4];cases n7 l[k].i7 0 1000000<;>cases n7 l[k].c8 (-1000000) 1000000<;>rfl
 ·unfold b0u;rw [B0];rfl
theorem c47{l:List p9}(h:(d9C l.length).all (a0I l)=true):∀x∈l,0<=x.g8/\x.g8<=3/\0<=x.i7/\x.i7<=1000000:=by
 intro x hx;obtain ⟨i,hi,rfl⟩:=d9Y hx;have:=List.all_eq_true.1 h i (by simpa using hi);unfold a0I at this;rw [d9t hi] at this;simp [n7] at this;omega
theorem c0h{l:List n6}(h:(d9C l.length).all (a00 l)=true):∀x∈l,0<=x.g8/\x.g8<=3/\-1000000<=x.c8/\x.c8<=1000000:=by
 intro x hx;obtain ⟨i,hi,rfl⟩:=d9Y hx;have:=List.all_eq_true.1 h i (by simpa using hi);unfold a00 at this;rw [d9t hi] at this;simp [n7] at this;omega
theorem a2w{r:o7}(h:T7 r=true):(0<=r.Code/\r.Code<=3)/\(-1000000<=r.c8/\r.c8<=1000000)/\(r.Code=0\/(r.c8=0/\r.c6=[]))/\(∀x∈r.b9,0<=x.g8/\x.g8<=3/\0<=x.i7/\x.i7<=1000000)/\∀x∈r.c6,0<=x.g8/\x.g8<=3/\-1000000<=x.c8/\x.c8<=1000000:=by
 unfold T7 at h;simp only [d9v,Bool.or_eq_true] at h;obtain ⟨h1,h2,h3,_,h4,h5⟩:=h;refine ⟨by simpa [n7] using h1,by simpa [n7] using h2,by simpa using h3,c47 h4,c0h h5⟩
def a0D(l:List m5)(r:o7):Bool:=r.b9.all fun x=>match l[x.g8.toNat]? with
 | some b=>b.i7==x.i7
 | none=>true
theorem a43{l:List m5}(h:B7 l=true):l.length=4:=by
 unfold B7 at h;simp only [d9v,beq_iff_eq] at h;exact h.1
theorem a5L{l:List m5}(h:B7 l=true):q9 l:=by
 unfold q9;rw [a43 h];decide
theorem a5S{l:List m5}(h:B7 l=true){b:Int}(hb:0<=b/\b<=3):∃x,idx l b=some x/\l[b.toNat]?=some x/\a4k x=true:=by
 have hl:=a43 h;have hlt:b.toNat<l.length:=by omega
 refine ⟨l[b.toNat],?_,d9t hlt,?_⟩
 ·unfold idx;rw [if_pos hb.1,d9t hlt]
 ·unfold B7 at h;simp only [d9v] at h;exact List.all_eq_true.1 h.2 _ (d9w hlt)
theorem c7s{l:List m5}{r:o7}(hl:q9 l)(hr:a26 r):b1h l r=some (B7 l&&(T7 r&&a0D l r)):=by
 unfold b1h;rw [a9i hl,b3G hr];simp only [d9s];cases h1:B7 l
 ·rfl
 cases h2:T7 r
 ·rfl
 have hp:=a2w h2;simp only [d9B,cond_false,d9Q];rw [P3 r.b9 (hr.1.fits (by decide)) (fun x=>match l[x.g8.toNat]? with|some b=>b.i7==x.i7|none=>true) false ()]
 ·unfold a0D;cases r.b9.all _<;>rfl
 ·intro k hk;have hm:=hp.2.2.2.1 _ (d9w hk);obtain ⟨b,hb1,hb2,_⟩:=a5S h1 (b:=r.b9[k].g8) ⟨hm.1,hm.2.1⟩;unfold b1r;rw [z5 _ k hk,s7 hk];simp only [cond_true,d9s,hb1,hb2];unfold bne;cases b.i7==r.b9[k].i7<;>rfl
 ·unfold b1r;rw [B0];rfl
def W3(l:List m5)(p:n6):List m5:=match l[p.g8.toNat]? with
 | some b=>l.set p.g8.toNat ⟨if b.i7+1<1000000 then b.i7+1 else 1000000,p.c8⟩
 | none=>l
def Y9(l:List m5)(ps:List n6):List m5:=ps.foldl W3 l
def Z3(x:n6):Prop:=0<=x.g8/\x.g8<=3/\-1000000<=x.c8/\x.c8<=1000000
theorem b5Y{l:List m5}{p:n6}{b:m5}(h:l[p.g8.toNat]?=some b):W3 l p=l.set p.g8.toNat ⟨if b.i7+1<1000000 then b.i7+1 else 1000000,p.c8⟩:=by
 unfold W3;rw [h]
theorem b00{b:m5}:a4k b=true↔(0<=b.i7/\b.i7<=1000000)/\(-1000000<=b.c8/\b.c8<=1000000):=by
 unfold a4k n7;simp
theorem c6Q{l:List m5}:B7 l=true↔l.length=4/\∀b∈l,a4k b=true:=by
 unfold B7;simp
theorem c0i{l:List m5}{p:n6}(h:B7 l=true)(hp:Z3 p):B7 (W3 l p)=true:=by
 obtain ⟨b,_,h2,h3⟩:=a5S h (b:=p.g8) ⟨hp.1,hp.2.1⟩;rw [c6Q] at h ⊢;unfold W3;rw [h2];refine ⟨by simpa using h.1,fun x hx => ?_⟩;rcases List.mem_or_eq_of_mem_set hx with hx|rfl
 ·exact h.2 x hx
 ·rw [b00] at h3 ⊢;refine ⟨?_,hp.2.2⟩;simp only;split<;>omega
theorem b13:∀{ps:List n6} {l:List m5},B7 l=true->(∀p∈ps,Z3 p)->B7 (Y9 l ps)=true
 | [],l,h,_=>h
 | p::ps,l,h,hp=>b13 (ps:=ps) (c0i h (hp p (by simp))) fun x hx=>hp x (by simp [hx])
theorem c8u{l:List m5}{ps:List n6}(h:B7 l=true)(hp:∀p∈ps,Z3 p)(k:Nat):B7 ((ps.take k).foldl W3 l)=true :=
 b13 h fun p hq=>hp p (e0f hq)
theorem b6O{l:List m5}(h:l.length*16<=140737488351232):a5t l=some l:=by
 unfold a5t s5;cases l with
 | nil=>rfl
 | cons x l =>
  have h1:(((x::l).length:Int)==0)=false:=by simp;omega
  rw [h1,cond_false,if_pos (by constructor<;>omega),if_pos (by simp)]
theorem b9b{l:List s8}(h:l.length*32<=140737488351232):a3r l=some l:=by
 unfold a3r s5;cases l with
 | nil=>rfl
 | cons x l =>
  have h1:(((x::l).length:Int)==0)=false:=by simp;omega
  rw [h1,cond_false,if_pos (by constructor<;>omega),if_pos (by simp)]
theorem c5h{l:List m5}{r:o7}(hl:B7 l=true)(hr:a26 r)(hok:T7 r=true):a72 l r=some (Y9 l r.c6):=by
 have hp:∀p∈r.c6,Z3 p:=(a2w hok).2.2.2.2
 unfold a72;rw [a9i (a5L hl),b3G hr,hl,hok];simp only [d9s,d9B,cond_false];rw [b6O (by rw [a43 hl];decide),d9s,d8d r.c6 (hr.2.1.fits (by decide)) W3 l id]
 ·rfl
 ·intro k hk;have hq:=hp _ (d9w hk);obtain ⟨b,h1,h2,h3⟩:=a5S (c8u hl hp k) (b:=r.c6[k].g8) ⟨hq.1,hq.2.1⟩;rw [b00] at h3;unfold b2M;rw [z5 _ k hk,s7 hk];simp only [cond_true,d9s,h1];rw [b5Y h2,C8 (n:=b.i7+1) (by omega) (by omega)]
 ·unfold b2M;rw [B0];rfl
def a5a(d:s8):Bool:=(n7 d.a0.b6 0 2&&n7 d.a0.Seq 1 1000)&&(n7 d.Code 0 2&&(n7 d.c8 (-1000000) 1000000&&(d.Code==0||d.c8==0)))
def a1c(l:List s8):Prop:=l.Pairwise fun a b=>a.a0.b6<b.a0.b6
def M8(d:s8)(st:List s8×Bool)(x:s8):List s8×Bool :=
 bif !st.2&&decide (x.a0.b6>=d.a0.b6) then (bif x.a0.b6 != d.a0.b6 then (st.1++[d])++[x] else st.1++[d],true) else (bif x.a0.b6 != d.a0.b6 then st.1++[x] else st.1,st.2)
def Z0(l:List s8)(d:s8):List s8 :=
 let r:=l.foldl (M8 d) ([],false);bif !r.2 then r.1++[d] else r.1
theorem d2r(d:s8)(st:List s8×Bool)(x:s8):(M8 d st x).1.length<=st.1.length+2:=by
 unfold M8;cases !st.2&&decide (x.a0.b6>=d.a0.b6)<;>cases x.a0.b6 != d.a0.b6<;>simp
theorem c4i(d:s8):∀(l:List s8) (st:List s8×Bool),(l.foldl (M8 d) st).1.length<=st.1.length+2*l.length
 | [],st=>by simp
 | x::l,st=>by
  have h1:=c4i d l (M8 d st x);have h2:=d2r d st x;simp only [e1d,e0o];omega
theorem b42(d:s8):∀{l:List s8} {o:List s8},(∀x∈l,d.a0.b6<x.a0.b6)->l.foldl (M8 d) (o,true)=(o++l,true)
 | [],o,_=>by simp
 | x::l,o,h=>by
  have hx:=h x (by simp);have hne:(x.a0.b6 != d.a0.b6)=true:=by simp;omega
  rw [e1d,show M8 d (o,true) x=(o++[x],true) from by unfold M8;simp [hne],b42 d fun y hy=>h y (by simp [hy])];simp
theorem c4d(d:s8):∀{l o:List s8},a1c l->
  (let r:=l.foldl (M8 d) (o,false);bif !r.2 then r.1++[d] else r.1)=o++(l.filter (fun x=>decide (x.a0.b6<d.a0.b6))++d::l.filter (fun x=>decide (d.a0.b6<x.a0.b6)))
 | [],o,_=>by simp
 | x::l,o,h=>by
  obtain ⟨h1,h2⟩:=e0w.1 h;rw [e1d];by_cases hlt:x.a0.b6<d.a0.b6
  ·have hge:¬x.a0.b6>=d.a0.b6:=by omega
   have hne:(x.a0.b6 != d.a0.b6)=true:=by simp;omega
   have hngt:¬d.a0.b6<x.a0.b6:=by omega
   rw [show M8 d (o,false) x=(o++[x],false) from by unfold M8;simp [hge,hne],c4d d h2];simp [hlt,hngt]
  ·have hge:x.a0.b6>=d.a0.b6:=by omega
   have hall:∀y∈l,d.a0.b6<y.a0.b6:=fun y hy=>by have:=h1 y hy;omega
   have hf1:l.filter (fun x=>decide (x.a0.b6<d.a0.b6))=[]:=by
    rw [List.filter_eq_nil_iff];intro y hy;have:=hall y hy;simp;omega
   have hf2:l.filter (fun x=>decide (d.a0.b6<x.a0.b6))=l:=by
    rw [List.filter_eq_self];intro y hy;simpa using hall y hy
   by_cases heq:x.a0.b6=d.a0.b6
   ·have hngt:¬d.a0.b6<x.a0.b6:=by omega
    rw [show M8 d (o,false) x=(o++[d],true) from by unfold M8;simp [hge,heq],b42 d hall];simp [hlt,hngt,hf1,hf2]
   ·have hgt:d.a0.b6<x.a0.b6:=by omega
    have hne:(x.a0.b6 != d.a0.b6)=true:=by simpa using heq
    rw [show M8 d (o,false) x=((o++[d])++[x],true) from by unfold M8;simp [hge,hne],b42 d hall];simp [hlt,hgt,hf1,hf2]
theorem a9S{l:List s8}(d:s8)(h:a1c l):Z0 l d=l.filter (fun x=>decide (x.a0.b6<d.a0.b6))++d::l.filter (fun x=>decide (d.a0.b6<x.a0.b6)):=by
 have:=c4d d (o:=[]) h;simpa [Z0] using this
theorem d1Q{l:List s8}(d:s8)(h:a1c l):a1c (Z0 l d):=by
 rw [a9S d h];unfold a1c;rw [e0Q,e0w];refine ⟨h.filter _,⟨fun y hy=>by simpa using (List.mem_filter.1 hy).2,h.filter _⟩,fun a ha b hb => ?_⟩;have h1:a.a0.b6<d.a0.b6:=by simpa using (List.mem_filter.1 ha).2
 rcases d9z.1 hb with rfl|hb
 ·exact h1
 ·have h2:d.a0.b6<b.a0.b6:=by simpa using (List.mem_filter.1 hb).2
  omega
theorem c7Y{l:List s8}{d x:s8}(h:a1c l)(hx:x∈Z0 l d):x∈l\/x=d:=by
 rw [a9S d h] at hx;rcases List.mem_append.1 hx with hx|hx
 ·exact .inl (List.mem_filter.1 hx).1
 ·rcases d9z.1 hx with rfl|hx
  ·exact .inr rfl
  ·exact .inl (List.mem_filter.1 hx).1
theorem c4g{l:List s8}(d:s8)(h:a1c l):(Z0 l d).length<=l.length+1:=by
 rw [a9S d h];have:(l.filter fun x=>decide (x.a0.b6<d.a0.b6)).length+(l.filter fun x=>decide (d.a0.b6<x.a0.b6)).length<=l.length:=by
  clear h;induction l with
  | nil=>simp
  | cons x l ih =>
   by_cases h1:x.a0.b6<d.a0.b6
   ·have h2:¬d.a0.b6<x.a0.b6:=by omega
    simp [h1,h2];omega
   ·by_cases h2:d.a0.b6<x.a0.b6
    ·simp [h1,h2];omega
    ·simp [h1,h2];omega
 simp only [d9E,e0o];omega
structure S7(s:t7)(k:Nat):Prop where
 at_:s.At=(k:Int)
 le:k<=40
 boxes:B7 s.d8=true
 sorted:a1c s.i4
 dones:∀d∈s.i4,a5a d=true
 len:s.i4.length<=k
theorem S7.fits{s:t7}{k:Nat}(h:S7 s k):q9 s.i4:=by
 have:=h.len;have:=h.le;unfold q9;omega
theorem d1h{α:Type}{o:List α}{d:α}(h:o.length<=80):((o++[d]).length+1)*32<=140737488355328:=by
 rw [show (o++[d]).length=o.length+1 from by simp];omega
def J8(s:t7)(e:j8):t7×Int :=
 bif a0D s.d8 e.c7 then
  (bif e.c7.Code==0 then (⟨s.At+1,Y9 s.d8 e.c7.c6,Z0 s.i4 ⟨e.a0,0,e.c7.c8⟩⟩,0)
  else (⟨s.At+1,s.d8,Z0 s.i4 ⟨e.a0,2,0⟩⟩,2))
 else (⟨s.At+1,s.d8,Z0 s.i4 ⟨e.a0,1,0⟩⟩,1)
def apply(s:t7)(e:j8):t7×Int :=
 bif e.i6 then (⟨s.At+1,s.d8,s.i4⟩,5) else
 match s.i4.find? (fun d=>d.a0.b6==e.a0.b6) with
 | some d=>bif d.a0.Seq==e.a0.Seq then (⟨s.At+1,s.d8,s.i4⟩,3) else bif decide (d.a0.Seq>e.a0.Seq) then (⟨s.At+1,s.d8,s.i4⟩,4) else J8 s e
 | none=>J8 s e
theorem a2s{e:j8}(h:t9 e=true)(hn:e.i6=false):(0<=e.a0.b6/\e.a0.b6<=2)/\(1<=e.a0.Seq/\e.a0.Seq<=1000)/\T7 e.c7=true/\e.c7.Code≠3:=by
 unfold t9 at h;rw [hn] at h;simp [n7] at h;exact ⟨h.1.1,h.1.2,h.2.1,h.2.2⟩
theorem d79{l:List s8}(h:a1c l)(who seq:Int):l.find? (fun d=>d.a0.b6==who&&decide (d.a0.Seq>=seq))=match l.find? (fun d=>d.a0.b6==who) with
  | some d=>bif decide (d.a0.Seq>=seq) then some d else none
  | none=>none:=by
 induction l with
 | nil=>rfl
 | cons x l ih =>
  obtain ⟨h1,h2⟩:=e0w.1 h;rw [e0M,e0M];cases hx:x.a0.b6==who with
  | false=>simpa using ih h2
  | true =>
   cases hs:decide (x.a0.Seq>=seq) with
   | true=>simp [hs]
   | false =>
    simp only [Bool.and_false,hs,cond_false];rw [List.find?_eq_none];intro y hy;have:=h1 y hy;have hx':x.a0.b6=who:=by simpa using hx
    simp;intro hyw;omega
theorem c87{s:t7}{k:Nat}(hs:S7 s k):b0R s=some true:=by
 unfold b0R;have hloop:=T8 (body:=fun v:Int=>a8O s v) (fun j=>(j:Int)) s.i4.length (by
  intro j hj;have hd:=hs.dones _ (d9w hj);unfold a5a at hd;simp only [d9v,Bool.or_eq_true] at hd;obtain ⟨⟨d1,d2⟩,d3,d4,d5⟩:=hd;unfold a8O b7y;rw [z5 _ j hj,s7 hj,E7 hs.fits hj];simp only [cond_true,d9s,b0V,I4,d1,d2,d3,d4,Bool.and_true,d9B,cond_false];cases j with
  | zero =>
   rw [show decide (((0:Nat):Int)>0)=false from by decide];simp only [cond_false];unfold bne;rcases d5 with d5|d5<;>simp [d5,l7.go,Option.bind]
  | succ j =>
   have hlt:(s.i4[j]'(by omega)).a0.b6<s.i4[j+1].a0.b6:=d98.1 hs.sorted j (j+1) (by omega) hj (by omega);have hge:¬(s.i4[j]'(by omega)).a0.b6>=s.i4[j+1].a0.b6:=by omega
   have hle:=hs.fits;unfold q9 at hle;rw [show l9 (((j+1:Nat):Int)-1)=(j:Int) from by rw [C8 (by omega) (by omega)];omega,s7 (show j<s.i4.length by omega)];have hpos:decide (((j+1:Nat):Int)>0)=true:=by simp
   simp only [hpos,cond_true,d9s,hge,decide_false,cond_false];unfold bne;rcases d5 with d5|d5<;>simp [d5,l7.go,Option.bind])
 rw [show ((0:Nat):Int)=0 from rfl] at hloop;rw [hloop,E8 (b:=())]
 ·unfold b58;have:=hs.le;have ha:n7 s.At 0 40=true:=by rw [hs.at_];simp [n7];omega
  simp [l7.go,I4,ha,a9i (a5L hs.boxes),hs.boxes]
 ·unfold a8O;rw [B0];rfl
theorem b7r{s:t7}{own:s8}{bx:List m5}(hl:s.i4.length<=40)(hw:l9 (s.At+1)=s.At+1)(hd:a1c s.i4):b20 s own bx=some (⟨s.At+1,bx,Z0 s.i4 own⟩,own.Code):=by
 have hf:q9 s.i4:=by unfold q9;omega
 have hlen:∀k,k<=s.i4.length->((s.i4.take k).foldl (M8 own) ([],false)).1.length<=80:=by
  intro k hk;have:=c4i own (s.i4.take k) ([],false);simp only [List.length_nil,d93] at this;omega
 unfold b20;have hloop:=T8 (body:=fun x:(List s8)×Int×Bool=>a7F s own x.1 x.2.1 x.2.2) (fun k=>(((s.i4.take k).foldl (M8 own) ([],false)).1,(k:Int),((s.i4.take k).foldl (M8 own) ([],false)).2)) s.i4.length (by
  intro k hk;have hb:=hlen k (by omega);rw [d9V hk,List.foldl_append];generalize (s.i4.take k).foldl (M8 own) ([],false)=st at hb;obtain ⟨o,i⟩:=st;simp only at hb;simp only [e1d,List.foldl_nil];unfold a7F b3E b6U M8;rw [z5 _ k hk,s7 hk,E7 hf hk];have n1:(o.length+1)*32<=140737488355328:=by omega
  have n2:((o++[own]).length+1)*32<=140737488355328:=d1h (by omega);cases i<;>cases h1:decide (s.i4[k].a0.b6>=own.a0.b6)<;>cases h2:s.i4[k].a0.b6 != own.a0.b6<;>simp only [h1,h2,x9 n1,x9 n2,cond_true,cond_false,d9s,l7.go,d9B,d9W,d9Q,Bool.false_and])
 simp only [e0j,List.foldl_nil,d9P] at hloop;rw [show ((0:Nat):Int)=0 from rfl] at hloop;rw [hloop,E8 (b:=s.i4.foldl (M8 own) ([],false))]
 ·have hb:=hlen s.i4.length (d9K _);rw [d9P] at hb;have hpl:=c4g own hd;have hcp:a3r (Z0 s.i4 own)=some (Z0 s.i4 own):=b9b (by omega);unfold b5f b67;unfold Z0 at hcp ⊢;generalize s.i4.foldl (M8 own) ([],false)=st at hb hcp;obtain ⟨o,i⟩:=st;have n1:(o.length+1)*32<=140737488355328:=by simp only at hb;omega
  cases i<;>simp only [x9 n1,cond_true,cond_false,d9s,l7.go,d9B,d9W,hw] at hcp ⊢ <;>rw [hcp]<;>rfl
 ·unfold a7F;rw [B0];rfl
theorem b5L{s:t7}{k:Nat}{e:j8}(hs:S7 s k)(hk:k<40)(he:t9 e=true)(hf:a2z e):b0G s e=some (apply s e):=by
 have hw:l9 (s.At+1)=s.At+1:=by rw [hs.at_];exact C8 (by omega) (by omega)
 have hl:=hs.len;have hcd:a3r s.i4=some s.i4:=b9b (by omega);have hcb:a5t s.d8=some s.d8:=b6O (by rw [a43 hs.boxes];decide);have hat:(s.At==40)=false:=by rw [hs.at_];simp;omega
 unfold b0G apply;rw [c87 hs,a3w hf,he];simp only [d9s,d9B,cond_false,hat,hcb,hcd,hw];cases hn:e.i6;case true=>rfl
 obtain ⟨_,_,hr,hc3⟩:=a2s he hn;have hfr:a9O s e s.d8=some (J8 s e):=by
  unfold a9O J8;simp only [c7s (a5L hs.boxes) hf.2,hs.boxes,hr,d9Q,d9s,c5h hs.boxes hf.2 hr];cases a0D s.d8 e.c7
  ·simp only [d9W,cond_true,cond_false,d9s,l7.go];exact b7r (by omega) hw hs.sorted
  ·unfold bne;cases e.c7.Code==0
   ·simp only [d9W,d9B,cond_true,cond_false,d9s,l7.go];exact b7r (by omega) hw hs.sorted
   ·simp only [d9B,cond_true,cond_false,d9s,l7.go];exact b7r (by omega) hw hs.sorted
 simp only [cond_false];rw [b71 s.i4 hs.fits (fun d=>d.a0.b6==e.a0.b6&&decide (d.a0.Seq>=e.a0.Seq)) (fun d=>(⟨s.At+1,s.d8,s.i4⟩,bif d.a0.Seq==e.a0.Seq then 3 else 4)) ()]
 ·rw [d79 hs.sorted];cases s.i4.find? fun d=>d.a0.b6==e.a0.b6 with
  | none=>simp only [d9s,l7.go,hfr]
  | some d =>
   cases hq:d.a0.Seq==e.a0.Seq with
   | true =>
    have:d.a0.Seq>=e.a0.Seq:=by
     have:d.a0.Seq=e.a0.Seq:=by simpa using hq
     omega
    simp [this,l7.go,hq]
   | false =>
    have hne:d.a0.Seq≠e.a0.Seq:=by simpa using hq
    by_cases hg:d.a0.Seq>e.a0.Seq
    ·have:d.a0.Seq>=e.a0.Seq:=by omega
     simp [this,l7.go,hg,hq]
    ·have:¬d.a0.Seq>=e.a0.Seq:=by omega
     simp [this,l7.go,hg,hfr,hq]
 ·intro j hj;unfold b0o b4W;rw [z5 _ j hj,s7 hj];simp only [cond_true,d9s,hcd,hw];cases h1:s.i4[j].a0.b6==e.a0.b6<;>cases h2:decide (s.i4[j].a0.Seq>=e.a0.Seq)<;>cases h3:s.i4[j].a0.Seq==e.a0.Seq<;>simp only [cond_true,cond_false,d9s,l7.go,d9Q,Bool.false_and,Bool.and_true,Bool.and_false]
 ·unfold b0o;rw [B0];rfl
theorem d2O{s:t7}{k:Nat}{e:j8}(hs:S7 s k)(hk:k<40)(he:t9 e=true)(hn:e.i6=false):S7 (J8 s e).1 (k+1)/\0<=(J8 s e).2/\(J8 s e).2<=5:=by
  obtain ⟨h1,h2,hr,hc3⟩:=a2s he hn;have hp:=a2w hr;have hat:s.At+1=((k+1:Nat):Int):=by rw [hs.at_];rfl
  have key:∀(bx:List m5) (d:s8),B7 bx=true->a5a d=true->S7 ⟨s.At+1,bx,Z0 s.i4 d⟩ (k+1):=fun bx d hb hd =>
    { at_:=hat,le:=by omega,boxes:=hb,sorted:=d1Q d hs.sorted
      dones:=fun x hx=>by
        rcases c7Y hs.sorted hx with hx|rfl
        · exact hs.dones x hx
        · exact hd
      len:=by
        have:=c4g d hs.sorted;have:=hs.len;simp only;omega}
  have hd0:∀c:Int,0<=c->c<=2->a5a ⟨e.a0,c,0⟩=true:=by
    intro c c1 c2;unfold a5a n7;simp;omega
  have hd1:a5a ⟨e.a0,0,e.c7.c8⟩=true:=by
    unfold a5a n7;simp;omega
  unfold J8;cases a0D s.d8 e.c7
  · exact ⟨key _ _ hs.boxes (hd0 1 (by decide) (by decide)),show (0:Int)<=1 from by decide,show (1:Int)<=5 from by decide⟩
  · cases e.c7.Code==0
    · exact ⟨key _ _ hs.boxes (hd0 2 (by decide) (by decide)),show (0:Int)<=2 from by decide,show (2:Int)<=5 from by decide⟩
    · exact ⟨key _ _ (b13 hs.boxes hp.2.2.2.2) hd1,show (0:Int)<=0 from by decide,show (0:Int)<=5 from by decide⟩
theorem d8v{s:t7}{k:Nat}{e:j8}(hs:S7 s k)(hk:k<40)(he:t9 e=true):S7 (apply s e).1 (k+1)/\0<=(apply s e).2/\(apply s e).2<=5:=by
 have hat:s.At+1=((k+1:Nat):Int):=by rw [hs.at_];rfl
 have key:S7 ⟨s.At+1,s.d8,s.i4⟩ (k+1):={at_:=hat,le:=by omega,boxes:=hs.boxes,sorted:=hs.sorted,dones:=hs.dones,len:=Nat.le_succ_of_le hs.len}
 unfold apply;cases hn:e.i6
 ·have hfr:=d2O hs hk he hn;simp only [cond_false];cases s.i4.find? fun d=>d.a0.b6==e.a0.b6 with
  | none=>exact hfr
  | some d =>
   simp only;cases d.a0.Seq==e.a0.Seq
   ·cases decide (d.a0.Seq>e.a0.Seq)
    ·exact hfr
    ·exact ⟨key,show (0:Int)<=4 from by decide,show (4:Int)<=5 from by decide⟩
   ·exact ⟨key,show (0:Int)<=3 from by decide,show (3:Int)<=5 from by decide⟩
 ·exact ⟨key,show (0:Int)<=5 from by decide,show (5:Int)<=5 from by decide⟩
def a0K:t7:=⟨0,d9u 4 ⟨0,0⟩,[]⟩
theorem c9m:S7 a0K 0:={at_:=rfl,le:=by omega,boxes:=by decide,sorted:=.nil,dones:=by simp [a0K],len:=by simp [a0K]}
theorem d03:b15=some a0K:=by
 unfold b15 a9a;rw [x9 (by decide)];rfl
def a6y(st:t7×List Int)(e:j8):t7×List Int:=((apply st.1 e).1,st.2++[(apply st.1 e).2])
def m9(l:List j8):t7×List Int:=l.foldl a6y (a0K,[])
theorem a04{l:List j8}{k:Nat}(hk:k<l.length):m9 (l.take (k+1))=a6y (m9 (l.take k)) l[k]:=by
 unfold m9;rw [d9V hk,List.foldl_append];rfl
theorem O9{l:List j8}(hl:l.length<=40)(he:l.all t9=true):∀k,k<=l.length->S7 (m9 (l.take k)).1 k/\(m9 (l.take k)).2.length=k/\∀c∈(m9 (l.take k)).2,0<=c/\c<=5
 | 0,_=>by
  rw [e0j];exact ⟨c9m,rfl,by simp [m9]⟩
 | k+1,hk=>by
  obtain ⟨h1,h2,h3⟩:=O9 hl he k (by omega);have ha:=d8v h1 (by omega) (List.all_eq_true.1 he _ (d9w (show k<l.length by omega)));rw [a04 (show k<l.length by omega)];refine ⟨ha.1,by simp [a6y,h2],fun c hc => ?_⟩;unfold a6y at hc;rcases List.mem_append.1 hc with hc|hc
  ·exact h3 c hc
  ·rw [d9y] at hc;rw [hc];exact ha.2
theorem a0S{l:List j8}(h:F5 l=true):l.length<=40/\l.all t9=true:=by
 unfold F5 at h;simpa using h
theorem b1D{l:List j8}(h:A0 88 a2z l)(hl:l.length<=40)(he:l.all t9=true):a4G l=some (m9 l):=by
  have hf:q9 l:=h.fits (by decide);unfold a4G;rw [d03,d9s];first
  | (have hloop:=T8 (body:=fun s:(List m5)×(List s8)×(List Int)×Int×Int=>X7 l s.1 s.2.1 s.2.2.1 s.2.2.2.1 s.2.2.2.2) (fun k=>((m9 (l.take k)).1.d8,(m9 (l.take k)).1.i4,(m9 (l.take k)).2,(k:Int),(m9 (l.take k)).1.At)) l.length (by
       intro k hk;obtain ⟨h1,h2,h3⟩:=O9 hl he k (by omega);have n1:((m9 (l.take k)).2.length+1)*8<=140737488355328:=by rw [h2];omega
       rw [a04 hk];unfold X7;rw [z5 _ k hk,s7 hk,E7 hf hk];simp only [cond_true,d9s];rw [b5L h1 (by omega) (List.all_eq_true.1 he _ (d9w hk)) (h.2 _ (d9w hk)),d9s,x9 n1];rfl)
     rw [e0j,d9P] at hloop;rw [show ((0:Nat):Int)=0 from rfl] at hloop;rw [show p8 (fun s:(List m5)×(List s8)×(List Int)×Int×Int=>X7 l s.1 s.2.1 s.2.2.1 s.2.2.2.1 s.2.2.2.2) (a0K.d8,a0K.i4,([]:List Int),0,a0K.At)=_ from hloop,E8 (b:=((m9 l).1.d8,(m9 l).1.i4,(m9 l).2,(m9 l).1.At))]
     · rfl
     · unfold X7;rw [B0];rfl
     done)
  | (have hloop:=T8 (body:=fun s:t7×(List Int)×Int=>X7 l s.1 s.2.1 s.2.2) (fun k=>((m9 (l.take k)).1,(m9 (l.take k)).2,(k:Int))) l.length (by
       intro k hk;obtain ⟨h1,h2,h3⟩:=O9 hl he k (by omega);have n1:((m9 (l.take k)).2.length+1)*8<=140737488355328:=by rw [h2];omega
       rw [a04 hk];unfold X7;rw [z5 _ k hk,s7 hk,E7 hf hk];simp only [cond_true,d9s];rw [b5L h1 (by omega) (List.all_eq_true.1 he _ (d9w hk)) (h.2 _ (d9w hk)),d9s,x9 n1];rfl)
     rw [e0j,d9P] at hloop;rw [show ((0:Nat):Int)=0 from rfl] at hloop;rw [show p8 (fun s:t7×(List Int)×Int=>X7 l s.1 s.2.1 s.2.2) (a0K,[],0)=_ from hloop,E8 (b:=m9 l)]
     · rfl
     · unfold X7;rw [B0];rfl
     done)
  | (have hloop:=T8 (body:=fun s:(List m5)×(List Int)×Int×Int×List s8=>X7 l s.1 s.2.1 s.2.2.1 s.2.2.2.1 s.2.2.2.2) (fun k=>((m9 (l.take k)).1.d8,(m9 (l.take k)).2,(k:Int),(m9 (l.take k)).1.At,(m9 (l.take k)).1.i4)) l.length (by
       intro k hk;obtain ⟨h1,h2,h3⟩:=O9 hl he k (by omega);have n1:((m9 (l.take k)).2.length+1)*8<=140737488355328:=by rw [h2];omega
       rw [a04 hk];unfold X7;rw [z5 _ k hk,s7 hk,E7 hf hk];simp only [cond_true,d9s];rw [show (⟨(m9 (l.take k)).1.At,(m9 (l.take k)).1.d8,(m9 (l.take k)).1.i4⟩:t7)=(m9 (l.take k)).1 from rfl,b5L h1 (by omega) (List.all_eq_true.1 he _ (d9w hk)) (h.2 _ (d9w hk)),d9s,x9 n1];rfl)
     rw [e0j,d9P] at hloop;rw [show ((0:Nat):Int)=0 from rfl] at hloop;rw [show p8 (fun s:(List m5)×(List Int)×Int×Int×List s8=>X7 l s.1 s.2.1 s.2.2.1 s.2.2.2.1 s.2.2.2.2) (a0K.d8,[],0,a0K.At,a0K.i4)=_ from hloop,E8 (b:=((m9 l).1.d8,(m9 l).2,(m9 l).1.At,(m9 l).1.i4))]
     · rfl
     · unfold X7;rw [B0];rfl
     done)
def Rd(r:x6)(m:Nat):Prop:=(∀x∈r.b,a2t x)/\r.b.length<=2000/\0<=r.p/\r.p<=(m:Int)
theorem Rd.mono{r:x6}{m n:Nat}(h:Rd r m)(hn:m<=n):Rd r n:=⟨h.1,h.2.1,h.2.2.1,by have:=h.2.2.2;omega⟩
theorem c8w{x y:Int}(hx:0<=x)(hx2:x<4611686018427387904)(hy:0<=y)(hy2:y<4611686018427387904):0<=a3a .i64 x y/\a3a .i64 x y<4611686018427387904:=by
 obtain ⟨a,rfl⟩:∃a:Nat,x=(a:Int):=⟨x.toNat,by omega⟩
 obtain ⟨b,rfl⟩:∃b:Nat,y=(b:Int):=⟨y.toNat,by omega⟩
 have hxor:a ^^^ b<2 ^ 62:=Nat.xor_lt_two_pow (by omega) (by omega);have h:a3a .i64 (a:Int) (b:Int)=((a ^^^ b:Nat):Int):=by
  unfold a3a;rw [BitVec.toNat_xor];have e1:(BitVec.ofInt IntKind.i64.bits (a:Int)).toNat=a:=by
   show (BitVec.ofInt 64 (a:Int)).toNat=a
   rw [BitVec.toNat_ofInt];omega
  have e2:(BitVec.ofInt IntKind.i64.bits (b:Int)).toNat=b:=by
   show (BitVec.ofInt 64 (b:Int)).toNat=b
   rw [BitVec.toNat_ofInt];omega
  rw [e1,e2];exact IntWalk.i64_in _ ⟨by omega,by omega⟩
 rw [h];omega
theorem b44{l:List Int}(h:∀x∈l,a2t x){i:Int}(h0:0<=i)(h1:i<l.length):∃y,idx l i=some y/\0<=y/\y<=255:=by
 have hlt:i.toNat<l.length:=by omega
 refine ⟨l[i.toNat],?_,h _ (d9w hlt)⟩;unfold idx;rw [if_pos h0,d9t hlt]
theorem b0B{x n:Int}(hx:0<=x)(hn:1<=n):0<=d9I x n/\d9I x n<n:=by
 rw [e0N hx];exact ⟨Int.emod_nonneg _ (by omega),Int.emod_lt_of_pos _ (by omega)⟩
theorem c29{x n:Int}(hx:0<=x)(hn:1<=n):0<=e0B x n/\e0B x n<=x:=by
 rw [Int.tdiv_eq_ediv_of_nonneg hx];exact ⟨Int.ediv_nonneg hx (by omega),Int.ediv_le_self _ hx⟩
theorem T6{r:x6}{m:Nat}(h:Rd r m)(hm:m<=1000000000)(n:Int):∃v r',O3 r n=some (v,r')/\Rd r' (m+1)/\0<=v/\(v<n\/v=0):=by
 obtain ⟨hb,hbl,hp0,hp1⟩:=h;have hw:l9 (r.p+1)=r.p+1:=C8 (by omega) (by omega);have hw2:l9 (r.p+1-1)=r.p:=by rw [C8 (by omega) (by omega)];omega
 have hr:Rd ⟨r.b,r.p+1⟩ (m+1):=⟨hb,hbl,by simp only;omega,by simp only;omega⟩
 unfold O3;simp only [hw,hw2];by_cases hn:n<1
 ·simp only [hn,decide_true,cond_true];exact ⟨0,_,rfl,hr,by omega,.inr rfl⟩
 simp only [hn,decide_false,cond_false];cases he:((r.b.length:Int)==0);case true=>exact ⟨0,_,rfl,hr,by omega,.inr rfl⟩
 have hpos:0<r.b.length:=by
  have:¬(r.b.length:Int)=0:=by simpa using he
  omega
 have hne:(r.b.length:Int)≠0:=by omega
 have hnn:n≠0:=by omega
 simp only [cond_false];by_cases hlt:r.p<(r.b.length:Int)
 ·obtain ⟨y,h1,h2,h3⟩:=b44 hb hp0 hlt;simp only [hlt,decide_true,cond_true,h1,d9s,x9 hnn];rw [C8 (n:=y) (by omega) (by omega)];have:=b0B h2 (show 1<=n by omega);exact ⟨_,_,rfl,hr,this.1,.inl this.2⟩
 ·simp only [hlt,decide_false,cond_false,x9 hne,x9 hnn];have t1:=b0B hp0 (show (1:Int)<=(r.b.length:Int) by omega);obtain ⟨y1,a1,a2,a3⟩:=b44 hb t1.1 t1.2;have w7:l9 (r.p*7)=r.p*7:=C8 (by omega) (by omega);have w73:l9 (r.p*7+3)=r.p*7+3:=C8 (by omega) (by omega);have t2:=b0B (show 0<=r.p*7+3 by omega) (show (1:Int)<=(r.b.length:Int) by omega);obtain ⟨y2,b1,b2,b3⟩:=b44 hb t2.1 t2.2;simp only [a1,w7,w73,b1,d9s];have td:=c29 hp0 (show (1:Int)<=(r.b.length:Int) by omega);have c1:l9 (l9 y1*131)=y1*131:=by rw [C8 (n:=y1) (by omega) (by omega),C8 (by omega) (by omega)]
  have c2:l9 (l9 y2*1117)=y2*1117:=by rw [C8 (n:=y2) (by omega) (by omega),C8 (by omega) (by omega)]
  have c3:l9 (r.p*29)=r.p*29:=C8 (by omega) (by omega);have c4:l9 (l9 (e0B r.p (r.b.length:Int))*53)=e0B r.p (r.b.length:Int)*53:=by rw [C8 (n:=e0B r.p (r.b.length:Int)) (by omega) (by omega),C8 (by omega) (by omega)]
  simp only [c1,c2,c3,c4];generalize e0B r.p (r.b.length:Int)=q at td;rw [C8 (n:=y1*131+y2*1117) (by omega) (by omega),C8 (n:=y1*131+y2*1117+r.p*29) (by omega) (by omega),C8 (n:=y1*131+y2*1117+r.p*29+q*53) (by omega) (by omega)];have hA0:0<=y1*131+y2*1117+r.p*29+q*53:=by omega
  have hA1:y1*131+y2*1117+r.p*29+q*53<1000000000000:=by omega
  generalize y1*131+y2*1117+r.p*29+q*53=A at hA0 hA1;have t3:=c29 hA0 (show (1:Int)<=64 by omega);rw [C8 (n:=e0B A 64) (by omega) (by omega)];have hx:=c8w hA0 (by omega) t3.1 (by omega);have t4:=b0B hx.1 (show 1<=n by omega);exact ⟨_,_,rfl,hr,t4.1,.inl t4.2⟩
theorem a3U{r:x6}{m:Nat}(h:Rd r m)(hm:m<=1000000000)(l:List Int)(hl:0<l.length)(hl2:l.length<=1000):∃v r',a1t r l=some (v,r')/\Rd r' (m+1)/\v∈l:=by
 obtain ⟨v,r',h1,h2,h3,h4⟩:=T6 h hm (l.length:Int);unfold a1t;rw [h1,d9s];have hlt:v.toNat<l.length:=by omega
 refine ⟨l[v.toNat],r',?_,h2,d9w hlt⟩;unfold idx;simp only [if_pos h3,d9t hlt,d9s]
theorem c9N{code:List Int}(h:∀x∈code,a2t x):∃r,b3m code=some r/\Rd r 0:=by
 unfold b3m b6S;by_cases hl:(code.length:Int)>2000
 ·simp only [hl,decide_true,cond_true];rw [x9 ⟨by omega,by omega⟩];refine ⟨_,rfl,?_,?_,by simp,by simp⟩
  ·intro x hx;simp only [e0T] at hx;exact h x (e0f hx)
  ·simp only [d93];have:(2000:Int).toNat-0=2000:=by decide
   omega
 ·simp only [hl,decide_false,cond_false];exact ⟨_,rfl,h,by simp only;omega,by simp,by simp⟩
def K6(i:m7):Bool :=
 bif i.a7==1 then n7 i.A 0 3&&(n7 i.B 0 3&&i.N==0) else
 bif i.a7==2 then n7 i.A 0 3&&(n7 i.B 0 3&&i.N==0) else
 bif i.a7==3 then n7 i.A 0 3&&(i.B==0&&n7 i.N (-1000000) 1000000) else
 bif i.a7==4 then n7 i.A 0 3&&(n7 i.B 0 3&&i.N==0) else
 bif i.a7==5 then n7 i.A 0 3&&(n7 i.B 0 3&&i.N==0) else
 bif i.a7==6 then n7 i.A 0 3&&(n7 i.B 0 3&&n7 i.N 1 10) else
 bif i.a7==7 then i.A==0&&(i.B==0&&i.N==0) else false
theorem d0M(n:Int):a0J n=some (n7 n 0 3):=by
 rw [<-I4];unfold a0J A7;have:(n<4)=(n<=3):=by apply propext;omega
 simp only [this]
theorem d3Z(i:m7):b0x i=some (K6 i):=by
 unfold b0x K6;have h6:(bif decide (i.N>=1) then some (decide (i.N<=10)) else some false)=some (n7 i.N 1 10):=by
  unfold n7;by_cases h1:i.N>=1<;>by_cases h2:i.N<=10<;>simp [h1,h2]<;>omega
 simp only [d0M,c7T,c6R,d9s,h6];cases i.a7==1<;>cases i.a7==2<;>cases i.a7==3<;>cases i.a7==4<;>cases i.a7==5<;>cases i.a7==6<;>cases i.a7==7<;>cases n7 i.A 0 3<;>cases n7 i.B 0 3<;>cases i.A==0<;>cases i.B==0<;>rfl
def C3(l:List m7):Bool:=decide (l.length<=10)&&l.all K6
theorem d6C{l:List m7}(h:q9 l):b1M l=some (C3 l):=by
 unfold b1M C3;rw [show (10:Int)=((10:Nat):Int) from rfl,d6U,P3 l h K6 false ()]
 ·cases decide (l.length<=10)
  ·rfl
  ·cases l.all K6<;>rfl
 ·intro k hk;unfold b2t;rw [z5 _ k hk,s7 hk];simp only [cond_true,d9s,d3Z];cases K6 l[k]<;>rfl
 ·unfold b2t;rw [B0];rfl
theorem c1h{i:m7}(h:K6 i=true):(i.a7=1/\(0<=i.A/\i.A<=3)/\(0<=i.B/\i.B<=3))\/(i.a7=2/\(0<=i.A/\i.A<=3)/\(0<=i.B/\i.B<=3))\/(i.a7=3/\(0<=i.A/\i.A<=3)/\(-1000000<=i.N/\i.N<=1000000))\/
  (i.a7=4/\(0<=i.A/\i.A<=3)/\(0<=i.B/\i.B<=3))\/(i.a7=5/\(0<=i.A/\i.A<=3)/\(0<=i.B/\i.B<=3))\/(i.a7=6/\(0<=i.A/\i.A<=3)/\(0<=i.B/\i.B<=3)/\(1<=i.N/\i.N<=10))\/(i.a7=7/\i.A=0):=by
 unfold K6 n7 at h;by_cases h1:i.a7=1
 ·simp [h1] at h;exact .inl ⟨h1,h.1,h.2.1⟩
 by_cases h2:i.a7=2
 ·simp [h2] at h;exact .inr (.inl ⟨h2,h.1,h.2.1⟩)
 by_cases h3:i.a7=3
 ·simp [h3] at h;exact .inr (.inr (.inl ⟨h3,h.1,h.2.2⟩))
 by_cases h4:i.a7=4
 ·simp [h4] at h;exact .inr (.inr (.inr (.inl ⟨h4,h.1,h.2.1⟩)))
 by_cases h5:i.a7=5
 ·simp [h5] at h;exact .inr (.inr (.inr (.inr (.inl ⟨h5,h.1,h.2.1⟩))))
 by_cases h6:i.a7=6
 ·simp [h6] at h;exact .inr (.inr (.inr (.inr (.inr (.inl ⟨h6,h.1,h.2.1,h.2.2⟩)))))
 by_cases h7:i.a7=7
 ·simp [h7] at h;exact .inr (.inr (.inr (.inr (.inr (.inr ⟨h7,h.1⟩)))))
 ·have e1:(i.a7==1)=false:=by simpa using h1
  have e2:(i.a7==2)=false:=by simpa using h2
  have e3:(i.a7==3)=false:=by simpa using h3
  have e4:(i.a7==4)=false:=by simpa using h4
  have e5:(i.a7==5)=false:=by simpa using h5
  have e6:(i.a7==6)=false:=by simpa using h6
  have e7:(i.a7==7)=false:=by simpa using h7
  rw [e1,e2,e3,e4,e5,e6,e7] at h;cases h
def a2a(l:List p9):Bool:=(d9C l.length).all (a0I l)
def a0m(l:List n6):Bool:=(d9C l.length).all (a00 l)
def b6v(x:p9):Prop:=0<=x.g8/\x.g8<=3/\0<=x.i7/\x.i7<=1000000
theorem c2n{l:List p9}:a2a l=true↔(∀x∈l,b6v x)/\l.Pairwise fun a b=>a.g8≠b.g8:=by
 unfold a2a;constructor
 ·intro h;refine ⟨c47 h,?_⟩;rw [d98];intro i j hi hj hij heq;have:=List.all_eq_true.1 h j (by simpa using hj);unfold a0I at this;rw [d9t hj] at this;simp only [d9v,d9T] at this;have hs:=this.2.2;unfold G9 at hs;rw [d95] at hs;refine hs l[i] ?_ (by simpa using heq);rw [e0g];exact ⟨i,by omega,rfl⟩
 ·rintro ⟨h1,h2⟩
  rw [List.all_eq_true];intro k hk;have hk:k<l.length:=by simpa using hk
  unfold a0I;rw [d9t hk];have hf:=h1 _ (d9w hk);have hs:G9 (l.take k) l[k].g8=false:=by
   unfold G9;rw [d95];intro x hx;obtain ⟨i,hi,rfl⟩:=e0g.1 hx;have:=d98.1 h2 i k (by omega) hk (by omega);simpa using this
  simp only [hs,d9W,Bool.and_true,d9v];unfold b6v at hf;exact ⟨by simp [n7];omega,by simp [n7];omega⟩
theorem a8M{l:List n6}:a0m l=true↔(∀x∈l,Z3 x)/\l.Pairwise fun a b=>a.g8≠b.g8:=by
 unfold a0m;constructor
 ·intro h;refine ⟨c0h h,?_⟩;rw [d98];intro i j hi hj hij heq;have:=List.all_eq_true.1 h j (by simpa using hj);unfold a00 at this;rw [d9t hj] at this;simp only [d9v,d9T] at this;have hs:=this.2.2;unfold H3 at hs;rw [d95] at hs;refine hs l[i] ?_ (by simpa using heq);rw [e0g];exact ⟨i,by omega,rfl⟩
 ·rintro ⟨h1,h2⟩
  rw [List.all_eq_true];intro k hk;have hk:k<l.length:=by simpa using hk
  unfold a00;rw [d9t hk];have hf:=h1 _ (d9w hk);have hs:H3 (l.take k) l[k].g8=false:=by
   unfold H3;rw [d95];intro x hx;obtain ⟨i,hi,rfl⟩:=e0g.1 hx;have:=d98.1 h2 i k (by omega) hk (by omega);simpa using this
  simp only [hs,d9W,Bool.and_true,d9v];unfold Z3 at hf;exact ⟨by simp [n7];omega,by simp [n7];omega⟩
theorem d2V{l:List p9}{x:p9}(h:a2a l=true)(hx:b6v x)(hs:G9 l x.g8=false):a2a (l++[x])=true:=by
 rw [c2n] at h ⊢;refine ⟨fun y hy => ?_,?_⟩
 ·rcases List.mem_append.1 hy with hy|hy
  ·exact h.1 y hy
  ·rw [d9y.1 hy];exact hx
 ·rw [e0Q];refine ⟨h.2,by simp,fun a ha b hb => ?_⟩;rw [d9y.1 hb];unfold G9 at hs;rw [d95] at hs;simpa using hs a ha
theorem d3b{l:List n6}{x:n6}(h:a0m l=true)(hx:Z3 x)(hs:H3 l x.g8=false):a0m (l++[x])=true:=by
 rw [a8M] at h ⊢;refine ⟨fun y hy => ?_,?_⟩
 ·rcases List.mem_append.1 hy with hy|hy
  ·exact h.1 y hy
  ·rw [d9y.1 hy];exact hx
 ·rw [e0Q];refine ⟨h.2,by simp,fun a ha b hb => ?_⟩;rw [d9y.1 hb];unfold H3 at hs;rw [d95] at hs;simpa using hs a ha
theorem d6h{l:List n6}{k:Nat}{v:Int}(h:a0m l=true)(hk:k<l.length)(hv:-1000000<=v/\v<=1000000):a0m (l.set k ⟨l[k].g8,v⟩)=true:=by
 rw [a8M] at h ⊢;refine ⟨fun y hy => ?_,?_⟩
 ·rcases List.mem_or_eq_of_mem_set hy with hy|rfl
  ·exact h.1 y hy
  ·have:=h.1 _ (d9w hk);exact ⟨this.1,this.2.1,hv⟩
 ·rw [d98];intro i j hi hj hij;have hi':i<l.length:=by simpa using hi
  have hj':j<l.length:=by simpa using hj
  have hne:=d98.1 h.2 i j hi' hj' hij;rw [List.getElem_set,List.getElem_set];split<;>split<;>simp_all
theorem a6n(r:o7):T7 r=(n7 r.Code 0 3&&(n7 r.c8 (-1000000) 1000000&&((r.Code==0||(r.c8==0&&r.c6.length==0))&&((r.Code != 3||r.b9.length==0)&&(a2a r.b9&&a0m r.c6))))):=rfl
def inV(v:Int):Prop := -1000000<=v/\v<=1000000
structure Way(r:o7)(n:Nat):Prop where
 val:r.c8=0
 reads:a2a r.b9=true
 puts:a0m r.c6=true
 rlen:r.b9.length<=n
 plen:r.c6.length<=n
structure Ran(r:o7):Prop where
 ok:T7 r=true
 rlen:r.b9.length<=40
 plen:r.c6.length<=40
theorem a92{r:o7}{n:Nat}(h:Way r n)(hn:n<=40)(hc:r.Code=0\/r.Code=1\/r.Code=2){v:Int}(hv:r.Code=0->inV v):Ran ⟨r.b9,bif r.Code != 0 then [] else r.c6,bif r.Code != 0 then r.c8 else v,r.Code⟩:=by
 have h1:=h.rlen;have h2:=h.plen;have hR:=h.reads;have hP:=h.puts;have hP0:a0m []=true:=rfl;rcases hc with hc|hc|hc
 ·have hv:=hv hc;unfold inV at hv;refine ⟨?_,by simp only;omega,by simp only [hc];simp;omega⟩;rw [a6n];simp [hc,hR,hP,n7,hv]
 ·refine ⟨?_,by simp only;omega,by simp [hc]⟩;rw [a6n];simp [hc,hR,hP0,n7,h.val]
 ·refine ⟨?_,by simp only;omega,by simp [hc]⟩;rw [a6n];simp [hc,hR,hP0,n7,h.val]
theorem c8x{r:x6}{m:Nat}(h:Rd r m)(hm:m<=100000000):∃i r',b26 r=some (i,r')/\Rd r' (m+10):=by
 obtain ⟨k,r1,a1,a2,a3⟩:=a3U h (by omega) [1,1,2,2,3,4,4,5,6,7] (by decide) (by decide);obtain ⟨p1,r2,b1,b2,b3,b4⟩:=T6 a2 (by omega) 3;obtain ⟨p2,r3,c1,c2,c3,c4⟩:=T6 b2 (by omega) 3;unfold b26;simp only [a1,b1,c1,d9s];cases h3:k==3
 ·cases h6:k==6
  ·cases h7:k==7
   ·exact ⟨_,_,rfl,c2.mono (by omega)⟩
   ·obtain ⟨p3,r4,d1,d2,d3,d4⟩:=T6 c2 (by omega) 3;simp only [cond_true,cond_false,d1,d9s];cases decide (p3>0)
    ·exact ⟨_,_,rfl,d2.mono (by omega)⟩
    ·obtain ⟨p4,r5,e1,e2,e3,e4⟩:=T6 d2 (by omega) 4;obtain ⟨p5,r6,f1,f2,f3,f4⟩:=T6 e2 (by omega) 4;simp only [cond_true,e1,f1,d9s];exact ⟨_,_,rfl,f2.mono (by omega)⟩
  ·obtain ⟨p3,r4,d1,d2,d3,d4⟩:=T6 c2 (by omega) 3;simp only [cond_true,cond_false,d1,d9s];exact ⟨_,_,rfl,d2.mono (by omega)⟩
 ·obtain ⟨n1,r4,d1,d2,d3⟩:=a3U c2 (by omega) [0,1,5,(-2),100,1000000] (by decide) (by decide);simp only [cond_true,d1,d9s];exact ⟨_,_,rfl,d2.mono (by omega)⟩
end
end Go.Proofs.YtallgikdooekeaaGreat
