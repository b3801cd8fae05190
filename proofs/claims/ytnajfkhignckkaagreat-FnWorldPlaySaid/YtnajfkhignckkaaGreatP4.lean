/- What the law leans on, part 4. -/
import Derived.Test.YtnajfkhignckkaaGreatP3
import Derived.IntWalk
set_option linter.unusedVariables false
set_option linter.unusedSimpArgs false
set_option linter.unnecessarySimpa false
namespace Go.Proofs.YtnajfkhignckkaaGreat
open Go
open Option renaming bind_some->e9P
open List renaming getElem?_eq_getElem->e9Q,replicate->e9R,mem_append->e9S,getElem_mem->e9T,mem_cons->e9X,all_eq_true->e9Y,range->e91,mem_singleton->e92,eq_nil_of_length_eq_zero->e93,length_append->e94,mem_of_getElem?->e96,getElem?_append_right->e98,mem_or_eq_of_mem_set->f0b,drop_eq_getElem_cons->f0e,getElem?_append_left->f0h,length_take->f0i,take_succ_eq_append_getElem->f0o,take_length->f0r,take_zero->f0v,any_eq_false->f0w,mem_of_mem_take->f0D,mem_filter->f0E,length_cons->f0F,pairwise_iff_getElem->f0H,mem_range->f0K,drop_zero->f0S,getElem_of_mem->f0U,getElem?_set_self->f0V,findIdx?_eq_some_iff_getElem->f0W,pairwise_cons->f0Z,pairwise_append->f08,mem_take_iff_getElem->f09,any_eq_true->f1d,foldl_cons->f1i,all_eq_false->f1m,length_nil->f1x,findIdx?_eq_none_iff->f1y,foldl_nil->f1A
open Bool renaming and_eq_true->e9U,not_true->e9V,true_and->e99,not_false->f0a,false_or->f0t,not_eq_true'->f0L,and_true->f0R,and_assoc->f1q,false_and->f1B
open Int renaming tmod->e9Z,toNat_natCast->f0k,tdiv->f1t
open Nat renaming le_trans->f0f,le_refl->f0u,le_succ_of_le->f05
noncomputable section
def b0l(list:List j9):Option (List j9):=
 ((c2v list).bind fun msg=>((s2 (fun s:(List j9)×Int=>b6W msg s.1 s.2) (msg,0)).bind fun x=>x.go (fun r=>some r) fun s=>c3S s))
theorem d1J{list}:OK a5X [l7 13 s7 list] (b0l list):=
 p8 _ fun r h=>o9<|j7 c7u e6x 1 h fun msg h=>rg<|lp (d4e msg) h (fun _ h=>a5X.rt h) (e6F r) fun hI=>sk [] [3,8,9] [(3,0)] hI
def c5E:FS (List C1):=⟨40,Tryz.f40,[.val [some 3] [some 70]],[none],[.val [some 3] []],fun r=>u0 70 3 C2 r,fun _=>[none],Tryz.func40⟩
def c0o(list:List C1):Option (List C1):=
 (bif ((list.length:Int)==0) then some [] else (s6 (0<=(list.length:Int)/\(list.length:Int)*40<=140737488355328) ((s6 (list.length=(e9R (list.length:Int).toNat (C1.mk (s3.mk 0 0) [])).length) (some list)))))
theorem d4d{list}:OK c5E [l7 3 C2 list] (c0o list):=
 p8 _ fun r h=>o9<|j5 2 h (fun h=>rg<|fE h) (fun h=>rg<|t0 h fun e1 h=>S7 2 7 70 3 40 C2 (C1.mk (s3.mk 0 0) []) b8T (.ck [none,none,some 4]) e1 (by decide) (by rfl)<|rg<|t0 h fun e2 h=>om (s4.row 70 3 (e9R (list.length:Int).toNat (C1.mk (s3.mk 0 0) [])).length (list.map C2)=m7 70 3 C2 list) (a1I e2)<|s8 (e9R (list.length:Int).toNat (C1.mk (s3.mk 0 0) []))<|ob e2<|tl (2,{e:=some (m7 70 3 C2 list)})<|rg<|om ((e9R (list.length:Int).toNat (C1.mk (s3.mk 0 0) [])).length=list.length) (by simp)<|fE h)
def c3k:FS (List o8):=⟨41,Tryz.f41,[.val [some 5] [some 51]],[none],[.val [some 5] []],fun r=>u0 51 5 z3 r,fun _=>[none],Tryz.func41⟩
def b7x(list:List o8):Option (List o8):=
 (bif ((list.length:Int)==0) then some [] else (s6 (0<=(list.length:Int)/\(list.length:Int)*40<=140737488355328) ((s6 (list.length=(e9R (list.length:Int).toNat (o8.mk 0 (s3.mk 0 0) 0 0)).length) (some list)))))
theorem d2k{list}:OK c3k [l7 5 z3 list] (b7x list):=
 p8 _ fun r h=>o9<|j5 2 h (fun h=>rg<|fE h) (fun h=>rg<|t0 h fun e1 h=>S7 2 7 51 5 40 z3 (o8.mk 0 (s3.mk 0 0) 0 0) c2t (.none) e1 (by decide) (by rfl)<|rg<|t0 h fun e2 h=>om (s4.row 51 5 (e9R (list.length:Int).toNat (o8.mk 0 (s3.mk 0 0) 0 0)).length (list.map z3)=m7 51 5 z3 list) (a1I e2)<|s8 (e9R (list.length:Int).toNat (o8.mk 0 (s3.mk 0 0) 0 0))<|ob e2<|tl (2,{e:=some (m7 51 5 z3 list)})<|rg<|om ((e9R (list.length:Int).toNat (o8.mk 0 (s3.mk 0 0) 0 0)).length=list.length) (by simp)<|fE h)
def a75:FS (v6):=⟨88,Tryz.f88,[.val [none,some 8] [none,some 130]],[none],[.val [none,some 8] []],fun r=>.agg [vi r.i5,u0 130 8 p7 r.a0],fun _=>[none],Tryz.func88⟩
def a3L(a:v6):Option v6:=
 ((a72 a.a0).bind fun a0r=>some (v6.mk a.i5 a0r))
theorem a8U{a}:OK a75 [.agg (V5 a)] (a3L a):=
 p8 _ fun r h=>o9<|j7 a3j b6l 4 h fun a0r h=>s8 a0r<|fE h
def c73:FS (List m5):=⟨129,Tryz.f129,[.val [some 7] [some 63]],[none],[.val [some 7] []],fun r=>u0 63 7 t5 r,fun _=>[none],Tryz.func129⟩
def b5y(list:List m5):Option (List m5):=
 (bif ((list.length:Int)==0) then some [] else (s6 (0<=(list.length:Int)/\(list.length:Int)*88<=140737488355328) ((s6 (list.length=(e9R (list.length:Int).toNat (m5.mk false (s3.mk 0 0) (m9.mk [] [] 0 0))).length) (some list)))))
theorem d3P{list}:OK c73 [l7 7 t5 list] (b5y list):=
 p8 _ fun r h=>o9<|j5 2 h (fun h=>rg<|fE h) (fun h=>rg<|t0 h fun e1 h=>S7 2 7 63 7 88 t5 (m5.mk false (s3.mk 0 0) (m9.mk [] [] 0 0)) c2P (.ck I5) e1 (by decide) (by rfl)<|rg<|t0 h fun e2 h=>om (s4.row 63 7 (e9R (list.length:Int).toNat (m5.mk false (s3.mk 0 0) (m9.mk [] [] 0 0))).length (list.map t5)=m7 63 7 t5 list) (a1I e2)<|s8 (e9R (list.length:Int).toNat (m5.mk false (s3.mk 0 0) (m9.mk [] [] 0 0)))<|ob e2<|tl (2,{e:=some (m7 63 7 t5 list)})<|rg<|om ((e9R (list.length:Int).toNat (m5.mk false (s3.mk 0 0) (m9.mk [] [] 0 0))).length=list.length) (by simp)<|fE h)
def a6t:FS (List m5):=⟨89,Tryz.f89,[.val [some 7] [some 63]],[none],[.val [some 7] []],fun r=>u0 63 7 t5 r,fun _=>[none],Tryz.func89⟩
def c70:(List m5)->KS:=fun out1=>⟨a6t.k 4 [false],(bs 3 (.own 1 0 7 0 out1.length::(bs 18 []))),[some [],some [m7 63 7 t5 out1]]⟩
def d14(out1:List m5):Option (List m5):=
 some out1
theorem d7Q(r):NF a6t r c70 (fun s=>d14 s):=fun out1 h=>PK<|rg<|s8 out1<|fE h
def e6p(entry:List m5):((List m5)×Int)->KS:=fun (out,v9)=>⟨a6t.k 3 [],(bs 3 (.own 1 0 7 0 out.length::(bs 4 (vi (entry.length:Int)::(vi v9::(bs 12 [])))))),[some [],some [m7 63 7 t5 out]]⟩
def b3i(entry:List m5)(out:List m5)(v9:Int):Option (l9 (List m5) ((List m5)×Int) (List m5)):=
 (bif decide (v9<(entry.length:Int)) then ((idx out v9).bind fun b2Z=>((a5R b2Z).bind fun Y0=>some (l9.nxt (out.set v9.toNat Y0,m4 (v9+1))))) else some (l9.brk out))
theorem e8I(entry):LQ a6t c70 (e6p entry) (fun s=>b3i entry s.1 s.2):=fun lc (out,v9) h=>PK<|rg<|j5 0 h (fun h=>o9<|A8 h fun b2Z b3z h=>B3 b3z<|H6 t5 5 b3z<|j7 a83 b3G 6 h fun Y0 h=>B3 b3z<|O8 63 7 t5 8 I5 Y0 b3z<|rg<|(lc.nx h fun hI=>om ((.own 1 0 7 0 out.length:V)=.own 1 0 7 0 (out.set v9.toNat Y0).length) (by simp)<|sk [.is (.tmp 3) (.own 1 0 7 0 (out.set v9.toNat Y0).length)] [3,8,9] [(1,0)] hI)) (fun h=>(lc.bk h fun hI=>sk [] [3] [(1,0)] hI))
def b0A(list:List m5):Option (List m5):=
 ((b5y list).bind fun entry=>((s2 (fun s:(List m5)×Int=>b3i entry s.1 s.2) (entry,0)).bind fun x=>x.go (fun r=>some r) fun s=>d14 s))
theorem d0J{list}:OK a6t [l7 7 t5 list] (b0A list):=
 p8 _ fun r h=>o9<|j7 c73 d3P 1 h fun entry h=>rg<|lp (e8I entry) h (fun _ h=>a6t.rt h) (d7Q r) fun hI=>sk [] [3,8,9] [(3,0)] hI
def c1c:FS (List Bool):=⟨90,Tryz.f90,[.val [some 1] [some 4]],[none],[.val [some 1] []],fun r=>u0 4 1 eB r,fun _=>[none],Tryz.func90⟩
def b4N(list:List Bool):Option (List Bool):=
 (bif ((list.length:Int)==0) then some [] else (s6 (0<=(list.length:Int)/\(list.length:Int)*1<=140737488355328) ((s6 (list.length=(e9R (list.length:Int).toNat false).length) (some list)))))
theorem d3K{list}:OK c1c [l7 1 eB list] (b4N list):=
 p8 _ fun r h=>o9<|j5 2 h (fun h=>rg<|fE h) (fun h=>rg<|t0 h fun e1 h=>S7 2 7 4 1 1 eB false ti4 (.none) e1 (by decide) (by rfl)<|rg<|t0 h fun e2 h=>om (s4.row 4 1 (e9R (list.length:Int).toNat false).length (list.map eB)=m7 4 1 eB list) (a1I e2)<|s8 (e9R (list.length:Int).toNat false)<|ob e2<|tl (2,{e:=some (m7 4 1 eB list)})<|rg<|om ((e9R (list.length:Int).toNat false).length=list.length) (by simp)<|fE h)
def c0K:FS (List r9):=⟨43,Tryz.f43,[.val [some 4] [some 92]],[none],[.val [some 4] []],fun r=>u0 92 4 z8 r,fun _=>[none],Tryz.func43⟩
def b4D(list:List r9):Option (List r9):=
 (bif ((list.length:Int)==0) then some [] else (s6 (0<=(list.length:Int)/\(list.length:Int)*32<=140737488355328) ((s6 (list.length=(e9R (list.length:Int).toNat (r9.mk 0 0 0 0)).length) (some list)))))
theorem c31{list}:OK c0K [l7 4 z8 list] (b4D list):=
 p8 _ fun r h=>o9<|j5 2 h (fun h=>rg<|fE h) (fun h=>rg<|t0 h fun e1 h=>S7 2 7 92 4 32 z8 (r9.mk 0 0 0 0) c0u (.none) e1 (by decide) (by rfl)<|rg<|t0 h fun e2 h=>om (s4.row 92 4 (e9R (list.length:Int).toNat (r9.mk 0 0 0 0)).length (list.map z8)=m7 92 4 z8 list) (a1I e2)<|s8 (e9R (list.length:Int).toNat (r9.mk 0 0 0 0))<|ob e2<|tl (2,{e:=some (m7 92 4 z8 list)})<|rg<|om ((e9R (list.length:Int).toNat (r9.mk 0 0 0 0)).length=list.length) (by simp)<|fE h)
def b13:FS (j8):=⟨42,Tryz.f42,[.val A4 om3],[none],[.val A4 []],fun r=>.agg (d9C r),fun _=>[none],Tryz.func42⟩
def a6Y(n:j8):Option j8:=
 ((a3L n.Acc).bind fun P8=>((b0A n.a7).bind fun b9R=>((b4N n.c9).bind fun bool=>((a72 n.i4).bind fun a0r=>((a5R n.c8).bind fun Y0=>((b4N n.a0).bind fun a9Q=>((b4D n.i7).bind fun ins=>((a5R n.b8).bind fun c6J=>((b0A n.d6).bind fun c2N=>some (j8.mk n.Id P8 b9R n.Seq n.f0 n.a8 bool a0r Y0 a9Q n.j3 ins c6J c2N))))))))))
theorem b47{n}:OK b13 [.agg (A9 n)] (a6Y n):=
 p8 _ fun r h=>M7<|j7 a75 a8U 2 h fun P8 h=>rg<|j7 a6t d0J 2 h fun b9R h=>rg<|j7 c1c d3K 2 h fun bool h=>rg<|j7 a3j b6l 2 h fun a0r h=>rg<|j7 a83 b3G 2 h fun Y0 h=>rg<|j7 c1c d3K 2 h fun a9Q h=>rg<|j7 c0K c31 2 h fun ins h=>rg<|j7 a83 b3G 2 h fun c6J h=>rg<|j7 a6t d0J 2 h fun c2N h=>rg<|I7 P8.a0 b9R bool a0r<|L2 a9Q ins c2N<|fE h
def X0:FS (m8):=⟨15,Tryz.f15,[.val E8 om7],[none],[.val E8 []],fun r=>.agg (a7L r),fun _=>[none],Tryz.func15⟩
def c4K(msgsCopy:List j9)(asked:List C1)(told:List o8):(List j8)->KS:=fun Nodes1=>⟨X0.k 4 [false],(bs 2 (.ptr 1 0 0::(.ptr 2 0 0::(bs 52 [])))),[some [],some [.var 28 [.nil,.nil,.nil,.nil]],some [.var 28 [.own 3 0 27 0 Nodes1.length,.own 4 0 13 0 msgsCopy.length,.own 5 0 3 0 asked.length,.own 6 0 5 0 told.length]],some [m7 65 27 A9 Nodes1],some [m7 68 13 s7 msgsCopy],some [m7 70 3 C2 asked],some [m7 51 5 z3 told]]⟩
def d0R(msgsCopy:List j9)(told:List o8)(Nodes1:List j8):(List C1)->KS:=fun Asked1=>⟨X0.k 6 [false,false],(bs 2 (.ptr 1 0 0::(.ptr 2 0 0::(bs 52 [])))),[some [],some [.var 28 [.nil,.nil,.nil,.nil]],some [.var 28 [.own 3 0 27 0 Nodes1.length,.own 4 0 13 0 msgsCopy.length,.own 5 0 3 0 Asked1.length,.own 6 0 5 0 told.length]],some [m7 65 27 A9 Nodes1],some [m7 68 13 s7 msgsCopy],some [m7 70 3 C2 Asked1],some [m7 51 5 z3 told]]⟩
def c4r(msgsCopy:List j9)(told:List o8)(Nodes1:List j8)(Asked1:List C1):Option m8:=
 some (m8.mk Nodes1 msgsCopy Asked1 told)
theorem e6S(msgsCopy told Nodes1)(r):NF X0 r (d0R msgsCopy told Nodes1) (fun s=>c4r msgsCopy told Nodes1 s):=fun Asked1 h=>PK<|rg<|I7 Nodes1 msgsCopy Asked1 told<|fE h
def d9X(msgsCopy:List j9)(asked:List C1)(told:List o8)(Nodes1:List j8):((List C1)×Int)->KS:=fun (g7,v39)=>⟨X0.k 5 [false],(bs 2 (.ptr 1 0 0::(.ptr 2 0 0::(bs 34 (vi (asked.length:Int)::(vi v39::(bs 16 []))))))),[some [],some [.var 28 [.nil,.nil,.nil,.nil]],some [.var 28 [.own 3 0 27 0 Nodes1.length,.own 4 0 13 0 msgsCopy.length,.own 5 0 3 0 g7.length,.own 6 0 5 0 told.length]],some [m7 65 27 A9 Nodes1],some [m7 68 13 s7 msgsCopy],some [m7 70 3 C2 g7],some [m7 51 5 z3 told]]⟩
def b6P(asked:List C1)(g7:List C1)(v39:Int):Option (l9 m8 ((List C1)×Int) (List C1)):=
 (bif decide (v39<(asked.length:Int)) then ((idx g7 v39).bind fun a16=>((b4D a16.i7).bind fun ins=>some (l9.nxt (g7.set v39.toNat (C1.mk a16.a5 ins),m4 (v39+1))))) else some (l9.brk g7))
theorem e8o(msgsCopy asked told Nodes1):LQ X0 (d0R msgsCopy told Nodes1) (d9X msgsCopy asked told Nodes1) (fun s=>b6P asked s.1 s.2):=fun lc (g7,v39) h=>PK<|rg<|j5 0 h (fun h=>o9<|A8 h fun a16 a9H h=>B3 a9H<|H6 C2 8 a9H<|j7 c0K c31 9 h fun ins h=>B3 a9H<|O8 70 3 C2 12 [some 4] (C1.mk a16.a5 ins) a9H<|s8 ins<|rg<|(lc.nx h fun hI=>om ((.own 5 0 3 0 g7.length:V)=.own 5 0 3 0 (g7.set v39.toNat (C1.mk a16.a5 ins)).length) (by simp)<|sk [.is (.cell 2 0 2) (.own 5 0 3 0 (g7.set v39.toNat (C1.mk a16.a5 ins)).length)] [2,3,38,39] [(1,0),(2,0),(3,0),(4,0),(5,0),(6,0)] hI)) (fun h=>(lc.bk h fun hI=>sk [] [2,3] [(1,0),(2,0),(3,0),(4,0),(5,0),(6,0)] hI))
def c2s(msgsCopy:List j9)(asked:List C1)(told:List o8)(Nodes1:List j8):Option m8:=
 ((s2 (fun s:(List C1)×Int=>b6P asked s.1 s.2) (asked,0)).bind fun x=>x.go (fun r=>some r) fun s=>c4r msgsCopy told Nodes1 s)
theorem e5c(msgsCopy asked told)(r):NF X0 r (c4K msgsCopy asked told) (fun s=>c2s msgsCopy asked told s):=fun Nodes1 h=>PK<|rg<|lp (e8o msgsCopy asked told Nodes1) h (fun _ h=>X0.rt h) (e6S msgsCopy told Nodes1 r) fun hI=>sk [] [2,3,38,39] [(1,0),(2,0),(3,0),(4,0),(5,0),(6,0)] hI
def e5z(node:List j8)(msgsCopy:List j9)(asked:List C1)(told:List o8):((List j8)×Int)->KS:=fun (b7,v22)=>⟨X0.k 3 [],(bs 2 (.ptr 1 0 0::(.ptr 2 0 0::(bs 17 (vi (node.length:Int)::(vi v22::(bs 33 []))))))),[some [],some [.var 28 [.nil,.nil,.nil,.nil]],some [.var 28 [.own 3 0 27 0 b7.length,.own 4 0 13 0 msgsCopy.length,.own 5 0 3 0 asked.length,.own 6 0 5 0 told.length]],some [m7 65 27 A9 b7],some [m7 68 13 s7 msgsCopy],some [m7 70 3 C2 asked],some [m7 51 5 z3 told]]⟩
def b6u(node:List j8)(b7:List j8)(v22:Int):Option (l9 m8 ((List j8)×Int) (List j8)):=
 (bif decide (v22<(node.length:Int)) then ((idx b7 v22).bind fun a4W=>((a6Y a4W).bind fun V6=>some (l9.nxt (b7.set v22.toNat V6,m4 (v22+1))))) else some (l9.brk b7))
theorem d8y(node msgsCopy asked told):LQ X0 (c4K msgsCopy asked told) (e5z node msgsCopy asked told) (fun s=>b6u node s.1 s.2):=fun lc (b7,v22) h=>PK<|rg<|j5 0 h (fun h=>o9<|A8 h fun a4W a5N h=>B3 a5N<|H6 A9 7 a5N<|j7 b13 b47 8 h fun V6 h=>B3 a5N<|O8 65 27 A9 10 A4 V6 a5N<|H7 V6<|rg<|(lc.nx h fun hI=>om ((.own 3 0 27 0 b7.length:V)=.own 3 0 27 0 (b7.set v22.toNat V6).length) (by simp)<|sk [.is (.cell 2 0 0) (.own 3 0 27 0 (b7.set v22.toNat V6).length)] [2,3,21,22] [(1,0),(2,0),(3,0),(4,0),(5,0),(6,0)] hI)) (fun h=>(lc.bk h fun hI=>sk [] [2,3] [(1,0),(2,0),(3,0),(4,0),(5,0),(6,0)] hI))
def a18(w:m8):Option m8:=
 ((b9B w.b7).bind fun node=>((b0l w.d8).bind fun msgsCopy=>((c0o w.g7).bind fun asked=>((b7x w.Told).bind fun told=>((s2 (fun s:(List j8)×Int=>b6u node s.1 s.2) (node,0)).bind fun x=>x.go (fun r=>some r) fun s=>c2s msgsCopy asked told s)))))
theorem a8z{w}:OK X0 [.agg (Y7 w)] (a18 w):=
 p8 _ fun r h=>o9<|j7 d3e d3U 2 h fun node h=>j7 a5X d1J 5 h fun msgsCopy h=>j7 c5E d4d 8 h fun asked h=>j7 c3k d2k 11 h fun told h=>rg<|lp (d8y node msgsCopy asked told) h (fun _ h=>X0.rt h) (e5c msgsCopy asked told r) fun hI=>sk [] [2,3,21,22] [(2,0),(16,0),(5,0),(8,0),(11,0),(14,0)] hI
def b1K:FS (p6):=⟨132,Tryz.f132,[.ptr G9 om8],[none],[.val A4 []],fun r=>.optr 152 (b4c r),fun _=>[none],Tryz.func132⟩
def a8k(n:j8):Option p6:=
 ((a6Y n).bind fun V6=>some (p6.mk V6 [] []))
theorem b4z{n}:OK b1K [.agg (A9 n)] (a8k n):=
 p8 _ fun r h=>o9<|j7 b13 b47 1 h fun V6 h=>H7 V6<|fE h
def a3F:FS (j8×(List j9)×(List o8)×p6):=⟨133,Tryz.f133,[.val A4 [],.val [some 13] [],.val [some 5] []],[some (0,.ptr G9 [])],[.ptr G9 []],fun r=>.tup [.agg (A9 r.1),l7 13 s7 r.2.1,l7 5 z3 r.2.2.1],fun r=>[some (.optr 152 (c9O r.2.2.2))],Tryz.func133⟩
def a1q(a:p6):Option (j8×(List j9)×(List o8)×p6):=
 ((a6Y a.n).bind fun V6=>((b0l a.out).bind fun msgsCopy=>((b7x a.told).bind fun told=>some (V6,msgsCopy,told,a))))
theorem a4r{a}:OK a3F [.optr 152 (c9O a)] (a1q a):=
 p8 _ fun r h=>o9<|j7 b13 b47 4 h fun V6 h=>j7 a5X d1J 9 h fun msgsCopy h=>j7 c3k d2k 14 h fun told h=>H7 V6<|C8 msgsCopy told<|fE h
def c9h:FS (List q9):=⟨202,Tryz.f202,[.val [some 2] [some 179]],[],[],fun r=>u0 179 2 z5 r,fun _=>[],Tryz.func202⟩
def b9A:Option (List q9):=
 (s6 (0<=(4:Int)/\(4:Int)*16<=140737488355328) (some (e9R (4:Int).toNat (q9.mk 0 0))))
theorem d61:OK c9h [] b9A:=
 p8 _ fun r h=>o9<|t0 h fun e1 h=>S7 0 2 179 2 16 z5 (q9.mk 0 0) b2y (.none) e1 (by decide) (by rfl)<|s8 (e9R (4:Int).toNat (q9.mk 0 0))<|fE h
def c5X:FS (u9):=⟨198,Tryz.f198,[.val [none,some 2,some 4] [none,some 179,some 203]],[],[],fun r=>.agg (b0x r),fun _=>[],Tryz.func198⟩
def b4e:Option u9:=
 ((b9A).bind fun W8=>some (u9.mk 0 W8 []))
theorem e5K:OK c5X [] b4e:=
 p8 _ fun r h=>o9<|j7 c9h d61 0 h fun W8 h=>s8 W8<|fE h
def a28:FS (Bool):=⟨169,Tryz.f169,[.val [] []],[none],[.val [some 2] []],fun r=>.b r,fun _=>[none],Tryz.func169⟩
def d0Y(list:List q9):Unit->KS:=fun _=>⟨a28.k 3 [false],(l7 2 z5 list::(bs 24 [])),[some []]⟩
def c0i(list:List q9):Option Bool:=
 some ((list.length:Int)==4)
theorem e7F(list)(r):NF a28 r (d0Y list) (fun s=>c0i list):=fun _ h=>PK<|rg<|fE h
def d4z(list:List q9):Int->KS:=fun v7=>⟨a28.k 2 [],(l7 2 z5 list::(bs 4 (l7 2 z5 list::(vi (list.length:Int)::(vi v7::(bs 17 [])))))),[some []]⟩
def b7D(list:List q9)(v7:Int):Option (l9 Bool Int Unit):=
 (bif decide (v7<(list.length:Int)) then ((idx list v7).bind fun box=>((D2 box.j4 0 1000000).bind fun in_=>(bif (!in_) then some (l9.ret false) else ((D2 box.d9 (-1000000) 1000000).bind fun in_1=>(bif (!in_1) then some (l9.ret false) else some (l9.nxt (m4 (v7+1)))))))) else some (l9.brk ()))
theorem e1T(list):LQ a28 (d0Y list) (d4z list) (fun s=>b7D list s):=fun lc v7 h=>PK<|rg<|j5 0 h (fun h=>rg<|x8 z5 0 h fun box a2g h=>rg<|j7 D1 E2 2 h fun in_ h=>j5 4 h (fun h=>rg<|fL lc h) (fun h=>j7 D1 E2 7 h fun in_1 h=>j5 9 h (fun h=>rg<|fL lc h) (fun h=>rg<|(lc.nx h fun hI=>sk [] [0,5,6,7] [] hI)))) (fun h=>(lc.bk h fun hI=>sk [] [0] [] hI))
def a7g(list:List q9):Option Bool:=
 ((s2 (fun s:Int=>b7D list s) 0).bind fun x=>x.go (fun r=>some r) fun s=>c0i list)
theorem b6D{list}:OK a28 [l7 2 z5 list] (a7g list):=
 p8 _ fun r h=>o9<|lp (e1T list) h (fun _ h=>a28.rt h) (e7F list r) fun hI=>sk [] [0,5,6,7] [] hI
def a4L:FS (Bool):=⟨203,Tryz.f203,[.val [] []],[none],[.val [none,some 2,some 4] []],fun r=>.b r,fun _=>[none],Tryz.func203⟩
def c2r(s_:u9):Unit->KS:=fun _=>⟨a4L.k 3 [false],(bs 1 (.ptr 1 0 0::(bs 64 []))),[some [],some [.var 143 [vi s_.At,l7 2 z5 s_.i0,l7 4 C0 s_.i9]]]⟩
def b9j(s_:u9):Option Bool:=
 ((D2 s_.At 0 40).bind fun in_=>(bif in_ then ((a7g s_.i0).bind fun X7=>some X7) else some false))
theorem d3W(s_)(r):NF a4L r (c2r s_) (fun s=>b9j s_):=fun _ h=>PK<|rg<|j7 D1 E2 2 h fun in_ h=>j5 3 h (fun h=>j7 a28 b6D 6 h fun X7 h=>fE h) (fun h=>fE h)
def d0U(s_:u9):Int->KS:=fun v8=>⟨a4L.k 2 [],(bs 1 (.ptr 1 0 0::(bs 4 (l7 4 C0 s_.i9::(vi (s_.i9.length:Int)::(vi v8::(bs 57 []))))))),[some [],some [.var 143 [vi s_.At,l7 2 z5 s_.i0,l7 4 C0 s_.i9]]]⟩
def e7z(s_:u9)(v8:Int):Unit->KS:=fun _=>⟨a4L.k 5 [true,false],(bs 1 (.ptr 1 0 0::(bs 4 (l7 4 C0 s_.i9::(vi (s_.i9.length:Int)::(vi v8::(bs 57 []))))))),[some [],some [.var 143 [vi s_.At,l7 2 z5 s_.i0,l7 4 C0 s_.i9]]]⟩
def b9h(v8:Int):Option (l9 Bool Int Unit):=
 some (l9.nxt (m4 (v8+1)))
theorem e8z(s_ v8)(lc:J5 a4L (c2r s_) (d0U s_)):NL lc (e7z s_ v8) (fun s=>b9h v8):=fun _ h=>PK<|rg<|(lc.nx h fun hI=>sk [] [1,6,7,8] [(1,0)] hI)
def b3s(s_:u9)(v8:Int):Option (l9 Bool Int Unit):=
 (bif decide (v8<(s_.i9.length:Int)) then ((idx s_.i9 v8).bind fun done=>(((bif decide (v8>0) then ((idx s_.i9 (m4 (v8-1))).bind fun a3V=>(bif decide (a3V.a5.d7>=done.a5.d7) then some (l8.ret (l9.ret false)) else ((a5n done.a5).bind fun a6h=>(bif (!a6h) then some (l8.ret (l9.ret false)) else ((D2 done.Code 0 2).bind fun in_1=>(bif (!in_1) then some (l8.ret (l9.ret false)) else ((D2 done.d9 (-1000000) 1000000).bind fun in_2=>(bif (!in_2) then some (l8.ret (l9.ret false)) else (bif (done.Code != 0) then (bif (done.d9 != 0) then some (l8.ret (l9.ret false)) else some (l8.brk ())) else some (l8.brk ())))))))))) else ((a5n done.a5).bind fun b1T=>(bif (!b1T) then some (l8.ret (l9.ret false)) else ((D2 done.Code 0 2).bind fun Y9=>(bif (!Y9) then some (l8.ret (l9.ret false)) else ((D2 done.d9 (-1000000) 1000000).bind fun a4k=>(bif (!a4k) then some (l8.ret (l9.ret false)) else (bif (done.Code != 0) then (bif (done.d9 != 0) then some (l8.ret (l9.ret false)) else some (l8.brk ())) else some (l8.brk ()))))))))):Option (l8 (l9 Bool Int Unit) Unit)).bind fun x=>x.go some fun j=>b9h v8)) else some (l9.brk ()))
theorem d8W(s_):LQ a4L (c2r s_) (d0U s_) (fun s=>b3s s_ s):=fun lc v8 h=>PK<|rg<|j5 0 h (fun h=>rg<|x8 C0 1 h fun done b7Y h=>z9 h (e8z s_ v8 lc) fun x2 h hc2=>rg<|j5 2 h (fun h=>x8 C0 7 h fun a3V e29 h=>j5 16 h (fun h=>rg<|(B8 h hc2 fun h=>fL lc h)) (fun h=>j7 a8T b0X 19 h fun a6h h=>j5 22 h (fun h=>rg<|(B8 h hc2 fun h=>fL lc h)) (fun h=>j7 D1 E2 25 h fun in_1 h=>j5 28 h (fun h=>rg<|(B8 h hc2 fun h=>fL lc h)) (fun h=>j7 D1 E2 31 h fun in_2 h=>j5 34 h (fun h=>rg<|(B8 h hc2 fun h=>fL lc h)) (fun h=>j5 38 h (fun h=>j5 43 h (fun h=>rg<|(B8 h hc2 fun h=>fL lc h)) (fun h=>(o7 h hc2 fun hI=>sk [] [1,6,7,8] [(1,0)] hI))) (fun h=>(o7 h hc2 fun hI=>sk [] [1,6,7,8] [(1,0)] hI))))))) (fun h=>j7 a8T b0X 19 h fun b1T h=>j5 22 h (fun h=>rg<|(B8 h hc2 fun h=>fL lc h)) (fun h=>j7 D1 E2 25 h fun Y9 h=>j5 28 h (fun h=>rg<|(B8 h hc2 fun h=>fL lc h)) (fun h=>j7 D1 E2 31 h fun a4k h=>j5 34 h (fun h=>rg<|(B8 h hc2 fun h=>fL lc h)) (fun h=>j5 38 h (fun h=>j5 43 h (fun h=>rg<|(B8 h hc2 fun h=>fL lc h)) (fun h=>(o7 h hc2 fun hI=>sk [] [1,6,7,8] [(1,0)] hI))) (fun h=>(o7 h hc2 fun hI=>sk [] [1,6,7,8] [(1,0)] hI))))))) (fun h=>(lc.bk h fun hI=>sk [] [1] [(1,0)] hI))
def b4J(s_:u9):Option Bool:=
 ((s2 (fun s:Int=>b3s s_ s) 0).bind fun x=>x.go (fun r=>some r) fun s=>b9j s_)
theorem e59{s_}:OK a4L [.agg (a8b s_)] (b4J s_):=
 p8 _ fun r h=>o9<|lp (d8W s_) h (fun _ h=>a4L.rt h) (d3W s_ r) fun hI=>sk [] [1,6,7,8] [(1,0)] hI
def b9g:FS (List q9):=⟨204,Tryz.f204,[.val [some 2] [some 179]],[none],[.val [some 2] []],fun r=>u0 179 2 z5 r,fun _=>[none],Tryz.func204⟩
def a9Z(list:List q9):Option (List q9):=
 (bif ((list.length:Int)==0) then some [] else (s6 (0<=(list.length:Int)/\(list.length:Int)*16<=140737488355328) ((s6 (list.length=(e9R (list.length:Int).toNat (q9.mk 0 0)).length) (some list)))))
theorem c8k{list}:OK b9g [l7 2 z5 list] (a9Z list):=
 p8 _ fun r h=>o9<|j5 2 h (fun h=>rg<|fE h) (fun h=>rg<|t0 h fun e1 h=>S7 2 7 179 2 16 z5 (q9.mk 0 0) b2y (.none) e1 (by decide) (by rfl)<|rg<|t0 h fun e2 h=>om (s4.row 179 2 (e9R (list.length:Int).toNat (q9.mk 0 0)).length (list.map z5)=m7 179 2 z5 list) (a1I e2)<|s8 (e9R (list.length:Int).toNat (q9.mk 0 0))<|ob e2<|tl (2,{e:=some (m7 179 2 z5 list)})<|rg<|om ((e9R (list.length:Int).toNat (q9.mk 0 0)).length=list.length) (by simp)<|fE h)
def b0o:FS (List s5):=⟨205,Tryz.f205,[.val [some 4] [some 203]],[none],[.val [some 4] []],fun r=>u0 203 4 C0 r,fun _=>[none],Tryz.func205⟩
def a58(list:List s5):Option (List s5):=
 (bif ((list.length:Int)==0) then some [] else (s6 (0<=(list.length:Int)/\(list.length:Int)*32<=140737488355328) ((s6 (list.length=(e9R (list.length:Int).toNat (s5.mk (s3.mk 0 0) 0 0)).length) (some list)))))
theorem c1R{list}:OK b0o [l7 4 C0 list] (a58 list):=
 p8 _ fun r h=>o9<|j5 2 h (fun h=>rg<|fE h) (fun h=>rg<|t0 h fun e1 h=>S7 2 7 203 4 32 C0 (s5.mk (s3.mk 0 0) 0 0) c1C (.none) e1 (by decide) (by rfl)<|rg<|t0 h fun e2 h=>om (s4.row 203 4 (e9R (list.length:Int).toNat (s5.mk (s3.mk 0 0) 0 0)).length (list.map C0)=m7 203 4 C0 list) (a1I e2)<|s8 (e9R (list.length:Int).toNat (s5.mk (s3.mk 0 0) 0 0))<|ob e2<|tl (2,{e:=some (m7 203 4 C0 list)})<|rg<|om ((e9R (list.length:Int).toNat (s5.mk (s3.mk 0 0) 0 0)).length=list.length) (by simp)<|fE h)
def a7T:FS (Bool):=⟨206,Tryz.f206,[.val [] []],[none,none],[.val [some 2] [],.val N1 []],fun r=>.b r,fun _=>[none,none],Tryz.func206⟩
def c8P:Unit->KS:=fun _=>⟨a7T.k 4 [false,false],(bs 32 []),[some []]⟩
def c7t:Option Bool:=
 some true
theorem d6d(r):NF a7T r c8P (fun s=>c7t):=fun _ h=>PK<|rg<|fE h
def e2H(list:List q9)(r_:m9):Int->KS:=fun v18=>⟨a7T.k 3 [false],(l7 2 z5 list::(bs 15 (l7 2 t8 r_.a9::(vi (r_.a9.length:Int)::(vi v18::(bs 13 [])))))),[some []]⟩
def b5A(list:List q9)(r_:m9)(v18:Int):Option (l9 Bool Int Unit):=
 (bif decide (v18<(r_.a9.length:Int)) then ((idx r_.a9 v18).bind fun read=>((idx list read.i6).bind fun box=>(bif (box.j4 != read.j4) then some (l9.ret false) else some (l9.nxt (m4 (v18+1)))))) else some (l9.brk ()))
theorem d5W(list r_):LQ a7T c8P (e2H list r_) (fun s=>b5A list r_ s):=fun lc v18 h=>PK<|rg<|j5 0 h (fun h=>rg<|x8 t8 0 h fun read a3q h=>rg<|x8 z5 3 h fun box a2g h=>j5 8 h (fun h=>rg<|fL lc h) (fun h=>rg<|(lc.nx h fun hI=>sk [] [0,16,17,18] [] hI))) (fun h=>(lc.bk h fun hI=>sk [] [] [] hI))
def b4P(list:List q9)(r_:m9):Option Bool:=
 ((a7g list).bind fun X7=>(bif (!X7) then some false else ((a9z r_).bind fun a0E=>(bif (!a0E) then some false else ((s2 (fun s:Int=>b5A list r_ s) 0).bind fun x=>x.go (fun r=>some r) fun s=>c7t)))))
theorem e2r{list r_}:OK a7T [l7 2 z5 list,.agg (J8 r_)] (b4P list r_):=
 p8 _ fun r h=>o9<|j7 a28 b6D 1 h fun X7 h=>j5 3 h (fun h=>rg<|fE h) (fun h=>j7 a0d b9V 5 h fun a0E h=>j5 7 h (fun h=>rg<|fE h) (fun h=>rg<|lp (d5W list r_) h (fun _ h=>a7T.rt h) (d6d r) fun hI=>sk [] [0,16,17,18] [] hI))
def a8f:FS (List q9):=⟨207,Tryz.f207,[.val [some 2] [some 179]],[none,none],[.val [some 2] [],.val N1 []],fun r=>u0 179 2 z5 r,fun _=>[none,none],Tryz.func207⟩
def c55:(List q9)->KS:=fun out1=>⟨a8f.k 5 [false,false],(bs 5 (.own 1 0 2 0 out1.length::(bs 36 []))),[some [],some [m7 179 2 z5 out1]]⟩
def d15(out1:List q9):Option (List q9):=
 some out1
theorem d68(r):NF a8f r c55 (fun s=>d15 s):=fun out1 h=>PK<|rg<|s8 out1<|fE h
def e0i(r_:m9):((List q9)×Int)->KS:=fun (out,v21)=>⟨a8f.k 4 [false],(bs 5 (.own 1 0 2 0 out.length::(bs 13 (l7 2 t9 r_.b6::(vi (r_.b6.length:Int)::(vi v21::(bs 20 []))))))),[some [],some [m7 179 2 z5 out]]⟩
def b5G(r_:m9)(out:List q9)(v21:Int):Option (l9 (List q9) ((List q9)×Int) (List q9)):=
 (bif decide (v21<(r_.b6.length:Int)) then ((idx r_.b6 v21).bind fun put=>((idx out put.i6).bind fun Y1=>some (l9.nxt (out.set put.i6.toNat (q9.mk (if (m4 (Y1.j4+1))<1000000 then (m4 (Y1.j4+1)) else 1000000) put.d9),m4 (v21+1))))) else some (l9.brk out))
theorem e70(r_):LQ a8f c55 (e0i r_) (fun s=>b5G r_ s.1 s.2):=fun lc (out,v21) h=>PK<|rg<|j5 0 h (fun h=>rg<|x8 t9 0 h fun put hput h=>rg<|A8 h fun Y1 b0c h=>B3 b0c<|H6 z5 8 b0c<|B3 b0c<|O8 179 2 z5 15 [] (q9.mk (if (m4 (Y1.j4+1))<1000000 then (m4 (Y1.j4+1)) else 1000000) put.d9) b0c<|rg<|(lc.nx h fun hI=>om ((.own 1 0 2 0 out.length:V)=.own 1 0 2 0 (out.set put.i6.toNat (q9.mk (if (m4 (Y1.j4+1))<1000000 then (m4 (Y1.j4+1)) else 1000000) put.d9)).length) (by simp)<|sk [.is (.tmp 5) (.own 1 0 2 0 (out.set put.i6.toNat (q9.mk (if (m4 (Y1.j4+1))<1000000 then (m4 (Y1.j4+1)) else 1000000) put.d9)).length)] [5,19,20,21] [(1,0)] hI)) (fun h=>(lc.bk h fun hI=>sk [] [5] [(1,0)] hI))
def b4g(list:List q9)(r_:m9):Option (List q9):=
 ((a7g list).bind fun X7=>(bif (!X7) then some [] else ((a9z r_).bind fun a0E=>(bif (!a0E) then some [] else ((a9Z list).bind fun box=>((s2 (fun s:(List q9)×Int=>b5G r_ s.1 s.2) (box,0)).bind fun x=>x.go (fun r=>some r) fun s=>d15 s))))))
theorem d6I{list r_}:OK a8f [l7 2 z5 list,.agg (J8 r_)] (b4g list r_):=
 p8 _ fun r h=>o9<|j7 a28 b6D 1 h fun X7 h=>j5 3 h (fun h=>rg<|fE h) (fun h=>j7 a0d b9V 5 h fun a0E h=>j5 7 h (fun h=>rg<|fE h) (fun h=>rg<|j7 b9g c8k 1 h fun box h=>rg<|lp (e70 r_) h (fun _ h=>a8f.rt h) (d68 r) fun hI=>sk [] [5,19,20,21] [(12,0)] hI))
def P6:FS (u9×Int):=⟨199,Tryz.f199,[.val [none,some 2,some 4] [none,some 179,some 203],.val [] []],[none,none],[.val [none,some 2,some 4] [],.val I5 []],fun r=>.tup [.agg (b0x r.1),vi r.2],fun _=>[none,none],Tryz.func199⟩
def c3j(s_:u9)(e_:m5)(box:List q9):Unit->KS:=fun _=>⟨P6.k 6 [false,false,false],(bs 2 (.ptr 1 0 0::(.ptr 2 0 0::(.ptr 3 0 0::(bs 1 (.ptr 4 0 0::(bs 145 []))))))),[some [],some [.var 143 [vi s_.At,l7 2 z5 s_.i0,l7 4 C0 s_.i9]],some [.var 63 (a4s e_)],some [.var 143 [vi 0,.nil,.nil]],some [.var 143 [vi (m4 (s_.At+1)),.own 5 0 2 0 box.length,.nil]],some [m7 179 2 z5 box]]⟩
def e51(s_:u9):(s5×List q9)->KS:=fun (own,i0)=>⟨P6.k 9 [false,false,false,true],(bs 2 (.ptr 1 0 0::(bs 1 (.ptr 2 0 0::(bs 1 (.ptr 3 0 0::(bs 2 (.ptr 5 0 0::(bs 142 []))))))))),[some [],some [.var 143 [vi s_.At,l7 2 z5 s_.i0,l7 4 C0 s_.i9]],some [.var 143 [vi 0,.nil,.nil]],some [.var 143 [vi (m4 (s_.At+1)),.own 4 0 2 0 i0.length,.nil]],some [m7 179 2 z5 i0],some [.var 203 [vi own.a5.d7,vi own.a5.Seq,vi own.Code,vi own.d9]]]⟩
def b53(s_:u9)(own:s5)(i0:List q9):((List s5)×Bool)->KS:=fun (dones1,put1)=>⟨P6.k 13 [false,false,false,true,false],(bs 4 (.ptr 1 0 0::(bs 1 (.ptr 2 0 0::(bs 2 (.ptr 4 0 0::(.own 5 0 4 0 dones1.length::(.b put1::(bs 140 []))))))))),[some [],some [.var 143 [vi 0,.nil,.nil]],some [.var 143 [vi (m4 (s_.At+1)),.own 3 0 2 0 i0.length,.nil]],some [m7 179 2 z5 i0],some [.var 203 [vi own.a5.d7,vi own.a5.Seq,vi own.Code,vi own.d9]],some [m7 203 4 C0 dones1]]⟩
def e62(s_:u9)(own:s5)(i0:List q9):(List s5)->KS:=fun a8I=>⟨P6.k 15 [false,false,false,true,false,true],(bs 4 (.ptr 1 0 0::(bs 1 (.ptr 2 0 0::(bs 2 (.ptr 4 0 0::(.own 5 0 4 0 a8I.length::(bs 141 [])))))))),[some [],some [.var 143 [vi 0,.nil,.nil]],some [.var 143 [vi (m4 (s_.At+1)),.own 3 0 2 0 i0.length,.nil]],some [m7 179 2 z5 i0],some [.var 203 [vi own.a5.d7,vi own.a5.Seq,vi own.Code,vi own.d9]],some [m7 203 4 C0 a8I]]⟩
def c3e(s_:u9)(own:s5)(i0:List q9)(a8I:List s5):Option (u9×Int):=
 ((a58 a8I).bind fun a3V=>some ((u9.mk (m4 (s_.At+1)) i0 a3V),own.Code))
theorem e66(s_ own i0)(r):NF P6 r (e62 s_ own i0) (fun s=>c3e s_ own i0 s):=fun a8I h=>PK<|rg<|cbS b0o c1R 1 (fun _=>(by simp [b0o,K0,S4,N8,V.simple,vi,u0,C0,eI,T9])) (fun _=>(S6 1)) h fun a3V h=>s8 a8I<|rg<|C8 i0 a3V<|fE h
def c1E(s_:u9)(own:s5)(i0:List q9)(dones1:List s5)(put1:Bool):Option (u9×Int):=
 (((bif (!put1) then (s6 ((dones1.length+1)*32<=140737488355328) (some (l8.brk (dones1++[own])))) else some (l8.brk dones1)):Option (l8 (u9×Int) (List s5))).bind fun x=>x.go some fun j=>c3e s_ own i0 j)
theorem e0k(s_ own i0)(r):NF P6 r (b53 s_ own i0) (fun s=>c1E s_ own i0 s.1 s.2):=fun (dones1,put1) h=>PK<|z9 h (e66 s_ own i0 r) fun x1 h hc1=>rg<|j5 1 h (fun h=>rg<|tk 2 []<|t0 h fun e1 h=>E5 3 11 203 4 32 C0 dones1 own e1<|D8 own<|(o7 h hc1 fun hI=>sk [] [4,6,9,10] [(1,0),(2,0),(3,0),(4,0),(11,0)] hI)) (fun h=>(o7 h hc1 fun hI=>sk [] [4,6,9,10] [(1,0),(2,0),(3,0),(4,0),(5,0)] hI))
def b9p(s_:u9)(own:s5)(i0:List q9):((List s5)×Int×Bool)->KS:=fun (dones,v109,put)=>⟨P6.k 12 [false,false,false,true],(bs 4 (.ptr 1 0 0::(bs 1 (.ptr 2 0 0::(bs 2 (.ptr 4 0 0::(.own 5 0 4 0 dones.length::(.b put::(bs 95 (l7 4 C0 s_.i9::(vi (s_.i9.length:Int)::(vi v109::(bs 42 []))))))))))))),[some [],some [.var 143 [vi 0,.nil,.nil]],some [.var 143 [vi (m4 (s_.At+1)),.own 3 0 2 0 i0.length,.nil]],some [m7 179 2 z5 i0],some [.var 203 [vi own.a5.d7,vi own.a5.Seq,vi own.Code,vi own.d9]],some [m7 203 4 C0 dones]]⟩
def d8J(s_:u9)(own:s5)(i0:List q9)(v109:Int)(done2:s5):((List s5)×Bool)->KS:=fun (dones3,put2)=>⟨P6.k 17 [false,false,false,true,true,true],(bs 4 (.ptr 1 0 0::(bs 1 (.ptr 2 0 0::(bs 2 (.ptr 4 0 0::(.own 5 0 4 0 dones3.length::(.b put2::(bs 1 (.ptr 6 0 0::(bs 93 (l7 4 C0 s_.i9::(vi (s_.i9.length:Int)::(vi v109::(bs 42 []))))))))))))))),[some [],some [.var 143 [vi 0,.nil,.nil]],some [.var 143 [vi (m4 (s_.At+1)),.own 3 0 2 0 i0.length,.nil]],some [m7 179 2 z5 i0],some [.var 203 [vi own.a5.d7,vi own.a5.Seq,vi own.Code,vi own.d9]],some [m7 203 4 C0 dones3],some [.var 203 [vi done2.a5.d7,vi done2.a5.Seq,vi done2.Code,vi done2.d9]]]⟩
def e8e(s_:u9)(own:s5)(i0:List q9)(v109:Int)(put2:Bool):(List s5)->KS:=fun b2u=>⟨P6.k 19 [false,false,false,true,true,true,true],(bs 4 (.ptr 1 0 0::(bs 1 (.ptr 2 0 0::(bs 2 (.ptr 4 0 0::(.own 5 0 4 0 b2u.length::(.b put2::(bs 95 (l7 4 C0 s_.i9::(vi (s_.i9.length:Int)::(vi v109::(bs 42 []))))))))))))),[some [],some [.var 143 [vi 0,.nil,.nil]],some [.var 143 [vi (m4 (s_.At+1)),.own 3 0 2 0 i0.length,.nil]],some [m7 179 2 z5 i0],some [.var 203 [vi own.a5.d7,vi own.a5.Seq,vi own.Code,vi own.d9]],some [m7 203 4 C0 b2u]]⟩
def c1v(v109:Int)(put2:Bool)(b2u:List s5):Option (l9 (u9×Int) ((List s5)×Int×Bool) ((List s5)×Bool)):=
 some (l9.nxt (b2u,m4 (v109+1),put2))
theorem d7j(s_ own i0 v109 put2)(lc:J5 P6 (b53 s_ own i0) (b9p s_ own i0)):NL lc (e8e s_ own i0 v109 put2) (fun s=>c1v v109 put2 s):=fun b2u h=>PK<|rg<|(lc.nx h fun hI=>sk [] [4,6,9,10,11,107,108,109] [(1,0),(2,0),(3,0),(4,0),(5,0)] hI)
def c2R(own:s5)(v109:Int)(done2:s5)(dones3:List s5)(put2:Bool):Option (l9 (u9×Int) ((List s5)×Int×Bool) ((List s5)×Bool)):=
 (((bif (done2.a5.d7 != own.a5.d7) then (s6 ((dones3.length+1)*32<=140737488355328) (some (l8.brk (dones3++[done2])))) else some (l8.brk dones3)):Option (l8 (l9 (u9×Int) ((List s5)×Int×Bool) ((List s5)×Bool)) (List s5))).bind fun x=>x.go some fun j=>c1v v109 put2 j)
theorem e4f(s_ own i0 v109 done2)(lc:J5 P6 (b53 s_ own i0) (b9p s_ own i0)):NL lc (d8J s_ own i0 v109 done2) (fun s=>c2R own v109 done2 s.1 s.2):=fun (dones3,put2) h=>PK<|z9 h (d7j s_ own i0 v109 put2 lc) fun x2 h hc2=>rg<|j5 6 h (fun h=>rg<|tk 2 []<|t0 h fun e2 h=>E5 3 17 203 4 32 C0 dones3 done2 e2<|D8 done2<|(o7 h hc2 fun hI=>sk [] [4,6,9,10,11,107,108,109] [(1,0),(2,0),(3,0),(4,0),(17,0)] hI)) (fun h=>(o7 h hc2 fun hI=>sk [] [4,6,9,10,11,107,108,109] [(1,0),(2,0),(3,0),(4,0),(5,0)] hI))
def b2I(s_:u9)(own:s5)(dones:List s5)(v109:Int)(put:Bool):Option (l9 (u9×Int) ((List s5)×Int×Bool) ((List s5)×Bool)):=
 (bif decide (v109<(s_.i9.length:Int)) then ((idx s_.i9 v109).bind fun done2=>(((bif (!put) then (bif decide (done2.a5.d7>=own.a5.d7) then (s6 ((dones.length+1)*32<=140737488355328) (some (l8.brk (dones++[own],true)))) else some (l8.brk (dones,put))) else some (l8.brk (dones,put))):Option (l8 (l9 (u9×Int) ((List s5)×Int×Bool) ((List s5)×Bool)) ((List s5)×Bool))).bind fun x=>x.go some fun j=>c2R own v109 done2 j.1 j.2)) else some (l9.brk (dones,put)))
theorem d5g(s_ own i0):LQ P6 (b53 s_ own i0) (b9p s_ own i0) (fun s=>b2I s_ own s.1 s.2.1 s.2.2):=fun lc (dones,v109,put) h=>PK<|rg<|j5 0 h (fun h=>rg<|x8 C0 0 h fun done2 e9H h=>z9 h (e4f s_ own i0 v109 done2 lc) fun x2 h hc2=>rg<|j5 2 h (fun h=>j5 10 h (fun h=>rg<|tk 2 []<|t0 h fun e3 h=>E5 3 25 203 4 32 C0 dones own e3<|D8 own<|rg<|(o7 h hc2 fun hI=>sk [] [4,6,9,10,11,13,107,108,109] [(1,0),(2,0),(3,0),(4,0),(25,0),(9,0)] hI)) (fun h=>(o7 h hc2 fun hI=>sk [] [4,6,9,10,11,13,107,108,109] [(1,0),(2,0),(3,0),(4,0),(5,0),(9,0)] hI))) (fun h=>(o7 h hc2 fun hI=>sk [] [4,6,9,10,11,13,107,108,109] [(1,0),(2,0),(3,0),(4,0),(5,0),(9,0)] hI))) (fun h=>(lc.bk h fun hI=>sk [] [4,6,9,10,11] [(1,0),(2,0),(3,0),(4,0),(5,0)] hI))
def b6N(s_:u9)(own:s5)(i0:List q9):Option (u9×Int):=
 ((s2 (fun s:(List s5)×Int×Bool=>b2I s_ own s.1 s.2.1 s.2.2) ([],0,false)).bind fun x=>x.go (fun r=>some r) fun s=>c1E s_ own i0 s.1 s.2)
theorem e7W(s_)(r):NF P6 r (e51 s_) (fun s=>b6N s_ s.1 s.2):=fun (own,i0) h=>PK<|M7<|lp (d5g s_ own i0) h (fun _ h=>P6.rt h) (e0k s_ own i0 r) fun hI=>sk [.own (.tmp 10) 203 4] [4,6,9,10,11,107,108,109] [(2,0),(3,0),(4,0),(5,0),(12,0)] hI
def b51(s_:u9)(e_:m5)(box:List q9):Option (u9×Int):=
 ((((b4P s_.i0 e_.b9).bind fun a49=>(bif (!a49) then some (l8.brk ((s5.mk e_.a5 1 0),box)) else (bif (e_.b9.Code != 0) then some (l8.brk ((s5.mk e_.a5 2 0),box)) else ((b4g s_.i0 e_.b9).bind fun c6D=>some (l8.brk ((s5.mk e_.a5 0 e_.b9.d9),c6D)))))):Option (l8 (u9×Int) (s5×List q9))).bind fun x=>x.go some fun j=>b6N s_ j.1 j.2)
theorem e4D(s_ e_ box)(r):NF P6 r (c3j s_ e_ box) (fun s=>b51 s_ e_ box):=fun _ h=>PK<|rg<|z9 h (e7W s_ r) fun x1 h hc1=>rg<|j7 a7T e2r 4 h fun a49 h=>j5 6 h (fun h=>rg<|(o7 h hc1 fun hI=>sk [] [2,4,6,9] [(1,0),(3,0),(4,0),(5,0),(9,0)] hI)) (fun h=>rg<|j5 4 h (fun h=>rg<|(o7 h hc1 fun hI=>sk [] [2,4,6,9] [(1,0),(3,0),(4,0),(5,0),(9,0)] hI)) (fun h=>o9<|j7 a8f d6I 4 h fun c6D h=>(o7 h hc1 fun hI=>sk [] [2,4,6,9] [(1,0),(3,0),(4,0),(32,0),(9,0)] hI)))
def c41(s_:u9)(e_:m5)(box:List q9):Int->KS:=fun v45=>⟨P6.k 5 [false,false],(bs 2 (.ptr 1 0 0::(.ptr 2 0 0::(.ptr 3 0 0::(bs 1 (.ptr 4 0 0::(bs 36 (l7 4 C0 s_.i9::(vi (s_.i9.length:Int)::(vi v45::(bs 106 []))))))))))),[some [],some [.var 143 [vi s_.At,l7 2 z5 s_.i0,l7 4 C0 s_.i9]],some [.var 63 (a4s e_)],some [.var 143 [vi 0,.nil,.nil]],some [.var 143 [vi (m4 (s_.At+1)),.own 5 0 2 0 box.length,.nil]],some [m7 179 2 z5 box]]⟩
def d4D(s_:u9)(e_:m5)(box:List q9)(v45:Int):Unit->KS:=fun _=>⟨P6.k 8 [false,false,true,false],(bs 2 (.ptr 1 0 0::(.ptr 2 0 0::(.ptr 3 0 0::(bs 1 (.ptr 4 0 0::(bs 36 (l7 4 C0 s_.i9::(vi (s_.i9.length:Int)::(vi v45::(bs 106 []))))))))))),[some [],some [.var 143 [vi s_.At,l7 2 z5 s_.i0,l7 4 C0 s_.i9]],some [.var 63 (a4s e_)],some [.var 143 [vi 0,.nil,.nil]],some [.var 143 [vi (m4 (s_.At+1)),.own 5 0 2 0 box.length,.nil]],some [m7 179 2 z5 box]]⟩
def c3H(v45:Int):Option (l9 (u9×Int) Int Unit):=
 some (l9.nxt (m4 (v45+1)))
theorem e4S(s_ e_ box v45)(lc:J5 P6 (c3j s_ e_ box) (c41 s_ e_ box)):NL lc (d4D s_ e_ box v45) (fun s=>c3H v45):=fun _ h=>PK<|rg<|(lc.nx h fun hI=>sk [] [2,3,4,6,43,44,45] [(1,0),(2,0),(3,0),(4,0),(5,0)] hI)
def b73(s_:u9)(e_:m5)(box:List q9)(v45:Int):Option (l9 (u9×Int) Int Unit):=
 (bif decide (v45<(s_.i9.length:Int)) then ((idx s_.i9 v45).bind fun b5e=>(((bif (b5e.a5.d7==e_.a5.d7) then (bif decide (b5e.a5.Seq>=e_.a5.Seq) then ((a58 s_.i9).bind fun b3x=>(bif (b5e.a5.Seq==e_.a5.Seq) then some (l8.ret (l9.ret ((u9.mk (m4 (s_.At+1)) box b3x),3))) else some (l8.ret (l9.ret ((u9.mk (m4 (s_.At+1)) box b3x),4))))) else some (l8.brk ())) else some (l8.brk ())):Option (l8 (l9 (u9×Int) Int Unit) Unit)).bind fun x=>x.go some fun j=>c3H v45)) else some (l9.brk ()))
theorem e8O(s_ e_ box):LQ P6 (c3j s_ e_ box) (c41 s_ e_ box) (fun s=>b73 s_ e_ box s):=fun lc v45 h=>PK<|rg<|j5 0 h (fun h=>rg<|x8 C0 0 h fun b5e e9M h=>z9 h (e4S s_ e_ box v45 lc) fun x2 h hc2=>rg<|j5 7 h (fun h=>j5 15 h (fun h=>rg<|j7 b0o c1R 2 h fun b3x h=>rg<|j5 6 h (fun h=>rg<|(B8 h hc2 fun h=>C8 box b3x<|fL lc h)) (fun h=>rg<|(B8 h hc2 fun h=>C8 box b3x<|fL lc h))) (fun h=>(o7 h hc2 fun hI=>sk [] [2,3,4,6,43,44,45] [(1,0),(2,0),(3,0),(4,0),(5,0)] hI))) (fun h=>(o7 h hc2 fun hI=>sk [] [2,3,4,6,43,44,45] [(1,0),(2,0),(3,0),(4,0),(5,0)] hI))) (fun h=>(lc.bk h fun hI=>sk [] [2,3,4,6] [(1,0),(2,0),(3,0),(4,0),(5,0)] hI))
def b4E(s_:u9)(e_:m5):Option (u9×Int):=
 ((b4J s_).bind fun c33=>(bif (!c33) then some ((u9.mk 0 [] []),(-1)) else ((a1m e_).bind fun D9=>(bif (!D9) then some ((u9.mk 0 [] []),(-1)) else (bif (s_.At==40) then some ((u9.mk 0 [] []),(-1)) else ((a9Z s_.i0).bind fun box=>(bif e_.i8 then ((a58 s_.i9).bind fun done=>some ((u9.mk (m4 (s_.At+1)) box done),5)) else ((s2 (fun s:Int=>b73 s_ e_ box s) 0).bind fun x=>x.go (fun r=>some r) fun s=>b51 s_ e_ box))))))))
theorem e4I{s_ e_}:OK P6 [.agg (a8b s_),.agg (t5 e_)] (b4E s_ e_):=
 p8 _ fun r h=>o9<|j7 a4L e59 1 h fun c33 h=>j5 3 h (fun h=>rg<|fE h) (fun h=>j7 a2G a27 5 h fun D9 h=>j5 8 h (fun h=>rg<|fE h) (fun h=>j5 12 h (fun h=>rg<|fE h) (fun h=>rg<|j7 b9g c8k 5 h fun box h=>rg<|j5 1 h (fun h=>rg<|j7 b0o c1R 2 h fun done h=>rg<|C8 box done<|fE h) (fun h=>rg<|lp (e8O s_ e_ box) h (fun _ h=>P6.rt h) (e4D s_ e_ box r) fun hI=>sk [] [2,3,4,6,43,44,45] [(1,0),(2,0),(3,0),(25,0),(23,0)] hI))))
def a4y:FS (u9×List Int):=⟨190,Tryz.f190,[.val [none,some 2,some 4] [none,some 179,some 203],.val [some 1] [some 3]],[none],[.val [some 7] []],fun r=>.tup [.agg (b0x r.1),u0 3 1 eI r.2],fun _=>[none],Tryz.func190⟩
def d1l:((List q9)×(List s5)×(List Int)×Int)->KS:=fun (Boxes1,Dones1,codes1,sAt1)=>⟨a4y.k 5 [false],(bs 2 (.ptr 1 0 0::(bs 1 (.ptr 2 0 0::(.own 5 0 1 0 codes1.length::(bs 25 [])))))),[some [],some [.var 143 [vi 0,.nil,.nil]],some [.var 143 [vi sAt1,.own 3 0 2 0 Boxes1.length,.own 4 0 4 0 Dones1.length]],some [m7 179 2 z5 Boxes1],some [m7 203 4 C0 Dones1],some [m7 3 1 eI codes1]]⟩
def d0L(Boxes1:List q9)(Dones1:List s5)(codes1:List Int)(sAt1:Int):Option (u9×List Int):=
 some ((u9.mk sAt1 Boxes1 Dones1),codes1)
theorem d6V(r):NF a4y r d1l (fun s=>d0L s.1 s.2.1 s.2.2.1 s.2.2.2):=fun (Boxes1,Dones1,codes1,sAt1) h=>PK<|rg<|L2 Boxes1 Dones1 codes1<|fE h
def d8f(list:List m5):((List q9)×(List s5)×(List Int)×Int×Int)->KS:=fun (i0,i9,codes,v13,sAt)=>⟨a4y.k 4 [],(bs 2 (.ptr 1 0 0::(bs 1 (.ptr 2 0 0::(.own 5 0 1 0 codes.length::(bs 5 (l7 7 t5 list::(vi (list.length:Int)::(vi v13::(bs 17 [])))))))))),[some [],some [.var 143 [vi 0,.nil,.nil]],some [.var 143 [vi sAt,.own 3 0 2 0 i0.length,.own 4 0 4 0 i9.length]],some [m7 179 2 z5 i0],some [m7 203 4 C0 i9],some [m7 3 1 eI codes]]⟩
def a0U(list:List m5)(i0:List q9)(i9:List s5)(codes:List Int)(v13:Int)(sAt:Int):Option (l9 (u9×List Int) ((List q9)×(List s5)×(List Int)×Int×Int) ((List q9)×(List s5)×(List Int)×Int)):=
 (bif decide (v13<(list.length:Int)) then ((idx list v13).bind fun entry=>((b4E (u9.mk sAt i0 i9) entry).bind fun a8e=>(s6 ((codes.length+1)*8<=140737488355328) (some (l9.nxt (a8e.1.i0,a8e.1.i9,codes++[a8e.2],m4 (v13+1),a8e.1.At)))))) else some (l9.brk (i0,i9,codes,sAt)))
theorem e6u(list):LQ a4y d1l (d8f list) (fun s=>a0U list s.1 s.2.1 s.2.2.1 s.2.2.2.1 s.2.2.2.2):=fun lc (i0,i9,codes,v13,sAt) h=>PK<|rg<|j5 0 h (fun h=>rg<|x8 t5 0 h fun entry H1 h=>rg<|cbS P6 e4I 2 (fun _=>(by simp [P6,K0,S4,N8,V.simple,vi,u0,b0x,z5,C0,eI,T9,a8b])) (fun _=>(S6 2)) h fun a8e h=>C8 i0 i9<|o9<|tk 2 []<|t0 h fun e1 h=>E5 3 25 3 1 8 eI codes a8e.2 e1<|D8 a8e.2<|rg<|(lc.nx h fun hI=>sk [] [2,4,5,11,12,13] [(1,0),(2,0),(13,0),(13,1),(25,0)] hI)) (fun h=>(lc.bk h fun hI=>sk [] [2,4,5] [(1,0),(2,0),(3,0),(4,0),(5,0)] hI))
def b3q(list:List m5):Option (u9×List Int):=
 ((b4e).bind fun a0O=>((s2 (fun s:(List q9)×(List s5)×(List Int)×Int×Int=>a0U list s.1 s.2.1 s.2.2.1 s.2.2.2.1 s.2.2.2.2) (a0O.i0,a0O.i9,[],0,a0O.At)).bind fun x=>x.go (fun r=>some r) fun s=>d0L s.1 s.2.1 s.2.2.1 s.2.2.2))
theorem c4Q{list}:OK a4y [l7 7 t5 list] (b3q list):=
 p8 _ fun r h=>o9<|j7 c5X e5K 0 h fun a0O h=>o9<|lp (e6u list) h (fun _ h=>a4y.rt h) (d6V r) fun hI=>sk [.own (.tmp 5) 3 1] [2,4,5,11,12,13] [(1,0),(4,0),(3,0),(3,1),(10,0)] hI
def c8U:FS (u9):=⟨172,Tryz.f172,[.val [none,some 2,some 4] [none,some 179,none]],[none],[.val [some 7] []],fun r=>.agg (b2L r),fun _=>[none],Tryz.func172⟩
def b56(list:List m5):Option u9:=
 ((b1c list).bind fun M9=>(bif (!M9) then some (u9.mk 0 [] []) else ((b3q list).bind fun A2=>some A2.1)))
theorem d4E{list}:OK c8U [l7 7 t5 list] (b56 list):=
 p8 _ fun r h=>o9<|j7 a5f c9S 1 h fun M9 h=>j5 2 h (fun h=>rg<|fE h) (fun h=>rg<|j7 a4y c4Q 1 h fun A2 h=>rg<|C8 A2.1.i0 A2.1.i9<|fE h)
def d2t:FS (u9):=⟨135,Tryz.f135,[.val [none,some 2,some 4] []],[none],[.val A4 []],fun r=>.agg (a8b r),fun _=>[none],Tryz.func135⟩
def b5p(n:j8):Option u9:=
 ((a3a n).bind fun D5=>(bif (!D5) then some (u9.mk 0 [] []) else ((b56 n.a7).bind fun a7W=>some a7W)))
theorem d5v{n}:OK d2t [.agg (A9 n)] (b5p n):=
 p8 _ fun r h=>o9<|j7 a0z a6G 1 h fun D5 h=>j5 2 h (fun h=>rg<|fE h) (fun h=>rg<|j7 c8U d4E 2 h fun a7W h=>s8 a7W.i0<|fE h)
def a57:FS (Int):=⟨170,Tryz.f170,[.val [] []],[none,none],[.val N1 [],.val [] []],fun r=>vi r,fun _=>[none,none],Tryz.func170⟩
def c4d:Unit->KS:=fun _=>⟨a57.k 3 [false],(bs 21 []),[some []]⟩
def d11:Option Int:=
 some (-1)
theorem e58(r):NF a57 r c4d (fun s=>d11):=fun _ h=>PK<|rg<|fE h
def d4i(r_:m9)(box:Int):Int->KS:=fun v10=>⟨a57.k 2 [],(bs 1 (vi box::(bs 6 (l7 2 t9 r_.b6::(vi (r_.b6.length:Int)::(vi v10::(bs 10 []))))))),[some []]⟩
def b2a(r_:m9)(box:Int)(v10:Int):Option (l9 Int Int Unit):=
 (bif decide (v10<(r_.b6.length:Int)) then ((idx r_.b6 v10).bind fun put=>(bif (put.i6==box) then some (l9.ret v10) else some (l9.nxt (m4 (v10+1))))) else some (l9.brk ()))
theorem e5k(r_ box):LQ a57 c4d (d4i r_ box) (fun s=>b2a r_ box s):=fun lc v10 h=>PK<|rg<|j5 0 h (fun h=>rg<|x8 t9 1 h fun put hput h=>rg<|j5 3 h (fun h=>rg<|fL lc h) (fun h=>rg<|(lc.nx h fun hI=>sk [] [1,8,9,10] [] hI))) (fun h=>(lc.bk h fun hI=>sk [] [] [] hI))
def b1D(r_:m9)(box:Int):Option Int:=
 ((s2 (fun s:Int=>b2a r_ box s) 0).bind fun x=>x.go (fun r=>some r) fun s=>d11)
theorem c9o{r_ box}:OK a57 [.agg (J8 r_),vi box] (b1D r_ box):=
 p8 _ fun r h=>o9<|lp (e5k r_ box) h (fun _ h=>a57.rt h) (e58 r) fun hI=>sk [] [1,8,9,10] [] hI
def a8q:FS (Int):=⟨171,Tryz.f171,[.val [] []],[none,none],[.val N1 [],.val [] []],fun r=>vi r,fun _=>[none,none],Tryz.func171⟩
def c8W:Unit->KS:=fun _=>⟨a8q.k 3 [false],(bs 21 []),[some []]⟩
def c7q:Option Int:=
 some (-1)
theorem d99(r):NF a8q r c8W (fun s=>c7q):=fun _ h=>PK<|rg<|fE h
def e4h(r_:m9)(box:Int):Int->KS:=fun v10=>⟨a8q.k 2 [],(bs 1 (vi box::(bs 6 (l7 2 t8 r_.a9::(vi (r_.a9.length:Int)::(vi v10::(bs 10 []))))))),[some []]⟩
def b3L(r_:m9)(box:Int)(v10:Int):Option (l9 Int Int Unit):=
 (bif decide (v10<(r_.a9.length:Int)) then ((idx r_.a9 v10).bind fun read=>(bif (read.i6==box) then some (l9.ret v10) else some (l9.nxt (m4 (v10+1))))) else some (l9.brk ()))
theorem e4p(r_ box):LQ a8q c8W (e4h r_ box) (fun s=>b3L r_ box s):=fun lc v10 h=>PK<|rg<|j5 0 h (fun h=>rg<|x8 t8 1 h fun read a3q h=>rg<|j5 3 h (fun h=>rg<|fL lc h) (fun h=>rg<|(lc.nx h fun hI=>sk [] [1,8,9,10] [] hI))) (fun h=>(lc.bk h fun hI=>sk [] [] [] hI))
def b2D(r_:m9)(box:Int):Option Int:=
 ((s2 (fun s:Int=>b3L r_ box s) 0).bind fun x=>x.go (fun r=>some r) fun s=>c7q)
theorem d8U{r_ box}:OK a8q [.agg (J8 r_),vi box] (b2D r_ box):=
 p8 _ fun r h=>o9<|lp (e4p r_ box) h (fun _ h=>a8q.rt h) (d99 r) fun hI=>sk [] [1,8,9,10] [] hI
def Q2:FS (m9):=⟨134,Tryz.f134,[.val N1 []],[none,none],[.val [some 2] [],.val [some 4] []],fun r=>.agg (J8 r),fun _=>[none,none],Tryz.func134⟩
def a7J:((List s1)×(List p9)×(List Int)×(List s1)×List p9)->KS:=fun (Reads2,Puts2,regs1,Reads3,Puts3)=>⟨Q2.k 6 [false,false],(bs 4 (.ptr 1 0 0::(.ptr 4 0 0::(.ptr 5 0 0::(bs 175 []))))),[some [],some [.var 61 [.own 2 0 2 0 Reads2.length,.own 3 0 2 0 Puts2.length,vi 0,vi 0]],some [m7 159 2 t8 Reads2],some [m7 162 2 t9 Puts2],some [.arr 176 1 4 (regs1.map eI)],some [.var 61 [.own 6 0 2 0 Reads3.length,.own 7 0 2 0 Puts3.length,vi 0,vi 0]],some [m7 159 2 t8 Reads3],some [m7 162 2 t9 Puts3]]⟩
def b0w(Reads2:List s1)(Puts2:List p9)(regs1:List Int)(Reads3:List s1)(Puts3:List p9):Option m9:=
 ((a14 Reads3).bind fun read=>((a7A Puts3).bind fun put=>((idx regs1 0).bind fun y=>(s6 ((0:Int)<4) (some (m9.mk read put y 0))))))
theorem e7X(r):NF Q2 r a7J (fun s=>b0w s.1 s.2.1 s.2.2.1 s.2.2.2.1 s.2.2.2.2):=fun (Reads2,Puts2,regs1,Reads3,Puts3) h=>PK<|rg<|cbS a1H a9O 2 (fun _=>(by simp [a1H,K0,S4,N8,V.simple,vi,u0,eI,t8])) (fun _=>(S6 1)) h fun read h=>s8 Reads3<|cbS b8p d1O 5 (fun _=>(by simp [b8p,K0,S4,N8,V.simple,vi,u0,eI,t9])) (fun _=>(S6 1)) h fun put h=>s8 Puts3<|A8 h fun y hy h=>t0 h fun e1 h=>ob (M6 hy)<|ob e1<|ob (T5 (enc:=eI) hy)<|tl (tr 7 (eI y))<|C8 read put<|fE h
def a97(list:List q9)(prog:List r9):((List Int)×(List s1)×(List p9)×(List s1)×(List p9)×Int)->KS:=fun (regs,a9,b6,Reads1,Puts1,at_)=>⟨Q2.k 5 [false],(l7 2 z5 list::(l7 4 z8 prog::(bs 2 (.ptr 1 0 0::(.ptr 2 0 0::(.ptr 3 0 0::(vi at_::(bs 174 [])))))))),[some [],some [.var 61 [.own 4 0 2 0 a9.length,.own 5 0 2 0 b6.length,vi 0,vi 0]],some [.arr 176 1 4 (regs.map eI)],some [.var 61 [.own 6 0 2 0 Reads1.length,.own 7 0 2 0 Puts1.length,vi 0,vi 0]],some [m7 159 2 t8 a9],some [m7 162 2 t9 b6],some [m7 159 2 t8 Reads1],some [m7 162 2 t9 Puts1]]⟩
def c8m(list:List q9)(prog:List r9)(regs:List Int)(a9:List s1)(b6:List p9)(Reads1:List s1)(Puts1:List p9)(at_:Int)(ins:r9)(put1:p9):Unit->KS:=fun _=>⟨Q2.k 14 [false,true,true,true,false],(l7 2 z5 list::(l7 4 z8 prog::(bs 2 (.ptr 1 0 0::(.ptr 4 0 0::(.ptr 5 0 0::(vi at_::(bs 174 [])))))))),[some [],some [.var 61 [.own 2 0 2 0 a9.length,.own 3 0 2 0 b6.length,vi 0,vi 0]],some [m7 159 2 t8 a9],some [m7 162 2 t9 b6],some [.arr 176 1 4 ((regs.set ins.A.toNat put1.d9).map eI)],some [.var 61 [.own 6 0 2 0 Reads1.length,.own 7 0 2 0 Puts1.length,vi 0,vi 0]],some [m7 159 2 t8 Reads1],some [m7 162 2 t9 Puts1]]⟩
def c1J(regs:List Int)(a9:List s1)(b6:List p9)(Reads1:List s1)(Puts1:List p9)(at_:Int)(ins:r9)(put1:p9):Option (l9 m9 ((List Int)×(List s1)×(List p9)×(List s1)×(List p9)×Int) ((List s1)×(List p9)×(List Int)×(List s1)×List p9)):=
 some (l9.nxt (regs.set ins.A.toNat put1.d9,a9,b6,Reads1,Puts1,m4 (at_+1)))
theorem e1u(list prog regs a9 b6 Reads1 Puts1 at_ ins put1)(lc:J5 Q2 a7J (a97 list prog)):NL lc (c8m list prog regs a9 b6 Reads1 Puts1 at_ ins put1) (fun s=>c1J regs a9 b6 Reads1 Puts1 at_ ins put1):=fun _ h=>PK<|rg<|(lc.nx h fun hI=>sk [] [0,1,4,5,6,7] [(1,0),(4,0),(5,0),(2,0),(3,0),(6,0),(7,0)] hI)
def e8r(list:List q9)(prog:List r9)(regs:List Int)(a9:List s1)(b6:List p9)(Reads1:List s1)(Puts1:List p9)(at_:Int)(ins:r9)(put1:p9):Int->KS:=fun a5c=>⟨Q2.k 13 [false,true,true,true],(l7 2 z5 list::(l7 4 z8 prog::(bs 2 (.ptr 1 0 0::(.ptr 4 0 0::(.ptr 5 0 0::(vi at_::(bs 153 (.agg ((regs.set ins.A.toNat put1.d9).map eI).flatten::(vi a5c::(bs 19 []))))))))))),[some [],some [.var 61 [.own 2 0 2 0 a9.length,.own 3 0 2 0 b6.length,vi 0,vi 0]],some [m7 159 2 t8 a9],some [m7 162 2 t9 b6],some [.arr 176 1 4 ((regs.set ins.A.toNat put1.d9).map eI)],some [.var 61 [.own 6 0 2 0 Reads1.length,.own 7 0 2 0 Puts1.length,vi 0,vi 0]],some [m7 159 2 t8 Reads1],some [m7 162 2 t9 Puts1]]⟩
def b3E(regs:List Int)(Reads1:List s1)(ins:r9)(put1:p9)(a5c:Int):Option (l9 m9 Int Unit):=
 (bif decide (a5c<4) then ((idx (regs.set ins.A.toNat put1.d9) a5c).bind fun y2=>(s6 (a5c<4) (((D2 y2 (-1000000) 1000000).bind fun in_=>(bif (!in_) then ((a14 Reads1).bind fun Q5=>some (l9.ret (m9.mk Q5 [] 0 2))) else some (l9.nxt (m4 (a5c+1)))))))) else some (l9.brk ()))
theorem e3X(list prog regs a9 b6 Reads1 Puts1 at_ ins put1):LQ Q2 (c8m list prog regs a9 b6 Reads1 Puts1 at_ ins put1) (e8r list prog regs a9 b6 Reads1 Puts1 at_ ins put1) (fun s=>b3E regs Reads1 ins put1 s):=fun lc a5c h=>PK<|rg<|j5 0 h (fun h=>rg<|A8 h fun y2 hy2 h=>t0 h fun e3 h=>ob (M6 hy2)<|ob e3<|om (((regs.set ins.A.toNat put1.d9).map eI).flatten[a5c.toNat]?=some (vi y2)) (c1l (fun _=>rfl) hy2)<|tl (0,{a:=.val (vi y2)})<|rg<|j7 D1 E2 1 h fun in_ h=>j5 2 h (fun h=>rg<|cbS a1H a9O 2 (fun _=>(by simp [a1H,K0,S4,N8,V.simple,vi,u0,eI,t8])) (fun _=>(S6 1)) h fun Q5 h=>C8 Reads1 Q5<|fL lc h) (fun h=>rg<|(lc.nx h fun hI=>om (V.agg (((regs.set ins.A.toNat put1.d9).map eI).flatten.map (U6 [(1,0),(2,0),(3,0),(4,0),(5,0),(6,0),(7,0)]))=.agg ((regs.set ins.A.toNat put1.d9).map eI).flatten) (congrArg V.agg (a7v (fun _=>rfl) _))<|skT [] [0,1,4,5,6,7,161,162] [(1,0),(2,0),(3,0),(4,0),(5,0),(6,0),(7,0)] [(161,.agg ((regs.set ins.A.toNat put1.d9).map eI).flatten)] hI))) (fun h=>(lc.bk h fun hI=>sk [] [0,1,4,5,6,7] [(1,0),(2,0),(3,0),(4,0),(5,0),(6,0),(7,0)] hI))
def d4p(list:List q9)(prog:List r9)(regs:List Int)(a9:List s1)(b6:List p9)(Puts1:List p9)(at_:Int)(ins:r9):(List s1)->KS:=fun Reads4=>⟨Q2.k 13 [false,true,true,false,true],(l7 2 z5 list::(l7 4 z8 prog::(bs 2 (.ptr 1 0 0::(.ptr 4 0 0::(.ptr 5 0 0::(vi at_::(.ptr 8 0 0::(bs 173 []))))))))),[some [],some [.var 61 [.own 2 0 2 0 a9.length,.own 3 0 2 0 b6.length,vi 0,vi 0]],some [m7 159 2 t8 a9],some [m7 162 2 t9 b6],some [.arr 176 1 4 (regs.map eI)],some [.var 61 [.own 6 0 2 0 Reads4.length,.own 7 0 2 0 Puts1.length,vi 0,vi 0]],some [m7 159 2 t8 Reads4],some [m7 162 2 t9 Puts1],some [.var 92 [vi ins.a6,vi ins.A,vi ins.B,vi ins.N]]]⟩
def c5f(list:List q9)(prog:List r9)(regs:List Int)(a9:List s1)(b6:List p9)(Puts1:List p9)(at_:Int)(ins:r9)(Reads4:List s1)(box:q9):Unit->KS:=fun _=>⟨Q2.k 16 [false,true,true,false,true,false],(l7 2 z5 list::(l7 4 z8 prog::(bs 2 (.ptr 1 0 0::(.ptr 4 0 0::(.ptr 5 0 0::(vi at_::(bs 174 [])))))))),[some [],some [.var 61 [.own 2 0 2 0 a9.length,.own 3 0 2 0 b6.length,vi 0,vi 0]],some [m7 159 2 t8 a9],some [m7 162 2 t9 b6],some [.arr 176 1 4 ((regs.set ins.A.toNat box.d9).map eI)],some [.var 61 [.own 6 0 2 0 Reads4.length,.own 7 0 2 0 Puts1.length,vi 0,vi 0]],some [m7 159 2 t8 Reads4],some [m7 162 2 t9 Puts1]]⟩
def b55(regs:List Int)(a9:List s1)(b6:List p9)(Puts1:List p9)(at_:Int)(ins:r9)(Reads4:List s1)(box:q9):Option (l9 m9 ((List Int)×(List s1)×(List p9)×(List s1)×(List p9)×Int) ((List s1)×(List p9)×(List Int)×(List s1)×List p9)):=
 some (l9.nxt (regs.set ins.A.toNat box.d9,a9,b6,Reads4,Puts1,m4 (at_+1)))
theorem d7F(list prog regs a9 b6 Puts1 at_ ins Reads4 box)(lc:J5 Q2 a7J (a97 list prog)):NL lc (c5f list prog regs a9 b6 Puts1 at_ ins Reads4 box) (fun s=>b55 regs a9 b6 Puts1 at_ ins Reads4 box):=fun _ h=>PK<|rg<|(lc.nx h fun hI=>sk [] [0,1,4,5,6,7] [(1,0),(4,0),(5,0),(2,0),(3,0),(6,0),(7,0)] hI)
def e5t(list:List q9)(prog:List r9)(regs:List Int)(a9:List s1)(b6:List p9)(Puts1:List p9)(at_:Int)(ins:r9)(Reads4:List s1)(box:q9):Int->KS:=fun a5x=>⟨Q2.k 15 [false,true,true,false,true],(l7 2 z5 list::(l7 4 z8 prog::(bs 2 (.ptr 1 0 0::(.ptr 4 0 0::(.ptr 5 0 0::(vi at_::(bs 153 (.agg ((regs.set ins.A.toNat box.d9).map eI).flatten::(vi a5x::(bs 19 []))))))))))),[some [],some [.var 61 [.own 2 0 2 0 a9.length,.own 3 0 2 0 b6.length,vi 0,vi 0]],some [m7 159 2 t8 a9],some [m7 162 2 t9 b6],some [.arr 176 1 4 ((regs.set ins.A.toNat box.d9).map eI)],some [.var 61 [.own 6 0 2 0 Reads4.length,.own 7 0 2 0 Puts1.length,vi 0,vi 0]],some [m7 159 2 t8 Reads4],some [m7 162 2 t9 Puts1]]⟩
def b3F(regs:List Int)(ins:r9)(Reads4:List s1)(box:q9)(a5x:Int):Option (l9 m9 Int Unit):=
 (bif decide (a5x<4) then ((idx (regs.set ins.A.toNat box.d9) a5x).bind fun y4=>(s6 (a5x<4) (((D2 y4 (-1000000) 1000000).bind fun in_1=>(bif (!in_1) then ((a14 Reads4).bind fun c0Y=>some (l9.ret (m9.mk c0Y [] 0 2))) else some (l9.nxt (m4 (a5x+1)))))))) else some (l9.brk ()))
theorem e7T(list prog regs a9 b6 Puts1 at_ ins Reads4 box):LQ Q2 (c5f list prog regs a9 b6 Puts1 at_ ins Reads4 box) (e5t list prog regs a9 b6 Puts1 at_ ins Reads4 box) (fun s=>b3F regs ins Reads4 box s):=fun lc a5x h=>PK<|rg<|j5 0 h (fun h=>rg<|A8 h fun y4 hy4 h=>t0 h fun e5 h=>ob (M6 hy4)<|ob e5<|om (((regs.set ins.A.toNat box.d9).map eI).flatten[a5x.toNat]?=some (vi y4)) (c1l (fun _=>rfl) hy4)<|tl (0,{a:=.val (vi y4)})<|rg<|j7 D1 E2 1 h fun in_1 h=>j5 2 h (fun h=>rg<|cbS a1H a9O 2 (fun _=>(by simp [a1H,K0,S4,N8,V.simple,vi,u0,eI,t8])) (fun _=>(S6 1)) h fun c0Y h=>C8 Reads4 c0Y<|fL lc h) (fun h=>rg<|(lc.nx h fun hI=>om (V.agg (((regs.set ins.A.toNat box.d9).map eI).flatten.map (U6 [(1,0),(2,0),(3,0),(4,0),(5,0),(6,0),(7,0)]))=.agg ((regs.set ins.A.toNat box.d9).map eI).flatten) (congrArg V.agg (a7v (fun _=>rfl) _))<|skT [] [0,1,4,5,6,7,161,162] [(1,0),(2,0),(3,0),(4,0),(5,0),(6,0),(7,0)] [(161,.agg ((regs.set ins.A.toNat box.d9).map eI).flatten)] hI))) (fun h=>(lc.bk h fun hI=>sk [] [0,1,4,5,6,7] [(1,0),(2,0),(3,0),(4,0),(5,0),(6,0),(7,0)] hI))
def b6t(list:List q9)(regs:List Int)(a9:List s1)(b6:List p9)(Puts1:List p9)(at_:Int)(ins:r9)(Reads4:List s1):Option (l9 m9 ((List Int)×(List s1)×(List p9)×(List s1)×(List p9)×Int) ((List s1)×(List p9)×(List Int)×(List s1)×List p9)):=
 ((idx list ins.B).bind fun box=>((idx regs ins.A).bind fun y3=>(s6 (ins.A<4) (((s2 (fun s:Int=>b3F regs ins Reads4 box s) 0).bind fun x=>x.go (fun r=>some (l9.ret r)) fun s=>b55 regs a9 b6 Puts1 at_ ins Reads4 box)))))
theorem e0X(list prog regs a9 b6 Puts1 at_ ins)(lc:J5 Q2 a7J (a97 list prog)):NL lc (d4p list prog regs a9 b6 Puts1 at_ ins) (fun s=>b6t list regs a9 b6 Puts1 at_ ins s):=fun Reads4 h=>PK<|rg<|x8 z5 5 h fun box a2g h=>A8 h fun y3 hy3 h=>t0 h fun e4 h=>ob (M6 hy3)<|ob e4<|om (s4.arr 176 1 4 ((regs.map eI).set (ins.A.toNat) [vi box.d9])=s4.arr 176 1 4 ((regs.set ins.A.toNat box.d9).map eI)) (a64 rfl)<|ob (T5 (enc:=eI) hy3)<|tl (9,{a:=.rowck (eI y3) [],e:=some (.arr 176 1 4 ((regs.set ins.A.toNat box.d9).map eI))})<|rg<|om (4*1=4) rfl<|lp (e7T list prog regs a9 b6 Puts1 at_ ins Reads4 box) h (fun _ h=>lc.rt h) (d7F list prog regs a9 b6 Puts1 at_ ins Reads4 box lc) fun hI=>om (V.agg (((regs.set ins.A.toNat box.d9).map eI).flatten.map (U6 [(1,0),(2,0),(3,0),(4,0),(5,0),(6,0),(7,0)]))=.agg ((regs.set ins.A.toNat box.d9).map eI).flatten) (congrArg V.agg (a7v (fun _=>rfl) _))<|skT [] [0,1,4,5,6,7,161,162] [(1,0),(2,0),(3,0),(4,0),(5,0),(6,0),(7,0)] [(161,.agg ((regs.set ins.A.toNat box.d9).map eI).flatten)] hI
def e5L(list:List q9)(prog:List r9)(a9:List s1)(b6:List p9)(Reads1:List s1):((List Int)×(List p9)×Int)->KS:=fun (regs2,Puts4,at_1)=>⟨Q2.k 13 [false,true,false,true,true],(l7 2 z5 list::(l7 4 z8 prog::(bs 2 (.ptr 1 0 0::(.ptr 4 0 0::(.ptr 5 0 0::(vi at_1::(bs 174 [])))))))),[some [],some [.var 61 [.own 2 0 2 0 a9.length,.own 3 0 2 0 b6.length,vi 0,vi 0]],some [m7 159 2 t8 a9],some [m7 162 2 t9 b6],some [.arr 176 1 4 (regs2.map eI)],some [.var 61 [.own 6 0 2 0 Reads1.length,.own 7 0 2 0 Puts4.length,vi 0,vi 0]],some [m7 159 2 t8 Reads1],some [m7 162 2 t9 Puts4]]⟩
def c8H(list:List q9)(prog:List r9)(a9:List s1)(b6:List p9)(Reads1:List s1)(regs2:List Int)(Puts4:List p9)(at_1:Int):Unit->KS:=fun _=>⟨Q2.k 15 [false,true,false,true,true,false],(l7 2 z5 list::(l7 4 z8 prog::(bs 2 (.ptr 1 0 0::(.ptr 4 0 0::(.ptr 5 0 0::(vi at_1::(bs 174 [])))))))),[some [],some [.var 61 [.own 2 0 2 0 a9.length,.own 3 0 2 0 b6.length,vi 0,vi 0]],some [m7 159 2 t8 a9],some [m7 162 2 t9 b6],some [.arr 176 1 4 (regs2.map eI)],some [.var 61 [.own 6 0 2 0 Reads1.length,.own 7 0 2 0 Puts4.length,vi 0,vi 0]],some [m7 159 2 t8 Reads1],some [m7 162 2 t9 Puts4]]⟩
def b2m(a9:List s1)(b6:List p9)(Reads1:List s1)(regs2:List Int)(Puts4:List p9)(at_1:Int):Option (l9 m9 ((List Int)×(List s1)×(List p9)×(List s1)×(List p9)×Int) ((List s1)×(List p9)×(List Int)×(List s1)×List p9)):=
 some (l9.nxt (regs2,a9,b6,Reads1,Puts4,m4 (at_1+1)))
theorem e2J(list prog a9 b6 Reads1 regs2 Puts4 at_1)(lc:J5 Q2 a7J (a97 list prog)):NL lc (c8H list prog a9 b6 Reads1 regs2 Puts4 at_1) (fun s=>b2m a9 b6 Reads1 regs2 Puts4 at_1):=fun _ h=>PK<|rg<|(lc.nx h fun hI=>sk [] [0,1,4,5,6,7] [(1,0),(4,0),(5,0),(2,0),(3,0),(6,0),(7,0)] hI)
def e7m(list:List q9)(prog:List r9)(a9:List s1)(b6:List p9)(Reads1:List s1)(regs2:List Int)(Puts4:List p9)(at_1:Int):Int->KS:=fun a5u=>⟨Q2.k 14 [false,true,false,true,true],(l7 2 z5 list::(l7 4 z8 prog::(bs 2 (.ptr 1 0 0::(.ptr 4 0 0::(.ptr 5 0 0::(vi at_1::(bs 153 (.agg (regs2.map eI).flatten::(vi a5u::(bs 19 []))))))))))),[some [],some [.var 61 [.own 2 0 2 0 a9.length,.own 3 0 2 0 b6.length,vi 0,vi 0]],some [m7 159 2 t8 a9],some [m7 162 2 t9 b6],some [.arr 176 1 4 (regs2.map eI)],some [.var 61 [.own 6 0 2 0 Reads1.length,.own 7 0 2 0 Puts4.length,vi 0,vi 0]],some [m7 159 2 t8 Reads1],some [m7 162 2 t9 Puts4]]⟩
def b1e(Reads1:List s1)(regs2:List Int)(a5u:Int):Option (l9 m9 Int Unit):=
 (bif decide (a5u<4) then ((idx regs2 a5u).bind fun y5=>(s6 (a5u<4) (((D2 y5 (-1000000) 1000000).bind fun in_2=>(bif (!in_2) then ((a14 Reads1).bind fun c0x=>some (l9.ret (m9.mk c0x [] 0 2))) else some (l9.nxt (m4 (a5u+1)))))))) else some (l9.brk ()))
theorem e6J(list prog a9 b6 Reads1 regs2 Puts4 at_1):LQ Q2 (c8H list prog a9 b6 Reads1 regs2 Puts4 at_1) (e7m list prog a9 b6 Reads1 regs2 Puts4 at_1) (fun s=>b1e Reads1 regs2 s):=fun lc a5u h=>PK<|rg<|j5 0 h (fun h=>rg<|A8 h fun y5 hy5 h=>t0 h fun e7 h=>ob (M6 hy5)<|ob e7<|om ((regs2.map eI).flatten[a5u.toNat]?=some (vi y5)) (c1l (fun _=>rfl) hy5)<|tl (0,{a:=.val (vi y5)})<|rg<|j7 D1 E2 1 h fun in_2 h=>j5 2 h (fun h=>rg<|cbS a1H a9O 2 (fun _=>(by simp [a1H,K0,S4,N8,V.simple,vi,u0,eI,t8])) (fun _=>(S6 1)) h fun c0x h=>C8 Reads1 c0x<|fL lc h) (fun h=>rg<|(lc.nx h fun hI=>om (V.agg ((regs2.map eI).flatten.map (U6 [(1,0),(2,0),(3,0),(4,0),(5,0),(6,0),(7,0)]))=.agg (regs2.map eI).flatten) (congrArg V.agg (a7v (fun _=>rfl) _))<|skT [] [0,1,4,5,6,7,161,162] [(1,0),(2,0),(3,0),(4,0),(5,0),(6,0),(7,0)] [(161,.agg (regs2.map eI).flatten)] hI))) (fun h=>(lc.bk h fun hI=>sk [] [0,1,4,5,6,7] [(1,0),(2,0),(3,0),(4,0),(5,0),(6,0),(7,0)] hI))
def a9K(a9:List s1)(b6:List p9)(Reads1:List s1)(regs2:List Int)(Puts4:List p9)(at_1:Int):Option (l9 m9 ((List Int)×(List s1)×(List p9)×(List s1)×(List p9)×Int) ((List s1)×(List p9)×(List Int)×(List s1)×List p9)):=
 ((s2 (fun s:Int=>b1e Reads1 regs2 s) 0).bind fun x=>x.go (fun r=>some (l9.ret r)) fun s=>b2m a9 b6 Reads1 regs2 Puts4 at_1)
theorem e5l(list prog a9 b6 Reads1)(lc:J5 Q2 a7J (a97 list prog)):NL lc (e5L list prog a9 b6 Reads1) (fun s=>a9K a9 b6 Reads1 s.1 s.2.1 s.2.2):=fun (regs2,Puts4,at_1) h=>PK<|rg<|om (4*1=4) rfl<|lp (e6J list prog a9 b6 Reads1 regs2 Puts4 at_1) h (fun _ h=>lc.rt h) (e2J list prog a9 b6 Reads1 regs2 Puts4 at_1 lc) fun hI=>om (V.agg ((regs2.map eI).flatten.map (U6 [(1,0),(2,0),(3,0),(4,0),(5,0),(6,0),(7,0)]))=.agg (regs2.map eI).flatten) (congrArg V.agg (a7v (fun _=>rfl) _))<|skT [] [0,1,4,5,6,7,161,162] [(1,0),(2,0),(3,0),(4,0),(5,0),(6,0),(7,0)] [(161,.agg (regs2.map eI).flatten)] hI
def a2x(list:List q9)(prog:List r9)(regs:List Int)(a9:List s1)(b6:List p9)(Reads1:List s1)(Puts1:List p9)(at_:Int):Option (l9 m9 ((List Int)×(List s1)×(List p9)×(List s1)×(List p9)×Int) ((List s1)×(List p9)×(List Int)×(List s1)×List p9)):=
 (bif decide (at_<(prog.length:Int)) then ((idx prog at_).bind fun ins=>(bif (ins.a6==1) then ((b1D (m9.mk Reads1 Puts1 0 0) ins.B).bind fun Y2=>(bif decide (Y2>=0) then ((idx Puts1 Y2).bind fun put1=>((idx regs ins.A).bind fun y1=>(s6 (ins.A<4) (((s2 (fun s:Int=>b3E regs Reads1 ins put1 s) 0).bind fun x=>x.go (fun r=>some (l9.ret r)) fun s=>c1J regs a9 b6 Reads1 Puts1 at_ ins put1))))) else ((((b2D (m9.mk Reads1 Puts1 0 0) ins.B).bind fun d1G=>(bif decide (d1G<0) then ((idx list ins.B).bind fun Y1=>(s6 ((Reads1.length+1)*16<=140737488355328) (some (l8.brk (Reads1++[(s1.mk ins.B Y1.j4)]))))) else some (l8.brk Reads1))):Option (l8 (l9 m9 ((List Int)×(List s1)×(List p9)×(List s1)×(List p9)×Int) ((List s1)×(List p9)×(List Int)×(List s1)×List p9)) (List s1))).bind fun x=>x.go some fun j=>b6t list regs a9 b6 Puts1 at_ ins j))) else (((bif (ins.a6==2) then ((b1D (m9.mk Reads1 Puts1 0 0) ins.A).bind fun a9C=>(bif decide (a9C>=0) then ((idx regs ins.B).bind fun y6=>(s6 (ins.B<4) (((idx Puts1 a9C).bind fun put2=>some (l8.brk (regs,Puts1.set a9C.toNat (p9.mk put2.i6 y6),at_)))))) else ((idx regs ins.B).bind fun y7=>(s6 (ins.B<4) ((s6 ((Puts1.length+1)*16<=140737488355328) (some (l8.brk (regs,Puts1++[(p9.mk ins.A y7)],at_))))))))) else (bif (ins.a6==3) then ((idx regs ins.A).bind fun y8=>(s6 (ins.A<4) (some (l8.brk (regs.set ins.A.toNat ins.N,Puts1,at_))))) else (bif (ins.a6==4) then ((idx regs ins.A).bind fun y9=>(s6 (ins.A<4) (((idx regs ins.B).bind fun y10=>(s6 (ins.B<4) ((s6 (ins.A<4) (some (l8.brk (regs.set ins.A.toNat (m4 (y9+y10)),Puts1,at_)))))))))) else (bif (ins.a6==5) then ((idx regs ins.A).bind fun y11=>(s6 (ins.A<4) (((idx regs ins.B).bind fun y12=>(s6 (ins.B<4) ((s6 (ins.A<4) (some (l8.brk (regs.set ins.A.toNat (m4 (y11-y12)),Puts1,at_)))))))))) else (bif (ins.a6==6) then ((idx regs ins.A).bind fun y13=>(s6 (ins.A<4) (((idx regs ins.B).bind fun y14=>(s6 (ins.B<4) ((bif decide (y13<y14) then some (l8.brk (regs,Puts1,m4 (at_+ins.N))) else some (l8.brk (regs,Puts1,at_))))))))) else (bif (ins.a6==7) then ((a14 Reads1).bind fun c2a=>some (l8.ret (l9.ret (m9.mk c2a [] 0 1)))) else some (l8.brk (regs,Puts1,at_)))))))):Option (l8 (l9 m9 ((List Int)×(List s1)×(List p9)×(List s1)×(List p9)×Int) ((List s1)×(List p9)×(List Int)×(List s1)×List p9)) ((List Int)×(List p9)×Int))).bind fun x=>x.go some fun j=>a9K a9 b6 Reads1 j.1 j.2.1 j.2.2))) else some (l9.brk (a9,b6,regs,Reads1,Puts1)))
set_option maxRecDepth 20000 in
theorem e7I(list prog):LQ Q2 a7J (a97 list prog) (fun s=>a2x list prog s.1 s.2.1 s.2.2.1 s.2.2.2.1 s.2.2.2.2.1 s.2.2.2.2.2):=fun lc (regs,a9,b6,Reads1,Puts1,at_) h=>PK<|rg<|j5 3 h (fun h=>rg<|x8 z8 2 h fun ins hins h=>o9<|j5 1 h (fun h=>rg<|R2 a57 c9o 3 2 h fun Y2 h=>C8 Reads1 Puts1<|rg<|j5 1 h (fun h=>rg<|A8 h fun put1 b1x h=>B3 b1x<|H6 t9 7 b1x<|A8 h fun y1 hy1 h=>t0 h fun e2 h=>ob (M6 hy1)<|ob e2<|om (s4.arr 176 1 4 ((regs.map eI).set (ins.A.toNat) [vi put1.d9])=s4.arr 176 1 4 ((regs.set ins.A.toNat put1.d9).map eI)) (a64 rfl)<|ob (T5 (enc:=eI) hy1)<|tl (9,{a:=.rowck (eI y1) [],e:=some (.arr 176 1 4 ((regs.set ins.A.toNat put1.d9).map eI))})<|rg<|om (4*1=4) rfl<|lp (e3X list prog regs a9 b6 Reads1 Puts1 at_ ins put1) h (fun _ h=>lc.rt h) (e1u list prog regs a9 b6 Reads1 Puts1 at_ ins put1 lc) fun hI=>om (V.agg (((regs.set ins.A.toNat put1.d9).map eI).flatten.map (U6 [(1,0),(4,0),(5,0),(2,0),(3,0),(6,0),(7,0)]))=.agg ((regs.set ins.A.toNat put1.d9).map eI).flatten) (congrArg V.agg (a7v (fun _=>rfl) _))<|skT [] [0,1,4,5,6,7,161,162] [(1,0),(4,0),(5,0),(2,0),(3,0),(6,0),(7,0)] [(161,.agg ((regs.set ins.A.toNat put1.d9).map eI).flatten)] hI) (fun h=>z9 h (e0X list prog regs a9 b6 Puts1 at_ ins lc) fun x2 h hc2=>rg<|R2 a8q d8U 3 2 h fun d1G h=>C8 Reads1 Puts1<|j5 4 h (fun h=>rg<|x8 z5 7 h fun Y1 b0c h=>tk 11 []<|t0 h fun e6 h=>E5 12 46 159 2 16 t8 Reads1 (s1.mk ins.B Y1.j4) e6<|D8 (s1.mk ins.B Y1.j4)<|(o7 h hc2 fun hI=>sk [] [0,1,4,5,6,7,8] [(1,0),(4,0),(5,0),(2,0),(3,0),(46,0),(7,0),(16,0)] hI)) (fun h=>(o7 h hc2 fun hI=>sk [] [0,1,4,5,6,7,8] [(1,0),(4,0),(5,0),(2,0),(3,0),(6,0),(7,0),(16,0)] hI)))) (fun h=>z9 h (e5l list prog a9 b6 Reads1 lc) fun x2 h hc2=>rg<|j5 1 h (fun h=>rg<|R2 a57 c9o 3 2 h fun a9C h=>C8 Reads1 Puts1<|rg<|j5 1 h (fun h=>rg<|A8 h fun y6 hy6 h=>t0 h fun e8 h=>ob (M6 hy6)<|ob e8<|ob (T5 (enc:=eI) hy6)<|tl (tr 6 (eI y6))<|A8 h fun put2 c5A h=>B3 c5A<|O8 162 2 t9 9 [] (p9.mk put2.i6 y6) c5A<|(o7 h hc2 fun hI=>om ((.own 7 0 2 0 Puts1.length:V)=.own 7 0 2 0 (Puts1.set a9C.toNat (p9.mk put2.i6 y6)).length) (by simp)<|sk [.is (.cell 3 0 1) (.own 7 0 2 0 (Puts1.set a9C.toNat (p9.mk put2.i6 y6)).length)] [0,1,4,5,6,7] [(1,0),(4,0),(5,0),(2,0),(3,0),(6,0),(7,0)] hI)) (fun h=>rg<|A8 h fun y7 hy7 h=>t0 h fun e9 h=>ob (M6 hy7)<|ob e9<|ob (T5 (enc:=eI) hy7)<|tl (tr 7 (eI y7))<|tk 9 []<|t0 h fun e10 h=>E5 10 41 162 2 16 t9 Puts1 (p9.mk ins.A y7) e10<|D8 (p9.mk ins.A y7)<|(o7 h hc2 fun hI=>sk [] [0,1,4,5,6,7] [(1,0),(4,0),(5,0),(2,0),(3,0),(6,0),(41,0)] hI))) (fun h=>rg<|j5 1 h (fun h=>rg<|A8 h fun y8 hy8 h=>t0 h fun e11 h=>ob (M6 hy8)<|ob e11<|om (s4.arr 176 1 4 ((regs.map eI).set (ins.A.toNat) [vi ins.N])=s4.arr 176 1 4 ((regs.set ins.A.toNat ins.N).map eI)) (a64 rfl)<|ob (T5 (enc:=eI) hy8)<|tl (5,{a:=.rowck (eI y8) [],e:=some (.arr 176 1 4 ((regs.set ins.A.toNat ins.N).map eI))})<|(o7 h hc2 fun hI=>sk [] [0,1,4,5,6,7] [(1,0),(4,0),(5,0),(2,0),(3,0),(6,0),(7,0)] hI)) (fun h=>rg<|j5 1 h (fun h=>rg<|A8 h fun y9 hy9 h=>t0 h fun e12 h=>ob (M6 hy9)<|ob e12<|ob (T5 (enc:=eI) hy9)<|tl (tr 3 (eI y9))<|A8 h fun y10 d2T h=>t0 h fun e13 h=>ob (M6 d2T)<|ob e13<|ob (T5 (enc:=eI) d2T)<|tl (tr 7 (eI y10))<|t0 h fun e14 h=>ob (M6 hy9)<|ob e14<|om (s4.arr 176 1 4 ((regs.map eI).set (ins.A.toNat) [vi (m4 (y9+y10))])=s4.arr 176 1 4 ((regs.set ins.A.toNat (m4 (y9+y10))).map eI)) (a64 rfl)<|ob (T5 (enc:=eI) hy9)<|tl (10,{a:=.rowck (eI y9) [],e:=some (.arr 176 1 4 ((regs.set ins.A.toNat (m4 (y9+y10))).map eI))})<|(o7 h hc2 fun hI=>sk [] [0,1,4,5,6,7] [(1,0),(4,0),(5,0),(2,0),(3,0),(6,0),(7,0)] hI)) (fun h=>rg<|j5 1 h (fun h=>rg<|A8 h fun y11 b5s h=>t0 h fun e15 h=>ob (M6 b5s)<|ob e15<|ob (T5 (enc:=eI) b5s)<|tl (tr 3 (eI y11))<|A8 h fun y12 c6w h=>t0 h fun e16 h=>ob (M6 c6w)<|ob e16<|ob (T5 (enc:=eI) c6w)<|tl (tr 7 (eI y12))<|t0 h fun e17 h=>ob (M6 b5s)<|ob e17<|om (s4.arr 176 1 4 ((regs.map eI).set (ins.A.toNat) [vi (m4 (y11-y12))])=s4.arr 176 1 4 ((regs.set ins.A.toNat (m4 (y11-y12))).map eI)) (a64 rfl)<|ob (T5 (enc:=eI) b5s)<|tl (10,{a:=.rowck (eI y11) [],e:=some (.arr 176 1 4 ((regs.set ins.A.toNat (m4 (y11-y12))).map eI))})<|(o7 h hc2 fun hI=>sk [] [0,1,4,5,6,7] [(1,0),(4,0),(5,0),(2,0),(3,0),(6,0),(7,0)] hI)) (fun h=>rg<|j5 1 h (fun h=>rg<|A8 h fun y13 c7l h=>t0 h fun e18 h=>ob (M6 c7l)<|ob e18<|ob (T5 (enc:=eI) c7l)<|tl (tr 3 (eI y13))<|A8 h fun y14 d1v h=>t0 h fun e19 h=>ob (M6 d1v)<|ob e19<|ob (T5 (enc:=eI) d1v)<|tl (tr 7 (eI y14))<|j5 8 h (fun h=>rg<|(o7 h hc2 fun hI=>sk [] [0,1,4,5,6,7] [(1,0),(4,0),(5,0),(2,0),(3,0),(6,0),(7,0)] hI)) (fun h=>(o7 h hc2 fun hI=>sk [] [0,1,4,5,6,7] [(1,0),(4,0),(5,0),(2,0),(3,0),(6,0),(7,0)] hI))) (fun h=>rg<|j5 1 h (fun h=>rg<|cbS a1H a9O 2 (fun _=>(by simp [a1H,K0,S4,N8,V.simple,vi,u0,eI,t8])) (fun _=>(S6 1)) h fun c2a h=>s8 Reads1<|(B8 h hc2 fun h=>s8 c2a<|fL lc h)) (fun h=>(o7 h hc2 fun hI=>sk [] [0,1,4,5,6,7] [(1,0),(4,0),(5,0),(2,0),(3,0),(6,0),(7,0)] hI))))))))) (fun h=>(lc.bk h fun hI=>sk [] [4,5,6] [(1,0),(4,0),(5,0),(2,0),(3,0),(6,0),(7,0)] hI))
def b63(list:List q9)(prog:List r9):Option m9:=
 ((a7g list).bind fun X7=>(bif (!X7) then some (m9.mk [] [] 0 3) else ((a7Q prog).bind fun D6=>(bif (!D6) then some (m9.mk [] [] 0 3) else ((s2 (fun s:(List Int)×(List s1)×(List p9)×(List s1)×(List p9)×Int=>a2x list prog s.1 s.2.1 s.2.2.1 s.2.2.2.1 s.2.2.2.2.1 s.2.2.2.2.2) (e9R 4 (0:Int),[],[],[],[],0)).bind fun x=>x.go (fun r=>some r) fun s=>b0w s.1 s.2.1 s.2.2.1 s.2.2.2.1 s.2.2.2.2)))))
theorem e2f{list prog}:OK Q2 [l7 2 z5 list,l7 4 z8 prog] (b63 list prog):=
 p8 _ fun r h=>o9<|j7 a28 b6D 1 h fun X7 h=>j5 3 h (fun h=>rg<|fE h) (fun h=>j7 a2Y b7J 5 h fun D6 h=>j5 7 h (fun h=>rg<|fE h) (fun h=>rg<|om ((e9R 4 ([vi 0]:List V)).flatten=[vi 0,vi 0,vi 0,vi 0]/\([vi 0]:List V).length=1) ⟨rfl,rfl⟩<|o9<|lp (e7I list prog) h (fun _ h=>Q2.rt h) (e7X r) fun hI=>sk [.own (.cell 1 0 0) 159 2,.own (.cell 1 0 1) 162 2,.own (.cell 12 0 0) 159 2,.own (.cell 12 0 1) 162 2] [0,1,4,5,6,7] [(1,0),(10,0),(12,0),(15,0),(16,0),(17,0),(18,0)] hI))
def a2M:FS (Int):=⟨191,Tryz.f191,[.val [] []],[none,none],[.val [some 7] [],.val [] []],fun r=>vi r,fun _=>[none,none],Tryz.func191⟩
def c0c:Unit->KS:=fun _=>⟨a2M.k 3 [false],(bs 25 []),[some []]⟩
def c9b:Option Int:=
 some (-1)
theorem d8o(r):NF a2M r c0c (fun s=>c9b):=fun _ h=>PK<|rg<|fE h
def c8e(list:List m5)(q:s3):Int->KS:=fun v9=>⟨a2M.k 2 [],(bs 3 (.ptr 1 0 0::(bs 3 (l7 7 t5 list::(vi (list.length:Int)::(vi v9::(bs 15 []))))))),[some [],some [.var 49 [vi q.d7,vi q.Seq]]]⟩
def d40(list:List m5)(q:s3)(v9:Int):Unit->KS:=fun _=>⟨a2M.k 5 [true,false],(bs 3 (.ptr 1 0 0::(bs 3 (l7 7 t5 list::(vi (list.length:Int)::(vi v9::(bs 15 []))))))),[some [],some [.var 49 [vi q.d7,vi q.Seq]]]⟩
def b9i(v9:Int):Option (l9 Int Int Unit):=
 some (l9.nxt (m4 (v9+1)))
theorem e0N(list q v9)(lc:J5 a2M c0c (c8e list q)):NL lc (d40 list q v9) (fun s=>b9i v9):=fun _ h=>PK<|rg<|(lc.nx h fun hI=>sk [] [3,7,8,9] [(1,0)] hI)
def a9G(list:List m5)(q:s3)(v9:Int):Option (l9 Int Int Unit):=
 (bif decide (v9<(list.length:Int)) then ((idx list v9).bind fun entry=>(((bif (!entry.i8) then (bif (([entry.a5.d7,entry.a5.Seq]:List Int)==[q.d7,q.Seq]) then some (l8.ret (l9.ret v9)) else some (l8.brk ())) else some (l8.brk ())):Option (l8 (l9 Int Int Unit) Unit)).bind fun x=>x.go some fun j=>b9i v9)) else some (l9.brk ()))
theorem e9q(list q):LQ a2M c0c (c8e list q) (fun s=>a9G list q s):=fun lc v9 h=>PK<|rg<|j5 0 h (fun h=>rg<|x8 t5 1 h fun entry H1 h=>z9 h (e0N list q v9 lc) fun x2 h hc2=>rg<|j5 3 h (fun h=>j5 8 h (fun h=>rg<|(B8 h hc2 fun h=>fL lc h)) (fun h=>(o7 h hc2 fun hI=>sk [] [3,7,8,9] [(1,0)] hI))) (fun h=>(o7 h hc2 fun hI=>sk [] [3,7,8,9] [(1,0)] hI))) (fun h=>(lc.bk h fun hI=>sk [] [] [] hI))
def a8Z(list:List m5)(q:s3):Option Int:=
 ((s2 (fun s:Int=>a9G list q s) 0).bind fun x=>x.go (fun r=>some r) fun s=>c9b)
theorem c2p{list q}:OK a2M [l7 7 t5 list,.agg (T9 q)] (a8Z list q):=
 p8 _ fun r h=>o9<|lp (e9q list q) h (fun _ h=>a2M.rt h) (d8o r) fun hI=>sk [] [3,7,8,9] [(1,0)] hI
def c2T:FS (Bool×p6):=⟨178,Tryz.f178,[.val [] []],[some (0,.ptr G9 K7),none],[.ptr G9 K7,.val [] []],fun r=>.b r.1,fun r=>[some (.optr 152 (K5 r.2)),none],Tryz.func178⟩
def b0R(a:p6)(q:s3):Option (Bool×p6):=
 ((a8Z a.n.a7 q).bind fun first=>some (decide (first>=0),a))
theorem c8C{a q}:OK c2T [.optr 152 (K5 a),.agg (T9 q)] (b0R a q):=
 p8 _ fun r h=>o9<|R2 a2M c2p 6 2 h fun first h=>s8 a.n.a7<|C6 a<|fE h
def Z0:FS (m5×Bool×p6):=⟨173,Tryz.f173,[.val I5 [],.val [] []],[some (0,.ptr G9 K7)],[.ptr G9 K7],fun r=>.tup [.agg (t5 r.1),.b r.2.1],fun r=>[some (.optr 152 (K5 r.2.2))],Tryz.func173⟩
def e2T(a:p6):Unit->KS:=fun _=>⟨Z0.k 3 [false],(.ptr 0 0 0::(bs 1 (.ptr 1 0 0::(bs 1 (vi (a.n.a7.length:Int)::(bs 112 [])))))),[some ([.var 152 (c2i a)]++c2K a),some [.var 63 [.b false,vi 0,vi 0,.nil,.nil,vi 0,vi 0]]]⟩
def c60(a:p6):Unit->KS:=fun _=>⟨Z0.k 5 [false,false],(.ptr 0 0 0::(bs 1 (.ptr 1 0 0::(bs 114 [])))),[some ([.var 152 (c2i a)]++c2K a),some [.var 63 [.b false,vi 0,vi 0,.nil,.nil,vi 0,vi 0]]]⟩
def d5J:p6->KS:=fun a1=>⟨Z0.k 6 [false,false,false],(.ptr 0 0 0::(bs 1 (.ptr 6 0 0::(bs 114 [])))),[some [.var 152 (b2t a1),.dead,.dead,.dead,.dead,.dead]]++a2L a1++[some [.var 63 [.b false,vi 0,vi 0,.nil,.nil,vi 0,vi 0]]]⟩
def d2h:p6->KS:=fun w=>⟨Z0.k 7 [false,false,false,false],(bs 2 (.ptr 6 0 0::(bs 114 []))),[some [.var 152 (b2t w),.dead,.dead,.dead,.dead,.dead]]++a2L w++[some [.var 63 [.b false,vi 0,vi 0,.nil,.nil,vi 0,vi 0]]]⟩
def c9a(w:p6):Option (m5×Bool×p6):=
 some ((m5.mk false (s3.mk 0 0) (m9.mk [] [] 0 0)),false,w)
theorem e3p(r):NF Z0 r d2h (fun s=>c9a s):=fun w h=>PK<|rg<|C6 w<|fE h
def e3W:p6->KS:=fun a2=>⟨Z0.k 6 [false,false,false],(.ptr 0 0 0::(bs 1 (.ptr 6 0 0::(bs 114 [])))),[some [.var 152 (b2t a2),.dead,.dead,.dead,.dead,.dead]]++a2L a2++[some [.var 63 [.b false,vi 0,vi 0,.nil,.nil,vi 0,vi 0]]]⟩
def a4D(a2:p6):Option (l9 (m5×Bool×p6) p6 p6):=
 (bif decide ((a2.n.d6.length:Int)>0) then ((idx a2.n.d6 0).bind fun entry=>(s6 ((0:Int)<=1/\1<=(a2.n.d6.length:Int)) (((b0R (p6.mk (j8.mk a2.n.Id a2.n.Acc a2.n.a7 a2.n.Seq a2.n.f0 a2.n.a8 a2.n.c9 a2.n.i4 a2.n.c8 a2.n.a0 a2.n.j3 a2.n.i7 a2.n.b8 ((a2.n.d6.drop (1:Int).toNat).take (a2.n.d6.length-(1:Int).toNat))) a2.out a2.told) entry.a5).bind fun b3p=>(bif (!b3p.1) then some (l9.ret (entry,true,b3p.2)) else some (l9.nxt b3p.2)))))) else some (l9.brk a2))
theorem d6L:LQ Z0 d2h e3W (fun s=>a4D s):=fun lc a2 h=>PK<|rg<|j5 6 h (fun h=>rg<|x8 t5 5 h fun entry H1 h=>rg<|t0 h fun e1 h=>om (V.sl 7 (a2.n.d6.length-(1:Int).toNat) (((a2.n.d6.map t5).drop (1:Int).toNat).take (a2.n.d6.length-(1:Int).toNat))=l7 7 t5 ((a2.n.d6.drop (1:Int).toNat).take (a2.n.d6.length-(1:Int).toNat))) (b52 e1)<|ob e1.1<|ob e1.2<|tl (6,{v:=some (l7 7 t5 ((a2.n.d6.drop (1:Int).toNat).take (a2.n.d6.length-(1:Int).toNat)))})<|rg<|j7 c2T c8C 3 h fun b3p h=>C6 a2<|j5 4 h (fun h=>rg<|C6 b3p.2<|fL lc h) (fun h=>(lc.nx h fun hI=>sk [] [0,2] [(37,0),(37,1),(37,2),(37,3),(37,4),(6,0)] hI))) (fun h=>(lc.bk h fun hI=>sk [] [2] [(1,0),(2,0),(3,0),(4,0),(5,0),(6,0)] hI))
def b4Y(a1:p6):Option (m5×Bool×p6):=
 ((s2 (fun s:p6=>a4D s) a1).bind fun x=>x.go (fun r=>some r) fun s=>c9a s)
theorem e5O(r):NF Z0 r d5J (fun s=>b4Y s):=fun a1 h=>PK<|lp (d6L) h (fun _ h=>Z0.rt h) (e3p r) fun hI=>sk [] [0,2] [(1,0),(2,0),(3,0),(4,0),(5,0),(6,0)] hI
def c3D(a:p6):Option (m5×Bool×p6):=
 (((bif a.n.j3 then ((b0R a a.n.b8.a5).bind fun a9k=>(bif (!a9k.1) then some (l8.ret (a9k.2.n.b8,true,a9k.2)) else some (l8.brk a9k.2))) else some (l8.brk a)):Option (l8 (m5×Bool×p6) p6)).bind fun x=>x.go some fun j=>b4Y j)
theorem e4u(a)(r):NF Z0 r (c60 a) (fun s=>c3D a):=fun _ h=>PK<|z9 h (e5O r) fun x1 h hc1=>rg<|j5 5 h (fun h=>j7 c2T c8C 13 h fun a9k h=>C6 a<|j5 15 h (fun h=>rg<|(B8 h hc1 fun h=>C6 a9k.2<|fE h)) (fun h=>(o7 h hc1 fun hI=>sk [] [0,2] [(15,0),(15,1),(15,2),(15,3),(15,4),(1,0)] hI))) (fun h=>(o7 h hc1 fun hI=>sk [] [0,2] [(0,1),(0,2),(0,3),(0,4),(0,5),(1,0)] hI))
def e7Z(a:p6):Int->KS:=fun i=>⟨Z0.k 4 [false],(.ptr 0 0 0::(bs 1 (.ptr 1 0 0::(bs 2 (vi i::(bs 111 [])))))),[some ([.var 152 (c2i a)]++c2K a),some [.var 63 [.b false,vi 0,vi 0,.nil,.nil,vi 0,vi 0]]]⟩
def a3N(a:p6)(i:Int):Option (l9 (m5×Bool×p6) Int Unit):=
 (bif decide (i<(a.n.i4.length:Int)) then ((idx a.n.i4 i).bind fun vote=>(bif (vote.a8 != 0) then some (l9.ret ((m5.mk true (s3.mk 0 0) (m9.mk [] [] 0 0)),true,a)) else some (l9.nxt (m4 (i+1))))) else some (l9.brk ()))
theorem d8l(a):LQ Z0 (c60 a) (e7Z a) (fun s=>a3N a s):=fun lc i h=>PK<|rg<|j5 7 h (fun h=>rg<|x8 p7 6 h fun vote J9 h=>j5 9 h (fun h=>rg<|C6 a<|fL lc h) (fun h=>rg<|(lc.nx h fun hI=>sk [] [0,2,5] [(1,0)] hI))) (fun h=>(lc.bk h fun hI=>sk [] [0,2] [(1,0)] hI))
def b4V(a:p6):Option (m5×Bool×p6):=
 ((s2 (fun s:Int=>a3N a s) (m4 ((a.n.a7.length:Int)+1))).bind fun x=>x.go (fun r=>some r) fun s=>c3D a)
theorem d6h(a)(r):NF Z0 r (e2T a) (fun s=>b4V a):=fun _ h=>PK<|rg<|lp (d8l a) h (fun _ h=>Z0.rt h) (e4u a r) fun hI=>sk [] [0,2,5] [(1,0)] hI
def b6M(a:p6):Option (m5×Bool×p6):=
 (((bif decide ((a.n.a7.length:Int)<(a.n.i4.length:Int)) then ((idx a.n.i4 (a.n.a7.length:Int)).bind fun Q9=>(bif (Q9.a8 != 0) then some (l8.ret (Q9.g9,true,a)) else some (l8.brk ()))) else some (l8.brk ())):Option (l8 (m5×Bool×p6) Unit)).bind fun x=>x.go some fun j=>b4V a)
theorem d5d{a}:OK Z0 [.optr 152 (K5 a)] (b6M a):=
 p8 _ fun r h=>o9<|z9 h (d6h a r) fun x1 h hc1=>rg<|j5 8 h (fun h=>x8 p7 15 h fun Q9 a3d h=>j5 19 h (fun h=>rg<|L0 p7 6 a3d<|(B8 h hc1 fun h=>C6 a<|fE h)) (fun h=>(o7 h hc1 fun hI=>sk [] [0,2,4] [(1,0)] hI))) (fun h=>(o7 h hc1 fun hI=>sk [] [0,2,4] [(1,0)] hI))
def d17:FS (v6×Bool):=⟨140,Tryz.f140,[.val [none,some 8] [none,some 130],.val [] []],[none,none],[.val [none,some 8] [],.val [] []],fun r=>.tup [.agg [vi r.1.i5,u0 130 8 p7 r.1.a0],.b r.2],fun _=>[none,none],Tryz.func140⟩
def c0X(a:v6)(bal:Int):Option (v6×Bool):=
 ((a8J a).bind fun O7=>(bif (!O7) then some ((v6.mk 0 []),false) else ((a3L a).bind fun P8=>((D2 bal 1 3000).bind fun in_=>(bif (!in_) then some (P8,false) else (bif decide (bal<a.i5) then some (P8,false) else some ((v6.mk bal P8.a0),true)))))))
theorem d9f{a bal}:OK d17 [.agg (V5 a),vi bal] (c0X a bal):=
 p8 _ fun r h=>o9<|j7 a33 b9N 1 h fun O7 h=>j5 2 h (fun h=>rg<|fE h) (fun h=>rg<|j7 a75 a8U 1 h fun P8 h=>rg<|j7 D1 E2 1 h fun in_ h=>j5 3 h (fun h=>rg<|s8 P8.a0<|fE h) (fun h=>j5 8 h (fun h=>rg<|s8 P8.a0<|fE h) (fun h=>o9<|s8 P8.a0<|fE h)))
def a6r:FS (v6×Bool):=⟨174,Tryz.f174,[.val [none,some 8] [],.val [] []],[none,none,none,none],[.val [none,some 8] [],.val [] [],.val [] [],.val I5 []],fun r=>.tup [.agg (V5 r.1),.b r.2],fun _=>[none,none,none,none],Tryz.func174⟩
def c6d(bal:Int)(slot:Int)(e_:m5)(o:v6×Bool):(List m6)->KS:=fun Votes1=>⟨a6r.k 5 [false,false,false],(bs 1 (vi bal::(vi slot::(bs 4 (.ptr 1 0 0::(.ptr 2 0 0::(bs 1 (.ptr 3 0 0::(bs 40 []))))))))),[some [],some [.var 63 (a4s e_)],some [.var 55 [vi 0,.nil]],some [.var 55 [vi o.1.i5,.own 4 0 8 0 Votes1.length]],some [m7 130 8 p7 Votes1]]⟩
def b8E(bal:Int)(slot:Int)(e_:m5)(o:v6×Bool)(Votes1:List m6):Option (v6×Bool):=
 ((idx Votes1 slot).bind fun vote=>((a3L (v6.mk o.1.i5 (Votes1.set slot.toNat (m6.mk bal e_)))).bind fun c24=>some (c24,true)))
theorem e82(bal slot e_ o)(r):NF a6r r (c6d bal slot e_ o) (fun s=>b8E bal slot e_ o s):=fun Votes1 h=>PK<|rg<|A8 h fun vote J9 h=>B3 J9<|O8 130 8 p7 7 O9 (m6.mk bal e_) J9<|rg<|j7 a75 a8U 1 h fun c24 h=>om (Votes1.length=(Votes1.set slot.toNat (m6.mk bal e_)).length) (by simp)<|s8 c24.a0<|fE h
def e3N(bal:Int)(slot:Int)(e_:m5)(o:v6×Bool):(List m6)->KS:=fun a0=>⟨a6r.k 4 [false,false],(bs 1 (vi bal::(vi slot::(bs 4 (.ptr 1 0 0::(.ptr 2 0 0::(bs 1 (.ptr 3 0 0::(bs 40 []))))))))),[some [],some [.var 63 (a4s e_)],some [.var 55 [vi 0,.nil]],some [.var 55 [vi o.1.i5,.own 4 0 8 0 a0.length]],some [m7 130 8 p7 a0]]⟩
def a7V(slot:Int)(a0:List m6):Option (l9 (v6×Bool) (List m6) (List m6)):=
 (bif decide ((a0.length:Int)<=slot) then (s6 ((a0.length+1)*96<=140737488355328) (some (l9.nxt (a0++[(m6.mk 0 (m5.mk false (s3.mk 0 0) (m9.mk [] [] 0 0)))])))) else some (l9.brk a0))
theorem d7i(bal slot e_ o):LQ a6r (c6d bal slot e_ o) (e3N bal slot e_ o) (fun s=>a7V slot s):=fun lc a0 h=>PK<|rg<|j5 4 h (fun h=>rg<|tk 3 O9<|t0 h fun e1 h=>E5 4 14 130 8 96 p7 a0 (m6.mk 0 (m5.mk false (s3.mk 0 0) (m9.mk [] [] 0 0))) e1<|D8 (m6.mk 0 (m5.mk false (s3.mk 0 0) (m9.mk [] [] 0 0)))<|(lc.nx h fun hI=>sk [] [1,2,7,8,10] [(1,0),(2,0),(3,0),(14,0)] hI)) (fun h=>(lc.bk h fun hI=>sk [] [1,2,7,8,10] [(1,0),(2,0),(3,0),(4,0)] hI))
def b2E(a:v6)(bal:Int)(slot:Int)(e_:m5):Option (v6×Bool):=
 ((c0X a bal).bind fun o=>(bif (!o.2) then some (o.1,false) else ((D2 slot 0 39).bind fun in_=>(bif (!in_) then ((a3L a).bind fun P8=>some (P8,false)) else ((a1m e_).bind fun D9=>(bif (!D9) then ((a3L a).bind fun b9O=>some (b9O,false)) else ((s2 (fun s:List m6=>a7V slot s) o.1.a0).bind fun x=>x.go (fun r=>some r) fun s=>b8E bal slot e_ o s)))))))
theorem c6Z{a bal slot e_}:OK a6r [.agg (V5 a),vi bal,vi slot,.agg (t5 e_)] (b2E a bal slot e_):=
 p8 _ fun r h=>o9<|j7 d17 d9f 2 h fun o h=>rg<|j5 1 h (fun h=>rg<|s8 o.1.a0<|fE h) (fun h=>rg<|j7 D1 E2 1 h fun in_ h=>j5 3 h (fun h=>rg<|j7 a75 a8U 1 h fun P8 h=>s8 P8.a0<|fE h) (fun h=>j7 a2G a27 5 h fun D9 h=>j5 7 h (fun h=>rg<|j7 a75 a8U 1 h fun b9O h=>s8 b9O.a0<|fE h) (fun h=>lp (d7i bal slot e_ o) h (fun _ h=>a6r.rt h) (e82 bal slot e_ o r) fun hI=>sk [] [1,2,7,8,10] [(2,0),(3,0),(11,0),(7,0)] hI)))
def b7X:FS (p6):=⟨139,Tryz.f139,[],[some (0,.ptr G9 K7)],[.ptr G9 K7],fun _=>.tup [],fun r=>[some (.optr 152 (K5 r))],Tryz.func139⟩
def b3w(a:p6):Option p6:=
 some (p6.mk (j8.mk a.n.Id a.n.Acc a.n.a7 a.n.Seq 0 0 [] [] (m5.mk false (s3.mk 0 0) (m9.mk [] [] 0 0)) [] a.n.j3 a.n.i7 a.n.b8 a.n.d6) a.out a.told)
theorem b9f{a}:OK b7X [.optr 152 (K5 a)] (b3w a):=
 p8 _ fun r h=>rg4<|o9<|L2 a.n.a7 a.out a.told<|fE h
def b9u:FS ((List Bool)×p6):=⟨141,Tryz.f141,[.val [some 1] [some 4]],[some (0,.ptr G9 K7)],[.ptr G9 K7],fun r=>u0 4 1 eB r.1,fun r=>[some (.optr 152 (K5 r.2))],Tryz.func141⟩
def b3n(a:p6):Option ((List Bool)×p6):=
 (s6 (0<=(3:Int)/\(3:Int)*1<=140737488355328) (((idx (e9R (3:Int).toNat false) a.n.Id).bind fun y=>some ((e9R (3:Int).toNat false).set a.n.Id.toNat true,a))))
theorem c9B{a}:OK b9u [.optr 152 (K5 a)] (b3n a):=
 p8 _ fun r h=>o9<|t0 h fun e1 h=>S7 0 2 4 1 1 eB false ti4 (.none) e1 (by decide) (by rfl)<|rg<|A8 h fun y hy h=>B3 hy<|O8 4 1 eB 7 [] true hy<|rg<|om ((e9R (3:Int).toNat false).length=((e9R (3:Int).toNat false).set a.n.Id.toNat true).length) (by simp)<|C6 a<|fE h
def a5p:FS (p6):=⟨149,Tryz.f149,[],[some (0,.ptr G9 K7),none,none],[.ptr G9 K7,.val [] [],.val B2 []],fun _=>.tup [],fun r=>[some (.optr 152 (K5 r)),none,none],Tryz.func149⟩
def a3u(a:p6)(to:Int)(m:j9):Option p6:=
 (s6 ((a.out.length+1)*152<=140737488355328) (some (p6.mk a.n (a.out++[(j9.mk m.a6 a.n.Id to m.a8 m.g8 m.g9 m.a0)]) a.told)))
theorem a7o{a to m}:OK a5p [.optr 152 (K5 a),vi to,.agg (s7 m)] (a3u a to m):=
 p8 _ fun r h=>rg4<|tk 6 B2<|t0 h fun e1 h=>E5 7 19 68 13 152 s7 a.out (j9.mk m.a6 a.n.Id to m.a8 m.g8 m.g9 m.a0) e1<|D8 (j9.mk m.a6 a.n.Id to m.a8 m.g8 m.g9 m.a0)<|I7 a.n.a7 a.n.c9 a.n.a0 (a.out++[(j9.mk m.a6 a.n.Id to m.a8 m.g8 m.g9 m.a0)])<|s8 a.told<|fE h
def a0T:FS (p6):=⟨137,Tryz.f137,[],[some (0,.ptr G9 K7),none],[.ptr G9 K7,.val B2 []],fun _=>.tup [],fun r=>[some (.optr 152 (K5 r)),none],Tryz.func137⟩
def d0M(m:j9):(Int×p6)->KS:=fun (to,a1)=>⟨a0T.k 2 [],(.ptr 0 0 0::(bs 2 (.ptr 1 0 0::(vi to::(bs 15 []))))),[some [.var 152 (e6b a1),.dead,.dead,.dead,.dead,.dead],some [.var 68 (a0a m)]]++d3X a1⟩
def e65(m:j9)(to:Int):p6->KS:=fun a2=>⟨a0T.k 5 [true,true],(.ptr 0 0 0::(bs 2 (.ptr 6 0 0::(vi to::(bs 15 []))))),[some [.var 152 (b2t a2),.dead,.dead,.dead,.dead,.dead]]++a2L a2++[some [.var 68 (a0a m)]]⟩
def c3F(to:Int)(a2:p6):Option (l9 p6 (Int×p6) Unit):=
 some (l9.nxt (m4 (to+1),a2))
theorem e5v(m to)(lc:J5 a0T noK (d0M m)):NL lc (e65 m to) (fun s=>c3F to s):=fun a2 h=>PK<|rg<|(lc.nx h fun hI=>sk [] [0,3,4] [(6,0),(5,0),(4,0),(3,0),(2,0),(1,0)] hI)
def a4F(m:j9)(to:Int)(a1:p6):Option (l9 p6 (Int×p6) Unit):=
 (bif decide (to<3) then (((bif (to != a1.n.Id) then ((a3u a1 to m).bind fun X1=>some (l8.brk X1)) else some (l8.brk a1)):Option (l8 (l9 p6 (Int×p6) Unit) p6)).bind fun x=>x.go some fun j=>c3F to j) else some (l9.ret a1))
theorem e4s(m):LQ a0T noK (d0M m) (fun s=>a4F m s.1 s.2):=fun lc (to,a1) h=>PK<|rg<|j5 1 h (fun h=>z9 h (e5v m to lc) fun x2 h hc2=>rg<|j5 6 h (fun h=>rg<|j7 a5p a7o 3 h fun X1 h=>C6 a1<|(o7 h hc2 fun hI=>sk [] [0,3,4] [(19,0),(19,1),(19,2),(19,3),(19,4),(1,0)] hI)) (fun h=>(o7 h hc2 fun hI=>sk [] [0,3,4] [(6,0),(5,0),(4,0),(3,0),(2,0),(1,0)] hI))) (fun h=>C6 a1<|fL lc h)
def a2k(a:p6)(m:j9):Option p6:=
 ((s2 (fun s:Int×p6=>a4F m s.1 s.2) (0,a)).bind fun x=>x.go (fun r=>some r) fun _=>none)
theorem a5r{a m}:OK a0T [.optr 152 (K5 a),.agg (s7 m)] (a2k a m):=
 p8 _ fun r h=>o9<|lp (e4s m) h (fun _ h=>a0T.rt h) (fun _ h=>nomatch h) fun hI=>sk [] [0,3,4] [(1,0),(0,5),(0,4),(0,3),(0,2),(0,1)] hI
def a98:FS (p6):=⟨136,Tryz.f136,[],[some (0,.ptr G9 K7)],[.ptr G9 K7],fun _=>.tup [],fun r=>[some (.optr 152 (K5 r))],Tryz.func136⟩
def a52(a:p6):Option p6:=
 (bif (a.n.f0 != 2) then some a else (bif decide ((a.n.a7.length:Int)>=40) then some a else ((b6M a).bind fun next=>(bif (!next.2.1) then some next.2.2 else ((b2E next.2.2.n.Acc next.2.2.n.a8 (next.2.2.n.a7.length:Int) next.1).bind fun a7K=>(bif (!a7K.2) then ((b3w next.2.2).bind fun follow=>some follow) else ((b3n (p6.mk (j8.mk next.2.2.n.Id a7K.1 next.2.2.n.a7 next.2.2.n.Seq next.2.2.n.f0 next.2.2.n.a8 next.2.2.n.c9 next.2.2.n.i4 next.1 next.2.2.n.a0 next.2.2.n.j3 next.2.2.n.i7 next.2.2.n.b8 next.2.2.n.d6) next.2.2.out next.2.2.told)).bind fun E0=>((a2k (p6.mk (j8.mk E0.2.n.Id E0.2.n.Acc E0.2.n.a7 E0.2.n.Seq 3 E0.2.n.a8 E0.2.n.c9 E0.2.n.i4 E0.2.n.c8 E0.1 E0.2.n.j3 E0.2.n.i7 E0.2.n.b8 E0.2.n.d6) E0.2.out E0.2.told) (j9.mk 3 0 0 E0.2.n.a8 (E0.2.n.a7.length:Int) next.1 [])).bind fun all=>some all))))))))
theorem b2w{a}:OK a98 [.optr 152 (K5 a)] (a52 a):=
 p8 _ fun r h=>rg<|j5 6 h (fun h=>C6 a<|fE h) (fun h=>j5 14 h (fun h=>C6 a<|fE h) (fun h=>rg<|j7 Z0 d5d 1 h fun next h=>C6 a<|rg<|j5 1 h (fun h=>C6 next.2.2<|fE h) (fun h=>rg<|j7 a6r c6Z 17 h fun a7K h=>rg<|j5 1 h (fun h=>rg<|j7 b7X b9f 1 h fun follow h=>C6 next.2.2<|C6 follow<|fE h) (fun h=>M7<|j7 b9u c9B 2 h fun E0 h=>C6 next.2.2<|o9<|j7 a0T a5r 14 h fun all h=>I7 E0.2.n.a7 E0.2.n.c9 E0.1 E0.2.out<|s8 E0.2.told<|C6 all<|fE h))))
def b35:FS (j8×(List j9)×List o8):=⟨93,Tryz.f93,[.val A4 [],.val [some 13] [],.val [some 5] []],[none,none],[.val A4 [],.val [some 4] []],fun r=>.tup [.agg (A9 r.1),l7 13 s7 r.2.1,l7 5 z3 r.2.2],fun _=>[none,none],Tryz.func93⟩
def e5h:p6->KS:=fun a=>⟨b35.k 11 [false,false,true],(bs 4 (.ptr 1 0 0::(bs 2 (.ptr 2 0 0::(bs 80 []))))),[some [],some [.var 65 [vi 0,vi 0,.nil,.nil,vi 0,vi 0,vi 0,.nil,.nil,.b false,vi 0,vi 0,.nil,.nil,vi 0,vi 0,.nil,.b false,.nil,.b false,vi 0,vi 0,.nil,.nil,vi 0,vi 0,.nil]],some [.var 152 (b27 a)]]++a2L a⟩
def b4r(a:p6):Option (j8×(List j9)×List o8):=
 ((a1q a).bind fun b4S=>some (b4S.1,b4S.2.1,b4S.2.2.1))
theorem e2U(r):NF b35 r e5h (fun s=>b4r s):=fun a h=>PK<|rg<|j7 a3F a4r 1 h fun b4S h=>C6 a<|fE h
def b5o(n:j8)(prog:List r9):Option (j8×(List j9)×List o8):=
 ((a3a n).bind fun D5=>(bif (!D5) then some ((j8.mk 0 (v6.mk 0 []) [] 0 0 0 [] [] (m5.mk false (s3.mk 0 0) (m9.mk [] [] 0 0)) [] false [] (m5.mk false (s3.mk 0 0) (m9.mk [] [] 0 0)) []),[],[]) else ((a8k n).bind fun begin=>(bif n.j3 then ((a1q begin).bind fun W2=>some (W2.1,W2.2.1,W2.2.2.1)) else (bif (n.Seq==1000) then ((a1q begin).bind fun a4c=>some (a4c.1,a4c.2.1,a4c.2.2.1)) else ((a7Q prog).bind fun D6=>(bif (!D6) then ((a1q begin).bind fun a3T=>some (a3T.1,a3T.2.1,a3T.2.2.1)) else ((b5p n).bind fun b07=>((b63 b07.i0 prog).bind fun C5=>(((bif (n.f0==2) then ((a52 (p6.mk (j8.mk begin.n.Id begin.n.Acc begin.n.a7 (m4 (begin.n.Seq+1)) begin.n.f0 begin.n.a8 begin.n.c9 begin.n.i4 begin.n.c8 begin.n.a0 true prog (m5.mk false (s3.mk n.Id (m4 (begin.n.Seq+1))) C5) begin.n.d6) begin.out begin.told)).bind fun Y4=>some (l8.brk Y4)) else (bif (n.f0==0) then ((a2k (p6.mk (j8.mk begin.n.Id begin.n.Acc begin.n.a7 (m4 (begin.n.Seq+1)) begin.n.f0 begin.n.a8 begin.n.c9 begin.n.i4 begin.n.c8 begin.n.a0 true prog (m5.mk false (s3.mk n.Id (m4 (begin.n.Seq+1))) C5) begin.n.d6) begin.out begin.told) (j9.mk 7 0 0 0 0 (m5.mk false (s3.mk n.Id (m4 (begin.n.Seq+1))) C5) [])).bind fun all=>some (l8.brk all)) else some (l8.brk (p6.mk (j8.mk begin.n.Id begin.n.Acc begin.n.a7 (m4 (begin.n.Seq+1)) begin.n.f0 begin.n.a8 begin.n.c9 begin.n.i4 begin.n.c8 begin.n.a0 true prog (m5.mk false (s3.mk n.Id (m4 (begin.n.Seq+1))) C5) begin.n.d6) begin.out begin.told)))):Option (l8 (j8×(List j9)×List o8) p6)).bind fun x=>x.go some fun j=>b4r j))))))))))
theorem e4K{n prog}:OK b35 [.agg (A9 n),l7 4 z8 prog] (b5o n prog):=
 p8 _ fun r h=>o9<|j7 a0z a6G 1 h fun D5 h=>j5 2 h (fun h=>rg<|fE h) (fun h=>rg<|j7 b1K b4z 1 h fun begin h=>rg<|j5 2 h (fun h=>rg<|j7 a3F a4r 1 h fun W2 h=>H7 begin.n<|C8 begin.out begin.told<|fE h) (fun h=>j5 7 h (fun h=>rg<|j7 a3F a4r 1 h fun a4c h=>H7 begin.n<|C8 begin.out begin.told<|fE h) (fun h=>j7 a2Y b7J 9 h fun D6 h=>j5 11 h (fun h=>rg<|j7 a3F a4r 1 h fun a3T h=>H7 begin.n<|C8 begin.out begin.told<|fE h) (fun h=>rg4<|j7 d2t d5v 10 h fun b07 h=>j7 Q2 e2f 13 h fun C5 h=>rg<|z9 h (e2U r) fun x1 h hc1=>rg<|j5 1 h (fun h=>rg<|j7 a98 b2w 1 h fun Y4 h=>H7 begin.n<|C8 begin.out begin.told<|(o7 h hc1 fun hI=>sk [] [4,7] [(2,0),(9,0),(68,0),(68,1),(68,2),(68,3),(68,4)] hI)) (fun h=>rg<|j5 1 h (fun h=>rg<|j7 a0T a5r 7 h fun all h=>H7 begin.n<|C8 begin.out begin.told<|(o7 h hc1 fun hI=>sk [] [4,7] [(2,0),(9,0),(76,0),(76,1),(76,2),(76,3),(76,4)] hI)) (fun h=>(o7 h hc1 fun hI=>s8 begin.n.d6<|sk [.frz (.cell 9 0 26) (none)] [4,7] [(2,0),(9,0),(9,1),(9,2),(9,3),(9,5),(9,6)] hI)))))))
def T3:FS (m8):=⟨94,Tryz.f94,[.val E8 om7],[none,none,none,none],[.val E8 om7,.val A4 [],.val [some 13] [],.val [some 5] []],fun r=>.agg (a7L r),fun _=>[none,none,none,none],Tryz.func94⟩
def c1B(w:m8)(n:j8)(told:List o8):(List j9)->KS:=fun Net1=>⟨T3.k 4 [false],(bs 3 (l7 5 z3 told::(.ptr 1 0 0::(bs 3 (.ptr 3 0 0::(bs 45 [])))))),[some [m7 65 27 A9 (w.b7.set n.Id.toNat n),.dead,m7 70 3 C2 w.g7,m7 51 5 z3 w.Told],some [.var 28 [.own 0 0 27 0 (w.b7.set n.Id.toNat n).length,.own 2 0 13 0 Net1.length,.own 0 2 3 0 w.g7.length,.own 0 3 5 0 w.Told.length]],some [m7 68 13 s7 Net1],some [.var 28 [.nil,.nil,.nil,.nil]]]⟩
def c1k(w:m8)(n:j8)(Net1:List j9):(List o8)->KS:=fun Told1=>⟨T3.k 6 [false,false],(bs 4 (.ptr 1 0 0::(bs 3 (.ptr 4 0 0::(bs 45 []))))),[some [m7 65 27 A9 (w.b7.set n.Id.toNat n),.dead,m7 70 3 C2 w.g7,.dead],some [.var 28 [.own 0 0 27 0 (w.b7.set n.Id.toNat n).length,.own 2 0 13 0 Net1.length,.own 0 2 3 0 w.g7.length,.own 3 0 5 0 Told1.length]],some [m7 68 13 s7 Net1],some [m7 51 5 z3 Told1],some [.var 28 [.nil,.nil,.nil,.nil]]]⟩
def b9d(w:m8)(n:j8)(Net1:List j9)(Told1:List o8):Option m8:=
 some (m8.mk (w.b7.set n.Id.toNat n) Net1 w.g7 Told1)
theorem e2L(w n Net1)(r):NF T3 r (c1k w n Net1) (fun s=>b9d w n Net1 s):=fun Told1 h=>PK<|rg<|I7 (w.b7.set n.Id.toNat n) Net1 w.g7 Told1<|fE h
def c9e(w:m8)(n:j8)(told:List o8)(Net1:List j9):((List o8)×Int)->KS:=fun (Told,v38)=>⟨T3.k 5 [false],(bs 4 (.ptr 1 0 0::(bs 3 (.ptr 3 0 0::(bs 27 (l7 5 z3 told::(vi (told.length:Int)::(vi v38::(bs 15 []))))))))),[some [m7 65 27 A9 (w.b7.set n.Id.toNat n),.dead,m7 70 3 C2 w.g7,.dead],some [.var 28 [.own 0 0 27 0 (w.b7.set n.Id.toNat n).length,.own 2 0 13 0 Net1.length,.own 0 2 3 0 w.g7.length,.own 4 0 5 0 Told.length]],some [m7 68 13 s7 Net1],some [.var 28 [.nil,.nil,.nil,.nil]],some [m7 51 5 z3 Told]]⟩
def e1S(w:m8)(n:j8)(told:List o8)(Net1:List j9)(v38:Int):(List o8)->KS:=fun b10=>⟨T3.k 9 [false,true,true],(bs 4 (.ptr 1 0 0::(bs 3 (.ptr 4 0 0::(bs 27 (l7 5 z3 told::(vi (told.length:Int)::(vi v38::(bs 15 []))))))))),[some [m7 65 27 A9 (w.b7.set n.Id.toNat n),.dead,m7 70 3 C2 w.g7,.dead],some [.var 28 [.own 0 0 27 0 (w.b7.set n.Id.toNat n).length,.own 2 0 13 0 Net1.length,.own 0 2 3 0 w.g7.length,.own 3 0 5 0 b10.length]],some [m7 68 13 s7 Net1],some [m7 51 5 z3 b10],some [.var 28 [.nil,.nil,.nil,.nil]]]⟩
def b7m(v38:Int)(b10:List o8):Option (l9 m8 ((List o8)×Int) (List o8)):=
 some (l9.nxt (b10,m4 (v38+1)))
theorem e7K(w n told Net1 v38)(lc:J5 T3 (c1k w n Net1) (c9e w n told Net1)):NL lc (e1S w n told Net1 v38) (fun s=>b7m v38 s):=fun b10 h=>PK<|rg<|(lc.nx h fun hI=>sk [] [4,8,36,37,38] [(1,0),(2,0),(4,0),(3,0)] hI)
def a22(told:List o8)(Told:List o8)(v38:Int):Option (l9 m8 ((List o8)×Int) (List o8)):=
 (bif decide (v38<(told.length:Int)) then ((idx told v38).bind fun a2K=>(((bif decide ((Told.length:Int)<60) then (s6 ((Told.length+1)*40<=140737488355328) (some (l8.brk (Told++[a2K])))) else some (l8.brk Told)):Option (l8 (l9 m8 ((List o8)×Int) (List o8)) (List o8))).bind fun x=>x.go some fun j=>b7m v38 j)) else some (l9.brk Told))
theorem e8W(w n told Net1):LQ T3 (c1k w n Net1) (c9e w n told Net1) (fun s=>a22 told s.1 s.2):=fun lc (Told,v38) h=>PK<|rg<|j5 0 h (fun h=>rg<|x8 z3 0 h fun a2K d9p h=>z9 h (e7K w n told Net1 v38 lc) fun x2 h hc2=>rg<|j5 3 h (fun h=>rg<|tk 3 []<|t0 h fun e1 h=>E5 4 18 51 5 40 z3 Told a2K e1<|D8 a2K<|(o7 h hc2 fun hI=>sk [] [4,8,36,37,38] [(1,0),(2,0),(18,0),(3,0)] hI)) (fun h=>(o7 h hc2 fun hI=>sk [] [4,8,36,37,38] [(1,0),(2,0),(4,0),(3,0)] hI))) (fun h=>(lc.bk h fun hI=>sk [] [4,8] [(1,0),(2,0),(4,0),(3,0)] hI))
def b8U(w:m8)(n:j8)(told:List o8)(Net1:List j9):Option m8:=
 ((s2 (fun s:(List o8)×Int=>a22 told s.1 s.2) (w.Told,0)).bind fun x=>x.go (fun r=>some r) fun s=>b9d w n Net1 s)
theorem e83(w n told)(r):NF T3 r (c1B w n told) (fun s=>b8U w n told s):=fun Net1 h=>PK<|rg<|lp (e8W w n told Net1) h (fun _ h=>T3.rt h) (e2L w n Net1 r) fun hI=>sk [] [4,8,36,37,38] [(1,0),(2,0),(3,0),(0,3)] hI
def d1F(w:m8)(n:j8)(list:List j9)(told:List o8):((List j9)×Int)->KS:=fun (d8,v21)=>⟨T3.k 3 [],(bs 3 (l7 5 z3 told::(.ptr 1 0 0::(bs 3 (.ptr 2 0 0::(bs 10 (l7 13 s7 list::(vi (list.length:Int)::(vi v21::(bs 32 [])))))))))),[some [m7 65 27 A9 (w.b7.set n.Id.toNat n),.dead,m7 70 3 C2 w.g7,m7 51 5 z3 w.Told],some [.var 28 [.own 0 0 27 0 (w.b7.set n.Id.toNat n).length,.own 3 0 13 0 d8.length,.own 0 2 3 0 w.g7.length,.own 0 3 5 0 w.Told.length]],some [.var 28 [.nil,.nil,.nil,.nil]],some [m7 68 13 s7 d8]]⟩
def e37(w:m8)(n:j8)(list:List j9)(told:List o8)(v21:Int):(List j9)->KS:=fun b3v=>⟨T3.k 7 [true,true],(bs 3 (l7 5 z3 told::(.ptr 1 0 0::(bs 3 (.ptr 3 0 0::(bs 10 (l7 13 s7 list::(vi (list.length:Int)::(vi v21::(bs 32 [])))))))))),[some [m7 65 27 A9 (w.b7.set n.Id.toNat n),.dead,m7 70 3 C2 w.g7,m7 51 5 z3 w.Told],some [.var 28 [.own 0 0 27 0 (w.b7.set n.Id.toNat n).length,.own 2 0 13 0 b3v.length,.own 0 2 3 0 w.g7.length,.own 0 3 5 0 w.Told.length]],some [m7 68 13 s7 b3v],some [.var 28 [.nil,.nil,.nil,.nil]]]⟩
def b5x(v21:Int)(b3v:List j9):Option (l9 m8 ((List j9)×Int) (List j9)):=
 some (l9.nxt (b3v,m4 (v21+1)))
theorem e6d(w n list told v21)(lc:J5 T3 (c1B w n told) (d1F w n list told)):NL lc (e37 w n list told v21) (fun s=>b5x v21 s):=fun b3v h=>PK<|rg<|(lc.nx h fun hI=>sk [] [3,4,8,19,20,21] [(1,0),(3,0),(2,0)] hI)
def a3y(list:List j9)(d8:List j9)(v21:Int):Option (l9 m8 ((List j9)×Int) (List j9)):=
 (bif decide (v21<(list.length:Int)) then ((idx list v21).bind fun msg=>(((bif decide ((d8.length:Int)<40) then (s6 ((d8.length+1)*152<=140737488355328) (some (l8.brk (d8++[msg])))) else some (l8.brk d8)):Option (l8 (l9 m8 ((List j9)×Int) (List j9)) (List j9))).bind fun x=>x.go some fun j=>b5x v21 j)) else some (l9.brk d8))
theorem e7u(w n list told):LQ T3 (c1B w n told) (d1F w n list told) (fun s=>a3y list s.1 s.2):=fun lc (d8,v21) h=>PK<|rg<|j5 0 h (fun h=>rg<|x8 s7 0 h fun msg hmsg h=>z9 h (e6d w n list told v21 lc) fun x2 h hc2=>rg<|j5 3 h (fun h=>rg<|tk 3 B2<|t0 h fun e2 h=>E5 4 17 68 13 152 s7 d8 msg e2<|D8 msg<|(o7 h hc2 fun hI=>sk [] [3,4,8,19,20,21] [(1,0),(17,0),(2,0)] hI)) (fun h=>(o7 h hc2 fun hI=>sk [] [3,4,8,19,20,21] [(1,0),(3,0),(2,0)] hI))) (fun h=>(lc.bk h fun hI=>sk [] [3,4,8] [(1,0),(3,0),(2,0)] hI))
def a36(w:m8)(n:j8)(list:List j9)(told:List o8):Option m8:=
 ((idx w.b7 n.Id).bind fun node=>((s2 (fun s:(List j9)×Int=>a3y list s.1 s.2) (w.d8,0)).bind fun x=>x.go (fun r=>some r) fun s=>b8U w n told s))
theorem a8s{w n list told}:OK T3 [.agg (a7L w),.agg (A9 n),l7 13 s7 list,l7 5 z3 told] (a36 w n list told):=
 p8 _ fun r h=>o9<|A8 h fun node hnode h=>B3 hnode<|O8 65 27 A9 6 A4 n hnode<|rg<|lp (e7u w n list told) h (fun _ h=>T3.rt h) (e83 w n told r) fun hI=>om ((.own 0 0 27 0 w.b7.length:V)=.own 0 0 27 0 (w.b7.set n.Id.toNat n).length) (by simp)<|sk [.is (.cell 1 0 0) (.own 0 0 27 0 (w.b7.set n.Id.toNat n).length)] [3,4,8,19,20,21] [(1,0),(3,0),(0,1)] hI
def a6P:FS (Int):=⟨138,Tryz.f138,[.val [] []],[none,none],[.val [] [],.val [] []],fun r=>vi r,fun _=>[none,none],Tryz.func138⟩
def d2i:Unit->KS:=fun _=>⟨a6P.k 4 [false,false],(bs 28 []),[some []]⟩
def c98:Option Int:=
 some (-1)
theorem e0D(r):NF a6P r d2i (fun s=>c98):=fun _ h=>PK<|rg<|fE h
def d9R(who:Int):Int->KS:=fun n=>⟨a6P.k 3 [false],(bs 1 (vi who::(bs 3 (vi n::(bs 22 []))))),[some []]⟩
def a1R(who:Int)(n:Int):Option (l9 Int Int Unit):=
 (bif decide (n<=3000) then (bif decide (n>0) then ((b0k n).bind fun a5A=>(bif (a5A==who) then some (l9.ret n) else some (l9.nxt (m4 (n+1))))) else some (l9.brk ())) else some (l9.brk ()))
theorem d7Z(who):LQ a6P d2i (d9R who) (fun s=>a1R who s):=fun lc n h=>PK<|rg<|j5 2 h (fun h=>j5 5 h (fun h=>rg<|j7 b9a c5U 1 h fun a5A h=>j5 3 h (fun h=>rg<|fL lc h) (fun h=>rg<|(lc.nx h fun hI=>sk [] [1,5] [] hI))) (fun h=>(lc.bk h fun hI=>sk [] [] [] hI))) (fun h=>(lc.bk h fun hI=>sk [] [] [] hI))
def b7R(bal:Int)(who:Int):Option Int:=
 (bif decide (bal<0) then some (-1) else ((D2 who 0 2).bind fun in_=>(bif (!in_) then some (-1) else ((s2 (fun s:Int=>a1R who s) (m4 (bal+1))).bind fun x=>x.go (fun r=>some r) fun s=>c98))))
theorem d3Q{bal who}:OK a6P [vi bal,vi who] (b7R bal who):=
 p8 _ fun r h=>o9<|j5 2 h (fun h=>rg<|fE h) (fun h=>j7 D1 E2 4 h fun in_ h=>j5 6 h (fun h=>rg<|fE h) (fun h=>rg<|lp (d7Z who) h (fun _ h=>a6P.rt h) (e0D r) fun hI=>sk [] [1,5] [] hI))
def b6m:FS (v6×Bool):=⟨140,Tryz.f140,[.val [none,some 8] [],.val [] []],[none,none],[.val [none,some 8] [],.val [] []],fun r=>.tup [.agg (V5 r.1),.b r.2],fun _=>[none,none],Tryz.func140⟩
def a8C(a:v6)(bal:Int):Option (v6×Bool):=
 ((a8J a).bind fun O7=>(bif (!O7) then some ((v6.mk 0 []),false) else ((a3L a).bind fun P8=>((D2 bal 1 3000).bind fun in_=>(bif (!in_) then some (P8,false) else (bif decide (bal<a.i5) then some (P8,false) else some ((v6.mk bal P8.a0),true)))))))
theorem b8C{a bal}:OK b6m [.agg (V5 a),vi bal] (a8C a bal):=
 p8 _ fun r h=>o9<|j7 a33 b9N 1 h fun O7 h=>j5 2 h (fun h=>rg<|fE h) (fun h=>rg<|j7 a75 a8U 1 h fun P8 h=>rg<|j7 D1 E2 1 h fun in_ h=>j5 3 h (fun h=>rg<|s8 P8.a0<|fE h) (fun h=>j5 8 h (fun h=>rg<|s8 P8.a0<|fE h) (fun h=>o9<|s8 P8.a0<|fE h)))
def b41:FS (j8×List j9):=⟨95,Tryz.f95,[.val A4 [],.val [some 13] []],[none],[.val A4 []],fun r=>.tup [.agg (A9 r.1),l7 13 s7 r.2],fun _=>[none],Tryz.func95⟩
def d6f:p6->KS:=fun a=>⟨b41.k 12 [false,true],(bs 2 (.ptr 1 0 0::(bs 1 (.ptr 2 0 0::(bs 74 []))))),[some [],some [.var 65 [vi 0,vi 0,.nil,.nil,vi 0,vi 0,vi 0,.nil,.nil,.b false,vi 0,vi 0,.nil,.nil,vi 0,vi 0,.nil,.b false,.nil,.b false,vi 0,vi 0,.nil,.nil,vi 0,vi 0,.nil]],some [.var 152 (b27 a)]]++a2L a⟩
def b0M(a:p6):Option (j8×List j9):=
 ((a1q a).bind fun W2=>some (W2.1,W2.2.1))
theorem e9e(r):NF b41 r d6f (fun s=>b0M s):=fun a h=>PK<|rg<|j7 a3F a4r 1 h fun W2 h=>C6 a<|rg<|fE h
def b6C(n:j8):Option (j8×List j9):=
 ((a3a n).bind fun D5=>(bif (!D5) then some ((j8.mk 0 (v6.mk 0 []) [] 0 0 0 [] [] (m5.mk false (s3.mk 0 0) (m9.mk [] [] 0 0)) [] false [] (m5.mk false (s3.mk 0 0) (m9.mk [] [] 0 0)) []),[]) else ((a8k n).bind fun begin=>((b7R n.Acc.i5 n.Id).bind fun a2B=>(((bif decide (a2B>=0) then ((b3w begin).bind fun follow=>((a8C follow.n.Acc a2B).bind fun U0=>((b3n (p6.mk (j8.mk follow.n.Id U0.1 follow.n.a7 follow.n.Seq 1 a2B follow.n.c9 follow.n.i4 follow.n.c8 follow.n.a0 follow.n.j3 follow.n.i7 follow.n.b8 follow.n.d6) follow.out follow.told)).bind fun E0=>((a2k (p6.mk (j8.mk E0.2.n.Id E0.2.n.Acc E0.2.n.a7 E0.2.n.Seq E0.2.n.f0 E0.2.n.a8 E0.1 E0.2.n.Acc.a0 E0.2.n.c8 E0.2.n.a0 E0.2.n.j3 E0.2.n.i7 E0.2.n.b8 E0.2.n.d6) E0.2.out E0.2.told) (j9.mk 1 0 0 a2B (n.a7.length:Int) (m5.mk false (s3.mk 0 0) (m9.mk [] [] 0 0)) [])).bind fun all=>some (l8.brk all))))) else some (l8.brk begin)):Option (l8 (j8×List j9) p6)).bind fun x=>x.go some fun j=>b0M j)))))
theorem e9G{n}:OK b41 [.agg (A9 n)] (b6C n):=
 p8 _ fun r h=>o9<|j7 a0z a6G 1 h fun D5 h=>j5 2 h (fun h=>rg<|fE h) (fun h=>rg<|j7 b1K b4z 1 h fun begin h=>rg<|j7 a6P d3Q 5 h fun a2B h=>z9 h (e9e r) fun x1 h hc1=>rg<|j5 1 h (fun h=>rg<|j7 b7X b9f 1 h fun follow h=>H7 begin.n<|C8 begin.out begin.told<|rg<|j7 b6m b8C 7 h fun U0 h=>M7<|j7 b9u c9B 2 h fun E0 h=>C6 follow<|o9<|j7 a0T a5r 6 h fun all h=>I7 E0.2.n.a7 E0.1 E0.2.n.a0 E0.2.out<|s8 E0.2.told<|(o7 h hc1 fun hI=>sk [] [2,4] [(2,0),(8,0),(71,0),(71,1),(71,2),(71,3),(71,4)] hI)) (fun h=>(o7 h hc1 fun hI=>s8 begin.n.d6<|sk [.frz (.cell 8 0 26) (none)] [2,4] [(2,0),(8,0),(8,1),(8,2),(8,3),(8,5),(8,6)] hI)))
def b7B:FS (j8×(List j9)×List o8):=⟨96,Tryz.f96,[.val A4 [],.val [some 13] [],.val [some 5] []],[none],[.val A4 []],fun r=>.tup [.agg (A9 r.1),l7 13 s7 r.2.1,l7 5 z3 r.2.2],fun _=>[none],Tryz.func96⟩
def d9W:p6->KS:=fun a=>⟨b7B.k 7 [false,true],(bs 2 (.ptr 1 0 0::(bs 2 (.ptr 2 0 0::(bs 55 []))))),[some [],some [.var 65 [vi 0,vi 0,.nil,.nil,vi 0,vi 0,vi 0,.nil,.nil,.b false,vi 0,vi 0,.nil,.nil,vi 0,vi 0,.nil,.b false,.nil,.b false,vi 0,vi 0,.nil,.nil,vi 0,vi 0,.nil]],some [.var 152 (b27 a)]]++a2L a⟩
def b4x(a:p6):Option (j8×(List j9)×List o8):=
 ((a1q a).bind fun W2=>some (W2.1,W2.2.1,W2.2.2.1))
theorem e39(r):NF b7B r d9W (fun s=>b4x s):=fun a h=>PK<|rg<|j7 a3F a4r 1 h fun W2 h=>C6 a<|fE h
def b8s(n:j8):Option (j8×(List j9)×List o8):=
 ((a3a n).bind fun D5=>(bif (!D5) then some ((j8.mk 0 (v6.mk 0 []) [] 0 0 0 [] [] (m5.mk false (s3.mk 0 0) (m9.mk [] [] 0 0)) [] false [] (m5.mk false (s3.mk 0 0) (m9.mk [] [] 0 0)) []),[],[]) else ((a8k n).bind fun begin=>((a2k begin (j9.mk 8 0 0 0 (n.a7.length:Int) (m5.mk false (s3.mk 0 0) (m9.mk [] [] 0 0)) [])).bind fun all=>(((bif (n.f0==1) then ((a2k all (j9.mk 1 0 0 n.a8 (n.a7.length:Int) (m5.mk false (s3.mk 0 0) (m9.mk [] [] 0 0)) [])).bind fun c8K=>some (l8.brk c8K)) else (bif (n.f0==2) then ((a52 all).bind fun Y4=>some (l8.brk Y4)) else (bif (n.f0==3) then ((a2k all (j9.mk 3 0 0 n.a8 (n.a7.length:Int) n.c8 [])).bind fun c5n=>some (l8.brk c5n)) else (bif n.j3 then ((a2k all (j9.mk 7 0 0 0 0 n.b8 [])).bind fun c5u=>some (l8.brk c5u)) else some (l8.brk all))))):Option (l8 (j8×(List j9)×List o8) p6)).bind fun x=>x.go some fun j=>b4x j)))))
theorem e7B{n}:OK b7B [.agg (A9 n)] (b8s n):=
 p8 _ fun r h=>o9<|j7 a0z a6G 1 h fun D5 h=>j5 2 h (fun h=>rg<|fE h) (fun h=>rg<|j7 b1K b4z 1 h fun begin h=>o9<|j7 a0T a5r 3 h fun all h=>H7 begin.n<|C8 begin.out begin.told<|z9 h (e39 r) fun x1 h hc1=>rg<|j5 3 h (fun h=>rg<|j7 a0T a5r 5 h fun c8K h=>C6 all<|(o7 h hc1 fun hI=>sk [] [2,5] [(2,0),(9,0),(28,0),(28,1),(28,2),(28,3),(28,4)] hI)) (fun h=>rg<|j5 3 h (fun h=>rg<|j7 a98 b2w 1 h fun Y4 h=>C6 all<|(o7 h hc1 fun hI=>sk [] [2,5] [(2,0),(9,0),(28,0),(28,1),(28,2),(28,3),(28,4)] hI)) (fun h=>rg<|j5 3 h (fun h=>rg<|j7 a0T a5r 7 h fun c5n h=>C6 all<|(o7 h hc1 fun hI=>sk [] [2,5] [(2,0),(9,0),(38,0),(38,1),(38,2),(38,3),(38,4)] hI)) (fun h=>rg<|j5 2 h (fun h=>rg<|j7 a0T a5r 4 h fun c5u h=>C6 all<|(o7 h hc1 fun hI=>sk [] [2,5] [(2,0),(9,0),(38,0),(38,1),(38,2),(38,3),(38,4)] hI)) (fun h=>(o7 h hc1 fun hI=>sk [] [2,5] [(2,0),(9,0),(18,0),(18,1),(18,2),(18,3),(18,4)] hI))))))
def d0c:FS (j8):=⟨97,Tryz.f97,[.val A4 []],[none],[.val A4 []],fun r=>.agg (A9 r),fun _=>[none],Tryz.func97⟩
def b4Z(n:j8):Option j8:=
 ((a3a n).bind fun D5=>(bif (!D5) then some (j8.mk 0 (v6.mk 0 []) [] 0 0 0 [] [] (m5.mk false (s3.mk 0 0) (m9.mk [] [] 0 0)) [] false [] (m5.mk false (s3.mk 0 0) (m9.mk [] [] 0 0)) []) else ((a6Y (j8.mk n.Id n.Acc n.a7 n.Seq 0 0 [] [] (m5.mk false (s3.mk 0 0) (m9.mk [] [] 0 0)) [] false [] (m5.mk false (s3.mk 0 0) (m9.mk [] [] 0 0)) [])).bind fun V6=>some V6)))
theorem d5G{n}:OK d0c [.agg (A9 n)] (b4Z n):=
 p8 _ fun r h=>o9<|j7 a0z a6G 1 h fun D5 h=>j5 2 h (fun h=>rg<|fE h) (fun h=>rg<|j7 b13 b47 9 h fun V6 h=>H7 V6<|fE h)
def a63:FS (m8):=⟨44,Tryz.f44,[.val E8 om7],[none,none],[.val E8 om7,.val [none,none,some 4] []],fun r=>.agg (a7L r),fun _=>[none,none],Tryz.func44⟩
def d5B:m8->KS:=fun w1=>⟨a63.k 9 [true,false,true],(bs 2 (.ptr 1 0 0::(bs 1 (.ptr 6 0 0::(bs 86 []))))),[some [.dead,.dead,.dead,.dead],some [.var 28 [.own 2 0 27 0 w1.b7.length,.own 3 0 13 0 w1.d8.length,.own 4 0 3 0 w1.g7.length,.own 5 0 5 0 w1.Told.length]],some [m7 65 27 A9 w1.b7],some [m7 68 13 s7 w1.d8],some [m7 70 3 C2 w1.g7],some [m7 51 5 z3 w1.Told],some [.var 28 [.nil,.nil,.nil,.nil]]]⟩
def b5d(w1:m8):Option m8:=
 some w1
theorem e5p(r):NF a63 r d5B (fun s=>b5d s):=fun w1 h=>PK<|rg<|z7 w1<|fE h
def a5T(w:m8)(e_:v5):Option m8:=
 ((idx w.b7 e_.A).bind fun node=>(((bif (e_.a6==1) then (bif decide ((w.g7.length:Int)>=60) then some (l8.ret w) else ((b5o node e_.i7).bind fun G4=>((a36 w G4.1 G4.2.1 G4.2.2).bind fun a2s=>(bif (G4.1.Seq != node.Seq) then (s6 ((a2s.g7.length+1)*40<=140737488355328) (some (l8.brk (m8.mk a2s.b7 a2s.d8 (a2s.g7++[(C1.mk (s3.mk node.Id G4.1.Seq) e_.i7)]) a2s.Told)))) else some (l8.brk a2s))))) else (bif (e_.a6==5) then ((b6C node).bind fun J3=>((a36 w J3.1 J3.2 []).bind fun b16=>some (l8.brk b16))) else (bif (e_.a6==6) then ((b8s node).bind fun J2=>((a36 w J2.1 J2.2.1 J2.2.2).bind fun c7d=>some (l8.brk c7d))) else (bif (e_.a6==7) then ((b4Z node).bind fun O6=>((a36 w O6 [] []).bind fun c9D=>some (l8.brk c9D))) else some (l8.brk w))))):Option (l8 m8 m8)).bind fun x=>x.go some fun j=>b5d j))
theorem b76{w e_}:OK a63 [.agg (a7L w),.agg (T6 e_)] (a5T w e_):=
 p8 _ fun r h=>o9<|A8 h fun node hnode h=>B3 hnode<|H6 A9 5 hnode<|rg<|z9 h (e5p r) fun x1 h hc1=>rg<|j5 1 h (fun h=>rg<|j5 3 h (fun h=>rg<|(B8 h hc1 fun h=>z7 w<|fE h)) (fun h=>rg<|j7 b35 e4K 3 h fun G4 h=>rg<|j7 T3 a8s 4 h fun a2s h=>z7 w<|rg<|j5 4 h (fun h=>rg<|tk 10 [none,none,some 4]<|t0 h fun e1 h=>E5 11 54 70 3 40 C2 a2s.g7 (C1.mk (s3.mk node.Id G4.1.Seq) e_.i7) e1<|D8 (C1.mk (s3.mk node.Id G4.1.Seq) e_.i7)<|(o7 h hc1 fun hI=>sk [] [2,4] [(1,0),(36,0),(36,1),(54,0),(36,3),(3,0)] hI)) (fun h=>(o7 h hc1 fun hI=>sk [] [2,4] [(1,0),(36,0),(36,1),(36,2),(36,3),(3,0)] hI)))) (fun h=>rg<|j5 1 h (fun h=>rg<|j7 b41 e9G 1 h fun J3 h=>rg<|j7 T3 a8s 3 h fun b16 h=>z7 w<|(o7 h hc1 fun hI=>sk [] [2,4] [(1,0),(29,0),(29,1),(29,2),(29,3),(3,0)] hI)) (fun h=>rg<|j5 1 h (fun h=>rg<|j7 b7B e7B 1 h fun J2 h=>rg<|j7 T3 a8s 4 h fun c7d h=>z7 w<|(o7 h hc1 fun hI=>sk [] [2,4] [(1,0),(34,0),(34,1),(34,2),(34,3),(3,0)] hI)) (fun h=>rg<|j5 1 h (fun h=>rg<|j7 d0c d5G 2 h fun O6 h=>j7 T3 a8s 3 h fun c9D h=>z7 w<|(o7 h hc1 fun hI=>sk [] [2,4] [(1,0),(25,0),(25,1),(25,2),(25,3),(3,0)] hI)) (fun h=>(o7 h hc1 fun hI=>sk [] [2,4] [(1,0),(0,0),(0,1),(0,2),(0,3),(3,0)] hI)))))
def c0z:FS (List j9):=⟨98,Tryz.f98,[.val [some 13] [some 68]],[none,none],[.val [some 13] [],.val [] []],fun r=>u0 68 13 s7 r,fun _=>[none,none],Tryz.func98⟩
def b0m(list:List j9)(at_:Int):Option (List j9):=
 (s6 ((0:Int)<=at_/\at_<=(list.length:Int)) ((s6 ((([]:List j9).length+((list.drop 0).take (at_.toNat-0)).length)*152<=140737488355328) ((s6 ((0:Int)<=m4 (at_+1)/\m4 (at_+1)<=(list.length:Int)) ((s6 (((([]:List j9)++((list.drop 0).take (at_.toNat-0))).length+((list.drop (m4 (at_+1)).toNat).take (list.length-(m4 (at_+1)).toNat)).length)*152<=140737488355328) (some ((([]:List j9)++((list.drop 0).take (at_.toNat-0)))++((list.drop (m4 (at_+1)).toNat).take (list.length-(m4 (at_+1)).toNat)))))))))))
theorem d3n{list at_}:OK c0z [l7 13 s7 list,vi at_] (b0m list at_):=
 p8 _ fun r h=>o9<|tk 0 B2<|t0 h fun e1 h=>om (V.sl 13 (at_.toNat-0) (((list.map s7).drop 0).take (at_.toNat-0))=l7 13 s7 ((list.drop 0).take (at_.toNat-0))) (b6f e1)<|ob e1.1<|ob e1.2<|tl (3,{v:=some (l7 13 s7 ((list.drop 0).take (at_.toNat-0)))})<|t0 h fun e2 h=>om (V.own 6 0 13 0 (([]:List j9).length+((list.drop 0).take (at_.toNat-0)).length)=.own 6 0 13 0 (([]:List j9)++((list.drop 0).take (at_.toNat-0))).length) (by first|exact congrArg (V.own 6 0 13 0) e94.symm|simp)<|om (s4.row 68 13 (([]:List j9).length+((list.drop 0).take (at_.toNat-0)).length) (([]:List j9).map s7++((list.drop 0).take (at_.toNat-0)).map s7)=m7 68 13 s7 (([]:List j9)++((list.drop 0).take (at_.toNat-0)))) (by first|exact c3I rfl rfl|simp [m7])<|A7 j9<|ob e2<|tl (4,{v:=some (.own 6 0 13 0 (([]:List j9)++((list.drop 0).take (at_.toNat-0))).length),e:=some (m7 68 13 s7 (([]:List j9)++((list.drop 0).take (at_.toNat-0))))})<|t0 h fun e3 h=>om (V.sl 13 (list.length-(m4 (at_+1)).toNat) (((list.map s7).drop (m4 (at_+1)).toNat).take (list.length-(m4 (at_+1)).toNat))=l7 13 s7 ((list.drop (m4 (at_+1)).toNat).take (list.length-(m4 (at_+1)).toNat))) (b52 e3)<|ob e3.1<|ob e3.2<|tl (8,{v:=some (l7 13 s7 ((list.drop (m4 (at_+1)).toNat).take (list.length-(m4 (at_+1)).toNat)))})<|t0 h fun e4 h=>apL 9 11 68 13 152 s7 (([]:List j9)++((list.drop 0).take (at_.toNat-0))) ((list.drop (m4 (at_+1)).toNat).take (list.length-(m4 (at_+1)).toNat)) e4<|s8 ((([]:List j9)++((list.drop 0).take (at_.toNat-0)))++((list.drop (m4 (at_+1)).toNat).take (list.length-(m4 (at_+1)).toNat)))<|fE h
def b4o:FS (p6):=⟨147,Tryz.f147,[],[some (0,.ptr G9 K7),none],[.ptr G9 K7,.val [] []],fun _=>.tup [],fun r=>[some (.optr 152 (K5 r)),none],Tryz.func147⟩
def a95(a:p6)(bal:Int):Option p6:=
 (bif (a.n.f0 != 0) then (bif decide (bal>a.n.a8) then ((b3w a).bind fun follow=>some follow) else some a) else some a)
theorem c1r{a bal}:OK b4o [.optr 152 (K5 a),vi bal] (a95 a bal):=
 p8 _ fun r h=>rg<|j5 6 h (fun h=>j5 14 h (fun h=>rg<|j7 b7X b9f 1 h fun follow h=>C6 a<|C6 follow<|fE h) (fun h=>C6 a<|fE h)) (fun h=>C6 a<|fE h)
def b31:FS (p6):=⟨142,Tryz.f142,[],[some (0,.ptr G9 K7),none],[.ptr G9 K7,.val B2 []],fun _=>.tup [],fun r=>[some (.optr 152 (K5 r)),none],Tryz.func142⟩
def e6n(m:j9)(yield:p6):(List m6)->KS:=fun b4b=>⟨b31.k 8 [false,true],(.ptr 0 0 0::(bs 2 (.ptr 6 0 0::(bs 2 (l7 8 p7 b4b::(bs 54 [])))))),[some [.var 152 (b2t yield),.dead,.dead,.dead,.dead,.dead]]++a2L yield++[some [.var 68 (a0a m)]]⟩
def b8a(m:j9)(yield:p6)(b4b:List m6):Option p6:=
 ((a3u yield m.c9 (j9.mk 2 0 0 m.a8 m.g8 (m5.mk false (s3.mk 0 0) (m9.mk [] [] 0 0)) b4b)).bind fun a70=>some a70)
theorem d7l(m yield)(r):NF b31 r (e6n m yield) (fun s=>b8a m yield s):=fun b4b h=>PK<|rg<|j7 a5p a7o 9 h fun a70 h=>C6 yield<|C6 a70<|fE h
def b7Z(a:p6)(m:j9):Option p6:=
 ((a8C a.n.Acc m.a8).bind fun U0=>(bif (!U0.2) then ((a3u a m.c9 (j9.mk 6 0 0 a.n.Acc.i5 0 (m5.mk false (s3.mk 0 0) (m9.mk [] [] 0 0)) [])).bind fun X1=>some X1) else ((a95 (p6.mk (j8.mk a.n.Id U0.1 a.n.a7 a.n.Seq a.n.f0 a.n.a8 a.n.c9 a.n.i4 a.n.c8 a.n.a0 a.n.j3 a.n.i7 a.n.b8 a.n.d6) a.out a.told) m.a8).bind fun yield=>(((bif decide (m.g8<(U0.1.a0.length:Int)) then (s6 ((0:Int)<=m.g8/\m.g8<=(U0.1.a0.length:Int)) (some (l8.brk ((U0.1.a0.drop m.g8.toNat).take (U0.1.a0.length-m.g8.toNat))))) else some (l8.brk [])):Option (l8 p6 (List m6))).bind fun x=>x.go some fun j=>b8a m yield j))))
theorem e0l{a m}:OK b31 [.optr 152 (K5 a),.agg (s7 m)] (b7Z a m):=
 p8 _ fun r h=>o9<|j7 b6m b8C 7 h fun U0 h=>rg<|j5 1 h (fun h=>rg<|j7 a5p a7o 10 h fun X1 h=>C6 a<|C6 X1<|fE h) (fun h=>o9<|j7 b4o c1r 3 h fun yield h=>C6 a<|rg<|z9 h (d7l m yield r) fun x1 h hc1=>rg<|j5 5 h (fun h=>rg<|t0 h fun e1 h=>om (V.sl 8 (U0.1.a0.length-m.g8.toNat) (((U0.1.a0.map p7).drop m.g8.toNat).take (U0.1.a0.length-m.g8.toNat))=l7 8 p7 ((U0.1.a0.drop m.g8.toNat).take (U0.1.a0.length-m.g8.toNat))) (b52 e1)<|ob e1.1<|ob e1.2<|tl (4,{v:=some (l7 8 p7 ((U0.1.a0.drop m.g8.toNat).take (U0.1.a0.length-m.g8.toNat)))})<|(o7 h hc1 fun hI=>sk [] [0,3,6] [(27,0),(27,1),(27,2),(27,3),(27,4),(1,0)] hI)) (fun h=>(o7 h hc1 fun hI=>sk [.frz (.tmp 6) (some 8)] [0,3,6] [(27,0),(27,1),(27,2),(27,3),(27,4),(1,0)] hI)))
def a2I:FS (List m6):=⟨175,Tryz.f175,[.val [some 8] []],[none,none],[.val [some 8] [],.val [some 8] []],fun r=>l7 8 p7 r,fun _=>[none,none],Tryz.func175⟩
def b4R:(List m6)->KS:=fun out1=>⟨a2I.k 5 [false,false],(bs 5 (.own 1 0 8 0 out1.length::(bs 67 []))),[some [],some [m7 130 8 p7 out1]]⟩
def c1F(out1:List m6):Option (List m6):=
 ((a72 out1).bind fun a0r=>some a0r)
theorem d9d(r):NF a2I r b4R (fun s=>c1F s):=fun out1 h=>PK<|rg<|j7 a3j b6l 1 h fun a0r h=>C8 out1 a0r<|fE h
def b9M(a:List m6)(b:List m6):((List m6)×Int)->KS:=fun (out,i)=>⟨a2I.k 4 [false],(l7 8 p7 a::(l7 8 p7 b::(bs 3 (.own 1 0 8 0 out.length::(vi i::(bs 66 [])))))),[some [],some [m7 130 8 p7 out]]⟩
def d9O(a:List m6)(b:List m6)(out:List m6)(i:Int):Unit->KS:=fun _=>⟨a2I.k 5 [false,true],(l7 8 p7 a::(l7 8 p7 b::(bs 3 (.own 1 0 8 0 out.length::(vi i::(bs 66 [])))))),[some [],some [m7 130 8 p7 out]]⟩
def d5y(a:List m6)(b:List m6)(i:Int):(List m6)->KS:=fun out2=>⟨a2I.k 7 [false,true,true],(l7 8 p7 a::(l7 8 p7 b::(bs 3 (.own 1 0 8 0 out2.length::(vi i::(bs 66 [])))))),[some [],some [m7 130 8 p7 out2]]⟩
def c0V(i:Int)(out2:List m6):Option (l9 (List m6) ((List m6)×Int) (List m6)):=
 some (l9.nxt (out2,m4 (i+1)))
theorem d8R(a b i)(lc:J5 a2I b4R (b9M a b)):NL lc (d5y a b i) (fun s=>c0V i s):=fun out2 h=>PK<|rg<|(lc.nx h fun hI=>sk [] [0,1,5,6] [(1,0)] hI)
def b7s(a:List m6)(b:List m6)(out:List m6)(i:Int):Option (l9 (List m6) ((List m6)×Int) (List m6)):=
 (((bif decide (i>=(a.length:Int)) then ((idx b i).bind fun vote=>(s6 ((out.length+1)*96<=140737488355328) (some (l8.brk (out++[vote]))))) else (bif decide (i>=(b.length:Int)) then ((idx a i).bind fun Q9=>(s6 ((out.length+1)*96<=140737488355328) (some (l8.brk (out++[Q9]))))) else ((idx a i).bind fun b1w=>((idx b i).bind fun b0s=>(bif decide (b1w.a8>=b0s.a8) then (s6 ((out.length+1)*96<=140737488355328) (some (l8.brk (out++[b1w])))) else (s6 ((out.length+1)*96<=140737488355328) (some (l8.brk (out++[b0s]))))))))):Option (l8 (l9 (List m6) ((List m6)×Int) (List m6)) (List m6))).bind fun x=>x.go some fun j=>c0V i j)
theorem e0j(a b out i)(lc:J5 a2I b4R (b9M a b)):NL lc (d9O a b out i) (fun s=>b7s a b out i):=fun _ h=>PK<|z9 h (d8R a b i lc) fun x2 h hc2=>rg<|j5 4 h (fun h=>rg<|x8 p7 3 h fun vote J9 h=>tk 5 O9<|t0 h fun e1 h=>E5 6 13 130 8 96 p7 out vote e1<|D8 vote<|(o7 h hc2 fun hI=>sk [] [0,1,5,6] [(13,0)] hI)) (fun h=>rg<|j5 4 h (fun h=>rg<|x8 p7 3 h fun Q9 a3d h=>tk 5 O9<|t0 h fun e2 h=>E5 6 31 130 8 96 p7 out Q9 e2<|D8 Q9<|(o7 h hc2 fun hI=>sk [] [0,1,5,6] [(31,0)] hI)) (fun h=>x8 p7 7 h fun b1w d6g h=>x8 p7 12 h fun b0s d53 h=>j5 17 h (fun h=>rg<|L0 p7 3 d6g<|tk 5 O9<|t0 h fun e3 h=>E5 6 31 130 8 96 p7 out b1w e3<|D8 b1w<|(o7 h hc2 fun hI=>sk [] [0,1,5,6] [(31,0)] hI)) (fun h=>rg<|L0 p7 3 d53<|tk 5 O9<|t0 h fun e4 h=>E5 6 31 130 8 96 p7 out b0s e4<|D8 b0s<|(o7 h hc2 fun hI=>sk [] [0,1,5,6] [(31,0)] hI))))
def a5K(a:List m6)(b:List m6)(out:List m6)(i:Int):Option (l9 (List m6) ((List m6)×Int) (List m6)):=
 (((bif decide (i<(a.length:Int)) then some (l8.brk ()) else (bif decide (i<(b.length:Int)) then some (l8.brk ()) else some (l8.ret (l9.brk out)))):Option (l8 (l9 (List m6) ((List m6)×Int) (List m6)) Unit)).bind fun x=>x.go some fun j=>b7s a b out i)
theorem e54(a b):LQ a2I b4R (b9M a b) (fun s=>a5K a b s.1 s.2):=fun lc (out,i) h=>PK<|z9 h (e0j a b out i lc) fun x2 h hc2=>rg<|j5 4 h (fun h=>(o7 h hc2 fun hI=>sk [] [0,1,5,6] [(1,0)] hI)) (fun h=>j5 9 h (fun h=>(o7 h hc2 fun hI=>sk [] [0,1,5,6] [(1,0)] hI)) (fun h=>(B8 h hc2 fun h=>(lc.bk h fun hI=>sk [] [5] [(1,0)] hI))))
def b4i(a:List m6)(b:List m6):Option (List m6):=
 ((a41 a).bind fun J6=>(bif (!J6) then some [] else ((a41 b).bind fun c7w=>(bif (!c7w) then some [] else ((s2 (fun s:(List m6)×Int=>a5K a b s.1 s.2) ([],0)).bind fun x=>x.go (fun r=>some r) fun s=>c1F s)))))
theorem e3d{a b}:OK a2I [l7 8 p7 a,l7 8 p7 b] (b4i a b):=
 p8 _ fun r h=>o9<|j7 a2m b2B 1 h fun J6 h=>j5 3 h (fun h=>rg<|fE h) (fun h=>j7 a2m b2B 5 h fun c7w h=>j5 7 h (fun h=>rg<|fE h) (fun h=>o9<|lp (e54 a b) h (fun _ h=>a2I.rt h) (d9d r) fun hI=>sk [.own (.tmp 5) 130 8] [0,1,5,6] [(12,0)] hI))
def a3C:FS (Int):=⟨176,Tryz.f176,[.val [] []],[none],[.val [some 1] []],fun r=>vi r,fun _=>[none],Tryz.func176⟩
def c3Q:Int->KS:=fun n1=>⟨a3C.k 4 [false],(bs 3 (vi n1::(bs 13 []))),[some []]⟩
def c8d(n1:Int):Option Int:=
 some n1
theorem e67(r):NF a3C r c3Q (fun s=>c8d s):=fun n1 h=>PK<|rg<|fE h
def d1E(list:List Bool):(Int×Int)->KS:=fun (n,v8)=>⟨a3C.k 3 [],(bs 3 (vi n::(bs 2 (l7 1 eB list::(vi (list.length:Int)::(vi v8::(bs 8 []))))))),[some []]⟩
def e1B(list:List Bool)(v8:Int):Int->KS:=fun n2=>⟨a3C.k 7 [true,true],(bs 3 (vi n2::(bs 2 (l7 1 eB list::(vi (list.length:Int)::(vi v8::(bs 8 []))))))),[some []]⟩
def b96(v8:Int)(n2:Int):Option (l9 Int (Int×Int) Int):=
 some (l9.nxt (n2,m4 (v8+1)))
theorem e6X(list v8)(lc:J5 a3C c3Q (d1E list)):NL lc (e1B list v8) (fun s=>b96 v8 s):=fun n2 h=>PK<|rg<|(lc.nx h fun hI=>sk [] [3,6,7,8] [] hI)
def a4w(list:List Bool)(n:Int)(v8:Int):Option (l9 Int (Int×Int) Int):=
 (bif decide (v8<(list.length:Int)) then ((idx list v8).bind fun y=>(((bif y then some (l8.brk (m4 (n+1))) else some (l8.brk n)):Option (l8 (l9 Int (Int×Int) Int) Int)).bind fun x=>x.go some fun j=>b96 v8 j)) else some (l9.brk n))
theorem e3c(list):LQ a3C c3Q (d1E list) (fun s=>a4w list s.1 s.2):=fun lc (n,v8) h=>PK<|rg<|j5 0 h (fun h=>rg<|x8 eB 0 h fun y hy h=>z9 h (e6X list v8 lc) fun x2 h hc2=>rg<|j5 0 h (fun h=>rg<|(o7 h hc2 fun hI=>sk [] [3,6,7,8] [] hI)) (fun h=>(o7 h hc2 fun hI=>sk [] [3,6,7,8] [] hI))) (fun h=>(lc.bk h fun hI=>sk [] [3] [] hI))
def b0F(list:List Bool):Option Int:=
 ((s2 (fun s:Int×Int=>a4w list s.1 s.2) (0,0)).bind fun x=>x.go (fun r=>some r) fun s=>c8d s)
theorem c4c{list}:OK a3C [l7 1 eB list] (b0F list):=
 p8 _ fun r h=>M7<|lp (e3c list) h (fun _ h=>a3C.rt h) (e67 r) fun hI=>sk [] [3,6,7,8] [] hI
def d0p:FS (p6):=⟨143,Tryz.f143,[],[some (0,.ptr G9 K7),none],[.ptr G9 K7,.val B2 []],fun _=>.tup [],fun r=>[some (.optr 152 (K5 r)),none],Tryz.func143⟩
def b5w(a:p6)(m:j9):Option p6:=
 (bif (a.n.f0 != 1) then some a else (bif (m.a8 != a.n.a8) then some a else ((idx a.n.c9 m.c9).bind fun y=>(s6 (0<=m.g8/\m.g8*96<=140737488355328) ((s6 (((e9R m.g8.toNat (m6.mk 0 (m5.mk false (s3.mk 0 0) (m9.mk [] [] 0 0)))).length+m.a0.length)*96<=140737488355328) (((b4i a.n.i4 ((e9R m.g8.toNat (m6.mk 0 (m5.mk false (s3.mk 0 0) (m9.mk [] [] 0 0))))++m.a0)).bind fun b9q=>((b0F (a.n.c9.set m.c9.toNat true)).bind fun b2q=>(bif decide (b2q>=2) then ((a52 (p6.mk (j8.mk a.n.Id a.n.Acc a.n.a7 a.n.Seq 2 a.n.a8 [] b9q a.n.c8 a.n.a0 a.n.j3 a.n.i7 a.n.b8 a.n.d6) a.out a.told)).bind fun Y4=>some Y4) else some (p6.mk (j8.mk a.n.Id a.n.Acc a.n.a7 a.n.Seq a.n.f0 a.n.a8 (a.n.c9.set m.c9.toNat true) b9q a.n.c8 a.n.a0 a.n.j3 a.n.i7 a.n.b8 a.n.d6) a.out a.told)))))))))))
theorem d4I{a m}:OK d0p [.optr 152 (K5 a),.agg (s7 m)] (b5w a m):=
 p8 _ fun r h=>o9<|j5 6 h (fun h=>C6 a<|fE h) (fun h=>j5 15 h (fun h=>C6 a<|fE h) (fun h=>rg<|A8 h fun y hy h=>B3 hy<|O8 4 1 eB 8 [] true hy<|rg<|t0 h fun e1 h=>S7 8 35 130 8 96 p7 (m6.mk 0 (m5.mk false (s3.mk 0 0) (m9.mk [] [] 0 0))) b1v (.ck O9) e1 (by decide) (by rfl)<|t0 h fun e2 h=>apL 11 38 130 8 96 p7 (e9R m.g8.toNat (m6.mk 0 (m5.mk false (s3.mk 0 0) (m9.mk [] [] 0 0)))) m.a0 e2<|j7 a2I e3d 12 h fun b9q h=>s8 ((e9R m.g8.toNat (m6.mk 0 (m5.mk false (s3.mk 0 0) (m9.mk [] [] 0 0))))++m.a0)<|rg<|R2 a3C c4c 5 1 h fun b2q h=>om (a.n.c9.length=(a.n.c9.set m.c9.toNat true).length) (by simp)<|j5 6 h (fun h=>M7<|j7 a98 b2w 1 h fun Y4 h=>I7 a.n.a7 a.n.a0 a.out a.told<|C6 Y4<|fE h) (fun h=>s8 a.n.a7<|om (a.n.c9.length=(a.n.c9.set m.c9.toNat true).length) (by simp)<|L2 a.n.a0 a.out a.told<|fE h)))
def d0j:FS (p6):=⟨144,Tryz.f144,[],[some (0,.ptr G9 K7),none],[.ptr G9 K7,.val B2 []],fun _=>.tup [],fun r=>[some (.optr 152 (K5 r)),none],Tryz.func144⟩
def b7V(a:p6)(m:j9):Option p6:=
 ((b2E a.n.Acc m.a8 m.g8 m.g9).bind fun a7K=>(bif (!a7K.2) then ((a3u a m.c9 (j9.mk 6 0 0 a.n.Acc.i5 0 (m5.mk false (s3.mk 0 0) (m9.mk [] [] 0 0)) [])).bind fun X1=>some X1) else ((a95 (p6.mk (j8.mk a.n.Id a7K.1 a.n.a7 a.n.Seq a.n.f0 a.n.a8 a.n.c9 a.n.i4 a.n.c8 a.n.a0 a.n.j3 a.n.i7 a.n.b8 a.n.d6) a.out a.told) m.a8).bind fun yield=>((a3u yield m.c9 (j9.mk 4 0 0 m.a8 m.g8 (m5.mk false (s3.mk 0 0) (m9.mk [] [] 0 0)) [])).bind fun a70=>some a70))))
theorem e2R{a m}:OK d0j [.optr 152 (K5 a),.agg (s7 m)] (b7V a m):=
 p8 _ fun r h=>o9<|j7 a6r c6Z 11 h fun a7K h=>rg<|j5 1 h (fun h=>rg<|j7 a5p a7o 10 h fun X1 h=>C6 a<|C6 X1<|fE h) (fun h=>o9<|j7 b4o c1r 3 h fun yield h=>C6 a<|rg<|j7 a5p a7o 8 h fun a70 h=>C6 yield<|C6 a70<|fE h)
def a10:FS (p6):=⟨177,Tryz.f177,[],[some (0,.ptr G9 K7),none],[.ptr G9 K7,.val I5 []],fun _=>.tup [],fun r=>[some (.optr 152 (K5 r)),none],Tryz.func177⟩
def d6C:p6->KS:=fun a1=>⟨a10.k 6 [true],(.ptr 0 0 0::(bs 123 [])),[some ([.var 152 (d0v a1),.dead,m7 4 1 eB a1.n.c9,.dead]++c6h a1)]++d1C a1⟩
def c65:p6->KS:=fun a2=>⟨a10.k 16 [true,true,true],(.ptr 0 0 0::(bs 123 [])),[some [.var 152 (d56 a2),.dead,m7 4 1 eB a2.n.c9,.dead,m7 68 13 s7 a2.out,.dead]]++e49 a2⟩
def b7g(a2:p6):Option p6:=
 ((a52 a2).bind fun Y4=>some Y4)
theorem e8k(r):NF a10 r c65 (fun s=>b7g s):=fun a2 h=>PK<|rg<|j7 a98 b2w 1 h fun Y4 h=>C6 a2<|C6 Y4<|fE h
def d81(a1:p6)(y:Int):Int->KS:=fun a9t=>⟨a10.k 12 [true,true,true],(.ptr 0 0 0::(bs 6 (.ptr 3 0 0::(bs 116 [])))),[some ([.var 152 (d0v a1),.dead,m7 4 1 eB a1.n.c9,.dead]++c6h a1)]++d1C a1++[some [.var 51 [vi a1.n.Id,vi a1.n.b8.a5.d7,vi a1.n.b8.a5.Seq,vi y,vi a9t]]]⟩
def b5t(a1:p6)(y:Int)(a9t:Int):Option (l8 p6 p6):=
 (s6 ((a1.told.length+1)*40<=140737488355328) (some (l8.brk (p6.mk (j8.mk a1.n.Id a1.n.Acc a1.n.a7 a1.n.Seq a1.n.f0 a1.n.a8 a1.n.c9 a1.n.i4 a1.n.c8 a1.n.a0 false [] (m5.mk false (s3.mk 0 0) (m9.mk [] [] 0 0)) a1.n.d6) a1.out (a1.told++[(o8.mk a1.n.Id a1.n.b8.a5 y a9t)])))))
theorem d8T(a1 y)(r){x1}(hc1:JC (fun j=>FK cx a10.X (a10.R r) (a10.O r) (c65 j)) r x1):NG a10 r (d81 a1 y) (fun s=>b5t a1 y s) x1:=fun a9t h=>PK<|rg<|tk 6 []<|t0 h fun e2 h=>E5 7 11 51 5 40 z3 a1.told (o8.mk a1.n.Id a1.n.b8.a5 y a9t) e2<|D8 (o8.mk a1.n.Id a1.n.b8.a5 y a9t)<|M7<|(o7 h hc1 fun hI=>sk [.frz (.cell 0 0 18) (some 4),.frz (.cell 0 0 22) (some 2),.frz (.cell 0 0 23) (some 2)] [0] [(1,0),(2,0),(11,0)] hI)
def b5Z(a1:p6):Option p6:=
 ((a8Z a1.n.a7 a1.n.b8.a5).bind fun first=>(((bif a1.n.j3 then (bif decide (first>=0) then ((b3q a1.n.a7).bind fun A2=>((idx A2.2 first).bind fun y=>(((bif (y==0) then ((idx a1.n.a7 first).bind fun entry=>some (l8.brk entry.b9.d9)) else some (l8.brk 0)):Option (l8 (l8 p6 p6) Int)).bind fun x=>x.go some fun j=>b5t a1 y j))) else some (l8.brk a1)) else some (l8.brk a1)):Option (l8 p6 p6)).bind fun x=>x.go some fun j=>b7g j))
theorem e4n(r):NF a10 r d6C (fun s=>b5Z s):=fun a1 h=>PK<|rg<|R2 a2M c2p 11 2 h fun first h=>s8 a1.n.a7<|z9 h (e8k r) fun x1 h hc1=>rg<|j5 5 h (fun h=>j5 8 h (fun h=>rg<|cbS a4y c4Q 5 (fun _=>(by simp [a4y,K0,S4,N8,V.simple,vi,u0,b0x,z5,C0,eI,T9,a8b])) (fun _=>(S6 1)) h fun A2 h=>s8 a1.n.a7<|rg<|A8 h fun y hy h=>B3 hy<|H6 eI 14 hy<|z9 h (d8T a1 y r hc1) fun x2 h hc2=>rg<|j5 2 h (fun h=>rg<|A8 h fun entry H1 h=>B3 H1<|H6 t5 9 H1<|(o7 h hc2 fun hI=>sk [] [0,7] [(1,0),(2,0),(53,0)] hI)) (fun h=>(o7 h hc2 fun hI=>sk [] [0,7] [(1,0),(2,0),(53,0)] hI))) (fun h=>(o7 h hc1 fun hI=>sk [] [0] [(1,0),(2,0),(0,5)] hI))) (fun h=>(o7 h hc1 fun hI=>sk [] [0] [(1,0),(2,0),(0,5)] hI))
def b1E(a:p6)(e_:m5):Option p6:=
 (s6 ((a.n.a7.length+1)*88<=140737488355328) ((((bif (a.n.f0==3) then some (l8.brk (p6.mk (j8.mk a.n.Id a.n.Acc (a.n.a7++[e_]) a.n.Seq 2 a.n.a8 a.n.c9 a.n.i4 (m5.mk false (s3.mk 0 0) (m9.mk [] [] 0 0)) [] a.n.j3 a.n.i7 a.n.b8 a.n.d6) a.out a.told)) else some (l8.brk (p6.mk (j8.mk a.n.Id a.n.Acc (a.n.a7++[e_]) a.n.Seq a.n.f0 a.n.a8 a.n.c9 a.n.i4 a.n.c8 a.n.a0 a.n.j3 a.n.i7 a.n.b8 a.n.d6) a.out a.told))):Option (l8 p6 p6)).bind fun x=>x.go some fun j=>b5Z j)))
theorem c4I{a e_}:OK a10 [.optr 152 (K5 a),.agg (t5 e_)] (b1E a e_):=
 p8 _ fun r h=>o9<|tk 7 I5<|t0 h fun e1 h=>E5 8 10 63 7 88 t5 a.n.a7 e_ e1<|D8 e_<|z9 h (e4n r) fun x1 h hc1=>rg<|j5 5 h (fun h=>M7<|(o7 h hc1 fun hI=>sk [.frz (.cell 0 0 12) (some 2),.frz (.cell 0 0 13) (some 2),.own (.cell 0 0 16) 4 1,.kill 0 3] [0] [(10,0),(37,0)] hI)) (fun h=>(o7 h hc1 fun hI=>sk [] [0] [(10,0),(0,3)] hI))
def c9W:FS (p6):=⟨145,Tryz.f145,[],[some (0,.ptr G9 K7),none],[.ptr G9 K7,.val B2 []],fun _=>.tup [],fun r=>[some (.optr 152 (K5 r)),none],Tryz.func145⟩
def b4s(a:p6)(m:j9):Option p6:=
 (bif (a.n.f0 != 3) then some a else (bif (m.a8 != a.n.a8) then some a else (bif (m.g8 != (a.n.a7.length:Int)) then some a else ((idx a.n.a0 m.c9).bind fun y=>((b0F (a.n.a0.set m.c9.toNat true)).bind fun b2q=>(bif decide (b2q>=2) then ((a2k (p6.mk (j8.mk a.n.Id a.n.Acc a.n.a7 a.n.Seq a.n.f0 a.n.a8 a.n.c9 a.n.i4 a.n.c8 (a.n.a0.set m.c9.toNat true) a.n.j3 a.n.i7 a.n.b8 a.n.d6) a.out a.told) (j9.mk 5 0 0 0 m.g8 a.n.c8 [])).bind fun all=>((b1E all all.n.c8).bind fun a7t=>some a7t)) else some (p6.mk (j8.mk a.n.Id a.n.Acc a.n.a7 a.n.Seq a.n.f0 a.n.a8 a.n.c9 a.n.i4 a.n.c8 (a.n.a0.set m.c9.toNat true) a.n.j3 a.n.i7 a.n.b8 a.n.d6) a.out a.told)))))))
theorem e4x{a m}:OK c9W [.optr 152 (K5 a),.agg (s7 m)] (b4s a m):=
 p8 _ fun r h=>o9<|j5 6 h (fun h=>C6 a<|fE h) (fun h=>j5 16 h (fun h=>C6 a<|fE h) (fun h=>j5 26 h (fun h=>C6 a<|fE h) (fun h=>rg<|A8 h fun y hy h=>B3 hy<|O8 4 1 eB 8 [] true hy<|rg<|R2 a3C c4c 5 1 h fun b2q h=>om (a.n.a0.length=(a.n.a0.set m.c9.toNat true).length) (by simp)<|j5 6 h (fun h=>rg<|j7 a0T a5r 9 h fun all h=>C8 a.n.a7 a.n.c9<|om (a.n.a0.length=(a.n.a0.set m.c9.toNat true).length) (by simp)<|C8 a.out a.told<|rg<|j7 a10 c4I 6 h fun a7t h=>C6 all<|C6 a7t<|fE h) (fun h=>C8 a.n.a7 a.n.c9<|om (a.n.a0.length=(a.n.a0.set m.c9.toNat true).length) (by simp)<|C8 a.out a.told<|fE h))))
def c7W:FS (p6):=⟨146,Tryz.f146,[],[some (0,.ptr G9 K7),none],[.ptr G9 K7,.val B2 []],fun _=>.tup [],fun r=>[some (.optr 152 (K5 r)),none],Tryz.func146⟩
def b7N(a:p6)(m:j9):Option p6:=
 (bif decide (m.g8<(a.n.a7.length:Int)) then some a else (bif decide (m.g8>(a.n.a7.length:Int)) then ((a3u a m.c9 (j9.mk 8 0 0 0 (a.n.a7.length:Int) (m5.mk false (s3.mk 0 0) (m9.mk [] [] 0 0)) [])).bind fun X1=>some X1) else ((b1E a m.g9).bind fun a7t=>some a7t)))
theorem d5q{a m}:OK c7W [.optr 152 (K5 a),.agg (s7 m)] (b7N a m):=
 p8 _ fun r h=>o9<|j5 9 h (fun h=>C6 a<|fE h) (fun h=>rg<|j5 9 h (fun h=>rg<|j7 a5p a7o 10 h fun X1 h=>C6 a<|C6 X1<|fE h) (fun h=>rg<|j7 a10 c4I 3 h fun a7t h=>C6 a<|C6 a7t<|fE h))
def c5j:FS (Bool×p6):=⟨178,Tryz.f178,[.val [] []],[some (0,.ptr G9 om8),none],[.ptr G9 om8,.val [] []],fun r=>.b r.1,fun r=>[some (.optr 152 (b4c r.2)),none],Tryz.func178⟩
def b7P(a:p6)(q:s3):Option (Bool×p6):=
 ((a8Z a.n.a7 q).bind fun first=>some (decide (first>=0),a))
theorem e7M{a q}:OK c5j [.optr 152 (b4c a),.agg (T9 q)] (b7P a q):=
 p8 _ fun r h=>o9<|R2 a2M c2p 6 2 h fun first h=>s8 a.n.a7<|H7 a.n<|C8 a.out a.told<|fE h
def d0X:FS (p6):=⟨148,Tryz.f148,[],[some (0,.ptr G9 K7),none],[.ptr G9 om8,.val B2 []],fun _=>.tup [],fun r=>[some (.optr 152 (K5 r)),none],Tryz.func148⟩
def b7y(a:p6)(m:j9):Option p6:=
 (bif (a.n.f0==0) then some a else (bif decide ((a.n.d6.length:Int)>=4) then some a else ((b7P a m.g9.a5).bind fun v_=>(bif v_.1 then some v_.2 else (s6 ((v_.2.n.d6.length+1)*88<=140737488355328) (((a52 (p6.mk (j8.mk v_.2.n.Id v_.2.n.Acc v_.2.n.a7 v_.2.n.Seq v_.2.n.f0 v_.2.n.a8 v_.2.n.c9 v_.2.n.i4 v_.2.n.c8 v_.2.n.a0 v_.2.n.j3 v_.2.n.i7 v_.2.n.b8 (v_.2.n.d6++[m.g9])) v_.2.out v_.2.told)).bind fun Y4=>some Y4)))))))
theorem d5S{a m}:OK d0X [.optr 152 (b4c a),.agg (s7 m)] (b7y a m):=
 p8 _ fun r h=>o9<|j5 6 h (fun h=>H7 a.n<|C8 a.out a.told<|fE h) (fun h=>j5 15 h (fun h=>H7 a.n<|C8 a.out a.told<|fE h) (fun h=>j7 c5j e7M 20 h fun v_ h=>H7 a.n<|C8 a.out a.told<|j5 21 h (fun h=>H7 v_.2.n<|C8 v_.2.out v_.2.told<|fE h) (fun h=>rg<|tk 8 I5<|t0 h fun e1 h=>E5 9 33 63 7 88 t5 v_.2.n.d6 m.g9 e1<|D8 m.g9<|rg<|j7 a98 b2w 1 h fun Y4 h=>I7 v_.2.n.a7 v_.2.n.c9 v_.2.n.a0 (v_.2.n.d6++[m.g9])<|C8 v_.2.out v_.2.told<|C6 Y4<|fE h)))
def a1K:FS (j8×(List j9)×List o8):=⟨99,Tryz.f99,[.val A4 [],.val [some 13] [],.val [some 5] []],[none,none],[.val A4 [],.val B2 []],fun r=>.tup [.agg (A9 r.1),l7 13 s7 r.2.1,l7 5 z3 r.2.2],fun _=>[none,none],Tryz.func99⟩
def c7S:p6->KS:=fun a=>⟨a1K.k 7 [false,false,true],(bs 4 (.ptr 1 0 0::(bs 2 (.ptr 2 0 0::(bs 108 []))))),[some [],some [.var 65 [vi 0,vi 0,.nil,.nil,vi 0,vi 0,vi 0,.nil,.nil,.b false,vi 0,vi 0,.nil,.nil,vi 0,vi 0,.nil,.b false,.nil,.b false,vi 0,vi 0,.nil,.nil,vi 0,vi 0,.nil]],some [.var 152 (b27 a)]]++a2L a⟩
def b7L(a:p6):Option (j8×(List j9)×List o8):=
 ((a1q a).bind fun a3T=>some (a3T.1,a3T.2.1,a3T.2.2.1))
theorem d6J(r):NF a1K r c7S (fun s=>b7L s):=fun a h=>PK<|rg<|j7 a3F a4r 1 h fun a3T h=>C6 a<|fE h
def c5H:p6->KS:=fun a2=>⟨a1K.k 15 [false,false,false,false,false,false,false,false,false,true,false],(bs 4 (.ptr 1 0 0::(bs 2 (.ptr 2 0 0::(bs 108 []))))),[some [],some [.var 65 [vi 0,vi 0,.nil,.nil,vi 0,vi 0,vi 0,.nil,.nil,.b false,vi 0,vi 0,.nil,.nil,vi 0,vi 0,.nil,.b false,.nil,.b false,vi 0,vi 0,.nil,.nil,vi 0,vi 0,.nil]],some [.var 152 (b27 a2)]]++a2L a2⟩
def c84(a2:p6):Option (l8 (j8×(List j9)×List o8) p6):=
 some (l8.brk a2)
theorem e1X(r){x1}(hc1:JC (fun j=>FK cx a1K.X (a1K.R r) (a1K.O r) (c7S j)) r x1):NG a1K r c5H (fun s=>c84 s) x1:=fun a2 h=>PK<|(o7 h hc1 fun hI=>sk [] [4,7] [(1,0),(2,0),(3,0),(4,0),(5,0),(6,0),(7,0)] hI)
def d4F(m:j9):(Int×p6)->KS:=fun (i,a1)=>⟨a1K.k 14 [false,false,false,false,false,false,false,false,false,true],(bs 3 (.ptr 1 0 0::(.ptr 2 0 0::(bs 2 (.ptr 3 0 0::(vi i::(bs 107 []))))))),[some [],some [.var 68 (a0a m)],some [.var 65 [vi 0,vi 0,.nil,.nil,vi 0,vi 0,vi 0,.nil,.nil,.b false,vi 0,vi 0,.nil,.nil,vi 0,vi 0,.nil,.b false,.nil,.b false,vi 0,vi 0,.nil,.nil,vi 0,vi 0,.nil]],some [.var 152 (d6p a1)]]++a2L a1⟩
def a5q(m:j9)(i:Int)(a1:p6):Option (l9 (j8×(List j9)×List o8) (Int×p6) p6):=
 (bif decide (i<(a1.n.a7.length:Int)) then ((idx a1.n.a7 i).bind fun entry=>((a3u a1 m.c9 (j9.mk 5 0 0 0 i entry [])).bind fun X1=>some (l9.nxt (m4 (i+1),X1)))) else some (l9.brk a1))
theorem d34(m):LQ a1K c5H (d4F m) (fun s=>a5q m s.1 s.2):=fun lc (i,a1) h=>PK<|rg<|j5 7 h (fun h=>rg<|A8 h fun entry H1 h=>B3 H1<|H6 t5 11 H1<|j7 a5p a7o 13 h fun X1 h=>C6 a1<|rg<|(lc.nx h fun hI=>sk [] [3,4,7,8] [(1,0),(2,0),(3,0),(30,0),(30,1),(30,2),(30,3),(30,4)] hI)) (fun h=>(lc.bk h fun hI=>sk [] [4,7] [(2,0),(3,0),(4,0),(5,0),(6,0),(7,0),(8,0)] hI))
def b6d(n:j8)(m:j9):Option (j8×(List j9)×List o8):=
 ((a3a n).bind fun D5=>(bif (!D5) then some ((j8.mk 0 (v6.mk 0 []) [] 0 0 0 [] [] (m5.mk false (s3.mk 0 0) (m9.mk [] [] 0 0)) [] false [] (m5.mk false (s3.mk 0 0) (m9.mk [] [] 0 0)) []),[],[]) else ((a8k n).bind fun begin=>((b19 m).bind fun I4=>(bif (!I4) then ((a1q begin).bind fun W2=>some (W2.1,W2.2.1,W2.2.2.1)) else (bif (m.To != n.Id) then ((a1q begin).bind fun a4c=>some (a4c.1,a4c.2.1,a4c.2.2.1)) else (((bif (m.a6==1) then ((b7Z begin m).bind fun c7C=>some (l8.brk c7C)) else (bif (m.a6==2) then ((b5w begin m).bind fun c6b=>some (l8.brk c6b)) else (bif (m.a6==3) then ((b7V begin m).bind fun c9x=>some (l8.brk c9x)) else (bif (m.a6==4) then ((b4s begin m).bind fun c5r=>some (l8.brk c5r)) else (bif (m.a6==5) then ((b7N begin m).bind fun d28=>some (l8.brk d28)) else (bif (m.a6==6) then ((a8C begin.n.Acc m.a8).bind fun U0=>((a95 (p6.mk (j8.mk begin.n.Id U0.1 begin.n.a7 begin.n.Seq begin.n.f0 begin.n.a8 begin.n.c9 begin.n.i4 begin.n.c8 begin.n.a0 begin.n.j3 begin.n.i7 begin.n.b8 begin.n.d6) begin.out begin.told) m.a8).bind fun yield=>some (l8.brk yield))) else (bif (m.a6==7) then ((b7y begin m).bind fun asked=>some (l8.brk asked)) else (bif (m.a6==8) then ((s2 (fun s:Int×p6=>a5q m s.1 s.2) (m.g8,begin)).bind fun x=>x.go (fun r=>some (l8.ret r)) fun s=>c84 s) else some (l8.brk begin))))))))):Option (l8 (j8×(List j9)×List o8) p6)).bind fun x=>x.go some fun j=>b7L j)))))))
set_option maxRecDepth 20000 in
theorem d9w{n m}:OK a1K [.agg (A9 n),.agg (s7 m)] (b6d n m):=
 p8 _ fun r h=>o9<|j7 a0z a6G 1 h fun D5 h=>j5 2 h (fun h=>rg<|fE h) (fun h=>rg<|j7 b1K b4z 1 h fun begin h=>rg<|j7 c1t c38 1 h fun I4 h=>j5 3 h (fun h=>rg<|j7 a3F a4r 1 h fun W2 h=>H7 begin.n<|C8 begin.out begin.told<|fE h) (fun h=>j5 9 h (fun h=>rg<|j7 a3F a4r 1 h fun a4c h=>H7 begin.n<|C8 begin.out begin.told<|fE h) (fun h=>rg<|z9 h (d6J r) fun x1 h hc1=>rg<|j5 1 h (fun h=>rg<|j7 b31 e0l 2 h fun c7C h=>H7 begin.n<|C8 begin.out begin.told<|(o7 h hc1 fun hI=>sk [] [4,7] [(3,0),(10,0),(28,0),(28,1),(28,2),(28,3),(28,4)] hI)) (fun h=>rg<|j5 1 h (fun h=>rg<|j7 d0p d4I 2 h fun c6b h=>H7 begin.n<|C8 begin.out begin.told<|(o7 h hc1 fun hI=>sk [] [4,7] [(3,0),(10,0),(30,0),(30,1),(30,2),(30,3),(30,4)] hI)) (fun h=>rg<|j5 1 h (fun h=>rg<|j7 d0j e2R 2 h fun c9x h=>H7 begin.n<|C8 begin.out begin.told<|(o7 h hc1 fun hI=>sk [] [4,7] [(3,0),(10,0),(32,0),(32,1),(32,2),(32,3),(32,4)] hI)) (fun h=>rg<|j5 1 h (fun h=>rg<|j7 c9W e4x 2 h fun c5r h=>H7 begin.n<|C8 begin.out begin.told<|(o7 h hc1 fun hI=>sk [] [4,7] [(3,0),(10,0),(34,0),(34,1),(34,2),(34,3),(34,4)] hI)) (fun h=>rg<|j5 1 h (fun h=>rg<|j7 c7W d5q 2 h fun d28 h=>H7 begin.n<|C8 begin.out begin.told<|(o7 h hc1 fun hI=>sk [] [4,7] [(3,0),(10,0),(36,0),(36,1),(36,2),(36,3),(36,4)] hI)) (fun h=>rg<|j5 1 h (fun h=>rg<|j7 b6m b8C 8 h fun U0 h=>rg<|j7 b4o c1r 3 h fun yield h=>H7 begin.n<|C8 begin.out begin.told<|(o7 h hc1 fun hI=>sk [] [4,7] [(3,0),(10,0),(55,0),(55,1),(55,2),(55,3),(55,4)] hI)) (fun h=>rg<|j5 1 h (fun h=>rg<|j7 d0X d5S 2 h fun asked h=>H7 begin.n<|C8 begin.out begin.told<|(o7 h hc1 fun hI=>sk [] [4,7] [(3,0),(10,0),(40,0),(40,1),(40,2),(40,3),(40,4)] hI)) (fun h=>rg<|j5 1 h (fun h=>rg<|lp (d34 m) h (fun _ h=>a1K.rt (e8D h hc1)) (e1X r hc1) fun hI=>s8 begin.n.d6<|sk [.frz (.cell 10 0 26) (none)] [3,4,7,8] [(2,0),(3,0),(10,0),(10,1),(10,2),(10,3),(10,5),(10,6)] hI) (fun h=>(o7 h hc1 fun hI=>s8 begin.n.d6<|sk [.frz (.cell 10 0 26) (none)] [4,7] [(3,0),(10,0),(10,1),(10,2),(10,3),(10,5),(10,6)] hI))))))))))))
def a8t:FS (m8):=⟨45,Tryz.f45,[.val E8 om7],[none,none],[.val E8 om7,.val [none,none,some 4] []],fun r=>.agg (a7L r),fun _=>[none,none],Tryz.func45⟩
def d7o:m8->KS:=fun w1=>⟨a8t.k 7 [true],(bs 2 (.ptr 1 0 0::(bs 1 (.ptr 6 0 0::(bs 58 []))))),[some [.dead,.dead,.dead,.dead],some [.var 28 [.own 2 0 27 0 w1.b7.length,.own 3 0 13 0 w1.d8.length,.own 4 0 3 0 w1.g7.length,.own 5 0 5 0 w1.Told.length]],some [m7 65 27 A9 w1.b7],some [m7 68 13 s7 w1.d8],some [m7 70 3 C2 w1.g7],some [m7 51 5 z3 w1.Told],some [.var 28 [.nil,.nil,.nil,.nil]]]⟩
def c8L(w1:m8):Option m8:=
 some w1
theorem e6a(r):NF a8t r d7o (fun s=>c8L s):=fun w1 h=>PK<|rg<|z7 w1<|fE h
def a8r(w:m8)(e_:v5):Option m8:=
 ((idx w.d8 e_.A).bind fun msg=>(((bif (e_.a6==2) then ((b0m w.d8 e_.A).bind fun off=>((idx w.b7 msg.To).bind fun node=>((b6d node msg).bind fun a7l=>((a36 (m8.mk w.b7 off w.g7 w.Told) a7l.1 a7l.2.1 a7l.2.2).bind fun a2s=>some (l8.brk a2s))))) else (bif (e_.a6==3) then ((b0m w.d8 e_.A).bind fun d0e=>some (l8.brk (m8.mk w.b7 d0e w.g7 w.Told))) else (bif (e_.a6==4) then ((idx w.b7 msg.To).bind fun a4W=>((a36 w a4W [msg] []).bind fun b16=>some (l8.brk b16))) else some (l8.brk w)))):Option (l8 m8 m8)).bind fun x=>x.go some fun j=>c8L j))
theorem b9m{w e_}:OK a8t [.agg (a7L w),.agg (T6 e_)] (a8r w e_):=
 p8 _ fun r h=>o9<|A8 h fun msg hmsg h=>B3 hmsg<|H6 s7 5 hmsg<|rg<|z9 h (e6a r) fun x1 h hc1=>rg<|j5 1 h (fun h=>rg<|j7 c0z d3n 4 h fun off h=>s8 w.d8<|rg<|A8 h fun node hnode h=>B3 hnode<|H6 A9 5 hnode<|j7 a1K d9w 7 h fun a7l h=>rg<|j7 T3 a8s 4 h fun a2s h=>I7 w.b7 off w.g7 w.Told<|(o7 h hc1 fun hI=>sk [.kill 0 1] [2,4] [(1,0),(43,0),(43,1),(43,2),(43,3),(3,0)] hI)) (fun h=>rg<|j5 1 h (fun h=>rg<|j7 c0z d3n 4 h fun d0e h=>s8 w.d8<|(o7 h hc1 fun hI=>sk [.kill 0 1] [2,4] [(1,0),(0,0),(22,0),(0,2),(0,3),(3,0)] hI)) (fun h=>rg<|j5 1 h (fun h=>rg<|A8 h fun a4W a5N h=>B3 a5N<|H6 A9 6 a5N<|tk 8 B2<|j7 T3 a8s 9 h fun b16 h=>z7 w<|D8 msg<|(o7 h hc1 fun hI=>sk [] [2,4] [(1,0),(29,0),(29,1),(29,2),(29,3),(3,0)] hI)) (fun h=>(o7 h hc1 fun hI=>sk [] [2,4] [(1,0),(0,0),(0,1),(0,2),(0,3),(3,0)] hI))))
def a2f:FS (m8):=⟨16,Tryz.f16,[.val E8 []],[none,none],[.val E8 [],.val [none,none,some 4] []],fun r=>.agg (Y7 r),fun _=>[none,none],Tryz.func16⟩
def d4x:m8->KS:=fun out=>⟨a2f.k 6 [true,true,true],(bs 4 (.ptr 1 0 0::(.ptr 2 0 0::(bs 35 [])))),[some [],some [.var 28 [.nil,.nil,.nil,.nil]],some [.var 28 [.own 3 0 27 0 out.b7.length,.own 4 0 13 0 out.d8.length,.own 5 0 3 0 out.g7.length,.own 6 0 5 0 out.Told.length]],some [m7 65 27 A9 out.b7],some [m7 68 13 s7 out.d8],some [m7 70 3 C2 out.g7],some [m7 51 5 z3 out.Told]]⟩
def c2E(out:m8):Option m8:=
 ((a18 out).bind fun c1w=>some c1w)
theorem d4m(r):NF a2f r d4x (fun s=>c2E s):=fun out h=>PK<|rg<|j7 X0 a8z 1 h fun c1w h=>z7 out<|z7 c1w<|fE h
def d8j:m8->KS:=fun out1=>⟨a2f.k 7 [false,true,true,true],(bs 4 (.ptr 1 0 0::(.ptr 2 0 0::(bs 35 [])))),[some [],some [.var 28 [.nil,.nil,.nil,.nil]],some [.var 28 [.own 3 0 27 0 out1.b7.length,.own 4 0 13 0 out1.d8.length,.own 5 0 3 0 out1.g7.length,.own 6 0 5 0 out1.Told.length]],some [m7 65 27 A9 out1.b7],some [m7 68 13 s7 out1.d8],some [m7 70 3 C2 out1.g7],some [m7 51 5 z3 out1.Told]]⟩
def c1N(out1:m8):Option m8:=
 ((a18 out1).bind fun b85=>some b85)
theorem e69(r):NF a2f r d8j (fun s=>c1N s):=fun out1 h=>PK<|rg<|j7 X0 a8z 1 h fun b85 h=>z7 out1<|z7 b85<|fE h
def e4W:m8->KS:=fun out2=>⟨a2f.k 8 [false,false,true,true,true],(bs 4 (.ptr 1 0 0::(.ptr 2 0 0::(bs 35 [])))),[some [],some [.var 28 [.nil,.nil,.nil,.nil]],some [.var 28 [.own 3 0 27 0 out2.b7.length,.own 4 0 13 0 out2.d8.length,.own 5 0 3 0 out2.g7.length,.own 6 0 5 0 out2.Told.length]],some [m7 65 27 A9 out2.b7],some [m7 68 13 s7 out2.d8],some [m7 70 3 C2 out2.g7],some [m7 51 5 z3 out2.Told]]⟩
def c2e(out2:m8):Option m8:=
 ((a18 out2).bind fun c2F=>some c2F)
theorem d6T(r):NF a2f r e4W (fun s=>c2e s):=fun out2 h=>PK<|rg<|j7 X0 a8z 1 h fun c2F h=>z7 out2<|z7 c2F<|fE h
def d4K:m8->KS:=fun out3=>⟨a2f.k 9 [false,false,false,true,true],(bs 4 (.ptr 1 0 0::(.ptr 2 0 0::(bs 35 [])))),[some [],some [.var 28 [.nil,.nil,.nil,.nil]],some [.var 28 [.own 3 0 27 0 out3.b7.length,.own 4 0 13 0 out3.d8.length,.own 5 0 3 0 out3.g7.length,.own 6 0 5 0 out3.Told.length]],some [m7 65 27 A9 out3.b7],some [m7 68 13 s7 out3.d8],some [m7 70 3 C2 out3.g7],some [m7 51 5 z3 out3.Told]]⟩
def b38(out3:m8):Option m8:=
 ((a18 out3).bind fun b8I=>some b8I)
theorem e8Y(r):NF a2f r d4K (fun s=>b38 s):=fun out3 h=>PK<|rg<|j7 X0 a8z 1 h fun b8I h=>z7 out3<|z7 b8I<|fE h
def b3g(w:m8)(e_:v5):Option m8:=
 ((a18 w).bind fun H3=>(bif (e_.a6==1) then ((((D2 e_.A 0 (m4 ((H3.b7.length:Int)-1))).bind fun in_=>(bif in_ then ((a5T H3 e_).bind fun c6W=>some (l8.brk c6W)) else some (l8.brk H3))):Option (l8 m8 m8)).bind fun x=>x.go some fun j=>c2E j) else (bif (e_.a6==5) then ((((D2 e_.A 0 (m4 ((H3.b7.length:Int)-1))).bind fun in_1=>(bif in_1 then ((a5T H3 e_).bind fun d3h=>some (l8.brk d3h)) else some (l8.brk H3))):Option (l8 m8 m8)).bind fun x=>x.go some fun j=>c1N j) else (bif (e_.a6==6) then ((((D2 e_.A 0 (m4 ((H3.b7.length:Int)-1))).bind fun in_2=>(bif in_2 then ((a5T H3 e_).bind fun d3g=>some (l8.brk d3g)) else some (l8.brk H3))):Option (l8 m8 m8)).bind fun x=>x.go some fun j=>c2e j) else (((bif (e_.a6==7) then ((D2 e_.A 0 (m4 ((H3.b7.length:Int)-1))).bind fun Y9=>(bif Y9 then ((a5T H3 e_).bind fun d0x=>some (l8.brk d0x)) else some (l8.brk H3))) else (bif (e_.a6==2) then ((D2 e_.A 0 (m4 ((H3.d8.length:Int)-1))).bind fun a4k=>(bif a4k then ((a8r H3 e_).bind fun c7g=>some (l8.brk c7g)) else some (l8.brk H3))) else (bif (e_.a6==3) then ((D2 e_.A 0 (m4 ((H3.d8.length:Int)-1))).bind fun a9a=>(bif a9a then ((a8r H3 e_).bind fun c7H=>some (l8.brk c7H)) else some (l8.brk H3))) else (bif (e_.a6==4) then ((D2 e_.A 0 (m4 ((H3.d8.length:Int)-1))).bind fun c2I=>(bif c2I then ((a8r H3 e_).bind fun c5x=>some (l8.brk c5x)) else some (l8.brk H3))) else some (l8.brk H3))))):Option (l8 m8 m8)).bind fun x=>x.go some fun j=>b38 j)))))
set_option maxRecDepth 20000 in
theorem c4C{w e_}:OK a2f [.agg (Y7 w),.agg (T6 e_)] (b3g w e_):=
 p8 _ fun r h=>o9<|j7 X0 a8z 1 h fun H3 h=>o9<|j5 1 h (fun h=>z9 h (d4m r) fun x1 h hc1=>rg<|cbE D1.t E2 h fun in_ c7A h=>cdT (D1.t 6 false in_) h (fun _ h=>ob c7A<|rg<|j7 a63 b76 2 h fun c6W h=>z7 H3<|(o7 h hc1 fun hI=>sk [] [4,5] [(3,0),(6,0),(21,0),(21,1),(21,2),(21,3)] hI)) (fun _ h=>ob c7A<|(o7 h hc1 fun hI=>sk [] [4,5] [(3,0),(6,0),(5,0),(5,1),(5,2),(5,3)] hI))) (fun h=>rg<|j5 1 h (fun h=>z9 h (e69 r) fun x1 h hc1=>rg<|cbE D1.t E2 h fun in_1 d0H h=>cdT (D1.t 6 false in_1) h (fun _ h=>ob d0H<|rg<|j7 a63 b76 2 h fun d3h h=>z7 H3<|(o7 h hc1 fun hI=>sk [] [4,5] [(3,0),(6,0),(23,0),(23,1),(23,2),(23,3)] hI)) (fun _ h=>ob d0H<|(o7 h hc1 fun hI=>sk [] [4,5] [(3,0),(6,0),(5,0),(5,1),(5,2),(5,3)] hI))) (fun h=>rg<|j5 1 h (fun h=>z9 h (d6T r) fun x1 h hc1=>rg<|cbE D1.t E2 h fun in_2 d1k h=>cdT (D1.t 6 false in_2) h (fun _ h=>ob d1k<|rg<|j7 a63 b76 2 h fun d3g h=>z7 H3<|(o7 h hc1 fun hI=>sk [] [4,5] [(3,0),(6,0),(25,0),(25,1),(25,2),(25,3)] hI)) (fun _ h=>ob d1k<|(o7 h hc1 fun hI=>sk [] [4,5] [(3,0),(6,0),(5,0),(5,1),(5,2),(5,3)] hI))) (fun h=>z9 h (e8Y r) fun x1 h hc1=>rg<|j5 1 h (fun h=>rg<|cbE D1.t E2 h fun Y9 c9Z h=>cdT (D1.t 6 false Y9) h (fun _ h=>ob c9Z<|rg<|j7 a63 b76 2 h fun d0x h=>z7 H3<|(o7 h hc1 fun hI=>sk [] [4,5] [(3,0),(6,0),(27,0),(27,1),(27,2),(27,3)] hI)) (fun _ h=>ob c9Z<|(o7 h hc1 fun hI=>sk [] [4,5] [(3,0),(6,0),(5,0),(5,1),(5,2),(5,3)] hI))) (fun h=>rg<|j5 1 h (fun h=>rg<|cbE D1.t E2 h fun a4k c6j h=>cdT (D1.t 6 false a4k) h (fun _ h=>ob c6j<|rg<|j7 a8t b9m 2 h fun c7g h=>z7 H3<|(o7 h hc1 fun hI=>sk [] [4,5] [(3,0),(6,0),(29,0),(29,1),(29,2),(29,3)] hI)) (fun _ h=>ob c6j<|(o7 h hc1 fun hI=>sk [] [4,5] [(3,0),(6,0),(5,0),(5,1),(5,2),(5,3)] hI))) (fun h=>rg<|j5 1 h (fun h=>rg<|cbE D1.t E2 h fun a9a c8T h=>cdT (D1.t 6 false a9a) h (fun _ h=>ob c8T<|rg<|j7 a8t b9m 2 h fun c7H h=>z7 H3<|(o7 h hc1 fun hI=>sk [] [4,5] [(3,0),(6,0),(31,0),(31,1),(31,2),(31,3)] hI)) (fun _ h=>ob c8T<|(o7 h hc1 fun hI=>sk [] [4,5] [(3,0),(6,0),(5,0),(5,1),(5,2),(5,3)] hI))) (fun h=>rg<|j5 1 h (fun h=>rg<|cbE D1.t E2 h fun c2I c8w h=>cdT (D1.t 6 false c2I) h (fun _ h=>ob c8w<|rg<|j7 a8t b9m 2 h fun c5x h=>z7 H3<|(o7 h hc1 fun hI=>sk [] [4,5] [(3,0),(6,0),(33,0),(33,1),(33,2),(33,3)] hI)) (fun _ h=>ob c8w<|(o7 h hc1 fun hI=>sk [] [4,5] [(3,0),(6,0),(5,0),(5,1),(5,2),(5,3)] hI))) (fun h=>(o7 h hc1 fun hI=>sk [] [4,5] [(3,0),(6,0),(5,0),(5,1),(5,2),(5,3)] hI))))))))
def a6j:FS (m8):=⟨5,Tryz.f5,[.val E8 []],[none,none],[.val E8 [],.val [some 3] []],fun r=>.agg (Y7 r),fun _=>[none,none],Tryz.func5⟩
def d2l:m8->KS:=fun out1=>⟨a6j.k 5 [false,false],(bs 4 (.ptr 1 0 0::(.ptr 2 0 0::(bs 24 [])))),[some [],some [.var 28 [.nil,.nil,.nil,.nil]],some [.var 28 (H2 out1)]]⟩
def c5C(out1:m8):Option m8:=
 some out1
theorem d5F(r):NF a6j r d2l (fun s=>c5C s):=fun out1 h=>PK<|rg<|fE h
def e52(events:List v5):(Int×m8)->KS:=fun (v21,out)=>⟨a6j.k 4 [false],(bs 4 (.ptr 1 0 0::(.ptr 2 0 0::(bs 13 (l7 3 T6 events::(vi (events.length:Int)::(vi v21::(bs 8 [])))))))),[some [],some [.var 28 [.nil,.nil,.nil,.nil]],some [.var 28 (H2 out)]]⟩
def a5d(events:List v5)(v21:Int)(out:m8):Option (l9 m8 (Int×m8) m8):=
 (bif decide (v21<(events.length:Int)) then ((idx events v21).bind fun b0U=>((b3g out b0U).bind fun b0H=>some (l9.nxt (m4 (v21+1),b0H)))) else some (l9.brk out))
theorem e2D(events):LQ a6j d2l (e52 events) (fun s=>a5d events s.1 s.2):=fun lc (v21,out) h=>PK<|rg<|j5 0 h (fun h=>rg<|x8 T6 0 h fun b0U e6c h=>rg<|j7 a2f c4C 2 h fun b0H h=>rg<|(lc.nx h fun hI=>sk [] [4,5,19,20,21] [(1,0),(2,0)] hI)) (fun h=>(lc.bk h fun hI=>sk [] [4,5] [(1,0),(2,0)] hI))
def b1a(w:m8)(events:List v5):Option m8:=
 ((b3r w).bind fun L5=>(bif (!L5) then some (m8.mk [] [] [] []) else (bif decide ((events.length:Int)>400) then some (m8.mk [] [] [] []) else ((a18 w).bind fun H3=>((s2 (fun s:Int×m8=>a5d events s.1 s.2) (0,H3)).bind fun x=>x.go (fun r=>some r) fun s=>c5C s)))))
theorem d1x{w events}:OK a6j [.agg (Y7 w),l7 3 T6 events] (b1a w events):=
 p8 _ fun r h=>o9<|j7 Q1 d1P 1 h fun L5 h=>j5 3 h (fun h=>rg<|fE h) (fun h=>j5 7 h (fun h=>rg<|fE h) (fun h=>rg<|j7 X0 a8z 1 h fun H3 h=>rg<|lp (e2D events) h (fun _ h=>a6j.rt h) (d5F r) fun hI=>z7 H3<|sk [.frz (.cell 13 0 0) (none),.frz (.cell 13 0 1) (none),.frz (.cell 13 0 2) (none),.frz (.cell 13 0 3) (none)] [4,5,19,20,21] [(2,0),(13,0)] hI))
def a78:FS (m8):=⟨7,Tryz.f7,[.val E8 V4],[none,none],[.val E8 [],.val [some 3] []],fun r=>.agg (W1 r),fun _=>[none,none],Tryz.func7⟩
def d0A:((List j8)×(List j9)×(List C1)×List o8)->KS:=fun (Nodes1,Net1,Asked1,Told1)=>⟨a78.k 5 [false,false],(bs 2 (.ptr 1 0 0::(bs 1 (.ptr 6 0 0::(bs 25 []))))),[some [],some [.var 28 [.own 2 0 27 0 Nodes1.length,.own 3 0 13 0 Net1.length,.own 4 0 3 0 Asked1.length,.own 5 0 5 0 Told1.length]],some [C4 65 27 u7 Nodes1],some [m7 68 13 s7 Net1],some [m7 70 3 C2 Asked1],some [m7 51 5 z3 Told1],some [.var 28 [.nil,.nil,.nil,.nil]]]⟩
def d0Z(Nodes1:List j8)(Net1:List j9)(Asked1:List C1)(Told1:List o8):Option m8:=
 some (m8.mk Nodes1 Net1 Asked1 Told1)
theorem d4k(r):NF a78 r d0A (fun s=>d0Z s.1 s.2.1 s.2.2.1 s.2.2.2):=fun (Nodes1,Net1,Asked1,Told1) h=>PK<|rg<|I7 Nodes1 Net1 Asked1 Told1<|fE h
def d32(events:List v5):((List j8)×(List j9)×(List C1)×(List o8)×Int)->KS:=fun (b7,d8,g7,Told,i)=>⟨a78.k 4 [false],(bs 1 (l7 3 T6 events::(.ptr 1 0 0::(bs 1 (.ptr 6 0 0::(vi i::(bs 24 []))))))),[some [],some [.var 28 [.own 2 0 27 0 b7.length,.own 3 0 13 0 d8.length,.own 4 0 3 0 g7.length,.own 5 0 5 0 Told.length]],some [C4 65 27 u7 b7],some [m7 68 13 s7 d8],some [m7 70 3 C2 g7],some [m7 51 5 z3 Told],some [.var 28 [.nil,.nil,.nil,.nil]]]⟩
def a3K(events:List v5)(b7:List j8)(d8:List j9)(g7:List C1)(Told:List o8)(i:Int):Option (l9 m8 ((List j8)×(List j9)×(List C1)×(List o8)×Int) ((List j8)×(List j9)×(List C1)×List o8)):=
 (bif decide (i<(events.length:Int)) then ((idx events i).bind fun b0U=>((a7h (m8.mk b7 d8 g7 Told) b0U).bind fun a2b=>some (l9.nxt (a2b.b7,a2b.d8,a2b.g7,a2b.Told,m4 (i+1))))) else some (l9.brk (b7,d8,g7,Told)))
theorem e8Q(events):LQ a78 d0A (d32 events) (fun s=>a3K events s.1 s.2.1 s.2.2.1 s.2.2.2.1 s.2.2.2.2):=fun lc (b7,d8,g7,Told,i) h=>PK<|rg<|j5 3 h (fun h=>rg<|x8 T6 3 h fun b0U e6c h=>j7 a9v c2q 5 h fun a2b h=>I7 b7 d8 g7 Told<|rg<|(lc.nx h fun hI=>sk [] [1,2,4,5] [(1,0),(16,0),(16,1),(16,2),(16,3),(6,0)] hI)) (fun h=>(lc.bk h fun hI=>sk [] [2,4] [(1,0),(2,0),(3,0),(4,0),(5,0),(6,0)] hI))
def b8x(w:m8)(events:List v5):Option m8:=
 ((a9A w).bind fun L5=>(bif (!L5) then some (m8.mk [] [] [] []) else (bif decide ((events.length:Int)>400) then some (m8.mk [] [] [] []) else ((b05 w).bind fun a4o=>((s2 (fun s:(List j8)×(List j9)×(List C1)×(List o8)×Int=>a3K events s.1 s.2.1 s.2.2.1 s.2.2.2.1 s.2.2.2.2) (a4o.b7,a4o.d8,a4o.g7,a4o.Told,0)).bind fun x=>x.go (fun r=>some r) fun s=>d0Z s.1 s.2.1 s.2.2.1 s.2.2.2)))))
theorem e05{w events}:OK a78 [.agg (Y7 w),l7 3 T6 events] (b8x w events):=
 p8 _ fun r h=>o9<|j7 O1 c3O 1 h fun L5 h=>j5 3 h (fun h=>rg<|fE h) (fun h=>j5 7 h (fun h=>rg<|fE h) (fun h=>rg<|j7 V3 c6E 1 h fun a4o h=>rg<|lp (e8Q events) h (fun _ h=>a78.rt h) (d4k r) fun hI=>sk [] [1,2,4,5] [(1,0),(12,0),(12,1),(12,2),(12,3),(2,0)] hI))
def a71:FS (Bool):=⟨17,Tryz.f17,[.val [] []],[none,none],[.val [some 5] [],.val [some 5] []],fun r=>.b r,fun _=>[none,none],Tryz.func17⟩
def c44:Unit->KS:=fun _=>⟨a71.k 4 [false,false],(bs 26 []),[some []]⟩
def c5k:Option Bool:=
 some true
theorem d9v(r):NF a71 r c44 (fun s=>c5k):=fun _ h=>PK<|rg<|fE h
def e7g(a:List o8)(b:List o8):Int->KS:=fun v13=>⟨a71.k 3 [false],(l7 5 z3 a::(l7 5 z3 b::(bs 10 (vi (a.length:Int)::(vi v13::(bs 12 [])))))),[some []]⟩
def b6i(a:List o8)(b:List o8)(v13:Int):Option (l9 Bool Int Unit):=
 (bif decide (v13<(a.length:Int)) then ((idx a v13).bind fun told=>((idx b v13).bind fun a2K=>(bif (!(([told.Node,told.a5.d7,told.a5.Seq,told.Code,told.d9]:List Int)==[a2K.Node,a2K.a5.d7,a2K.a5.Seq,a2K.Code,a2K.d9])) then some (l9.ret false) else some (l9.nxt (m4 (v13+1)))))) else some (l9.brk ()))
theorem e7k(a b):LQ a71 c44 (e7g a b) (fun s=>b6i a b s):=fun lc v13 h=>PK<|rg<|j5 0 h (fun h=>o9<|x8 z3 2 h fun told a7e h=>x8 z3 6 h fun a2K d9p h=>j5 8 h (fun h=>rg<|fL lc h) (fun h=>rg<|(lc.nx h fun hI=>sk [] [0,1,12,13] [] hI))) (fun h=>(lc.bk h fun hI=>sk [] [] [] hI))
def b5M(a:List o8)(b:List o8):Option Bool:=
 (bif ((a.length:Int) != (b.length:Int)) then some false else ((s2 (fun s:Int=>b6i a b s) 0).bind fun x=>x.go (fun r=>some r) fun s=>c5k))
theorem d7f{a b}:OK a71 [l7 5 z3 a,l7 5 z3 b] (b5M a b):=
 p8 _ fun r h=>o9<|j5 4 h (fun h=>rg<|fE h) (fun h=>rg<|lp (e7k a b) h (fun _ h=>a71.rt h) (d9v r) fun hI=>sk [] [0,1,12,13] [] hI)
def a3J:FS (Bool):=⟨49,Tryz.f49,[.val [] []],[none,none],[.val [some 8] [],.val [some 8] []],fun r=>.b r,fun _=>[none,none],Tryz.func49⟩
def c95:Unit->KS:=fun _=>⟨a3J.k 4 [false,false],(bs 42 []),[some []]⟩
def d02:Option Bool:=
 some true
theorem e4o(r):NF a3J r c95 (fun s=>d02):=fun _ h=>PK<|rg<|fE h
def d4r(a:List m6)(b:List m6):Int->KS:=fun v13=>⟨a3J.k 3 [false],(l7 8 p7 a::(l7 8 p7 b::(bs 10 (vi (a.length:Int)::(vi v13::(bs 28 [])))))),[some []]⟩
def b3V(a:List m6)(b:List m6)(v13:Int):Option (l9 Bool Int Unit):=
 (bif decide (v13<(a.length:Int)) then ((idx a v13).bind fun vote=>((idx b v13).bind fun Q9=>(bif (vote.a8 != Q9.a8) then some (l9.ret false) else ((Z2 vote.g9 Q9.g9).bind fun J1=>(bif (!J1) then some (l9.ret false) else some (l9.nxt (m4 (v13+1)))))))) else some (l9.brk ()))
theorem e3B(a b):LQ a3J c95 (d4r a b) (fun s=>b3V a b s):=fun lc v13 h=>PK<|rg<|j5 0 h (fun h=>o9<|x8 p7 2 h fun vote J9 h=>x8 p7 7 h fun Q9 a3d h=>j5 11 h (fun h=>rg<|fL lc h) (fun h=>L0 p7 14 J9<|L0 p7 19 a3d<|j7 a2H a23 22 h fun J1 h=>j5 24 h (fun h=>rg<|fL lc h) (fun h=>rg<|(lc.nx h fun hI=>sk [] [0,1,12,13] [] hI)))) (fun h=>(lc.bk h fun hI=>sk [] [] [] hI))
def a9p(a:List m6)(b:List m6):Option Bool:=
 (bif ((a.length:Int) != (b.length:Int)) then some false else ((s2 (fun s:Int=>b3V a b s) 0).bind fun x=>x.go (fun r=>some r) fun s=>d02))
theorem b8M{a b}:OK a3J [l7 8 p7 a,l7 8 p7 b] (a9p a b):=
 p8 _ fun r h=>o9<|j5 4 h (fun h=>rg<|fE h) (fun h=>rg<|lp (e3B a b) h (fun _ h=>a3J.rt h) (e4o r) fun hI=>sk [] [0,1,12,13] [] hI)
def d1r:FS (Bool):=⟨46,Tryz.f46,[.val [] []],[none,none],[.val [none,some 8] [],.val [none,some 8] []],fun r=>.b r,fun _=>[none,none],Tryz.func46⟩
def c1H(a:v6)(b:v6):Option Bool:=
 (bif (a.i5==b.i5) then ((a9p a.a0 b.a0).bind fun a5E=>some a5E) else some false)
theorem e4B{a b}:OK d1r [.agg (V5 a),.agg (V5 b)] (c1H a b):=
 p8 _ fun r h=>o9<|j5 5 h (fun h=>j7 a3J b8M 10 h fun a5E h=>fE h) (fun h=>fE h)
def a5H:FS (Bool):=⟨47,Tryz.f47,[.val [] []],[none,none],[.val [some 7] [],.val [some 7] []],fun r=>.b r,fun _=>[none,none],Tryz.func47⟩
def d0W:Unit->KS:=fun _=>⟨a5H.k 4 [false,false],(bs 27 []),[some []]⟩
def d25:Option Bool:=
 some true
theorem e9f(r):NF a5H r d0W (fun s=>d25):=fun _ h=>PK<|rg<|fE h
def e6w(a:List m5)(b:List m5):Int->KS:=fun v13=>⟨a5H.k 3 [false],(l7 7 t5 a::(l7 7 t5 b::(bs 10 (vi (a.length:Int)::(vi v13::(bs 13 [])))))),[some []]⟩
def b7C(a:List m5)(b:List m5)(v13:Int):Option (l9 Bool Int Unit):=
 (bif decide (v13<(a.length:Int)) then ((idx a v13).bind fun entry=>((idx b v13).bind fun b2Z=>((Z2 entry b2Z).bind fun J1=>(bif (!J1) then some (l9.ret false) else some (l9.nxt (m4 (v13+1))))))) else some (l9.brk ()))
theorem e2G(a b):LQ a5H d0W (e6w a b) (fun s=>b7C a b s):=fun lc v13 h=>PK<|rg<|j5 0 h (fun h=>o9<|x8 t5 2 h fun entry H1 h=>x8 t5 6 h fun b2Z b3z h=>j7 a2H a23 8 h fun J1 h=>j5 9 h (fun h=>rg<|fL lc h) (fun h=>rg<|(lc.nx h fun hI=>sk [] [0,1,12,13] [] hI))) (fun h=>(lc.bk h fun hI=>sk [] [] [] hI))
def b0q(a:List m5)(b:List m5):Option Bool:=
 (bif ((a.length:Int) != (b.length:Int)) then some false else ((s2 (fun s:Int=>b7C a b s) 0).bind fun x=>x.go (fun r=>some r) fun s=>d25))
theorem d3A{a b}:OK a5H [l7 7 t5 a,l7 7 t5 b] (b0q a b):=
 p8 _ fun r h=>o9<|j5 4 h (fun h=>rg<|fE h) (fun h=>rg<|lp (e2G a b) h (fun _ h=>a5H.rt h) (e9f r) fun hI=>sk [] [0,1,12,13] [] hI)
def a6s:FS (Bool):=⟨48,Tryz.f48,[.val [] []],[none,none],[.val [some 1] [],.val [some 1] []],fun r=>.b r,fun _=>[none,none],Tryz.func48⟩
def d3H:Unit->KS:=fun _=>⟨a6s.k 4 [false,false],(bs 26 []),[some []]⟩
def c4Y:Option Bool:=
 some true
theorem e5w(r):NF a6s r d3H (fun s=>c4Y):=fun _ h=>PK<|rg<|fE h
def e7h(a:List Bool)(b:List Bool):Int->KS:=fun v13=>⟨a6s.k 3 [false],(l7 1 eB a::(l7 1 eB b::(bs 10 (vi (a.length:Int)::(vi v13::(bs 12 [])))))),[some []]⟩
def b54(a:List Bool)(b:List Bool)(v13:Int):Option (l9 Bool Int Unit):=
 (bif decide (v13<(a.length:Int)) then ((idx a v13).bind fun y=>((idx b v13).bind fun y1=>(bif (!(y==y1)) then some (l9.ret false) else some (l9.nxt (m4 (v13+1)))))) else some (l9.brk ()))
theorem d4P(a b):LQ a6s d3H (e7h a b) (fun s=>b54 a b s):=fun lc v13 h=>PK<|rg<|j5 0 h (fun h=>o9<|x8 eB 2 h fun y hy h=>x8 eB 6 h fun y1 hy1 h=>j5 8 h (fun h=>rg<|fL lc h) (fun h=>rg<|(lc.nx h fun hI=>sk [] [0,1,12,13] [] hI))) (fun h=>(lc.bk h fun hI=>sk [] [] [] hI))
def b2A(a:List Bool)(b:List Bool):Option Bool:=
 (bif ((a.length:Int) != (b.length:Int)) then some false else ((s2 (fun s:Int=>b54 a b s) 0).bind fun x=>x.go (fun r=>some r) fun s=>c4Y))
theorem c8N{a b}:OK a6s [l7 1 eB a,l7 1 eB b] (b2A a b):=
 p8 _ fun r h=>o9<|j5 4 h (fun h=>rg<|fE h) (fun h=>rg<|lp (d4P a b) h (fun _ h=>a6s.rt h) (e5w r) fun hI=>sk [] [0,1,12,13] [] hI)
def a6E:FS (Bool):=⟨51,Tryz.f51,[.val [] []],[none,none],[.val [some 4] [],.val [some 4] []],fun r=>.b r,fun _=>[none,none],Tryz.func51⟩
def c6G:Unit->KS:=fun _=>⟨a6E.k 4 [false,false],(bs 26 []),[some []]⟩
def c4a:Option Bool:=
 some true
theorem e4T(r):NF a6E r c6G (fun s=>c4a):=fun _ h=>PK<|rg<|fE h
def d5t(a:List r9)(b:List r9):Int->KS:=fun v13=>⟨a6E.k 3 [false],(l7 4 z8 a::(l7 4 z8 b::(bs 10 (vi (a.length:Int)::(vi v13::(bs 12 [])))))),[some []]⟩
def b6X(a:List r9)(b:List r9)(v13:Int):Option (l9 Bool Int Unit):=
 (bif decide (v13<(a.length:Int)) then ((idx a v13).bind fun ins=>((idx b v13).bind fun b0z=>(bif (!(([ins.a6,ins.A,ins.B,ins.N]:List Int)==[b0z.a6,b0z.A,b0z.B,b0z.N])) then some (l9.ret false) else some (l9.nxt (m4 (v13+1)))))) else some (l9.brk ()))
theorem d79(a b):LQ a6E c6G (d5t a b) (fun s=>b6X a b s):=fun lc v13 h=>PK<|rg<|j5 0 h (fun h=>o9<|x8 z8 2 h fun ins hins h=>x8 z8 6 h fun b0z e9L h=>j5 8 h (fun h=>rg<|fL lc h) (fun h=>rg<|(lc.nx h fun hI=>sk [] [0,1,12,13] [] hI))) (fun h=>(lc.bk h fun hI=>sk [] [] [] hI))
def b8H(a:List r9)(b:List r9):Option Bool:=
 (bif ((a.length:Int) != (b.length:Int)) then some false else ((s2 (fun s:Int=>b6X a b s) 0).bind fun x=>x.go (fun r=>some r) fun s=>c4a))
theorem d7w{a b}:OK a6E [l7 4 z8 a,l7 4 z8 b] (b8H a b):=
 p8 _ fun r h=>o9<|j5 4 h (fun h=>rg<|fE h) (fun h=>rg<|lp (d79 a b) h (fun _ h=>a6E.rt h) (e4T r) fun hI=>sk [] [0,1,12,13] [] hI)
def b8J:FS (Bool):=⟨20,Tryz.f20,[.val [] []],[none,none],[.val [some 4] [],.val [some 4] []],fun r=>.b r,fun _=>[none,none],Tryz.func20⟩
def b1Z(a:List r9)(b:List r9):Option Bool:=
 ((b8H a b).bind fun ins=>some ins)
theorem d21{a b}:OK b8J [l7 4 z8 a,l7 4 z8 b] (b1Z a b):=
 p8 _ fun r h=>o9<|j7 a6E d7w 2 h fun ins h=>fE h
def d1d:FS (Bool):=⟨18,Tryz.f18,[.val [] []],[none,none],[.val A4 [],.val A4 []],fun r=>.b r,fun _=>[none,none],Tryz.func18⟩
def b4h(a:j8)(b:j8):Option Bool:=
 (bif (a.Id==b.Id) then ((c1H a.Acc b.Acc).bind fun d07=>(bif d07 then ((b0q a.a7 b.a7).bind fun c4e=>(bif c4e then (bif (a.Seq==b.Seq) then (bif (a.f0==b.f0) then (bif (a.a8==b.a8) then ((b2A a.c9 b.c9).bind fun bool=>(bif bool then ((a9p a.i4 b.i4).bind fun a5E=>(bif a5E then ((Z2 a.c8 b.c8).bind fun J1=>(bif J1 then ((b2A a.a0 b.a0).bind fun a9Q=>(bif a9Q then (bif (a.j3==b.j3) then ((b1Z a.i7 b.i7).bind fun b2P=>(bif b2P then ((Z2 a.b8 b.b8).bind fun d1q=>(bif d1q then ((b0q a.d6 b.d6).bind fun d1j=>some d1j) else some false)) else some false)) else some false) else some false)) else some false)) else some false)) else some false)) else some false) else some false) else some false) else some false)) else some false)) else some false)
theorem d9t{a b}:OK d1d [.agg (A9 a),.agg (A9 b)] (b4h a b):=
 p8 _ fun r h=>o9<|j5 5 h (fun h=>j7 d1r e4B 10 h fun d07 h=>j5 12 h (fun h=>j7 a5H d3A 17 h fun c4e h=>j5 19 h (fun h=>j5 26 h (fun h=>j5 33 h (fun h=>j5 40 h (fun h=>j7 a6s c8N 45 h fun bool h=>j5 47 h (fun h=>j7 a3J b8M 52 h fun a5E h=>j5 54 h (fun h=>j7 a2H a23 59 h fun J1 h=>j5 61 h (fun h=>j7 a6s c8N 66 h fun a9Q h=>j5 68 h (fun h=>j5 75 h (fun h=>j7 b8J d21 80 h fun b2P h=>j5 82 h (fun h=>j7 a2H a23 87 h fun d1q h=>j5 89 h (fun h=>j7 a5H d3A 94 h fun d1j h=>fE h) (fun h=>fE h)) (fun h=>fE h)) (fun h=>fE h)) (fun h=>fE h)) (fun h=>fE h)) (fun h=>fE h)) (fun h=>fE h)) (fun h=>fE h)) (fun h=>fE h)) (fun h=>fE h)) (fun h=>fE h)) (fun h=>fE h)) (fun h=>fE h)
def c6H:FS (Bool):=⟨19,Tryz.f19,[.val [] []],[none,none],[.val B2 [],.val B2 []],fun r=>.b r,fun _=>[none,none],Tryz.func19⟩
def b9Y(a:j9)(b:j9):Option Bool:=
 (bif (a.a6==b.a6) then (bif (a.c9==b.c9) then (bif (a.To==b.To) then (bif (a.a8==b.a8) then (bif (a.g8==b.g8) then ((Z2 a.g9 b.g9).bind fun J1=>(bif J1 then ((a9p a.a0 b.a0).bind fun a5E=>some a5E) else some false)) else some false) else some false) else some false) else some false) else some false)
theorem e2d{a b}:OK c6H [.agg (s7 a),.agg (s7 b)] (b9Y a b):=
 p8 _ fun r h=>o9<|j5 5 h (fun h=>j5 12 h (fun h=>j5 19 h (fun h=>j5 26 h (fun h=>j5 33 h (fun h=>j7 a2H a23 38 h fun J1 h=>j5 40 h (fun h=>j7 a3J b8M 45 h fun a5E h=>fE h) (fun h=>fE h)) (fun h=>fE h)) (fun h=>fE h)) (fun h=>fE h)) (fun h=>fE h)) (fun h=>fE h)
def R4:FS (Bool):=⟨6,Tryz.f6,[.val [] []],[none,none],[.val E8 [],.val E8 []],fun r=>.b r,fun _=>[none,none],Tryz.func6⟩
def c3W(a:m8)(b:m8):Unit->KS:=fun _=>⟨R4.k 4 [false,false],(bs 2 (.ptr 1 0 0::(.ptr 2 0 0::(bs 111 [])))),[some [],some [.var 28 (H2 a)],some [.var 28 (H2 b)]]⟩
def d1s(a:m8)(b:m8):Unit->KS:=fun _=>⟨R4.k 6 [false,false,false],(bs 2 (.ptr 1 0 0::(.ptr 2 0 0::(bs 111 [])))),[some [],some [.var 28 (H2 a)],some [.var 28 (H2 b)]]⟩
def c43:Unit->KS:=fun _=>⟨R4.k 8 [false,false,false,false],(bs 115 []),[some []]⟩
def d2r:Option Bool:=
 some true
theorem d72(r):NF R4 r c43 (fun s=>d2r):=fun _ h=>PK<|rg<|fE h
def e3o(a:m8)(b:m8):Int->KS:=fun v82=>⟨R4.k 7 [false,false,false],(bs 2 (.ptr 1 0 0::(.ptr 2 0 0::(bs 77 (vi (a.g7.length:Int)::(vi v82::(bs 32 []))))))),[some [],some [.var 28 (H2 a)],some [.var 28 (H2 b)]]⟩
def b5Q(a:m8)(b:m8)(v82:Int):Option (l9 Bool Int Unit):=
 (bif decide (v82<(a.g7.length:Int)) then ((idx a.g7 v82).bind fun asked=>((idx b.g7 v82).bind fun a16=>(bif (!(([asked.a5.d7,asked.a5.Seq]:List Int)==[a16.a5.d7,a16.a5.Seq])) then some (l9.ret false) else ((b1Z asked.i7 a16.i7).bind fun b2P=>(bif (!b2P) then some (l9.ret false) else some (l9.nxt (m4 (v82+1)))))))) else some (l9.brk ()))
theorem e0v(a b):LQ R4 c43 (e3o a b) (fun s=>b5Q a b s):=fun lc v82 h=>PK<|rg<|j5 0 h (fun h=>o9<|x8 C2 3 h fun asked a89 h=>x8 C2 9 h fun a16 a9H h=>j5 13 h (fun h=>rg<|fL lc h) (fun h=>L0 C2 17 a89<|L0 C2 23 a9H<|j7 b8J d21 26 h fun b2P h=>j5 28 h (fun h=>rg<|fL lc h) (fun h=>rg<|(lc.nx h fun hI=>sk [] [2,3,81,82] [(1,0),(2,0)] hI)))) (fun h=>(lc.bk h fun hI=>sk [] [] [] hI))
def b9w(a:m8)(b:m8):Option Bool:=
 ((s2 (fun s:Int=>b5Q a b s) 0).bind fun x=>x.go (fun r=>some r) fun s=>d2r)
theorem d9a(a b)(r):NF R4 r (d1s a b) (fun s=>b9w a b):=fun _ h=>PK<|rg<|lp (e0v a b) h (fun _ h=>R4.rt h) (d72 r) fun hI=>sk [] [2,3,81,82] [(1,0),(2,0)] hI
def d8B(a:m8)(b:m8):Int->KS:=fun v63=>⟨R4.k 5 [false,false],(bs 2 (.ptr 1 0 0::(.ptr 2 0 0::(bs 58 (vi (a.d8.length:Int)::(vi v63::(bs 51 []))))))),[some [],some [.var 28 (H2 a)],some [.var 28 (H2 b)]]⟩
def b6n(a:m8)(b:m8)(v63:Int):Option (l9 Bool Int Unit):=
 (bif decide (v63<(a.d8.length:Int)) then ((idx a.d8 v63).bind fun msg=>((idx b.d8 v63).bind fun b2T=>((b9Y msg b2T).bind fun c7n=>(bif (!c7n) then some (l9.ret false) else some (l9.nxt (m4 (v63+1))))))) else some (l9.brk ()))
theorem d5i(a b):LQ R4 (d1s a b) (d8B a b) (fun s=>b6n a b s):=fun lc v63 h=>PK<|rg<|j5 0 h (fun h=>o9<|x8 s7 3 h fun msg hmsg h=>x8 s7 8 h fun b2T b2G h=>j7 c6H e2d 10 h fun c7n h=>j5 11 h (fun h=>rg<|fL lc h) (fun h=>rg<|(lc.nx h fun hI=>sk [] [2,3,62,63] [(1,0),(2,0)] hI))) (fun h=>(lc.bk h fun hI=>sk [] [2,3] [(1,0),(2,0)] hI))
def c2c(a:m8)(b:m8):Option Bool:=
 ((s2 (fun s:Int=>b6n a b s) 0).bind fun x=>x.go (fun r=>some r) fun s=>b9w a b)
theorem d8i(a b)(r):NF R4 r (c3W a b) (fun s=>c2c a b):=fun _ h=>PK<|rg<|lp (d5i a b) h (fun _ h=>R4.rt h) (d9a a b r) fun hI=>sk [] [2,3,62,63] [(1,0),(2,0)] hI
def e0r(a:m8)(b:m8):Int->KS:=fun v44=>⟨R4.k 3 [false],(bs 2 (.ptr 1 0 0::(.ptr 2 0 0::(bs 39 (vi (a.b7.length:Int)::(vi v44::(bs 70 []))))))),[some [],some [.var 28 (H2 a)],some [.var 28 (H2 b)]]⟩
def b3Y(a:m8)(b:m8)(v44:Int):Option (l9 Bool Int Unit):=
 (bif decide (v44<(a.b7.length:Int)) then ((idx a.b7 v44).bind fun node=>((idx b.b7 v44).bind fun a4W=>((b4h node a4W).bind fun c9s=>(bif (!c9s) then some (l9.ret false) else some (l9.nxt (m4 (v44+1))))))) else some (l9.brk ()))
theorem e4t(a b):LQ R4 (c3W a b) (e0r a b) (fun s=>b3Y a b s):=fun lc v44 h=>PK<|rg<|j5 0 h (fun h=>o9<|x8 A9 3 h fun node hnode h=>x8 A9 8 h fun a4W a5N h=>j7 d1d d9t 10 h fun c9s h=>j5 11 h (fun h=>rg<|fL lc h) (fun h=>rg<|(lc.nx h fun hI=>sk [] [2,3,43,44] [(1,0),(2,0)] hI))) (fun h=>(lc.bk h fun hI=>sk [] [2,3] [(1,0),(2,0)] hI))
def a8w(a:m8)(b:m8):Option Bool:=
 (bif ((a.b7.length:Int) != (b.b7.length:Int)) then some false else (bif ((a.d8.length:Int) != (b.d8.length:Int)) then some false else (bif ((a.g7.length:Int) != (b.g7.length:Int)) then some false else ((b5M a.Told b.Told).bind fun told=>(bif (!told) then some false else ((s2 (fun s:Int=>b3Y a b s) 0).bind fun x=>x.go (fun r=>some r) fun s=>c2c a b))))))
theorem b8Y{a b}:OK R4 [.agg (Y7 a),.agg (Y7 b)] (a8w a b):=
 p8 _ fun r h=>o9<|j5 7 h (fun h=>rg<|fE h) (fun h=>j5 16 h (fun h=>rg<|fE h) (fun h=>j5 25 h (fun h=>rg<|fE h) (fun h=>j7 a71 d7f 30 h fun told h=>j5 32 h (fun h=>rg<|fE h) (fun h=>rg<|lp (e4t a b) h (fun _ h=>R4.rt h) (d8i a b r) fun hI=>sk [] [2,3,43,44] [(1,0),(2,0)] hI))))
def c6V:FS (m8):=⟨9,Tryz.f9,[.val E8 []],[none,none],[.val E8 [],.val [none,none,some 4] []],fun r=>.agg (Y7 r),fun _=>[none,none],Tryz.func9⟩
def b45(w:m8)(e_:v5):Option m8:=
 ((b3r w).bind fun L5=>(bif (!L5) then some (m8.mk [] [] [] []) else ((b3g w e_).bind fun b0H=>some b0H)))
theorem e30{w e_}:OK c6V [.agg (Y7 w),.agg (T6 e_)] (b45 w e_):=
 p8 _ fun r h=>o9<|j7 Q1 d1P 1 h fun L5 h=>j5 2 h (fun h=>rg<|fE h) (fun h=>rg<|j7 a2f c4C 2 h fun b0H h=>fE h)
def a25:FS (Bool):=⟨3,Tryz.f3,[.val [] []],[none],[.val [some 1] []],fun r=>.b r,fun _=>[none],Tryz.func3⟩
def c0j(drawWorldPlay:m8×List v5)(worldPlay:m8):Unit->KS:=fun _=>⟨a25.k 8 [false,false,false,false],(bs 3 (.ptr 1 0 0::(bs 1 (.ptr 2 0 0::(bs 52 []))))),[some [],some [.var 28 [l7 27 A9 drawWorldPlay.1.b7,l7 13 s7 drawWorldPlay.1.d8,l7 3 C2 drawWorldPlay.1.g7,l7 5 z3 drawWorldPlay.1.Told]],some [.var 28 [l7 27 A9 worldPlay.b7,l7 13 s7 worldPlay.d8,l7 3 C2 worldPlay.g7,l7 5 z3 worldPlay.Told]]]⟩
def c0U(drawWorldPlay:m8×List v5)(worldPlay:m8):Option Bool:=
 ((a8w worldPlay drawWorldPlay.1).bind fun d1z=>(bif d1z then (s6 (0<=(401:Int)/\(401:Int)*40<=140737488355328) (((b1a drawWorldPlay.1 (e9R (401:Int).toNat (v5.mk 0 0 []))).bind fun d3t=>some ((d3t.b7.length:Int)==0)))) else some false))
theorem d6Y(drawWorldPlay worldPlay)(r):NF a25 r (c0j drawWorldPlay worldPlay) (fun s=>c0U drawWorldPlay worldPlay):=fun _ h=>PK<|rg<|j7 R4 b8Y 2 h fun d1z h=>j5 3 h (fun h=>t0 h fun e1 h=>S7 5 8 38 3 40 T6 (v5.mk 0 0 []) c3K (.ck [none,none,some 4]) e1 (by decide) (by rfl)<|j7 a6j d1x 6 h fun d3t h=>s8 (e9R (401:Int).toNat (v5.mk 0 0 []))<|fE h) (fun h=>fE h)
def d0g(drawWorldPlay:m8×List v5)(worldPlay:m8):Int->KS:=fun k=>⟨a25.k 7 [false,false,false],(bs 3 (.ptr 1 0 0::(bs 1 (.ptr 2 0 0::(vi k::(bs 51 [])))))),[some [],some [.var 28 [l7 27 A9 drawWorldPlay.1.b7,l7 13 s7 drawWorldPlay.1.d8,l7 3 C2 drawWorldPlay.1.g7,l7 5 z3 drawWorldPlay.1.Told]],some [.var 28 [l7 27 A9 worldPlay.b7,l7 13 s7 worldPlay.d8,l7 3 C2 worldPlay.g7,l7 5 z3 worldPlay.Told]]]⟩
def c4D(drawWorldPlay:m8×List v5)(worldPlay:m8)(k:Int):Unit->KS:=fun _=>⟨a25.k 10 [false,false,false,true,false],(bs 3 (.ptr 1 0 0::(bs 1 (.ptr 2 0 0::(vi k::(bs 51 [])))))),[some [],some [.var 28 [l7 27 A9 drawWorldPlay.1.b7,l7 13 s7 drawWorldPlay.1.d8,l7 3 C2 drawWorldPlay.1.g7,l7 5 z3 drawWorldPlay.1.Told]],some [.var 28 [l7 27 A9 worldPlay.b7,l7 13 s7 worldPlay.d8,l7 3 C2 worldPlay.g7,l7 5 z3 worldPlay.Told]]]⟩
def c45(k:Int):Option (l9 Bool Int Unit):=
 some (l9.nxt (m4 (k+1)))
theorem d6U(drawWorldPlay worldPlay k)(lc:J5 a25 (c0j drawWorldPlay worldPlay) (d0g drawWorldPlay worldPlay)):NL lc (c4D drawWorldPlay worldPlay k) (fun s=>c45 k):=fun _ h=>PK<|rg<|(lc.nx h fun hI=>sk [] [3,5,6] [(1,0),(2,0)] hI)
def e87(drawWorldPlay:m8×List v5)(worldPlay:m8)(k:Int):Int->KS:=fun a=>⟨a25.k 9 [false,false,false,true],(bs 3 (.ptr 1 0 0::(bs 1 (.ptr 2 0 0::(vi k::(vi a::(bs 50 []))))))),[some [],some [.var 28 [l7 27 A9 drawWorldPlay.1.b7,l7 13 s7 drawWorldPlay.1.d8,l7 3 C2 drawWorldPlay.1.g7,l7 5 z3 drawWorldPlay.1.Told]],some [.var 28 [l7 27 A9 worldPlay.b7,l7 13 s7 worldPlay.d8,l7 3 C2 worldPlay.g7,l7 5 z3 worldPlay.Told]]]⟩
def a5P(drawWorldPlay:m8×List v5)(k:Int)(a:Int):Option (l9 Bool Int Unit):=
 (bif decide (a<=40) then ((b45 drawWorldPlay.1 (v5.mk k a [])).bind fun c5v=>((a8w c5v drawWorldPlay.1).bind fun c5F=>(bif (!c5F) then some (l9.ret false) else some (l9.nxt (m4 ((m4 (a+40))+1)))))) else some (l9.brk ()))
theorem e3l(drawWorldPlay worldPlay k):LQ a25 (c4D drawWorldPlay worldPlay k) (e87 drawWorldPlay worldPlay k) (fun s=>a5P drawWorldPlay k s):=fun lc a h=>PK<|rg<|j5 1 h (fun h=>rg<|j7 c6V e30 4 h fun c5v h=>j7 R4 b8Y 6 h fun c5F h=>j5 7 h (fun h=>rg<|fL lc h) (fun h=>rg<|(lc.nx h fun hI=>sk [] [3,5,6,7] [(1,0),(2,0)] hI))) (fun h=>(lc.bk h fun hI=>sk [] [3,5,6] [(1,0),(2,0)] hI))
def b01(drawWorldPlay:m8×List v5)(k:Int):Option (l9 Bool Int Unit):=
 (bif decide (k<=9) then ((s2 (fun s:Int=>a5P drawWorldPlay k s) (-1)).bind fun x=>x.go (fun r=>some (l9.ret r)) fun s=>c45 k) else some (l9.brk ()))
theorem d5X(drawWorldPlay worldPlay):LQ a25 (c0j drawWorldPlay worldPlay) (d0g drawWorldPlay worldPlay) (fun s=>b01 drawWorldPlay s):=fun lc k h=>PK<|rg<|j5 1 h (fun h=>rg<|lp (e3l drawWorldPlay worldPlay k) h (fun _ h=>lc.rt h) (d6U drawWorldPlay worldPlay k lc) fun hI=>sk [] [3,5,6,7] [(1,0),(2,0)] hI) (fun h=>(lc.bk h fun hI=>sk [] [3,5] [(1,0),(2,0)] hI))
def c26(code:List Int):Option Bool:=
 (bif decide ((code.length:Int)>1048576) then some true else ((b8A code).bind fun drawWorldPlay=>((b1a drawWorldPlay.1 []).bind fun worldPlay=>((b8x drawWorldPlay.1 []).bind fun a6f=>((a8w worldPlay a6f).bind fun a7M=>(bif (!a7M) then some false else ((a9A drawWorldPlay.1).bind fun L5=>(bif (!L5) then some ((worldPlay.b7.length:Int)==0) else ((s2 (fun s:Int=>b01 drawWorldPlay s) (-1)).bind fun x=>x.go (fun r=>some r) fun s=>c0U drawWorldPlay worldPlay)))))))))
theorem e2M{code}:OK a25 [l7 1 E3 code] (c26 code):=
 p8 _ fun r h=>o9<|j5 2 h (fun h=>rg<|fE h) (fun h=>rg<|j7 c6X d4J 1 h fun drawWorldPlay h=>rg<|j7 a6j d1x 1 h fun worldPlay h=>rg<|j7 a78 e05 2 h fun a6f h=>A8 h fun a7M e2p h=>om (a03 cx.P 6 [.agg (Y7 worldPlay),.agg [.sl 27 a6f.b7.length (U5 (a6f.b7.map u7)),l7 13 s7 a6f.d8,l7 3 C2 a6f.g7,l7 5 z3 a6f.Told]] (R4.R a7M) (R4.O a7M)) (by simp only [b4X c2y];exact (b8Y a7M e2p))<|osc R4 a7M rfl (S6 2)<|z7 a6f<|tl (R4.t 3 true a7M)<|j5 4 h (fun h=>rg<|fE h) (fun h=>rg<|j7 O1 c3O 1 h fun L5 h=>j5 2 h (fun h=>rg<|fE h) (fun h=>rg<|lp (d5X drawWorldPlay worldPlay) h (fun _ h=>a25.rt h) (d6Y drawWorldPlay worldPlay r) fun hI=>sk [] [3,5,6] [(10,0),(15,0)] hI)))
theorem e45:a9c Tryz.prog 5 E3 a5h:=d6t Tryz.underlying5
theorem e9A:a9c Tryz.prog 22 (fun l:List Int=>[l7 1 E3 l]) (A0 1 a5h):=e6M Tryz.underlying22 e45 (by kernel_rfl) (by decide) (by kernel_rfl) (fun _=>rfl)
theorem B9{n:Int}(h1:-9223372036854775808<=n)(h2:n<=9223372036854775807):m4 n=n:=IntWalk.i64_in n ⟨h1,h2⟩
def u5{α:Type}(l:List α):Prop:=l.length<=140737488351232
theorem G1{α:Type}{l:List α}(hl:u5 l){k:Nat}(h:k<l.length):m4 ((k:Int)+1)=((k+1:Nat):Int):=by
 unfold u5 at hl;rw [B9 (by omega) (by omega)];omega
section
variable {R S B:Type} {body:S->Option (l9 R S B)}
theorem F4{s t:S}(h:body s=some (.nxt t)):s2 body s=s2 body t:=by rw [c08,h]
theorem D7{s:S}{b:B}(h:body s=some (.brk b)):s2 body s=some (.brk b):=by rw [c08,h]
theorem Z4{s:S}{r:R}(h:body s=some (.ret r)):s2 body s=some (.ret r):=by rw [c08,h]
theorem a0C(st:Nat->S)(n:Nat)(h:∀k,k<n->body (st k)=some (.nxt (st (k+1)))):s2 body (st 0)=s2 body (st n):=by
 induction n with
 | zero=>rfl
 | succ n ih=>
  rw [ih fun k hk=>h k (by omega)];exact F4 (h n (by omega))
theorem a47(st:Nat->S)(n:Nat)(ok:Nat->Bool)(r:Nat->R)(b:B)(h1:∀k,k<n->(∀j,j<k->ok j=true)->body (st k)=some (bif ok k then .nxt (st (k+1)) else .ret (r k)))(h2:(∀j,j<n->ok j=true)->body (st n)=some (.brk b)) :
  (s2 body (st 0)=some (.brk b)/\∀j,j<n->ok j=true)\/∃k,k<n/\ok k=false/\(∀j,j<k->ok j=true)/\s2 body (st 0)=some (.ret (r k)):=by
 by_cases hall:∀j,j<n->ok j=true
 ·left
  refine ⟨?_,hall⟩;rw [a0C st n fun k hk => ?_]
  ·exact D7 (h2 hall)
  ·rw [h1 k hk fun j hj=>hall j (by omega),hall k hk];rfl
 ·right
  have hex:∃k,k<n/\ok k=false:=by
   apply Classical.byContradiction;intro hn;apply hall;intro j hj;cases hj':ok j with
   | true=>rfl
   | false=>exact absurd ⟨j,hj,hj'⟩ hn
  obtain ⟨k,hk,ho,hb⟩:∃k,k<n/\ok k=false/\∀j,j<k->ok j=true:=by
   obtain ⟨k,hk,ho⟩:=hex;induction k using Nat.strongRecOn with
   | _ k ih=>
    by_cases hb:∀j,j<k->ok j=true
    ·exact ⟨k,hk,ho,hb⟩
    ·have:∃j,j<k/\ok j=false:=by
      apply Classical.byContradiction;intro hn;apply hb;intro j hj;cases hj':ok j with
      | true=>rfl
      | false=>exact absurd ⟨j,hj,hj'⟩ hn
     obtain ⟨j,hj,hjo⟩:=this;exact ih j hj (by omega) hjo
  refine ⟨k,hk,ho,hb,?_⟩;rw [a0C st k fun j hj => ?_]
  ·refine Z4 ?_;rw [h1 k hk hb,ho];rfl
  ·rw [h1 j (by omega) fun i hi=>hb i (by omega),hb j hj];rfl
end
theorem a4d{R S B:Type}{body:S->Option (l9 R S B)}(I:Nat->S->Prop)(Q:l8 R B->Prop)(h:∀k s,I k s->∃st,body s=some st/\match st with | .ret r=>Q (.ret r) | .brk b=>Q (.brk b) | .nxt t => ∃k',k'<k/\I k' t):∀{k s},I k s->∃x,s2 body s=some x/\Q x:=by
 intro k;induction k using Nat.strongRecOn with
 | _ k ih=>
  intro s hs;obtain ⟨st,hb,hq⟩:=h k s hs;cases st with
  | ret r=>exact ⟨_,Z4 hb,hq⟩
  | brk b=>exact ⟨_,D7 hb,hq⟩
  | nxt t=>
   obtain ⟨k',hk,ht⟩:=hq;obtain ⟨x,hx,hq⟩:=ih k' hk ht;exact ⟨x,by rw [F4 hb];exact hx,hq⟩
theorem t6{β:Type}{p:Prop}[Decidable p](h:p)(k:Option β):s6 p k=k:=if_pos h
theorem a6W{α:Type}(l:List α)(k:Nat):idx l (k:Int)=l[k]?:=by
 unfold idx;rw [if_pos (by omega)];rfl
theorem u6{α:Type}{l:List α}{k:Nat}(h:k<l.length):idx l (k:Int)=some l[k]:=by
 rw [a6W,e9Q h]
theorem z0{α:Type}(l:List α)(k:Nat)(h:k<l.length):decide ((k:Int)<(l.length:Int))=true:=by simpa using h
theorem B6{α:Type}(l:List α):decide ((l.length:Int)<(l.length:Int))=false:=by simp
theorem S5{α B:Type}{body:Int->Option (l9 Bool Int B)}(l:List α)(hl:u5 l)(ok:α->Bool)(v:Bool)(b:B)(h1:∀(k:Nat) (h:k<l.length),body (k:Int)=some (bif ok l[k] then .nxt (m4 ((k:Int)+1)) else .ret v))(h2:body (l.length:Int)=some (.brk b)):s2 body 0=some (bif l.all ok then .brk b else .ret v):=by
 have h:=a47 (body:=body) (fun k=>(k:Int)) l.length (fun k=>match l[k]? with|some x=>ok x|none=>true) (fun _=>v) b
  (fun k hk _=>by
   have:=h1 k hk;rw [G1 hl hk] at this;simpa [e9Q hk] using this) (fun _=>h2)
 rcases h with ⟨h,hall⟩|⟨k,hk,ho,_,h⟩
 ·have:l.all ok=true:=by
   rw [e9Y];intro x hx;obtain ⟨i,hi,rfl⟩:=f0U hx;have:=hall i hi;simpa [e9Q hi] using this
  rw [this];exact h
 ·have:l.all ok=false:=by
   rw [f1m];refine ⟨l[k],e9T hk,?_⟩;simpa [e9Q hk] using ho
  rw [this];exact h
theorem a4Y{α B:Type}{body:Int->Option (l9 Bool Int B)}(l:List α)(hl:u5 l)(ok:Nat->Bool)(v:Bool)(b:B)(h1:∀(k:Nat) (h:k<l.length),(∀j,j<k->ok j=true)->body (k:Int)=some (bif ok k then .nxt (m4 ((k:Int)+1)) else .ret v))(h2:body (l.length:Int)=some (.brk b)):s2 body 0=some (bif (e91 l.length).all ok then .brk b else .ret v):=by
 have h:=a47 (body:=body) (fun k=>(k:Int)) l.length ok (fun _=>v) b
  (fun k hk hb=>by
   have:=h1 k hk hb;rw [G1 hl hk] at this;exact this) (fun _=>h2)
 rcases h with ⟨h,hall⟩|⟨k,hk,ho,_,h⟩
 ·have:(e91 l.length).all ok=true:=by
   rw [e9Y];intro x hx;exact hall x (by simpa using hx)
  rw [this];exact h
 ·have:(e91 l.length).all ok=false:=by
   rw [f1m];exact ⟨k,by simpa using hk,by simp [ho]⟩
  rw [this];exact h
theorem c2k{α R B:Type}{body:Int->Option (l9 R Int B)}(l:List α)(hl:u5 l)(is:α->Bool)(f:α->R)(b:B)(h1:∀(k:Nat) (h:k<l.length),body (k:Int)=some (bif is l[k] then .ret (f l[k]) else .nxt (m4 ((k:Int)+1))))(h2:body (l.length:Int)=some (.brk b)):s2 body 0=some (match l.find? is with|some x=>.ret (f x)|none=>.brk b):=by
 have key:∀(m k:Nat),k+m=l.length->s2 body (k:Int)=some (match (l.drop k).find? is with|some x=>.ret (f x)|none=>.brk b):=by
  intro m;induction m with
  | zero=>
   intro k hk;have:k=l.length:=by omega
   subst this;rw [List.drop_length];exact D7 h2
  | succ m ih=>
   intro k hk;have hlt:k<l.length:=by omega
   have hb:=h1 k hlt;rw [f0e hlt,List.find?_cons];cases hq:is l[k] with
   | true=>
    rw [hq] at hb;exact Z4 hb
   | false=>
    rw [hq] at hb;rw [F4 hb,G1 hl hlt];exact ih (k+1) (by omega)
 have:=key l.length 0 (by omega);simpa using this
theorem c3U{α S R B:Type}{body:S×Int->Option (l9 R (S×Int) B)}(l:List α)(hl:u5 l)(g:S->α->S)(s0:S)(b:S->B)(h1:∀(k:Nat) (h:k<l.length),body ((l.take k).foldl g s0,(k:Int))=some (.nxt (g ((l.take k).foldl g s0) l[k],m4 ((k:Int)+1))))(h2:body (l.foldl g s0,(l.length:Int))=some (.brk (b (l.foldl g s0)))):s2 body (s0,0)=some (.brk (b (l.foldl g s0))):=by
 have h:=a0C (body:=body) (fun k=>((l.take k).foldl g s0,(k:Int))) l.length (fun k hk=>by
  rw [h1 k hk,G1 hl hk,f0o hk,List.foldl_append];rfl)
 simp only [f0v,f1A,f0r] at h;rw [show ((0:Nat):Int)=0 from rfl] at h;rw [h];exact D7 h2
def c2D(x:s3):Prop:=C3 x.d7/\C3 x.Seq
def c5b(x:s1):Prop:=C3 x.i6/\C3 x.j4
def d2q(x:p9):Prop:=C3 x.i6/\C3 x.d9
def b40(x:m9):Prop:=(A0 16 c5b) x.a9/\(A0 16 d2q) x.b6/\C3 x.d9/\C3 x.Code
def E1(x:m5):Prop:=c2D x.a5/\b40 x.b9
def G2(x:m6):Prop:=C3 x.a8/\E1 x.g9
def a6m(x:v6):Prop:=C3 x.i5/\(A0 96 G2) x.a0
def b0v(x:r9):Prop:=C3 x.a6/\C3 x.A/\C3 x.B/\C3 x.N
def P5(x:j8):Prop:=C3 x.Id/\a6m x.Acc/\(A0 88 E1) x.a7/\C3 x.Seq/\C3 x.f0/\C3 x.a8/\(A0 1 okT) x.c9/\(A0 96 G2) x.i4/\E1 x.c8/\(A0 1 okT) x.a0/\(A0 32 b0v) x.i7/\E1 x.b8/\(A0 88 E1) x.d6
def F9(x:j9):Prop:=C3 x.a6/\C3 x.c9/\C3 x.To/\C3 x.a8/\C3 x.g8/\E1 x.g9/\(A0 96 G2) x.a0
def c8I(x:C1):Prop:=c2D x.a5/\(A0 32 b0v) x.i7
def c5q(x:o8):Prop:=C3 x.Node/\c2D x.a5/\C3 x.Code/\C3 x.d9
def a0w(x:m8):Prop:=(A0 392 P5) x.b7/\(A0 152 F9) x.d8/\(A0 40 c8I) x.g7/\(A0 40 c5q) x.Told
theorem A0.fits{α:Type}{bytes:Nat}{ok:α->Prop}{l:List α}(h:A0 bytes ok l)(hb:0<bytes):u5 l:=by
 obtain ⟨h,_⟩:=h;unfold u5;have:l.length*1<=l.length*bytes:=Nat.mul_le_mul_left _ hb;omega
def a1D(x:m9):Prop:=A0 16 okT x.a9/\A0 16 okT x.b6/\True
def a1X(x:m5):Prop:=True/\a1D x.b9
theorem A0.imp{α:Type}{bytes:Nat}{ok ok':α->Prop}{l:List α}(h:A0 bytes ok l)(hi:∀x,ok x->ok' x):A0 bytes ok' l:=⟨h.1,fun x hx=>hi x (h.2 x hx)⟩
theorem b40.f{x:m9}(h:b40 x):a1D x:=⟨h.1.imp fun _ _=>trivial,h.2.1.imp fun _ _=>trivial,trivial⟩
theorem E1.f{x:m5}(h:E1 x):a1X x:=⟨trivial,h.2.f⟩
theorem okEntries.f{l:List m5}(h:A0 88 E1 l):A0 88 a1X l:=h.imp fun _ x=>x.f
def L3(l:List s1)(box:Int):Bool:=l.any (·.i6==box)
def Q7(l:List p9)(box:Int):Bool:=l.any (·.i6==box)
theorem b87{l:List s1}(h:u5 l)(box:Int):b0S l box=some (L3 l box):=by
 unfold b0S;rw [S5 l h (fun x => !(x.i6==box)) true ()]
 ·unfold L3;rw [List.any_eq_not_all_not];cases l.all fun x => !(x.i6==box)<;>rfl
 ·intro k hk;unfold b4I;rw [z0 l k hk,u6 hk];cases hq:l[k].i6==box<;>simp [hq]
 ·unfold b4I;rw [B6];rfl
theorem c99{α B:Type}{body:Int->Option (l9 Int Int B)}(l:List α)(hl:u5 l)(is:α->Bool)(b:B)(h1:∀(k:Nat) (h:k<l.length),body (k:Int)=some (bif is l[k] then .ret (k:Int) else .nxt (m4 ((k:Int)+1))))(h2:body (l.length:Int)=some (.brk b)):(s2 body 0=some (.brk b)/\l.any is=false)\/∃k:Nat,s2 body 0=some (.ret (k:Int))/\l.any is=true:=by
 have h:=a47 (body:=body) (fun k=>(k:Int)) l.length (fun k=>match l[k]? with|some x => !is x|none=>true) (fun k=>(k:Int)) b
  (fun k hk _=>by
   have:=h1 k hk;rw [G1 hl hk] at this;rw [this];simp only [e9Q hk];cases is l[k]<;>rfl) (fun _=>h2)
 rcases h with ⟨h,hall⟩|⟨k,hk,ho,_,h⟩
 ·left
  refine ⟨h,?_⟩;rw [f0w];intro x hx;obtain ⟨i,hi,rfl⟩:=f0U hx;have:=hall i hi;simpa [e9Q hi] using this
 ·right
  refine ⟨k,h,?_⟩;rw [f1d];refine ⟨l[k],e9T hk,?_⟩;simpa [e9Q hk] using ho
theorem e46{l:List p9}(h:u5 l)(box:Int):∃v,a13 l box=some v/\decide (v>=0)=Q7 l box:=by
 unfold a13;rcases c99 (body:=fun s:Int=>a08 l box s) l h (fun x=>x.i6==box) () (by
  intro k hk;unfold a08;rw [z0 l k hk,u6 hk];cases hq:l[k].i6==box<;>simp [hq]) (by unfold a08;rw [B6];rfl) with ⟨h1,h2⟩|⟨k,h1,h2⟩
 ·rw [h1];exact ⟨-1,rfl,h2.symm⟩
 ·rw [h1];refine ⟨k,rfl,?_⟩;rw [show Q7 l box=true from h2];simp
theorem e7o{x:m9}(h:u5 x.a9)(box:Int):∃v,b2D x box=some v/\decide (v>=0)=L3 x.a9 box:=by
 unfold b2D;rcases c99 (body:=fun s:Int=>b3L x box s) x.a9 h (fun x=>x.i6==box) () (by
  intro k hk;unfold b3L;rw [z0 x.a9 k hk,u6 hk];cases hq:x.a9[k].i6==box<;>simp [hq]) (by unfold b3L;rw [B6];rfl) with ⟨h1,h2⟩|⟨k,h1,h2⟩
 ·rw [h1];exact ⟨-1,rfl,h2.symm⟩
 ·rw [h1];refine ⟨k,rfl,?_⟩;rw [show L3 x.a9 box=true from h2];simp
def q8(n lo hi:Int):Bool:=decide (lo<=n/\n<=hi)
theorem M2(n lo hi:Int):D2 n lo hi=some (q8 n lo hi):=by
 unfold D2 q8;by_cases h:n>=lo
 ·have h':lo<=n:=h;simp [h']
 ·have h':¬lo<=n:=h;simp [h']
theorem a6d(n:Int):a5k n=some (q8 n (-1000000) 1000000):=M2 n (-1000000) 1000000
theorem b93(n:Int):a7F n=some (q8 n 0 3):=by
 rw [<-M2];unfold a7F D2;have:(n<4)=(n<=3):=by apply propext;omega
 simp only [this]
theorem b6U(q:s3):a5n q=some (q8 q.d7 0 2&&q8 q.Seq 1 1000):=by
 unfold a5n;simp only [M2,e9P];cases q8 q.d7 0 2<;>rfl
theorem c29(q:s3):a9J q=some (q8 q.d7 0 2&&q8 q.Seq 1 1000):=by
 have h3:(q.d7<3)=(q.d7<=2):=by apply propext;omega
 unfold a9J q8;simp only [h3];by_cases h1:q.d7>=0<;>by_cases h2:q.d7<=2<;>by_cases h4:q.Seq>=1<;>by_cases h5:q.Seq<=1000<;>simp [h1,h2,h4,h5]<;>omega
def W7(l:List s1)(k:Nat):Bool:=match l[k]? with
 | some x=>q8 x.i6 0 3&&(q8 x.j4 0 1000000 && !L3 (l.take k) x.i6)
 | none=>true
def V9(l:List p9)(k:Nat):Bool:=match l[k]? with
 | some x=>q8 x.i6 0 3&&(q8 x.d9 (-1000000) 1000000 && !Q7 (l.take k) x.i6)
 | none=>true
theorem d20{α:Type}{l:List α}(h:u5 l)(k:Nat):u5 (l.take k):=by
 unfold u5 at h⊢;rw [f0i];omega
theorem d7p{r:m9}(h:u5 r.a9):s2 (fun s:Int=>b0W r s) 0=some (bif (e91 r.a9.length).all (W7 r.a9) then .brk () else .ret false):=by
 refine a4Y r.a9 h (W7 r.a9) false () ?_ ?_
 ·intro k hk _;unfold b0W W7 s6;rw [z0 _ k hk,u6 hk,e9Q hk];have hp:(0:Int)<=(k:Int)/\(k:Int)<=(r.a9.length:Int):=by constructor<;>omega
  simp only [f1C,e9P,if_pos hp,b93,f0k,Nat.sub_zero,f0S,b87 (d20 h k)];cases q8 r.a9[k].i6 0 3
  ·rfl
  ·unfold q8;by_cases h1:r.a9[k].j4<0
   ·have h1':¬0<=r.a9[k].j4:=by omega
    simp [h1,h1']
   ·have h1':0<=r.a9[k].j4:=by omega
    by_cases h2:r.a9[k].j4>1000000
    ·have h2':¬r.a9[k].j4<=1000000:=by omega
     simp [h1,h1',h2,h2']
    ·have h2':r.a9[k].j4<=1000000:=by omega
     simp only [h1,h1',h2,h2',decide_false,decide_true,e9V,f1D,e99,and_self];cases L3 (r.a9.take k) r.a9[k].i6<;>rfl
 ·unfold b0W;rw [B6];rfl
theorem d50{r:m9}(h:u5 r.b6):s2 (fun s:Int=>b2v r s) 0=some (bif (e91 r.b6.length).all (V9 r.b6) then .brk () else .ret false):=by
 refine a4Y r.b6 h (V9 r.b6) false () ?_ ?_
 ·intro k hk _;obtain ⟨v,hv,hg⟩:=e46 (d20 h k) r.b6[k].i6;unfold b2v V9 s6;rw [z0 _ k hk,u6 hk,e9Q hk];have hp:(0:Int)<=(k:Int)/\(k:Int)<=(r.b6.length:Int):=by constructor<;>omega
  simp only [f1C,e9P,if_pos hp,b93,a6d,f0k,Nat.sub_zero,f0S,hv,hg];cases q8 r.b6[k].i6 0 3
  ·rfl
  ·cases q8 r.b6[k].d9 (-1000000) 1000000
   ·rfl
   ·cases Q7 (r.b6.take k) r.b6[k].i6<;>rfl
 ·unfold b2v;rw [B6];rfl
def a91(f:Int->Bool):List Bool:=[f 0,f 1,f 2,f 3]
theorem d0O{f:Int->Bool}{b:Int}(h:q8 b 0 3=true):idx (a91 f) b=some (f b)/\b<4:=by
 have h:0<=b/\b<=3:=by simpa [q8] using h
 have:b=0\/b=1\/b=2\/b=3:=by omega
 rcases this with rfl|rfl|rfl|rfl<;>exact ⟨rfl,by decide⟩
theorem d1w{f g:Int->Bool}{b:Int}(h:q8 b 0 3=true)(hb:g b=true)(hne:∀c,c≠b->g c=f c):(a91 f).set b.toNat true=a91 g:=by
 have h:0<=b/\b<=3:=by simpa [q8] using h
 have:b=0\/b=1\/b=2\/b=3:=by omega
 unfold a91;rcases this with rfl|rfl|rfl|rfl
 all_goals
  rw [show [g 0,g 1,g 2,g 3]=_ from rfl];first
   | rw [hb,hne 1 (by decide),hne 2 (by decide),hne 3 (by decide)];rfl
   | rw [hb,hne 0 (by decide),hne 2 (by decide),hne 3 (by decide)];rfl
   | rw [hb,hne 0 (by decide),hne 1 (by decide),hne 3 (by decide)];rfl
   | rw [hb,hne 0 (by decide),hne 1 (by decide),hne 2 (by decide)];rfl
theorem d2L{l:List s1}{k:Nat}(hk:k<l.length)(b:Int):L3 (l.take (k+1)) b=(L3 (l.take k) b||(l[k].i6==b)):=by
 unfold L3;rw [f0o hk,List.any_append];simp
theorem c9L{l:List p9}{k:Nat}(hk:k<l.length)(b:Int):Q7 (l.take (k+1)) b=(Q7 (l.take k) b||(l[k].i6==b)):=by
 unfold Q7;rw [f0o hk,List.any_append];simp
theorem d7a{l:List s1}{k:Nat}(hk:k<l.length)(c:Int)(hc:c≠l[k].i6):L3 (l.take (k+1)) c=L3 (l.take k) c:=by
 have:(l[k].i6==c)=false:=by simpa using fun h=>hc h.symm
 rw [d2L hk,this,Bool.or_false]
theorem e0S{l:List p9}{k:Nat}(hk:k<l.length)(c:Int)(hc:c≠l[k].i6):Q7 (l.take (k+1)) c=Q7 (l.take k) c:=by
 have:(l[k].i6==c)=false:=by simpa using fun h=>hc h.symm
 rw [c9L hk,this,Bool.or_false]
theorem d3C{R S B:Type}{x:Option (l8 R B)}{n:Nat}{ok:Nat->Bool}{r:R}{b:B}(h:(x=some (.brk b)/\∀j,j<n->ok j=true)\/∃k,k<n/\ok k=false/\(∀j,j<k->ok j=true)/\x=some (.ret r)):x=some (bif (e91 n).all ok then .brk b else .ret r):=by
 rcases h with ⟨h,hall⟩|⟨k,hk,ho,_,h⟩
 ·have:(e91 n).all ok=true:=by
   rw [e9Y];intro x hx;exact hall x (by simpa using hx)
  rw [this];exact h
 ·have:(e91 n).all ok=false:=by
   rw [f1m];exact ⟨k,by simpa using hk,by simp [ho]⟩
  rw [this];exact h
theorem e80{r:m9}(h:u5 r.a9):s2 (fun s:List Bool×Int=>a8D r s.1 s.2) (e9R 4 false,0)=some (bif (e91 r.a9.length).all (W7 r.a9) then .brk () else .ret false):=by
 refine d3C (S:=List Bool×Int) (a47 (body:=fun s:List Bool×Int=>a8D r s.1 s.2) (fun k=>(a91 (L3 (r.a9.take k)),(k:Int))) r.a9.length (W7 r.a9) (fun _=>false) () ?_ ?_)
 ·intro k hk _;simp only;unfold a8D W7 s6;rw [z0 _ k hk,u6 hk,e9Q hk];simp only [f1C,e9P,M2];cases hb:q8 r.a9[k].i6 0 3
  ·rfl
  ·obtain ⟨h1,h2⟩:=d0O (f:=L3 (r.a9.take k)) hb;rw [h1];simp only [if_pos h2,e9V,f1D,e9P,e99];cases hs:L3 (r.a9.take k) r.a9[k].i6
   ·cases q8 r.a9[k].j4 0 1000000
    ·rfl
    ·simp only [e9V,f1D,f0a,e99,f1C];rw [d1w (f:=L3 (r.a9.take k)) (g:=L3 (r.a9.take (k+1))) hb (by rw [d2L hk];simp) (d7a hk),G1 h hk]
   ·cases q8 r.a9[k].j4 0 1000000<;>rfl
 ·intro _;simp only;unfold a8D;rw [B6];rfl
theorem e3z{r:m9}(h:u5 r.b6):s2 (fun s:List Bool×Int=>a8P r s.1 s.2) (e9R 4 false,0)=some (bif (e91 r.b6.length).all (V9 r.b6) then .brk () else .ret false):=by
 refine d3C (S:=List Bool×Int) (a47 (body:=fun s:List Bool×Int=>a8P r s.1 s.2) (fun k=>(a91 (Q7 (r.b6.take k)),(k:Int))) r.b6.length (V9 r.b6) (fun _=>false) () ?_ ?_)
 ·intro k hk _;simp only;unfold a8P V9 s6;rw [z0 _ k hk,u6 hk,e9Q hk];simp only [f1C,e9P,M2];cases hb:q8 r.b6[k].i6 0 3
  ·rfl
  ·obtain ⟨h1,h2⟩:=d0O (f:=Q7 (r.b6.take k)) hb;rw [h1];simp only [if_pos h2,e9V,f1D,e9P,e99];cases hs:Q7 (r.b6.take k) r.b6[k].i6
   ·cases q8 r.b6[k].d9 (-1000000) 1000000
    ·rfl
    ·simp only [e9V,f1D,f0a,e99,f1C];rw [d1w (f:=Q7 (r.b6.take k)) (g:=Q7 (r.b6.take (k+1))) hb (by rw [c9L hk];simp) (e0S hk),G1 h hk]
   ·cases q8 r.b6[k].d9 (-1000000) 1000000<;>rfl
 ·intro _;simp only;unfold a8P;rw [B6];rfl
def S9(r:m9):Bool:=q8 r.Code 0 3&&(q8 r.d9 (-1000000) 1000000&&((r.Code==0||(r.d9==0&&r.b6.length==0))&&((r.Code != 3||r.a9.length==0)&&((e91 r.a9.length).all (W7 r.a9)&&(e91 r.b6.length).all (V9 r.b6)))))
theorem d5U{r:m9}(h:a1D r):b6G r=some ((e91 r.a9.length).all (W7 r.a9)&&(e91 r.b6.length).all (V9 r.b6)):=by
 unfold b6G b9s;rw [d7p (h.1.fits (by decide)),d50 (h.2.1.fits (by decide))];cases (e91 r.a9.length).all (W7 r.a9)<;>cases (e91 r.b6.length).all (V9 r.b6)<;>rfl
theorem e3b{r:m9}(h:a1D r):b79 r=some ((e91 r.a9.length).all (W7 r.a9)&&(e91 r.b6.length).all (V9 r.b6)):=by
 unfold b79 c3A;rw [e80 (h.1.fits (by decide)),e3z (h.2.1.fits (by decide))];cases (e91 r.a9.length).all (W7 r.a9)<;>cases (e91 r.b6.length).all (V9 r.b6)<;>rfl
theorem c7b{α:Type}(l:List α):decide ((l.length:Int)>0) = !(l.length==0):=by
 cases l<;>simp
theorem c68{r:m9}(h:a1D r):b0L r=some (S9 r):=by
 unfold b0L S9;rw [d5U h];simp only [a6d,c7b,e9P,l8.go];generalize ((e91 r.a9.length).all (W7 r.a9)&&(e91 r.b6.length).all (V9 r.b6))=z;generalize (r.b6.length==0)=a;generalize (r.a9.length==0)=b;generalize q8 r.d9 (-1000000) 1000000=c;have h3:q8 r.Code 0 3=(!decide (r.Code<0) && !decide (r.Code>3)):=by
  unfold q8;by_cases h1:r.Code<0<;>by_cases h2:r.Code>3<;>simp [h1,h2]<;>omega
 rw [h3];unfold bne;cases decide (r.Code<0)<;>cases decide (r.Code>3)<;>cases c<;>cases (r.Code==0)<;>cases (r.d9==0)<;>cases a<;>cases (r.Code==3)<;>cases b<;>rfl
theorem c2S{r:m9}(h:a1D r):a9z r=some (S9 r):=by
 unfold a9z S9;rw [e3b h];simp only [M2,c7b,e9P,l8.go];generalize ((e91 r.a9.length).all (W7 r.a9)&&(e91 r.b6.length).all (V9 r.b6))=z;generalize (r.b6.length==0)=a;generalize (r.a9.length==0)=b;generalize q8 r.d9 (-1000000) 1000000=c;generalize q8 r.Code 0 3=d;unfold bne;cases d<;>cases c<;>cases (r.Code==0)<;>cases (r.d9==0)<;>cases a<;>cases (r.Code==3)<;>cases b<;>rfl
def a1S(a b:List s1)(k:Nat):Bool:=match a[k]?,b[k]? with
 | some x,some y=>([x.i6,x.j4]:List Int)==[y.i6,y.j4]
 | _,_=>true
def a1P(a b:List p9)(k:Nat):Bool:=match a[k]?,b[k]? with
 | some x,some y=>([x.i6,x.d9]:List Int)==[y.i6,y.d9]
 | _,_=>true
theorem d80{a b:m9}(h:u5 a.a9)(hl:a.a9.length=b.a9.length):s2 (fun s:Int=>b0Q a b s) 0=some (bif (e91 a.a9.length).all (a1S a.a9 b.a9) then .brk () else .ret false):=by
 refine a4Y a.a9 h (a1S a.a9 b.a9) false () ?_ ?_
 ·intro k hk _;unfold b0Q a1S;rw [z0 _ k hk,u6 hk,u6 (hl▸hk),e9Q hk,e9Q (hl▸hk)];simp only [f1C,e9P];cases ([a.a9[k].i6,a.a9[k].j4]:List Int)==[(b.a9[k]'(hl▸hk)).i6,(b.a9[k]'(hl▸hk)).j4]<;>rfl
 ·unfold b0Q;rw [B6];rfl
theorem e5u{a b:m9}(h:u5 a.b6)(hl:a.b6.length=b.b6.length):s2 (fun s:Int=>b2X a b s) 0=some (bif (e91 a.b6.length).all (a1P a.b6 b.b6) then .brk () else .ret false):=by
 refine a4Y a.b6 h (a1P a.b6 b.b6) false () ?_ ?_
 ·intro k hk _;unfold b2X a1P;rw [z0 _ k hk,u6 hk,u6 (hl▸hk),e9Q hk,e9Q (hl▸hk)];simp only [f1C,e9P];cases ([a.b6[k].i6,a.b6[k].d9]:List Int)==[(b.b6[k]'(hl▸hk)).i6,(b.b6[k]'(hl▸hk)).d9]<;>rfl
 ·unfold b2X;rw [B6];rfl
theorem d6i{a b:List s1}(h:u5 a):b8t a b=some (a.length==b.length&&(e91 a.length).all (a1S a b)):=by
 unfold b8t;by_cases hl:a.length=b.length
 ·rw [a4Y a h (a1S a b) false ()]
  ·rw [hl];simp only [bne_self_eq_false,f1D,beq_self_eq_true,e99];cases (e91 b.length).all (a1S a b)<;>rfl
  ·intro k hk _;unfold b5D a1S;rw [z0 _ k hk,u6 hk,u6 (hl▸hk),e9Q hk,e9Q (hl▸hk)];simp only [f1C,e9P];cases ([a[k].i6,a[k].j4]:List Int)==[(b[k]'(hl▸hk)).i6,(b[k]'(hl▸hk)).j4]<;>rfl
  ·unfold b5D;rw [B6];rfl
 ·have h1:((a.length:Int) != (b.length:Int))=true:=by simp;omega
  have h2:(a.length==b.length)=false:=by simpa using hl
  rw [h1,h2];rfl
theorem d9q{a b:List p9}(h:u5 a):b5K a b=some (a.length==b.length&&(e91 a.length).all (a1P a b)):=by
 unfold b5K;by_cases hl:a.length=b.length
 ·rw [a4Y a h (a1P a b) false ()]
  ·rw [hl];simp only [bne_self_eq_false,f1D,beq_self_eq_true,e99];cases (e91 b.length).all (a1P a b)<;>rfl
  ·intro k hk _;unfold b48 a1P;rw [z0 _ k hk,u6 hk,u6 (hl▸hk),e9Q hk,e9Q (hl▸hk)];simp only [f1C,e9P];cases ([a[k].i6,a[k].d9]:List Int)==[(b[k]'(hl▸hk)).i6,(b[k]'(hl▸hk)).d9]<;>rfl
  ·unfold b48;rw [B6];rfl
 ·have h1:((a.length:Int) != (b.length:Int))=true:=by simp;omega
  have h2:(a.length==b.length)=false:=by simpa using hl
  rw [h1,h2];rfl
def a3A(a b:m9):Bool:=(a.a9.length==b.a9.length&&(e91 a.a9.length).all (a1S a.a9 b.a9))&&((a.b6.length==b.b6.length&&(e91 a.b6.length).all (a1P a.b6 b.b6))&&(a.d9==b.d9&&a.Code==b.Code))
theorem c9M{α β:Type}(a:List α)(b:List β):((a.length:Int) != (b.length:Int)) = !(a.length==b.length):=by
 unfold bne;congr 1
 by_cases h:a.length=b.length
 ·simp [h]
 ·have h1:((a.length:Int)==(b.length:Int))=false:=by simp;omega
  have h2:(a.length==b.length)=false:=by simpa using h
  rw [h1,h2]
theorem c3r{a b:m9}(h:a1D a):a8B a b=some (a3A a b):=by
 unfold a8B a3A;rw [c9M,c9M];cases h1:a.a9.length==b.a9.length
 ·unfold bne;cases a.d9==b.d9<;>cases a.Code==b.Code<;>rfl
 cases h2:a.b6.length==b.b6.length
 ·unfold bne;cases a.d9==b.d9<;>cases a.Code==b.Code<;>simp
 unfold c0G;rw [d80 (h.1.fits (by decide)) (by simpa using h1),e5u (h.2.1.fits (by decide)) (by simpa using h2)];unfold bne;cases (e91 a.a9.length).all (a1S a.a9 b.a9)<;>cases (e91 a.b6.length).all (a1P a.b6 b.b6)<;>cases a.d9==b.d9<;>cases a.Code==b.Code<;>rfl
theorem c20{a b:m9}(h:a1D a):b6a a b=some (a3A a b):=by
 unfold b6a a3A;rw [d6i (h.1.fits (by decide)),d9q (h.2.1.fits (by decide))];simp only [e9P];generalize (a.a9.length==b.a9.length&&(e91 a.a9.length).all (a1S a.a9 b.a9))=x;generalize (a.b6.length==b.b6.length&&(e91 a.b6.length).all (a1P a.b6 b.b6))=y;cases x<;>cases y<;>cases a.d9==b.d9<;>rfl
def z6(e:m5):Bool:=bif e.i8 then (([e.a5.d7,e.a5.Seq]:List Int)==[0,0])&&a3A e.b9 (m9.mk [] [] 0 0) else (q8 e.a5.d7 0 2&&q8 e.a5.Seq 1 1000)&&(S9 e.b9&&e.b9.Code != 3)
theorem a3D{e:m5}(h:a1X e):a0H e=some (z6 e):=by
 unfold a0H z6;simp only [c3r h.2,c29,c68 h.2,e9P];cases e.i8
 ·simp only [f1D];cases q8 e.a5.d7 0 2&&q8 e.a5.Seq 1 1000<;>cases S9 e.b9<;>rfl
 ·simp only [f1C];cases ([e.a5.d7,e.a5.Seq]:List Int)==[0,0]<;>rfl
theorem a6o{e:m5}(h:a1X e):a1m e=some (z6 e):=by
 unfold a1m Z2 z6;simp only [c20 h.2,b6U,c2S h.2,e9P];cases e.i8
 ·simp only [f1D];cases q8 e.a5.d7 0 2&&q8 e.a5.Seq 1 1000<;>cases S9 e.b9<;>rfl
 ·simp only [f1C,beq_self_eq_true];cases ([e.a5.d7,e.a5.Seq]:List Int)==[0,0]<;>rfl
def M9(l:List m5):Bool:=decide (l.length<=40)&&l.all z6
theorem c0I{α:Type}(l:List α)(n:Nat):decide ((l.length:Int)<=(n:Int))=decide (l.length<=n):=by
 by_cases h:l.length<=n
 ·have:(l.length:Int)<=(n:Int):=by omega
  simp [h,this]
 ·have:¬(l.length:Int)<=(n:Int):=by omega
  simp [h,this]
theorem a9m{α:Type}(l:List α)(n:Nat):decide ((l.length:Int)>(n:Int)) = !decide (l.length<=n):=by
 by_cases h:l.length<=n
 ·have:¬(l.length:Int)>(n:Int):=by omega
  simp [h,this]
 ·have:(l.length:Int)>(n:Int):=by omega
  simp [h,this]
theorem d7E{l:List m5}(h:A0 88 a1X l):b5h l=some (M9 l):=by
 unfold b5h M9;rw [show (40:Int)=((40:Nat):Int) from rfl,a9m,S5 l (h.fits (by decide)) z6 false ()]
 ·cases decide (l.length<=40)
  ·rfl
  ·cases l.all z6<;>rfl
 ·intro k hk;unfold b4B;rw [z0 _ k hk,u6 hk];simp only [f1C,e9P,a3D (h.2 _ (e9T hk))];cases z6 l[k]<;>rfl
 ·unfold b4B;rw [B6];rfl
theorem c7k{l:List m5}(h:A0 88 a1X l):b1c l=some (M9 l):=by
 unfold b1c M9 c1O;rw [show (40:Int)=((40:Nat):Int) from rfl,c0I,S5 l (h.fits (by decide)) z6 false ()]
 ·cases l.all z6<;>cases decide (l.length<=40)<;>rfl
 ·intro k hk;unfold b8B;rw [z0 _ k hk,u6 hk];simp only [f1C,e9P,a6o (h.2 _ (e9T hk))];cases z6 l[k]<;>rfl
 ·unfold b8B;rw [B6];rfl
def a19(b:q9):Bool:=q8 b.j4 0 1000000&&q8 b.d9 (-1000000) 1000000
def F7(l:List q9):Bool:=l.length==4&&l.all a19
theorem c6O{α:Type}(l:List α)(n:Nat):((l.length:Int) != (n:Int)) = !(l.length==n):=by
 unfold bne;congr 1
 by_cases h:l.length=n
 ·simp [h]
 ·have h1:((l.length:Int)==(n:Int))=false:=by simp;omega
  have h2:(l.length==n)=false:=by simpa using h
  rw [h1,h2]
theorem d6N{α:Type}(l:List α)(n:Nat):((l.length:Int)==(n:Int))=(l.length==n):=by
 have:=c6O l n;unfold bne at this;simpa using this
theorem c0B{l:List q9}(h:u5 l):b3C l=some (F7 l):=by
 unfold b3C F7;rw [show (4:Int)=((4:Nat):Int) from rfl,c6O,S5 l h a19 false ()]
 ·cases l.length==4
  ·rfl
  ·cases l.all a19<;>rfl
 ·intro k hk;unfold b7O a19;rw [z0 _ k hk,u6 hk];simp only [f1C,e9P,a6d];cases hq:q8 l[k].j4 0 1000000 with
  | false=>
   by_cases h1:l[k].j4<0
   ·simp [h1]
   ·have:l[k].j4>1000000:=by
     unfold q8 at hq;simp at hq;omega
    simp [h1,this]
  | true=>
   unfold q8 at hq;simp at hq;have h1:¬l[k].j4<0:=by omega
   have h2:¬l[k].j4>1000000:=by omega
   simp only [h1,h2,decide_false,f1D,e99];cases q8 l[k].d9 (-1000000) 1000000<;>rfl
 ·unfold b7O;rw [B6];rfl
theorem b7e{l:List q9}(h:u5 l):a7g l=some (F7 l):=by
 unfold a7g F7 c0i;rw [show (4:Int)=((4:Nat):Int) from rfl,d6N,S5 l h a19 false ()]
 ·cases l.length==4<;>cases l.all a19<;>rfl
 ·intro k hk;unfold b7D a19;rw [z0 _ k hk,u6 hk];simp only [f1C,e9P,M2];cases q8 l[k].j4 0 1000000<;>cases q8 l[k].d9 (-1000000) 1000000<;>rfl
 ·unfold b7D;rw [B6];rfl
theorem c7r{l:List s1}(h:(e91 l.length).all (W7 l)=true):∀x∈l,0<=x.i6/\x.i6<=3/\0<=x.j4/\x.j4<=1000000:=by
 intro x hx;obtain ⟨i,hi,rfl⟩:=f0U hx;have:=e9Y.1 h i (by simpa using hi);unfold W7 at this;rw [e9Q hi] at this;simp [q8] at this;omega
theorem c9R{l:List p9}(h:(e91 l.length).all (V9 l)=true):∀x∈l,0<=x.i6/\x.i6<=3/\-1000000<=x.d9/\x.d9<=1000000:=by
 intro x hx;obtain ⟨i,hi,rfl⟩:=f0U hx;have:=e9Y.1 h i (by simpa using hi);unfold V9 at this;rw [e9Q hi] at this;simp [q8] at this;omega
theorem a7f{r:m9}(h:S9 r=true):(0<=r.Code/\r.Code<=3)/\(-1000000<=r.d9/\r.d9<=1000000)/\(r.Code=0\/(r.d9=0/\r.b6=[]))/\(∀x∈r.a9,0<=x.i6/\x.i6<=3/\0<=x.j4/\x.j4<=1000000)/\∀x∈r.b6,0<=x.i6/\x.i6<=3/\-1000000<=x.d9/\x.d9<=1000000:=by
 unfold S9 at h;simp only [e9U,Bool.or_eq_true] at h;obtain ⟨h1,h2,h3,_,h4,h5⟩:=h;refine ⟨by simpa [q8] using h1,by simpa [q8] using h2,by simpa using h3,c7r h4,c9R h5⟩
def a3H(l:List q9)(r:m9):Bool:=r.a9.all fun x=>match l[x.i6.toNat]? with
 | some b=>b.j4==x.j4
 | none=>true
theorem b6y{l:List q9}(h:F7 l=true):l.length=4:=by
 unfold F7 at h;simp only [e9U,beq_iff_eq] at h;exact h.1
theorem a8X{l:List q9}(h:F7 l=true):u5 l:=by
 unfold u5;rw [b6y h];decide
theorem a4C{l:List q9}(h:F7 l=true){b:Int}(hb:0<=b/\b<=3):∃x,idx l b=some x/\l[b.toNat]?=some x/\a19 x=true:=by
 have hl:=b6y h;have hlt:b.toNat<l.length:=by omega
 refine ⟨l[b.toNat],?_,e9Q hlt,?_⟩
 ·unfold idx;rw [if_pos hb.1,e9Q hlt]
 ·unfold F7 at h;simp only [e9U] at h;exact e9Y.1 h.2 _ (e9T hlt)
theorem e6r{l:List q9}{r:m9}(hl:u5 l)(hr:a1D r):b3M l r=some (F7 l&&(S9 r&&a3H l r)):=by
 unfold b3M;rw [c0B hl,c68 hr];simp only [e9P];cases h1:F7 l
 ·rfl
 cases h2:S9 r
 ·rfl
 have hp:=a7f h2;simp only [e9V,f1D,e99];rw [S5 r.a9 (hr.1.fits (by decide)) (fun x=>match l[x.i6.toNat]? with|some b=>b.j4==x.j4|none=>true) false ()]
 ·unfold a3H;cases r.a9.all _<;>rfl
 ·intro k hk;have hm:=hp.2.2.2.1 _ (e9T hk);obtain ⟨b,hb1,hb2,_⟩:=a4C h1 (b:=r.a9[k].i6) ⟨hm.1,hm.2.1⟩;unfold b5k;rw [z0 _ k hk,u6 hk];simp only [f1C,e9P,hb1,hb2];unfold bne;cases b.j4==r.a9[k].j4<;>rfl
 ·unfold b5k;rw [B6];rfl
theorem d5z{l:List q9}{r:m9}(hl:u5 l)(hr:a1D r):b4P l r=some (F7 l&&(S9 r&&a3H l r)):=by
 unfold b4P;rw [b7e hl,c2S hr];simp only [e9P];cases h1:F7 l
 ·rfl
 cases h2:S9 r
 ·rfl
 have hp:=a7f h2;simp only [e9V,f1D,e99];rw [S5 r.a9 (hr.1.fits (by decide)) (fun x=>match l[x.i6.toNat]? with|some b=>b.j4==x.j4|none=>true) false ()]
 ·unfold a3H;cases r.a9.all _<;>rfl
 ·intro k hk;have hm:=hp.2.2.2.1 _ (e9T hk);obtain ⟨b,hb1,hb2,_⟩:=a4C h1 (b:=r.a9[k].i6) ⟨hm.1,hm.2.1⟩;unfold b5A;rw [z0 _ k hk,u6 hk];simp only [f1C,e9P,hb1,hb2];unfold bne;cases b.j4==r.a9[k].j4<;>rfl
 ·unfold b5A;rw [B6];rfl
def a5Z(l:List q9)(p:p9):List q9:=match l[p.i6.toNat]? with
 | some b=>l.set p.i6.toNat ⟨if b.j4+1<1000000 then b.j4+1 else 1000000,p.d9⟩
 | none=>l
def b6r(l:List q9)(ps:List p9):List q9:=ps.foldl a5Z l
def a2q(x:p9):Prop:=0<=x.i6/\x.i6<=3/\-1000000<=x.d9/\x.d9<=1000000
theorem c8o{l:List q9}{p:p9}{b:q9}(h:l[p.i6.toNat]?=some b):a5Z l p=l.set p.i6.toNat ⟨if b.j4+1<1000000 then b.j4+1 else 1000000,p.d9⟩:=by
 unfold a5Z;rw [h]
theorem b3o{b:q9}:a19 b=true↔(0<=b.j4/\b.j4<=1000000)/\(-1000000<=b.d9/\b.d9<=1000000):=by
 unfold a19 q8;simp
theorem e4E{l:List q9}:F7 l=true↔l.length=4/\∀b∈l,a19 b=true:=by
 unfold F7;simp
theorem d3O{l:List q9}{p:p9}(h:F7 l=true)(hp:a2q p):F7 (a5Z l p)=true:=by
 obtain ⟨b,_,h2,h3⟩:=a4C h (b:=p.i6) ⟨hp.1,hp.2.1⟩;rw [e4E] at h⊢;unfold a5Z;rw [h2];refine ⟨by simpa using h.1,fun x hx => ?_⟩;rcases f0b hx with hx|rfl
 ·exact h.2 x hx
 ·rw [b3o] at h3⊢;refine ⟨?_,hp.2.2⟩;simp only;split<;>omega
theorem c1M:∀{ps:List p9} {l:List q9},F7 l=true->(∀p∈ps,a2q p)->F7 (b6r l ps)=true
 | [],l,h,_=>h
 | p::ps,l,h,hp=>c1M (ps:=ps) (d3O h (hp p (by simp))) fun x hx=>hp x (by simp [hx])
theorem c4s{l:List q9}{ps:List p9}(h:F7 l=true)(hp:∀p∈ps,a2q p)(k:Nat):F7 ((ps.take k).foldl a5Z l)=true:=
 c1M h fun p hq=>hp p (f0D hq)
theorem d7s{l:List q9}{r:m9}(hl:F7 l=true)(hr:a1D r)(hp:∀p∈r.b6,a2q p):b6q l r=some (b6r l r.b6):=by
 unfold b6q;rw [c3U r.b6 (hr.2.1.fits (by decide)) a5Z l id]
 ·rfl
 ·intro k hk;have hq:=hp _ (e9T hk);obtain ⟨b,h1,h2,h3⟩:=a4C (c4s hl hp k) (b:=r.b6[k].i6) ⟨hq.1,hq.2.1⟩;rw [b3o] at h3;unfold b4j;rw [z0 _ k hk,u6 hk];simp only [f1C,e9P,h1];unfold c1f;rw [c8o h2,B9 (n:=b.j4+1) (by omega) (by omega)];by_cases hv:b.j4+1<1000000
  ·have:¬(1000000:Int)<b.j4+1:=by omega
   simp [hv,this]
  ·by_cases hv2:(1000000:Int)<b.j4+1
   ·simp [hv,hv2]
   ·have:b.j4+1=1000000:=by omega
    simp [hv,hv2,this]
 ·unfold b4j;rw [B6];rfl
theorem c9P{l:List q9}(h:l.length*16<=140737488351232):a9Z l=some l:=by
 unfold a9Z s6;cases l with
 | nil=>rfl
 | cons x l=>
  have h1:(((x::l).length:Int)==0)=false:=by simp;omega
  rw [h1,f1D,if_pos (by constructor<;>omega),if_pos (by simp)]
theorem d3r{l:List s5}(h:l.length*32<=140737488351232):a58 l=some l:=by
 unfold a58 s6;cases l with
 | nil=>rfl
 | cons x l=>
  have h1:(((x::l).length:Int)==0)=false:=by simp;omega
  rw [h1,f1D,if_pos (by constructor<;>omega),if_pos (by simp)]
theorem e9g{l:List q9}{r:m9}(hl:F7 l=true)(hr:a1D r)(hok:S9 r=true):b4g l r=some (b6r l r.b6):=by
 have hp:∀p∈r.b6,a2q p:=(a7f hok).2.2.2.2
 unfold b4g;rw [b7e (a8X hl),c2S hr,hl,hok];simp only [e9P,e9V,f1D];rw [c9P (by rw [b6y hl];decide),e9P,c3U r.b6 (hr.2.1.fits (by decide)) a5Z l id]
 ·rfl
 ·intro k hk;have hq:=hp _ (e9T hk);obtain ⟨b,h1,h2,h3⟩:=a4C (c4s hl hp k) (b:=r.b6[k].i6) ⟨hq.1,hq.2.1⟩;rw [b3o] at h3;unfold b5G;rw [z0 _ k hk,u6 hk];simp only [f1C,e9P,h1];rw [c8o h2,B9 (n:=b.j4+1) (by omega) (by omega)]
 ·unfold b5G;rw [B6];rfl
def a6D(d:s5):Bool:=(q8 d.a5.d7 0 2&&q8 d.a5.Seq 1 1000)&&(q8 d.Code 0 2&&(q8 d.d9 (-1000000) 1000000&&(d.Code==0||d.d9==0)))
def a3c(l:List s5):Prop:=l.Pairwise fun a b=>a.a5.d7<b.a5.d7
def J7(d:s5)(st:List s5×Bool)(x:s5):List s5×Bool:=
 bif !st.2&&decide (x.a5.d7>=d.a5.d7) then (bif x.a5.d7 != d.a5.d7 then (st.1++[d])++[x] else st.1++[d],true) else (bif x.a5.d7 != d.a5.d7 then st.1++[x] else st.1,st.2)
def a0i(l:List s5)(d:s5):List s5:=
 let r:=l.foldl (J7 d) ([],false);bif !r.2 then r.1++[d] else r.1
theorem d9Z(d:s5)(st:List s5×Bool)(x:s5):(J7 d st x).1.length<=st.1.length+2:=by
 unfold J7;cases !st.2&&decide (x.a5.d7>=d.a5.d7)<;>cases x.a5.d7 != d.a5.d7<;>simp
theorem b9t(d:s5):∀(l:List s5) (st:List s5×Bool),(l.foldl (J7 d) st).1.length<=st.1.length+2*l.length
 | [],st=>by simp
 | x::l,st=>by
  have h1:=b9t d l (J7 d st x);have h2:=d9Z d st x;simp only [f1i,f0F];omega
theorem c2C(d:s5):∀{l:List s5} {o:List s5},(∀x∈l,d.a5.d7<x.a5.d7)->l.foldl (J7 d) (o,true)=(o++l,true)
 | [],o,_=>by simp
 | x::l,o,h=>by
  have hx:=h x (by simp);have hne:(x.a5.d7 != d.a5.d7)=true:=by simp;omega
  rw [f1i,show J7 d (o,true) x=(o++[x],true) from by unfold J7;simp [hne],c2C d fun y hy=>h y (by simp [hy])];simp
theorem c36(d:s5):∀{l o:List s5},a3c l->
  (let r:=l.foldl (J7 d) (o,false);bif !r.2 then r.1++[d] else r.1)=o++(l.filter (fun x=>decide (x.a5.d7<d.a5.d7))++d::l.filter (fun x=>decide (d.a5.d7<x.a5.d7)))
 | [],o,_=>by simp
 | x::l,o,h=>by
  obtain ⟨h1,h2⟩:=f0Z.1 h;rw [f1i];by_cases hlt:x.a5.d7<d.a5.d7
  ·have hge:¬x.a5.d7>=d.a5.d7:=by omega
   have hne:(x.a5.d7 != d.a5.d7)=true:=by simp;omega
   have hngt:¬d.a5.d7<x.a5.d7:=by omega
   rw [show J7 d (o,false) x=(o++[x],false) from by unfold J7;simp [hge,hne],c36 d h2];simp [hlt,hngt]
  ·have hge:x.a5.d7>=d.a5.d7:=by omega
   have hall:∀y∈l,d.a5.d7<y.a5.d7:=fun y hy=>by have:=h1 y hy;omega
   have hf1:l.filter (fun x=>decide (x.a5.d7<d.a5.d7))=[]:=by
    rw [List.filter_eq_nil_iff];intro y hy;have:=hall y hy;simp;omega
   have hf2:l.filter (fun x=>decide (d.a5.d7<x.a5.d7))=l:=by
    rw [List.filter_eq_self];intro y hy;simpa using hall y hy
   by_cases heq:x.a5.d7=d.a5.d7
   ·have hngt:¬d.a5.d7<x.a5.d7:=by omega
    rw [show J7 d (o,false) x=(o++[d],true) from by unfold J7;simp [hge,heq],c2C d hall];simp [hlt,hngt,hf1,hf2]
   ·have hgt:d.a5.d7<x.a5.d7:=by omega
    have hne:(x.a5.d7 != d.a5.d7)=true:=by simpa using heq
    rw [show J7 d (o,false) x=((o++[d])++[x],true) from by unfold J7;simp [hge,hne],c2C d hall];simp [hlt,hgt,hf1,hf2]
theorem c1P{l:List s5}(d:s5)(h:a3c l):a0i l d=l.filter (fun x=>decide (x.a5.d7<d.a5.d7))++d::l.filter (fun x=>decide (d.a5.d7<x.a5.d7)):=by
 have:=c36 d (o:=[]) h;simpa [a0i] using this
theorem e8V{l:List s5}(d:s5)(h:a3c l):a3c (a0i l d):=by
 rw [c1P d h];unfold a3c;rw [f08,f0Z];refine ⟨h.filter _,⟨fun y hy=>by simpa using (f0E.1 hy).2,h.filter _⟩,fun a ha b hb => ?_⟩;have h1:a.a5.d7<d.a5.d7:=by simpa using (f0E.1 ha).2
 rcases e9X.1 hb with rfl|hb
 ·exact h1
 ·have h2:d.a5.d7<b.a5.d7:=by simpa using (f0E.1 hb).2
  omega
theorem e7d{l:List s5}{d x:s5}(h:a3c l)(hx:x∈a0i l d):x∈l\/x=d:=by
 rw [c1P d h] at hx;rcases e9S.1 hx with hx|hx
 ·exact .inl (f0E.1 hx).1
 ·rcases e9X.1 hx with rfl|hx
  ·exact .inr rfl
  ·exact .inl (f0E.1 hx).1
theorem c5g{l:List s5}(d:s5)(h:a3c l):(a0i l d).length<=l.length+1:=by
 rw [c1P d h];have:(l.filter fun x=>decide (x.a5.d7<d.a5.d7)).length+(l.filter fun x=>decide (d.a5.d7<x.a5.d7)).length<=l.length:=by
  clear h;induction l with
  | nil=>simp
  | cons x l ih=>
   by_cases h1:x.a5.d7<d.a5.d7
   ·have h2:¬d.a5.d7<x.a5.d7:=by omega
    simp [h1,h2];omega
   ·by_cases h2:d.a5.d7<x.a5.d7
    ·simp [h1,h2];omega
    ·simp [h1,h2];omega
 simp only [e94,f0F];omega
structure Inv(s:u9)(k:Nat):Prop where
 at_:s.At=(k:Int)
 le:k<=40
 boxes:F7 s.i0=true
 sorted:a3c s.i9
 dones:∀d∈s.i9,a6D d=true
 len:s.i9.length<=k
theorem Inv.fits{s:u9}{k:Nat}(h:Inv s k):u5 s.i9:=by
 have:=h.len;have:=h.le;unfold u5;omega
theorem c4R{α:Type}{o:List α}{d:α}(h:o.length<=80):((o++[d]).length+1)*32<=140737488355328:=by
 rw [show (o++[d]).length=o.length+1 from by simp];omega
theorem e1d{l:List s5}{d:s5}(hl:l.length<=40):b61 l d=some (a0i l d):=by
 have hf:u5 l:=by unfold u5;omega
 have hlen:∀k,k<=l.length->((l.take k).foldl (J7 d) ([],false)).1.length<=80:=by
  intro k hk;have:=b9t d (l.take k) ([],false);simp only [f1x,f0i] at this;omega
 unfold b61;have hloop:=a0C (body:=fun s:(List s5)×Bool×Int=>b2Y l d s.1 s.2.1 s.2.2) (fun k=>(((l.take k).foldl (J7 d) ([],false)).1,((l.take k).foldl (J7 d) ([],false)).2,(k:Int))) l.length (by
  intro k hk;have hb:=hlen k (by omega);rw [f0o hk,List.foldl_append];generalize (l.take k).foldl (J7 d) ([],false)=st at hb;obtain ⟨o,i⟩:=st;simp only at hb;simp only [f1i,f1A];unfold b2Y b94 c2G J7;rw [z0 _ k hk,u6 hk,G1 hf hk];have n1:(o.length+1)*32<=140737488355328:=by omega
  have n2:((o++[d]).length+1)*32<=140737488355328:=c4R (by omega);cases i<;>cases h1:decide (l[k].a5.d7>=d.a5.d7)<;>cases h2:l[k].a5.d7 != d.a5.d7<;>simp only [h1,h2,t6 n1,t6 n2,f1C,f1D,e9P,l8.go,e9V,f0a,e99,f1B])
 simp only [f0v,f1A,f0r] at hloop;rw [show ((0:Nat):Int)=0 from rfl] at hloop;rw [hloop,D7 (b:=l.foldl (J7 d) ([],false))]
 ·have hb:=hlen l.length (f0u _);rw [f0r] at hb;unfold c1K c0L a0i;generalize l.foldl (J7 d) ([],false)=st at hb;obtain ⟨o,i⟩:=st;have n1:(o.length+1)*32<=140737488355328:=by simp only at hb;omega
  cases i<;>simp only [t6 n1,f1C,f1D,e9P,l8.go,e9V,f0a]
 ·unfold b2Y;rw [B6];rfl
def a1d(s:u9)(e:m5):u9×Int:=
 bif a3H s.i0 e.b9 then
  (bif e.b9.Code==0 then (⟨s.At+1,b6r s.i0 e.b9.b6,a0i s.i9 ⟨e.a5,0,e.b9.d9⟩⟩,0)
  else (⟨s.At+1,s.i0,a0i s.i9 ⟨e.a5,2,0⟩⟩,2))
 else (⟨s.At+1,s.i0,a0i s.i9 ⟨e.a5,1,0⟩⟩,1)
def apply(s:u9)(e:m5):u9×Int:=
 bif e.i8 then (⟨s.At+1,s.i0,s.i9⟩,5) else
 match s.i9.find? (fun d=>d.a5.d7==e.a5.d7) with
 | some d=>bif d.a5.Seq==e.a5.Seq then (⟨s.At+1,s.i0,s.i9⟩,3) else bif decide (d.a5.Seq>e.a5.Seq) then (⟨s.At+1,s.i0,s.i9⟩,4) else a1d s e
 | none=>a1d s e
theorem a9e{e:m5}(h:z6 e=true)(hn:e.i8=false):(0<=e.a5.d7/\e.a5.d7<=2)/\(1<=e.a5.Seq/\e.a5.Seq<=1000)/\S9 e.b9=true/\e.b9.Code≠3:=by
 unfold z6 at h;rw [hn] at h;simp [q8] at h;exact ⟨h.1.1,h.1.2,h.2.1,h.2.2⟩
theorem e9v{s:u9}(h:u5 s.i9)(who:Int):b6Z s who=some (match s.i9.find? (fun d=>d.a5.d7==who) with|some d=>(d,true)|none=>(⟨⟨0,0⟩,0,0⟩,false)):=by
 unfold b6Z;rw [c2k s.i9 h (fun d=>d.a5.d7==who) (fun d=>(d,true)) ()]
 ·cases s.i9.find? fun d=>d.a5.d7==who<;>rfl
 ·intro k hk;unfold b4d;rw [z0 _ k hk,u6 hk];simp only [f1C,e9P];cases s.i9[k].a5.d7==who<;>rfl
 ·unfold b4d;rw [B6];rfl
theorem c9i{s:u9}{k:Nat}{e:m5}(hs:Inv s k)(hk:k<40)(he:z6 e=true)(hf:a1X e):b0V s e=some (apply s e):=by
 have hw:m4 (s.At+1)=s.At+1:=by rw [hs.at_];exact B9 (by omega) (by omega)
 unfold b0V apply;rw [hw,e9v (s:=⟨s.At+1,s.i0,s.i9⟩) hs.fits];cases hn:e.i8;case true=>rfl
 obtain ⟨_,_,hr,hc3⟩:=a9e he hn;have hp:∀p∈e.b9.b6,a2q p:=(a7f hr).2.2.2.2
 have hfr:b7M s e=some (a1d s e):=by
  unfold b7M c3a c2H a1d;simp only [e6r (a8X hs.boxes) hf.2,hs.boxes,hr,e99,e9P,hw,e1d (f0f hs.len (by omega)),d7s hs.boxes hf.2 hp];cases a3H s.i0 e.b9
  ·rfl
  ·cases e.b9.Code==0<;>rfl
 simp only [f1D,e9P,hfr];cases hfd:s.i9.find? fun d=>d.a5.d7==e.a5.d7 with
 | none=>rfl
 | some d=>
  have hwho:d.a5.d7=e.a5.d7:=by simpa using List.find?_some hfd
  have hq:(([d.a5.d7,d.a5.Seq]:List Int)==[e.a5.d7,e.a5.Seq])=(d.a5.Seq==e.a5.Seq):=by
   rw [hwho];simp
  simp only [hq,f1C];cases d.a5.Seq==e.a5.Seq
  ·cases decide (d.a5.Seq>e.a5.Seq)<;>rfl
  ·rfl
theorem d9z{l:List s5}(h:a3c l)(who seq:Int):l.find? (fun d=>d.a5.d7==who&&decide (d.a5.Seq>=seq))=match l.find? (fun d=>d.a5.d7==who) with
  | some d=>bif decide (d.a5.Seq>=seq) then some d else none
  | none=>none:=by
 induction l with
 | nil=>rfl
 | cons x l ih=>
  obtain ⟨h1,h2⟩:=f0Z.1 h;rw [List.find?_cons,List.find?_cons];cases hx:x.a5.d7==who with
  | false=>simpa using ih h2
  | true=>
   cases hs:decide (x.a5.Seq>=seq) with
   | true=>simp [hs]
   | false=>
    simp only [Bool.and_false,hs,f1D];rw [List.find?_eq_none];intro y hy;have:=h1 y hy;have hx':x.a5.d7=who:=by simpa using hx
    simp;intro hyw;omega
theorem e2z{s:u9}{k:Nat}(hs:Inv s k):b4J s=some true:=by
 unfold b4J;have hloop:=a0C (body:=fun v:Int=>b3s s v) (fun j=>(j:Int)) s.i9.length (by
  intro j hj;have hd:=hs.dones _ (e9T hj);unfold a6D at hd;simp only [e9U,Bool.or_eq_true] at hd;obtain ⟨⟨d1,d2⟩,d3,d4,d5⟩:=hd;unfold b3s b9h;rw [z0 _ j hj,u6 hj,G1 hs.fits hj];simp only [f1C,e9P,b6U,M2,d1,d2,d3,d4,f0R,e9V,f1D];cases j with
  | zero=>
   rw [show decide (((0:Nat):Int)>0)=false from by decide];simp only [f1D];unfold bne;rcases d5 with d5|d5<;>simp [d5,l8.go,Option.bind]
  | succ j=>
   have hlt:(s.i9[j]'(by omega)).a5.d7<s.i9[j+1].a5.d7:=f0H.1 hs.sorted j (j+1) (by omega) hj (by omega);have hge:¬(s.i9[j]'(by omega)).a5.d7>=s.i9[j+1].a5.d7:=by omega
   have hle:=hs.fits;unfold u5 at hle;rw [show m4 (((j+1:Nat):Int)-1)=(j:Int) from by rw [B9 (by omega) (by omega)];omega,u6 (show j<s.i9.length by omega)];have hpos:decide (((j+1:Nat):Int)>0)=true:=by simp
   simp only [hpos,f1C,e9P,hge,decide_false,f1D];unfold bne;rcases d5 with d5|d5<;>simp [d5,l8.go,Option.bind])
 rw [show ((0:Nat):Int)=0 from rfl] at hloop;rw [hloop,D7 (b:=())]
 ·unfold b9j;have:=hs.le;have ha:q8 s.At 0 40=true:=by rw [hs.at_];simp [q8];omega
  simp [l8.go,M2,ha,b7e (a8X hs.boxes),hs.boxes]
 ·unfold b3s;rw [B6];rfl
theorem c03{s:u9}{own:s5}{bx:List q9}(hl:s.i9.length<=40)(hw:m4 (s.At+1)=s.At+1)(hd:a3c s.i9):b6N s own bx=some (⟨s.At+1,bx,a0i s.i9 own⟩,own.Code):=by
 have hf:u5 s.i9:=by unfold u5;omega
 have hlen:∀k,k<=s.i9.length->((s.i9.take k).foldl (J7 own) ([],false)).1.length<=80:=by
  intro k hk;have:=b9t own (s.i9.take k) ([],false);simp only [f1x,f0i] at this;omega
 unfold b6N;have hloop:=a0C (body:=fun x:(List s5)×Int×Bool=>b2I s own x.1 x.2.1 x.2.2) (fun k=>(((s.i9.take k).foldl (J7 own) ([],false)).1,(k:Int),((s.i9.take k).foldl (J7 own) ([],false)).2)) s.i9.length (by
  intro k hk;have hb:=hlen k (by omega);rw [f0o hk,List.foldl_append];generalize (s.i9.take k).foldl (J7 own) ([],false)=st at hb;obtain ⟨o,i⟩:=st;simp only at hb;simp only [f1i,f1A];unfold b2I c2R c1v J7;rw [z0 _ k hk,u6 hk,G1 hf hk];have n1:(o.length+1)*32<=140737488355328:=by omega
  have n2:((o++[own]).length+1)*32<=140737488355328:=c4R (by omega);cases i<;>cases h1:decide (s.i9[k].a5.d7>=own.a5.d7)<;>cases h2:s.i9[k].a5.d7 != own.a5.d7<;>simp only [h1,h2,t6 n1,t6 n2,f1C,f1D,e9P,l8.go,e9V,f0a,e99,f1B])
 simp only [f0v,f1A,f0r] at hloop;rw [show ((0:Nat):Int)=0 from rfl] at hloop;rw [hloop,D7 (b:=s.i9.foldl (J7 own) ([],false))]
 ·have hb:=hlen s.i9.length (f0u _);rw [f0r] at hb;have hpl:=c5g own hd;have hcp:a58 (a0i s.i9 own)=some (a0i s.i9 own):=d3r (by omega);unfold c1E c3e;unfold a0i at hcp⊢;generalize s.i9.foldl (J7 own) ([],false)=st at hb hcp;obtain ⟨o,i⟩:=st;have n1:(o.length+1)*32<=140737488355328:=by simp only at hb;omega
  cases i<;>simp only [t6 n1,f1C,f1D,e9P,l8.go,e9V,f0a,hw] at hcp⊢ <;>rw [hcp]<;>rfl
 ·unfold b2I;rw [B6];rfl
theorem c1I{s:u9}{k:Nat}{e:m5}(hs:Inv s k)(hk:k<40)(he:z6 e=true)(hf:a1X e):b4E s e=some (apply s e):=by
 have hw:m4 (s.At+1)=s.At+1:=by rw [hs.at_];exact B9 (by omega) (by omega)
 have hl:=hs.len;have hcd:a58 s.i9=some s.i9:=d3r (by omega);have hcb:a9Z s.i0=some s.i0:=c9P (by rw [b6y hs.boxes];decide);have hat:(s.At==40)=false:=by rw [hs.at_];simp;omega
 unfold b4E apply;rw [e2z hs,a6o hf,he];simp only [e9P,e9V,f1D,hat,hcb,hcd,hw];cases hn:e.i8;case true=>rfl
 obtain ⟨_,_,hr,hc3⟩:=a9e he hn;have hfr:b51 s e s.i0=some (a1d s e):=by
  unfold b51 a1d;simp only [d5z (a8X hs.boxes) hf.2,hs.boxes,hr,e99,e9P,e9g hs.boxes hf.2 hr];cases a3H s.i0 e.b9
  ·simp only [f0a,f1C,f1D,e9P,l8.go];exact c03 (by omega) hw hs.sorted
  ·unfold bne;cases e.b9.Code==0
   ·simp only [f0a,e9V,f1C,f1D,e9P,l8.go];exact c03 (by omega) hw hs.sorted
   ·simp only [e9V,f1C,f1D,e9P,l8.go];exact c03 (by omega) hw hs.sorted
 simp only [f1D];rw [c2k s.i9 hs.fits (fun d=>d.a5.d7==e.a5.d7&&decide (d.a5.Seq>=e.a5.Seq)) (fun d=>(⟨s.At+1,s.i0,s.i9⟩,bif d.a5.Seq==e.a5.Seq then 3 else 4)) ()]
 ·rw [d9z hs.sorted];cases s.i9.find? fun d=>d.a5.d7==e.a5.d7 with
  | none=>simp only [e9P,l8.go,hfr]
  | some d=>
   cases hq:d.a5.Seq==e.a5.Seq with
   | true=>
    have:d.a5.Seq>=e.a5.Seq:=by
     have:d.a5.Seq=e.a5.Seq:=by simpa using hq
     omega
    simp [this,l8.go,hq]
   | false=>
    have hne:d.a5.Seq≠e.a5.Seq:=by simpa using hq
    by_cases hg:d.a5.Seq>e.a5.Seq
    ·have:d.a5.Seq>=e.a5.Seq:=by omega
     simp [this,l8.go,hg,hq]
    ·have:¬d.a5.Seq>=e.a5.Seq:=by omega
     simp [this,l8.go,hg,hfr,hq]
 ·intro j hj;unfold b73 c3H;rw [z0 _ j hj,u6 hj];simp only [f1C,e9P,hcd,hw];cases h1:s.i9[j].a5.d7==e.a5.d7<;>cases h2:decide (s.i9[j].a5.Seq>=e.a5.Seq)<;>cases h3:s.i9[j].a5.Seq==e.a5.Seq<;>simp only [f1C,f1D,e9P,l8.go,e99,f1B,f0R,Bool.and_false]
 ·unfold b73;rw [B6];rfl
theorem d5c{s:u9}{k:Nat}{e:m5}(hs:Inv s k)(hk:k<40)(he:z6 e=true)(hn:e.i8=false):Inv (a1d s e).1 (k+1)/\0<=(a1d s e).2/\(a1d s e).2<=5:=by
  obtain ⟨h1,h2,hr,hc3⟩:=a9e he hn;have hp:=a7f hr;have hat:s.At+1=((k+1:Nat):Int):=by rw [hs.at_];rfl
  have key:∀(bx:List q9) (d:s5),F7 bx=true->a6D d=true->Inv ⟨s.At+1,bx,a0i s.i9 d⟩ (k+1):=fun bx d hb hd=>
    { at_:=hat,le:=by omega,boxes:=hb,sorted:=e8V d hs.sorted
      dones:=fun x hx=>by
        rcases e7d hs.sorted hx with hx|rfl
        · exact hs.dones x hx
        · exact hd
      len:=by
        have:=c5g d hs.sorted;have:=hs.len;simp only;omega}
  have hd0:∀c:Int,0<=c->c<=2->a6D ⟨e.a5,c,0⟩=true:=by
    intro c c1 c2;unfold a6D q8;simp;omega
  have hd1:a6D ⟨e.a5,0,e.b9.d9⟩=true:=by
    unfold a6D q8;simp;omega
  unfold a1d;cases a3H s.i0 e.b9
  · exact ⟨key _ _ hs.boxes (hd0 1 (by decide) (by decide)),show (0:Int)<=1 from by decide,show (1:Int)<=5 from by decide⟩
  · cases e.b9.Code==0
    · exact ⟨key _ _ hs.boxes (hd0 2 (by decide) (by decide)),show (0:Int)<=2 from by decide,show (2:Int)<=5 from by decide⟩
    · exact ⟨key _ _ (c1M hs.boxes hp.2.2.2.2) hd1,show (0:Int)<=0 from by decide,show (0:Int)<=5 from by decide⟩
theorem d9G{s:u9}{k:Nat}{e:m5}(hs:Inv s k)(hk:k<40)(he:z6 e=true):Inv (apply s e).1 (k+1)/\0<=(apply s e).2/\(apply s e).2<=5:=by
 have hat:s.At+1=((k+1:Nat):Int):=by rw [hs.at_];rfl
 have key:Inv ⟨s.At+1,s.i0,s.i9⟩ (k+1):={at_:=hat,le:=by omega,boxes:=hs.boxes,sorted:=hs.sorted,dones:=hs.dones,len:=f05 hs.len}
 unfold apply;cases hn:e.i8
 ·have hfr:=d5c hs hk he hn;simp only [f1D];cases s.i9.find? fun d=>d.a5.d7==e.a5.d7 with
  | none=>exact hfr
  | some d=>
   simp only;cases d.a5.Seq==e.a5.Seq
   ·cases decide (d.a5.Seq>e.a5.Seq)
    ·exact hfr
    ·exact ⟨key,show (0:Int)<=4 from by decide,show (4:Int)<=5 from by decide⟩
   ·exact ⟨key,show (0:Int)<=3 from by decide,show (3:Int)<=5 from by decide⟩
 ·exact ⟨key,show (0:Int)<=5 from by decide,show (5:Int)<=5 from by decide⟩
def U4:u9:=⟨0,e9R 4 ⟨0,0⟩,[]⟩
theorem e9h:Inv U4 0:={at_:=rfl,le:=by omega,boxes:=by decide,sorted:=.nil,dones:=by simp [U4],len:=by simp [U4]}
theorem c4p:b1u=some U4:=by
 unfold b1u a3W;rw [t6 (by decide)];rfl
theorem d7C:b4e=some U4:=by
 unfold b4e b9A;rw [t6 (by decide)];rfl
def b2i(st:u9×List Int)(e:m5):u9×List Int:=((apply st.1 e).1,st.2++[(apply st.1 e).2])
def A2(l:List m5):u9×List Int:=l.foldl b2i (U4,[])
theorem a7E{l:List m5}{k:Nat}(hk:k<l.length):A2 (l.take (k+1))=b2i (A2 (l.take k)) l[k]:=by
 unfold A2;rw [f0o hk,List.foldl_append];rfl
theorem a4f{l:List m5}(hl:l.length<=40)(he:l.all z6=true):∀k,k<=l.length->Inv (A2 (l.take k)).1 k/\(A2 (l.take k)).2.length=k/\∀c∈(A2 (l.take k)).2,0<=c/\c<=5
 | 0,_=>by
  rw [f0v];exact ⟨e9h,rfl,by simp [A2]⟩
 | k+1,hk=>by
  obtain ⟨h1,h2,h3⟩:=a4f hl he k (by omega);have ha:=d9G h1 (by omega) (e9Y.1 he _ (e9T (show k<l.length by omega)));rw [a7E (show k<l.length by omega)];refine ⟨ha.1,by simp [b2i,h2],fun c hc => ?_⟩;unfold b2i at hc;rcases e9S.1 hc with hc|hc
  ·exact h3 c hc
  ·rw [e92] at hc;rw [hc];exact ha.2
theorem a7N{l:List m5}(h:M9 l=true):l.length<=40/\l.all z6=true:=by
 unfold M9 at h;simpa using h
theorem c9p{l:List m5}(h:A0 88 a1X l)(hl:l.length<=40)(he:l.all z6=true):b3q l=some (A2 l):=by
  have hf:u5 l:=h.fits (by decide);unfold b3q;rw [d7C,e9P];first
  | (have hloop:=a0C (body:=fun s:(List q9)×(List s5)×(List Int)×Int×Int=>a0U l s.1 s.2.1 s.2.2.1 s.2.2.2.1 s.2.2.2.2) (fun k=>((A2 (l.take k)).1.i0,(A2 (l.take k)).1.i9,(A2 (l.take k)).2,(k:Int),(A2 (l.take k)).1.At)) l.length (by
       intro k hk;obtain ⟨h1,h2,h3⟩:=a4f hl he k (by omega);have n1:((A2 (l.take k)).2.length+1)*8<=140737488355328:=by rw [h2];omega
       rw [a7E hk];unfold a0U;rw [z0 _ k hk,u6 hk,G1 hf hk];simp only [f1C,e9P];rw [c1I h1 (by omega) (e9Y.1 he _ (e9T hk)) (h.2 _ (e9T hk)),e9P,t6 n1];rfl)
     rw [f0v,f0r] at hloop;rw [show ((0:Nat):Int)=0 from rfl] at hloop;rw [show s2 (fun s:(List q9)×(List s5)×(List Int)×Int×Int=>a0U l s.1 s.2.1 s.2.2.1 s.2.2.2.1 s.2.2.2.2) (U4.i0,U4.i9,([]:List Int),0,U4.At)=_ from hloop,D7 (b:=((A2 l).1.i0,(A2 l).1.i9,(A2 l).2,(A2 l).1.At))]
     · rfl
     · unfold a0U;rw [B6];rfl
     done)
  | (have hloop:=a0C (body:=fun s:u9×(List Int)×Int=>a0U l s.1 s.2.1 s.2.2) (fun k=>((A2 (l.take k)).1,(A2 (l.take k)).2,(k:Int))) l.length (by
       intro k hk;obtain ⟨h1,h2,h3⟩:=a4f hl he k (by omega);have n1:((A2 (l.take k)).2.length+1)*8<=140737488355328:=by rw [h2];omega
       rw [a7E hk];unfold a0U;rw [z0 _ k hk,u6 hk,G1 hf hk];simp only [f1C,e9P];rw [c1I h1 (by omega) (e9Y.1 he _ (e9T hk)) (h.2 _ (e9T hk)),e9P,t6 n1];rfl)
     rw [f0v,f0r] at hloop;rw [show ((0:Nat):Int)=0 from rfl] at hloop;rw [show s2 (fun s:u9×(List Int)×Int=>a0U l s.1 s.2.1 s.2.2) (U4,[],0)=_ from hloop,D7 (b:=A2 l)]
     · rfl
     · unfold a0U;rw [B6];rfl
     done)
  | (have hloop:=a0C (body:=fun s:(List q9)×(List Int)×Int×Int×List s5=>a0U l s.1 s.2.1 s.2.2.1 s.2.2.2.1 s.2.2.2.2) (fun k=>((A2 (l.take k)).1.i0,(A2 (l.take k)).2,(k:Int),(A2 (l.take k)).1.At,(A2 (l.take k)).1.i9)) l.length (by
       intro k hk;obtain ⟨h1,h2,h3⟩:=a4f hl he k (by omega);have n1:((A2 (l.take k)).2.length+1)*8<=140737488355328:=by rw [h2];omega
       rw [a7E hk];unfold a0U;rw [z0 _ k hk,u6 hk,G1 hf hk];simp only [f1C,e9P];rw [show (⟨(A2 (l.take k)).1.At,(A2 (l.take k)).1.i0,(A2 (l.take k)).1.i9⟩:u9)=(A2 (l.take k)).1 from rfl,c1I h1 (by omega) (e9Y.1 he _ (e9T hk)) (h.2 _ (e9T hk)),e9P,t6 n1];rfl)
     rw [f0v,f0r] at hloop;rw [show ((0:Nat):Int)=0 from rfl] at hloop;rw [show s2 (fun s:(List q9)×(List Int)×Int×Int×List s5=>a0U l s.1 s.2.1 s.2.2.1 s.2.2.2.1 s.2.2.2.2) (U4.i0,[],0,U4.At,U4.i9)=_ from hloop,D7 (b:=((A2 l).1.i0,(A2 l).2,(A2 l).1.At,(A2 l).1.i9))]
     · rfl
     · unfold a0U;rw [B6];rfl
     done)
def Rd(r:o6)(m:Nat):Prop:=(∀x∈r.b,a5h x)/\r.b.length<=2000/\0<=r.p/\r.p<=(m:Int)
theorem Rd.mono{r:o6}{m n:Nat}(h:Rd r m)(hn:m<=n):Rd r n:=⟨h.1,h.2.1,h.2.2.1,by have:=h.2.2.2;omega⟩
theorem e0I{x y:Int}(hx:0<=x)(hx2:x<4611686018427387904)(hy:0<=y)(hy2:y<4611686018427387904):0<=a5L .i64 x y/\a5L .i64 x y<4611686018427387904:=by
 obtain ⟨a,rfl⟩:∃a:Nat,x=(a:Int):=⟨x.toNat,by omega⟩
 obtain ⟨b,rfl⟩:∃b:Nat,y=(b:Int):=⟨y.toNat,by omega⟩
 have hxor:a ^^^ b<2 ^ 62:=Nat.xor_lt_two_pow (by omega) (by omega);have h:a5L .i64 (a:Int) (b:Int)=((a ^^^ b:Nat):Int):=by
  unfold a5L;rw [BitVec.toNat_xor];have e1:(BitVec.ofInt IntKind.i64.bits (a:Int)).toNat=a:=by
   show (BitVec.ofInt 64 (a:Int)).toNat=a
   rw [BitVec.toNat_ofInt];omega
  have e2:(BitVec.ofInt IntKind.i64.bits (b:Int)).toNat=b:=by
   show (BitVec.ofInt 64 (b:Int)).toNat=b
   rw [BitVec.toNat_ofInt];omega
  rw [e1,e2];exact IntWalk.i64_in _ ⟨by omega,by omega⟩
 rw [h];omega
theorem b9X{l:List Int}(h:∀x∈l,a5h x){i:Int}(h0:0<=i)(h1:i<l.length):∃y,idx l i=some y/\0<=y/\y<=255:=by
 have hlt:i.toNat<l.length:=by omega
 refine ⟨l[i.toNat],?_,h _ (e9T hlt)⟩;unfold idx;rw [if_pos h0,e9Q hlt]
theorem b11{x n:Int}(hx:0<=x)(hn:1<=n):0<=e9Z x n/\e9Z x n<n:=by
 rw [Int.tmod_eq_emod_of_nonneg hx];exact ⟨Int.emod_nonneg _ (by omega),Int.emod_lt_of_pos _ (by omega)⟩
theorem d3J{x n:Int}(hx:0<=x)(hn:1<=n):0<=f1t x n/\f1t x n<=x:=by
 rw [Int.tdiv_eq_ediv_of_nonneg hx];exact ⟨Int.ediv_nonneg hx (by omega),Int.ediv_le_self _ hx⟩
theorem C7{r:o6}{m:Nat}(h:Rd r m)(hm:m<=1000000000)(n:Int):∃v r',A3 r n=some (v,r')/\Rd r' (m+1)/\0<=v/\(v<n\/v=0):=by
 obtain ⟨hb,hbl,hp0,hp1⟩:=h;have hw:m4 (r.p+1)=r.p+1:=B9 (by omega) (by omega);have hw2:m4 (r.p+1-1)=r.p:=by rw [B9 (by omega) (by omega)];omega
 have hr:Rd ⟨r.b,r.p+1⟩ (m+1):=⟨hb,hbl,by simp only;omega,by simp only;omega⟩
 unfold A3;simp only [hw,hw2];by_cases hn:n<1
 ·simp only [hn,decide_true,f1C];exact ⟨0,_,rfl,hr,by omega,.inr rfl⟩
 simp only [hn,decide_false,f1D];cases he:((r.b.length:Int)==0);case true=>exact ⟨0,_,rfl,hr,by omega,.inr rfl⟩
 have hpos:0<r.b.length:=by
  have:¬(r.b.length:Int)=0:=by simpa using he
  omega
 have hne:(r.b.length:Int)≠0:=by omega
 have hnn:n≠0:=by omega
 simp only [f1D];by_cases hlt:r.p<(r.b.length:Int)
 ·obtain ⟨y,h1,h2,h3⟩:=b9X hb hp0 hlt;simp only [hlt,decide_true,f1C,h1,e9P,t6 hnn];rw [B9 (n:=y) (by omega) (by omega)];have:=b11 h2 (show 1<=n by omega);exact ⟨_,_,rfl,hr,this.1,.inl this.2⟩
 ·simp only [hlt,decide_false,f1D,t6 hne,t6 hnn];have t1:=b11 hp0 (show (1:Int)<=(r.b.length:Int) by omega);obtain ⟨y1,a1,a2,a3⟩:=b9X hb t1.1 t1.2;have w7:m4 (r.p*7)=r.p*7:=B9 (by omega) (by omega);have w73:m4 (r.p*7+3)=r.p*7+3:=B9 (by omega) (by omega);have t2:=b11 (show 0<=r.p*7+3 by omega) (show (1:Int)<=(r.b.length:Int) by omega);obtain ⟨y2,b1,b2,b3⟩:=b9X hb t2.1 t2.2;simp only [a1,w7,w73,b1,e9P];have td:=d3J hp0 (show (1:Int)<=(r.b.length:Int) by omega);have c1:m4 (m4 y1*131)=y1*131:=by rw [B9 (n:=y1) (by omega) (by omega),B9 (by omega) (by omega)]
  have c2:m4 (m4 y2*1117)=y2*1117:=by rw [B9 (n:=y2) (by omega) (by omega),B9 (by omega) (by omega)]
  have c3:m4 (r.p*29)=r.p*29:=B9 (by omega) (by omega);have c4:m4 (m4 (f1t r.p (r.b.length:Int))*53)=f1t r.p (r.b.length:Int)*53:=by rw [B9 (n:=f1t r.p (r.b.length:Int)) (by omega) (by omega),B9 (by omega) (by omega)]
  simp only [c1,c2,c3,c4];generalize f1t r.p (r.b.length:Int)=q at td;rw [B9 (n:=y1*131+y2*1117) (by omega) (by omega),B9 (n:=y1*131+y2*1117+r.p*29) (by omega) (by omega),B9 (n:=y1*131+y2*1117+r.p*29+q*53) (by omega) (by omega)];have hA0:0<=y1*131+y2*1117+r.p*29+q*53:=by omega
  have hA1:y1*131+y2*1117+r.p*29+q*53<1000000000000:=by omega
  generalize y1*131+y2*1117+r.p*29+q*53=A at hA0 hA1;have t3:=d3J hA0 (show (1:Int)<=64 by omega);rw [B9 (n:=f1t A 64) (by omega) (by omega)];have hx:=e0I hA0 (by omega) t3.1 (by omega);have t4:=b11 hx.1 (show 1<=n by omega);exact ⟨_,_,rfl,hr,t4.1,.inl t4.2⟩
theorem a1G{r:o6}{m:Nat}(h:Rd r m)(hm:m<=1000000000)(l:List Int)(hl:0<l.length)(hl2:l.length<=1000):∃v r',T2 r l=some (v,r')/\Rd r' (m+1)/\v∈l:=by
 obtain ⟨v,r',h1,h2,h3,h4⟩:=C7 h hm (l.length:Int);unfold T2;rw [h1,e9P];have hlt:v.toNat<l.length:=by omega
 refine ⟨l[v.toNat],r',?_,h2,e9T hlt⟩;unfold idx;simp only [if_pos h3,e9Q hlt,e9P]
theorem d69{code:List Int}(h:∀x∈code,a5h x):∃r,b4M code=some r/\Rd r 0:=by
 unfold b4M b8L;by_cases hl:(code.length:Int)>2000
 ·simp only [hl,decide_true,f1C];rw [t6 ⟨by omega,by omega⟩];refine ⟨_,rfl,?_,?_,by simp,by simp⟩
  ·intro x hx;simp only [f0S] at hx;exact h x (f0D hx)
  ·simp only [f0i];have:(2000:Int).toNat-0=2000:=by decide
   omega
 ·simp only [hl,decide_false,f1D];exact ⟨_,rfl,h,by simp only;omega,by simp,by simp⟩
def L8(i:r9):Bool:=
 bif i.a6==1 then q8 i.A 0 3&&(q8 i.B 0 3&&i.N==0) else
 bif i.a6==2 then q8 i.A 0 3&&(q8 i.B 0 3&&i.N==0) else
 bif i.a6==3 then q8 i.A 0 3&&(i.B==0&&q8 i.N (-1000000) 1000000) else
 bif i.a6==4 then q8 i.A 0 3&&(q8 i.B 0 3&&i.N==0) else
 bif i.a6==5 then q8 i.A 0 3&&(q8 i.B 0 3&&i.N==0) else
 bif i.a6==6 then q8 i.A 0 3&&(q8 i.B 0 3&&q8 i.N 1 10) else
 bif i.a6==7 then i.A==0&&(i.B==0&&i.N==0) else false
theorem e3y(n:Int):a1Q n=some (q8 n 0 3):=by
 rw [<-M2];unfold a1Q D2;have:(n<4)=(n<=3):=by apply propext;omega
 simp only [this]
theorem e6t(i:r9):b4u i=some (L8 i):=by
 unfold b4u L8;have h6:(bif decide (i.N>=1) then some (decide (i.N<=10)) else some false)=some (q8 i.N 1 10):=by
  unfold q8;by_cases h1:i.N>=1<;>by_cases h2:i.N<=10<;>simp [h1,h2]<;>omega
 simp only [e3y,b93,a6d,e9P,h6];cases i.a6==1<;>cases i.a6==2<;>cases i.a6==3<;>cases i.a6==4<;>cases i.a6==5<;>cases i.a6==6<;>cases i.a6==7<;>cases q8 i.A 0 3<;>cases q8 i.B 0 3<;>cases i.A==0<;>cases i.B==0<;>rfl
def D6(l:List r9):Bool:=decide (l.length<=10)&&l.all L8
theorem b6V{l:List r9}(h:u5 l):b0f l=some (D6 l):=by
 unfold b0f D6;rw [show (10:Int)=((10:Nat):Int) from rfl,a9m,S5 l h L8 false ()]
 ·cases decide (l.length<=10)
  ·rfl
  ·cases l.all L8<;>rfl
 ·intro k hk;unfold b58;rw [z0 _ k hk,u6 hk];simp only [f1C,e9P,e6t];cases L8 l[k]<;>rfl
 ·unfold b58;rw [B6];rfl
theorem a7Z{i:r9}(h:L8 i=true):(i.a6=1/\(0<=i.A/\i.A<=3)/\(0<=i.B/\i.B<=3))\/(i.a6=2/\(0<=i.A/\i.A<=3)/\(0<=i.B/\i.B<=3))\/(i.a6=3/\(0<=i.A/\i.A<=3)/\(-1000000<=i.N/\i.N<=1000000))\/
  (i.a6=4/\(0<=i.A/\i.A<=3)/\(0<=i.B/\i.B<=3))\/(i.a6=5/\(0<=i.A/\i.A<=3)/\(0<=i.B/\i.B<=3))\/(i.a6=6/\(0<=i.A/\i.A<=3)/\(0<=i.B/\i.B<=3)/\(1<=i.N/\i.N<=10))\/(i.a6=7/\i.A=0):=by
 unfold L8 q8 at h;by_cases h1:i.a6=1
 ·simp [h1] at h;exact .inl ⟨h1,h.1,h.2.1⟩
 by_cases h2:i.a6=2
 ·simp [h2] at h;exact .inr (.inl ⟨h2,h.1,h.2.1⟩)
 by_cases h3:i.a6=3
 ·simp [h3] at h;exact .inr (.inr (.inl ⟨h3,h.1,h.2.2⟩))
 by_cases h4:i.a6=4
 ·simp [h4] at h;exact .inr (.inr (.inr (.inl ⟨h4,h.1,h.2.1⟩)))
 by_cases h5:i.a6=5
 ·simp [h5] at h;exact .inr (.inr (.inr (.inr (.inl ⟨h5,h.1,h.2.1⟩))))
 by_cases h6:i.a6=6
 ·simp [h6] at h;exact .inr (.inr (.inr (.inr (.inr (.inl ⟨h6,h.1,h.2.1,h.2.2⟩)))))
 by_cases h7:i.a6=7
 ·simp [h7] at h;exact .inr (.inr (.inr (.inr (.inr (.inr ⟨h7,h.1⟩)))))
 ·have e1:(i.a6==1)=false:=by simpa using h1
  have e2:(i.a6==2)=false:=by simpa using h2
  have e3:(i.a6==3)=false:=by simpa using h3
  have e4:(i.a6==4)=false:=by simpa using h4
  have e5:(i.a6==5)=false:=by simpa using h5
  have e6:(i.a6==6)=false:=by simpa using h6
  have e7:(i.a6==7)=false:=by simpa using h7
  rw [e1,e2,e3,e4,e5,e6,e7] at h;cases h
def a3g(l:List s1):Bool:=(e91 l.length).all (W7 l)
def a1y(l:List p9):Bool:=(e91 l.length).all (V9 l)
def b95(x:s1):Prop:=0<=x.i6/\x.i6<=3/\0<=x.j4/\x.j4<=1000000
theorem c9f{l:List s1}:a3g l=true↔(∀x∈l,b95 x)/\l.Pairwise fun a b=>a.i6≠b.i6:=by
 unfold a3g;constructor
 ·intro h;refine ⟨c7r h,?_⟩;rw [f0H];intro i j hi hj hij heq;have:=e9Y.1 h j (by simpa using hj);unfold W7 at this;rw [e9Q hj] at this;simp only [e9U,f0L] at this;have hs:=this.2.2;unfold L3 at hs;rw [f0w] at hs;refine hs l[i] ?_ (by simpa using heq);rw [f09];exact ⟨i,by omega,rfl⟩
 ·rintro ⟨h1,h2⟩
  rw [e9Y];intro k hk;have hk:k<l.length:=by simpa using hk
  unfold W7;rw [e9Q hk];have hf:=h1 _ (e9T hk);have hs:L3 (l.take k) l[k].i6=false:=by
   unfold L3;rw [f0w];intro x hx;obtain ⟨i,hi,rfl⟩:=f09.1 hx;have:=f0H.1 h2 i k (by omega) hk (by omega);simpa using this
  simp only [hs,f0a,f0R,e9U];unfold b95 at hf;exact ⟨by simp [q8];omega,by simp [q8];omega⟩
theorem b8y{l:List p9}:a1y l=true↔(∀x∈l,a2q x)/\l.Pairwise fun a b=>a.i6≠b.i6:=by
 unfold a1y;constructor
 ·intro h;refine ⟨c9R h,?_⟩;rw [f0H];intro i j hi hj hij heq;have:=e9Y.1 h j (by simpa using hj);unfold V9 at this;rw [e9Q hj] at this;simp only [e9U,f0L] at this;have hs:=this.2.2;unfold Q7 at hs;rw [f0w] at hs;refine hs l[i] ?_ (by simpa using heq);rw [f09];exact ⟨i,by omega,rfl⟩
 ·rintro ⟨h1,h2⟩
  rw [e9Y];intro k hk;have hk:k<l.length:=by simpa using hk
  unfold V9;rw [e9Q hk];have hf:=h1 _ (e9T hk);have hs:Q7 (l.take k) l[k].i6=false:=by
   unfold Q7;rw [f0w];intro x hx;obtain ⟨i,hi,rfl⟩:=f09.1 hx;have:=f0H.1 h2 i k (by omega) hk (by omega);simpa using this
  simp only [hs,f0a,f0R,e9U];unfold a2q at hf;exact ⟨by simp [q8];omega,by simp [q8];omega⟩
theorem c89{l:List s1}{x:s1}(h:a3g l=true)(hx:b95 x)(hs:L3 l x.i6=false):a3g (l++[x])=true:=by
 rw [c9f] at h⊢;refine ⟨fun y hy => ?_,?_⟩
 ·rcases e9S.1 hy with hy|hy
  ·exact h.1 y hy
  ·rw [e92.1 hy];exact hx
 ·rw [f08];refine ⟨h.2,by simp,fun a ha b hb => ?_⟩;rw [e92.1 hb];unfold L3 at hs;rw [f0w] at hs;simpa using hs a ha
theorem c6t{l:List p9}{x:p9}(h:a1y l=true)(hx:a2q x)(hs:Q7 l x.i6=false):a1y (l++[x])=true:=by
 rw [b8y] at h⊢;refine ⟨fun y hy => ?_,?_⟩
 ·rcases e9S.1 hy with hy|hy
  ·exact h.1 y hy
  ·rw [e92.1 hy];exact hx
 ·rw [f08];refine ⟨h.2,by simp,fun a ha b hb => ?_⟩;rw [e92.1 hb];unfold Q7 at hs;rw [f0w] at hs;simpa using hs a ha
theorem c6o{l:List p9}{k:Nat}{v:Int}(h:a1y l=true)(hk:k<l.length)(hv:-1000000<=v/\v<=1000000):a1y (l.set k ⟨l[k].i6,v⟩)=true:=by
 rw [b8y] at h⊢;refine ⟨fun y hy => ?_,?_⟩
 ·rcases f0b hy with hy|rfl
  ·exact h.1 y hy
  ·have:=h.1 _ (e9T hk);exact ⟨this.1,this.2.1,hv⟩
 ·rw [f0H];intro i j hi hj hij;have hi':i<l.length:=by simpa using hi
  have hj':j<l.length:=by simpa using hj
  have hne:=f0H.1 h.2 i j hi' hj' hij;rw [List.getElem_set,List.getElem_set];split<;>split<;>simp_all
theorem b2Q(r:m9):S9 r=(q8 r.Code 0 3&&(q8 r.d9 (-1000000) 1000000&&((r.Code==0||(r.d9==0&&r.b6.length==0))&&((r.Code != 3||r.a9.length==0)&&(a3g r.a9&&a1y r.b6))))):=rfl
theorem c8s{l:List p9}(h:u5 l)(box:Int):(a13 l box=some (-1)/\Q7 l box=false)\/∃k:Nat,a13 l box=some (k:Int)/\∃hk:k<l.length,l[k].i6=box:=by
 have hc:=a47 (body:=fun s:Int=>a08 l box s) (fun k=>(k:Int)) l.length (fun k=>match l[k]? with|some x => !(x.i6==box)|none=>true) (fun k=>(k:Int)) ()
  (fun k hk _=>by
   unfold a08;rw [z0 l k hk,u6 hk,G1 h hk];simp only [f1C,e9P,e9Q hk];cases l[k].i6==box<;>rfl) (fun _=>by unfold a08;rw [B6];rfl)
 unfold a13;rcases hc with ⟨h1,hall⟩|⟨k,hk,ho,_,h1⟩
 ·left
  rw [show s2 (fun s:Int=>a08 l box s) 0=_ from h1];refine ⟨rfl,?_⟩;unfold Q7;rw [f0w];intro x hx;obtain ⟨i,hi,rfl⟩:=f0U hx;have:=hall i hi;simpa [e9Q hi] using this
 ·right
  rw [show s2 (fun s:Int=>a08 l box s) 0=_ from h1];refine ⟨k,rfl,hk,?_⟩;simpa [e9Q hk] using ho
def inV(v:Int):Prop := -1000000<=v/\v<=1000000
def a6J(regs:List Int):Prop:=regs.length=4/\∀v∈regs,inV v
theorem a2h{regs:List Int}(h:regs.length=4){a:Int}(ha:0<=a/\a<=3):∃v,idx regs a=some v/\v∈regs:=by
 have hlt:a.toNat<regs.length:=by omega
 refine ⟨regs[a.toNat],?_,e9T hlt⟩;unfold idx;rw [if_pos ha.1,e9Q hlt]
theorem d9B{regs:List Int}{a:Nat}{v w:Int}(h:w∈regs.set a v):w∈regs\/w=v:=f0b h
structure S0(r:m9)(n:Nat):Prop where
 val:r.d9=0
 reads:a3g r.a9=true
 puts:a1y r.b6=true
 rlen:r.a9.length<=n
 plen:r.b6.length<=n
theorem S0.fitsR{r:m9}{n:Nat}(h:S0 r n)(hn:n<=100):u5 r.a9:=by
 have:=h.rlen;unfold u5;omega
theorem S0.fitsP{r:m9}{n:Nat}(h:S0 r n)(hn:n<=100):u5 r.b6:=by
 have:=h.plen;unfold u5;omega
theorem e3A{l:List q9}{r:m9}{n:Nat}{box:Int}(hl:F7 l=true)(hr:S0 r n)(hn:n<=100)(hb:0<=box/\box<=3):∃v r',b09 l r box=some (v,r')/\S0 r' (n+1)/\r'.Code=r.Code/\inV v:=by
 have hp:=(b8y.1 hr.puts).1;unfold b09;rcases c8s (hr.fitsP hn) box with ⟨h1,h2⟩|⟨k,h1,hk,h2⟩
 ·rw [h1,e9P,show decide ((-1:Int)>=0)=false from by decide,f1D,b87 (hr.fitsR hn),e9P];obtain ⟨b,b1,b2,b3⟩:=a4C hl hb;rw [b3o] at b3;cases hs:L3 r.a9 box
  ·simp only [f0a,f1C,b1,e9P];have n1:(r.a9.length+1)*16<=140737488355328:=by have:=hr.rlen;omega
   simp only [t6 n1,e9P,l8.go];unfold b3e;rw [b1,e9P];refine ⟨_,_,rfl,⟨hr.val,c89 hr.reads ⟨hb.1,hb.2,b3.1⟩ hs,hr.puts,?_,?_⟩,rfl,b3.2⟩
   ·have:=hr.rlen;simp;omega
   ·have:=hr.plen;simp only;omega
  ·simp only [e9V,f1D,e9P,l8.go];unfold b3e;rw [b1,e9P];refine ⟨_,_,rfl,⟨hr.val,hr.reads,hr.puts,?_,?_⟩,rfl,b3.2⟩
   ·have:=hr.rlen;simp only;omega
   ·have:=hr.plen;simp only;omega
 ·rw [h1,e9P,show decide (((k:Nat):Int)>=0)=true from by simp,f1C,u6 hk,e9P];have hf:=hp _ (e9T hk);exact ⟨_,_,rfl,⟨hr.val,hr.reads,hr.puts,f05 hr.rlen,f05 hr.plen⟩,rfl,hf.2.2⟩
theorem e3K{r:m9}{n:Nat}{box v:Int}(hr:S0 r n)(hn:n<=100)(hb:0<=box/\box<=3)(hv:inV v):∃r',b0t r box v=some r'/\S0 r' (n+1)/\r'.Code=r.Code:=by
 unfold b0t;rcases c8s (hr.fitsP hn) box with ⟨h1,h2⟩|⟨k,h1,hk,h2⟩
 ·rw [h1,e9P,show decide ((-1:Int)>=0)=false from by decide,f1D];have n1:(r.b6.length+1)*16<=140737488355328:=by have:=hr.plen;omega
  rw [t6 n1];refine ⟨_,rfl,⟨hr.val,hr.reads,c6t hr.puts ⟨hb.1,hb.2,hv⟩ h2,?_,?_⟩,rfl⟩
  ·have:=hr.rlen;simp only;omega
  ·have:=hr.plen;simp;omega
 ·rw [h1,e9P,show decide (((k:Nat):Int)>=0)=true from by simp,f1C,u6 hk,e9P];refine ⟨_,rfl,⟨hr.val,hr.reads,?_,f05 hr.rlen,?_⟩,rfl⟩
  ·simp only [f0k];exact c6o hr.puts hk hv
  ·have:=hr.plen;simp;omega
theorem d3Z{l:List q9}{r:m9}{n:Nat}{regs:List Int}{i:r9}(hl:F7 l=true)(hr:S0 r n)(hn:n<=100)(hc:r.Code=0)(hg:a6J regs)(hi:L8 i=true)(h6:i.a6≠6) :
  ∃r' regs',a5Y l r regs i=some (r',regs')/\S0 r' (n+1)/\regs'.length=4/\(r'.Code=0\/r'.Code=1\/r'.Code=2)/\(r'.Code=0->a6J regs'):=by
 have hend:∀(regs':List Int) (r':m9),S0 r' (n+1)->(r'.Code=0\/r'.Code=1)->regs'.length=4->i.a6≠2->(0<=i.A/\i.A<=3)->(∀v,idx regs' i.A=some v->inV v->a6J regs')->
   ∃r2 regs2,a2X i regs' r'.a9 r'.b6 r'.d9 r'.Code=some (r2,regs2)/\S0 r2 (n+1)/\regs2.length=4/\(r2.Code=0\/r2.Code=1\/r2.Code=2)/\(r2.Code=0->a6J regs2):=by
  intro regs' r' w1 w2 w3 w4 w5 w6;obtain ⟨v,v1,v2⟩:=a2h w3 w5;have hk:(i.a6 != 2)=true:=by simpa using w4
  unfold a2X a8i;rw [hk,f1C,v1,e9P,a6d,e9P];cases hv:q8 v (-1000000) 1000000
  ·simp only [f0a,f1C,e9P,l8.go];exact ⟨_,_,rfl,⟨w1.val,w1.reads,w1.puts,w1.rlen,w1.plen⟩,w3,.inr (.inr rfl),fun h=>absurd h (show ¬(2:Int)=0 from by decide)⟩
  ·simp only [e9V,f1D,e9P,l8.go];have hv':inV v:=by simpa [q8,inV] using hv
   refine ⟨_,_,rfl,⟨w1.val,w1.reads,w1.puts,w1.rlen,w1.plen⟩,w3,?_,fun _=>w6 v v1 hv'⟩;rcases w2 with w2|w2
   ·exact .inl w2
   ·exact .inr (.inl w2)
 have hset:∀(a:Int) (x:Int),(0<=a/\a<=3)->(regs.set a.toNat x).length=4/\∀v,idx (regs.set a.toNat x) a=some v->inV v->a6J (regs.set a.toNat x):=by
  intro a x ha;have hlt:a.toNat<regs.length:=by have:=hg.1;omega
  refine ⟨by simpa using hg.1,fun v hv hin=>⟨by simpa using hg.1,fun w hw => ?_⟩⟩;rcases d9B hw with hw|rfl
  ·exact hg.2 w hw
  ·unfold idx at hv;rw [if_pos ha.1,f0V hlt] at hv;injection hv with hv;subst hv;exact hin
 have hw1:S0 r (n+1):=⟨hr.val,hr.reads,hr.puts,f05 hr.rlen,f05 hr.plen⟩
 unfold a5Y;rcases a7Z hi with ⟨k,ha,hb⟩|⟨k,ha,hb⟩|⟨k,ha,hN⟩|⟨k,ha,hb⟩|⟨k,ha,hb⟩|⟨k,_⟩|⟨k,ha⟩
 ·obtain ⟨v,r',q1,q2,q3,q4⟩:=e3A hl hr hn hb;obtain ⟨y,y1,_⟩:=a2h hg.1 ha;simp only [k,q1,y1,beq_self_eq_true,f1C,e9P,l8.go];exact hend _ r' q2 (.inl (q3.trans hc)) (hset i.A v ha).1 (by omega) ha (hset i.A v ha).2
 ·obtain ⟨y,y1,y2⟩:=a2h hg.1 hb;obtain ⟨r',q1,q2,q3⟩:=e3K hr hn ha (hg.2 y y2);have e1:((2:Int)==1)=false:=by decide
  simp only [k,e1,y1,q1,beq_self_eq_true,f1C,f1D,e9P,l8.go];unfold a2X a8i;simp only [k,bne_self_eq_false,f1D,e9P,l8.go];exact ⟨_,_,rfl,⟨q2.val,q2.reads,q2.puts,q2.rlen,q2.plen⟩,hg.1,.inl (q3.trans hc),fun _=>hg⟩
 ·obtain ⟨y,y1,_⟩:=a2h hg.1 ha;have e1:((3:Int)==1)=false:=by decide
  have e2:((3:Int)==2)=false:=by decide
  simp only [k,e1,e2,y1,beq_self_eq_true,f1C,f1D,e9P,l8.go];exact hend _ r hw1 (.inl hc) (hset i.A i.N ha).1 (by omega) ha (hset i.A i.N ha).2
 ·obtain ⟨y,y1,_⟩:=a2h hg.1 ha;obtain ⟨z,z1,_⟩:=a2h hg.1 hb;have e1:((4:Int)==1)=false:=by decide
  have e2:((4:Int)==2)=false:=by decide
  have e3:((4:Int)==3)=false:=by decide
  simp only [k,e1,e2,e3,y1,z1,beq_self_eq_true,f1C,f1D,e9P,l8.go];exact hend _ r hw1 (.inl hc) (hset i.A _ ha).1 (by omega) ha (hset i.A _ ha).2
 ·obtain ⟨y,y1,_⟩:=a2h hg.1 ha;obtain ⟨z,z1,_⟩:=a2h hg.1 hb;have e1:((5:Int)==1)=false:=by decide
  have e2:((5:Int)==2)=false:=by decide
  have e3:((5:Int)==3)=false:=by decide
  have e4:((5:Int)==4)=false:=by decide
  simp only [k,e1,e2,e3,e4,y1,z1,beq_self_eq_true,f1C,f1D,e9P,l8.go];exact hend _ r hw1 (.inl hc) (hset i.A _ ha).1 (by omega) ha (hset i.A _ ha).2
 ·exact absurd k h6
 ·have e1:((7:Int)==1)=false:=by decide
  have e2:((7:Int)==2)=false:=by decide
  have e3:((7:Int)==3)=false:=by decide
  have e4:((7:Int)==4)=false:=by decide
  have e5:((7:Int)==5)=false:=by decide
  simp only [k,e1,e2,e3,e4,e5,beq_self_eq_true,f1C,f1D,e9P,l8.go];have:=hend regs ⟨r.a9,r.b6,r.d9,1⟩ ⟨hw1.val,hw1.reads,hw1.puts,hw1.rlen,hw1.plen⟩ (.inr rfl) hg.1 (by omega) ⟨by omega,by omega⟩ (fun _ _ _=>hg);exact this
structure Ran(r:m9):Prop where
 ok:S9 r=true
 rlen:r.a9.length<=40
 plen:r.b6.length<=40
theorem b3d{r:m9}{n:Nat}(h:S0 r n)(hn:n<=40)(hc:r.Code=0\/r.Code=1\/r.Code=2){v:Int}(hv:r.Code=0->inV v):Ran ⟨r.a9,bif r.Code != 0 then [] else r.b6,bif r.Code != 0 then r.d9 else v,r.Code⟩:=by
 have h1:=h.rlen;have h2:=h.plen;have hR:=h.reads;have hP:=h.puts;have hP0:a1y []=true:=rfl;rcases hc with hc|hc|hc
 ·have hv:=hv hc;unfold inV at hv;refine ⟨?_,by simp only;omega,by simp only [hc];simp;omega⟩;rw [b2Q];simp [hc,hR,hP,q8,hv]
 ·refine ⟨?_,by simp only;omega,by simp [hc]⟩;rw [b2Q];simp [hc,hR,hP0,q8,h.val]
 ·refine ⟨?_,by simp only;omega,by simp [hc]⟩;rw [b2Q];simp [hc,hR,hP0,q8,h.val]
theorem e4j{l:List q9}{prog:List r9}(hl:u5 l)(hp:u5 prog):∃r,a69 l prog=some r/\(F7 l=true->Ran r)/\r.a9.length<=40/\r.b6.length<=40:=by
 unfold a69;rw [c0B hl,b6V hp];have h0:Ran ⟨[],[],0,3⟩:=⟨by decide,by simp,by simp⟩
 cases hb:F7 l
 ·exact ⟨_,rfl,(fun h=>by cases h),by simp,by simp⟩
 cases hpo:D6 prog
 ·exact ⟨_,rfl,fun _=>h0,by simp,by simp⟩
 simp only [e9P,e9V,f1D];rw [t6 (by decide)];have hlen:prog.length<=10:=by
  unfold D6 at hpo;simp only [e9U,decide_eq_true_eq] at hpo;exact hpo.1
 have hins:∀i∈prog,L8 i=true:=by
  unfold D6 at hpo;simp only [e9U] at hpo;exact e9Y.1 hpo.2
 obtain ⟨x,hx,hq⟩:=a4d (body:=fun s:(List Int)×(List s1)×(List p9)×Int×Int×Int=>a0m l prog s.1 s.2.1 s.2.2.1 s.2.2.2.1 s.2.2.2.2.1 s.2.2.2.2.2)
  (fun m s => ∃k:Nat,s.2.2.2.1=(k:Int)/\k<=30/\k+m=31/\S0 ⟨s.2.1,s.2.2.1,s.2.2.2.2.1,s.2.2.2.2.2⟩ k/\s.1.length=4/\(s.2.2.2.2.2=0\/s.2.2.2.2.2=1\/s.2.2.2.2.2=2)/\(s.2.2.2.2.2=0->a6J s.1))
  (fun x=>match x with
   | .ret _=>False
   | .brk b=>S0 ⟨b.1,b.2.1,b.2.2.2.1,b.2.2.2.2⟩ 30/\b.2.2.1.length=4/\(b.2.2.2.2=0\/b.2.2.2.2=1\/b.2.2.2.2=2)/\(b.2.2.2.2=0->a6J b.2.2.1))
  (by
   rintro m ⟨regs,a9,b6,kk,rVal,rCode⟩ ⟨k,hk,hk30,hm,hway,hreg,hcode,hrok⟩
   simp only at hk hway hreg hcode hrok⊢;subst hk;have hend:S0 ⟨a9,b6,rVal,rCode⟩ 30:=⟨hway.val,hway.reads,hway.puts,f0f hway.rlen hk30,f0f hway.plen hk30⟩
   unfold a0m;by_cases hlt:k<prog.length
   ·rw [z0 _ k hlt,u6 hlt];cases hc:rCode==0
    ·exact ⟨_,rfl,hend,hreg,hcode,hrok⟩
    have hc0:rCode=0:=by simpa using hc
    have hi:=hins _ (e9T hlt);simp only [f1C,e9P];cases h6:prog[k].a6==6
    ·obtain ⟨r',regs',q1,q2,q3,q4,q5⟩:=d3Z hb hway (by omega) hc0 (hrok hc0) hi (by simpa using h6);simp only [f1D,q1,e9P];rw [t6 (by rw [q3];exact hreg),B9 (by omega) (by omega)];exact ⟨_,rfl,m-1,by omega,k+1,by simp,by omega,by omega,q2,q3,q4,q5⟩
    ·have h6':prog[k].a6=6:=by simpa using h6
     obtain ⟨_,ha,hbb,hN⟩:prog[k].a6=6/\(0<=prog[k].A/\prog[k].A<=3)/\(0<=prog[k].B/\prog[k].B<=3)/\(1<=prog[k].N/\prog[k].N<=10):=by
      rcases a7Z hi with ⟨q,_⟩|⟨q,_⟩|⟨q,_⟩|⟨q,_⟩|⟨q,_⟩|q|⟨q,_⟩
      ·omega
      ·omega
      ·omega
      ·omega
      ·omega
      ·exact q
      ·omega
     obtain ⟨y,y1,_⟩:=a2h hreg ha;obtain ⟨z,z1,_⟩:=a2h hreg hbb;simp only [f1C,y1,z1,e9P];have hw2:∀j:Nat,k<=j->S0 ⟨a9,b6,rVal,rCode⟩ (j+1):=fun j h=>⟨hway.val,hway.reads,hway.puts,f0f hway.rlen (by omega),f0f hway.plen (by omega)⟩
     unfold b5B;by_cases hyz:y<z
     ·simp only [hyz,decide_true,f1C,e9P,l8.go];have e1:m4 ((k:Int)+prog[k].N)=((k+prog[k].N.toNat:Nat):Int):=by
       rw [B9 (n:=(k:Int)+prog[k].N) (by omega) (by omega)];omega
      rw [e1,B9 (n:=((k+prog[k].N.toNat:Nat):Int)+1) (by omega) (by omega)];exact ⟨_,rfl,31-(k+prog[k].N.toNat+1),by omega,k+prog[k].N.toNat+1,rfl,by omega,by omega,hw2 _ (by omega),hreg,hcode,hrok⟩
     ·simp only [hyz,decide_false,f1D,e9P,l8.go];rw [B9 (n:=(k:Int)+1) (by omega) (by omega)];exact ⟨_,rfl,31-(k+1),by omega,k+1,rfl,by omega,by omega,hw2 k (by omega),hreg,hcode,hrok⟩
   ·have:decide ((k:Int)<(prog.length:Int))=false:=by simp;omega
    rw [this,f1D];exact ⟨_,rfl,hend,hreg,hcode,hrok⟩) (k:=31) (s:=(e9R (4:Int).toNat 0,[],[],0,0,0)) ⟨0,rfl,by omega,by omega,⟨rfl,rfl,rfl,by simp,by simp⟩,rfl,.inl rfl,fun _=>⟨rfl,by simp [inV]⟩⟩
 rw [hx,e9P];cases x with
 | ret r=>cases hq
 | brk b=>
  obtain ⟨a9,b6,regs,rVal,rCode⟩:=b;obtain ⟨q1,q2,q3,q4⟩:=hq;simp only at q1 q2 q3 q4;simp only [l8.go];unfold a5V;obtain ⟨v,v1,v2⟩:=a2h q2 (a:=0) ⟨by omega,by omega⟩;have hran:=b3d q1 (by omega) q3 (v:=v) (fun h=>(q4 h).2 v v2);have q1r:=q1.rlen;have q1p:=q1.plen;simp only at hran q1r q1p;cases hc:rCode != 0
  ·rw [hc] at hran;simp only [f1D,v1,e9P] at hran⊢;exact ⟨_,rfl,fun _=>hran,by simp only;omega,by simp only;omega⟩
  ·rw [hc] at hran;simp only [f1C] at hran⊢;exact ⟨_,rfl,fun _=>hran,by simp only;omega,by simp⟩
theorem d3T{r:o6}{m:Nat}(h:Rd r m)(hm:m<=100000000):∃i r',b6T r=some (i,r')/\Rd r' (m+10):=by
 obtain ⟨k,r1,a1,a2,a3⟩:=a1G h (by omega) [1,1,2,2,3,4,4,5,6,7] (by decide) (by decide);obtain ⟨p1,r2,b1,b2,b3,b4⟩:=C7 a2 (by omega) 3;obtain ⟨p2,r3,c1,c2,c3,c4⟩:=C7 b2 (by omega) 3;unfold b6T;simp only [a1,b1,c1,e9P];cases h3:k==3
 ·cases h6:k==6
  ·cases h7:k==7
   ·exact ⟨_,_,rfl,c2.mono (by omega)⟩
   ·obtain ⟨p3,r4,d1,d2,d3,d4⟩:=C7 c2 (by omega) 3;simp only [f1C,f1D,d1,e9P];cases decide (p3>0)
    ·exact ⟨_,_,rfl,d2.mono (by omega)⟩
    ·obtain ⟨p4,r5,e1,e2,e3,e4⟩:=C7 d2 (by omega) 4;obtain ⟨p5,r6,f1,f2,f3,f4⟩:=C7 e2 (by omega) 4;simp only [f1C,e1,f1,e9P];exact ⟨_,_,rfl,f2.mono (by omega)⟩
  ·obtain ⟨p3,r4,d1,d2,d3,d4⟩:=C7 c2 (by omega) 3;simp only [f1C,f1D,d1,e9P];exact ⟨_,_,rfl,d2.mono (by omega)⟩
 ·obtain ⟨n1,r4,d1,d2,d3⟩:=a1G c2 (by omega) [0,1,5,(-2),100,1000000] (by decide) (by decide);simp only [f1C,d1,e9P];exact ⟨_,_,rfl,d2.mono (by omega)⟩
theorem a8u{r:o6}{m:Nat}(h:Rd r m)(hm:m<=50000000):∃p r',a0x r=some (p,r')/\Rd r' (m+200)/\p.length<=10:=by
 obtain ⟨v,r1,a1,a2,a3,a4⟩:=C7 h (by omega) 3;unfold a0x;simp only [a1,e9P];cases v==0
 ·obtain ⟨k,r2,b1,b2,b3,b4⟩:=C7 a2 (by omega) 8;simp only [f1D,b1,e9P];obtain ⟨x,hx,hq⟩:=a4d (body:=fun s:o6×(List r9)×Int=>b6H s.1 s.2.1 s.2.2)
   (fun j s=>s.2.2=(j:Int)/\j<=8/\Rd s.1 (m+2+10*(8-j))/\s.2.1.length+j<=8)
   (fun x=>match x with
    | .ret _=>False
    | .brk b=>Rd b.1 (m+200)/\b.2.length<=10)
   (by
    rintro j ⟨r,out,i⟩ ⟨q1,q2,q3,q4⟩
    simp only at q1 q3 q4⊢;subst q1;unfold b6H;cases j with
    | zero=>exact ⟨_,rfl,q3.mono (by omega),by simp only;omega⟩
    | succ j=>
     obtain ⟨i,r',d1,d2⟩:=d3T q3 (by omega);have hpos:decide (((j+1:Nat):Int)>0)=true:=by simp
     have n1:(out.length+1)*32<=140737488355328:=by omega
     rw [hpos,f1C,d1,e9P,t6 n1,B9 (by omega) (by omega)];exact ⟨_,rfl,j,by omega,by simp only;omega,by omega,d2.mono (by omega),by simp;omega⟩) (k:=k.toNat) (s:=(r2,[],k)) ⟨by simp only;omega,by omega,b2.mono (by omega),by simp;omega⟩
  rw [hx,e9P];cases x with
  | ret r=>cases hq
  | brk b=>exact ⟨_,_,rfl,hq.1,hq.2⟩
 ·obtain ⟨p1,r2,b1,b2,b3,b4⟩:=C7 a2 (by omega) 3;obtain ⟨p2,r3,c1,c2,c3,c4⟩:=C7 b2 (by omega) 3;obtain ⟨p3,r4,d1,d2,d3,d4⟩:=C7 c2 (by omega) 3;simp only [f1C,b1,c1,d1,e9P];exact ⟨_,_,rfl,d2.mono (by omega),by simp⟩
def e3w(e:m5):Prop:=e.b9.a9.length<=40/\e.b9.b6.length<=40
def drawn(l:List m5):Prop:=l.length<=41/\∀e∈l,e3w e
theorem b1r{j:Nat}(hj:j<1000):m4 (((j+1:Nat):Int)-1)=(j:Int):=by
 rw [B9 (by omega) (by omega)];omega
theorem e5W{l:List m5}(h:A0 88 a1X l):b56 l=some (bif M9 l then (A2 l).1 else ⟨0,[],[]⟩):=by
 unfold b56;rw [c7k h,e9P];cases hok:M9 l
 ·rfl
 ·obtain ⟨hl,he⟩:=a7N hok;rw [e9V,f1D,c9p h hl he];rfl
theorem d31{l:List m5}(h:A0 88 a1X l)(hok:M9 l=true):b69 l=some (A2 l).1:=by
 obtain ⟨hl,he⟩:=a7N hok;have hf:u5 l:=h.fits (by decide);unfold b69;rw [c4p,e9P,show (40:Int)=((40:Nat):Int) from rfl,a9m,decide_eq_true hl,e9V,f1D];have hloop:=a0C (body:=fun s:(List q9)×Int×Int×List s5=>a8Y l s.1 s.2.1 s.2.2.1 s.2.2.2) (fun k=>((A2 (l.take k)).1.i0,(k:Int),(A2 (l.take k)).1.At,(A2 (l.take k)).1.i9)) l.length (by
  intro k hk;obtain ⟨h1,h2,h3⟩:=a4f hl he k (by omega);have hek:=e9Y.1 he _ (e9T hk);have hfk:=h.2 _ (e9T hk);rw [a7E hk];unfold a8Y;rw [z0 _ k hk,u6 hk,G1 hf hk];simp only [f1C,e9P,a3D hfk,hek,e9V,f1D];rw [show (⟨(A2 (l.take k)).1.At,(A2 (l.take k)).1.i0,(A2 (l.take k)).1.i9⟩:u9)=(A2 (l.take k)).1 from rfl,c9i h1 (by omega) hek hfk,e9P];rfl)
 rw [f0v,f0r] at hloop;rw [show ((0:Nat):Int)=0 from rfl] at hloop;rw [show s2 (fun s:(List q9)×Int×Int×List s5=>a8Y l s.1 s.2.1 s.2.2.1 s.2.2.2) (U4.i0,0,U4.At,U4.i9)=_ from hloop,D7 (b:=((A2 l).1.i0,(A2 l).1.At,(A2 l).1.i9))]
 ·rfl
 ·unfold a8Y;rw [B6];rfl
theorem e40{r:m9}(h:S9 r=true):a1y r.b6=true:=by
 rw [b2Q] at h;simp only [e9U] at h;exact h.2.2.2.2.2
def e9w(l:List m5)(cs:List Int)(k:Nat):List s3:=match cs[k]?,l[k]? with
 | some c,some e=>bif c==0 then [e.a5] else []
 | _,_=>[]
def told(l:List m5)(cs:List Int):Nat->List s3
 | 0=>[]
 | k+1=>told l cs k++e9w l cs k
theorem a46{ps:List p9}(h:ps.Pairwise fun p q=>p.i6≠q.i6)(b:Int):(ps.filter fun p=>p.i6==b).length<=1:=by
 have h2:=h.filter (fun p=>p.i6==b);cases hq:ps.filter fun p=>p.i6==b with
 | nil=>simp
 | cons x r=>
  cases r with
  | nil=>simp
  | cons y r=>
   rw [hq] at h2;have hne:=(f0Z.1 h2).1 y (by simp);have hx:x∈ps.filter fun p=>p.i6==b:=by rw [hq];simp
   have hy:y∈ps.filter fun p=>p.i6==b:=by rw [hq];simp
   have hx:=(f0E.1 hx).2;have hy:=(f0E.1 hy).2;simp only [beq_iff_eq] at hx hy;omega
theorem b97:∀{ps:List p9},(∀p∈ps,a2q p)->ps.length=(ps.filter fun p=>p.i6==0).length+(ps.filter fun p=>p.i6==1).length+(ps.filter fun p=>p.i6==2).length+(ps.filter fun p=>p.i6==3).length
 | [],_=>rfl
 | p::ps,h=>by
  have ih:=b97 (ps:=ps) fun x hx=>h x (by simp [hx])
  have hp:=h p (by simp);have:p.i6=0\/p.i6=1\/p.i6=2\/p.i6=3:=by
   have:=hp.1;have:=hp.2.1;omega
  simp only [List.filter_cons,f0F];rcases this with q|q|q|q<;>simp [q]<;>omega
theorem e9D{r:m9}(h:S9 r=true):r.b6.length<=4:=by
 have h1:=(b8y.1 (e40 h))
 have h2:=b97 h1.1;have a:=a46 h1.2 0;have b:=a46 h1.2 1;have c:=a46 h1.2 2;have d:=a46 h1.2 3;omega
theorem okEntries.s{l:List m5}(h:A0 88 E1 l):A0 88 a1X l:=h.imp fun _ x=>x.f
theorem a3b(c x:Bool):(bif c then some x else some false)=some (c&&x):=by cases c<;>rfl
theorem b1P(c x:Bool):(bif c then some false else some x)=some (!c&&x):=by cases c<;>rfl
theorem e3q(n lo hi:Int):q8 n lo hi=(!decide (n<lo) && !decide (n>hi)):=by
 unfold q8;by_cases h1:n<lo<;>by_cases h2:n>hi<;>simp [h1,h2]<;>omega
theorem rng{α:Type}(n lo hi:Int)(X Y:α):(bif decide (n<lo) then Y else bif decide (n>hi) then Y else X)=bif q8 n lo hi then X else Y:=by
 rw [e3q];cases decide (n<lo)<;>cases decide (n>hi)<;>rfl
theorem c0v{α:Type}(n lo:Int)(X Y:α):(bif decide (n<lo) then Y else bif decide (n>=3) then Y else X)=bif q8 n lo 2 then X else Y:=by
 have e:decide (n>=3)=decide (n>2):=by
  by_cases h:n>2
  ·rw [decide_eq_true h,decide_eq_true (by omega)]
  ·rw [decide_eq_false h,decide_eq_false (by omega)]
 rw [<-rng,e]
theorem a3I(a b:Int):(!decide (a>b))=decide (a<=b):=by
 by_cases h:a<=b
 ·simp [h]
 ·simp [h];omega
theorem c9F{α:Type}(l:List α):decide ((l.length:Int)>0) = !((l.length:Int)==0):=by
 by_cases hp:l.length=0
 ·rw [decide_eq_false (by omega),show ((l.length:Int)==0)=true from by rw [hp];rfl];rfl
 ·rw [decide_eq_true (by omega),show ((l.length:Int)==0)=false from by rw [<-Bool.not_eq_true,beq_iff_eq];omega];rfl
theorem b1F{α:Type}[BEq α](a b:α):(!(a != b))=(a==b):=by simp [bne]
abbrev zE:m5:=⟨false,⟨0,0⟩,⟨[],[],0,0⟩⟩
def W9(a b:m5):Bool:=(a.i8==b.i8)&&((([a.a5.d7,a.a5.Seq]:List Int)==[b.a5.d7,b.a5.Seq])&&a3A a.b9 b.b9)
theorem b5v{a b:m5}(h:E1 a):Z2 a b=some (W9 a b):=by
 unfold Z2 W9;simp only [c20 h.f.2,e9P,a3b]
theorem c1b{e:m5}(h:E1 e):a31 e=some (W9 e zE):=by
 unfold a31 W9;simp only [c3r h.f.2,e9P,a3b];cases e.i8<;>rfl
theorem a8F(n:Int):a0P n=some (q8 n 1 3000):=M2 n 1 3000
def Z8(v:m6):Bool:=bif v.a8==0 then W9 v.g9 zE else q8 v.a8 1 3000&&z6 v.g9
theorem d6P{v:m6}(h:G2 v):b7b v=some (Z8 v):=by
 unfold b7b Z8;simp only [b5v h.2,M2,a6o h.2.f,e9P,a3b];cases v.a8==0<;>rfl
theorem e7q{v:m6}(h:G2 v):b5T v=some (Z8 v):=by
 unfold b5T Z8 W9;simp only [c3r h.2.f.2,a8F,a3D h.2.f,e9P,a3b];cases v.a8==0<;>cases v.g9.i8<;>rfl
def J6(l:List m6):Bool:=decide (l.length<=40)&&l.all Z8
theorem c0M{l:List m6}(h:A0 96 G2 l):a6a l=some (J6 l):=by
 unfold a6a J6;rw [show (40:Int)=((40:Nat):Int) from rfl,a9m,S5 l (h.fits (by decide)) Z8 false ()]
 ·cases decide (l.length<=40)
  ·rfl
  ·cases l.all Z8<;>rfl
 ·intro k hk;unfold b6j;rw [z0 _ k hk,u6 hk];simp only [f1C,e9P,e7q (h.2 _ (e9T hk))];cases Z8 l[k]<;>rfl
 ·unfold b6j;rw [B6];rfl
theorem b0g{l:List m6}(h:A0 96 G2 l):a41 l=some (J6 l):=by
 unfold a41 J6 c1d;rw [show (40:Int)=((40:Nat):Int) from rfl,c0I,S5 l (h.fits (by decide)) Z8 false ()]
 ·cases l.all Z8<;>cases decide (l.length<=40)<;>rfl
 ·intro k hk;unfold b7h;rw [z0 _ k hk,u6 hk];simp only [f1C,e9P,d6P (h.2 _ (e9T hk))];cases Z8 l[k]<;>rfl
 ·unfold b7h;rw [B6];rfl
def O7(a:v6):Bool:=q8 a.i5 0 3000&&(J6 a.a0&&a.a0.all fun v => !decide (v.a8>a.i5))
theorem d9K{a:v6}(h:a6m a):b4m a=some (O7 a):=by
 unfold b4m O7;rw [rng,c0M h.2,S5 a.a0 (h.2.fits (by decide)) (fun v => !decide (v.a8>a.i5)) false ()]
 ·simp only [e9P];cases q8 a.i5 0 3000<;>cases J6 a.a0<;>cases a.a0.all (fun v => !decide (v.a8>a.i5))<;>rfl
 ·intro k hk;unfold b5O;rw [z0 _ k hk,u6 hk];simp only [f1C,e9P];cases decide (a.a0[k].a8>a.i5)<;>rfl
 ·unfold b5O;rw [B6];rfl
theorem c97{a:v6}(h:a6m a):a8J a=some (O7 a):=by
 unfold a8J O7;rw [S5 a.a0 (h.2.fits (by decide)) (fun v => !decide (v.a8>a.i5)) false ()]
 ·unfold c1g;simp only [M2,b0g h.2,e9P];cases q8 a.i5 0 3000<;>cases J6 a.a0<;>cases a.a0.all (fun v => !decide (v.a8>a.i5))<;>rfl
 ·intro k hk;unfold b8d;rw [z0 _ k hk,u6 hk];simp only [f1C,e9P];cases decide (a.a0[k].a8>a.i5)<;>rfl
 ·unfold b8d;rw [B6];rfl
theorem e03(i:r9):b3Z i=some (L8 i):=by
 unfold b3Z L8 a2E b3O;simp only [M2,e9P];cases i.a6==1<;>cases i.a6==2<;>cases i.a6==3<;>cases i.a6==4<;>cases i.a6==5<;>cases i.a6==6<;>cases i.a6==7<;>cases q8 i.A 0 3<;>cases q8 i.B 0 3<;>cases i.A==0<;>cases i.B==0<;>rfl
theorem b7a{l:List r9}(h:u5 l):a7Q l=some (D6 l):=by
 unfold a7Q D6 c3f;rw [show (10:Int)=((10:Nat):Int) from rfl,c0I,S5 l h L8 false ()]
 ·cases l.all L8<;>cases decide (l.length<=10)<;>rfl
 ·intro k hk;unfold b3P;rw [z0 _ k hk,u6 hk];simp only [f1C,e9P,e03];cases L8 l[k]<;>rfl
 ·unfold b3P;rw [B6];rfl
def X2(b:Int):Int:=bif q8 b 1 3000 then e9Z b 3 else -1
theorem d9k(b:Int):a8V b=some (X2 b):=by
 unfold a8V X2;rw [a8F,e9P];cases q8 b 1 3000<;>rfl
theorem c4w(b:Int):b0k b=some (X2 b):=by
 unfold b0k X2;rw [M2,e9P];cases q8 b 1 3000<;>rfl
def b5J(l:List Bool)(id:Int):Bool:=(idx l id).getD false
def a4R(l:List Bool)(id:Int):Bool:=((l.length:Int)==3)&&b5J l id
theorem d2G{l:List Bool}{id:Int}(h:q8 id 0 2=true)(hl:((l.length:Int)==3)=true):idx l id=some (b5J l id):=by
 unfold q8 at h;simp only [decide_eq_true_eq] at h;simp only [beq_iff_eq] at hl;unfold b5J idx;rw [if_pos h.1,e9Q (by omega)];rfl
theorem e1o{l:List Bool}{id:Int}(h:q8 id 0 2=true)(x:Bool):(bif ((l.length:Int)==3) then (idx l id).bind fun y=>some (y&&x) else some false)=some (a4R l id&&x):=by
 unfold a4R;cases hl:((l.length:Int)==3)
 ·rfl
 ·rw [d2G h hl];rfl
theorem e2u{l:List Bool}{id:Int}(h:q8 id 0 2=true):b0r l id=some (a4R l id):=by
 unfold b0r a4R;cases hl:((l.length:Int)==3)
 ·rfl
 ·rw [d2G h hl];rfl
def a3m(n:j8):Bool:=W9 n.c8 zE&&((n.a0.length:Int)==0)
def a1n(n:j8):Bool:=
  bif n.f0==0 then (n.a8==0)&&(((n.c9.length:Int)==0)&&(((n.i4.length:Int)==0)&&a3m n)) else
  (X2 n.a8==n.Id)&&(decide (n.a8<=n.Acc.i5)&&(J6 n.i4 &&
    (bif n.f0==1 then a4R n.c9 n.Id&&a3m n else
     bif n.f0==2 then ((n.c9.length:Int)==0)&&a3m n else
     bif n.f0==3 then ((n.c9.length:Int)==0)&&(z6 n.c8&&(a4R n.a0 n.Id&&decide ((n.a7.length:Int)<40))) else false)))
theorem c7M{n:j8}(h:q8 n.Id 0 2=true)(ho:(X2 n.a8==n.Id)=true):q8 n.a8 1 3000=true:=by
 cases hb:q8 n.a8 1 3000
 ·unfold X2 at ho;rw [hb] at ho;unfold q8 at h;simp only [decide_eq_true_eq,f1D,beq_iff_eq] at h ho;omega
 ·rfl
theorem e2v{n:j8}(h:P5 n)(hId:q8 n.Id 0 2=true):b1M n=some (a1n n):=by
 have hj:b1M n=b4n n (a3m n):=by
  unfold b1M a3m;simp only [b5v h.2.2.2.2.2.2.2.2.1,e9P];cases W9 n.c8 zE<;>rfl
 rw [hj];unfold b4n a1n;simp only [c4w,b0g h.2.2.2.2.2.2.2.1,e2u hId,a6o h.2.2.2.2.2.2.2.2.1.f,e9P,a3b];cases n.f0==0
 ·simp only [f1D];cases n.f0==1<;>cases n.f0==2<;>cases n.f0==3<;>simp only [f1C,f1D,b1P,b1F,a3I,Bool.not_not]<;>(cases X2 n.a8==n.Id<;>cases decide (n.a8<=n.Acc.i5)<;>cases J6 n.i4<;>rfl)
 ·rfl
theorem d4G{n:j8}(h:P5 n)(hId:q8 n.Id 0 2=true):b5E n=some (a1n n):=by
 unfold b5E a1n;simp only [d9k,a8F,c1b h.2.2.2.2.2.2.2.2.1,c0M h.2.2.2.2.2.2.2.1,a3D h.2.2.2.2.2.2.2.2.1.f,e9P,a3b,b1P,e1o hId,b1F,a3I,Bool.not_not];have hb:=c7M (n:=n) hId;cases h0:n.f0==0
 ·cases h1:n.f0==1
  ·cases h2:n.f0==2
   ·cases h3:n.f0==3
    ·simp only [f1D,Bool.and_false]
    ·simp only [f1D,f1C,b1P,b1F,a3I,Bool.not_not];cases ho:X2 n.a8==n.Id
     ·simp
     ·rw [hb ho];cases decide (n.a8<=n.Acc.i5)<;>cases J6 n.i4<;>cases ((n.c9.length:Int)==0)<;>rfl
   ·simp only [f1D,f1C,b1P,b1F,a3I,Bool.not_not];cases ho:X2 n.a8==n.Id
    ·simp
    ·rw [hb ho];unfold a3m;cases decide (n.a8<=n.Acc.i5)<;>cases J6 n.i4<;>cases ((n.c9.length:Int)==0)<;>rfl
  ·simp only [f1D,f1C,b1P,b1F,a3I,Bool.not_not];cases ho:X2 n.a8==n.Id
   ·simp
   ·rw [hb ho];unfold a3m;cases decide (n.a8<=n.Acc.i5)<;>cases J6 n.i4<;>cases a4R n.c9 n.Id<;>rfl
 ·unfold a3m;simp only [f1C]
def a4E(n:j8):Bool:=
 bif n.j3 then D6 n.i7&&(z6 n.b8&&(!n.b8.i8&&(([n.b8.a5.d7,n.b8.a5.Seq]:List Int)==[n.Id,n.Seq]))) else ((n.i7.length:Int)==0)&&W9 n.b8 zE
theorem e7E{n:j8}(h:P5 n):b8c n=some (a4E n):=by
 unfold b8c a4E;have hw:=h.2.2.2.2.2.2.2.2.2.2.2.1;simp only [c1b hw,b6V (h.2.2.2.2.2.2.2.2.2.2.1.fits (by decide)),a3D hw.f,e9P,a3b];cases n.j3<;>rfl
def b70(l:List m5):Bool:=l.all fun e=>z6 e && !e.i8
def D5(n:j8):Bool:=q8 n.Id 0 2&&(O7 n.Acc&&(M9 n.a7&&(q8 n.Seq 0 1000&&(decide ((n.d6.length:Int)<=4)&&(a1n n&&(a4E n&&b70 n.d6))))))
theorem a7w{n:j8}(h:P5 n):a3n n=some (D5 n):=by
 unfold a3n D5;rw [c0v];cases hId:q8 n.Id 0 2
 ·rfl
 ·rw [rng,d9K h.2.1,d7E (okEntries.s h.2.2.1),d4G h hId,e7E h,S5 n.d6 (h.2.2.2.2.2.2.2.2.2.2.2.2.fits (by decide)) (fun e=>z6 e && !e.i8) false ()]
  ·unfold b70 c1a;rw [<-a3I];simp only [e9P,f1C];cases O7 n.Acc<;>cases M9 n.a7<;>cases q8 n.Seq 0 1000<;>cases decide ((n.d6.length:Int)>4)<;>cases a1n n<;>cases a4E n<;>cases n.d6.all (fun e=>z6 e && !e.i8)<;>rfl
  ·intro k hk;unfold b6s;rw [z0 _ k hk,u6 hk];simp only [f1C,e9P,a3D ((h.2.2.2.2.2.2.2.2.2.2.2.2).2 _ (e9T hk)).f];cases z6 n.d6[k]<;>cases n.d6[k].i8<;>rfl
  ·unfold b6s;rw [B6];rfl
theorem a6V{n:j8}(h:P5 n):a3a n=some (D5 n):=by
 unfold a3a D5;rw [M2,e9P];cases hId:q8 n.Id 0 2
 ·rfl
 ·have hw:=h.2.2.2.2.2.2.2.2.2.2.2.1;have hk3:b6z n=some (a4E n&&a1n n):=by
   unfold b6z b80 a4E;simp only [b7a (h.2.2.2.2.2.2.2.2.2.2.1.fits (by decide)),a6o hw.f,b5v hw,e2v h hId,e9P];cases n.j3
   ·rw [c9F];cases ((n.i7.length:Int)==0)<;>cases W9 n.b8 zE<;>rfl
   ·cases D6 n.i7<;>cases z6 n.b8<;>cases n.b8.i8<;>cases (([n.b8.a5.d7,n.b8.a5.Seq]:List Int)==[n.Id,n.Seq])<;>rfl
  rw [c97 h.2.1,c7k (okEntries.s h.2.2.1),M2,hk3,S5 n.d6 (h.2.2.2.2.2.2.2.2.2.2.2.2.fits (by decide)) (fun e=>z6 e && !e.i8) false ()]
  ·unfold b70;rw [<-a3I];simp only [e9P,e9V,f1D];cases O7 n.Acc<;>cases M9 n.a7<;>cases q8 n.Seq 0 1000<;>cases decide ((n.d6.length:Int)>4)<;>cases a1n n<;>cases a4E n<;>cases n.d6.all (fun e=>z6 e && !e.i8)<;>rfl
  ·intro k hk;unfold b6J;rw [z0 _ k hk,u6 hk];simp only [f1C,e9P,a6o ((h.2.2.2.2.2.2.2.2.2.2.2.2).2 _ (e9T hk)).f];cases z6 n.d6[k]<;>cases n.d6[k].i8<;>rfl
  ·unfold b6J;rw [B6];rfl
def a5s(m:j9):Bool:=
 let bal:=q8 m.a8 1 3000;let non:=W9 m.g9 zE;let nv:=(m.a0.length:Int)==0;bif m.a6==1 then bal&&(non&&nv) else
 bif m.a6==4 then bal&&(non&&nv) else
 bif m.a6==2 then bal&&(non&&(J6 m.a0&&decide (m4 (m.g8+(m.a0.length:Int))<=40))) else
 bif m.a6==3 then bal&&(decide (m.g8<40)&&(z6 m.g9&&nv)) else
 bif m.a6==5 then (m.a8==0)&&(decide (m.g8<40)&&(z6 m.g9&&nv)) else
 bif m.a6==6 then bal&&((m.g8==0)&&(non&&nv)) else
 bif m.a6==7 then (m.a8==0)&&((m.g8==0)&&(z6 m.g9&&(!m.g9.i8&&nv))) else
 bif m.a6==8 then (m.a8==0)&&(non&&nv) else false
def I4(m:j9):Bool:=q8 m.c9 0 2&&(q8 m.To 0 2&&(!(m.c9==m.To)&&(q8 m.g8 0 40&&a5s m)))
theorem c5i{m:j9}(h:F9 m):b19 m=some (I4 m):=by
 unfold b19 I4 a5s;have he:=h.2.2.2.2.2.1;simp only [M2,b5v he,a6o he.f,b0g h.2.2.2.2.2.2,e9P,a3b];cases q8 m.c9 0 2
 ·rfl
 cases q8 m.To 0 2
 ·rfl
 cases m.c9==m.To;case true=>rfl
 cases q8 m.g8 0 40
 ·rfl
 cases m.a6==1<;>cases m.a6==4<;>cases m.a6==2<;>cases m.a6==3<;>cases m.a6==5<;>cases m.a6==6<;>cases m.a6==7<;>cases m.a6==8<;>rfl
theorem c3o{m:j9}(h:F9 m):a8H m=some (I4 m):=by
 unfold a8H I4;have he:=h.2.2.2.2.2.1;have hj2:b7Q m=b1g m (W9 m.g9 zE) (z6 m.g9&&decide (m.g8<40)):=by
  unfold b7Q;simp only [c1b he,a3D he.f,e9P];cases z6 m.g9<;>rfl
 have hj:∀nv:Bool,nv=((m.a0.length:Int)==0)->(m.a6==2||nv)=true->b1g m (W9 m.g9 zE) (z6 m.g9&&decide (m.g8<40))=some (a5s m):=by
  intro nv hnv hk;unfold b1g a5s;simp only [a8F,c0M h.2.2.2.2.2.2,a3D he.f,e9P,a3b];rw [<-hnv];cases h1:m.a6==1;case true=>
   have:(m.a6==2)=false:=by
    simp only [beq_iff_eq] at h1;rw [h1];rfl
   rw [this,f0t] at hk;simp only [f1C,hk,f0R]
  cases h2:m.a6==2;case true=>
   cases h4:m.a6==4
   ·rfl
   ·simp only [beq_iff_eq] at h2 h4;omega
  rw [h2,f0t] at hk;subst hk;cases h3:m.a6==3;case true=>
   cases h4:m.a6==4
   ·simp only [f1C,f1D,f0R];cases q8 m.a8 1 3000<;>cases z6 m.g9<;>cases decide (m.g8<40)<;>rfl
   ·simp only [beq_iff_eq] at h3 h4;omega
  cases h4:m.a6==4;case true=>simp only [f1C,f1D,f0R]
  simp only [f1D];cases m.a6==5;case true=>
   simp only [f1C,f0R];cases m.a8==0<;>cases z6 m.g9<;>cases decide (m.g8<40)<;>rfl
  simp only [f1D];cases m.a6==6;case true=>
   simp only [f1C,f0R];cases q8 m.a8 1 3000<;>cases W9 m.g9 zE<;>cases m.g8==0<;>rfl
  cases m.a6==7<;>cases m.a6==8<;>simp only [f1C,f1D,f0R,e99,f1B]
 rw [hj2,c0v];cases q8 m.c9 0 2
 ·rfl
 simp only [f1C,e99];rw [c0v];cases q8 m.To 0 2
 ·rfl
 simp only [f1C,e99];cases m.c9==m.To;case true=>rfl
 simp only [f1D,f0a,e99];rw [rng];cases q8 m.g8 0 40
 ·rfl
 simp only [f1C,e99];rw [c9F];cases h2:m.a6==2
 ·rw [show (m.a6 != 2)=true from by rw [bne,h2];rfl];cases hv:((m.a0.length:Int)==0)
  ·show some false=_
   have:a5s m=false:=by
    unfold a5s;rw [h2,hv];simp
   rw [this]
  ·exact hj true hv.symm (by simp)
 ·rw [show (m.a6 != 2)=false from by rw [bne,h2];rfl];exact hj _ rfl (by rw [h2];rfl)
def R6(t:o8):Bool:=q8 t.Node 0 2&&((q8 t.a5.d7 0 2&&q8 t.a5.Seq 1 1000)&&((t.a5.d7==t.Node)&&(q8 t.Code 0 4&&q8 t.d9 (-1000000) 1000000)))
theorem d85(t:o8):b6K t=some (R6 t):=by
 unfold b6K R6;simp only [c29,a6d,e9P,a3b];have e1:q8 t.Node 0 2=(decide (t.Node>=0)&&decide (t.Node<3)):=by
  unfold q8;by_cases h1:t.Node>=0<;>by_cases h2:t.Node<3<;>simp [h1,h2]<;>omega
 have e2:q8 t.Code 0 4=(decide (t.Code>=0)&&decide (t.Code<=4)):=by
  unfold q8;by_cases h1:t.Code>=0<;>by_cases h2:t.Code<=4<;>simp [h1,h2]<;>omega
 rw [e1,e2];simp only [f1q]
def Y8(x:C1):Bool:=(q8 x.a5.d7 0 2&&q8 x.a5.Seq 1 1000)&&D6 x.i7
def a4O(w:m8)(k:Nat):Bool:=match w.b7[k]? with
 | some n=>(n.Id==(k:Int))&&D5 n
 | none=>true
def L5(w:m8):Bool:=((w.b7.length:Int)==3)&&(decide ((w.d8.length:Int)<=40)&&(decide ((w.g7.length:Int)<=60)&&(decide ((w.Told.length:Int)<=60)&&((e91 w.b7.length).all (a4O w)&&(w.d8.all I4&&(w.g7.all Y8&&w.Told.all R6))))))
theorem b46{w:m8}(h:a0w w):a9A w=some (L5 w):=by
 have k7:b8z w=some (w.Told.all R6):=by
  unfold b8z;rw [S5 w.Told (h.2.2.2.fits (by decide)) R6 false ()]
  ·cases w.Told.all R6<;>rfl
  ·intro k hk;unfold b6Q;rw [z0 _ k hk,u6 hk];simp only [f1C,e9P,d85];cases R6 w.Told[k]<;>rfl
  ·unfold b6Q;rw [B6];rfl
 have k9:b5q w=some (w.g7.all Y8&&w.Told.all R6):=by
  unfold b5q;rw [S5 w.g7 (h.2.2.1.fits (by decide)) Y8 false ()]
  ·rw [k7];cases w.g7.all Y8<;>rfl
  ·intro k hk;unfold b33;rw [z0 _ k hk,u6 hk];simp only [f1C,e9P,c29,b6V ((h.2.2.1.2 _ (e9T hk)).2.fits (by decide))];unfold Y8;cases q8 w.g7[k].a5.d7 0 2&&q8 w.g7[k].a5.Seq 1 1000<;>cases D6 w.g7[k].i7<;>rfl
  ·unfold b33;rw [B6];rfl
 have k11:b5c w=some (w.d8.all I4&&(w.g7.all Y8&&w.Told.all R6)):=by
  unfold b5c;rw [S5 w.d8 (h.2.1.fits (by decide)) I4 false ()]
  ·rw [k9];cases w.d8.all I4<;>rfl
  ·intro k hk;unfold b3N;rw [z0 _ k hk,u6 hk];simp only [f1C,e9P,c3o (h.2.1.2 _ (e9T hk))];cases I4 w.d8[k]<;>rfl
  ·unfold b3N;rw [B6];rfl
 unfold a9A L5;rw [a4Y w.b7 (h.1.fits (by decide)) (a4O w) false ()]
 ·rw [k11];simp only [<-a3I];rw [show ((w.b7.length:Int)==3) = !((w.b7.length:Int) != 3) from by simp [bne]];cases ((w.b7.length:Int) != 3)<;>cases decide ((w.d8.length:Int)>40)<;>cases decide ((w.g7.length:Int)>60)<;>cases decide ((w.Told.length:Int)>60)<;>cases (e91 w.b7.length).all (a4O w)<;>rfl
 ·intro k hk _;unfold b36;rw [z0 _ k hk,u6 hk];simp only [f1C,e9P,a7w (h.1.2 _ (e9T hk)),a4O,e9Q hk,bne];cases w.b7[k].Id==(k:Int)<;>cases D5 w.b7[k]<;>rfl
 ·unfold b36;rw [B6];rfl
theorem d23{w:m8}(h:a0w w):b3r w=some (L5 w):=by
 have k7:b7l w=some (w.Told.all R6):=by
  unfold b7l;rw [S5 w.Told (h.2.2.2.fits (by decide)) R6 false ()]
  ·cases w.Told.all R6<;>rfl
  ·intro k hk;unfold b5X;rw [z0 _ k hk,u6 hk];simp only [f1C,e9P,M2,b6U];unfold R6;rw [show (w.Told[k].a5.d7==w.Told[k].Node) = !(w.Told[k].a5.d7 != w.Told[k].Node) from by simp [bne]];cases q8 w.Told[k].Node 0 2<;>cases q8 w.Told[k].a5.d7 0 2&&q8 w.Told[k].a5.Seq 1 1000<;>cases (w.Told[k].a5.d7 != w.Told[k].Node)<;>cases q8 w.Told[k].Code 0 4<;>cases q8 w.Told[k].d9 (-1000000) 1000000<;>rfl
  ·unfold b5X;rw [B6];rfl
 have k9:b5Y w=some (w.g7.all Y8&&w.Told.all R6):=by
  unfold b5Y;rw [S5 w.g7 (h.2.2.1.fits (by decide)) Y8 false ()]
  ·rw [k7];cases w.g7.all Y8<;>rfl
  ·intro k hk;unfold b8e;rw [z0 _ k hk,u6 hk];simp only [f1C,e9P,b6U,b7a ((h.2.2.1.2 _ (e9T hk)).2.fits (by decide))];unfold Y8;cases q8 w.g7[k].a5.d7 0 2&&q8 w.g7[k].a5.Seq 1 1000<;>cases D6 w.g7[k].i7<;>rfl
  ·unfold b8e;rw [B6];rfl
 have k11:b4v w=some (w.d8.all I4&&(w.g7.all Y8&&w.Told.all R6)):=by
  unfold b4v;rw [S5 w.d8 (h.2.1.fits (by decide)) I4 false ()]
  ·rw [k9];cases w.d8.all I4<;>rfl
  ·intro k hk;unfold b6Y;rw [z0 _ k hk,u6 hk];simp only [f1C,e9P,c5i (h.2.1.2 _ (e9T hk))];cases I4 w.d8[k]<;>rfl
  ·unfold b6Y;rw [B6];rfl
 unfold b3r L5;rw [a4Y w.b7 (h.1.fits (by decide)) (a4O w) false ()]
 ·rw [k11];simp only [<-a3I];rw [show ((w.b7.length:Int)==3) = !((w.b7.length:Int) != 3) from by simp [bne]];cases ((w.b7.length:Int) != 3)<;>cases decide ((w.d8.length:Int)>40)<;>cases decide ((w.g7.length:Int)>60)<;>cases decide ((w.Told.length:Int)>60)<;>cases (e91 w.b7.length).all (a4O w)<;>rfl
 ·intro k hk _;unfold b8v;rw [z0 _ k hk,u6 hk];simp only [f1C,e9P,a6V (h.1.2 _ (e9T hk)),a4O,e9Q hk,bne];cases w.b7[k].Id==(k:Int)<;>cases D5 w.b7[k]<;>rfl
 ·unfold b8v;rw [B6];rfl
theorem d0q{α:Type}{p:List α->List α->Nat->Bool}(hp:∀(a b:List α) (k:Nat) (x y:α),a[k]?=some x->b[k]?=some y->(p a b k=true↔x=y))(a b:List α):(a.length==b.length&&(e91 a.length).all (p a b))=true↔a=b:=by
 constructor
 ·intro h;simp only [e9U,beq_iff_eq,e9Y,f0K] at h;refine List.ext_getElem h.1 fun i h1 h2 => ?_
  exact (hp a b i _ _ (e9Q h1) (e9Q h2)).1 (h.2 i h1)
 ·rintro rfl
  simp only [e9U,beq_iff_eq,e9Y,f0K,true_and];intro k hk;exact (hp a a k _ _ (e9Q hk) (e9Q hk)).2 rfl
theorem c3g(a b:m9):a3A a b=true↔a=b:=by
 have h1:=d0q (p:=a1S) (fun a b k x y hx hy=>by
  unfold a1S;rw [hx,hy];cases x;cases y;simp) a.a9 b.a9
 have h2:=d0q (p:=a1P) (fun a b k x y hx hy=>by
  unfold a1P;rw [hx,hy];cases x;cases y;simp) a.b6 b.b6
 unfold a3A;rw [e9U,h1,e9U,h2,e9U,beq_iff_eq,beq_iff_eq];cases a;cases b;simp
theorem a30(a b:m5):W9 a b=true↔a=b:=by
 unfold W9;rw [e9U,e9U,c3g];obtain ⟨n,⟨q1,q2⟩,r⟩:=a;obtain ⟨n',⟨q1',q2'⟩,r'⟩:=b;simp [and_assoc]
theorem H4{n lo hi:Int}:q8 n lo hi=true↔lo<=n/\n<=hi:=by unfold q8;simp
theorem d73{l:List s1}(h:A0 16 c5b l):a14 l=some l:=by
 have hb:=h.1;unfold a14;cases hl:((l.length:Int)==0)
 ·rw [f1D,t6 (by constructor<;>omega),t6 (by simp)]
 ·simp only [beq_iff_eq] at hl;have:l=[]:=e93 (by omega);rw [this];rfl
theorem e8T{l:List p9}(h:A0 16 d2q l):a7A l=some l:=by
 have hb:=h.1;unfold a7A;cases hl:((l.length:Int)==0)
 ·rw [f1D,t6 (by constructor<;>omega),t6 (by simp)]
 ·simp only [beq_iff_eq] at hl;have:l=[]:=e93 (by omega);rw [this];rfl
theorem b2n{e:m5}(h:E1 e):a5R e=some e:=by
 unfold a5R c0Q;rw [d73 h.2.1,e9P,e8T h.2.2.1];rfl
theorem a0s{e:m5}(h:E1 e):W3 e=some e:=by
 have h1:=h.2.1.1;have h2:=h.2.2.1.1;unfold W3 b8G;rw [t6 (by simp;omega),t6 (by simp;omega)];rfl
theorem e4Y{l:List m5}(h:A0 88 E1 l):b5y l=some l:=by
 have hb:=h.1;unfold b5y;cases hl:((l.length:Int)==0)
 ·rw [f1D,t6 (by constructor<;>omega),t6 (by simp)]
 ·simp only [beq_iff_eq] at hl;have:l=[]:=e93 (by omega);rw [this];rfl
theorem c4l{l:List m5}(h:A0 88 E1 l):b0A l=some l:=by
 have hf:u5 l:=h.fits (by decide);unfold b0A;rw [e4Y h,e9P];have hl:=a0C (body:=fun s:(List m5)×Int=>b3i l s.1 s.2) (fun k=>(l,(k:Int))) l.length (by
  intro k hk;unfold b3i;rw [z0 _ k hk,u6 hk];simp only [f1C,e9P,b2n (h.2 _ (e9T hk)),G1 hf hk,f0k,List.set_getElem_self])
 rw [show ((0:Nat):Int)=0 from rfl] at hl;rw [hl,D7 (b:=l)]
 ·rfl
 ·unfold b3i;rw [B6];rfl
theorem c8Y{l:List m5}(h:A0 88 E1 l):b1Y l=some l:=by
 have hf:u5 l:=h.fits (by decide);have hb:=h.1;unfold b1Y;have hl:=a0C (body:=fun s:(List m5)×Int=>b0n l s.1 s.2) (fun k=>(l.take k,(k:Int))) l.length (by
  intro k hk;unfold b0n;rw [z0 _ k hk,u6 hk];simp only [f1C,e9P,a0s (h.2 _ (e9T hk)),G1 hf hk];rw [t6 (by rw [f0i];omega),f0o hk])
 rw [show ((0:Nat):Int)=0 from rfl,f0v] at hl;rw [hl,f0r,D7 (b:=l)]
 ·rfl
 ·unfold b0n;rw [B6];rfl
def best(w:m8):Nat->Nat
 | 0=>0
 | k+1=>match w.b7[k]?,w.b7[best w k]? with
  | some a,some b=>bif decide ((a.a7.length:Int)>(b.a7.length:Int)) then k else best w k
  | _,_=>best w k
def N9(q:s3)(e:m5):Bool := !e.i8&&(([e.a5.d7,e.a5.Seq]:List Int)==[q.d7,q.Seq])
theorem b3Q{α R S B:Type}{body:S->Option (l9 R S B)}(st:Nat->S)(l:List α)(is:α->Bool)(r:Nat->R)(b:B)(h1:∀(k:Nat) (h:k<l.length),body (st k)=some (bif is l[k] then .ret (r k) else .nxt (st (k+1))))(h2:body (st l.length)=some (.brk b)) :
  s2 body (st 0)=some (match l.findIdx? is with|some k=>.ret (r k)|none=>.brk b):=by
 rcases a47 (body:=body) st l.length (fun k=>match l[k]? with|some x => !is x|none=>true) r b
  (fun k hk _=>by
   rw [h1 k hk,e9Q hk];simp only;cases is l[k]<;>rfl) (fun _=>h2) with ⟨h,hall⟩|⟨k,hk,ho,hb,h⟩
 ·have:l.findIdx? is=none:=by
   rw [f1y];intro x hx;obtain ⟨i,hi,rfl⟩:=f0U hx;have:=hall i hi;rw [e9Q hi] at this;simpa using this
  rw [this];exact h
 ·have:l.findIdx? is=some k:=by
   rw [f0W];refine ⟨hk,?_,fun j hj => ?_⟩
   ·rw [e9Q hk] at ho;simpa using ho
   ·have:=hb j hj;rw [e9Q (show j<l.length by omega)] at this;simpa using this
  rw [this];exact h
theorem c02{l:List m5}(h:u5 l)(q:s3):a8Z l q=some (match l.findIdx? (N9 q) with|some k=>(k:Int)|none => -1):=by
  unfold a8Z;rw [show s2 (fun s:Int=>a9G l q s) 0=_ from b3Q (body:=fun s:Int=>a9G l q s) (fun k=>(k:Int)) l (N9 q) (fun k=>(k:Int)) () (by
      intro k hk;unfold a9G b9i N9;rw [z0 _ k hk,u6 hk,<-G1 h hk];simp only [f1C,e9P];cases l[k].i8<;>cases (([l[k].a5.d7,l[k].a5.Seq]:List Int)==[q.d7,q.Seq])<;>rfl) (by
      unfold a9G;rw [B6];rfl)]
  cases l.findIdx? (N9 q)<;>rfl
theorem d1f{l:List m5}(hl:l.length<=40)(he:l.all z6=true){k:Nat}(hk:k<l.length):(A2 l).2[k]?=some (apply (A2 (l.take k)).1 l[k]).2:=by
 have key:∀m,k<m->m<=l.length->(A2 (l.take m)).2[k]?=some (apply (A2 (l.take k)).1 l[k]).2:=by
  intro m;induction m with
  | zero=>omega
  | succ m ih=>
   intro h1 h2;have hlen:=(a4f hl he m (by omega)).2.1;rw [a7E (show m<l.length by omega)];unfold b2i;simp only;by_cases q:k<m
   ·rw [f0h (by omega)];exact ih q (by omega)
   ·have:k=m:=by omega
    subst this;rw [e98 (by omega),hlen];simp
 have:=key l.length hk (f0u _);rwa [f0r] at this
def a0t(l:List m5)(k:Nat):Int:=(A2 l).2[k]?.getD 0
theorem c2d{α B R:Type}{body:Int->Option (l9 R Int B)}(l:List α)(hl:u5 l)(ok:α->Bool)(v:R)(b:B)(h1:∀(k:Nat) (h:k<l.length),body (k:Int)=some (bif ok l[k] then .nxt (m4 ((k:Int)+1)) else .ret v))(h2:body (l.length:Int)=some (.brk b)):s2 body 0=some (bif l.all ok then .brk b else .ret v):=by
 have h:=a47 (body:=body) (fun k=>(k:Int)) l.length (fun k=>match l[k]? with|some x=>ok x|none=>true) (fun _=>v) b
  (fun k hk _=>by
   have:=h1 k hk;rw [G1 hl hk] at this;simpa [e9Q hk] using this) (fun _=>h2)
 rcases h with ⟨h,hall⟩|⟨k,hk,ho,_,h⟩
 ·have:l.all ok=true:=by
   rw [e9Y];intro x hx;obtain ⟨i,hi,rfl⟩:=f0U hx;have:=hall i hi;simpa [e9Q hi] using this
  rw [this];exact h
 ·have:l.all ok=false:=by
   rw [f1m];refine ⟨l[k],e9T hk,?_⟩;simpa [e9Q hk] using ho
  rw [this];exact h
theorem b3t{l:List s1}(h:l.length<=1000):a14 l=some l:=by
 unfold a14;cases hl:((l.length:Int)==0)
 ·rw [f1D,t6 (by constructor<;>omega),t6 (by simp)]
 ·simp only [beq_iff_eq] at hl;have:l=[]:=e93 (by omega);rw [this];rfl
theorem d6Q{l:List p9}(h:l.length<=1000):a7A l=some l:=by
 unfold a7A;cases hl:((l.length:Int)==0)
 ·rw [f1D,t6 (by constructor<;>omega),t6 (by simp)]
 ·simp only [beq_iff_eq] at hl;have:l=[]:=e93 (by omega);rw [this];rfl
def Y2(ps:List p9)(b:Int):Option Nat:=ps.findIdx? (·.i6==b)
def atI:Option Nat->Int
 | some k=>(k:Int)
 | none => -1
theorem c9U{l:List p9}(h:u5 l)(b:Int):a13 l b=some (atI (Y2 l b)):=by
 unfold a13;rw [show (0:Int)=((0:Nat):Int) from rfl,b3Q (body:=fun s:Int=>a08 l b s) (fun k=>(k:Int)) l (·.i6==b) (fun k=>(k:Int)) ()]
 ·unfold Y2;cases l.findIdx? (·.i6==b)<;>rfl
 ·intro k hk;unfold a08;rw [z0 _ k hk,u6 hk,G1 h hk];simp only [f1C,e9P];cases l[k].i6==b<;>rfl
 ·unfold a08;rw [B6];rfl
theorem c96{x:m9}(h:u5 x.b6)(b:Int):b1D x b=some (atI (Y2 x.b6 b)):=by
 unfold b1D;rw [show (0:Int)=((0:Nat):Int) from rfl,b3Q (body:=fun s:Int=>b2a x b s) (fun k=>(k:Int)) x.b6 (·.i6==b) (fun k=>(k:Int)) ()]
 ·unfold Y2;cases x.b6.findIdx? (·.i6==b)<;>rfl
 ·intro k hk;unfold b2a;rw [z0 _ k hk,u6 hk,G1 h hk];simp only [f1C,e9P];cases x.b6[k].i6==b<;>rfl
 ·unfold b2a;rw [B6];rfl
theorem b0P{ps:List p9}{b:Int}{k:Nat}(h:Y2 ps b=some k):k<ps.length:=by
 obtain ⟨hk,_⟩:=f0W.1 h;exact hk
theorem b74(k:Nat):decide (atI (some k)>=0)=true:=by simp [atI]
theorem b43:decide (atI none>=0)=false:=by simp [atI]
theorem d7x{x:m9}(h:u5 x.a9)(b:Int):∃v,b2D x b=some v/\decide (v<0) = !(L3 x.a9 b):=by
 obtain ⟨v,h1,h2⟩:=e7o h b;refine ⟨v,h1,?_⟩;rw [<-h2];by_cases q:v>=0
 ·have:¬v<0:=by omega
  simp [q,this]
 ·have:v<0:=by omega
  simp [q,this]
def H0(v:Int):Bool:=q8 v (-1000000) 1000000
def I1(regs:List Int)(a:Int):Int:=regs.getD a.toNat 0
theorem K4{regs:List Int}(h:regs.length=4){a:Int}(ha:0<=a/\a<=3):idx regs a=some (I1 regs a):=by
 obtain ⟨k,rfl⟩:=Int.eq_ofNat_of_zero_le ha.1;have hk:k<regs.length:=by omega
 rw [u6 hk];unfold I1;simp [hk]
theorem e9c{regs:List Int}(h:regs.length=4){a v:Int}(ha:0<=a/\a<=3):I1 (regs.set a.toNat v) a=v:=by
 unfold I1;have:a.toNat<regs.length:=by omega
 simp [this]
theorem e1x{regs:List Int}(h:regs.length=4)(hr:regs.all H0=true){a v:Int}(ha:0<=a/\a<=3):(regs.set a.toNat v).all H0=H0 v:=by
 cases hv:H0 v
 ·rw [f1m];exact ⟨v,e96 (i:=a.toNat) (by rw [f0V (by omega)]),by simp [hv]⟩
 ·rw [e9Y] at hr⊢;intro x hx;rcases f0b hx with hx|rfl
  ·exact hr x hx
  ·exact hv
theorem a1W{regs:List Int}(h:regs.length=4)(hr:regs.all H0=true){a:Int}(ha:0<=a/\a<=3):-1000000<=I1 regs a/\I1 regs a<=1000000:=by
 have hi:=K4 h ha;have hm:I1 regs a∈regs:=e96 (b42 hi).2.2;have:=e9Y.1 hr _ hm;simpa [H0,q8] using this
structure EI(regs:List Int)(rs:List s1)(ps:List p9)(k:Nat):Prop where
 len:regs.length=4
 rng:regs.all H0=true
 rl:rs.length<=k
 pl:ps.length<=k
theorem EI.fr{regs:List Int}{rs:List s1}{ps:List p9}{k:Nat}(h:EI regs rs ps k)(hk:k<=100):u5 rs:=by
 have:=h.rl;unfold u5;omega
theorem EI.fp{regs:List Int}{rs:List s1}{ps:List p9}{k:Nat}(h:EI regs rs ps k)(hk:k<=100):u5 ps:=by
 have:=h.pl;unfold u5;omega
def G0(l:List q9)(i:r9)(regs:List Int)(rs:List s1)(ps:List p9):List Int×List s1×List p9:=
 bif i.a6==1 then (match Y2 ps i.B with
  | some k=>(match ps[k]? with
   | some p=>(regs.set i.A.toNat p.d9,rs,ps)
   | none=>(regs,rs,ps))
  | none=>match l[i.B.toNat]? with
   | some b=>(regs.set i.A.toNat b.d9,bif L3 rs i.B then rs else rs++[⟨i.B,b.j4⟩],ps)
   | none=>(regs,rs,ps))
 else bif i.a6==2 then (regs,rs,match Y2 ps i.A with
  | some k=>(match ps[k]? with
   | some p=>ps.set k ⟨p.i6,I1 regs i.B⟩
   | none=>ps)
  | none=>ps++[⟨i.A,I1 regs i.B⟩])
 else bif i.a6==3 then (regs.set i.A.toNat i.N,rs,ps)
 else bif i.a6==4 then (regs.set i.A.toNat (I1 regs i.A+I1 regs i.B),rs,ps)
 else bif i.a6==5 then (regs.set i.A.toNat (I1 regs i.A-I1 regs i.B),rs,ps)
 else (regs,rs,ps)
def a0S(l:List q9)(prog:List r9):Nat->Nat->List Int->List s1->List p9->m9
 | 0,_,regs,rs,ps=>⟨rs,ps,I1 regs 0,0⟩
 | f+1,k,regs,rs,ps=>match prog[k]? with
  | none=>⟨rs,ps,I1 regs 0,0⟩
  | some i=>bif i.a6==6 then a0S l prog f (bif decide (I1 regs i.A<I1 regs i.B) then k+i.N.toNat+1 else k+1) regs rs ps
   else bif i.a6==7 then ⟨rs,[],0,1⟩
   else bif (G0 l i regs rs ps).1.all H0 then a0S l prog f (k+1) (G0 l i regs rs ps).1 (G0 l i regs rs ps).2.1 (G0 l i regs rs ps).2.2
   else ⟨(G0 l i regs rs ps).2.1,[],0,2⟩
def C5(l:List q9)(prog:List r9):m9:=bif F7 l&&D6 prog then a0S l prog (prog.length+1) 0 [0,0,0,0] [] [] else ⟨[],[],0,3⟩
end
end Go.Proofs.YtnajfkhignckkaaGreat
