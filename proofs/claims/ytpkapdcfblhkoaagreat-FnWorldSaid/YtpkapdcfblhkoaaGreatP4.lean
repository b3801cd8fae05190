/- What the law leans on, part 4. -/
import Derived.Test.YtpkapdcfblhkoaaGreatP3
import Derived.IntWalk
set_option linter.unusedVariables false
set_option linter.unusedSimpArgs false
set_option linter.unnecessarySimpa false
namespace Go.Proofs.YtpkapdcfblhkoaaGreat
open Go
open Option renaming bind_some->e9M
open List renaming getElem?_eq_getElem->e9N,replicate->e9O,mem_append->e9P,getElem_mem->e9Q,mem_cons->e9V,all_eq_true->e9W,range->e9Y,mem_singleton->e9Z,eq_nil_of_length_eq_zero->e90,length_append->e91,mem_of_getElem?->e93,getElem?_append_right->e96,drop_eq_getElem_cons->e98,mem_or_eq_of_mem_set->e99,length_take->f0e,getElem?_append_left->f0f,take_succ_eq_append_getElem->f0m,take_length->f0o,take_zero->f0t,any_eq_false->f0u,mem_of_mem_take->f0v,mem_filter->f0C,length_cons->f0D,pairwise_iff_getElem->f0F,drop_zero->f0G,mem_range->f0I,getElem_of_mem->f0R,getElem?_set_self->f0S,findIdx?_eq_some_iff_getElem->f0T,pairwise_cons->f0W,pairwise_append->f05,mem_take_iff_getElem->f06,any_eq_true->f1a,foldl_cons->f1f,all_eq_false->f1j,foldl_append->f1k,length_nil->f1w,findIdx?_eq_none_iff->f1x,foldl_nil->f1A
open Bool renaming and_eq_true->e9R,not_true->e9S,true_and->e95,not_false->e97,false_or->f0p,not_eq_true'->f0J,and_true->f0P,and_assoc->f1o,false_and->f1B
open Int renaming tmod->e9U,toNat_natCast->f0h,tdiv->f1r
open Nat renaming le_trans->f0c,le_refl->f0q,le_succ_of_le->f02,sub_zero->f1y
noncomputable section
def b1Z(list:List j9):Option (List j9):=
 ((c0N list).bind fun msg=>((s2 (fun s:(List j9)×Int=>b4d msg s.1 s.2) (msg,0)).bind fun x=>x.go (fun r=>some r) fun s=>d3C s))
theorem c9Y{list}:OK a5F [l7 13 s7 list] (b1Z list):=
 p8 _ fun r h=>o9<|j7 c7o e4f 1 h fun msg h=>rg<|lp (d7F msg) h (fun _ h=>a5F.rt h) (e6g r) fun hI=>sk [] [3,8,9] [(3,0)] hI
def c4s:FS (List C1):=⟨40,Tryz.f40,[.val [some 3] [some 70]],[none],[.val [some 3] []],fun r=>u0 70 3 C4 r,fun _=>[none],Tryz.func40⟩
def c07(list:List C1):Option (List C1):=
 (bif ((list.length:Int)==0) then some [] else (s5 (0<=(list.length:Int)/\(list.length:Int)*40<=140737488355328) ((s5 (list.length=(e9O (list.length:Int).toNat (C1.mk (s3.mk 0 0) [])).length) (some list)))))
theorem d60{list}:OK c4s [l7 3 C4 list] (c07 list):=
 p8 _ fun r h=>o9<|j5 2 h (fun h=>rg<|fE h) (fun h=>rg<|s9 h fun e1 h=>U0 2 7 70 3 40 C4 (C1.mk (s3.mk 0 0) []) c0t (.ck [none,none,some 4]) e1 (by decide) (by rfl)<|rg<|s9 h fun e2 h=>om (s4.row 70 3 (e9O (list.length:Int).toNat (C1.mk (s3.mk 0 0) [])).length (list.map C4)=m7 70 3 C4 list) (a1R e2)<|s8 (e9O (list.length:Int).toNat (C1.mk (s3.mk 0 0) []))<|ob e2<|tl (2,{e:=some (m7 70 3 C4 list)})<|rg<|om ((e9O (list.length:Int).toNat (C1.mk (s3.mk 0 0) [])).length=list.length) (by simp)<|fE h)
def b89:FS (List o8):=⟨41,Tryz.f41,[.val [some 5] [some 51]],[none],[.val [some 5] []],fun r=>u0 51 5 z4 r,fun _=>[none],Tryz.func41⟩
def b5p(list:List o8):Option (List o8):=
 (bif ((list.length:Int)==0) then some [] else (s5 (0<=(list.length:Int)/\(list.length:Int)*40<=140737488355328) ((s5 (list.length=(e9O (list.length:Int).toNat (o8.mk 0 (s3.mk 0 0) 0 0)).length) (some list)))))
theorem c8J{list}:OK b89 [l7 5 z4 list] (b5p list):=
 p8 _ fun r h=>o9<|j5 2 h (fun h=>rg<|fE h) (fun h=>rg<|s9 h fun e1 h=>U0 2 7 51 5 40 z4 (o8.mk 0 (s3.mk 0 0) 0 0) c0Z (.none) e1 (by decide) (by rfl)<|rg<|s9 h fun e2 h=>om (s4.row 51 5 (e9O (list.length:Int).toNat (o8.mk 0 (s3.mk 0 0) 0 0)).length (list.map z4)=m7 51 5 z4 list) (a1R e2)<|s8 (e9O (list.length:Int).toNat (o8.mk 0 (s3.mk 0 0) 0 0))<|ob e2<|tl (2,{e:=some (m7 51 5 z4 list)})<|rg<|om ((e9O (list.length:Int).toNat (o8.mk 0 (s3.mk 0 0) 0 0)).length=list.length) (by simp)<|fE h)
def a78:FS (v5):=⟨88,Tryz.f88,[.val [none,some 8] [none,some 130]],[none],[.val [none,some 8] []],fun r=>.agg [vi r.i5,u0 130 8 p7 r.a0],fun _=>[none],Tryz.func88⟩
def a4p(a:v5):Option v5:=
 ((a6O a.a0).bind fun a0i=>some (v5.mk a.i5 a0i))
theorem a8R{a}:OK a78 [.agg (V8 a)] (a4p a):=
 p8 _ fun r h=>o9<|j7 a2X b8a 4 h fun a0i h=>s8 a0i<|fE h
def d21:FS (List m5):=⟨129,Tryz.f129,[.val [some 7] [some 63]],[none],[.val [some 7] []],fun r=>u0 63 7 t5 r,fun _=>[none],Tryz.func129⟩
def b4b(list:List m5):Option (List m5):=
 (bif ((list.length:Int)==0) then some [] else (s5 (0<=(list.length:Int)/\(list.length:Int)*88<=140737488355328) ((s5 (list.length=(e9O (list.length:Int).toNat (m5.mk false (s3.mk 0 0) (m9.mk [] [] 0 0))).length) (some list)))))
theorem e2l{list}:OK d21 [l7 7 t5 list] (b4b list):=
 p8 _ fun r h=>o9<|j5 2 h (fun h=>rg<|fE h) (fun h=>rg<|s9 h fun e1 h=>U0 2 7 63 7 88 t5 (m5.mk false (s3.mk 0 0) (m9.mk [] [] 0 0)) c0p (.ck I1) e1 (by decide) (by rfl)<|rg<|s9 h fun e2 h=>om (s4.row 63 7 (e9O (list.length:Int).toNat (m5.mk false (s3.mk 0 0) (m9.mk [] [] 0 0))).length (list.map t5)=m7 63 7 t5 list) (a1R e2)<|s8 (e9O (list.length:Int).toNat (m5.mk false (s3.mk 0 0) (m9.mk [] [] 0 0)))<|ob e2<|tl (2,{e:=some (m7 63 7 t5 list)})<|rg<|om ((e9O (list.length:Int).toNat (m5.mk false (s3.mk 0 0) (m9.mk [] [] 0 0))).length=list.length) (by simp)<|fE h)
def a6r:FS (List m5):=⟨89,Tryz.f89,[.val [some 7] [some 63]],[none],[.val [some 7] []],fun r=>u0 63 7 t5 r,fun _=>[none],Tryz.func89⟩
def d0j:(List m5)->KS:=fun out1=>⟨a6r.k 4 [false],(bs 3 (.own 1 0 7 0 out1.length::(bs 18 []))),[some [],some [m7 63 7 t5 out1]]⟩
def c8O(out1:List m5):Option (List m5):=
 some out1
theorem e3y(r):NF a6r r d0j (fun s=>c8O s):=fun out1 h=>PK<|rg<|s8 out1<|fE h
def d8S(entry:List m5):((List m5)×Int)->KS:=fun (out,v9)=>⟨a6r.k 3 [],(bs 3 (.own 1 0 7 0 out.length::(bs 4 (vi (entry.length:Int)::(vi v9::(bs 12 [])))))),[some [],some [m7 63 7 t5 out]]⟩
def b3z(entry:List m5)(out:List m5)(v9:Int):Option (l9 (List m5) ((List m5)×Int) (List m5)):=
 (bif decide (v9<(entry.length:Int)) then ((idx out v9).bind fun b0H=>((a6i b0H).bind fun X9=>some (l9.nxt (out.set v9.toNat X9,m4 (v9+1))))) else some (l9.brk out))
theorem e70(entry):LQ a6r d0j (d8S entry) (fun s=>b3z entry s.1 s.2):=fun lc (out,v9) h=>PK<|rg<|j5 0 h (fun h=>o9<|A8 h fun b0H b1j h=>B2 b1j<|H4 t5 5 b1j<|j7 a9i b1s 6 h fun X9 h=>B2 b1j<|O5 63 7 t5 8 I1 X9 b1j<|rg<|(lc.nx h fun hI=>om ((.own 1 0 7 0 out.length:V)=.own 1 0 7 0 (out.set v9.toNat X9).length) (by simp)<|sk [.is (.tmp 3) (.own 1 0 7 0 (out.set v9.toNat X9).length)] [3,8,9] [(1,0)] hI)) (fun h=>(lc.bk h fun hI=>sk [] [3] [(1,0)] hI))
def b2m(list:List m5):Option (List m5):=
 ((b4b list).bind fun entry=>((s2 (fun s:(List m5)×Int=>b3z entry s.1 s.2) (entry,0)).bind fun x=>x.go (fun r=>some r) fun s=>c8O s))
theorem c9P{list}:OK a6r [l7 7 t5 list] (b2m list):=
 p8 _ fun r h=>o9<|j7 d21 e2l 1 h fun entry h=>rg<|lp (e70 entry) h (fun _ h=>a6r.rt h) (e3y r) fun hI=>sk [] [3,8,9] [(3,0)] hI
def c3D:FS (List Bool):=⟨90,Tryz.f90,[.val [some 1] [some 4]],[none],[.val [some 1] []],fun r=>u0 4 1 eB r,fun _=>[none],Tryz.func90⟩
def b4R(list:List Bool):Option (List Bool):=
 (bif ((list.length:Int)==0) then some [] else (s5 (0<=(list.length:Int)/\(list.length:Int)*1<=140737488355328) ((s5 (list.length=(e9O (list.length:Int).toNat false).length) (some list)))))
theorem c5t{list}:OK c3D [l7 1 eB list] (b4R list):=
 p8 _ fun r h=>o9<|j5 2 h (fun h=>rg<|fE h) (fun h=>rg<|s9 h fun e1 h=>U0 2 7 4 1 1 eB false ti4 (.none) e1 (by decide) (by rfl)<|rg<|s9 h fun e2 h=>om (s4.row 4 1 (e9O (list.length:Int).toNat false).length (list.map eB)=m7 4 1 eB list) (a1R e2)<|s8 (e9O (list.length:Int).toNat false)<|ob e2<|tl (2,{e:=some (m7 4 1 eB list)})<|rg<|om ((e9O (list.length:Int).toNat false).length=list.length) (by simp)<|fE h)
def c3L:FS (List r9):=⟨43,Tryz.f43,[.val [some 4] [some 92]],[none],[.val [some 4] []],fun r=>u0 92 4 z8 r,fun _=>[none],Tryz.func43⟩
def b7Q(list:List r9):Option (List r9):=
 (bif ((list.length:Int)==0) then some [] else (s5 (0<=(list.length:Int)/\(list.length:Int)*32<=140737488355328) ((s5 (list.length=(e9O (list.length:Int).toNat (r9.mk 0 0 0 0)).length) (some list)))))
theorem c8k{list}:OK c3L [l7 4 z8 list] (b7Q list):=
 p8 _ fun r h=>o9<|j5 2 h (fun h=>rg<|fE h) (fun h=>rg<|s9 h fun e1 h=>U0 2 7 92 4 32 z8 (r9.mk 0 0 0 0) c3G (.none) e1 (by decide) (by rfl)<|rg<|s9 h fun e2 h=>om (s4.row 92 4 (e9O (list.length:Int).toNat (r9.mk 0 0 0 0)).length (list.map z8)=m7 92 4 z8 list) (a1R e2)<|s8 (e9O (list.length:Int).toNat (r9.mk 0 0 0 0))<|ob e2<|tl (2,{e:=some (m7 92 4 z8 list)})<|rg<|om ((e9O (list.length:Int).toNat (r9.mk 0 0 0 0)).length=list.length) (by simp)<|fE h)
def b0q:FS (j8):=⟨42,Tryz.f42,[.val A4 om3],[none],[.val A4 []],fun r=>.agg (d97 r),fun _=>[none],Tryz.func42⟩
def a8o(n:j8):Option j8:=
 ((a4p n.Acc).bind fun P9=>((b2m n.a7).bind fun c2M=>((b4R n.c9).bind fun bool=>((a6O n.i4).bind fun a0i=>((a6i n.c8).bind fun X9=>((b4R n.a0).bind fun a8G=>((b7Q n.i7).bind fun ins=>((a6i n.b8).bind fun d2X=>((b2m n.d6).bind fun c3v=>some (j8.mk n.Id P9 c2M n.Seq n.f0 n.a8 bool a0i X9 a8G n.j3 ins d2X c3v))))))))))
theorem b37{n}:OK b0q [.agg (B3 n)] (a8o n):=
 p8 _ fun r h=>N4<|j7 a78 a8R 2 h fun P9 h=>rg<|j7 a6r c9P 2 h fun c2M h=>rg<|j7 c3D c5t 2 h fun bool h=>rg<|j7 a2X b8a 2 h fun a0i h=>rg<|j7 a9i b1s 2 h fun X9 h=>rg<|j7 c3D c5t 2 h fun a8G h=>rg<|j7 c3L c8k 2 h fun ins h=>rg<|j7 a9i b1s 2 h fun d2X h=>rg<|j7 a6r c9P 2 h fun c3v h=>rg<|I8 P9.a0 c2M bool a0i<|L6 a8G ins c3v<|fE h
def X0:FS (m8):=⟨15,Tryz.f15,[.val E8 om7],[none],[.val E8 []],fun r=>.agg (a7T r),fun _=>[none],Tryz.func15⟩
def d2P(msgsCopy:List j9)(asked:List C1)(told:List o8):(List j8)->KS:=fun Nodes1=>⟨X0.k 4 [false],(bs 2 (.ptr 1 0 0::(.ptr 2 0 0::(bs 52 [])))),[some [],some [.var 28 [.nil,.nil,.nil,.nil]],some [.var 28 [.own 3 0 27 0 Nodes1.length,.own 4 0 13 0 msgsCopy.length,.own 5 0 3 0 asked.length,.own 6 0 5 0 told.length]],some [m7 65 27 B3 Nodes1],some [m7 68 13 s7 msgsCopy],some [m7 70 3 C4 asked],some [m7 51 5 z4 told]]⟩
def d2Z(msgsCopy:List j9)(told:List o8)(Nodes1:List j8):(List C1)->KS:=fun Asked1=>⟨X0.k 6 [false,false],(bs 2 (.ptr 1 0 0::(.ptr 2 0 0::(bs 52 [])))),[some [],some [.var 28 [.nil,.nil,.nil,.nil]],some [.var 28 [.own 3 0 27 0 Nodes1.length,.own 4 0 13 0 msgsCopy.length,.own 5 0 3 0 Asked1.length,.own 6 0 5 0 told.length]],some [m7 65 27 B3 Nodes1],some [m7 68 13 s7 msgsCopy],some [m7 70 3 C4 Asked1],some [m7 51 5 z4 told]]⟩
def c8l(msgsCopy:List j9)(told:List o8)(Nodes1:List j8)(Asked1:List C1):Option m8:=
 some (m8.mk Nodes1 msgsCopy Asked1 told)
theorem d5u(msgsCopy told Nodes1)(r):NF X0 r (d2Z msgsCopy told Nodes1) (fun s=>c8l msgsCopy told Nodes1 s):=fun Asked1 h=>PK<|rg<|I8 Nodes1 msgsCopy Asked1 told<|fE h
def e8T(msgsCopy:List j9)(asked:List C1)(told:List o8)(Nodes1:List j8):((List C1)×Int)->KS:=fun (g7,v39)=>⟨X0.k 5 [false],(bs 2 (.ptr 1 0 0::(.ptr 2 0 0::(bs 34 (vi (asked.length:Int)::(vi v39::(bs 16 []))))))),[some [],some [.var 28 [.nil,.nil,.nil,.nil]],some [.var 28 [.own 3 0 27 0 Nodes1.length,.own 4 0 13 0 msgsCopy.length,.own 5 0 3 0 g7.length,.own 6 0 5 0 told.length]],some [m7 65 27 B3 Nodes1],some [m7 68 13 s7 msgsCopy],some [m7 70 3 C4 g7],some [m7 51 5 z4 told]]⟩
def b3T(asked:List C1)(g7:List C1)(v39:Int):Option (l9 m8 ((List C1)×Int) (List C1)):=
 (bif decide (v39<(asked.length:Int)) then ((idx g7 v39).bind fun a2A=>((b7Q a2A.i7).bind fun ins=>some (l9.nxt (g7.set v39.toNat (C1.mk a2A.a5 ins),m4 (v39+1))))) else some (l9.brk g7))
theorem d8E(msgsCopy asked told Nodes1):LQ X0 (d2Z msgsCopy told Nodes1) (e8T msgsCopy asked told Nodes1) (fun s=>b3T asked s.1 s.2):=fun lc (g7,v39) h=>PK<|rg<|j5 0 h (fun h=>o9<|A8 h fun a2A a9K h=>B2 a9K<|H4 C4 8 a9K<|j7 c3L c8k 9 h fun ins h=>B2 a9K<|O5 70 3 C4 12 [some 4] (C1.mk a2A.a5 ins) a9K<|s8 ins<|rg<|(lc.nx h fun hI=>om ((.own 5 0 3 0 g7.length:V)=.own 5 0 3 0 (g7.set v39.toNat (C1.mk a2A.a5 ins)).length) (by simp)<|sk [.is (.cell 2 0 2) (.own 5 0 3 0 (g7.set v39.toNat (C1.mk a2A.a5 ins)).length)] [2,3,38,39] [(1,0),(2,0),(3,0),(4,0),(5,0),(6,0)] hI)) (fun h=>(lc.bk h fun hI=>sk [] [2,3] [(1,0),(2,0),(3,0),(4,0),(5,0),(6,0)] hI))
def c0X(msgsCopy:List j9)(asked:List C1)(told:List o8)(Nodes1:List j8):Option m8:=
 ((s2 (fun s:(List C1)×Int=>b3T asked s.1 s.2) (asked,0)).bind fun x=>x.go (fun r=>some r) fun s=>c8l msgsCopy told Nodes1 s)
theorem e9f(msgsCopy asked told)(r):NF X0 r (d2P msgsCopy asked told) (fun s=>c0X msgsCopy asked told s):=fun Nodes1 h=>PK<|rg<|lp (d8E msgsCopy asked told Nodes1) h (fun _ h=>X0.rt h) (d5u msgsCopy told Nodes1 r) fun hI=>sk [] [2,3,38,39] [(1,0),(2,0),(3,0),(4,0),(5,0),(6,0)] hI
def e7Y(node:List j8)(msgsCopy:List j9)(asked:List C1)(told:List o8):((List j8)×Int)->KS:=fun (b7,v22)=>⟨X0.k 3 [],(bs 2 (.ptr 1 0 0::(.ptr 2 0 0::(bs 17 (vi (node.length:Int)::(vi v22::(bs 33 []))))))),[some [],some [.var 28 [.nil,.nil,.nil,.nil]],some [.var 28 [.own 3 0 27 0 b7.length,.own 4 0 13 0 msgsCopy.length,.own 5 0 3 0 asked.length,.own 6 0 5 0 told.length]],some [m7 65 27 B3 b7],some [m7 68 13 s7 msgsCopy],some [m7 70 3 C4 asked],some [m7 51 5 z4 told]]⟩
def b6X(node:List j8)(b7:List j8)(v22:Int):Option (l9 m8 ((List j8)×Int) (List j8)):=
 (bif decide (v22<(node.length:Int)) then ((idx b7 v22).bind fun a6e=>((a8o a6e).bind fun W5=>some (l9.nxt (b7.set v22.toNat W5,m4 (v22+1))))) else some (l9.brk b7))
theorem e34(node msgsCopy asked told):LQ X0 (d2P msgsCopy asked told) (e7Y node msgsCopy asked told) (fun s=>b6X node s.1 s.2):=fun lc (b7,v22) h=>PK<|rg<|j5 0 h (fun h=>o9<|A8 h fun a6e a5P h=>B2 a5P<|H4 B3 7 a5P<|j7 b0q b37 8 h fun W5 h=>B2 a5P<|O5 65 27 B3 10 A4 W5 a5P<|H8 W5<|rg<|(lc.nx h fun hI=>om ((.own 3 0 27 0 b7.length:V)=.own 3 0 27 0 (b7.set v22.toNat W5).length) (by simp)<|sk [.is (.cell 2 0 0) (.own 3 0 27 0 (b7.set v22.toNat W5).length)] [2,3,21,22] [(1,0),(2,0),(3,0),(4,0),(5,0),(6,0)] hI)) (fun h=>(lc.bk h fun hI=>sk [] [2,3] [(1,0),(2,0),(3,0),(4,0),(5,0),(6,0)] hI))
def a2o(w:m8):Option m8:=
 ((b93 w.b7).bind fun node=>((b1Z w.d8).bind fun msgsCopy=>((c07 w.g7).bind fun asked=>((b5p w.Told).bind fun told=>((s2 (fun s:(List j8)×Int=>b6X node s.1 s.2) (node,0)).bind fun x=>x.go (fun r=>some r) fun s=>c0X msgsCopy asked told s)))))
theorem b0a{w}:OK X0 [.agg (Y0 w)] (a2o w):=
 p8 _ fun r h=>o9<|j7 c9a e7V 2 h fun node h=>j7 a5F c9Y 5 h fun msgsCopy h=>j7 c4s d60 8 h fun asked h=>j7 b89 c8J 11 h fun told h=>rg<|lp (e34 node msgsCopy asked told) h (fun _ h=>X0.rt h) (e9f msgsCopy asked told r) fun hI=>sk [] [2,3,21,22] [(2,0),(16,0),(5,0),(8,0),(11,0),(14,0)] hI
def b3m:FS (p6):=⟨132,Tryz.f132,[.ptr H0 om8],[none],[.val A4 []],fun r=>.optr 152 (b71 r),fun _=>[none],Tryz.func132⟩
def a8l(n:j8):Option p6:=
 ((a8o n).bind fun W5=>some (p6.mk W5 [] []))
theorem b3U{n}:OK b3m [.agg (B3 n)] (a8l n):=
 p8 _ fun r h=>o9<|j7 b0q b37 1 h fun W5 h=>H8 W5<|fE h
def a2V:FS (j8×(List j9)×(List o8)×p6):=⟨133,Tryz.f133,[.val A4 [],.val [some 13] [],.val [some 5] []],[some (0,.ptr H0 [])],[.ptr H0 []],fun r=>.tup [.agg (B3 r.1),l7 13 s7 r.2.1,l7 5 z4 r.2.2.1],fun r=>[some (.optr 152 (d0f r.2.2.2))],Tryz.func133⟩
def a1j(a:p6):Option (j8×(List j9)×(List o8)×p6):=
 ((a8o a.n).bind fun W5=>((b1Z a.out).bind fun msgsCopy=>((b5p a.told).bind fun told=>some (W5,msgsCopy,told,a))))
theorem a4b{a}:OK a2V [.optr 152 (d0f a)] (a1j a):=
 p8 _ fun r h=>o9<|j7 b0q b37 4 h fun W5 h=>j7 a5F c9Y 9 h fun msgsCopy h=>j7 b89 c8J 14 h fun told h=>H8 W5<|C8 msgsCopy told<|fE h
def c5S:FS (List q9):=⟨202,Tryz.f202,[.val [some 2] [some 179]],[],[],fun r=>u0 179 2 z5 r,fun _=>[],Tryz.func202⟩
def c08:Option (List q9):=
 (s5 (0<=(4:Int)/\(4:Int)*16<=140737488355328) (some (e9O (4:Int).toNat (q9.mk 0 0))))
theorem e6F:OK c5S [] c08:=
 p8 _ fun r h=>o9<|s9 h fun e1 h=>U0 0 2 179 2 16 z5 (q9.mk 0 0) b3B (.none) e1 (by decide) (by rfl)<|s8 (e9O (4:Int).toNat (q9.mk 0 0))<|fE h
def c8b:FS (u9):=⟨198,Tryz.f198,[.val [none,some 2,some 4] [none,some 179,some 203]],[],[],fun r=>.agg (b3h r),fun _=>[],Tryz.func198⟩
def b5O:Option u9:=
 ((c08).bind fun X6=>some (u9.mk 0 X6 []))
theorem e1T:OK c8b [] b5O:=
 p8 _ fun r h=>o9<|j7 c5S e6F 0 h fun X6 h=>s8 X6<|fE h
def a29:FS (Bool):=⟨169,Tryz.f169,[.val [] []],[none],[.val [some 2] []],fun r=>.b r,fun _=>[none],Tryz.func169⟩
def c41(list:List q9):Unit->KS:=fun _=>⟨a29.k 3 [false],(l7 2 z5 list::(bs 24 [])),[some []]⟩
def b8S(list:List q9):Option Bool:=
 some ((list.length:Int)==4)
theorem d6P(list)(r):NF a29 r (c41 list) (fun s=>b8S list):=fun _ h=>PK<|rg<|fE h
def d6q(list:List q9):Int->KS:=fun v7=>⟨a29.k 2 [],(l7 2 z5 list::(bs 4 (l7 2 z5 list::(vi (list.length:Int)::(vi v7::(bs 17 [])))))),[some []]⟩
def b7S(list:List q9)(v7:Int):Option (l9 Bool Int Unit):=
 (bif decide (v7<(list.length:Int)) then ((idx list v7).bind fun box=>((D3 box.j4 0 1000000).bind fun in_=>(bif (!in_) then some (l9.ret false) else ((D3 box.d9 (-1000000) 1000000).bind fun in_1=>(bif (!in_1) then some (l9.ret false) else some (l9.nxt (m4 (v7+1)))))))) else some (l9.brk ()))
theorem e1r(list):LQ a29 (c41 list) (d6q list) (fun s=>b7S list s):=fun lc v7 h=>PK<|rg<|j5 0 h (fun h=>rg<|x8 z5 0 h fun box a13 h=>rg<|j7 D1 E3 2 h fun in_ h=>j5 4 h (fun h=>rg<|fL lc h) (fun h=>j7 D1 E3 7 h fun in_1 h=>j5 9 h (fun h=>rg<|fL lc h) (fun h=>rg<|(lc.nx h fun hI=>sk [] [0,5,6,7] [] hI)))) (fun h=>(lc.bk h fun hI=>sk [] [0] [] hI))
def a8m(list:List q9):Option Bool:=
 ((s2 (fun s:Int=>b7S list s) 0).bind fun x=>x.go (fun r=>some r) fun s=>b8S list)
theorem b4h{list}:OK a29 [l7 2 z5 list] (a8m list):=
 p8 _ fun r h=>o9<|lp (e1r list) h (fun _ h=>a29.rt h) (d6P list r) fun hI=>sk [] [0,5,6,7] [] hI
def a3S:FS (Bool):=⟨203,Tryz.f203,[.val [] []],[none],[.val [none,some 2,some 4] []],fun r=>.b r,fun _=>[none],Tryz.func203⟩
def c0T(s_:u9):Unit->KS:=fun _=>⟨a3S.k 3 [false],(bs 1 (.ptr 1 0 0::(bs 64 []))),[some [],some [.var 144 [vi s_.At,l7 2 z5 s_.i0,l7 4 C0 s_.i9]]]⟩
def b9D(s_:u9):Option Bool:=
 ((D3 s_.At 0 40).bind fun in_=>(bif in_ then ((a8m s_.i0).bind fun X4=>some X4) else some false))
theorem e0i(s_)(r):NF a3S r (c0T s_) (fun s=>b9D s_):=fun _ h=>PK<|rg<|j7 D1 E3 2 h fun in_ h=>j5 3 h (fun h=>j7 a29 b4h 6 h fun X4 h=>fE h) (fun h=>fE h)
def d1p(s_:u9):Int->KS:=fun v8=>⟨a3S.k 2 [],(bs 1 (.ptr 1 0 0::(bs 4 (l7 4 C0 s_.i9::(vi (s_.i9.length:Int)::(vi v8::(bs 57 []))))))),[some [],some [.var 144 [vi s_.At,l7 2 z5 s_.i0,l7 4 C0 s_.i9]]]⟩
def e8l(s_:u9)(v8:Int):Unit->KS:=fun _=>⟨a3S.k 5 [true,false],(bs 1 (.ptr 1 0 0::(bs 4 (l7 4 C0 s_.i9::(vi (s_.i9.length:Int)::(vi v8::(bs 57 []))))))),[some [],some [.var 144 [vi s_.At,l7 2 z5 s_.i0,l7 4 C0 s_.i9]]]⟩
def c3k(v8:Int):Option (l9 Bool Int Unit):=
 some (l9.nxt (m4 (v8+1)))
theorem d8I(s_ v8)(lc:K6 a3S (c0T s_) (d1p s_)):NL lc (e8l s_ v8) (fun s=>c3k v8):=fun _ h=>PK<|rg<|(lc.nx h fun hI=>sk [] [1,6,7,8] [(1,0)] hI)
def b2M(s_:u9)(v8:Int):Option (l9 Bool Int Unit):=
 (bif decide (v8<(s_.i9.length:Int)) then ((idx s_.i9 v8).bind fun done=>(((bif decide (v8>0) then ((idx s_.i9 (m4 (v8-1))).bind fun a4q=>(bif decide (a4q.a5.d7>=done.a5.d7) then some (l8.ret (l9.ret false)) else ((a5q done.a5).bind fun a5i=>(bif (!a5i) then some (l8.ret (l9.ret false)) else ((D3 done.Code 0 2).bind fun in_1=>(bif (!in_1) then some (l8.ret (l9.ret false)) else ((D3 done.d9 (-1000000) 1000000).bind fun in_2=>(bif (!in_2) then some (l8.ret (l9.ret false)) else (bif (done.Code != 0) then (bif (done.d9 != 0) then some (l8.ret (l9.ret false)) else some (l8.brk ())) else some (l8.brk ())))))))))) else ((a5q done.a5).bind fun b1L=>(bif (!b1L) then some (l8.ret (l9.ret false)) else ((D3 done.Code 0 2).bind fun Z9=>(bif (!Z9) then some (l8.ret (l9.ret false)) else ((D3 done.d9 (-1000000) 1000000).bind fun a4o=>(bif (!a4o) then some (l8.ret (l9.ret false)) else (bif (done.Code != 0) then (bif (done.d9 != 0) then some (l8.ret (l9.ret false)) else some (l8.brk ())) else some (l8.brk ()))))))))):Option (l8 (l9 Bool Int Unit) Unit)).bind fun x=>x.go some fun j=>c3k v8)) else some (l9.brk ()))
theorem e7I(s_):LQ a3S (c0T s_) (d1p s_) (fun s=>b2M s_ s):=fun lc v8 h=>PK<|rg<|j5 0 h (fun h=>rg<|x8 C0 1 h fun done b75 h=>A0 h (d8I s_ v8 lc) fun x2 h hc2=>rg<|j5 2 h (fun h=>x8 C0 7 h fun a4q d4P h=>j5 16 h (fun h=>rg<|(B9 h hc2 fun h=>fL lc h)) (fun h=>j7 a9S b02 19 h fun a5i h=>j5 22 h (fun h=>rg<|(B9 h hc2 fun h=>fL lc h)) (fun h=>j7 D1 E3 25 h fun in_1 h=>j5 28 h (fun h=>rg<|(B9 h hc2 fun h=>fL lc h)) (fun h=>j7 D1 E3 31 h fun in_2 h=>j5 34 h (fun h=>rg<|(B9 h hc2 fun h=>fL lc h)) (fun h=>j5 38 h (fun h=>j5 43 h (fun h=>rg<|(B9 h hc2 fun h=>fL lc h)) (fun h=>(o7 h hc2 fun hI=>sk [] [1,6,7,8] [(1,0)] hI))) (fun h=>(o7 h hc2 fun hI=>sk [] [1,6,7,8] [(1,0)] hI))))))) (fun h=>j7 a9S b02 19 h fun b1L h=>j5 22 h (fun h=>rg<|(B9 h hc2 fun h=>fL lc h)) (fun h=>j7 D1 E3 25 h fun Z9 h=>j5 28 h (fun h=>rg<|(B9 h hc2 fun h=>fL lc h)) (fun h=>j7 D1 E3 31 h fun a4o h=>j5 34 h (fun h=>rg<|(B9 h hc2 fun h=>fL lc h)) (fun h=>j5 38 h (fun h=>j5 43 h (fun h=>rg<|(B9 h hc2 fun h=>fL lc h)) (fun h=>(o7 h hc2 fun hI=>sk [] [1,6,7,8] [(1,0)] hI))) (fun h=>(o7 h hc2 fun hI=>sk [] [1,6,7,8] [(1,0)] hI))))))) (fun h=>(lc.bk h fun hI=>sk [] [1] [(1,0)] hI))
def b40(s_:u9):Option Bool:=
 ((s2 (fun s:Int=>b2M s_ s) 0).bind fun x=>x.go (fun r=>some r) fun s=>b9D s_)
theorem d5e{s_}:OK a3S [.agg (a73 s_)] (b40 s_):=
 p8 _ fun r h=>o9<|lp (e7I s_) h (fun _ h=>a3S.rt h) (e0i s_ r) fun hI=>sk [] [1,6,7,8] [(1,0)] hI
def b8N:FS (List q9):=⟨204,Tryz.f204,[.val [some 2] [some 179]],[none],[.val [some 2] []],fun r=>u0 179 2 z5 r,fun _=>[none],Tryz.func204⟩
def a8z(list:List q9):Option (List q9):=
 (bif ((list.length:Int)==0) then some [] else (s5 (0<=(list.length:Int)/\(list.length:Int)*16<=140737488355328) ((s5 (list.length=(e9O (list.length:Int).toNat (q9.mk 0 0)).length) (some list)))))
theorem c8M{list}:OK b8N [l7 2 z5 list] (a8z list):=
 p8 _ fun r h=>o9<|j5 2 h (fun h=>rg<|fE h) (fun h=>rg<|s9 h fun e1 h=>U0 2 7 179 2 16 z5 (q9.mk 0 0) b3B (.none) e1 (by decide) (by rfl)<|rg<|s9 h fun e2 h=>om (s4.row 179 2 (e9O (list.length:Int).toNat (q9.mk 0 0)).length (list.map z5)=m7 179 2 z5 list) (a1R e2)<|s8 (e9O (list.length:Int).toNat (q9.mk 0 0))<|ob e2<|tl (2,{e:=some (m7 179 2 z5 list)})<|rg<|om ((e9O (list.length:Int).toNat (q9.mk 0 0)).length=list.length) (by simp)<|fE h)
def b2T:FS (List s6):=⟨205,Tryz.f205,[.val [some 4] [some 203]],[none],[.val [some 4] []],fun r=>u0 203 4 C0 r,fun _=>[none],Tryz.func205⟩
def a5M(list:List s6):Option (List s6):=
 (bif ((list.length:Int)==0) then some [] else (s5 (0<=(list.length:Int)/\(list.length:Int)*32<=140737488355328) ((s5 (list.length=(e9O (list.length:Int).toNat (s6.mk (s3.mk 0 0) 0 0)).length) (some list)))))
theorem c3b{list}:OK b2T [l7 4 C0 list] (a5M list):=
 p8 _ fun r h=>o9<|j5 2 h (fun h=>rg<|fE h) (fun h=>rg<|s9 h fun e1 h=>U0 2 7 203 4 32 C0 (s6.mk (s3.mk 0 0) 0 0) b9y (.none) e1 (by decide) (by rfl)<|rg<|s9 h fun e2 h=>om (s4.row 203 4 (e9O (list.length:Int).toNat (s6.mk (s3.mk 0 0) 0 0)).length (list.map C0)=m7 203 4 C0 list) (a1R e2)<|s8 (e9O (list.length:Int).toNat (s6.mk (s3.mk 0 0) 0 0))<|ob e2<|tl (2,{e:=some (m7 203 4 C0 list)})<|rg<|om ((e9O (list.length:Int).toNat (s6.mk (s3.mk 0 0) 0 0)).length=list.length) (by simp)<|fE h)
def a71:FS (Bool):=⟨206,Tryz.f206,[.val [] []],[none,none],[.val [some 2] [],.val M7 []],fun r=>.b r,fun _=>[none,none],Tryz.func206⟩
def d3e:Unit->KS:=fun _=>⟨a71.k 4 [false,false],(bs 32 []),[some []]⟩
def c6W:Option Bool:=
 some true
theorem d6J(r):NF a71 r d3e (fun s=>c6W):=fun _ h=>PK<|rg<|fE h
def e7Q(list:List q9)(r_:m9):Int->KS:=fun v18=>⟨a71.k 3 [false],(l7 2 z5 list::(bs 15 (l7 2 t8 r_.a9::(vi (r_.a9.length:Int)::(vi v18::(bs 13 [])))))),[some []]⟩
def b5Q(list:List q9)(r_:m9)(v18:Int):Option (l9 Bool Int Unit):=
 (bif decide (v18<(r_.a9.length:Int)) then ((idx r_.a9 v18).bind fun read=>((idx list read.i6).bind fun box=>(bif (box.j4 != read.j4) then some (l9.ret false) else some (l9.nxt (m4 (v18+1)))))) else some (l9.brk ()))
theorem d7P(list r_):LQ a71 d3e (e7Q list r_) (fun s=>b5Q list r_ s):=fun lc v18 h=>PK<|rg<|j5 0 h (fun h=>rg<|x8 t8 0 h fun read a2Y h=>rg<|x8 z5 3 h fun box a13 h=>j5 8 h (fun h=>rg<|fL lc h) (fun h=>rg<|(lc.nx h fun hI=>sk [] [0,16,17,18] [] hI))) (fun h=>(lc.bk h fun hI=>sk [] [] [] hI))
def b4S(list:List q9)(r_:m9):Option Bool:=
 ((a8m list).bind fun X4=>(bif (!X4) then some false else ((a8F r_).bind fun a0Y=>(bif (!a0Y) then some false else ((s2 (fun s:Int=>b5Q list r_ s) 0).bind fun x=>x.go (fun r=>some r) fun s=>c6W)))))
theorem e5n{list r_}:OK a71 [l7 2 z5 list,.agg (J9 r_)] (b4S list r_):=
 p8 _ fun r h=>o9<|j7 a29 b4h 1 h fun X4 h=>j5 3 h (fun h=>rg<|fE h) (fun h=>j7 Z7 b9g 5 h fun a0Y h=>j5 7 h (fun h=>rg<|fE h) (fun h=>rg<|lp (d7P list r_) h (fun _ h=>a71.rt h) (d6J r) fun hI=>sk [] [0,16,17,18] [] hI))
def a8c:FS (List q9):=⟨207,Tryz.f207,[.val [some 2] [some 179]],[none,none],[.val [some 2] [],.val M7 []],fun r=>u0 179 2 z5 r,fun _=>[none,none],Tryz.func207⟩
def d1q:(List q9)->KS:=fun out1=>⟨a8c.k 5 [false,false],(bs 5 (.own 1 0 2 0 out1.length::(bs 36 []))),[some [],some [m7 179 2 z5 out1]]⟩
def d3G(out1:List q9):Option (List q9):=
 some out1
theorem e2u(r):NF a8c r d1q (fun s=>d3G s):=fun out1 h=>PK<|rg<|s8 out1<|fE h
def e2s(r_:m9):((List q9)×Int)->KS:=fun (out,v21)=>⟨a8c.k 4 [false],(bs 5 (.own 1 0 2 0 out.length::(bs 13 (l7 2 t9 r_.b6::(vi (r_.b6.length:Int)::(vi v21::(bs 20 []))))))),[some [],some [m7 179 2 z5 out]]⟩
def b3R(r_:m9)(out:List q9)(v21:Int):Option (l9 (List q9) ((List q9)×Int) (List q9)):=
 (bif decide (v21<(r_.b6.length:Int)) then ((idx r_.b6 v21).bind fun put=>((idx out put.i6).bind fun X3=>some (l9.nxt (out.set put.i6.toNat (q9.mk (if (m4 (X3.j4+1))<1000000 then (m4 (X3.j4+1)) else 1000000) put.d9),m4 (v21+1))))) else some (l9.brk out))
theorem d6i(r_):LQ a8c d1q (e2s r_) (fun s=>b3R r_ s.1 s.2):=fun lc (out,v21) h=>PK<|rg<|j5 0 h (fun h=>rg<|x8 t9 0 h fun put hput h=>rg<|A8 h fun X3 a91 h=>B2 a91<|H4 z5 8 a91<|B2 a91<|O5 179 2 z5 15 [] (q9.mk (if (m4 (X3.j4+1))<1000000 then (m4 (X3.j4+1)) else 1000000) put.d9) a91<|rg<|(lc.nx h fun hI=>om ((.own 1 0 2 0 out.length:V)=.own 1 0 2 0 (out.set put.i6.toNat (q9.mk (if (m4 (X3.j4+1))<1000000 then (m4 (X3.j4+1)) else 1000000) put.d9)).length) (by simp)<|sk [.is (.tmp 5) (.own 1 0 2 0 (out.set put.i6.toNat (q9.mk (if (m4 (X3.j4+1))<1000000 then (m4 (X3.j4+1)) else 1000000) put.d9)).length)] [5,19,20,21] [(1,0)] hI)) (fun h=>(lc.bk h fun hI=>sk [] [5] [(1,0)] hI))
def b6a(list:List q9)(r_:m9):Option (List q9):=
 ((a8m list).bind fun X4=>(bif (!X4) then some [] else ((a8F r_).bind fun a0Y=>(bif (!a0Y) then some [] else ((a8z list).bind fun box=>((s2 (fun s:(List q9)×Int=>b3R r_ s.1 s.2) (box,0)).bind fun x=>x.go (fun r=>some r) fun s=>d3G s))))))
theorem d9L{list r_}:OK a8c [l7 2 z5 list,.agg (J9 r_)] (b6a list r_):=
 p8 _ fun r h=>o9<|j7 a29 b4h 1 h fun X4 h=>j5 3 h (fun h=>rg<|fE h) (fun h=>j7 Z7 b9g 5 h fun a0Y h=>j5 7 h (fun h=>rg<|fE h) (fun h=>rg<|j7 b8N c8M 1 h fun box h=>rg<|lp (d6i r_) h (fun _ h=>a8c.rt h) (e2u r) fun hI=>sk [] [5,19,20,21] [(12,0)] hI))
def Q3:FS (u9×Int):=⟨199,Tryz.f199,[.val [none,some 2,some 4] [none,some 179,some 203],.val [] []],[none,none],[.val [none,some 2,some 4] [],.val I1 []],fun r=>.tup [.agg (b3h r.1),vi r.2],fun _=>[none,none],Tryz.func199⟩
def c0k(s_:u9)(e_:m5)(box:List q9):Unit->KS:=fun _=>⟨Q3.k 6 [false,false,false],(bs 2 (.ptr 1 0 0::(.ptr 2 0 0::(.ptr 3 0 0::(bs 1 (.ptr 4 0 0::(bs 145 []))))))),[some [],some [.var 144 [vi s_.At,l7 2 z5 s_.i0,l7 4 C0 s_.i9]],some [.var 63 (a3T e_)],some [.var 144 [vi 0,.nil,.nil]],some [.var 144 [vi (m4 (s_.At+1)),.own 5 0 2 0 box.length,.nil]],some [m7 179 2 z5 box]]⟩
def e7B(s_:u9):(s6×List q9)->KS:=fun (own,i0)=>⟨Q3.k 9 [false,false,false,true],(bs 2 (.ptr 1 0 0::(bs 1 (.ptr 2 0 0::(bs 1 (.ptr 3 0 0::(bs 2 (.ptr 5 0 0::(bs 142 []))))))))),[some [],some [.var 144 [vi s_.At,l7 2 z5 s_.i0,l7 4 C0 s_.i9]],some [.var 144 [vi 0,.nil,.nil]],some [.var 144 [vi (m4 (s_.At+1)),.own 4 0 2 0 i0.length,.nil]],some [m7 179 2 z5 i0],some [.var 203 [vi own.a5.d7,vi own.a5.Seq,vi own.Code,vi own.d9]]]⟩
def b6e(s_:u9)(own:s6)(i0:List q9):((List s6)×Bool)->KS:=fun (dones1,put1)=>⟨Q3.k 13 [false,false,false,true,false],(bs 4 (.ptr 1 0 0::(bs 1 (.ptr 2 0 0::(bs 2 (.ptr 4 0 0::(.own 5 0 4 0 dones1.length::(.b put1::(bs 140 []))))))))),[some [],some [.var 144 [vi 0,.nil,.nil]],some [.var 144 [vi (m4 (s_.At+1)),.own 3 0 2 0 i0.length,.nil]],some [m7 179 2 z5 i0],some [.var 203 [vi own.a5.d7,vi own.a5.Seq,vi own.Code,vi own.d9]],some [m7 203 4 C0 dones1]]⟩
def e6n(s_:u9)(own:s6)(i0:List q9):(List s6)->KS:=fun a8E=>⟨Q3.k 15 [false,false,false,true,false,true],(bs 4 (.ptr 1 0 0::(bs 1 (.ptr 2 0 0::(bs 2 (.ptr 4 0 0::(.own 5 0 4 0 a8E.length::(bs 141 [])))))))),[some [],some [.var 144 [vi 0,.nil,.nil]],some [.var 144 [vi (m4 (s_.At+1)),.own 3 0 2 0 i0.length,.nil]],some [m7 179 2 z5 i0],some [.var 203 [vi own.a5.d7,vi own.a5.Seq,vi own.Code,vi own.d9]],some [m7 203 4 C0 a8E]]⟩
def b9s(s_:u9)(own:s6)(i0:List q9)(a8E:List s6):Option (u9×Int):=
 ((a5M a8E).bind fun a4q=>some ((u9.mk (m4 (s_.At+1)) i0 a4q),own.Code))
theorem e5o(s_ own i0)(r):NF Q3 r (e6n s_ own i0) (fun s=>b9s s_ own i0 s):=fun a8E h=>PK<|rg<|cbS b2T c3b 1 (fun _=>(by simp [b2T,J8,S8,N8,V.simple,vi,u0,C0,eI,U2])) (fun _=>(S6 1)) h fun a4q h=>s8 a8E<|rg<|C8 i0 a4q<|fE h
def c24(s_:u9)(own:s6)(i0:List q9)(dones1:List s6)(put1:Bool):Option (u9×Int):=
 (((bif (!put1) then (s5 ((dones1.length+1)*32<=140737488355328) (some (l8.brk (dones1++[own])))) else some (l8.brk dones1)):Option (l8 (u9×Int) (List s6))).bind fun x=>x.go some fun j=>b9s s_ own i0 j)
theorem d6s(s_ own i0)(r):NF Q3 r (b6e s_ own i0) (fun s=>c24 s_ own i0 s.1 s.2):=fun (dones1,put1) h=>PK<|A0 h (e5o s_ own i0 r) fun x1 h hc1=>rg<|j5 1 h (fun h=>rg<|tk 2 []<|s9 h fun e1 h=>E5 3 11 203 4 32 C0 dones1 own e1<|D8 own<|(o7 h hc1 fun hI=>sk [] [4,6,9,10] [(1,0),(2,0),(3,0),(4,0),(11,0)] hI)) (fun h=>(o7 h hc1 fun hI=>sk [] [4,6,9,10] [(1,0),(2,0),(3,0),(4,0),(5,0)] hI))
def b80(s_:u9)(own:s6)(i0:List q9):((List s6)×Int×Bool)->KS:=fun (dones,v109,put)=>⟨Q3.k 12 [false,false,false,true],(bs 4 (.ptr 1 0 0::(bs 1 (.ptr 2 0 0::(bs 2 (.ptr 4 0 0::(.own 5 0 4 0 dones.length::(.b put::(bs 95 (l7 4 C0 s_.i9::(vi (s_.i9.length:Int)::(vi v109::(bs 42 []))))))))))))),[some [],some [.var 144 [vi 0,.nil,.nil]],some [.var 144 [vi (m4 (s_.At+1)),.own 3 0 2 0 i0.length,.nil]],some [m7 179 2 z5 i0],some [.var 203 [vi own.a5.d7,vi own.a5.Seq,vi own.Code,vi own.d9]],some [m7 203 4 C0 dones]]⟩
def d9K(s_:u9)(own:s6)(i0:List q9)(v109:Int)(done2:s6):((List s6)×Bool)->KS:=fun (dones3,put2)=>⟨Q3.k 17 [false,false,false,true,true,true],(bs 4 (.ptr 1 0 0::(bs 1 (.ptr 2 0 0::(bs 2 (.ptr 4 0 0::(.own 5 0 4 0 dones3.length::(.b put2::(bs 1 (.ptr 6 0 0::(bs 93 (l7 4 C0 s_.i9::(vi (s_.i9.length:Int)::(vi v109::(bs 42 []))))))))))))))),[some [],some [.var 144 [vi 0,.nil,.nil]],some [.var 144 [vi (m4 (s_.At+1)),.own 3 0 2 0 i0.length,.nil]],some [m7 179 2 z5 i0],some [.var 203 [vi own.a5.d7,vi own.a5.Seq,vi own.Code,vi own.d9]],some [m7 203 4 C0 dones3],some [.var 203 [vi done2.a5.d7,vi done2.a5.Seq,vi done2.Code,vi done2.d9]]]⟩
def e1F(s_:u9)(own:s6)(i0:List q9)(v109:Int)(put2:Bool):(List s6)->KS:=fun b2x=>⟨Q3.k 19 [false,false,false,true,true,true,true],(bs 4 (.ptr 1 0 0::(bs 1 (.ptr 2 0 0::(bs 2 (.ptr 4 0 0::(.own 5 0 4 0 b2x.length::(.b put2::(bs 95 (l7 4 C0 s_.i9::(vi (s_.i9.length:Int)::(vi v109::(bs 42 []))))))))))))),[some [],some [.var 144 [vi 0,.nil,.nil]],some [.var 144 [vi (m4 (s_.At+1)),.own 3 0 2 0 i0.length,.nil]],some [m7 179 2 z5 i0],some [.var 203 [vi own.a5.d7,vi own.a5.Seq,vi own.Code,vi own.d9]],some [m7 203 4 C0 b2x]]⟩
def b9A(v109:Int)(put2:Bool)(b2x:List s6):Option (l9 (u9×Int) ((List s6)×Int×Bool) ((List s6)×Bool)):=
 some (l9.nxt (b2x,m4 (v109+1),put2))
theorem e1J(s_ own i0 v109 put2)(lc:K6 Q3 (b6e s_ own i0) (b80 s_ own i0)):NL lc (e1F s_ own i0 v109 put2) (fun s=>b9A v109 put2 s):=fun b2x h=>PK<|rg<|(lc.nx h fun hI=>sk [] [4,6,9,10,11,107,108,109] [(1,0),(2,0),(3,0),(4,0),(5,0)] hI)
def c1w(own:s6)(v109:Int)(done2:s6)(dones3:List s6)(put2:Bool):Option (l9 (u9×Int) ((List s6)×Int×Bool) ((List s6)×Bool)):=
 (((bif (done2.a5.d7 != own.a5.d7) then (s5 ((dones3.length+1)*32<=140737488355328) (some (l8.brk (dones3++[done2])))) else some (l8.brk dones3)):Option (l8 (l9 (u9×Int) ((List s6)×Int×Bool) ((List s6)×Bool)) (List s6))).bind fun x=>x.go some fun j=>b9A v109 put2 j)
theorem d6a(s_ own i0 v109 done2)(lc:K6 Q3 (b6e s_ own i0) (b80 s_ own i0)):NL lc (d9K s_ own i0 v109 done2) (fun s=>c1w own v109 done2 s.1 s.2):=fun (dones3,put2) h=>PK<|A0 h (e1J s_ own i0 v109 put2 lc) fun x2 h hc2=>rg<|j5 6 h (fun h=>rg<|tk 2 []<|s9 h fun e2 h=>E5 3 17 203 4 32 C0 dones3 done2 e2<|D8 done2<|(o7 h hc2 fun hI=>sk [] [4,6,9,10,11,107,108,109] [(1,0),(2,0),(3,0),(4,0),(17,0)] hI)) (fun h=>(o7 h hc2 fun hI=>sk [] [4,6,9,10,11,107,108,109] [(1,0),(2,0),(3,0),(4,0),(5,0)] hI))
def b2i(s_:u9)(own:s6)(dones:List s6)(v109:Int)(put:Bool):Option (l9 (u9×Int) ((List s6)×Int×Bool) ((List s6)×Bool)):=
 (bif decide (v109<(s_.i9.length:Int)) then ((idx s_.i9 v109).bind fun done2=>(((bif (!put) then (bif decide (done2.a5.d7>=own.a5.d7) then (s5 ((dones.length+1)*32<=140737488355328) (some (l8.brk (dones++[own],true)))) else some (l8.brk (dones,put))) else some (l8.brk (dones,put))):Option (l8 (l9 (u9×Int) ((List s6)×Int×Bool) ((List s6)×Bool)) ((List s6)×Bool))).bind fun x=>x.go some fun j=>c1w own v109 done2 j.1 j.2)) else some (l9.brk (dones,put)))
theorem d71(s_ own i0):LQ Q3 (b6e s_ own i0) (b80 s_ own i0) (fun s=>b2i s_ own s.1 s.2.1 s.2.2):=fun lc (dones,v109,put) h=>PK<|rg<|j5 0 h (fun h=>rg<|x8 C0 0 h fun done2 e9J h=>A0 h (d6a s_ own i0 v109 done2 lc) fun x2 h hc2=>rg<|j5 2 h (fun h=>j5 10 h (fun h=>rg<|tk 2 []<|s9 h fun e3 h=>E5 3 25 203 4 32 C0 dones own e3<|D8 own<|rg<|(o7 h hc2 fun hI=>sk [] [4,6,9,10,11,13,107,108,109] [(1,0),(2,0),(3,0),(4,0),(25,0),(9,0)] hI)) (fun h=>(o7 h hc2 fun hI=>sk [] [4,6,9,10,11,13,107,108,109] [(1,0),(2,0),(3,0),(4,0),(5,0),(9,0)] hI))) (fun h=>(o7 h hc2 fun hI=>sk [] [4,6,9,10,11,13,107,108,109] [(1,0),(2,0),(3,0),(4,0),(5,0),(9,0)] hI))) (fun h=>(lc.bk h fun hI=>sk [] [4,6,9,10,11] [(1,0),(2,0),(3,0),(4,0),(5,0)] hI))
def b64(s_:u9)(own:s6)(i0:List q9):Option (u9×Int):=
 ((s2 (fun s:(List s6)×Int×Bool=>b2i s_ own s.1 s.2.1 s.2.2) ([],0,false)).bind fun x=>x.go (fun r=>some r) fun s=>c24 s_ own i0 s.1 s.2)
theorem e6m(s_)(r):NF Q3 r (e7B s_) (fun s=>b64 s_ s.1 s.2):=fun (own,i0) h=>PK<|N4<|lp (d71 s_ own i0) h (fun _ h=>Q3.rt h) (d6s s_ own i0 r) fun hI=>sk [.own (.tmp 10) 203 4] [4,6,9,10,11,107,108,109] [(2,0),(3,0),(4,0),(5,0),(12,0)] hI
def b8c(s_:u9)(e_:m5)(box:List q9):Option (u9×Int):=
 ((((b4S s_.i0 e_.b9).bind fun a6g=>(bif (!a6g) then some (l8.brk ((s6.mk e_.a5 1 0),box)) else (bif (e_.b9.Code != 0) then some (l8.brk ((s6.mk e_.a5 2 0),box)) else ((b6a s_.i0 e_.b9).bind fun c4q=>some (l8.brk ((s6.mk e_.a5 0 e_.b9.d9),c4q)))))):Option (l8 (u9×Int) (s6×List q9))).bind fun x=>x.go some fun j=>b64 s_ j.1 j.2)
theorem e8D(s_ e_ box)(r):NF Q3 r (c0k s_ e_ box) (fun s=>b8c s_ e_ box):=fun _ h=>PK<|rg<|A0 h (e6m s_ r) fun x1 h hc1=>rg<|j7 a71 e5n 4 h fun a6g h=>j5 6 h (fun h=>rg<|(o7 h hc1 fun hI=>sk [] [2,4,6,9] [(1,0),(3,0),(4,0),(5,0),(9,0)] hI)) (fun h=>rg<|j5 4 h (fun h=>rg<|(o7 h hc1 fun hI=>sk [] [2,4,6,9] [(1,0),(3,0),(4,0),(5,0),(9,0)] hI)) (fun h=>o9<|j7 a8c d9L 4 h fun c4q h=>(o7 h hc1 fun hI=>sk [] [2,4,6,9] [(1,0),(3,0),(4,0),(32,0),(9,0)] hI)))
def c32(s_:u9)(e_:m5)(box:List q9):Int->KS:=fun v45=>⟨Q3.k 5 [false,false],(bs 2 (.ptr 1 0 0::(.ptr 2 0 0::(.ptr 3 0 0::(bs 1 (.ptr 4 0 0::(bs 36 (l7 4 C0 s_.i9::(vi (s_.i9.length:Int)::(vi v45::(bs 106 []))))))))))),[some [],some [.var 144 [vi s_.At,l7 2 z5 s_.i0,l7 4 C0 s_.i9]],some [.var 63 (a3T e_)],some [.var 144 [vi 0,.nil,.nil]],some [.var 144 [vi (m4 (s_.At+1)),.own 5 0 2 0 box.length,.nil]],some [m7 179 2 z5 box]]⟩
def d6n(s_:u9)(e_:m5)(box:List q9)(v45:Int):Unit->KS:=fun _=>⟨Q3.k 8 [false,false,true,false],(bs 2 (.ptr 1 0 0::(.ptr 2 0 0::(.ptr 3 0 0::(bs 1 (.ptr 4 0 0::(bs 36 (l7 4 C0 s_.i9::(vi (s_.i9.length:Int)::(vi v45::(bs 106 []))))))))))),[some [],some [.var 144 [vi s_.At,l7 2 z5 s_.i0,l7 4 C0 s_.i9]],some [.var 63 (a3T e_)],some [.var 144 [vi 0,.nil,.nil]],some [.var 144 [vi (m4 (s_.At+1)),.own 5 0 2 0 box.length,.nil]],some [m7 179 2 z5 box]]⟩
def c1R(v45:Int):Option (l9 (u9×Int) Int Unit):=
 some (l9.nxt (m4 (v45+1)))
theorem e8Y(s_ e_ box v45)(lc:K6 Q3 (c0k s_ e_ box) (c32 s_ e_ box)):NL lc (d6n s_ e_ box v45) (fun s=>c1R v45):=fun _ h=>PK<|rg<|(lc.nx h fun hI=>sk [] [2,3,4,6,43,44,45] [(1,0),(2,0),(3,0),(4,0),(5,0)] hI)
def b5I(s_:u9)(e_:m5)(box:List q9)(v45:Int):Option (l9 (u9×Int) Int Unit):=
 (bif decide (v45<(s_.i9.length:Int)) then ((idx s_.i9 v45).bind fun b8f=>(((bif (b8f.a5.d7==e_.a5.d7) then (bif decide (b8f.a5.Seq>=e_.a5.Seq) then ((a5M s_.i9).bind fun b1A=>(bif (b8f.a5.Seq==e_.a5.Seq) then some (l8.ret (l9.ret ((u9.mk (m4 (s_.At+1)) box b1A),3))) else some (l8.ret (l9.ret ((u9.mk (m4 (s_.At+1)) box b1A),4))))) else some (l8.brk ())) else some (l8.brk ())):Option (l8 (l9 (u9×Int) Int Unit) Unit)).bind fun x=>x.go some fun j=>c1R v45)) else some (l9.brk ()))
theorem d58(s_ e_ box):LQ Q3 (c0k s_ e_ box) (c32 s_ e_ box) (fun s=>b5I s_ e_ box s):=fun lc v45 h=>PK<|rg<|j5 0 h (fun h=>rg<|x8 C0 0 h fun b8f e9H h=>A0 h (e8Y s_ e_ box v45 lc) fun x2 h hc2=>rg<|j5 7 h (fun h=>j5 15 h (fun h=>rg<|j7 b2T c3b 2 h fun b1A h=>rg<|j5 6 h (fun h=>rg<|(B9 h hc2 fun h=>C8 box b1A<|fL lc h)) (fun h=>rg<|(B9 h hc2 fun h=>C8 box b1A<|fL lc h))) (fun h=>(o7 h hc2 fun hI=>sk [] [2,3,4,6,43,44,45] [(1,0),(2,0),(3,0),(4,0),(5,0)] hI))) (fun h=>(o7 h hc2 fun hI=>sk [] [2,3,4,6,43,44,45] [(1,0),(2,0),(3,0),(4,0),(5,0)] hI))) (fun h=>(lc.bk h fun hI=>sk [] [2,3,4,6] [(1,0),(2,0),(3,0),(4,0),(5,0)] hI))
def b47(s_:u9)(e_:m5):Option (u9×Int):=
 ((b40 s_).bind fun c6T=>(bif (!c6T) then some ((u9.mk 0 [] []),(-1)) else ((a00 e_).bind fun D9=>(bif (!D9) then some ((u9.mk 0 [] []),(-1)) else (bif (s_.At==40) then some ((u9.mk 0 [] []),(-1)) else ((a8z s_.i0).bind fun box=>(bif e_.i8 then ((a5M s_.i9).bind fun done=>some ((u9.mk (m4 (s_.At+1)) box done),5)) else ((s2 (fun s:Int=>b5I s_ e_ box s) 0).bind fun x=>x.go (fun r=>some r) fun s=>b8c s_ e_ box))))))))
theorem d9g{s_ e_}:OK Q3 [.agg (a73 s_),.agg (t5 e_)] (b47 s_ e_):=
 p8 _ fun r h=>o9<|j7 a3S d5e 1 h fun c6T h=>j5 3 h (fun h=>rg<|fE h) (fun h=>j7 a2L a3m 5 h fun D9 h=>j5 8 h (fun h=>rg<|fE h) (fun h=>j5 12 h (fun h=>rg<|fE h) (fun h=>rg<|j7 b8N c8M 5 h fun box h=>rg<|j5 1 h (fun h=>rg<|j7 b2T c3b 2 h fun done h=>rg<|C8 box done<|fE h) (fun h=>rg<|lp (d58 s_ e_ box) h (fun _ h=>Q3.rt h) (e8D s_ e_ box r) fun hI=>sk [] [2,3,4,6,43,44,45] [(1,0),(2,0),(3,0),(25,0),(23,0)] hI))))
def a3U:FS (u9×List Int):=⟨190,Tryz.f190,[.val [none,some 2,some 4] [none,some 179,some 203],.val [some 1] [some 3]],[none],[.val [some 7] []],fun r=>.tup [.agg (b3h r.1),u0 3 1 eI r.2],fun _=>[none],Tryz.func190⟩
def c7j:((List q9)×(List s6)×(List Int)×Int)->KS:=fun (Boxes1,Dones1,codes1,sAt1)=>⟨a3U.k 5 [false],(bs 2 (.ptr 1 0 0::(bs 1 (.ptr 2 0 0::(.own 5 0 1 0 codes1.length::(bs 25 [])))))),[some [],some [.var 144 [vi 0,.nil,.nil]],some [.var 144 [vi sAt1,.own 3 0 2 0 Boxes1.length,.own 4 0 4 0 Dones1.length]],some [m7 179 2 z5 Boxes1],some [m7 203 4 C0 Dones1],some [m7 3 1 eI codes1]]⟩
def c8I(Boxes1:List q9)(Dones1:List s6)(codes1:List Int)(sAt1:Int):Option (u9×List Int):=
 some ((u9.mk sAt1 Boxes1 Dones1),codes1)
theorem d9D(r):NF a3U r c7j (fun s=>c8I s.1 s.2.1 s.2.2.1 s.2.2.2):=fun (Boxes1,Dones1,codes1,sAt1) h=>PK<|rg<|L6 Boxes1 Dones1 codes1<|fE h
def d6t(list:List m5):((List q9)×(List s6)×(List Int)×Int×Int)->KS:=fun (i0,i9,codes,v13,sAt)=>⟨a3U.k 4 [],(bs 2 (.ptr 1 0 0::(bs 1 (.ptr 2 0 0::(.own 5 0 1 0 codes.length::(bs 5 (l7 7 t5 list::(vi (list.length:Int)::(vi v13::(bs 17 [])))))))))),[some [],some [.var 144 [vi 0,.nil,.nil]],some [.var 144 [vi sAt,.own 3 0 2 0 i0.length,.own 4 0 4 0 i9.length]],some [m7 179 2 z5 i0],some [m7 203 4 C0 i9],some [m7 3 1 eI codes]]⟩
def a0K(list:List m5)(i0:List q9)(i9:List s6)(codes:List Int)(v13:Int)(sAt:Int):Option (l9 (u9×List Int) ((List q9)×(List s6)×(List Int)×Int×Int) ((List q9)×(List s6)×(List Int)×Int)):=
 (bif decide (v13<(list.length:Int)) then ((idx list v13).bind fun entry=>((b47 (u9.mk sAt i0 i9) entry).bind fun a68=>(s5 ((codes.length+1)*8<=140737488355328) (some (l9.nxt (a68.1.i0,a68.1.i9,codes++[a68.2],m4 (v13+1),a68.1.At)))))) else some (l9.brk (i0,i9,codes,sAt)))
theorem e2E(list):LQ a3U c7j (d6t list) (fun s=>a0K list s.1 s.2.1 s.2.2.1 s.2.2.2.1 s.2.2.2.2):=fun lc (i0,i9,codes,v13,sAt) h=>PK<|rg<|j5 0 h (fun h=>rg<|x8 t5 0 h fun entry H1 h=>rg<|cbS Q3 d9g 2 (fun _=>(by simp [Q3,J8,S8,N8,V.simple,vi,u0,b3h,z5,C0,eI,U2,a73])) (fun _=>(S6 2)) h fun a68 h=>C8 i0 i9<|o9<|tk 2 []<|s9 h fun e1 h=>E5 3 25 3 1 8 eI codes a68.2 e1<|D8 a68.2<|rg<|(lc.nx h fun hI=>sk [] [2,4,5,11,12,13] [(1,0),(2,0),(13,0),(13,1),(25,0)] hI)) (fun h=>(lc.bk h fun hI=>sk [] [2,4,5] [(1,0),(2,0),(3,0),(4,0),(5,0)] hI))
def b14(list:List m5):Option (u9×List Int):=
 ((b5O).bind fun a0W=>((s2 (fun s:(List q9)×(List s6)×(List Int)×Int×Int=>a0K list s.1 s.2.1 s.2.2.1 s.2.2.2.1 s.2.2.2.2) (a0W.i0,a0W.i9,[],0,a0W.At)).bind fun x=>x.go (fun r=>some r) fun s=>c8I s.1 s.2.1 s.2.2.1 s.2.2.2))
theorem c8C{list}:OK a3U [l7 7 t5 list] (b14 list):=
 p8 _ fun r h=>o9<|j7 c8b e1T 0 h fun a0W h=>o9<|lp (e2E list) h (fun _ h=>a3U.rt h) (d9D r) fun hI=>sk [.own (.tmp 5) 3 1] [2,4,5,11,12,13] [(1,0),(4,0),(3,0),(3,1),(10,0)] hI
def c6d:FS (u9):=⟨172,Tryz.f172,[.val [none,some 2,some 4] [none,some 179,none]],[none],[.val [some 7] []],fun r=>.agg (b08 r),fun _=>[none],Tryz.func172⟩
def b5U(list:List m5):Option u9:=
 ((b3q list).bind fun M6=>(bif (!M6) then some (u9.mk 0 [] []) else ((b14 list).bind fun A2=>some A2.1)))
theorem e3D{list}:OK c6d [l7 7 t5 list] (b5U list):=
 p8 _ fun r h=>o9<|j7 a43 d1D 1 h fun M6 h=>j5 2 h (fun h=>rg<|fE h) (fun h=>rg<|j7 a3U c8C 1 h fun A2 h=>rg<|C8 A2.1.i0 A2.1.i9<|fE h)
def d0b:FS (u9):=⟨135,Tryz.f135,[.val [none,some 2,some 4] []],[none],[.val A4 []],fun r=>.agg (a73 r),fun _=>[none],Tryz.func135⟩
def b6C(n:j8):Option u9:=
 ((a3F n).bind fun D2=>(bif (!D2) then some (u9.mk 0 [] []) else ((b5U n.a7).bind fun a6T=>some a6T)))
theorem e6s{n}:OK d0b [.agg (B3 n)] (b6C n):=
 p8 _ fun r h=>o9<|j7 a0A a6w 1 h fun D2 h=>j5 2 h (fun h=>rg<|fE h) (fun h=>rg<|j7 c6d e3D 2 h fun a6T h=>s8 a6T.i0<|fE h)
def a51:FS (Int):=⟨170,Tryz.f170,[.val [] []],[none,none],[.val M7 [],.val [] []],fun r=>vi r,fun _=>[none,none],Tryz.func170⟩
def c3Z:Unit->KS:=fun _=>⟨a51.k 3 [false],(bs 21 []),[some []]⟩
def d1a:Option Int:=
 some (-1)
theorem e1A(r):NF a51 r c3Z (fun s=>d1a):=fun _ h=>PK<|rg<|fE h
def e49(r_:m9)(box:Int):Int->KS:=fun v10=>⟨a51.k 2 [],(bs 1 (vi box::(bs 6 (l7 2 t9 r_.b6::(vi (r_.b6.length:Int)::(vi v10::(bs 10 []))))))),[some []]⟩
def b3w(r_:m9)(box:Int)(v10:Int):Option (l9 Int Int Unit):=
 (bif decide (v10<(r_.b6.length:Int)) then ((idx r_.b6 v10).bind fun put=>(bif (put.i6==box) then some (l9.ret v10) else some (l9.nxt (m4 (v10+1))))) else some (l9.brk ()))
theorem e8F(r_ box):LQ a51 c3Z (e49 r_ box) (fun s=>b3w r_ box s):=fun lc v10 h=>PK<|rg<|j5 0 h (fun h=>rg<|x8 t9 1 h fun put hput h=>rg<|j5 3 h (fun h=>rg<|fL lc h) (fun h=>rg<|(lc.nx h fun hI=>sk [] [1,8,9,10] [] hI))) (fun h=>(lc.bk h fun hI=>sk [] [] [] hI))
def b1a(r_:m9)(box:Int):Option Int:=
 ((s2 (fun s:Int=>b3w r_ box s) 0).bind fun x=>x.go (fun r=>some r) fun s=>d1a)
theorem c40{r_ box}:OK a51 [.agg (J9 r_),vi box] (b1a r_ box):=
 p8 _ fun r h=>o9<|lp (e8F r_ box) h (fun _ h=>a51.rt h) (e1A r) fun hI=>sk [] [1,8,9,10] [] hI
def a69:FS (Int):=⟨171,Tryz.f171,[.val [] []],[none,none],[.val M7 [],.val [] []],fun r=>vi r,fun _=>[none,none],Tryz.func171⟩
def c8E:Unit->KS:=fun _=>⟨a69.k 3 [false],(bs 21 []),[some []]⟩
def c9L:Option Int:=
 some (-1)
theorem e5v(r):NF a69 r c8E (fun s=>c9L):=fun _ h=>PK<|rg<|fE h
def e1M(r_:m9)(box:Int):Int->KS:=fun v10=>⟨a69.k 2 [],(bs 1 (vi box::(bs 6 (l7 2 t8 r_.a9::(vi (r_.a9.length:Int)::(vi v10::(bs 10 []))))))),[some []]⟩
def b2A(r_:m9)(box:Int)(v10:Int):Option (l9 Int Int Unit):=
 (bif decide (v10<(r_.a9.length:Int)) then ((idx r_.a9 v10).bind fun read=>(bif (read.i6==box) then some (l9.ret v10) else some (l9.nxt (m4 (v10+1))))) else some (l9.brk ()))
theorem d8M(r_ box):LQ a69 c8E (e1M r_ box) (fun s=>b2A r_ box s):=fun lc v10 h=>PK<|rg<|j5 0 h (fun h=>rg<|x8 t8 1 h fun read a2Y h=>rg<|j5 3 h (fun h=>rg<|fL lc h) (fun h=>rg<|(lc.nx h fun hI=>sk [] [1,8,9,10] [] hI))) (fun h=>(lc.bk h fun hI=>sk [] [] [] hI))
def b1D(r_:m9)(box:Int):Option Int:=
 ((s2 (fun s:Int=>b2A r_ box s) 0).bind fun x=>x.go (fun r=>some r) fun s=>c9L)
theorem e86{r_ box}:OK a69 [.agg (J9 r_),vi box] (b1D r_ box):=
 p8 _ fun r h=>o9<|lp (d8M r_ box) h (fun _ h=>a69.rt h) (e5v r) fun hI=>sk [] [1,8,9,10] [] hI
def P5:FS (m9):=⟨134,Tryz.f134,[.val M7 []],[none,none],[.val [some 2] [],.val [some 4] []],fun r=>.agg (J9 r),fun _=>[none,none],Tryz.func134⟩
def a6x:((List s1)×(List p9)×(List Int)×(List s1)×List p9)->KS:=fun (Reads2,Puts2,regs1,Reads3,Puts3)=>⟨P5.k 6 [false,false],(bs 4 (.ptr 1 0 0::(.ptr 4 0 0::(.ptr 5 0 0::(bs 175 []))))),[some [],some [.var 61 [.own 2 0 2 0 Reads2.length,.own 3 0 2 0 Puts2.length,vi 0,vi 0]],some [m7 159 2 t8 Reads2],some [m7 162 2 t9 Puts2],some [.arr 176 1 4 (regs1.map eI)],some [.var 61 [.own 6 0 2 0 Reads3.length,.own 7 0 2 0 Puts3.length,vi 0,vi 0]],some [m7 159 2 t8 Reads3],some [m7 162 2 t9 Puts3]]⟩
def b1e(Reads2:List s1)(Puts2:List p9)(regs1:List Int)(Reads3:List s1)(Puts3:List p9):Option m9:=
 ((a18 Reads3).bind fun read=>((a7L Puts3).bind fun put=>((idx regs1 0).bind fun y=>(s5 ((0:Int)<4) (some (m9.mk read put y 0))))))
theorem e07(r):NF P5 r a6x (fun s=>b1e s.1 s.2.1 s.2.2.1 s.2.2.2.1 s.2.2.2.2):=fun (Reads2,Puts2,regs1,Reads3,Puts3) h=>PK<|rg<|cbS a1N b0e 2 (fun _=>(by simp [a1N,J8,S8,N8,V.simple,vi,u0,eI,t8])) (fun _=>(S6 1)) h fun read h=>s8 Reads3<|cbS b5H c5q 5 (fun _=>(by simp [b5H,J8,S8,N8,V.simple,vi,u0,eI,t9])) (fun _=>(S6 1)) h fun put h=>s8 Puts3<|A8 h fun y hy h=>s9 h fun e1 h=>ob (N3 hy)<|ob e1<|ob (T2 (enc:=eI) hy)<|tl (tr 7 (eI y))<|C8 read put<|fE h
def a9L(list:List q9)(prog:List r9):((List Int)×(List s1)×(List p9)×(List s1)×(List p9)×Int)->KS:=fun (regs,a9,b6,Reads1,Puts1,at_)=>⟨P5.k 5 [false],(l7 2 z5 list::(l7 4 z8 prog::(bs 2 (.ptr 1 0 0::(.ptr 2 0 0::(.ptr 3 0 0::(vi at_::(bs 174 [])))))))),[some [],some [.var 61 [.own 4 0 2 0 a9.length,.own 5 0 2 0 b6.length,vi 0,vi 0]],some [.arr 176 1 4 (regs.map eI)],some [.var 61 [.own 6 0 2 0 Reads1.length,.own 7 0 2 0 Puts1.length,vi 0,vi 0]],some [m7 159 2 t8 a9],some [m7 162 2 t9 b6],some [m7 159 2 t8 Reads1],some [m7 162 2 t9 Puts1]]⟩
def d3A(list:List q9)(prog:List r9)(regs:List Int)(a9:List s1)(b6:List p9)(Reads1:List s1)(Puts1:List p9)(at_:Int)(ins:r9)(put1:p9):Unit->KS:=fun _=>⟨P5.k 14 [false,true,true,true,false],(l7 2 z5 list::(l7 4 z8 prog::(bs 2 (.ptr 1 0 0::(.ptr 4 0 0::(.ptr 5 0 0::(vi at_::(bs 174 [])))))))),[some [],some [.var 61 [.own 2 0 2 0 a9.length,.own 3 0 2 0 b6.length,vi 0,vi 0]],some [m7 159 2 t8 a9],some [m7 162 2 t9 b6],some [.arr 176 1 4 ((regs.set ins.A.toNat put1.d9).map eI)],some [.var 61 [.own 6 0 2 0 Reads1.length,.own 7 0 2 0 Puts1.length,vi 0,vi 0]],some [m7 159 2 t8 Reads1],some [m7 162 2 t9 Puts1]]⟩
def b9O(regs:List Int)(a9:List s1)(b6:List p9)(Reads1:List s1)(Puts1:List p9)(at_:Int)(ins:r9)(put1:p9):Option (l9 m9 ((List Int)×(List s1)×(List p9)×(List s1)×(List p9)×Int) ((List s1)×(List p9)×(List Int)×(List s1)×List p9)):=
 some (l9.nxt (regs.set ins.A.toNat put1.d9,a9,b6,Reads1,Puts1,m4 (at_+1)))
theorem d37(list prog regs a9 b6 Reads1 Puts1 at_ ins put1)(lc:K6 P5 a6x (a9L list prog)):NL lc (d3A list prog regs a9 b6 Reads1 Puts1 at_ ins put1) (fun s=>b9O regs a9 b6 Reads1 Puts1 at_ ins put1):=fun _ h=>PK<|rg<|(lc.nx h fun hI=>sk [] [0,1,4,5,6,7] [(1,0),(4,0),(5,0),(2,0),(3,0),(6,0),(7,0)] hI)
def d5S(list:List q9)(prog:List r9)(regs:List Int)(a9:List s1)(b6:List p9)(Reads1:List s1)(Puts1:List p9)(at_:Int)(ins:r9)(put1:p9):Int->KS:=fun a4Z=>⟨P5.k 13 [false,true,true,true],(l7 2 z5 list::(l7 4 z8 prog::(bs 2 (.ptr 1 0 0::(.ptr 4 0 0::(.ptr 5 0 0::(vi at_::(bs 153 (.agg ((regs.set ins.A.toNat put1.d9).map eI).flatten::(vi a4Z::(bs 19 []))))))))))),[some [],some [.var 61 [.own 2 0 2 0 a9.length,.own 3 0 2 0 b6.length,vi 0,vi 0]],some [m7 159 2 t8 a9],some [m7 162 2 t9 b6],some [.arr 176 1 4 ((regs.set ins.A.toNat put1.d9).map eI)],some [.var 61 [.own 6 0 2 0 Reads1.length,.own 7 0 2 0 Puts1.length,vi 0,vi 0]],some [m7 159 2 t8 Reads1],some [m7 162 2 t9 Puts1]]⟩
def b1c(regs:List Int)(Reads1:List s1)(ins:r9)(put1:p9)(a4Z:Int):Option (l9 m9 Int Unit):=
 (bif decide (a4Z<4) then ((idx (regs.set ins.A.toNat put1.d9) a4Z).bind fun y2=>(s5 (a4Z<4) (((D3 y2 (-1000000) 1000000).bind fun in_=>(bif (!in_) then ((a18 Reads1).bind fun R7=>some (l9.ret (m9.mk R7 [] 0 2))) else some (l9.nxt (m4 (a4Z+1)))))))) else some (l9.brk ()))
theorem d6D(list prog regs a9 b6 Reads1 Puts1 at_ ins put1):LQ P5 (d3A list prog regs a9 b6 Reads1 Puts1 at_ ins put1) (d5S list prog regs a9 b6 Reads1 Puts1 at_ ins put1) (fun s=>b1c regs Reads1 ins put1 s):=fun lc a4Z h=>PK<|rg<|j5 0 h (fun h=>rg<|A8 h fun y2 hy2 h=>s9 h fun e3 h=>ob (N3 hy2)<|ob e3<|om (((regs.set ins.A.toNat put1.d9).map eI).flatten[a4Z.toNat]?=some (vi y2)) (b9m (fun _=>rfl) hy2)<|tl (0,{a:=.val (vi y2)})<|rg<|j7 D1 E3 1 h fun in_ h=>j5 2 h (fun h=>rg<|cbS a1N b0e 2 (fun _=>(by simp [a1N,J8,S8,N8,V.simple,vi,u0,eI,t8])) (fun _=>(S6 1)) h fun R7 h=>C8 Reads1 R7<|fL lc h) (fun h=>rg<|(lc.nx h fun hI=>om (V.agg (((regs.set ins.A.toNat put1.d9).map eI).flatten.map (U7 [(1,0),(2,0),(3,0),(4,0),(5,0),(6,0),(7,0)]))=.agg ((regs.set ins.A.toNat put1.d9).map eI).flatten) (congrArg V.agg (a7Y (fun _=>rfl) _))<|skT [] [0,1,4,5,6,7,161,162] [(1,0),(2,0),(3,0),(4,0),(5,0),(6,0),(7,0)] [(161,.agg ((regs.set ins.A.toNat put1.d9).map eI).flatten)] hI))) (fun h=>(lc.bk h fun hI=>sk [] [0,1,4,5,6,7] [(1,0),(2,0),(3,0),(4,0),(5,0),(6,0),(7,0)] hI))
def d4d(list:List q9)(prog:List r9)(regs:List Int)(a9:List s1)(b6:List p9)(Puts1:List p9)(at_:Int)(ins:r9):(List s1)->KS:=fun Reads4=>⟨P5.k 13 [false,true,true,false,true],(l7 2 z5 list::(l7 4 z8 prog::(bs 2 (.ptr 1 0 0::(.ptr 4 0 0::(.ptr 5 0 0::(vi at_::(.ptr 8 0 0::(bs 173 []))))))))),[some [],some [.var 61 [.own 2 0 2 0 a9.length,.own 3 0 2 0 b6.length,vi 0,vi 0]],some [m7 159 2 t8 a9],some [m7 162 2 t9 b6],some [.arr 176 1 4 (regs.map eI)],some [.var 61 [.own 6 0 2 0 Reads4.length,.own 7 0 2 0 Puts1.length,vi 0,vi 0]],some [m7 159 2 t8 Reads4],some [m7 162 2 t9 Puts1],some [.var 92 [vi ins.a6,vi ins.A,vi ins.B,vi ins.N]]]⟩
def c68(list:List q9)(prog:List r9)(regs:List Int)(a9:List s1)(b6:List p9)(Puts1:List p9)(at_:Int)(ins:r9)(Reads4:List s1)(box:q9):Unit->KS:=fun _=>⟨P5.k 16 [false,true,true,false,true,false],(l7 2 z5 list::(l7 4 z8 prog::(bs 2 (.ptr 1 0 0::(.ptr 4 0 0::(.ptr 5 0 0::(vi at_::(bs 174 [])))))))),[some [],some [.var 61 [.own 2 0 2 0 a9.length,.own 3 0 2 0 b6.length,vi 0,vi 0]],some [m7 159 2 t8 a9],some [m7 162 2 t9 b6],some [.arr 176 1 4 ((regs.set ins.A.toNat box.d9).map eI)],some [.var 61 [.own 6 0 2 0 Reads4.length,.own 7 0 2 0 Puts1.length,vi 0,vi 0]],some [m7 159 2 t8 Reads4],some [m7 162 2 t9 Puts1]]⟩
def b4L(regs:List Int)(a9:List s1)(b6:List p9)(Puts1:List p9)(at_:Int)(ins:r9)(Reads4:List s1)(box:q9):Option (l9 m9 ((List Int)×(List s1)×(List p9)×(List s1)×(List p9)×Int) ((List s1)×(List p9)×(List Int)×(List s1)×List p9)):=
 some (l9.nxt (regs.set ins.A.toNat box.d9,a9,b6,Reads4,Puts1,m4 (at_+1)))
theorem e4H(list prog regs a9 b6 Puts1 at_ ins Reads4 box)(lc:K6 P5 a6x (a9L list prog)):NL lc (c68 list prog regs a9 b6 Puts1 at_ ins Reads4 box) (fun s=>b4L regs a9 b6 Puts1 at_ ins Reads4 box):=fun _ h=>PK<|rg<|(lc.nx h fun hI=>sk [] [0,1,4,5,6,7] [(1,0),(4,0),(5,0),(2,0),(3,0),(6,0),(7,0)] hI)
def e3R(list:List q9)(prog:List r9)(regs:List Int)(a9:List s1)(b6:List p9)(Puts1:List p9)(at_:Int)(ins:r9)(Reads4:List s1)(box:q9):Int->KS:=fun a5D=>⟨P5.k 15 [false,true,true,false,true],(l7 2 z5 list::(l7 4 z8 prog::(bs 2 (.ptr 1 0 0::(.ptr 4 0 0::(.ptr 5 0 0::(vi at_::(bs 153 (.agg ((regs.set ins.A.toNat box.d9).map eI).flatten::(vi a5D::(bs 19 []))))))))))),[some [],some [.var 61 [.own 2 0 2 0 a9.length,.own 3 0 2 0 b6.length,vi 0,vi 0]],some [m7 159 2 t8 a9],some [m7 162 2 t9 b6],some [.arr 176 1 4 ((regs.set ins.A.toNat box.d9).map eI)],some [.var 61 [.own 6 0 2 0 Reads4.length,.own 7 0 2 0 Puts1.length,vi 0,vi 0]],some [m7 159 2 t8 Reads4],some [m7 162 2 t9 Puts1]]⟩
def b2S(regs:List Int)(ins:r9)(Reads4:List s1)(box:q9)(a5D:Int):Option (l9 m9 Int Unit):=
 (bif decide (a5D<4) then ((idx (regs.set ins.A.toNat box.d9) a5D).bind fun y4=>(s5 (a5D<4) (((D3 y4 (-1000000) 1000000).bind fun in_1=>(bif (!in_1) then ((a18 Reads4).bind fun c3p=>some (l9.ret (m9.mk c3p [] 0 2))) else some (l9.nxt (m4 (a5D+1)))))))) else some (l9.brk ()))
theorem e7E(list prog regs a9 b6 Puts1 at_ ins Reads4 box):LQ P5 (c68 list prog regs a9 b6 Puts1 at_ ins Reads4 box) (e3R list prog regs a9 b6 Puts1 at_ ins Reads4 box) (fun s=>b2S regs ins Reads4 box s):=fun lc a5D h=>PK<|rg<|j5 0 h (fun h=>rg<|A8 h fun y4 hy4 h=>s9 h fun e5 h=>ob (N3 hy4)<|ob e5<|om (((regs.set ins.A.toNat box.d9).map eI).flatten[a5D.toNat]?=some (vi y4)) (b9m (fun _=>rfl) hy4)<|tl (0,{a:=.val (vi y4)})<|rg<|j7 D1 E3 1 h fun in_1 h=>j5 2 h (fun h=>rg<|cbS a1N b0e 2 (fun _=>(by simp [a1N,J8,S8,N8,V.simple,vi,u0,eI,t8])) (fun _=>(S6 1)) h fun c3p h=>C8 Reads4 c3p<|fL lc h) (fun h=>rg<|(lc.nx h fun hI=>om (V.agg (((regs.set ins.A.toNat box.d9).map eI).flatten.map (U7 [(1,0),(2,0),(3,0),(4,0),(5,0),(6,0),(7,0)]))=.agg ((regs.set ins.A.toNat box.d9).map eI).flatten) (congrArg V.agg (a7Y (fun _=>rfl) _))<|skT [] [0,1,4,5,6,7,161,162] [(1,0),(2,0),(3,0),(4,0),(5,0),(6,0),(7,0)] [(161,.agg ((regs.set ins.A.toNat box.d9).map eI).flatten)] hI))) (fun h=>(lc.bk h fun hI=>sk [] [0,1,4,5,6,7] [(1,0),(2,0),(3,0),(4,0),(5,0),(6,0),(7,0)] hI))
def b8B(list:List q9)(regs:List Int)(a9:List s1)(b6:List p9)(Puts1:List p9)(at_:Int)(ins:r9)(Reads4:List s1):Option (l9 m9 ((List Int)×(List s1)×(List p9)×(List s1)×(List p9)×Int) ((List s1)×(List p9)×(List Int)×(List s1)×List p9)):=
 ((idx list ins.B).bind fun box=>((idx regs ins.A).bind fun y3=>(s5 (ins.A<4) (((s2 (fun s:Int=>b2S regs ins Reads4 box s) 0).bind fun x=>x.go (fun r=>some (l9.ret r)) fun s=>b4L regs a9 b6 Puts1 at_ ins Reads4 box)))))
theorem d5X(list prog regs a9 b6 Puts1 at_ ins)(lc:K6 P5 a6x (a9L list prog)):NL lc (d4d list prog regs a9 b6 Puts1 at_ ins) (fun s=>b8B list regs a9 b6 Puts1 at_ ins s):=fun Reads4 h=>PK<|rg<|x8 z5 5 h fun box a13 h=>A8 h fun y3 hy3 h=>s9 h fun e4 h=>ob (N3 hy3)<|ob e4<|om (s4.arr 176 1 4 ((regs.map eI).set (ins.A.toNat) [vi box.d9])=s4.arr 176 1 4 ((regs.set ins.A.toNat box.d9).map eI)) (a8f rfl)<|ob (T2 (enc:=eI) hy3)<|tl (9,{a:=.rowck (eI y3) [],e:=some (.arr 176 1 4 ((regs.set ins.A.toNat box.d9).map eI))})<|rg<|om (4*1=4) rfl<|lp (e7E list prog regs a9 b6 Puts1 at_ ins Reads4 box) h (fun _ h=>lc.rt h) (e4H list prog regs a9 b6 Puts1 at_ ins Reads4 box lc) fun hI=>om (V.agg (((regs.set ins.A.toNat box.d9).map eI).flatten.map (U7 [(1,0),(2,0),(3,0),(4,0),(5,0),(6,0),(7,0)]))=.agg ((regs.set ins.A.toNat box.d9).map eI).flatten) (congrArg V.agg (a7Y (fun _=>rfl) _))<|skT [] [0,1,4,5,6,7,161,162] [(1,0),(2,0),(3,0),(4,0),(5,0),(6,0),(7,0)] [(161,.agg ((regs.set ins.A.toNat box.d9).map eI).flatten)] hI
def d7V(list:List q9)(prog:List r9)(a9:List s1)(b6:List p9)(Reads1:List s1):((List Int)×(List p9)×Int)->KS:=fun (regs2,Puts4,at_1)=>⟨P5.k 13 [false,true,false,true,true],(l7 2 z5 list::(l7 4 z8 prog::(bs 2 (.ptr 1 0 0::(.ptr 4 0 0::(.ptr 5 0 0::(vi at_1::(bs 174 [])))))))),[some [],some [.var 61 [.own 2 0 2 0 a9.length,.own 3 0 2 0 b6.length,vi 0,vi 0]],some [m7 159 2 t8 a9],some [m7 162 2 t9 b6],some [.arr 176 1 4 (regs2.map eI)],some [.var 61 [.own 6 0 2 0 Reads1.length,.own 7 0 2 0 Puts4.length,vi 0,vi 0]],some [m7 159 2 t8 Reads1],some [m7 162 2 t9 Puts4]]⟩
def c81(list:List q9)(prog:List r9)(a9:List s1)(b6:List p9)(Reads1:List s1)(regs2:List Int)(Puts4:List p9)(at_1:Int):Unit->KS:=fun _=>⟨P5.k 15 [false,true,false,true,true,false],(l7 2 z5 list::(l7 4 z8 prog::(bs 2 (.ptr 1 0 0::(.ptr 4 0 0::(.ptr 5 0 0::(vi at_1::(bs 174 [])))))))),[some [],some [.var 61 [.own 2 0 2 0 a9.length,.own 3 0 2 0 b6.length,vi 0,vi 0]],some [m7 159 2 t8 a9],some [m7 162 2 t9 b6],some [.arr 176 1 4 (regs2.map eI)],some [.var 61 [.own 6 0 2 0 Reads1.length,.own 7 0 2 0 Puts4.length,vi 0,vi 0]],some [m7 159 2 t8 Reads1],some [m7 162 2 t9 Puts4]]⟩
def b2p(a9:List s1)(b6:List p9)(Reads1:List s1)(regs2:List Int)(Puts4:List p9)(at_1:Int):Option (l9 m9 ((List Int)×(List s1)×(List p9)×(List s1)×(List p9)×Int) ((List s1)×(List p9)×(List Int)×(List s1)×List p9)):=
 some (l9.nxt (regs2,a9,b6,Reads1,Puts4,m4 (at_1+1)))
theorem d4t(list prog a9 b6 Reads1 regs2 Puts4 at_1)(lc:K6 P5 a6x (a9L list prog)):NL lc (c81 list prog a9 b6 Reads1 regs2 Puts4 at_1) (fun s=>b2p a9 b6 Reads1 regs2 Puts4 at_1):=fun _ h=>PK<|rg<|(lc.nx h fun hI=>sk [] [0,1,4,5,6,7] [(1,0),(4,0),(5,0),(2,0),(3,0),(6,0),(7,0)] hI)
def e9r(list:List q9)(prog:List r9)(a9:List s1)(b6:List p9)(Reads1:List s1)(regs2:List Int)(Puts4:List p9)(at_1:Int):Int->KS:=fun a4W=>⟨P5.k 14 [false,true,false,true,true],(l7 2 z5 list::(l7 4 z8 prog::(bs 2 (.ptr 1 0 0::(.ptr 4 0 0::(.ptr 5 0 0::(vi at_1::(bs 153 (.agg (regs2.map eI).flatten::(vi a4W::(bs 19 []))))))))))),[some [],some [.var 61 [.own 2 0 2 0 a9.length,.own 3 0 2 0 b6.length,vi 0,vi 0]],some [m7 159 2 t8 a9],some [m7 162 2 t9 b6],some [.arr 176 1 4 (regs2.map eI)],some [.var 61 [.own 6 0 2 0 Reads1.length,.own 7 0 2 0 Puts4.length,vi 0,vi 0]],some [m7 159 2 t8 Reads1],some [m7 162 2 t9 Puts4]]⟩
def b3a(Reads1:List s1)(regs2:List Int)(a4W:Int):Option (l9 m9 Int Unit):=
 (bif decide (a4W<4) then ((idx regs2 a4W).bind fun y5=>(s5 (a4W<4) (((D3 y5 (-1000000) 1000000).bind fun in_2=>(bif (!in_2) then ((a18 Reads1).bind fun c3J=>some (l9.ret (m9.mk c3J [] 0 2))) else some (l9.nxt (m4 (a4W+1)))))))) else some (l9.brk ()))
theorem e6w(list prog a9 b6 Reads1 regs2 Puts4 at_1):LQ P5 (c81 list prog a9 b6 Reads1 regs2 Puts4 at_1) (e9r list prog a9 b6 Reads1 regs2 Puts4 at_1) (fun s=>b3a Reads1 regs2 s):=fun lc a4W h=>PK<|rg<|j5 0 h (fun h=>rg<|A8 h fun y5 hy5 h=>s9 h fun e7 h=>ob (N3 hy5)<|ob e7<|om ((regs2.map eI).flatten[a4W.toNat]?=some (vi y5)) (b9m (fun _=>rfl) hy5)<|tl (0,{a:=.val (vi y5)})<|rg<|j7 D1 E3 1 h fun in_2 h=>j5 2 h (fun h=>rg<|cbS a1N b0e 2 (fun _=>(by simp [a1N,J8,S8,N8,V.simple,vi,u0,eI,t8])) (fun _=>(S6 1)) h fun c3J h=>C8 Reads1 c3J<|fL lc h) (fun h=>rg<|(lc.nx h fun hI=>om (V.agg ((regs2.map eI).flatten.map (U7 [(1,0),(2,0),(3,0),(4,0),(5,0),(6,0),(7,0)]))=.agg (regs2.map eI).flatten) (congrArg V.agg (a7Y (fun _=>rfl) _))<|skT [] [0,1,4,5,6,7,161,162] [(1,0),(2,0),(3,0),(4,0),(5,0),(6,0),(7,0)] [(161,.agg (regs2.map eI).flatten)] hI))) (fun h=>(lc.bk h fun hI=>sk [] [0,1,4,5,6,7] [(1,0),(2,0),(3,0),(4,0),(5,0),(6,0),(7,0)] hI))
def a9X(a9:List s1)(b6:List p9)(Reads1:List s1)(regs2:List Int)(Puts4:List p9)(at_1:Int):Option (l9 m9 ((List Int)×(List s1)×(List p9)×(List s1)×(List p9)×Int) ((List s1)×(List p9)×(List Int)×(List s1)×List p9)):=
 ((s2 (fun s:Int=>b3a Reads1 regs2 s) 0).bind fun x=>x.go (fun r=>some (l9.ret r)) fun s=>b2p a9 b6 Reads1 regs2 Puts4 at_1)
theorem d9O(list prog a9 b6 Reads1)(lc:K6 P5 a6x (a9L list prog)):NL lc (d7V list prog a9 b6 Reads1) (fun s=>a9X a9 b6 Reads1 s.1 s.2.1 s.2.2):=fun (regs2,Puts4,at_1) h=>PK<|rg<|om (4*1=4) rfl<|lp (e6w list prog a9 b6 Reads1 regs2 Puts4 at_1) h (fun _ h=>lc.rt h) (d4t list prog a9 b6 Reads1 regs2 Puts4 at_1 lc) fun hI=>om (V.agg ((regs2.map eI).flatten.map (U7 [(1,0),(2,0),(3,0),(4,0),(5,0),(6,0),(7,0)]))=.agg (regs2.map eI).flatten) (congrArg V.agg (a7Y (fun _=>rfl) _))<|skT [] [0,1,4,5,6,7,161,162] [(1,0),(2,0),(3,0),(4,0),(5,0),(6,0),(7,0)] [(161,.agg (regs2.map eI).flatten)] hI
def a2D(list:List q9)(prog:List r9)(regs:List Int)(a9:List s1)(b6:List p9)(Reads1:List s1)(Puts1:List p9)(at_:Int):Option (l9 m9 ((List Int)×(List s1)×(List p9)×(List s1)×(List p9)×Int) ((List s1)×(List p9)×(List Int)×(List s1)×List p9)):=
 (bif decide (at_<(prog.length:Int)) then ((idx prog at_).bind fun ins=>(bif (ins.a6==1) then ((b1a (m9.mk Reads1 Puts1 0 0) ins.B).bind fun Y6=>(bif decide (Y6>=0) then ((idx Puts1 Y6).bind fun put1=>((idx regs ins.A).bind fun y1=>(s5 (ins.A<4) (((s2 (fun s:Int=>b1c regs Reads1 ins put1 s) 0).bind fun x=>x.go (fun r=>some (l9.ret r)) fun s=>b9O regs a9 b6 Reads1 Puts1 at_ ins put1))))) else ((((b1D (m9.mk Reads1 Puts1 0 0) ins.B).bind fun c8h=>(bif decide (c8h<0) then ((idx list ins.B).bind fun X3=>(s5 ((Reads1.length+1)*16<=140737488355328) (some (l8.brk (Reads1++[(s1.mk ins.B X3.j4)]))))) else some (l8.brk Reads1))):Option (l8 (l9 m9 ((List Int)×(List s1)×(List p9)×(List s1)×(List p9)×Int) ((List s1)×(List p9)×(List Int)×(List s1)×List p9)) (List s1))).bind fun x=>x.go some fun j=>b8B list regs a9 b6 Puts1 at_ ins j))) else (((bif (ins.a6==2) then ((b1a (m9.mk Reads1 Puts1 0 0) ins.A).bind fun a96=>(bif decide (a96>=0) then ((idx regs ins.B).bind fun y6=>(s5 (ins.B<4) (((idx Puts1 a96).bind fun put2=>some (l8.brk (regs,Puts1.set a96.toNat (p9.mk put2.i6 y6),at_)))))) else ((idx regs ins.B).bind fun y7=>(s5 (ins.B<4) ((s5 ((Puts1.length+1)*16<=140737488355328) (some (l8.brk (regs,Puts1++[(p9.mk ins.A y7)],at_))))))))) else (bif (ins.a6==3) then ((idx regs ins.A).bind fun y8=>(s5 (ins.A<4) (some (l8.brk (regs.set ins.A.toNat ins.N,Puts1,at_))))) else (bif (ins.a6==4) then ((idx regs ins.A).bind fun y9=>(s5 (ins.A<4) (((idx regs ins.B).bind fun y10=>(s5 (ins.B<4) ((s5 (ins.A<4) (some (l8.brk (regs.set ins.A.toNat (m4 (y9+y10)),Puts1,at_)))))))))) else (bif (ins.a6==5) then ((idx regs ins.A).bind fun y11=>(s5 (ins.A<4) (((idx regs ins.B).bind fun y12=>(s5 (ins.B<4) ((s5 (ins.A<4) (some (l8.brk (regs.set ins.A.toNat (m4 (y11-y12)),Puts1,at_)))))))))) else (bif (ins.a6==6) then ((idx regs ins.A).bind fun y13=>(s5 (ins.A<4) (((idx regs ins.B).bind fun y14=>(s5 (ins.B<4) ((bif decide (y13<y14) then some (l8.brk (regs,Puts1,m4 (at_+ins.N))) else some (l8.brk (regs,Puts1,at_))))))))) else (bif (ins.a6==7) then ((a18 Reads1).bind fun c3A=>some (l8.ret (l9.ret (m9.mk c3A [] 0 1)))) else some (l8.brk (regs,Puts1,at_)))))))):Option (l8 (l9 m9 ((List Int)×(List s1)×(List p9)×(List s1)×(List p9)×Int) ((List s1)×(List p9)×(List Int)×(List s1)×List p9)) ((List Int)×(List p9)×Int))).bind fun x=>x.go some fun j=>a9X a9 b6 Reads1 j.1 j.2.1 j.2.2))) else some (l9.brk (a9,b6,regs,Reads1,Puts1)))
set_option maxRecDepth 20000 in
theorem e4S(list prog):LQ P5 a6x (a9L list prog) (fun s=>a2D list prog s.1 s.2.1 s.2.2.1 s.2.2.2.1 s.2.2.2.2.1 s.2.2.2.2.2):=fun lc (regs,a9,b6,Reads1,Puts1,at_) h=>PK<|rg<|j5 3 h (fun h=>rg<|x8 z8 2 h fun ins hins h=>o9<|j5 1 h (fun h=>rg<|R4 a51 c40 3 2 h fun Y6 h=>C8 Reads1 Puts1<|rg<|j5 1 h (fun h=>rg<|A8 h fun put1 b2n h=>B2 b2n<|H4 t9 7 b2n<|A8 h fun y1 hy1 h=>s9 h fun e2 h=>ob (N3 hy1)<|ob e2<|om (s4.arr 176 1 4 ((regs.map eI).set (ins.A.toNat) [vi put1.d9])=s4.arr 176 1 4 ((regs.set ins.A.toNat put1.d9).map eI)) (a8f rfl)<|ob (T2 (enc:=eI) hy1)<|tl (9,{a:=.rowck (eI y1) [],e:=some (.arr 176 1 4 ((regs.set ins.A.toNat put1.d9).map eI))})<|rg<|om (4*1=4) rfl<|lp (d6D list prog regs a9 b6 Reads1 Puts1 at_ ins put1) h (fun _ h=>lc.rt h) (d37 list prog regs a9 b6 Reads1 Puts1 at_ ins put1 lc) fun hI=>om (V.agg (((regs.set ins.A.toNat put1.d9).map eI).flatten.map (U7 [(1,0),(4,0),(5,0),(2,0),(3,0),(6,0),(7,0)]))=.agg ((regs.set ins.A.toNat put1.d9).map eI).flatten) (congrArg V.agg (a7Y (fun _=>rfl) _))<|skT [] [0,1,4,5,6,7,161,162] [(1,0),(4,0),(5,0),(2,0),(3,0),(6,0),(7,0)] [(161,.agg ((regs.set ins.A.toNat put1.d9).map eI).flatten)] hI) (fun h=>A0 h (d5X list prog regs a9 b6 Puts1 at_ ins lc) fun x2 h hc2=>rg<|R4 a69 e86 3 2 h fun c8h h=>C8 Reads1 Puts1<|j5 4 h (fun h=>rg<|x8 z5 7 h fun X3 a91 h=>tk 11 []<|s9 h fun e6 h=>E5 12 46 159 2 16 t8 Reads1 (s1.mk ins.B X3.j4) e6<|D8 (s1.mk ins.B X3.j4)<|(o7 h hc2 fun hI=>sk [] [0,1,4,5,6,7,8] [(1,0),(4,0),(5,0),(2,0),(3,0),(46,0),(7,0),(16,0)] hI)) (fun h=>(o7 h hc2 fun hI=>sk [] [0,1,4,5,6,7,8] [(1,0),(4,0),(5,0),(2,0),(3,0),(6,0),(7,0),(16,0)] hI)))) (fun h=>A0 h (d9O list prog a9 b6 Reads1 lc) fun x2 h hc2=>rg<|j5 1 h (fun h=>rg<|R4 a51 c40 3 2 h fun a96 h=>C8 Reads1 Puts1<|rg<|j5 1 h (fun h=>rg<|A8 h fun y6 hy6 h=>s9 h fun e8 h=>ob (N3 hy6)<|ob e8<|ob (T2 (enc:=eI) hy6)<|tl (tr 6 (eI y6))<|A8 h fun put2 c6b h=>B2 c6b<|O5 162 2 t9 9 [] (p9.mk put2.i6 y6) c6b<|(o7 h hc2 fun hI=>om ((.own 7 0 2 0 Puts1.length:V)=.own 7 0 2 0 (Puts1.set a96.toNat (p9.mk put2.i6 y6)).length) (by simp)<|sk [.is (.cell 3 0 1) (.own 7 0 2 0 (Puts1.set a96.toNat (p9.mk put2.i6 y6)).length)] [0,1,4,5,6,7] [(1,0),(4,0),(5,0),(2,0),(3,0),(6,0),(7,0)] hI)) (fun h=>rg<|A8 h fun y7 hy7 h=>s9 h fun e9 h=>ob (N3 hy7)<|ob e9<|ob (T2 (enc:=eI) hy7)<|tl (tr 7 (eI y7))<|tk 9 []<|s9 h fun e10 h=>E5 10 41 162 2 16 t9 Puts1 (p9.mk ins.A y7) e10<|D8 (p9.mk ins.A y7)<|(o7 h hc2 fun hI=>sk [] [0,1,4,5,6,7] [(1,0),(4,0),(5,0),(2,0),(3,0),(6,0),(41,0)] hI))) (fun h=>rg<|j5 1 h (fun h=>rg<|A8 h fun y8 hy8 h=>s9 h fun e11 h=>ob (N3 hy8)<|ob e11<|om (s4.arr 176 1 4 ((regs.map eI).set (ins.A.toNat) [vi ins.N])=s4.arr 176 1 4 ((regs.set ins.A.toNat ins.N).map eI)) (a8f rfl)<|ob (T2 (enc:=eI) hy8)<|tl (5,{a:=.rowck (eI y8) [],e:=some (.arr 176 1 4 ((regs.set ins.A.toNat ins.N).map eI))})<|(o7 h hc2 fun hI=>sk [] [0,1,4,5,6,7] [(1,0),(4,0),(5,0),(2,0),(3,0),(6,0),(7,0)] hI)) (fun h=>rg<|j5 1 h (fun h=>rg<|A8 h fun y9 hy9 h=>s9 h fun e12 h=>ob (N3 hy9)<|ob e12<|ob (T2 (enc:=eI) hy9)<|tl (tr 3 (eI y9))<|A8 h fun y10 d0O h=>s9 h fun e13 h=>ob (N3 d0O)<|ob e13<|ob (T2 (enc:=eI) d0O)<|tl (tr 7 (eI y10))<|s9 h fun e14 h=>ob (N3 hy9)<|ob e14<|om (s4.arr 176 1 4 ((regs.map eI).set (ins.A.toNat) [vi (m4 (y9+y10))])=s4.arr 176 1 4 ((regs.set ins.A.toNat (m4 (y9+y10))).map eI)) (a8f rfl)<|ob (T2 (enc:=eI) hy9)<|tl (10,{a:=.rowck (eI y9) [],e:=some (.arr 176 1 4 ((regs.set ins.A.toNat (m4 (y9+y10))).map eI))})<|(o7 h hc2 fun hI=>sk [] [0,1,4,5,6,7] [(1,0),(4,0),(5,0),(2,0),(3,0),(6,0),(7,0)] hI)) (fun h=>rg<|j5 1 h (fun h=>rg<|A8 h fun y11 b7T h=>s9 h fun e15 h=>ob (N3 b7T)<|ob e15<|ob (T2 (enc:=eI) b7T)<|tl (tr 3 (eI y11))<|A8 h fun y12 c56 h=>s9 h fun e16 h=>ob (N3 c56)<|ob e16<|ob (T2 (enc:=eI) c56)<|tl (tr 7 (eI y12))<|s9 h fun e17 h=>ob (N3 b7T)<|ob e17<|om (s4.arr 176 1 4 ((regs.map eI).set (ins.A.toNat) [vi (m4 (y11-y12))])=s4.arr 176 1 4 ((regs.set ins.A.toNat (m4 (y11-y12))).map eI)) (a8f rfl)<|ob (T2 (enc:=eI) b7T)<|tl (10,{a:=.rowck (eI y11) [],e:=some (.arr 176 1 4 ((regs.set ins.A.toNat (m4 (y11-y12))).map eI))})<|(o7 h hc2 fun hI=>sk [] [0,1,4,5,6,7] [(1,0),(4,0),(5,0),(2,0),(3,0),(6,0),(7,0)] hI)) (fun h=>rg<|j5 1 h (fun h=>rg<|A8 h fun y13 c9Z h=>s9 h fun e18 h=>ob (N3 c9Z)<|ob e18<|ob (T2 (enc:=eI) c9Z)<|tl (tr 3 (eI y13))<|A8 h fun y14 c44 h=>s9 h fun e19 h=>ob (N3 c44)<|ob e19<|ob (T2 (enc:=eI) c44)<|tl (tr 7 (eI y14))<|j5 8 h (fun h=>rg<|(o7 h hc2 fun hI=>sk [] [0,1,4,5,6,7] [(1,0),(4,0),(5,0),(2,0),(3,0),(6,0),(7,0)] hI)) (fun h=>(o7 h hc2 fun hI=>sk [] [0,1,4,5,6,7] [(1,0),(4,0),(5,0),(2,0),(3,0),(6,0),(7,0)] hI))) (fun h=>rg<|j5 1 h (fun h=>rg<|cbS a1N b0e 2 (fun _=>(by simp [a1N,J8,S8,N8,V.simple,vi,u0,eI,t8])) (fun _=>(S6 1)) h fun c3A h=>s8 Reads1<|(B9 h hc2 fun h=>s8 c3A<|fL lc h)) (fun h=>(o7 h hc2 fun hI=>sk [] [0,1,4,5,6,7] [(1,0),(4,0),(5,0),(2,0),(3,0),(6,0),(7,0)] hI))))))))) (fun h=>(lc.bk h fun hI=>sk [] [4,5,6] [(1,0),(4,0),(5,0),(2,0),(3,0),(6,0),(7,0)] hI))
def b5X(list:List q9)(prog:List r9):Option m9:=
 ((a8m list).bind fun X4=>(bif (!X4) then some (m9.mk [] [] 0 3) else ((a7C prog).bind fun D6=>(bif (!D6) then some (m9.mk [] [] 0 3) else ((s2 (fun s:(List Int)×(List s1)×(List p9)×(List s1)×(List p9)×Int=>a2D list prog s.1 s.2.1 s.2.2.1 s.2.2.2.1 s.2.2.2.2.1 s.2.2.2.2.2) (e9O 4 (0:Int),[],[],[],[],0)).bind fun x=>x.go (fun r=>some r) fun s=>b1e s.1 s.2.1 s.2.2.1 s.2.2.2.1 s.2.2.2.2)))))
theorem e1v{list prog}:OK P5 [l7 2 z5 list,l7 4 z8 prog] (b5X list prog):=
 p8 _ fun r h=>o9<|j7 a29 b4h 1 h fun X4 h=>j5 3 h (fun h=>rg<|fE h) (fun h=>j7 a3z b4r 5 h fun D6 h=>j5 7 h (fun h=>rg<|fE h) (fun h=>rg<|om ((e9O 4 ([vi 0]:List V)).flatten=[vi 0,vi 0,vi 0,vi 0]/\([vi 0]:List V).length=1) ⟨rfl,rfl⟩<|o9<|lp (e4S list prog) h (fun _ h=>P5.rt h) (e07 r) fun hI=>sk [.own (.cell 1 0 0) 159 2,.own (.cell 1 0 1) 162 2,.own (.cell 12 0 0) 159 2,.own (.cell 12 0 1) 162 2] [0,1,4,5,6,7] [(1,0),(10,0),(12,0),(15,0),(16,0),(17,0),(18,0)] hI))
def a2n:FS (Int):=⟨191,Tryz.f191,[.val [] []],[none,none],[.val [some 7] [],.val [] []],fun r=>vi r,fun _=>[none,none],Tryz.func191⟩
def b9T:Unit->KS:=fun _=>⟨a2n.k 3 [false],(bs 25 []),[some []]⟩
def c9K:Option Int:=
 some (-1)
theorem e7e(r):NF a2n r b9T (fun s=>c9K):=fun _ h=>PK<|rg<|fE h
def c5n(list:List m5)(q:s3):Int->KS:=fun v9=>⟨a2n.k 2 [],(bs 3 (.ptr 1 0 0::(bs 3 (l7 7 t5 list::(vi (list.length:Int)::(vi v9::(bs 15 []))))))),[some [],some [.var 49 [vi q.d7,vi q.Seq]]]⟩
def e7A(list:List m5)(q:s3)(v9:Int):Unit->KS:=fun _=>⟨a2n.k 5 [true,false],(bs 3 (.ptr 1 0 0::(bs 3 (l7 7 t5 list::(vi (list.length:Int)::(vi v9::(bs 15 []))))))),[some [],some [.var 49 [vi q.d7,vi q.Seq]]]⟩
def c1k(v9:Int):Option (l9 Int Int Unit):=
 some (l9.nxt (m4 (v9+1)))
theorem e5r(list q v9)(lc:K6 a2n b9T (c5n list q)):NL lc (e7A list q v9) (fun s=>c1k v9):=fun _ h=>PK<|rg<|(lc.nx h fun hI=>sk [] [3,7,8,9] [(1,0)] hI)
def a85(list:List m5)(q:s3)(v9:Int):Option (l9 Int Int Unit):=
 (bif decide (v9<(list.length:Int)) then ((idx list v9).bind fun entry=>(((bif (!entry.i8) then (bif (([entry.a5.d7,entry.a5.Seq]:List Int)==[q.d7,q.Seq]) then some (l8.ret (l9.ret v9)) else some (l8.brk ())) else some (l8.brk ())):Option (l8 (l9 Int Int Unit) Unit)).bind fun x=>x.go some fun j=>c1k v9)) else some (l9.brk ()))
theorem e4h(list q):LQ a2n b9T (c5n list q) (fun s=>a85 list q s):=fun lc v9 h=>PK<|rg<|j5 0 h (fun h=>rg<|x8 t5 1 h fun entry H1 h=>A0 h (e5r list q v9 lc) fun x2 h hc2=>rg<|j5 3 h (fun h=>j5 8 h (fun h=>rg<|(B9 h hc2 fun h=>fL lc h)) (fun h=>(o7 h hc2 fun hI=>sk [] [3,7,8,9] [(1,0)] hI))) (fun h=>(o7 h hc2 fun hI=>sk [] [3,7,8,9] [(1,0)] hI))) (fun h=>(lc.bk h fun hI=>sk [] [] [] hI))
def b0b(list:List m5)(q:s3):Option Int:=
 ((s2 (fun s:Int=>a85 list q s) 0).bind fun x=>x.go (fun r=>some r) fun s=>c9K)
theorem b8W{list q}:OK a2n [l7 7 t5 list,.agg (U2 q)] (b0b list q):=
 p8 _ fun r h=>o9<|lp (e4h list q) h (fun _ h=>a2n.rt h) (e7e r) fun hI=>sk [] [3,7,8,9] [(1,0)] hI
def c1z:FS (Bool×p6):=⟨178,Tryz.f178,[.val [] []],[some (0,.ptr H0 L1),none],[.ptr H0 L1,.val [] []],fun r=>.b r.1,fun r=>[some (.optr 152 (J5 r.2)),none],Tryz.func178⟩
def b2Q(a:p6)(q:s3):Option (Bool×p6):=
 ((b0b a.n.a7 q).bind fun first=>some (decide (first>=0),a))
theorem c8S{a q}:OK c1z [.optr 152 (J5 a),.agg (U2 q)] (b2Q a q):=
 p8 _ fun r h=>o9<|R4 a2n b8W 6 2 h fun first h=>s8 a.n.a7<|C6 a<|fE h
def Z3:FS (m5×Bool×p6):=⟨173,Tryz.f173,[.val I1 [],.val [] []],[some (0,.ptr H0 L1)],[.ptr H0 L1],fun r=>.tup [.agg (t5 r.1),.b r.2.1],fun r=>[some (.optr 152 (J5 r.2.2))],Tryz.func173⟩
def e4P(a:p6):Unit->KS:=fun _=>⟨Z3.k 3 [false],(.ptr 0 0 0::(bs 1 (.ptr 1 0 0::(bs 1 (vi (a.n.a7.length:Int)::(bs 112 [])))))),[some ([.var 152 (b9Q a)]++c1X a),some [.var 63 [.b false,vi 0,vi 0,.nil,.nil,vi 0,vi 0]]]⟩
def d1J(a:p6):Unit->KS:=fun _=>⟨Z3.k 5 [false,false],(.ptr 0 0 0::(bs 1 (.ptr 1 0 0::(bs 114 [])))),[some ([.var 152 (b9Q a)]++c1X a),some [.var 63 [.b false,vi 0,vi 0,.nil,.nil,vi 0,vi 0]]]⟩
def e8d:p6->KS:=fun a1=>⟨Z3.k 6 [false,false,false],(.ptr 0 0 0::(bs 1 (.ptr 6 0 0::(bs 114 [])))),[some [.var 152 (b0D a1),.dead,.dead,.dead,.dead,.dead]]++a2Q a1++[some [.var 63 [.b false,vi 0,vi 0,.nil,.nil,vi 0,vi 0]]]⟩
def c4k:p6->KS:=fun w=>⟨Z3.k 7 [false,false,false,false],(bs 2 (.ptr 6 0 0::(bs 114 []))),[some [.var 152 (b0D w),.dead,.dead,.dead,.dead,.dead]]++a2Q w++[some [.var 63 [.b false,vi 0,vi 0,.nil,.nil,vi 0,vi 0]]]⟩
def c9p(w:p6):Option (m5×Bool×p6):=
 some ((m5.mk false (s3.mk 0 0) (m9.mk [] [] 0 0)),false,w)
theorem d7o(r):NF Z3 r c4k (fun s=>c9p s):=fun w h=>PK<|rg<|C6 w<|fE h
def e0Z:p6->KS:=fun a2=>⟨Z3.k 6 [false,false,false],(.ptr 0 0 0::(bs 1 (.ptr 6 0 0::(bs 114 [])))),[some [.var 152 (b0D a2),.dead,.dead,.dead,.dead,.dead]]++a2Q a2++[some [.var 63 [.b false,vi 0,vi 0,.nil,.nil,vi 0,vi 0]]]⟩
def a4F(a2:p6):Option (l9 (m5×Bool×p6) p6 p6):=
 (bif decide ((a2.n.d6.length:Int)>0) then ((idx a2.n.d6 0).bind fun entry=>(s5 ((0:Int)<=1/\1<=(a2.n.d6.length:Int)) (((b2Q (p6.mk (j8.mk a2.n.Id a2.n.Acc a2.n.a7 a2.n.Seq a2.n.f0 a2.n.a8 a2.n.c9 a2.n.i4 a2.n.c8 a2.n.a0 a2.n.j3 a2.n.i7 a2.n.b8 ((a2.n.d6.drop (1:Int).toNat).take (a2.n.d6.length-(1:Int).toNat))) a2.out a2.told) entry.a5).bind fun b1b=>(bif (!b1b.1) then some (l9.ret (entry,true,b1b.2)) else some (l9.nxt b1b.2)))))) else some (l9.brk a2))
theorem e0n:LQ Z3 c4k e0Z (fun s=>a4F s):=fun lc a2 h=>PK<|rg<|j5 6 h (fun h=>rg<|x8 t5 5 h fun entry H1 h=>rg<|s9 h fun e1 h=>om (V.sl 7 (a2.n.d6.length-(1:Int).toNat) (((a2.n.d6.map t5).drop (1:Int).toNat).take (a2.n.d6.length-(1:Int).toNat))=l7 7 t5 ((a2.n.d6.drop (1:Int).toNat).take (a2.n.d6.length-(1:Int).toNat))) (b2U e1)<|ob e1.1<|ob e1.2<|tl (6,{v:=some (l7 7 t5 ((a2.n.d6.drop (1:Int).toNat).take (a2.n.d6.length-(1:Int).toNat)))})<|rg<|j7 c1z c8S 3 h fun b1b h=>C6 a2<|j5 4 h (fun h=>rg<|C6 b1b.2<|fL lc h) (fun h=>(lc.nx h fun hI=>sk [] [0,2] [(37,0),(37,1),(37,2),(37,3),(37,4),(6,0)] hI))) (fun h=>(lc.bk h fun hI=>sk [] [2] [(1,0),(2,0),(3,0),(4,0),(5,0),(6,0)] hI))
def b7X(a1:p6):Option (m5×Bool×p6):=
 ((s2 (fun s:p6=>a4F s) a1).bind fun x=>x.go (fun r=>some r) fun s=>c9p s)
theorem d4n(r):NF Z3 r e8d (fun s=>b7X s):=fun a1 h=>PK<|lp (e0n) h (fun _ h=>Z3.rt h) (d7o r) fun hI=>sk [] [0,2] [(1,0),(2,0),(3,0),(4,0),(5,0),(6,0)] hI
def c0q(a:p6):Option (m5×Bool×p6):=
 (((bif a.n.j3 then ((b2Q a a.n.b8.a5).bind fun a9N=>(bif (!a9N.1) then some (l8.ret (a9N.2.n.b8,true,a9N.2)) else some (l8.brk a9N.2))) else some (l8.brk a)):Option (l8 (m5×Bool×p6) p6)).bind fun x=>x.go some fun j=>b7X j)
theorem e72(a)(r):NF Z3 r (d1J a) (fun s=>c0q a):=fun _ h=>PK<|A0 h (d4n r) fun x1 h hc1=>rg<|j5 5 h (fun h=>j7 c1z c8S 13 h fun a9N h=>C6 a<|j5 15 h (fun h=>rg<|(B9 h hc1 fun h=>C6 a9N.2<|fE h)) (fun h=>(o7 h hc1 fun hI=>sk [] [0,2] [(15,0),(15,1),(15,2),(15,3),(15,4),(1,0)] hI))) (fun h=>(o7 h hc1 fun hI=>sk [] [0,2] [(0,1),(0,2),(0,3),(0,4),(0,5),(1,0)] hI))
def d48(a:p6):Int->KS:=fun i=>⟨Z3.k 4 [false],(.ptr 0 0 0::(bs 1 (.ptr 1 0 0::(bs 2 (vi i::(bs 111 [])))))),[some ([.var 152 (b9Q a)]++c1X a),some [.var 63 [.b false,vi 0,vi 0,.nil,.nil,vi 0,vi 0]]]⟩
def a4v(a:p6)(i:Int):Option (l9 (m5×Bool×p6) Int Unit):=
 (bif decide (i<(a.n.i4.length:Int)) then ((idx a.n.i4 i).bind fun vote=>(bif (vote.a8 != 0) then some (l9.ret ((m5.mk true (s3.mk 0 0) (m9.mk [] [] 0 0)),true,a)) else some (l9.nxt (m4 (i+1))))) else some (l9.brk ()))
theorem e0O(a):LQ Z3 (d1J a) (d48 a) (fun s=>a4v a s):=fun lc i h=>PK<|rg<|j5 7 h (fun h=>rg<|x8 p7 6 h fun vote J6 h=>j5 9 h (fun h=>rg<|C6 a<|fL lc h) (fun h=>rg<|(lc.nx h fun hI=>sk [] [0,2,5] [(1,0)] hI))) (fun h=>(lc.bk h fun hI=>sk [] [0,2] [(1,0)] hI))
def b5V(a:p6):Option (m5×Bool×p6):=
 ((s2 (fun s:Int=>a4v a s) (m4 ((a.n.a7.length:Int)+1))).bind fun x=>x.go (fun r=>some r) fun s=>c0q a)
theorem e6i(a)(r):NF Z3 r (e4P a) (fun s=>b5V a):=fun _ h=>PK<|rg<|lp (e0O a) h (fun _ h=>Z3.rt h) (e72 a r) fun hI=>sk [] [0,2,5] [(1,0)] hI
def b69(a:p6):Option (m5×Bool×p6):=
 (((bif decide ((a.n.a7.length:Int)<(a.n.i4.length:Int)) then ((idx a.n.i4 (a.n.a7.length:Int)).bind fun Q5=>(bif (Q5.a8 != 0) then some (l8.ret (Q5.g9,true,a)) else some (l8.brk ()))) else some (l8.brk ())):Option (l8 (m5×Bool×p6) Unit)).bind fun x=>x.go some fun j=>b5V a)
theorem e7h{a}:OK Z3 [.optr 152 (J5 a)] (b69 a):=
 p8 _ fun r h=>o9<|A0 h (e6i a r) fun x1 h hc1=>rg<|j5 8 h (fun h=>x8 p7 15 h fun Q5 a3C h=>j5 19 h (fun h=>rg<|K3 p7 6 a3C<|(B9 h hc1 fun h=>C6 a<|fE h)) (fun h=>(o7 h hc1 fun hI=>sk [] [0,2,4] [(1,0)] hI))) (fun h=>(o7 h hc1 fun hI=>sk [] [0,2,4] [(1,0)] hI))
def c45:FS (v5×Bool):=⟨140,Tryz.f140,[.val [none,some 8] [none,some 130],.val [] []],[none,none],[.val [none,some 8] [],.val [] []],fun r=>.tup [.agg [vi r.1.i5,u0 130 8 p7 r.1.a0],.b r.2],fun _=>[none,none],Tryz.func140⟩
def c1O(a:v5)(bal:Int):Option (v5×Bool):=
 ((a87 a).bind fun O9=>(bif (!O9) then some ((v5.mk 0 []),false) else ((a4p a).bind fun P9=>((D3 bal 1 3000).bind fun in_=>(bif (!in_) then some (P9,false) else (bif decide (bal<a.i5) then some (P9,false) else some ((v5.mk bal P9.a0),true)))))))
theorem e89{a bal}:OK c45 [.agg (V8 a),vi bal] (c1O a bal):=
 p8 _ fun r h=>o9<|j7 a4z c2P 1 h fun O9 h=>j5 2 h (fun h=>rg<|fE h) (fun h=>rg<|j7 a78 a8R 1 h fun P9 h=>rg<|j7 D1 E3 1 h fun in_ h=>j5 3 h (fun h=>rg<|s8 P9.a0<|fE h) (fun h=>j5 8 h (fun h=>rg<|s8 P9.a0<|fE h) (fun h=>o9<|s8 P9.a0<|fE h)))
def a4V:FS (v5×Bool):=⟨174,Tryz.f174,[.val [none,some 8] [],.val [] []],[none,none,none,none],[.val [none,some 8] [],.val [] [],.val [] [],.val I1 []],fun r=>.tup [.agg (V8 r.1),.b r.2],fun _=>[none,none,none,none],Tryz.func174⟩
def d2c(bal:Int)(slot:Int)(e_:m5)(o:v5×Bool):(List m6)->KS:=fun Votes1=>⟨a4V.k 5 [false,false,false],(bs 1 (vi bal::(vi slot::(bs 4 (.ptr 1 0 0::(.ptr 2 0 0::(bs 1 (.ptr 3 0 0::(bs 40 []))))))))),[some [],some [.var 63 (a3T e_)],some [.var 55 [vi 0,.nil]],some [.var 55 [vi o.1.i5,.own 4 0 8 0 Votes1.length]],some [m7 130 8 p7 Votes1]]⟩
def c0E(bal:Int)(slot:Int)(e_:m5)(o:v5×Bool)(Votes1:List m6):Option (v5×Bool):=
 ((idx Votes1 slot).bind fun vote=>((a4p (v5.mk o.1.i5 (Votes1.set slot.toNat (m6.mk bal e_)))).bind fun b96=>some (b96,true)))
theorem d81(bal slot e_ o)(r):NF a4V r (d2c bal slot e_ o) (fun s=>c0E bal slot e_ o s):=fun Votes1 h=>PK<|rg<|A8 h fun vote J6 h=>B2 J6<|O5 130 8 p7 7 O7 (m6.mk bal e_) J6<|rg<|j7 a78 a8R 1 h fun b96 h=>om (Votes1.length=(Votes1.set slot.toNat (m6.mk bal e_)).length) (by simp)<|s8 b96.a0<|fE h
def d6Y(bal:Int)(slot:Int)(e_:m5)(o:v5×Bool):(List m6)->KS:=fun a0=>⟨a4V.k 4 [false,false],(bs 1 (vi bal::(vi slot::(bs 4 (.ptr 1 0 0::(.ptr 2 0 0::(bs 1 (.ptr 3 0 0::(bs 40 []))))))))),[some [],some [.var 63 (a3T e_)],some [.var 55 [vi 0,.nil]],some [.var 55 [vi o.1.i5,.own 4 0 8 0 a0.length]],some [m7 130 8 p7 a0]]⟩
def a7F(slot:Int)(a0:List m6):Option (l9 (v5×Bool) (List m6) (List m6)):=
 (bif decide ((a0.length:Int)<=slot) then (s5 ((a0.length+1)*96<=140737488355328) (some (l9.nxt (a0++[(m6.mk 0 (m5.mk false (s3.mk 0 0) (m9.mk [] [] 0 0)))])))) else some (l9.brk a0))
theorem d4q(bal slot e_ o):LQ a4V (d2c bal slot e_ o) (d6Y bal slot e_ o) (fun s=>a7F slot s):=fun lc a0 h=>PK<|rg<|j5 4 h (fun h=>rg<|tk 3 O7<|s9 h fun e1 h=>E5 4 14 130 8 96 p7 a0 (m6.mk 0 (m5.mk false (s3.mk 0 0) (m9.mk [] [] 0 0))) e1<|D8 (m6.mk 0 (m5.mk false (s3.mk 0 0) (m9.mk [] [] 0 0)))<|(lc.nx h fun hI=>sk [] [1,2,7,8,10] [(1,0),(2,0),(3,0),(14,0)] hI)) (fun h=>(lc.bk h fun hI=>sk [] [1,2,7,8,10] [(1,0),(2,0),(3,0),(4,0)] hI))
def b1Y(a:v5)(bal:Int)(slot:Int)(e_:m5):Option (v5×Bool):=
 ((c1O a bal).bind fun o=>(bif (!o.2) then some (o.1,false) else ((D3 slot 0 39).bind fun in_=>(bif (!in_) then ((a4p a).bind fun P9=>some (P9,false)) else ((a00 e_).bind fun D9=>(bif (!D9) then ((a4p a).bind fun c2O=>some (c2O,false)) else ((s2 (fun s:List m6=>a7F slot s) o.1.a0).bind fun x=>x.go (fun r=>some r) fun s=>c0E bal slot e_ o s)))))))
theorem d12{a bal slot e_}:OK a4V [.agg (V8 a),vi bal,vi slot,.agg (t5 e_)] (b1Y a bal slot e_):=
 p8 _ fun r h=>o9<|j7 c45 e89 2 h fun o h=>rg<|j5 1 h (fun h=>rg<|s8 o.1.a0<|fE h) (fun h=>rg<|j7 D1 E3 1 h fun in_ h=>j5 3 h (fun h=>rg<|j7 a78 a8R 1 h fun P9 h=>s8 P9.a0<|fE h) (fun h=>j7 a2L a3m 5 h fun D9 h=>j5 7 h (fun h=>rg<|j7 a78 a8R 1 h fun c2O h=>s8 c2O.a0<|fE h) (fun h=>lp (d4q bal slot e_ o) h (fun _ h=>a4V.rt h) (d81 bal slot e_ o r) fun hI=>sk [] [1,2,7,8,10] [(2,0),(3,0),(11,0),(7,0)] hI)))
def b5F:FS (p6):=⟨139,Tryz.f139,[],[some (0,.ptr H0 L1)],[.ptr H0 L1],fun _=>.tup [],fun r=>[some (.optr 152 (J5 r))],Tryz.func139⟩
def b1G(a:p6):Option p6:=
 some (p6.mk (j8.mk a.n.Id a.n.Acc a.n.a7 a.n.Seq 0 0 [] [] (m5.mk false (s3.mk 0 0) (m9.mk [] [] 0 0)) [] a.n.j3 a.n.i7 a.n.b8 a.n.d6) a.out a.told)
theorem c1H{a}:OK b5F [.optr 152 (J5 a)] (b1G a):=
 p8 _ fun r h=>rg4<|o9<|L6 a.n.a7 a.out a.told<|fE h
def c0R:FS ((List Bool)×p6):=⟨141,Tryz.f141,[.val [some 1] [some 4]],[some (0,.ptr H0 L1)],[.ptr H0 L1],fun r=>u0 4 1 eB r.1,fun r=>[some (.optr 152 (J5 r.2))],Tryz.func141⟩
def b0E(a:p6):Option ((List Bool)×p6):=
 (s5 (0<=(3:Int)/\(3:Int)*1<=140737488355328) (((idx (e9O (3:Int).toNat false) a.n.Id).bind fun y=>some ((e9O (3:Int).toNat false).set a.n.Id.toNat true,a))))
theorem c4I{a}:OK c0R [.optr 152 (J5 a)] (b0E a):=
 p8 _ fun r h=>o9<|s9 h fun e1 h=>U0 0 2 4 1 1 eB false ti4 (.none) e1 (by decide) (by rfl)<|rg<|A8 h fun y hy h=>B2 hy<|O5 4 1 eB 7 [] true hy<|rg<|om ((e9O (3:Int).toNat false).length=((e9O (3:Int).toNat false).set a.n.Id.toNat true).length) (by simp)<|C6 a<|fE h
def a5O:FS (p6):=⟨149,Tryz.f149,[],[some (0,.ptr H0 L1),none,none],[.ptr H0 L1,.val [] [],.val B0 []],fun _=>.tup [],fun r=>[some (.optr 152 (J5 r)),none,none],Tryz.func149⟩
def a22(a:p6)(to:Int)(m:j9):Option p6:=
 (s5 ((a.out.length+1)*152<=140737488355328) (some (p6.mk a.n (a.out++[(j9.mk m.a6 a.n.Id to m.a8 m.g8 m.g9 m.a0)]) a.told)))
theorem a8s{a to m}:OK a5O [.optr 152 (J5 a),vi to,.agg (s7 m)] (a22 a to m):=
 p8 _ fun r h=>rg4<|tk 6 B0<|s9 h fun e1 h=>E5 7 19 68 13 152 s7 a.out (j9.mk m.a6 a.n.Id to m.a8 m.g8 m.g9 m.a0) e1<|D8 (j9.mk m.a6 a.n.Id to m.a8 m.g8 m.g9 m.a0)<|I8 a.n.a7 a.n.c9 a.n.a0 (a.out++[(j9.mk m.a6 a.n.Id to m.a8 m.g8 m.g9 m.a0)])<|s8 a.told<|fE h
def a0F:FS (p6):=⟨137,Tryz.f137,[],[some (0,.ptr H0 L1),none],[.ptr H0 L1,.val B0 []],fun _=>.tup [],fun r=>[some (.optr 152 (J5 r)),none],Tryz.func137⟩
def c6L(m:j9):(Int×p6)->KS:=fun (to,a1)=>⟨a0F.k 2 [],(.ptr 0 0 0::(bs 2 (.ptr 1 0 0::(vi to::(bs 15 []))))),[some [.var 152 (d5s a1),.dead,.dead,.dead,.dead,.dead],some [.var 68 (a0f m)]]++d7l a1⟩
def e4n(m:j9)(to:Int):p6->KS:=fun a2=>⟨a0F.k 5 [true,true],(.ptr 0 0 0::(bs 2 (.ptr 6 0 0::(vi to::(bs 15 []))))),[some [.var 152 (b0D a2),.dead,.dead,.dead,.dead,.dead]]++a2Q a2++[some [.var 68 (a0f m)]]⟩
def b9W(to:Int)(a2:p6):Option (l9 p6 (Int×p6) Unit):=
 some (l9.nxt (m4 (to+1),a2))
theorem e8A(m to)(lc:K6 a0F noK (c6L m)):NL lc (e4n m to) (fun s=>b9W to s):=fun a2 h=>PK<|rg<|(lc.nx h fun hI=>sk [] [0,3,4] [(6,0),(5,0),(4,0),(3,0),(2,0),(1,0)] hI)
def a4s(m:j9)(to:Int)(a1:p6):Option (l9 p6 (Int×p6) Unit):=
 (bif decide (to<3) then (((bif (to != a1.n.Id) then ((a22 a1 to m).bind fun Y5=>some (l8.brk Y5)) else some (l8.brk a1)):Option (l8 (l9 p6 (Int×p6) Unit) p6)).bind fun x=>x.go some fun j=>b9W to j) else some (l9.ret a1))
theorem d6w(m):LQ a0F noK (c6L m) (fun s=>a4s m s.1 s.2):=fun lc (to,a1) h=>PK<|rg<|j5 1 h (fun h=>A0 h (e8A m to lc) fun x2 h hc2=>rg<|j5 6 h (fun h=>rg<|j7 a5O a8s 3 h fun Y5 h=>C6 a1<|(o7 h hc2 fun hI=>sk [] [0,3,4] [(19,0),(19,1),(19,2),(19,3),(19,4),(1,0)] hI)) (fun h=>(o7 h hc2 fun hI=>sk [] [0,3,4] [(6,0),(5,0),(4,0),(3,0),(2,0),(1,0)] hI))) (fun h=>C6 a1<|fL lc h)
def a2k(a:p6)(m:j9):Option p6:=
 ((s2 (fun s:Int×p6=>a4s m s.1 s.2) (0,a)).bind fun x=>x.go (fun r=>some r) fun _=>none)
theorem a48{a m}:OK a0F [.optr 152 (J5 a),.agg (s7 m)] (a2k a m):=
 p8 _ fun r h=>o9<|lp (d6w m) h (fun _ h=>a0F.rt h) (fun _ h=>nomatch h) fun hI=>sk [] [0,3,4] [(1,0),(0,5),(0,4),(0,3),(0,2),(0,1)] hI
def a8X:FS (p6):=⟨136,Tryz.f136,[],[some (0,.ptr H0 L1)],[.ptr H0 L1],fun _=>.tup [],fun r=>[some (.optr 152 (J5 r))],Tryz.func136⟩
def a6j(a:p6):Option p6:=
 (bif (a.n.f0 != 2) then some a else (bif decide ((a.n.a7.length:Int)>=40) then some a else ((b69 a).bind fun next=>(bif (!next.2.1) then some next.2.2 else ((b1Y next.2.2.n.Acc next.2.2.n.a8 (next.2.2.n.a7.length:Int) next.1).bind fun a6V=>(bif (!a6V.2) then ((b1G next.2.2).bind fun follow=>some follow) else ((b0E (p6.mk (j8.mk next.2.2.n.Id a6V.1 next.2.2.n.a7 next.2.2.n.Seq next.2.2.n.f0 next.2.2.n.a8 next.2.2.n.c9 next.2.2.n.i4 next.1 next.2.2.n.a0 next.2.2.n.j3 next.2.2.n.i7 next.2.2.n.b8 next.2.2.n.d6) next.2.2.out next.2.2.told)).bind fun E2=>((a2k (p6.mk (j8.mk E2.2.n.Id E2.2.n.Acc E2.2.n.a7 E2.2.n.Seq 3 E2.2.n.a8 E2.2.n.c9 E2.2.n.i4 E2.2.n.c8 E2.1 E2.2.n.j3 E2.2.n.i7 E2.2.n.b8 E2.2.n.d6) E2.2.out E2.2.told) (j9.mk 3 0 0 E2.2.n.a8 (E2.2.n.a7.length:Int) next.1 [])).bind fun all=>some all))))))))
theorem b13{a}:OK a8X [.optr 152 (J5 a)] (a6j a):=
 p8 _ fun r h=>rg<|j5 6 h (fun h=>C6 a<|fE h) (fun h=>j5 14 h (fun h=>C6 a<|fE h) (fun h=>rg<|j7 Z3 e7h 1 h fun next h=>C6 a<|rg<|j5 1 h (fun h=>C6 next.2.2<|fE h) (fun h=>rg<|j7 a4V d12 17 h fun a6V h=>rg<|j5 1 h (fun h=>rg<|j7 b5F c1H 1 h fun follow h=>C6 next.2.2<|C6 follow<|fE h) (fun h=>N4<|j7 c0R c4I 2 h fun E2 h=>C6 next.2.2<|o9<|j7 a0F a48 14 h fun all h=>I8 E2.2.n.a7 E2.2.n.c9 E2.1 E2.2.out<|s8 E2.2.told<|C6 all<|fE h))))
def b50:FS (j8×(List j9)×List o8):=⟨93,Tryz.f93,[.val A4 [],.val [some 13] [],.val [some 5] []],[none,none],[.val A4 [],.val [some 4] []],fun r=>.tup [.agg (B3 r.1),l7 13 s7 r.2.1,l7 5 z4 r.2.2],fun _=>[none,none],Tryz.func93⟩
def d9a:p6->KS:=fun a=>⟨b50.k 11 [false,false,true],(bs 4 (.ptr 1 0 0::(bs 2 (.ptr 2 0 0::(bs 80 []))))),[some [],some [.var 65 [vi 0,vi 0,.nil,.nil,vi 0,vi 0,vi 0,.nil,.nil,.b false,vi 0,vi 0,.nil,.nil,vi 0,vi 0,.nil,.b false,.nil,.b false,vi 0,vi 0,.nil,.nil,vi 0,vi 0,.nil]],some [.var 152 (b00 a)]]++a2Q a⟩
def b3W(a:p6):Option (j8×(List j9)×List o8):=
 ((a1j a).bind fun b4z=>some (b4z.1,b4z.2.1,b4z.2.2.1))
theorem d69(r):NF b50 r d9a (fun s=>b3W s):=fun a h=>PK<|rg<|j7 a2V a4b 1 h fun b4z h=>C6 a<|fE h
def b6O(n:j8)(prog:List r9):Option (j8×(List j9)×List o8):=
 ((a3F n).bind fun D2=>(bif (!D2) then some ((j8.mk 0 (v5.mk 0 []) [] 0 0 0 [] [] (m5.mk false (s3.mk 0 0) (m9.mk [] [] 0 0)) [] false [] (m5.mk false (s3.mk 0 0) (m9.mk [] [] 0 0)) []),[],[]) else ((a8l n).bind fun begin=>(bif n.j3 then ((a1j begin).bind fun W6=>some (W6.1,W6.2.1,W6.2.2.1)) else (bif (n.Seq==1000) then ((a1j begin).bind fun a4r=>some (a4r.1,a4r.2.1,a4r.2.2.1)) else ((a7C prog).bind fun D6=>(bif (!D6) then ((a1j begin).bind fun a4g=>some (a4g.1,a4g.2.1,a4g.2.2.1)) else ((b6C n).bind fun b0l=>((b5X b0l.i0 prog).bind fun C5=>(((bif (n.f0==2) then ((a6j (p6.mk (j8.mk begin.n.Id begin.n.Acc begin.n.a7 (m4 (begin.n.Seq+1)) begin.n.f0 begin.n.a8 begin.n.c9 begin.n.i4 begin.n.c8 begin.n.a0 true prog (m5.mk false (s3.mk n.Id (m4 (begin.n.Seq+1))) C5) begin.n.d6) begin.out begin.told)).bind fun Y7=>some (l8.brk Y7)) else (bif (n.f0==0) then ((a2k (p6.mk (j8.mk begin.n.Id begin.n.Acc begin.n.a7 (m4 (begin.n.Seq+1)) begin.n.f0 begin.n.a8 begin.n.c9 begin.n.i4 begin.n.c8 begin.n.a0 true prog (m5.mk false (s3.mk n.Id (m4 (begin.n.Seq+1))) C5) begin.n.d6) begin.out begin.told) (j9.mk 7 0 0 0 0 (m5.mk false (s3.mk n.Id (m4 (begin.n.Seq+1))) C5) [])).bind fun all=>some (l8.brk all)) else some (l8.brk (p6.mk (j8.mk begin.n.Id begin.n.Acc begin.n.a7 (m4 (begin.n.Seq+1)) begin.n.f0 begin.n.a8 begin.n.c9 begin.n.i4 begin.n.c8 begin.n.a0 true prog (m5.mk false (s3.mk n.Id (m4 (begin.n.Seq+1))) C5) begin.n.d6) begin.out begin.told)))):Option (l8 (j8×(List j9)×List o8) p6)).bind fun x=>x.go some fun j=>b3W j))))))))))
theorem d5A{n prog}:OK b50 [.agg (B3 n),l7 4 z8 prog] (b6O n prog):=
 p8 _ fun r h=>o9<|j7 a0A a6w 1 h fun D2 h=>j5 2 h (fun h=>rg<|fE h) (fun h=>rg<|j7 b3m b3U 1 h fun begin h=>rg<|j5 2 h (fun h=>rg<|j7 a2V a4b 1 h fun W6 h=>H8 begin.n<|C8 begin.out begin.told<|fE h) (fun h=>j5 7 h (fun h=>rg<|j7 a2V a4b 1 h fun a4r h=>H8 begin.n<|C8 begin.out begin.told<|fE h) (fun h=>j7 a3z b4r 9 h fun D6 h=>j5 11 h (fun h=>rg<|j7 a2V a4b 1 h fun a4g h=>H8 begin.n<|C8 begin.out begin.told<|fE h) (fun h=>rg4<|j7 d0b e6s 10 h fun b0l h=>j7 P5 e1v 13 h fun C5 h=>rg<|A0 h (d69 r) fun x1 h hc1=>rg<|j5 1 h (fun h=>rg<|j7 a8X b13 1 h fun Y7 h=>H8 begin.n<|C8 begin.out begin.told<|(o7 h hc1 fun hI=>sk [] [4,7] [(2,0),(9,0),(68,0),(68,1),(68,2),(68,3),(68,4)] hI)) (fun h=>rg<|j5 1 h (fun h=>rg<|j7 a0F a48 7 h fun all h=>H8 begin.n<|C8 begin.out begin.told<|(o7 h hc1 fun hI=>sk [] [4,7] [(2,0),(9,0),(76,0),(76,1),(76,2),(76,3),(76,4)] hI)) (fun h=>(o7 h hc1 fun hI=>s8 begin.n.d6<|sk [.frz (.cell 9 0 26) (none)] [4,7] [(2,0),(9,0),(9,1),(9,2),(9,3),(9,5),(9,6)] hI)))))))
def S7:FS (m8):=⟨94,Tryz.f94,[.val E8 om7],[none,none,none,none],[.val E8 om7,.val A4 [],.val [some 13] [],.val [some 5] []],fun r=>.agg (a7T r),fun _=>[none,none,none,none],Tryz.func94⟩
def c2L(w:m8)(n:j8)(told:List o8):(List j9)->KS:=fun Net1=>⟨S7.k 4 [false],(bs 3 (l7 5 z4 told::(.ptr 1 0 0::(bs 3 (.ptr 3 0 0::(bs 45 [])))))),[some [m7 65 27 B3 (w.b7.set n.Id.toNat n),.dead,m7 70 3 C4 w.g7,m7 51 5 z4 w.Told],some [.var 28 [.own 0 0 27 0 (w.b7.set n.Id.toNat n).length,.own 2 0 13 0 Net1.length,.own 0 2 3 0 w.g7.length,.own 0 3 5 0 w.Told.length]],some [m7 68 13 s7 Net1],some [.var 28 [.nil,.nil,.nil,.nil]]]⟩
def c3u(w:m8)(n:j8)(Net1:List j9):(List o8)->KS:=fun Told1=>⟨S7.k 6 [false,false],(bs 4 (.ptr 1 0 0::(bs 3 (.ptr 4 0 0::(bs 45 []))))),[some [m7 65 27 B3 (w.b7.set n.Id.toNat n),.dead,m7 70 3 C4 w.g7,.dead],some [.var 28 [.own 0 0 27 0 (w.b7.set n.Id.toNat n).length,.own 2 0 13 0 Net1.length,.own 0 2 3 0 w.g7.length,.own 3 0 5 0 Told1.length]],some [m7 68 13 s7 Net1],some [m7 51 5 z4 Told1],some [.var 28 [.nil,.nil,.nil,.nil]]]⟩
def b9N(w:m8)(n:j8)(Net1:List j9)(Told1:List o8):Option m8:=
 some (m8.mk (w.b7.set n.Id.toNat n) Net1 w.g7 Told1)
theorem e1f(w n Net1)(r):NF S7 r (c3u w n Net1) (fun s=>b9N w n Net1 s):=fun Told1 h=>PK<|rg<|I8 (w.b7.set n.Id.toNat n) Net1 w.g7 Told1<|fE h
def d3w(w:m8)(n:j8)(told:List o8)(Net1:List j9):((List o8)×Int)->KS:=fun (Told,v38)=>⟨S7.k 5 [false],(bs 4 (.ptr 1 0 0::(bs 3 (.ptr 3 0 0::(bs 27 (l7 5 z4 told::(vi (told.length:Int)::(vi v38::(bs 15 []))))))))),[some [m7 65 27 B3 (w.b7.set n.Id.toNat n),.dead,m7 70 3 C4 w.g7,.dead],some [.var 28 [.own 0 0 27 0 (w.b7.set n.Id.toNat n).length,.own 2 0 13 0 Net1.length,.own 0 2 3 0 w.g7.length,.own 4 0 5 0 Told.length]],some [m7 68 13 s7 Net1],some [.var 28 [.nil,.nil,.nil,.nil]],some [m7 51 5 z4 Told]]⟩
def e5M(w:m8)(n:j8)(told:List o8)(Net1:List j9)(v38:Int):(List o8)->KS:=fun b0B=>⟨S7.k 9 [false,true,true],(bs 4 (.ptr 1 0 0::(bs 3 (.ptr 4 0 0::(bs 27 (l7 5 z4 told::(vi (told.length:Int)::(vi v38::(bs 15 []))))))))),[some [m7 65 27 B3 (w.b7.set n.Id.toNat n),.dead,m7 70 3 C4 w.g7,.dead],some [.var 28 [.own 0 0 27 0 (w.b7.set n.Id.toNat n).length,.own 2 0 13 0 Net1.length,.own 0 2 3 0 w.g7.length,.own 3 0 5 0 b0B.length]],some [m7 68 13 s7 Net1],some [m7 51 5 z4 b0B],some [.var 28 [.nil,.nil,.nil,.nil]]]⟩
def b6N(v38:Int)(b0B:List o8):Option (l9 m8 ((List o8)×Int) (List o8)):=
 some (l9.nxt (b0B,m4 (v38+1)))
theorem d9B(w n told Net1 v38)(lc:K6 S7 (c3u w n Net1) (d3w w n told Net1)):NL lc (e5M w n told Net1 v38) (fun s=>b6N v38 s):=fun b0B h=>PK<|rg<|(lc.nx h fun hI=>sk [] [4,8,36,37,38] [(1,0),(2,0),(4,0),(3,0)] hI)
def a3f(told:List o8)(Told:List o8)(v38:Int):Option (l9 m8 ((List o8)×Int) (List o8)):=
 (bif decide (v38<(told.length:Int)) then ((idx told v38).bind fun a2v=>(((bif decide ((Told.length:Int)<60) then (s5 ((Told.length+1)*40<=140737488355328) (some (l8.brk (Told++[a2v])))) else some (l8.brk Told)):Option (l8 (l9 m8 ((List o8)×Int) (List o8)) (List o8))).bind fun x=>x.go some fun j=>b6N v38 j)) else some (l9.brk Told))
theorem d6M(w n told Net1):LQ S7 (c3u w n Net1) (d3w w n told Net1) (fun s=>a3f told s.1 s.2):=fun lc (Told,v38) h=>PK<|rg<|j5 0 h (fun h=>rg<|x8 z4 0 h fun a2v e8X h=>A0 h (d9B w n told Net1 v38 lc) fun x2 h hc2=>rg<|j5 3 h (fun h=>rg<|tk 3 []<|s9 h fun e1 h=>E5 4 18 51 5 40 z4 Told a2v e1<|D8 a2v<|(o7 h hc2 fun hI=>sk [] [4,8,36,37,38] [(1,0),(2,0),(18,0),(3,0)] hI)) (fun h=>(o7 h hc2 fun hI=>sk [] [4,8,36,37,38] [(1,0),(2,0),(4,0),(3,0)] hI))) (fun h=>(lc.bk h fun hI=>sk [] [4,8] [(1,0),(2,0),(4,0),(3,0)] hI))
def c0O(w:m8)(n:j8)(told:List o8)(Net1:List j9):Option m8:=
 ((s2 (fun s:(List o8)×Int=>a3f told s.1 s.2) (w.Told,0)).bind fun x=>x.go (fun r=>some r) fun s=>b9N w n Net1 s)
theorem e2N(w n told)(r):NF S7 r (c2L w n told) (fun s=>c0O w n told s):=fun Net1 h=>PK<|rg<|lp (d6M w n told Net1) h (fun _ h=>S7.rt h) (e1f w n Net1 r) fun hI=>sk [] [4,8,36,37,38] [(1,0),(2,0),(3,0),(0,3)] hI
def c5Z(w:m8)(n:j8)(list:List j9)(told:List o8):((List j9)×Int)->KS:=fun (d8,v21)=>⟨S7.k 3 [],(bs 3 (l7 5 z4 told::(.ptr 1 0 0::(bs 3 (.ptr 2 0 0::(bs 10 (l7 13 s7 list::(vi (list.length:Int)::(vi v21::(bs 32 [])))))))))),[some [m7 65 27 B3 (w.b7.set n.Id.toNat n),.dead,m7 70 3 C4 w.g7,m7 51 5 z4 w.Told],some [.var 28 [.own 0 0 27 0 (w.b7.set n.Id.toNat n).length,.own 3 0 13 0 d8.length,.own 0 2 3 0 w.g7.length,.own 0 3 5 0 w.Told.length]],some [.var 28 [.nil,.nil,.nil,.nil]],some [m7 68 13 s7 d8]]⟩
def e1V(w:m8)(n:j8)(list:List j9)(told:List o8)(v21:Int):(List j9)->KS:=fun b2d=>⟨S7.k 7 [true,true],(bs 3 (l7 5 z4 told::(.ptr 1 0 0::(bs 3 (.ptr 3 0 0::(bs 10 (l7 13 s7 list::(vi (list.length:Int)::(vi v21::(bs 32 [])))))))))),[some [m7 65 27 B3 (w.b7.set n.Id.toNat n),.dead,m7 70 3 C4 w.g7,m7 51 5 z4 w.Told],some [.var 28 [.own 0 0 27 0 (w.b7.set n.Id.toNat n).length,.own 2 0 13 0 b2d.length,.own 0 2 3 0 w.g7.length,.own 0 3 5 0 w.Told.length]],some [m7 68 13 s7 b2d],some [.var 28 [.nil,.nil,.nil,.nil]]]⟩
def b6d(v21:Int)(b2d:List j9):Option (l9 m8 ((List j9)×Int) (List j9)):=
 some (l9.nxt (b2d,m4 (v21+1)))
theorem e6r(w n list told v21)(lc:K6 S7 (c2L w n told) (c5Z w n list told)):NL lc (e1V w n list told v21) (fun s=>b6d v21 s):=fun b2d h=>PK<|rg<|(lc.nx h fun hI=>sk [] [3,4,8,19,20,21] [(1,0),(3,0),(2,0)] hI)
def a28(list:List j9)(d8:List j9)(v21:Int):Option (l9 m8 ((List j9)×Int) (List j9)):=
 (bif decide (v21<(list.length:Int)) then ((idx list v21).bind fun msg=>(((bif decide ((d8.length:Int)<40) then (s5 ((d8.length+1)*152<=140737488355328) (some (l8.brk (d8++[msg])))) else some (l8.brk d8)):Option (l8 (l9 m8 ((List j9)×Int) (List j9)) (List j9))).bind fun x=>x.go some fun j=>b6d v21 j)) else some (l9.brk d8))
theorem d5q(w n list told):LQ S7 (c2L w n told) (c5Z w n list told) (fun s=>a28 list s.1 s.2):=fun lc (d8,v21) h=>PK<|rg<|j5 0 h (fun h=>rg<|x8 s7 0 h fun msg hmsg h=>A0 h (e6r w n list told v21 lc) fun x2 h hc2=>rg<|j5 3 h (fun h=>rg<|tk 3 B0<|s9 h fun e2 h=>E5 4 17 68 13 152 s7 d8 msg e2<|D8 msg<|(o7 h hc2 fun hI=>sk [] [3,4,8,19,20,21] [(1,0),(17,0),(2,0)] hI)) (fun h=>(o7 h hc2 fun hI=>sk [] [3,4,8,19,20,21] [(1,0),(3,0),(2,0)] hI))) (fun h=>(lc.bk h fun hI=>sk [] [3,4,8] [(1,0),(3,0),(2,0)] hI))
def a3M(w:m8)(n:j8)(list:List j9)(told:List o8):Option m8:=
 ((idx w.b7 n.Id).bind fun node=>((s2 (fun s:(List j9)×Int=>a28 list s.1 s.2) (w.d8,0)).bind fun x=>x.go (fun r=>some r) fun s=>c0O w n told s))
theorem a8V{w n list told}:OK S7 [.agg (a7T w),.agg (B3 n),l7 13 s7 list,l7 5 z4 told] (a3M w n list told):=
 p8 _ fun r h=>o9<|A8 h fun node hnode h=>B2 hnode<|O5 65 27 B3 6 A4 n hnode<|rg<|lp (d5q w n list told) h (fun _ h=>S7.rt h) (e2N w n told r) fun hI=>om ((.own 0 0 27 0 w.b7.length:V)=.own 0 0 27 0 (w.b7.set n.Id.toNat n).length) (by simp)<|sk [.is (.cell 1 0 0) (.own 0 0 27 0 (w.b7.set n.Id.toNat n).length)] [3,4,8,19,20,21] [(1,0),(3,0),(0,1)] hI
def a8g:FS (Int):=⟨138,Tryz.f138,[.val [] []],[none,none],[.val [] [],.val [] []],fun r=>vi r,fun _=>[none,none],Tryz.func138⟩
def c59:Unit->KS:=fun _=>⟨a8g.k 4 [false,false],(bs 28 []),[some []]⟩
def c4y:Option Int:=
 some (-1)
theorem e1U(r):NF a8g r c59 (fun s=>c4y):=fun _ h=>PK<|rg<|fE h
def d8h(who:Int):Int->KS:=fun n=>⟨a8g.k 3 [false],(bs 1 (vi who::(bs 3 (vi n::(bs 22 []))))),[some []]⟩
def a1U(who:Int)(n:Int):Option (l9 Int Int Unit):=
 (bif decide (n<=3000) then (bif decide (n>0) then ((b1C n).bind fun a49=>(bif (a49==who) then some (l9.ret n) else some (l9.nxt (m4 (n+1))))) else some (l9.brk ())) else some (l9.brk ()))
theorem d41(who):LQ a8g c59 (d8h who) (fun s=>a1U who s):=fun lc n h=>PK<|rg<|j5 2 h (fun h=>j5 5 h (fun h=>rg<|j7 b9V c5g 1 h fun a49 h=>j5 3 h (fun h=>rg<|fL lc h) (fun h=>rg<|(lc.nx h fun hI=>sk [] [1,5] [] hI))) (fun h=>(lc.bk h fun hI=>sk [] [] [] hI))) (fun h=>(lc.bk h fun hI=>sk [] [] [] hI))
def b7F(bal:Int)(who:Int):Option Int:=
 (bif decide (bal<0) then some (-1) else ((D3 who 0 2).bind fun in_=>(bif (!in_) then some (-1) else ((s2 (fun s:Int=>a1U who s) (m4 (bal+1))).bind fun x=>x.go (fun r=>some r) fun s=>c4y))))
theorem d8t{bal who}:OK a8g [vi bal,vi who] (b7F bal who):=
 p8 _ fun r h=>o9<|j5 2 h (fun h=>rg<|fE h) (fun h=>j7 D1 E3 4 h fun in_ h=>j5 6 h (fun h=>rg<|fE h) (fun h=>rg<|lp (d41 who) h (fun _ h=>a8g.rt h) (e1U r) fun hI=>sk [] [1,5] [] hI))
def b7L:FS (v5×Bool):=⟨140,Tryz.f140,[.val [none,some 8] [],.val [] []],[none,none],[.val [none,some 8] [],.val [] []],fun r=>.tup [.agg (V8 r.1),.b r.2],fun _=>[none,none],Tryz.func140⟩
def a8y(a:v5)(bal:Int):Option (v5×Bool):=
 ((a87 a).bind fun O9=>(bif (!O9) then some ((v5.mk 0 []),false) else ((a4p a).bind fun P9=>((D3 bal 1 3000).bind fun in_=>(bif (!in_) then some (P9,false) else (bif decide (bal<a.i5) then some (P9,false) else some ((v5.mk bal P9.a0),true)))))))
theorem b9w{a bal}:OK b7L [.agg (V8 a),vi bal] (a8y a bal):=
 p8 _ fun r h=>o9<|j7 a4z c2P 1 h fun O9 h=>j5 2 h (fun h=>rg<|fE h) (fun h=>rg<|j7 a78 a8R 1 h fun P9 h=>rg<|j7 D1 E3 1 h fun in_ h=>j5 3 h (fun h=>rg<|s8 P9.a0<|fE h) (fun h=>j5 8 h (fun h=>rg<|s8 P9.a0<|fE h) (fun h=>o9<|s8 P9.a0<|fE h)))
def b8g:FS (j8×List j9):=⟨95,Tryz.f95,[.val A4 [],.val [some 13] []],[none],[.val A4 []],fun r=>.tup [.agg (B3 r.1),l7 13 s7 r.2],fun _=>[none],Tryz.func95⟩
def e2B:p6->KS:=fun a=>⟨b8g.k 12 [false,true],(bs 2 (.ptr 1 0 0::(bs 1 (.ptr 2 0 0::(bs 74 []))))),[some [],some [.var 65 [vi 0,vi 0,.nil,.nil,vi 0,vi 0,vi 0,.nil,.nil,.b false,vi 0,vi 0,.nil,.nil,vi 0,vi 0,.nil,.b false,.nil,.b false,vi 0,vi 0,.nil,.nil,vi 0,vi 0,.nil]],some [.var 152 (b00 a)]]++a2Q a⟩
def b11(a:p6):Option (j8×List j9):=
 ((a1j a).bind fun W6=>some (W6.1,W6.2.1))
theorem d9m(r):NF b8g r e2B (fun s=>b11 s):=fun a h=>PK<|rg<|j7 a2V a4b 1 h fun W6 h=>C6 a<|rg<|fE h
def b60(n:j8):Option (j8×List j9):=
 ((a3F n).bind fun D2=>(bif (!D2) then some ((j8.mk 0 (v5.mk 0 []) [] 0 0 0 [] [] (m5.mk false (s3.mk 0 0) (m9.mk [] [] 0 0)) [] false [] (m5.mk false (s3.mk 0 0) (m9.mk [] [] 0 0)) []),[]) else ((a8l n).bind fun begin=>((b7F n.Acc.i5 n.Id).bind fun a2j=>(((bif decide (a2j>=0) then ((b1G begin).bind fun follow=>((a8y follow.n.Acc a2j).bind fun U1=>((b0E (p6.mk (j8.mk follow.n.Id U1.1 follow.n.a7 follow.n.Seq 1 a2j follow.n.c9 follow.n.i4 follow.n.c8 follow.n.a0 follow.n.j3 follow.n.i7 follow.n.b8 follow.n.d6) follow.out follow.told)).bind fun E2=>((a2k (p6.mk (j8.mk E2.2.n.Id E2.2.n.Acc E2.2.n.a7 E2.2.n.Seq E2.2.n.f0 E2.2.n.a8 E2.1 E2.2.n.Acc.a0 E2.2.n.c8 E2.2.n.a0 E2.2.n.j3 E2.2.n.i7 E2.2.n.b8 E2.2.n.d6) E2.2.out E2.2.told) (j9.mk 1 0 0 a2j (n.a7.length:Int) (m5.mk false (s3.mk 0 0) (m9.mk [] [] 0 0)) [])).bind fun all=>some (l8.brk all))))) else some (l8.brk begin)):Option (l8 (j8×List j9) p6)).bind fun x=>x.go some fun j=>b11 j)))))
theorem d99{n}:OK b8g [.agg (B3 n)] (b60 n):=
 p8 _ fun r h=>o9<|j7 a0A a6w 1 h fun D2 h=>j5 2 h (fun h=>rg<|fE h) (fun h=>rg<|j7 b3m b3U 1 h fun begin h=>rg<|j7 a8g d8t 5 h fun a2j h=>A0 h (d9m r) fun x1 h hc1=>rg<|j5 1 h (fun h=>rg<|j7 b5F c1H 1 h fun follow h=>H8 begin.n<|C8 begin.out begin.told<|rg<|j7 b7L b9w 7 h fun U1 h=>N4<|j7 c0R c4I 2 h fun E2 h=>C6 follow<|o9<|j7 a0F a48 6 h fun all h=>I8 E2.2.n.a7 E2.1 E2.2.n.a0 E2.2.out<|s8 E2.2.told<|(o7 h hc1 fun hI=>sk [] [2,4] [(2,0),(8,0),(71,0),(71,1),(71,2),(71,3),(71,4)] hI)) (fun h=>(o7 h hc1 fun hI=>s8 begin.n.d6<|sk [.frz (.cell 8 0 26) (none)] [2,4] [(2,0),(8,0),(8,1),(8,2),(8,3),(8,5),(8,6)] hI)))
def b4w:FS (j8×(List j9)×List o8):=⟨96,Tryz.f96,[.val A4 [],.val [some 13] [],.val [some 5] []],[none],[.val A4 []],fun r=>.tup [.agg (B3 r.1),l7 13 s7 r.2.1,l7 5 z4 r.2.2],fun _=>[none],Tryz.func96⟩
def d8G:p6->KS:=fun a=>⟨b4w.k 7 [false,true],(bs 2 (.ptr 1 0 0::(bs 2 (.ptr 2 0 0::(bs 55 []))))),[some [],some [.var 65 [vi 0,vi 0,.nil,.nil,vi 0,vi 0,vi 0,.nil,.nil,.b false,vi 0,vi 0,.nil,.nil,vi 0,vi 0,.nil,.b false,.nil,.b false,vi 0,vi 0,.nil,.nil,vi 0,vi 0,.nil]],some [.var 152 (b00 a)]]++a2Q a⟩
def b31(a:p6):Option (j8×(List j9)×List o8):=
 ((a1j a).bind fun W6=>some (W6.1,W6.2.1,W6.2.2.1))
theorem e3j(r):NF b4w r d8G (fun s=>b31 s):=fun a h=>PK<|rg<|j7 a2V a4b 1 h fun W6 h=>C6 a<|fE h
def b3Q(n:j8):Option (j8×(List j9)×List o8):=
 ((a3F n).bind fun D2=>(bif (!D2) then some ((j8.mk 0 (v5.mk 0 []) [] 0 0 0 [] [] (m5.mk false (s3.mk 0 0) (m9.mk [] [] 0 0)) [] false [] (m5.mk false (s3.mk 0 0) (m9.mk [] [] 0 0)) []),[],[]) else ((a8l n).bind fun begin=>((a2k begin (j9.mk 8 0 0 0 (n.a7.length:Int) (m5.mk false (s3.mk 0 0) (m9.mk [] [] 0 0)) [])).bind fun all=>(((bif (n.f0==1) then ((a2k all (j9.mk 1 0 0 n.a8 (n.a7.length:Int) (m5.mk false (s3.mk 0 0) (m9.mk [] [] 0 0)) [])).bind fun c9N=>some (l8.brk c9N)) else (bif (n.f0==2) then ((a6j all).bind fun Y7=>some (l8.brk Y7)) else (bif (n.f0==3) then ((a2k all (j9.mk 3 0 0 n.a8 (n.a7.length:Int) n.c8 [])).bind fun c8z=>some (l8.brk c8z)) else (bif n.j3 then ((a2k all (j9.mk 7 0 0 0 0 n.b8 [])).bind fun d2Y=>some (l8.brk d2Y)) else some (l8.brk all))))):Option (l8 (j8×(List j9)×List o8) p6)).bind fun x=>x.go some fun j=>b31 j)))))
theorem e5B{n}:OK b4w [.agg (B3 n)] (b3Q n):=
 p8 _ fun r h=>o9<|j7 a0A a6w 1 h fun D2 h=>j5 2 h (fun h=>rg<|fE h) (fun h=>rg<|j7 b3m b3U 1 h fun begin h=>o9<|j7 a0F a48 3 h fun all h=>H8 begin.n<|C8 begin.out begin.told<|A0 h (e3j r) fun x1 h hc1=>rg<|j5 3 h (fun h=>rg<|j7 a0F a48 5 h fun c9N h=>C6 all<|(o7 h hc1 fun hI=>sk [] [2,5] [(2,0),(9,0),(28,0),(28,1),(28,2),(28,3),(28,4)] hI)) (fun h=>rg<|j5 3 h (fun h=>rg<|j7 a8X b13 1 h fun Y7 h=>C6 all<|(o7 h hc1 fun hI=>sk [] [2,5] [(2,0),(9,0),(28,0),(28,1),(28,2),(28,3),(28,4)] hI)) (fun h=>rg<|j5 3 h (fun h=>rg<|j7 a0F a48 7 h fun c8z h=>C6 all<|(o7 h hc1 fun hI=>sk [] [2,5] [(2,0),(9,0),(38,0),(38,1),(38,2),(38,3),(38,4)] hI)) (fun h=>rg<|j5 2 h (fun h=>rg<|j7 a0F a48 4 h fun d2Y h=>C6 all<|(o7 h hc1 fun hI=>sk [] [2,5] [(2,0),(9,0),(38,0),(38,1),(38,2),(38,3),(38,4)] hI)) (fun h=>(o7 h hc1 fun hI=>sk [] [2,5] [(2,0),(9,0),(18,0),(18,1),(18,2),(18,3),(18,4)] hI))))))
def d04:FS (j8):=⟨97,Tryz.f97,[.val A4 []],[none],[.val A4 []],fun r=>.agg (B3 r),fun _=>[none],Tryz.func97⟩
def b45(n:j8):Option j8:=
 ((a3F n).bind fun D2=>(bif (!D2) then some (j8.mk 0 (v5.mk 0 []) [] 0 0 0 [] [] (m5.mk false (s3.mk 0 0) (m9.mk [] [] 0 0)) [] false [] (m5.mk false (s3.mk 0 0) (m9.mk [] [] 0 0)) []) else ((a8o (j8.mk n.Id n.Acc n.a7 n.Seq 0 0 [] [] (m5.mk false (s3.mk 0 0) (m9.mk [] [] 0 0)) [] false [] (m5.mk false (s3.mk 0 0) (m9.mk [] [] 0 0)) [])).bind fun W5=>some W5)))
theorem d4p{n}:OK d04 [.agg (B3 n)] (b45 n):=
 p8 _ fun r h=>o9<|j7 a0A a6w 1 h fun D2 h=>j5 2 h (fun h=>rg<|fE h) (fun h=>rg<|j7 b0q b37 9 h fun W5 h=>H8 W5<|fE h)
def a6N:FS (m8):=⟨44,Tryz.f44,[.val E8 om7],[none,none],[.val E8 om7,.val [none,none,some 4] []],fun r=>.agg (a7T r),fun _=>[none,none],Tryz.func44⟩
def e7f:m8->KS:=fun w1=>⟨a6N.k 9 [true,false,true],(bs 2 (.ptr 1 0 0::(bs 1 (.ptr 6 0 0::(bs 86 []))))),[some [.dead,.dead,.dead,.dead],some [.var 28 [.own 2 0 27 0 w1.b7.length,.own 3 0 13 0 w1.d8.length,.own 4 0 3 0 w1.g7.length,.own 5 0 5 0 w1.Told.length]],some [m7 65 27 B3 w1.b7],some [m7 68 13 s7 w1.d8],some [m7 70 3 C4 w1.g7],some [m7 51 5 z4 w1.Told],some [.var 28 [.nil,.nil,.nil,.nil]]]⟩
def b7A(w1:m8):Option m8:=
 some w1
theorem e8E(r):NF a6N r e7f (fun s=>b7A s):=fun w1 h=>PK<|rg<|z7 w1<|fE h
def a5c(w:m8)(e_:w9):Option m8:=
 ((idx w.b7 e_.A).bind fun node=>(((bif (e_.a6==1) then (bif decide ((w.g7.length:Int)>=60) then some (l8.ret w) else ((b6O node e_.i7).bind fun G4=>((a3M w G4.1 G4.2.1 G4.2.2).bind fun a17=>(bif (G4.1.Seq != node.Seq) then (s5 ((a17.g7.length+1)*40<=140737488355328) (some (l8.brk (m8.mk a17.b7 a17.d8 (a17.g7++[(C1.mk (s3.mk node.Id G4.1.Seq) e_.i7)]) a17.Told)))) else some (l8.brk a17))))) else (bif (e_.a6==5) then ((b60 node).bind fun J3=>((a3M w J3.1 J3.2 []).bind fun b0I=>some (l8.brk b0I))) else (bif (e_.a6==6) then ((b3Q node).bind fun J4=>((a3M w J4.1 J4.2.1 J4.2.2).bind fun d1T=>some (l8.brk d1T))) else (bif (e_.a6==7) then ((b45 node).bind fun P2=>((a3M w P2 [] []).bind fun c8A=>some (l8.brk c8A))) else some (l8.brk w))))):Option (l8 m8 m8)).bind fun x=>x.go some fun j=>b7A j))
theorem b8j{w e_}:OK a6N [.agg (a7T w),.agg (K8 e_)] (a5c w e_):=
 p8 _ fun r h=>o9<|A8 h fun node hnode h=>B2 hnode<|H4 B3 5 hnode<|rg<|A0 h (e8E r) fun x1 h hc1=>rg<|j5 1 h (fun h=>rg<|j5 3 h (fun h=>rg<|(B9 h hc1 fun h=>z7 w<|fE h)) (fun h=>rg<|j7 b50 d5A 3 h fun G4 h=>rg<|j7 S7 a8V 4 h fun a17 h=>z7 w<|rg<|j5 4 h (fun h=>rg<|tk 10 [none,none,some 4]<|s9 h fun e1 h=>E5 11 54 70 3 40 C4 a17.g7 (C1.mk (s3.mk node.Id G4.1.Seq) e_.i7) e1<|D8 (C1.mk (s3.mk node.Id G4.1.Seq) e_.i7)<|(o7 h hc1 fun hI=>sk [] [2,4] [(1,0),(36,0),(36,1),(54,0),(36,3),(3,0)] hI)) (fun h=>(o7 h hc1 fun hI=>sk [] [2,4] [(1,0),(36,0),(36,1),(36,2),(36,3),(3,0)] hI)))) (fun h=>rg<|j5 1 h (fun h=>rg<|j7 b8g d99 1 h fun J3 h=>rg<|j7 S7 a8V 3 h fun b0I h=>z7 w<|(o7 h hc1 fun hI=>sk [] [2,4] [(1,0),(29,0),(29,1),(29,2),(29,3),(3,0)] hI)) (fun h=>rg<|j5 1 h (fun h=>rg<|j7 b4w e5B 1 h fun J4 h=>rg<|j7 S7 a8V 4 h fun d1T h=>z7 w<|(o7 h hc1 fun hI=>sk [] [2,4] [(1,0),(34,0),(34,1),(34,2),(34,3),(3,0)] hI)) (fun h=>rg<|j5 1 h (fun h=>rg<|j7 d04 d4p 2 h fun P2 h=>j7 S7 a8V 3 h fun c8A h=>z7 w<|(o7 h hc1 fun hI=>sk [] [2,4] [(1,0),(25,0),(25,1),(25,2),(25,3),(3,0)] hI)) (fun h=>(o7 h hc1 fun hI=>sk [] [2,4] [(1,0),(0,0),(0,1),(0,2),(0,3),(3,0)] hI)))))
def c1g:FS (List j9):=⟨98,Tryz.f98,[.val [some 13] [some 68]],[none,none],[.val [some 13] [],.val [] []],fun r=>u0 68 13 s7 r,fun _=>[none,none],Tryz.func98⟩
def b2v(list:List j9)(at_:Int):Option (List j9):=
 (s5 ((0:Int)<=at_/\at_<=(list.length:Int)) ((s5 ((([]:List j9).length+((list.drop 0).take (at_.toNat-0)).length)*152<=140737488355328) ((s5 ((0:Int)<=m4 (at_+1)/\m4 (at_+1)<=(list.length:Int)) ((s5 (((([]:List j9)++((list.drop 0).take (at_.toNat-0))).length+((list.drop (m4 (at_+1)).toNat).take (list.length-(m4 (at_+1)).toNat)).length)*152<=140737488355328) (some ((([]:List j9)++((list.drop 0).take (at_.toNat-0)))++((list.drop (m4 (at_+1)).toNat).take (list.length-(m4 (at_+1)).toNat)))))))))))
theorem d0e{list at_}:OK c1g [l7 13 s7 list,vi at_] (b2v list at_):=
 p8 _ fun r h=>o9<|tk 0 B0<|s9 h fun e1 h=>om (V.sl 13 (at_.toNat-0) (((list.map s7).drop 0).take (at_.toNat-0))=l7 13 s7 ((list.drop 0).take (at_.toNat-0))) (b1f e1)<|ob e1.1<|ob e1.2<|tl (3,{v:=some (l7 13 s7 ((list.drop 0).take (at_.toNat-0)))})<|s9 h fun e2 h=>om (V.own 6 0 13 0 (([]:List j9).length+((list.drop 0).take (at_.toNat-0)).length)=.own 6 0 13 0 (([]:List j9)++((list.drop 0).take (at_.toNat-0))).length) (by first|exact congrArg (V.own 6 0 13 0) e91.symm|simp)<|om (s4.row 68 13 (([]:List j9).length+((list.drop 0).take (at_.toNat-0)).length) (([]:List j9).map s7++((list.drop 0).take (at_.toNat-0)).map s7)=m7 68 13 s7 (([]:List j9)++((list.drop 0).take (at_.toNat-0)))) (by first|exact c2h rfl rfl|simp [m7])<|A6 j9<|ob e2<|tl (4,{v:=some (.own 6 0 13 0 (([]:List j9)++((list.drop 0).take (at_.toNat-0))).length),e:=some (m7 68 13 s7 (([]:List j9)++((list.drop 0).take (at_.toNat-0))))})<|s9 h fun e3 h=>om (V.sl 13 (list.length-(m4 (at_+1)).toNat) (((list.map s7).drop (m4 (at_+1)).toNat).take (list.length-(m4 (at_+1)).toNat))=l7 13 s7 ((list.drop (m4 (at_+1)).toNat).take (list.length-(m4 (at_+1)).toNat))) (b2U e3)<|ob e3.1<|ob e3.2<|tl (8,{v:=some (l7 13 s7 ((list.drop (m4 (at_+1)).toNat).take (list.length-(m4 (at_+1)).toNat)))})<|s9 h fun e4 h=>apL 9 11 68 13 152 s7 (([]:List j9)++((list.drop 0).take (at_.toNat-0))) ((list.drop (m4 (at_+1)).toNat).take (list.length-(m4 (at_+1)).toNat)) e4<|s8 ((([]:List j9)++((list.drop 0).take (at_.toNat-0)))++((list.drop (m4 (at_+1)).toNat).take (list.length-(m4 (at_+1)).toNat)))<|fE h
def b5t:FS (p6):=⟨147,Tryz.f147,[],[some (0,.ptr H0 L1),none],[.ptr H0 L1,.val [] []],fun _=>.tup [],fun r=>[some (.optr 152 (J5 r)),none],Tryz.func147⟩
def a9H(a:p6)(bal:Int):Option p6:=
 (bif (a.n.f0 != 0) then (bif decide (bal>a.n.a8) then ((b1G a).bind fun follow=>some follow) else some a) else some a)
theorem c0m{a bal}:OK b5t [.optr 152 (J5 a),vi bal] (a9H a bal):=
 p8 _ fun r h=>rg<|j5 6 h (fun h=>j5 14 h (fun h=>rg<|j7 b5F c1H 1 h fun follow h=>C6 a<|C6 follow<|fE h) (fun h=>C6 a<|fE h)) (fun h=>C6 a<|fE h)
def b4C:FS (p6):=⟨142,Tryz.f142,[],[some (0,.ptr H0 L1),none],[.ptr H0 L1,.val B0 []],fun _=>.tup [],fun r=>[some (.optr 152 (J5 r)),none],Tryz.func142⟩
def e5Y(m:j9)(yield:p6):(List m6)->KS:=fun b7s=>⟨b4C.k 8 [false,true],(.ptr 0 0 0::(bs 2 (.ptr 6 0 0::(bs 2 (l7 8 p7 b7s::(bs 54 [])))))),[some [.var 152 (b0D yield),.dead,.dead,.dead,.dead,.dead]]++a2Q yield++[some [.var 68 (a0f m)]]⟩
def b5G(m:j9)(yield:p6)(b7s:List m6):Option p6:=
 ((a22 yield m.c9 (j9.mk 2 0 0 m.a8 m.g8 (m5.mk false (s3.mk 0 0) (m9.mk [] [] 0 0)) b7s)).bind fun a7g=>some a7g)
theorem d7W(m yield)(r):NF b4C r (e5Y m yield) (fun s=>b5G m yield s):=fun b7s h=>PK<|rg<|j7 a5O a8s 9 h fun a7g h=>C6 yield<|C6 a7g<|fE h
def b5f(a:p6)(m:j9):Option p6:=
 ((a8y a.n.Acc m.a8).bind fun U1=>(bif (!U1.2) then ((a22 a m.c9 (j9.mk 6 0 0 a.n.Acc.i5 0 (m5.mk false (s3.mk 0 0) (m9.mk [] [] 0 0)) [])).bind fun Y5=>some Y5) else ((a9H (p6.mk (j8.mk a.n.Id U1.1 a.n.a7 a.n.Seq a.n.f0 a.n.a8 a.n.c9 a.n.i4 a.n.c8 a.n.a0 a.n.j3 a.n.i7 a.n.b8 a.n.d6) a.out a.told) m.a8).bind fun yield=>(((bif decide (m.g8<(U1.1.a0.length:Int)) then (s5 ((0:Int)<=m.g8/\m.g8<=(U1.1.a0.length:Int)) (some (l8.brk ((U1.1.a0.drop m.g8.toNat).take (U1.1.a0.length-m.g8.toNat))))) else some (l8.brk [])):Option (l8 p6 (List m6))).bind fun x=>x.go some fun j=>b5G m yield j))))
theorem e4J{a m}:OK b4C [.optr 152 (J5 a),.agg (s7 m)] (b5f a m):=
 p8 _ fun r h=>o9<|j7 b7L b9w 7 h fun U1 h=>rg<|j5 1 h (fun h=>rg<|j7 a5O a8s 10 h fun Y5 h=>C6 a<|C6 Y5<|fE h) (fun h=>o9<|j7 b5t c0m 3 h fun yield h=>C6 a<|rg<|A0 h (d7W m yield r) fun x1 h hc1=>rg<|j5 5 h (fun h=>rg<|s9 h fun e1 h=>om (V.sl 8 (U1.1.a0.length-m.g8.toNat) (((U1.1.a0.map p7).drop m.g8.toNat).take (U1.1.a0.length-m.g8.toNat))=l7 8 p7 ((U1.1.a0.drop m.g8.toNat).take (U1.1.a0.length-m.g8.toNat))) (b2U e1)<|ob e1.1<|ob e1.2<|tl (4,{v:=some (l7 8 p7 ((U1.1.a0.drop m.g8.toNat).take (U1.1.a0.length-m.g8.toNat)))})<|(o7 h hc1 fun hI=>sk [] [0,3,6] [(27,0),(27,1),(27,2),(27,3),(27,4),(1,0)] hI)) (fun h=>(o7 h hc1 fun hI=>sk [.frz (.tmp 6) (some 8)] [0,3,6] [(27,0),(27,1),(27,2),(27,3),(27,4),(1,0)] hI)))
def a2O:FS (List m6):=⟨175,Tryz.f175,[.val [some 8] []],[none,none],[.val [some 8] [],.val [some 8] []],fun r=>l7 8 p7 r,fun _=>[none,none],Tryz.func175⟩
def b6t:(List m6)->KS:=fun out1=>⟨a2O.k 5 [false,false],(bs 5 (.own 1 0 8 0 out1.length::(bs 67 []))),[some [],some [m7 130 8 p7 out1]]⟩
def b9L(out1:List m6):Option (List m6):=
 ((a6O out1).bind fun a0i=>some a0i)
theorem d40(r):NF a2O r b6t (fun s=>b9L s):=fun out1 h=>PK<|rg<|j7 a2X b8a 1 h fun a0i h=>C8 out1 a0i<|fE h
def c1K(a:List m6)(b:List m6):((List m6)×Int)->KS:=fun (out,i)=>⟨a2O.k 4 [false],(l7 8 p7 a::(l7 8 p7 b::(bs 3 (.own 1 0 8 0 out.length::(vi i::(bs 66 [])))))),[some [],some [m7 130 8 p7 out]]⟩
def d30(a:List m6)(b:List m6)(out:List m6)(i:Int):Unit->KS:=fun _=>⟨a2O.k 5 [false,true],(l7 8 p7 a::(l7 8 p7 b::(bs 3 (.own 1 0 8 0 out.length::(vi i::(bs 66 [])))))),[some [],some [m7 130 8 p7 out]]⟩
def e6y(a:List m6)(b:List m6)(i:Int):(List m6)->KS:=fun out2=>⟨a2O.k 7 [false,true,true],(l7 8 p7 a::(l7 8 p7 b::(bs 3 (.own 1 0 8 0 out2.length::(vi i::(bs 66 [])))))),[some [],some [m7 130 8 p7 out2]]⟩
def b9x(i:Int)(out2:List m6):Option (l9 (List m6) ((List m6)×Int) (List m6)):=
 some (l9.nxt (out2,m4 (i+1)))
theorem d8V(a b i)(lc:K6 a2O b6t (c1K a b)):NL lc (e6y a b i) (fun s=>b9x i s):=fun out2 h=>PK<|rg<|(lc.nx h fun hI=>sk [] [0,1,5,6] [(1,0)] hI)
def b6s(a:List m6)(b:List m6)(out:List m6)(i:Int):Option (l9 (List m6) ((List m6)×Int) (List m6)):=
 (((bif decide (i>=(a.length:Int)) then ((idx b i).bind fun vote=>(s5 ((out.length+1)*96<=140737488355328) (some (l8.brk (out++[vote]))))) else (bif decide (i>=(b.length:Int)) then ((idx a i).bind fun Q5=>(s5 ((out.length+1)*96<=140737488355328) (some (l8.brk (out++[Q5]))))) else ((idx a i).bind fun b1I=>((idx b i).bind fun b3H=>(bif decide (b1I.a8>=b3H.a8) then (s5 ((out.length+1)*96<=140737488355328) (some (l8.brk (out++[b1I])))) else (s5 ((out.length+1)*96<=140737488355328) (some (l8.brk (out++[b3H]))))))))):Option (l8 (l9 (List m6) ((List m6)×Int) (List m6)) (List m6))).bind fun x=>x.go some fun j=>b9x i j)
theorem e2R(a b out i)(lc:K6 a2O b6t (c1K a b)):NL lc (d30 a b out i) (fun s=>b6s a b out i):=fun _ h=>PK<|A0 h (d8V a b i lc) fun x2 h hc2=>rg<|j5 4 h (fun h=>rg<|x8 p7 3 h fun vote J6 h=>tk 5 O7<|s9 h fun e1 h=>E5 6 13 130 8 96 p7 out vote e1<|D8 vote<|(o7 h hc2 fun hI=>sk [] [0,1,5,6] [(13,0)] hI)) (fun h=>rg<|j5 4 h (fun h=>rg<|x8 p7 3 h fun Q5 a3C h=>tk 5 O7<|s9 h fun e2 h=>E5 6 31 130 8 96 p7 out Q5 e2<|D8 Q5<|(o7 h hc2 fun hI=>sk [] [0,1,5,6] [(31,0)] hI)) (fun h=>x8 p7 7 h fun b1I d6A h=>x8 p7 12 h fun b3H d7k h=>j5 17 h (fun h=>rg<|K3 p7 3 d6A<|tk 5 O7<|s9 h fun e3 h=>E5 6 31 130 8 96 p7 out b1I e3<|D8 b1I<|(o7 h hc2 fun hI=>sk [] [0,1,5,6] [(31,0)] hI)) (fun h=>rg<|K3 p7 3 d7k<|tk 5 O7<|s9 h fun e4 h=>E5 6 31 130 8 96 p7 out b3H e4<|D8 b3H<|(o7 h hc2 fun hI=>sk [] [0,1,5,6] [(31,0)] hI))))
def a5j(a:List m6)(b:List m6)(out:List m6)(i:Int):Option (l9 (List m6) ((List m6)×Int) (List m6)):=
 (((bif decide (i<(a.length:Int)) then some (l8.brk ()) else (bif decide (i<(b.length:Int)) then some (l8.brk ()) else some (l8.ret (l9.brk out)))):Option (l8 (l9 (List m6) ((List m6)×Int) (List m6)) Unit)).bind fun x=>x.go some fun j=>b6s a b out i)
theorem d7j(a b):LQ a2O b6t (c1K a b) (fun s=>a5j a b s.1 s.2):=fun lc (out,i) h=>PK<|A0 h (e2R a b out i lc) fun x2 h hc2=>rg<|j5 4 h (fun h=>(o7 h hc2 fun hI=>sk [] [0,1,5,6] [(1,0)] hI)) (fun h=>j5 9 h (fun h=>(o7 h hc2 fun hI=>sk [] [0,1,5,6] [(1,0)] hI)) (fun h=>(B9 h hc2 fun h=>(lc.bk h fun hI=>sk [] [5] [(1,0)] hI))))
def b7B(a:List m6)(b:List m6):Option (List m6):=
 ((a5U a).bind fun K4=>(bif (!K4) then some [] else ((a5U b).bind fun d23=>(bif (!d23) then some [] else ((s2 (fun s:(List m6)×Int=>a5j a b s.1 s.2) ([],0)).bind fun x=>x.go (fun r=>some r) fun s=>b9L s)))))
theorem e6h{a b}:OK a2O [l7 8 p7 a,l7 8 p7 b] (b7B a b):=
 p8 _ fun r h=>o9<|j7 a2y b1N 1 h fun K4 h=>j5 3 h (fun h=>rg<|fE h) (fun h=>j7 a2y b1N 5 h fun d23 h=>j5 7 h (fun h=>rg<|fE h) (fun h=>o9<|lp (d7j a b) h (fun _ h=>a2O.rt h) (d40 r) fun hI=>sk [.own (.tmp 5) 130 8] [0,1,5,6] [(12,0)] hI))
def a3k:FS (Int):=⟨176,Tryz.f176,[.val [] []],[none],[.val [some 1] []],fun r=>vi r,fun _=>[none],Tryz.func176⟩
def c3R:Int->KS:=fun n1=>⟨a3k.k 4 [false],(bs 3 (vi n1::(bs 13 []))),[some []]⟩
def c9V(n1:Int):Option Int:=
 some n1
theorem e4a(r):NF a3k r c3R (fun s=>c9V s):=fun n1 h=>PK<|rg<|fE h
def c5x(list:List Bool):(Int×Int)->KS:=fun (n,v8)=>⟨a3k.k 3 [],(bs 3 (vi n::(bs 2 (l7 1 eB list::(vi (list.length:Int)::(vi v8::(bs 8 []))))))),[some []]⟩
def e9s(list:List Bool)(v8:Int):Int->KS:=fun n2=>⟨a3k.k 7 [true,true],(bs 3 (vi n2::(bs 2 (l7 1 eB list::(vi (list.length:Int)::(vi v8::(bs 8 []))))))),[some []]⟩
def c0l(v8:Int)(n2:Int):Option (l9 Int (Int×Int) Int):=
 some (l9.nxt (n2,m4 (v8+1)))
theorem e6G(list v8)(lc:K6 a3k c3R (c5x list)):NL lc (e9s list v8) (fun s=>c0l v8 s):=fun n2 h=>PK<|rg<|(lc.nx h fun hI=>sk [] [3,6,7,8] [] hI)
def a3R(list:List Bool)(n:Int)(v8:Int):Option (l9 Int (Int×Int) Int):=
 (bif decide (v8<(list.length:Int)) then ((idx list v8).bind fun y=>(((bif y then some (l8.brk (m4 (n+1))) else some (l8.brk n)):Option (l8 (l9 Int (Int×Int) Int) Int)).bind fun x=>x.go some fun j=>c0l v8 j)) else some (l9.brk n))
theorem d4I(list):LQ a3k c3R (c5x list) (fun s=>a3R list s.1 s.2):=fun lc (n,v8) h=>PK<|rg<|j5 0 h (fun h=>rg<|x8 eB 0 h fun y hy h=>A0 h (e6G list v8 lc) fun x2 h hc2=>rg<|j5 0 h (fun h=>rg<|(o7 h hc2 fun hI=>sk [] [3,6,7,8] [] hI)) (fun h=>(o7 h hc2 fun hI=>sk [] [3,6,7,8] [] hI))) (fun h=>(lc.bk h fun hI=>sk [] [3] [] hI))
def b28(list:List Bool):Option Int:=
 ((s2 (fun s:Int×Int=>a3R list s.1 s.2) (0,0)).bind fun x=>x.go (fun r=>some r) fun s=>c9V s)
theorem c85{list}:OK a3k [l7 1 eB list] (b28 list):=
 p8 _ fun r h=>N4<|lp (d4I list) h (fun _ h=>a3k.rt h) (e4a r) fun hI=>sk [] [3,6,7,8] [] hI
def c62:FS (p6):=⟨143,Tryz.f143,[],[some (0,.ptr H0 L1),none],[.ptr H0 L1,.val B0 []],fun _=>.tup [],fun r=>[some (.optr 152 (J5 r)),none],Tryz.func143⟩
def b44(a:p6)(m:j9):Option p6:=
 (bif (a.n.f0 != 1) then some a else (bif (m.a8 != a.n.a8) then some a else ((idx a.n.c9 m.c9).bind fun y=>(s5 (0<=m.g8/\m.g8*96<=140737488355328) ((s5 (((e9O m.g8.toNat (m6.mk 0 (m5.mk false (s3.mk 0 0) (m9.mk [] [] 0 0)))).length+m.a0.length)*96<=140737488355328) (((b7B a.n.i4 ((e9O m.g8.toNat (m6.mk 0 (m5.mk false (s3.mk 0 0) (m9.mk [] [] 0 0))))++m.a0)).bind fun c0A=>((b28 (a.n.c9.set m.c9.toNat true)).bind fun b2b=>(bif decide (b2b>=2) then ((a6j (p6.mk (j8.mk a.n.Id a.n.Acc a.n.a7 a.n.Seq 2 a.n.a8 [] c0A a.n.c8 a.n.a0 a.n.j3 a.n.i7 a.n.b8 a.n.d6) a.out a.told)).bind fun Y7=>some Y7) else some (p6.mk (j8.mk a.n.Id a.n.Acc a.n.a7 a.n.Seq a.n.f0 a.n.a8 (a.n.c9.set m.c9.toNat true) c0A a.n.c8 a.n.a0 a.n.j3 a.n.i7 a.n.b8 a.n.d6) a.out a.told)))))))))))
theorem e82{a m}:OK c62 [.optr 152 (J5 a),.agg (s7 m)] (b44 a m):=
 p8 _ fun r h=>o9<|j5 6 h (fun h=>C6 a<|fE h) (fun h=>j5 15 h (fun h=>C6 a<|fE h) (fun h=>rg<|A8 h fun y hy h=>B2 hy<|O5 4 1 eB 8 [] true hy<|rg<|s9 h fun e1 h=>U0 8 35 130 8 96 p7 (m6.mk 0 (m5.mk false (s3.mk 0 0) (m9.mk [] [] 0 0))) b2V (.ck O7) e1 (by decide) (by rfl)<|s9 h fun e2 h=>apL 11 38 130 8 96 p7 (e9O m.g8.toNat (m6.mk 0 (m5.mk false (s3.mk 0 0) (m9.mk [] [] 0 0)))) m.a0 e2<|j7 a2O e6h 12 h fun c0A h=>s8 ((e9O m.g8.toNat (m6.mk 0 (m5.mk false (s3.mk 0 0) (m9.mk [] [] 0 0))))++m.a0)<|rg<|R4 a3k c85 5 1 h fun b2b h=>om (a.n.c9.length=(a.n.c9.set m.c9.toNat true).length) (by simp)<|j5 6 h (fun h=>N4<|j7 a8X b13 1 h fun Y7 h=>I8 a.n.a7 a.n.a0 a.out a.told<|C6 Y7<|fE h) (fun h=>s8 a.n.a7<|om (a.n.c9.length=(a.n.c9.set m.c9.toNat true).length) (by simp)<|L6 a.n.a0 a.out a.told<|fE h)))
def c7b:FS (p6):=⟨144,Tryz.f144,[],[some (0,.ptr H0 L1),none],[.ptr H0 L1,.val B0 []],fun _=>.tup [],fun r=>[some (.optr 152 (J5 r)),none],Tryz.func144⟩
def b6A(a:p6)(m:j9):Option p6:=
 ((b1Y a.n.Acc m.a8 m.g8 m.g9).bind fun a6V=>(bif (!a6V.2) then ((a22 a m.c9 (j9.mk 6 0 0 a.n.Acc.i5 0 (m5.mk false (s3.mk 0 0) (m9.mk [] [] 0 0)) [])).bind fun Y5=>some Y5) else ((a9H (p6.mk (j8.mk a.n.Id a6V.1 a.n.a7 a.n.Seq a.n.f0 a.n.a8 a.n.c9 a.n.i4 a.n.c8 a.n.a0 a.n.j3 a.n.i7 a.n.b8 a.n.d6) a.out a.told) m.a8).bind fun yield=>((a22 yield m.c9 (j9.mk 4 0 0 m.a8 m.g8 (m5.mk false (s3.mk 0 0) (m9.mk [] [] 0 0)) [])).bind fun a7g=>some a7g))))
theorem e5S{a m}:OK c7b [.optr 152 (J5 a),.agg (s7 m)] (b6A a m):=
 p8 _ fun r h=>o9<|j7 a4V d12 11 h fun a6V h=>rg<|j5 1 h (fun h=>rg<|j7 a5O a8s 10 h fun Y5 h=>C6 a<|C6 Y5<|fE h) (fun h=>o9<|j7 b5t c0m 3 h fun yield h=>C6 a<|rg<|j7 a5O a8s 8 h fun a7g h=>C6 yield<|C6 a7g<|fE h)
def a1D:FS (p6):=⟨177,Tryz.f177,[],[some (0,.ptr H0 L1),none],[.ptr H0 L1,.val I1 []],fun _=>.tup [],fun r=>[some (.optr 152 (J5 r)),none],Tryz.func177⟩
def e73:p6->KS:=fun a1=>⟨a1D.k 6 [true],(.ptr 0 0 0::(bs 123 [])),[some ([.var 152 (d1c a1),.dead,m7 4 1 eB a1.n.c9,.dead]++c4z a1)]++d2o a1⟩
def d3i:p6->KS:=fun a2=>⟨a1D.k 16 [true,true,true],(.ptr 0 0 0::(bs 123 [])),[some [.var 152 (e8m a2),.dead,m7 4 1 eB a2.n.c9,.dead,m7 68 13 s7 a2.out,.dead]]++d90 a2⟩
def b8k(a2:p6):Option p6:=
 ((a6j a2).bind fun Y7=>some Y7)
theorem e4p(r):NF a1D r d3i (fun s=>b8k s):=fun a2 h=>PK<|rg<|j7 a8X b13 1 h fun Y7 h=>C6 a2<|C6 Y7<|fE h
def e9B(a1:p6)(y:Int):Int->KS:=fun a9j=>⟨a1D.k 12 [true,true,true],(.ptr 0 0 0::(bs 6 (.ptr 3 0 0::(bs 116 [])))),[some ([.var 152 (d1c a1),.dead,m7 4 1 eB a1.n.c9,.dead]++c4z a1)]++d2o a1++[some [.var 51 [vi a1.n.Id,vi a1.n.b8.a5.d7,vi a1.n.b8.a5.Seq,vi y,vi a9j]]]⟩
def b8t(a1:p6)(y:Int)(a9j:Int):Option (l8 p6 p6):=
 (s5 ((a1.told.length+1)*40<=140737488355328) (some (l8.brk (p6.mk (j8.mk a1.n.Id a1.n.Acc a1.n.a7 a1.n.Seq a1.n.f0 a1.n.a8 a1.n.c9 a1.n.i4 a1.n.c8 a1.n.a0 false [] (m5.mk false (s3.mk 0 0) (m9.mk [] [] 0 0)) a1.n.d6) a1.out (a1.told++[(o8.mk a1.n.Id a1.n.b8.a5 y a9j)])))))
theorem e47(a1 y)(r){x1}(hc1:JC (fun j=>FK cx a1D.X (a1D.R r) (a1D.O r) (d3i j)) r x1):NG a1D r (e9B a1 y) (fun s=>b8t a1 y s) x1:=fun a9j h=>PK<|rg<|tk 6 []<|s9 h fun e2 h=>E5 7 11 51 5 40 z4 a1.told (o8.mk a1.n.Id a1.n.b8.a5 y a9j) e2<|D8 (o8.mk a1.n.Id a1.n.b8.a5 y a9j)<|N4<|(o7 h hc1 fun hI=>sk [.frz (.cell 0 0 18) (some 4),.frz (.cell 0 0 22) (some 2),.frz (.cell 0 0 23) (some 2)] [0] [(1,0),(2,0),(11,0)] hI)
def b5C(a1:p6):Option p6:=
 ((b0b a1.n.a7 a1.n.b8.a5).bind fun first=>(((bif a1.n.j3 then (bif decide (first>=0) then ((b14 a1.n.a7).bind fun A2=>((idx A2.2 first).bind fun y=>(((bif (y==0) then ((idx a1.n.a7 first).bind fun entry=>some (l8.brk entry.b9.d9)) else some (l8.brk 0)):Option (l8 (l8 p6 p6) Int)).bind fun x=>x.go some fun j=>b8t a1 y j))) else some (l8.brk a1)) else some (l8.brk a1)):Option (l8 p6 p6)).bind fun x=>x.go some fun j=>b8k j))
theorem e6c(r):NF a1D r e73 (fun s=>b5C s):=fun a1 h=>PK<|rg<|R4 a2n b8W 11 2 h fun first h=>s8 a1.n.a7<|A0 h (e4p r) fun x1 h hc1=>rg<|j5 5 h (fun h=>j5 8 h (fun h=>rg<|cbS a3U c8C 5 (fun _=>(by simp [a3U,J8,S8,N8,V.simple,vi,u0,b3h,z5,C0,eI,U2,a73])) (fun _=>(S6 1)) h fun A2 h=>s8 a1.n.a7<|rg<|A8 h fun y hy h=>B2 hy<|H4 eI 14 hy<|A0 h (e47 a1 y r hc1) fun x2 h hc2=>rg<|j5 2 h (fun h=>rg<|A8 h fun entry H1 h=>B2 H1<|H4 t5 9 H1<|(o7 h hc2 fun hI=>sk [] [0,7] [(1,0),(2,0),(53,0)] hI)) (fun h=>(o7 h hc2 fun hI=>sk [] [0,7] [(1,0),(2,0),(53,0)] hI))) (fun h=>(o7 h hc1 fun hI=>sk [] [0] [(1,0),(2,0),(0,5)] hI))) (fun h=>(o7 h hc1 fun hI=>sk [] [0] [(1,0),(2,0),(0,5)] hI))
def b3r(a:p6)(e_:m5):Option p6:=
 (s5 ((a.n.a7.length+1)*88<=140737488355328) ((((bif (a.n.f0==3) then some (l8.brk (p6.mk (j8.mk a.n.Id a.n.Acc (a.n.a7++[e_]) a.n.Seq 2 a.n.a8 a.n.c9 a.n.i4 (m5.mk false (s3.mk 0 0) (m9.mk [] [] 0 0)) [] a.n.j3 a.n.i7 a.n.b8 a.n.d6) a.out a.told)) else some (l8.brk (p6.mk (j8.mk a.n.Id a.n.Acc (a.n.a7++[e_]) a.n.Seq a.n.f0 a.n.a8 a.n.c9 a.n.i4 a.n.c8 a.n.a0 a.n.j3 a.n.i7 a.n.b8 a.n.d6) a.out a.told))):Option (l8 p6 p6)).bind fun x=>x.go some fun j=>b5C j)))
theorem c6g{a e_}:OK a1D [.optr 152 (J5 a),.agg (t5 e_)] (b3r a e_):=
 p8 _ fun r h=>o9<|tk 7 I1<|s9 h fun e1 h=>E5 8 10 63 7 88 t5 a.n.a7 e_ e1<|D8 e_<|A0 h (e6c r) fun x1 h hc1=>rg<|j5 5 h (fun h=>N4<|(o7 h hc1 fun hI=>sk [.frz (.cell 0 0 12) (some 2),.frz (.cell 0 0 13) (some 2),.own (.cell 0 0 16) 4 1,.kill 0 3] [0] [(10,0),(37,0)] hI)) (fun h=>(o7 h hc1 fun hI=>sk [] [0] [(10,0),(0,3)] hI))
def c8j:FS (p6):=⟨145,Tryz.f145,[],[some (0,.ptr H0 L1),none],[.ptr H0 L1,.val B0 []],fun _=>.tup [],fun r=>[some (.optr 152 (J5 r)),none],Tryz.func145⟩
def b6l(a:p6)(m:j9):Option p6:=
 (bif (a.n.f0 != 3) then some a else (bif (m.a8 != a.n.a8) then some a else (bif (m.g8 != (a.n.a7.length:Int)) then some a else ((idx a.n.a0 m.c9).bind fun y=>((b28 (a.n.a0.set m.c9.toNat true)).bind fun b2b=>(bif decide (b2b>=2) then ((a2k (p6.mk (j8.mk a.n.Id a.n.Acc a.n.a7 a.n.Seq a.n.f0 a.n.a8 a.n.c9 a.n.i4 a.n.c8 (a.n.a0.set m.c9.toNat true) a.n.j3 a.n.i7 a.n.b8 a.n.d6) a.out a.told) (j9.mk 5 0 0 0 m.g8 a.n.c8 [])).bind fun all=>((b3r all all.n.c8).bind fun a8t=>some a8t)) else some (p6.mk (j8.mk a.n.Id a.n.Acc a.n.a7 a.n.Seq a.n.f0 a.n.a8 a.n.c9 a.n.i4 a.n.c8 (a.n.a0.set m.c9.toNat true) a.n.j3 a.n.i7 a.n.b8 a.n.d6) a.out a.told)))))))
theorem e4C{a m}:OK c8j [.optr 152 (J5 a),.agg (s7 m)] (b6l a m):=
 p8 _ fun r h=>o9<|j5 6 h (fun h=>C6 a<|fE h) (fun h=>j5 16 h (fun h=>C6 a<|fE h) (fun h=>j5 26 h (fun h=>C6 a<|fE h) (fun h=>rg<|A8 h fun y hy h=>B2 hy<|O5 4 1 eB 8 [] true hy<|rg<|R4 a3k c85 5 1 h fun b2b h=>om (a.n.a0.length=(a.n.a0.set m.c9.toNat true).length) (by simp)<|j5 6 h (fun h=>rg<|j7 a0F a48 9 h fun all h=>C8 a.n.a7 a.n.c9<|om (a.n.a0.length=(a.n.a0.set m.c9.toNat true).length) (by simp)<|C8 a.out a.told<|rg<|j7 a1D c6g 6 h fun a8t h=>C6 all<|C6 a8t<|fE h) (fun h=>C8 a.n.a7 a.n.c9<|om (a.n.a0.length=(a.n.a0.set m.c9.toNat true).length) (by simp)<|C8 a.out a.told<|fE h))))
def c8c:FS (p6):=⟨146,Tryz.f146,[],[some (0,.ptr H0 L1),none],[.ptr H0 L1,.val B0 []],fun _=>.tup [],fun r=>[some (.optr 152 (J5 r)),none],Tryz.func146⟩
def b5W(a:p6)(m:j9):Option p6:=
 (bif decide (m.g8<(a.n.a7.length:Int)) then some a else (bif decide (m.g8>(a.n.a7.length:Int)) then ((a22 a m.c9 (j9.mk 8 0 0 0 (a.n.a7.length:Int) (m5.mk false (s3.mk 0 0) (m9.mk [] [] 0 0)) [])).bind fun Y5=>some Y5) else ((b3r a m.g9).bind fun a8t=>some a8t)))
theorem d7d{a m}:OK c8c [.optr 152 (J5 a),.agg (s7 m)] (b5W a m):=
 p8 _ fun r h=>o9<|j5 9 h (fun h=>C6 a<|fE h) (fun h=>rg<|j5 9 h (fun h=>rg<|j7 a5O a8s 10 h fun Y5 h=>C6 a<|C6 Y5<|fE h) (fun h=>rg<|j7 a1D c6g 3 h fun a8t h=>C6 a<|C6 a8t<|fE h))
def d1y:FS (Bool×p6):=⟨178,Tryz.f178,[.val [] []],[some (0,.ptr H0 om8),none],[.ptr H0 om8,.val [] []],fun r=>.b r.1,fun r=>[some (.optr 152 (b71 r.2)),none],Tryz.func178⟩
def b8y(a:p6)(q:s3):Option (Bool×p6):=
 ((b0b a.n.a7 q).bind fun first=>some (decide (first>=0),a))
theorem e40{a q}:OK d1y [.optr 152 (b71 a),.agg (U2 q)] (b8y a q):=
 p8 _ fun r h=>o9<|R4 a2n b8W 6 2 h fun first h=>s8 a.n.a7<|H8 a.n<|C8 a.out a.told<|fE h
def c5l:FS (p6):=⟨148,Tryz.f148,[],[some (0,.ptr H0 L1),none],[.ptr H0 om8,.val B0 []],fun _=>.tup [],fun r=>[some (.optr 152 (J5 r)),none],Tryz.func148⟩
def b42(a:p6)(m:j9):Option p6:=
 (bif (a.n.f0==0) then some a else (bif decide ((a.n.d6.length:Int)>=4) then some a else ((b8y a m.g9.a5).bind fun v_=>(bif v_.1 then some v_.2 else (s5 ((v_.2.n.d6.length+1)*88<=140737488355328) (((a6j (p6.mk (j8.mk v_.2.n.Id v_.2.n.Acc v_.2.n.a7 v_.2.n.Seq v_.2.n.f0 v_.2.n.a8 v_.2.n.c9 v_.2.n.i4 v_.2.n.c8 v_.2.n.a0 v_.2.n.j3 v_.2.n.i7 v_.2.n.b8 (v_.2.n.d6++[m.g9])) v_.2.out v_.2.told)).bind fun Y7=>some Y7)))))))
theorem e5U{a m}:OK c5l [.optr 152 (b71 a),.agg (s7 m)] (b42 a m):=
 p8 _ fun r h=>o9<|j5 6 h (fun h=>H8 a.n<|C8 a.out a.told<|fE h) (fun h=>j5 15 h (fun h=>H8 a.n<|C8 a.out a.told<|fE h) (fun h=>j7 d1y e40 20 h fun v_ h=>H8 a.n<|C8 a.out a.told<|j5 21 h (fun h=>H8 v_.2.n<|C8 v_.2.out v_.2.told<|fE h) (fun h=>rg<|tk 8 I1<|s9 h fun e1 h=>E5 9 33 63 7 88 t5 v_.2.n.d6 m.g9 e1<|D8 m.g9<|rg<|j7 a8X b13 1 h fun Y7 h=>I8 v_.2.n.a7 v_.2.n.c9 v_.2.n.a0 (v_.2.n.d6++[m.g9])<|C8 v_.2.out v_.2.told<|C6 Y7<|fE h)))
def a1S:FS (j8×(List j9)×List o8):=⟨99,Tryz.f99,[.val A4 [],.val [some 13] [],.val [some 5] []],[none,none],[.val A4 [],.val B0 []],fun r=>.tup [.agg (B3 r.1),l7 13 s7 r.2.1,l7 5 z4 r.2.2],fun _=>[none,none],Tryz.func99⟩
def c5E:p6->KS:=fun a=>⟨a1S.k 7 [false,false,true],(bs 4 (.ptr 1 0 0::(bs 2 (.ptr 2 0 0::(bs 108 []))))),[some [],some [.var 65 [vi 0,vi 0,.nil,.nil,vi 0,vi 0,vi 0,.nil,.nil,.b false,vi 0,vi 0,.nil,.nil,vi 0,vi 0,.nil,.b false,.nil,.b false,vi 0,vi 0,.nil,.nil,vi 0,vi 0,.nil]],some [.var 152 (b00 a)]]++a2Q a⟩
def b5j(a:p6):Option (j8×(List j9)×List o8):=
 ((a1j a).bind fun a4g=>some (a4g.1,a4g.2.1,a4g.2.2.1))
theorem d4c(r):NF a1S r c5E (fun s=>b5j s):=fun a h=>PK<|rg<|j7 a2V a4b 1 h fun a4g h=>C6 a<|fE h
def c5L:p6->KS:=fun a2=>⟨a1S.k 15 [false,false,false,false,false,false,false,false,false,true,false],(bs 4 (.ptr 1 0 0::(bs 2 (.ptr 2 0 0::(bs 108 []))))),[some [],some [.var 65 [vi 0,vi 0,.nil,.nil,vi 0,vi 0,vi 0,.nil,.nil,.b false,vi 0,vi 0,.nil,.nil,vi 0,vi 0,.nil,.b false,.nil,.b false,vi 0,vi 0,.nil,.nil,vi 0,vi 0,.nil]],some [.var 152 (b00 a2)]]++a2Q a2⟩
def c8R(a2:p6):Option (l8 (j8×(List j9)×List o8) p6):=
 some (l8.brk a2)
theorem e4Z(r){x1}(hc1:JC (fun j=>FK cx a1S.X (a1S.R r) (a1S.O r) (c5E j)) r x1):NG a1S r c5L (fun s=>c8R s) x1:=fun a2 h=>PK<|(o7 h hc1 fun hI=>sk [] [4,7] [(1,0),(2,0),(3,0),(4,0),(5,0),(6,0),(7,0)] hI)
def e5f(m:j9):(Int×p6)->KS:=fun (i,a1)=>⟨a1S.k 14 [false,false,false,false,false,false,false,false,false,true],(bs 3 (.ptr 1 0 0::(.ptr 2 0 0::(bs 2 (.ptr 3 0 0::(vi i::(bs 107 []))))))),[some [],some [.var 68 (a0f m)],some [.var 65 [vi 0,vi 0,.nil,.nil,vi 0,vi 0,vi 0,.nil,.nil,.b false,vi 0,vi 0,.nil,.nil,vi 0,vi 0,.nil,.b false,.nil,.b false,vi 0,vi 0,.nil,.nil,vi 0,vi 0,.nil]],some [.var 152 (d5P a1)]]++a2Q a1⟩
def a41(m:j9)(i:Int)(a1:p6):Option (l9 (j8×(List j9)×List o8) (Int×p6) p6):=
 (bif decide (i<(a1.n.a7.length:Int)) then ((idx a1.n.a7 i).bind fun entry=>((a22 a1 m.c9 (j9.mk 5 0 0 0 i entry [])).bind fun Y5=>some (l9.nxt (m4 (i+1),Y5)))) else some (l9.brk a1))
theorem d6l(m):LQ a1S c5L (e5f m) (fun s=>a41 m s.1 s.2):=fun lc (i,a1) h=>PK<|rg<|j5 7 h (fun h=>rg<|A8 h fun entry H1 h=>B2 H1<|H4 t5 11 H1<|j7 a5O a8s 13 h fun Y5 h=>C6 a1<|rg<|(lc.nx h fun hI=>sk [] [3,4,7,8] [(1,0),(2,0),(3,0),(30,0),(30,1),(30,2),(30,3),(30,4)] hI)) (fun h=>(lc.bk h fun hI=>sk [] [4,7] [(2,0),(3,0),(4,0),(5,0),(6,0),(7,0),(8,0)] hI))
def b4N(n:j8)(m:j9):Option (j8×(List j9)×List o8):=
 ((a3F n).bind fun D2=>(bif (!D2) then some ((j8.mk 0 (v5.mk 0 []) [] 0 0 0 [] [] (m5.mk false (s3.mk 0 0) (m9.mk [] [] 0 0)) [] false [] (m5.mk false (s3.mk 0 0) (m9.mk [] [] 0 0)) []),[],[]) else ((a8l n).bind fun begin=>((b2D m).bind fun I0=>(bif (!I0) then ((a1j begin).bind fun W6=>some (W6.1,W6.2.1,W6.2.2.1)) else (bif (m.To != n.Id) then ((a1j begin).bind fun a4r=>some (a4r.1,a4r.2.1,a4r.2.2.1)) else (((bif (m.a6==1) then ((b5f begin m).bind fun c52=>some (l8.brk c52)) else (bif (m.a6==2) then ((b44 begin m).bind fun d3M=>some (l8.brk d3M)) else (bif (m.a6==3) then ((b6A begin m).bind fun c8f=>some (l8.brk c8f)) else (bif (m.a6==4) then ((b6l begin m).bind fun c8V=>some (l8.brk c8V)) else (bif (m.a6==5) then ((b5W begin m).bind fun d2E=>some (l8.brk d2E)) else (bif (m.a6==6) then ((a8y begin.n.Acc m.a8).bind fun U1=>((a9H (p6.mk (j8.mk begin.n.Id U1.1 begin.n.a7 begin.n.Seq begin.n.f0 begin.n.a8 begin.n.c9 begin.n.i4 begin.n.c8 begin.n.a0 begin.n.j3 begin.n.i7 begin.n.b8 begin.n.d6) begin.out begin.told) m.a8).bind fun yield=>some (l8.brk yield))) else (bif (m.a6==7) then ((b42 begin m).bind fun asked=>some (l8.brk asked)) else (bif (m.a6==8) then ((s2 (fun s:Int×p6=>a41 m s.1 s.2) (m.g8,begin)).bind fun x=>x.go (fun r=>some (l8.ret r)) fun s=>c8R s) else some (l8.brk begin))))))))):Option (l8 (j8×(List j9)×List o8) p6)).bind fun x=>x.go some fun j=>b5j j)))))))
set_option maxRecDepth 20000 in
theorem e6H{n m}:OK a1S [.agg (B3 n),.agg (s7 m)] (b4N n m):=
 p8 _ fun r h=>o9<|j7 a0A a6w 1 h fun D2 h=>j5 2 h (fun h=>rg<|fE h) (fun h=>rg<|j7 b3m b3U 1 h fun begin h=>rg<|j7 c1n c98 1 h fun I0 h=>j5 3 h (fun h=>rg<|j7 a2V a4b 1 h fun W6 h=>H8 begin.n<|C8 begin.out begin.told<|fE h) (fun h=>j5 9 h (fun h=>rg<|j7 a2V a4b 1 h fun a4r h=>H8 begin.n<|C8 begin.out begin.told<|fE h) (fun h=>rg<|A0 h (d4c r) fun x1 h hc1=>rg<|j5 1 h (fun h=>rg<|j7 b4C e4J 2 h fun c52 h=>H8 begin.n<|C8 begin.out begin.told<|(o7 h hc1 fun hI=>sk [] [4,7] [(3,0),(10,0),(28,0),(28,1),(28,2),(28,3),(28,4)] hI)) (fun h=>rg<|j5 1 h (fun h=>rg<|j7 c62 e82 2 h fun d3M h=>H8 begin.n<|C8 begin.out begin.told<|(o7 h hc1 fun hI=>sk [] [4,7] [(3,0),(10,0),(30,0),(30,1),(30,2),(30,3),(30,4)] hI)) (fun h=>rg<|j5 1 h (fun h=>rg<|j7 c7b e5S 2 h fun c8f h=>H8 begin.n<|C8 begin.out begin.told<|(o7 h hc1 fun hI=>sk [] [4,7] [(3,0),(10,0),(32,0),(32,1),(32,2),(32,3),(32,4)] hI)) (fun h=>rg<|j5 1 h (fun h=>rg<|j7 c8j e4C 2 h fun c8V h=>H8 begin.n<|C8 begin.out begin.told<|(o7 h hc1 fun hI=>sk [] [4,7] [(3,0),(10,0),(34,0),(34,1),(34,2),(34,3),(34,4)] hI)) (fun h=>rg<|j5 1 h (fun h=>rg<|j7 c8c d7d 2 h fun d2E h=>H8 begin.n<|C8 begin.out begin.told<|(o7 h hc1 fun hI=>sk [] [4,7] [(3,0),(10,0),(36,0),(36,1),(36,2),(36,3),(36,4)] hI)) (fun h=>rg<|j5 1 h (fun h=>rg<|j7 b7L b9w 8 h fun U1 h=>rg<|j7 b5t c0m 3 h fun yield h=>H8 begin.n<|C8 begin.out begin.told<|(o7 h hc1 fun hI=>sk [] [4,7] [(3,0),(10,0),(55,0),(55,1),(55,2),(55,3),(55,4)] hI)) (fun h=>rg<|j5 1 h (fun h=>rg<|j7 c5l e5U 2 h fun asked h=>H8 begin.n<|C8 begin.out begin.told<|(o7 h hc1 fun hI=>sk [] [4,7] [(3,0),(10,0),(40,0),(40,1),(40,2),(40,3),(40,4)] hI)) (fun h=>rg<|j5 1 h (fun h=>rg<|lp (d6l m) h (fun _ h=>a1S.rt (e8R h hc1)) (e4Z r hc1) fun hI=>s8 begin.n.d6<|sk [.frz (.cell 10 0 26) (none)] [3,4,7,8] [(2,0),(3,0),(10,0),(10,1),(10,2),(10,3),(10,5),(10,6)] hI) (fun h=>(o7 h hc1 fun hI=>s8 begin.n.d6<|sk [.frz (.cell 10 0 26) (none)] [4,7] [(3,0),(10,0),(10,1),(10,2),(10,3),(10,5),(10,6)] hI))))))))))))
def a8Q:FS (m8):=⟨45,Tryz.f45,[.val E8 om7],[none,none],[.val E8 om7,.val [none,none,some 4] []],fun r=>.agg (a7T r),fun _=>[none,none],Tryz.func45⟩
def e0w:m8->KS:=fun w1=>⟨a8Q.k 7 [true],(bs 2 (.ptr 1 0 0::(bs 1 (.ptr 6 0 0::(bs 58 []))))),[some [.dead,.dead,.dead,.dead],some [.var 28 [.own 2 0 27 0 w1.b7.length,.own 3 0 13 0 w1.d8.length,.own 4 0 3 0 w1.g7.length,.own 5 0 5 0 w1.Told.length]],some [m7 65 27 B3 w1.b7],some [m7 68 13 s7 w1.d8],some [m7 70 3 C4 w1.g7],some [m7 51 5 z4 w1.Told],some [.var 28 [.nil,.nil,.nil,.nil]]]⟩
def d3Q(w1:m8):Option m8:=
 some w1
theorem e7i(r):NF a8Q r e0w (fun s=>d3Q s):=fun w1 h=>PK<|rg<|z7 w1<|fE h
def a7Z(w:m8)(e_:w9):Option m8:=
 ((idx w.d8 e_.A).bind fun msg=>(((bif (e_.a6==2) then ((b2v w.d8 e_.A).bind fun off=>((idx w.b7 msg.To).bind fun node=>((b4N node msg).bind fun a7v=>((a3M (m8.mk w.b7 off w.g7 w.Told) a7v.1 a7v.2.1 a7v.2.2).bind fun a17=>some (l8.brk a17))))) else (bif (e_.a6==3) then ((b2v w.d8 e_.A).bind fun d1k=>some (l8.brk (m8.mk w.b7 d1k w.g7 w.Told))) else (bif (e_.a6==4) then ((idx w.b7 msg.To).bind fun a6e=>((a3M w a6e [msg] []).bind fun b0I=>some (l8.brk b0I))) else some (l8.brk w)))):Option (l8 m8 m8)).bind fun x=>x.go some fun j=>d3Q j))
theorem b9a{w e_}:OK a8Q [.agg (a7T w),.agg (K8 e_)] (a7Z w e_):=
 p8 _ fun r h=>o9<|A8 h fun msg hmsg h=>B2 hmsg<|H4 s7 5 hmsg<|rg<|A0 h (e7i r) fun x1 h hc1=>rg<|j5 1 h (fun h=>rg<|j7 c1g d0e 4 h fun off h=>s8 w.d8<|rg<|A8 h fun node hnode h=>B2 hnode<|H4 B3 5 hnode<|j7 a1S e6H 7 h fun a7v h=>rg<|j7 S7 a8V 4 h fun a17 h=>I8 w.b7 off w.g7 w.Told<|(o7 h hc1 fun hI=>sk [.kill 0 1] [2,4] [(1,0),(43,0),(43,1),(43,2),(43,3),(3,0)] hI)) (fun h=>rg<|j5 1 h (fun h=>rg<|j7 c1g d0e 4 h fun d1k h=>s8 w.d8<|(o7 h hc1 fun hI=>sk [.kill 0 1] [2,4] [(1,0),(0,0),(22,0),(0,2),(0,3),(3,0)] hI)) (fun h=>rg<|j5 1 h (fun h=>rg<|A8 h fun a6e a5P h=>B2 a5P<|H4 B3 6 a5P<|tk 8 B0<|j7 S7 a8V 9 h fun b0I h=>z7 w<|D8 msg<|(o7 h hc1 fun hI=>sk [] [2,4] [(1,0),(29,0),(29,1),(29,2),(29,3),(3,0)] hI)) (fun h=>(o7 h hc1 fun hI=>sk [] [2,4] [(1,0),(0,0),(0,1),(0,2),(0,3),(3,0)] hI))))
def a2z:FS (m8):=⟨16,Tryz.f16,[.val E8 []],[none,none],[.val E8 [],.val [none,none,some 4] []],fun r=>.agg (Y0 r),fun _=>[none,none],Tryz.func16⟩
def e7b:m8->KS:=fun out=>⟨a2z.k 6 [true,true,true],(bs 4 (.ptr 1 0 0::(.ptr 2 0 0::(bs 35 [])))),[some [],some [.var 28 [.nil,.nil,.nil,.nil]],some [.var 28 [.own 3 0 27 0 out.b7.length,.own 4 0 13 0 out.d8.length,.own 5 0 3 0 out.g7.length,.own 6 0 5 0 out.Told.length]],some [m7 65 27 B3 out.b7],some [m7 68 13 s7 out.d8],some [m7 70 3 C4 out.g7],some [m7 51 5 z4 out.Told]]⟩
def c1F(out:m8):Option m8:=
 ((a2o out).bind fun c1c=>some c1c)
theorem d9l(r):NF a2z r e7b (fun s=>c1F s):=fun out h=>PK<|rg<|j7 X0 b0a 1 h fun c1c h=>z7 out<|z7 c1c<|fE h
def e8u:m8->KS:=fun out1=>⟨a2z.k 7 [false,true,true,true],(bs 4 (.ptr 1 0 0::(.ptr 2 0 0::(bs 35 [])))),[some [],some [.var 28 [.nil,.nil,.nil,.nil]],some [.var 28 [.own 3 0 27 0 out1.b7.length,.own 4 0 13 0 out1.d8.length,.own 5 0 3 0 out1.g7.length,.own 6 0 5 0 out1.Told.length]],some [m7 65 27 B3 out1.b7],some [m7 68 13 s7 out1.d8],some [m7 70 3 C4 out1.g7],some [m7 51 5 z4 out1.Told]]⟩
def c2S(out1:m8):Option m8:=
 ((a2o out1).bind fun c05=>some c05)
theorem e1q(r):NF a2z r e8u (fun s=>c2S s):=fun out1 h=>PK<|rg<|j7 X0 b0a 1 h fun c05 h=>z7 out1<|z7 c05<|fE h
def e5J:m8->KS:=fun out2=>⟨a2z.k 8 [false,false,true,true,true],(bs 4 (.ptr 1 0 0::(.ptr 2 0 0::(bs 35 [])))),[some [],some [.var 28 [.nil,.nil,.nil,.nil]],some [.var 28 [.own 3 0 27 0 out2.b7.length,.own 4 0 13 0 out2.d8.length,.own 5 0 3 0 out2.g7.length,.own 6 0 5 0 out2.Told.length]],some [m7 65 27 B3 out2.b7],some [m7 68 13 s7 out2.d8],some [m7 70 3 C4 out2.g7],some [m7 51 5 z4 out2.Told]]⟩
def c2r(out2:m8):Option m8:=
 ((a2o out2).bind fun c2g=>some c2g)
theorem d4e(r):NF a2z r e5J (fun s=>c2r s):=fun out2 h=>PK<|rg<|j7 X0 b0a 1 h fun c2g h=>z7 out2<|z7 c2g<|fE h
def e6O:m8->KS:=fun out3=>⟨a2z.k 9 [false,false,false,true,true],(bs 4 (.ptr 1 0 0::(.ptr 2 0 0::(bs 35 [])))),[some [],some [.var 28 [.nil,.nil,.nil,.nil]],some [.var 28 [.own 3 0 27 0 out3.b7.length,.own 4 0 13 0 out3.d8.length,.own 5 0 3 0 out3.g7.length,.own 6 0 5 0 out3.Told.length]],some [m7 65 27 B3 out3.b7],some [m7 68 13 s7 out3.d8],some [m7 70 3 C4 out3.g7],some [m7 51 5 z4 out3.Told]]⟩
def b6I(out3:m8):Option m8:=
 ((a2o out3).bind fun c0P=>some c0P)
theorem d4m(r):NF a2z r e6O (fun s=>b6I s):=fun out3 h=>PK<|rg<|j7 X0 b0a 1 h fun c0P h=>z7 out3<|z7 c0P<|fE h
def b3L(w:m8)(e_:w9):Option m8:=
 ((a2o w).bind fun H6=>(bif (e_.a6==1) then ((((D3 e_.A 0 (m4 ((H6.b7.length:Int)-1))).bind fun in_=>(bif in_ then ((a5c H6 e_).bind fun c75=>some (l8.brk c75)) else some (l8.brk H6))):Option (l8 m8 m8)).bind fun x=>x.go some fun j=>c1F j) else (bif (e_.a6==5) then ((((D3 e_.A 0 (m4 ((H6.b7.length:Int)-1))).bind fun in_1=>(bif in_1 then ((a5c H6 e_).bind fun c7Z=>some (l8.brk c7Z)) else some (l8.brk H6))):Option (l8 m8 m8)).bind fun x=>x.go some fun j=>c2S j) else (bif (e_.a6==6) then ((((D3 e_.A 0 (m4 ((H6.b7.length:Int)-1))).bind fun in_2=>(bif in_2 then ((a5c H6 e_).bind fun c34=>some (l8.brk c34)) else some (l8.brk H6))):Option (l8 m8 m8)).bind fun x=>x.go some fun j=>c2r j) else (((bif (e_.a6==7) then ((D3 e_.A 0 (m4 ((H6.b7.length:Int)-1))).bind fun Z9=>(bif Z9 then ((a5c H6 e_).bind fun c51=>some (l8.brk c51)) else some (l8.brk H6))) else (bif (e_.a6==2) then ((D3 e_.A 0 (m4 ((H6.d8.length:Int)-1))).bind fun a4o=>(bif a4o then ((a7Z H6 e_).bind fun d2m=>some (l8.brk d2m)) else some (l8.brk H6))) else (bif (e_.a6==3) then ((D3 e_.A 0 (m4 ((H6.d8.length:Int)-1))).bind fun a8A=>(bif a8A then ((a7Z H6 e_).bind fun c6q=>some (l8.brk c6q)) else some (l8.brk H6))) else (bif (e_.a6==4) then ((D3 e_.A 0 (m4 ((H6.d8.length:Int)-1))).bind fun c3d=>(bif c3d then ((a7Z H6 e_).bind fun d0U=>some (l8.brk d0U)) else some (l8.brk H6))) else some (l8.brk H6))))):Option (l8 m8 m8)).bind fun x=>x.go some fun j=>b6I j)))))
set_option maxRecDepth 20000 in
theorem c8H{w e_}:OK a2z [.agg (Y0 w),.agg (K8 e_)] (b3L w e_):=
 p8 _ fun r h=>o9<|j7 X0 b0a 1 h fun H6 h=>o9<|j5 1 h (fun h=>A0 h (d9l r) fun x1 h hc1=>rg<|cbE D1.t E3 h fun in_ d3k h=>cdT (D1.t 6 false in_) h (fun _ h=>ob d3k<|rg<|j7 a6N b8j 2 h fun c75 h=>z7 H6<|(o7 h hc1 fun hI=>sk [] [4,5] [(3,0),(6,0),(21,0),(21,1),(21,2),(21,3)] hI)) (fun _ h=>ob d3k<|(o7 h hc1 fun hI=>sk [] [4,5] [(3,0),(6,0),(5,0),(5,1),(5,2),(5,3)] hI))) (fun h=>rg<|j5 1 h (fun h=>A0 h (e1q r) fun x1 h hc1=>rg<|cbE D1.t E3 h fun in_1 c4X h=>cdT (D1.t 6 false in_1) h (fun _ h=>ob c4X<|rg<|j7 a6N b8j 2 h fun c7Z h=>z7 H6<|(o7 h hc1 fun hI=>sk [] [4,5] [(3,0),(6,0),(23,0),(23,1),(23,2),(23,3)] hI)) (fun _ h=>ob c4X<|(o7 h hc1 fun hI=>sk [] [4,5] [(3,0),(6,0),(5,0),(5,1),(5,2),(5,3)] hI))) (fun h=>rg<|j5 1 h (fun h=>A0 h (d4e r) fun x1 h hc1=>rg<|cbE D1.t E3 h fun in_2 c9o h=>cdT (D1.t 6 false in_2) h (fun _ h=>ob c9o<|rg<|j7 a6N b8j 2 h fun c34 h=>z7 H6<|(o7 h hc1 fun hI=>sk [] [4,5] [(3,0),(6,0),(25,0),(25,1),(25,2),(25,3)] hI)) (fun _ h=>ob c9o<|(o7 h hc1 fun hI=>sk [] [4,5] [(3,0),(6,0),(5,0),(5,1),(5,2),(5,3)] hI))) (fun h=>A0 h (d4m r) fun x1 h hc1=>rg<|j5 1 h (fun h=>rg<|cbE D1.t E3 h fun Z9 c7Q h=>cdT (D1.t 6 false Z9) h (fun _ h=>ob c7Q<|rg<|j7 a6N b8j 2 h fun c51 h=>z7 H6<|(o7 h hc1 fun hI=>sk [] [4,5] [(3,0),(6,0),(27,0),(27,1),(27,2),(27,3)] hI)) (fun _ h=>ob c7Q<|(o7 h hc1 fun hI=>sk [] [4,5] [(3,0),(6,0),(5,0),(5,1),(5,2),(5,3)] hI))) (fun h=>rg<|j5 1 h (fun h=>rg<|cbE D1.t E3 h fun a4o c48 h=>cdT (D1.t 6 false a4o) h (fun _ h=>ob c48<|rg<|j7 a8Q b9a 2 h fun d2m h=>z7 H6<|(o7 h hc1 fun hI=>sk [] [4,5] [(3,0),(6,0),(29,0),(29,1),(29,2),(29,3)] hI)) (fun _ h=>ob c48<|(o7 h hc1 fun hI=>sk [] [4,5] [(3,0),(6,0),(5,0),(5,1),(5,2),(5,3)] hI))) (fun h=>rg<|j5 1 h (fun h=>rg<|cbE D1.t E3 h fun a8A c4n h=>cdT (D1.t 6 false a8A) h (fun _ h=>ob c4n<|rg<|j7 a8Q b9a 2 h fun c6q h=>z7 H6<|(o7 h hc1 fun hI=>sk [] [4,5] [(3,0),(6,0),(31,0),(31,1),(31,2),(31,3)] hI)) (fun _ h=>ob c4n<|(o7 h hc1 fun hI=>sk [] [4,5] [(3,0),(6,0),(5,0),(5,1),(5,2),(5,3)] hI))) (fun h=>rg<|j5 1 h (fun h=>rg<|cbE D1.t E3 h fun c3d d1P h=>cdT (D1.t 6 false c3d) h (fun _ h=>ob d1P<|rg<|j7 a8Q b9a 2 h fun d0U h=>z7 H6<|(o7 h hc1 fun hI=>sk [] [4,5] [(3,0),(6,0),(33,0),(33,1),(33,2),(33,3)] hI)) (fun _ h=>ob d1P<|(o7 h hc1 fun hI=>sk [] [4,5] [(3,0),(6,0),(5,0),(5,1),(5,2),(5,3)] hI))) (fun h=>(o7 h hc1 fun hI=>sk [] [4,5] [(3,0),(6,0),(5,0),(5,1),(5,2),(5,3)] hI))))))))
def a31:FS (m8):=⟨5,Tryz.f5,[.val E8 []],[none,none],[.val E8 [],.val [some 3] []],fun r=>.agg (Y0 r),fun _=>[none,none],Tryz.func5⟩
def c5T:m8->KS:=fun out1=>⟨a31.k 5 [false,false],(bs 4 (.ptr 1 0 0::(.ptr 2 0 0::(bs 24 [])))),[some [],some [.var 28 [.nil,.nil,.nil,.nil]],some [.var 28 (H2 out1)]]⟩
def d07(out1:m8):Option m8:=
 some out1
theorem e71(r):NF a31 r c5T (fun s=>d07 s):=fun out1 h=>PK<|rg<|fE h
def d8k(events:List w9):(Int×m8)->KS:=fun (v21,out)=>⟨a31.k 4 [false],(bs 4 (.ptr 1 0 0::(.ptr 2 0 0::(bs 13 (l7 3 K8 events::(vi (events.length:Int)::(vi v21::(bs 8 [])))))))),[some [],some [.var 28 [.nil,.nil,.nil,.nil]],some [.var 28 (H2 out)]]⟩
def a5r(events:List w9)(v21:Int)(out:m8):Option (l9 m8 (Int×m8) m8):=
 (bif decide (v21<(events.length:Int)) then ((idx events v21).bind fun a5f=>((b3L out a5f).bind fun b21=>some (l9.nxt (m4 (v21+1),b21)))) else some (l9.brk out))
theorem d8b(events):LQ a31 c5T (d8k events) (fun s=>a5r events s.1 s.2):=fun lc (v21,out) h=>PK<|rg<|j5 0 h (fun h=>rg<|x8 K8 0 h fun a5f c8K h=>rg<|j7 a2z c8H 2 h fun b21 h=>rg<|(lc.nx h fun hI=>sk [] [4,5,19,20,21] [(1,0),(2,0)] hI)) (fun h=>(lc.bk h fun hI=>sk [] [4,5] [(1,0),(2,0)] hI))
def a8W(w:m8)(events:List w9):Option m8:=
 ((a8r w).bind fun L3=>(bif (!L3) then some (m8.mk [] [] [] []) else (bif decide ((events.length:Int)>400) then some (m8.mk [] [] [] []) else ((a2o w).bind fun H6=>((s2 (fun s:Int×m8=>a5r events s.1 s.2) (0,H6)).bind fun x=>x.go (fun r=>some r) fun s=>d07 s)))))
theorem b9R{w events}:OK a31 [.agg (Y0 w),l7 3 K8 events] (a8W w events):=
 p8 _ fun r h=>o9<|j7 O1 b6u 1 h fun L3 h=>j5 3 h (fun h=>rg<|fE h) (fun h=>j5 7 h (fun h=>rg<|fE h) (fun h=>rg<|j7 X0 b0a 1 h fun H6 h=>rg<|lp (d8b events) h (fun _ h=>a31.rt h) (e71 r) fun hI=>z7 H6<|sk [.frz (.cell 13 0 0) (none),.frz (.cell 13 0 1) (none),.frz (.cell 13 0 2) (none),.frz (.cell 13 0 3) (none)] [4,5,19,20,21] [(2,0),(13,0)] hI))
def a60:FS (m8):=⟨7,Tryz.f7,[.val E8 W1],[none,none],[.val E8 [],.val [some 3] []],fun r=>.agg (V9 r),fun _=>[none,none],Tryz.func7⟩
def c4Y:((List j8)×(List j9)×(List C1)×List o8)->KS:=fun (Nodes1,Net1,Asked1,Told1)=>⟨a60.k 5 [false,false],(bs 2 (.ptr 1 0 0::(bs 1 (.ptr 6 0 0::(bs 25 []))))),[some [],some [.var 28 [.own 2 0 27 0 Nodes1.length,.own 3 0 13 0 Net1.length,.own 4 0 3 0 Asked1.length,.own 5 0 5 0 Told1.length]],some [C3 65 27 u7 Nodes1],some [m7 68 13 s7 Net1],some [m7 70 3 C4 Asked1],some [m7 51 5 z4 Told1],some [.var 28 [.nil,.nil,.nil,.nil]]]⟩
def c58(Nodes1:List j8)(Net1:List j9)(Asked1:List C1)(Told1:List o8):Option m8:=
 some (m8.mk Nodes1 Net1 Asked1 Told1)
theorem d5p(r):NF a60 r c4Y (fun s=>c58 s.1 s.2.1 s.2.2.1 s.2.2.2):=fun (Nodes1,Net1,Asked1,Told1) h=>PK<|rg<|I8 Nodes1 Net1 Asked1 Told1<|fE h
def d5g(events:List w9):((List j8)×(List j9)×(List C1)×(List o8)×Int)->KS:=fun (b7,d8,g7,Told,i)=>⟨a60.k 4 [false],(bs 1 (l7 3 K8 events::(.ptr 1 0 0::(bs 1 (.ptr 6 0 0::(vi i::(bs 24 []))))))),[some [],some [.var 28 [.own 2 0 27 0 b7.length,.own 3 0 13 0 d8.length,.own 4 0 3 0 g7.length,.own 5 0 5 0 Told.length]],some [C3 65 27 u7 b7],some [m7 68 13 s7 d8],some [m7 70 3 C4 g7],some [m7 51 5 z4 Told],some [.var 28 [.nil,.nil,.nil,.nil]]]⟩
def a4c(events:List w9)(b7:List j8)(d8:List j9)(g7:List C1)(Told:List o8)(i:Int):Option (l9 m8 ((List j8)×(List j9)×(List C1)×(List o8)×Int) ((List j8)×(List j9)×(List C1)×List o8)):=
 (bif decide (i<(events.length:Int)) then ((idx events i).bind fun a5f=>((a6D (m8.mk b7 d8 g7 Told) a5f).bind fun a2g=>some (l9.nxt (a2g.b7,a2g.d8,a2g.g7,a2g.Told,m4 (i+1))))) else some (l9.brk (b7,d8,g7,Told)))
theorem e35(events):LQ a60 c4Y (d5g events) (fun s=>a4c events s.1 s.2.1 s.2.2.1 s.2.2.2.1 s.2.2.2.2):=fun lc (b7,d8,g7,Told,i) h=>PK<|rg<|j5 3 h (fun h=>rg<|x8 K8 3 h fun a5f c8K h=>j7 a9a b97 5 h fun a2g h=>I8 b7 d8 g7 Told<|rg<|(lc.nx h fun hI=>sk [] [1,2,4,5] [(1,0),(16,0),(16,1),(16,2),(16,3),(6,0)] hI)) (fun h=>(lc.bk h fun hI=>sk [] [2,4] [(1,0),(2,0),(3,0),(4,0),(5,0),(6,0)] hI))
def b4y(w:m8)(events:List w9):Option m8:=
 ((a7H w).bind fun L3=>(bif (!L3) then some (m8.mk [] [] [] []) else (bif decide ((events.length:Int)>400) then some (m8.mk [] [] [] []) else ((b0Y w).bind fun a4B=>((s2 (fun s:(List j8)×(List j9)×(List C1)×(List o8)×Int=>a4c events s.1 s.2.1 s.2.2.1 s.2.2.2.1 s.2.2.2.2) (a4B.b7,a4B.d8,a4B.g7,a4B.Told,0)).bind fun x=>x.go (fun r=>some r) fun s=>c58 s.1 s.2.1 s.2.2.1 s.2.2.2)))))
theorem e4L{w events}:OK a60 [.agg (Y0 w),l7 3 K8 events] (b4y w events):=
 p8 _ fun r h=>o9<|j7 M9 b5N 1 h fun L3 h=>j5 3 h (fun h=>rg<|fE h) (fun h=>j5 7 h (fun h=>rg<|fE h) (fun h=>rg<|j7 V3 c5c 1 h fun a4B h=>rg<|lp (e35 events) h (fun _ h=>a60.rt h) (d5p r) fun hI=>sk [] [1,2,4,5] [(1,0),(12,0),(12,1),(12,2),(12,3),(2,0)] hI))
def a7m:FS (Bool):=⟨17,Tryz.f17,[.val [] []],[none,none],[.val [some 5] [],.val [some 5] []],fun r=>.b r,fun _=>[none,none],Tryz.func17⟩
def d29:Unit->KS:=fun _=>⟨a7m.k 4 [false,false],(bs 26 []),[some []]⟩
def d2W:Option Bool:=
 some true
theorem e6l(r):NF a7m r d29 (fun s=>d2W):=fun _ h=>PK<|rg<|fE h
def d7Q(a:List o8)(b:List o8):Int->KS:=fun v13=>⟨a7m.k 3 [false],(l7 5 z4 a::(l7 5 z4 b::(bs 10 (vi (a.length:Int)::(vi v13::(bs 12 [])))))),[some []]⟩
def b5h(a:List o8)(b:List o8)(v13:Int):Option (l9 Bool Int Unit):=
 (bif decide (v13<(a.length:Int)) then ((idx a v13).bind fun told=>((idx b v13).bind fun a2v=>(bif (!(([told.Node,told.a5.d7,told.a5.Seq,told.Code,told.d9]:List Int)==[a2v.Node,a2v.a5.d7,a2v.a5.Seq,a2v.Code,a2v.d9])) then some (l9.ret false) else some (l9.nxt (m4 (v13+1)))))) else some (l9.brk ()))
theorem d8p(a b):LQ a7m d29 (d7Q a b) (fun s=>b5h a b s):=fun lc v13 h=>PK<|rg<|j5 0 h (fun h=>o9<|x8 z4 2 h fun told a7S h=>x8 z4 6 h fun a2v e8X h=>j5 8 h (fun h=>rg<|fL lc h) (fun h=>rg<|(lc.nx h fun hI=>sk [] [0,1,12,13] [] hI))) (fun h=>(lc.bk h fun hI=>sk [] [] [] hI))
def b46(a:List o8)(b:List o8):Option Bool:=
 (bif ((a.length:Int) != (b.length:Int)) then some false else ((s2 (fun s:Int=>b5h a b s) 0).bind fun x=>x.go (fun r=>some r) fun s=>d2W))
theorem d8c{a b}:OK a7m [l7 5 z4 a,l7 5 z4 b] (b46 a b):=
 p8 _ fun r h=>o9<|j5 4 h (fun h=>rg<|fE h) (fun h=>rg<|lp (d8p a b) h (fun _ h=>a7m.rt h) (e6l r) fun hI=>sk [] [0,1,12,13] [] hI)
def a4R:FS (Bool):=⟨49,Tryz.f49,[.val [] []],[none,none],[.val [some 8] [],.val [some 8] []],fun r=>.b r,fun _=>[none,none],Tryz.func49⟩
def d3p:Unit->KS:=fun _=>⟨a4R.k 4 [false,false],(bs 42 []),[some []]⟩
def d0d:Option Bool:=
 some true
theorem d6H(r):NF a4R r d3p (fun s=>d0d):=fun _ h=>PK<|rg<|fE h
def d3Z(a:List m6)(b:List m6):Int->KS:=fun v13=>⟨a4R.k 3 [false],(l7 8 p7 a::(l7 8 p7 b::(bs 10 (vi (a.length:Int)::(vi v13::(bs 28 [])))))),[some []]⟩
def b63(a:List m6)(b:List m6)(v13:Int):Option (l9 Bool Int Unit):=
 (bif decide (v13<(a.length:Int)) then ((idx a v13).bind fun vote=>((idx b v13).bind fun Q5=>(bif (vote.a8 != Q5.a8) then some (l9.ret false) else ((a0c vote.g9 Q5.g9).bind fun J0=>(bif (!J0) then some (l9.ret false) else some (l9.nxt (m4 (v13+1)))))))) else some (l9.brk ()))
theorem e44(a b):LQ a4R d3p (d3Z a b) (fun s=>b63 a b s):=fun lc v13 h=>PK<|rg<|j5 0 h (fun h=>o9<|x8 p7 2 h fun vote J6 h=>x8 p7 7 h fun Q5 a3C h=>j5 11 h (fun h=>rg<|fL lc h) (fun h=>K3 p7 14 J6<|K3 p7 19 a3C<|j7 a2F a3j 22 h fun J0 h=>j5 24 h (fun h=>rg<|fL lc h) (fun h=>rg<|(lc.nx h fun hI=>sk [] [0,1,12,13] [] hI)))) (fun h=>(lc.bk h fun hI=>sk [] [] [] hI))
def b0g(a:List m6)(b:List m6):Option Bool:=
 (bif ((a.length:Int) != (b.length:Int)) then some false else ((s2 (fun s:Int=>b63 a b s) 0).bind fun x=>x.go (fun r=>some r) fun s=>d0d))
theorem c2w{a b}:OK a4R [l7 8 p7 a,l7 8 p7 b] (b0g a b):=
 p8 _ fun r h=>o9<|j5 4 h (fun h=>rg<|fE h) (fun h=>rg<|lp (e44 a b) h (fun _ h=>a4R.rt h) (d6H r) fun hI=>sk [] [0,1,12,13] [] hI)
def c7u:FS (Bool):=⟨46,Tryz.f46,[.val [] []],[none,none],[.val [none,some 8] [],.val [none,some 8] []],fun r=>.b r,fun _=>[none,none],Tryz.func46⟩
def c0s(a:v5)(b:v5):Option Bool:=
 (bif (a.i5==b.i5) then ((b0g a.a0 b.a0).bind fun a6f=>some a6f) else some false)
theorem d8O{a b}:OK c7u [.agg (V8 a),.agg (V8 b)] (c0s a b):=
 p8 _ fun r h=>o9<|j5 5 h (fun h=>j7 a4R c2w 10 h fun a6f h=>fE h) (fun h=>fE h)
def a6a:FS (Bool):=⟨47,Tryz.f47,[.val [] []],[none,none],[.val [some 7] [],.val [some 7] []],fun r=>.b r,fun _=>[none,none],Tryz.func47⟩
def d3q:Unit->KS:=fun _=>⟨a6a.k 4 [false,false],(bs 27 []),[some []]⟩
def d1d:Option Bool:=
 some true
theorem d7Z(r):NF a6a r d3q (fun s=>d1d):=fun _ h=>PK<|rg<|fE h
def e2j(a:List m5)(b:List m5):Int->KS:=fun v13=>⟨a6a.k 3 [false],(l7 7 t5 a::(l7 7 t5 b::(bs 10 (vi (a.length:Int)::(vi v13::(bs 13 [])))))),[some []]⟩
def b32(a:List m5)(b:List m5)(v13:Int):Option (l9 Bool Int Unit):=
 (bif decide (v13<(a.length:Int)) then ((idx a v13).bind fun entry=>((idx b v13).bind fun b0H=>((a0c entry b0H).bind fun J0=>(bif (!J0) then some (l9.ret false) else some (l9.nxt (m4 (v13+1))))))) else some (l9.brk ()))
theorem e8L(a b):LQ a6a d3q (e2j a b) (fun s=>b32 a b s):=fun lc v13 h=>PK<|rg<|j5 0 h (fun h=>o9<|x8 t5 2 h fun entry H1 h=>x8 t5 6 h fun b0H b1j h=>j7 a2F a3j 8 h fun J0 h=>j5 9 h (fun h=>rg<|fL lc h) (fun h=>rg<|(lc.nx h fun hI=>sk [] [0,1,12,13] [] hI))) (fun h=>(lc.bk h fun hI=>sk [] [] [] hI))
def b05(a:List m5)(b:List m5):Option Bool:=
 (bif ((a.length:Int) != (b.length:Int)) then some false else ((s2 (fun s:Int=>b32 a b s) 0).bind fun x=>x.go (fun r=>some r) fun s=>d1d))
theorem d1M{a b}:OK a6a [l7 7 t5 a,l7 7 t5 b] (b05 a b):=
 p8 _ fun r h=>o9<|j5 4 h (fun h=>rg<|fE h) (fun h=>rg<|lp (e8L a b) h (fun _ h=>a6a.rt h) (d7Z r) fun hI=>sk [] [0,1,12,13] [] hI)
def a5u:FS (Bool):=⟨48,Tryz.f48,[.val [] []],[none,none],[.val [some 1] [],.val [some 1] []],fun r=>.b r,fun _=>[none,none],Tryz.func48⟩
def c6Q:Unit->KS:=fun _=>⟨a5u.k 4 [false,false],(bs 26 []),[some []]⟩
def d1h:Option Bool:=
 some true
theorem d4h(r):NF a5u r c6Q (fun s=>d1h):=fun _ h=>PK<|rg<|fE h
def e6Z(a:List Bool)(b:List Bool):Int->KS:=fun v13=>⟨a5u.k 3 [false],(l7 1 eB a::(l7 1 eB b::(bs 10 (vi (a.length:Int)::(vi v13::(bs 12 [])))))),[some []]⟩
def b7f(a:List Bool)(b:List Bool)(v13:Int):Option (l9 Bool Int Unit):=
 (bif decide (v13<(a.length:Int)) then ((idx a v13).bind fun y=>((idx b v13).bind fun y1=>(bif (!(y==y1)) then some (l9.ret false) else some (l9.nxt (m4 (v13+1)))))) else some (l9.brk ()))
theorem d8i(a b):LQ a5u c6Q (e6Z a b) (fun s=>b7f a b s):=fun lc v13 h=>PK<|rg<|j5 0 h (fun h=>o9<|x8 eB 2 h fun y hy h=>x8 eB 6 h fun y1 hy1 h=>j5 8 h (fun h=>rg<|fL lc h) (fun h=>rg<|(lc.nx h fun hI=>sk [] [0,1,12,13] [] hI))) (fun h=>(lc.bk h fun hI=>sk [] [] [] hI))
def b0P(a:List Bool)(b:List Bool):Option Bool:=
 (bif ((a.length:Int) != (b.length:Int)) then some false else ((s2 (fun s:Int=>b7f a b s) 0).bind fun x=>x.go (fun r=>some r) fun s=>d1h))
theorem c6C{a b}:OK a5u [l7 1 eB a,l7 1 eB b] (b0P a b):=
 p8 _ fun r h=>o9<|j5 4 h (fun h=>rg<|fE h) (fun h=>rg<|lp (d8i a b) h (fun _ h=>a5u.rt h) (d4h r) fun hI=>sk [] [0,1,12,13] [] hI)
def a6M:FS (Bool):=⟨51,Tryz.f51,[.val [] []],[none,none],[.val [some 4] [],.val [some 4] []],fun r=>.b r,fun _=>[none,none],Tryz.func51⟩
def c93:Unit->KS:=fun _=>⟨a6M.k 4 [false,false],(bs 26 []),[some []]⟩
def c87:Option Bool:=
 some true
theorem e6p(r):NF a6M r c93 (fun s=>c87):=fun _ h=>PK<|rg<|fE h
def e1N(a:List r9)(b:List r9):Int->KS:=fun v13=>⟨a6M.k 3 [false],(l7 4 z8 a::(l7 4 z8 b::(bs 10 (vi (a.length:Int)::(vi v13::(bs 12 [])))))),[some []]⟩
def b4o(a:List r9)(b:List r9)(v13:Int):Option (l9 Bool Int Unit):=
 (bif decide (v13<(a.length:Int)) then ((idx a v13).bind fun ins=>((idx b v13).bind fun b1v=>(bif (!(([ins.a6,ins.A,ins.B,ins.N]:List Int)==[b1v.a6,b1v.A,b1v.B,b1v.N])) then some (l9.ret false) else some (l9.nxt (m4 (v13+1)))))) else some (l9.brk ()))
theorem e27(a b):LQ a6M c93 (e1N a b) (fun s=>b4o a b s):=fun lc v13 h=>PK<|rg<|j5 0 h (fun h=>o9<|x8 z8 2 h fun ins hins h=>x8 z8 6 h fun b1v e9G h=>j5 8 h (fun h=>rg<|fL lc h) (fun h=>rg<|(lc.nx h fun hI=>sk [] [0,1,12,13] [] hI))) (fun h=>(lc.bk h fun hI=>sk [] [] [] hI))
def c3M(a:List r9)(b:List r9):Option Bool:=
 (bif ((a.length:Int) != (b.length:Int)) then some false else ((s2 (fun s:Int=>b4o a b s) 0).bind fun x=>x.go (fun r=>some r) fun s=>c87))
theorem e9d{a b}:OK a6M [l7 4 z8 a,l7 4 z8 b] (c3M a b):=
 p8 _ fun r h=>o9<|j5 4 h (fun h=>rg<|fE h) (fun h=>rg<|lp (e27 a b) h (fun _ h=>a6M.rt h) (e6p r) fun hI=>sk [] [0,1,12,13] [] hI)
def c3K:FS (Bool):=⟨20,Tryz.f20,[.val [] []],[none,none],[.val [some 4] [],.val [some 4] []],fun r=>.b r,fun _=>[none,none],Tryz.func20⟩
def b10(a:List r9)(b:List r9):Option Bool:=
 ((c3M a b).bind fun ins=>some ins)
theorem c3X{a b}:OK c3K [l7 4 z8 a,l7 4 z8 b] (b10 a b):=
 p8 _ fun r h=>o9<|j7 a6M e9d 2 h fun ins h=>fE h
def c8p:FS (Bool):=⟨18,Tryz.f18,[.val [] []],[none,none],[.val A4 [],.val A4 []],fun r=>.b r,fun _=>[none,none],Tryz.func18⟩
def b4D(a:j8)(b:j8):Option Bool:=
 (bif (a.Id==b.Id) then ((c0s a.Acc b.Acc).bind fun c7F=>(bif c7F then ((b05 a.a7 b.a7).bind fun d0J=>(bif d0J then (bif (a.Seq==b.Seq) then (bif (a.f0==b.f0) then (bif (a.a8==b.a8) then ((b0P a.c9 b.c9).bind fun bool=>(bif bool then ((b0g a.i4 b.i4).bind fun a6f=>(bif a6f then ((a0c a.c8 b.c8).bind fun J0=>(bif J0 then ((b0P a.a0 b.a0).bind fun a8G=>(bif a8G then (bif (a.j3==b.j3) then ((b10 a.i7 b.i7).bind fun b0m=>(bif b0m then ((a0c a.b8 b.b8).bind fun c96=>(bif c96 then ((b05 a.d6 b.d6).bind fun d0p=>some d0p) else some false)) else some false)) else some false) else some false)) else some false)) else some false)) else some false)) else some false) else some false) else some false) else some false)) else some false)) else some false)
theorem e5g{a b}:OK c8p [.agg (B3 a),.agg (B3 b)] (b4D a b):=
 p8 _ fun r h=>o9<|j5 5 h (fun h=>j7 c7u d8O 10 h fun c7F h=>j5 12 h (fun h=>j7 a6a d1M 17 h fun d0J h=>j5 19 h (fun h=>j5 26 h (fun h=>j5 33 h (fun h=>j5 40 h (fun h=>j7 a5u c6C 45 h fun bool h=>j5 47 h (fun h=>j7 a4R c2w 52 h fun a6f h=>j5 54 h (fun h=>j7 a2F a3j 59 h fun J0 h=>j5 61 h (fun h=>j7 a5u c6C 66 h fun a8G h=>j5 68 h (fun h=>j5 75 h (fun h=>j7 c3K c3X 80 h fun b0m h=>j5 82 h (fun h=>j7 a2F a3j 87 h fun c96 h=>j5 89 h (fun h=>j7 a6a d1M 94 h fun d0p h=>fE h) (fun h=>fE h)) (fun h=>fE h)) (fun h=>fE h)) (fun h=>fE h)) (fun h=>fE h)) (fun h=>fE h)) (fun h=>fE h)) (fun h=>fE h)) (fun h=>fE h)) (fun h=>fE h)) (fun h=>fE h)) (fun h=>fE h)) (fun h=>fE h)
def d0M:FS (Bool):=⟨19,Tryz.f19,[.val [] []],[none,none],[.val B0 [],.val B0 []],fun r=>.b r,fun _=>[none,none],Tryz.func19⟩
def b94(a:j9)(b:j9):Option Bool:=
 (bif (a.a6==b.a6) then (bif (a.c9==b.c9) then (bif (a.To==b.To) then (bif (a.a8==b.a8) then (bif (a.g8==b.g8) then ((a0c a.g9 b.g9).bind fun J0=>(bif J0 then ((b0g a.a0 b.a0).bind fun a6f=>some a6f) else some false)) else some false) else some false) else some false) else some false) else some false)
theorem e8b{a b}:OK d0M [.agg (s7 a),.agg (s7 b)] (b94 a b):=
 p8 _ fun r h=>o9<|j5 5 h (fun h=>j5 12 h (fun h=>j5 19 h (fun h=>j5 26 h (fun h=>j5 33 h (fun h=>j7 a2F a3j 38 h fun J0 h=>j5 40 h (fun h=>j7 a4R c2w 45 h fun a6f h=>fE h) (fun h=>fE h)) (fun h=>fE h)) (fun h=>fE h)) (fun h=>fE h)) (fun h=>fE h)) (fun h=>fE h)
def R0:FS (Bool):=⟨6,Tryz.f6,[.val [] []],[none,none],[.val E8 [],.val E8 []],fun r=>.b r,fun _=>[none,none],Tryz.func6⟩
def c57(a:m8)(b:m8):Unit->KS:=fun _=>⟨R0.k 4 [false,false],(bs 2 (.ptr 1 0 0::(.ptr 2 0 0::(bs 111 [])))),[some [],some [.var 28 (H2 a)],some [.var 28 (H2 b)]]⟩
def c9u(a:m8)(b:m8):Unit->KS:=fun _=>⟨R0.k 6 [false,false,false],(bs 2 (.ptr 1 0 0::(.ptr 2 0 0::(bs 111 [])))),[some [],some [.var 28 (H2 a)],some [.var 28 (H2 b)]]⟩
def c5C:Unit->KS:=fun _=>⟨R0.k 8 [false,false,false,false],(bs 115 []),[some []]⟩
def c9Q:Option Bool:=
 some true
theorem e0L(r):NF R0 r c5C (fun s=>c9Q):=fun _ h=>PK<|rg<|fE h
def d8R(a:m8)(b:m8):Int->KS:=fun v82=>⟨R0.k 7 [false,false,false],(bs 2 (.ptr 1 0 0::(.ptr 2 0 0::(bs 77 (vi (a.g7.length:Int)::(vi v82::(bs 32 []))))))),[some [],some [.var 28 (H2 a)],some [.var 28 (H2 b)]]⟩
def b43(a:m8)(b:m8)(v82:Int):Option (l9 Bool Int Unit):=
 (bif decide (v82<(a.g7.length:Int)) then ((idx a.g7 v82).bind fun asked=>((idx b.g7 v82).bind fun a2A=>(bif (!(([asked.a5.d7,asked.a5.Seq]:List Int)==[a2A.a5.d7,a2A.a5.Seq])) then some (l9.ret false) else ((b10 asked.i7 a2A.i7).bind fun b0m=>(bif (!b0m) then some (l9.ret false) else some (l9.nxt (m4 (v82+1)))))))) else some (l9.brk ()))
theorem d5H(a b):LQ R0 c5C (d8R a b) (fun s=>b43 a b s):=fun lc v82 h=>PK<|rg<|j5 0 h (fun h=>o9<|x8 C4 3 h fun asked a95 h=>x8 C4 9 h fun a2A a9K h=>j5 13 h (fun h=>rg<|fL lc h) (fun h=>K3 C4 17 a95<|K3 C4 23 a9K<|j7 c3K c3X 26 h fun b0m h=>j5 28 h (fun h=>rg<|fL lc h) (fun h=>rg<|(lc.nx h fun hI=>sk [] [2,3,81,82] [(1,0),(2,0)] hI)))) (fun h=>(lc.bk h fun hI=>sk [] [] [] hI))
def b8D(a:m8)(b:m8):Option Bool:=
 ((s2 (fun s:Int=>b43 a b s) 0).bind fun x=>x.go (fun r=>some r) fun s=>c9Q)
theorem e7q(a b)(r):NF R0 r (c9u a b) (fun s=>b8D a b):=fun _ h=>PK<|rg<|lp (d5H a b) h (fun _ h=>R0.rt h) (e0L r) fun hI=>sk [] [2,3,81,82] [(1,0),(2,0)] hI
def d4T(a:m8)(b:m8):Int->KS:=fun v63=>⟨R0.k 5 [false,false],(bs 2 (.ptr 1 0 0::(.ptr 2 0 0::(bs 58 (vi (a.d8.length:Int)::(vi v63::(bs 51 []))))))),[some [],some [.var 28 (H2 a)],some [.var 28 (H2 b)]]⟩
def b4a(a:m8)(b:m8)(v63:Int):Option (l9 Bool Int Unit):=
 (bif decide (v63<(a.d8.length:Int)) then ((idx a.d8 v63).bind fun msg=>((idx b.d8 v63).bind fun b2W=>((b94 msg b2W).bind fun d3O=>(bif (!d3O) then some (l9.ret false) else some (l9.nxt (m4 (v63+1))))))) else some (l9.brk ()))
theorem e21(a b):LQ R0 (c9u a b) (d4T a b) (fun s=>b4a a b s):=fun lc v63 h=>PK<|rg<|j5 0 h (fun h=>o9<|x8 s7 3 h fun msg hmsg h=>x8 s7 8 h fun b2W b3n h=>j7 d0M e8b 10 h fun d3O h=>j5 11 h (fun h=>rg<|fL lc h) (fun h=>rg<|(lc.nx h fun hI=>sk [] [2,3,62,63] [(1,0),(2,0)] hI))) (fun h=>(lc.bk h fun hI=>sk [] [2,3] [(1,0),(2,0)] hI))
def c1b(a:m8)(b:m8):Option Bool:=
 ((s2 (fun s:Int=>b4a a b s) 0).bind fun x=>x.go (fun r=>some r) fun s=>b8D a b)
theorem e1h(a b)(r):NF R0 r (c57 a b) (fun s=>c1b a b):=fun _ h=>PK<|rg<|lp (e21 a b) h (fun _ h=>R0.rt h) (e7q a b r) fun hI=>sk [] [2,3,62,63] [(1,0),(2,0)] hI
def e5b(a:m8)(b:m8):Int->KS:=fun v44=>⟨R0.k 3 [false],(bs 2 (.ptr 1 0 0::(.ptr 2 0 0::(bs 39 (vi (a.b7.length:Int)::(vi v44::(bs 70 []))))))),[some [],some [.var 28 (H2 a)],some [.var 28 (H2 b)]]⟩
def b7q(a:m8)(b:m8)(v44:Int):Option (l9 Bool Int Unit):=
 (bif decide (v44<(a.b7.length:Int)) then ((idx a.b7 v44).bind fun node=>((idx b.b7 v44).bind fun a6e=>((b4D node a6e).bind fun d0H=>(bif (!d0H) then some (l9.ret false) else some (l9.nxt (m4 (v44+1))))))) else some (l9.brk ()))
theorem e3F(a b):LQ R0 (c57 a b) (e5b a b) (fun s=>b7q a b s):=fun lc v44 h=>PK<|rg<|j5 0 h (fun h=>o9<|x8 B3 3 h fun node hnode h=>x8 B3 8 h fun a6e a5P h=>j7 c8p e5g 10 h fun d0H h=>j5 11 h (fun h=>rg<|fL lc h) (fun h=>rg<|(lc.nx h fun hI=>sk [] [2,3,43,44] [(1,0),(2,0)] hI))) (fun h=>(lc.bk h fun hI=>sk [] [2,3] [(1,0),(2,0)] hI))
def a9t(a:m8)(b:m8):Option Bool:=
 (bif ((a.b7.length:Int) != (b.b7.length:Int)) then some false else (bif ((a.d8.length:Int) != (b.d8.length:Int)) then some false else (bif ((a.g7.length:Int) != (b.g7.length:Int)) then some false else ((b46 a.Told b.Told).bind fun told=>(bif (!told) then some false else ((s2 (fun s:Int=>b7q a b s) 0).bind fun x=>x.go (fun r=>some r) fun s=>c1b a b))))))
theorem c2H{a b}:OK R0 [.agg (Y0 a),.agg (Y0 b)] (a9t a b):=
 p8 _ fun r h=>o9<|j5 7 h (fun h=>rg<|fE h) (fun h=>j5 16 h (fun h=>rg<|fE h) (fun h=>j5 25 h (fun h=>rg<|fE h) (fun h=>j7 a7m d8c 30 h fun told h=>j5 32 h (fun h=>rg<|fE h) (fun h=>rg<|lp (e3F a b) h (fun _ h=>R0.rt h) (e1h a b r) fun hI=>sk [] [2,3,43,44] [(1,0),(2,0)] hI))))
def d3z:FS (m8):=⟨10,Tryz.f10,[.val E8 []],[none,none],[.val E8 [],.val [none,none,some 4] []],fun r=>.agg (Y0 r),fun _=>[none,none],Tryz.func10⟩
def b4P(w:m8)(e_:w9):Option m8:=
 ((a8r w).bind fun L3=>(bif (!L3) then some (m8.mk [] [] [] []) else ((b3L w e_).bind fun b21=>some b21)))
theorem d6f{w e_}:OK d3z [.agg (Y0 w),.agg (K8 e_)] (b4P w e_):=
 p8 _ fun r h=>o9<|j7 O1 b6u 1 h fun L3 h=>j5 2 h (fun h=>rg<|fE h) (fun h=>rg<|j7 a2z c8H 2 h fun b21 h=>fE h)
def a9n:FS (Bool):=⟨3,Tryz.f3,[.val [] []],[none,none],[.val [some 1] [],.val [some 1] []],fun r=>.b r,fun _=>[none,none],Tryz.func3⟩
def d02(more:List Int)(drawWorldPlay:m8×List w9)(worldPlay:m8):m8->KS:=fun y1=>⟨a9n.k 10 [false,false,false,false],(bs 5 (.ptr 1 0 0::(l7 3 K8 drawWorldPlay.2::(.ptr 2 0 0::(vi (e9U (more.length:Int) (m4 ((drawWorldPlay.2.length:Int)+1)))::(.ptr 3 0 0::(bs 75 []))))))),[some [],some [.var 28 [l7 27 B3 drawWorldPlay.1.b7,l7 13 s7 drawWorldPlay.1.d8,l7 3 C4 drawWorldPlay.1.g7,l7 5 z4 drawWorldPlay.1.Told]],some [.var 28 [l7 27 B3 worldPlay.b7,l7 13 s7 worldPlay.d8,l7 3 C4 worldPlay.g7,l7 5 z4 worldPlay.Told]],some [.var 28 [l7 27 B3 y1.b7,l7 13 s7 y1.d8,l7 3 C4 y1.g7,l7 5 z4 y1.Told]]]⟩
def c2J(more:List Int)(drawWorldPlay:m8×List w9)(worldPlay:m8)(y1:m8):Option Bool:=
 ((a9t worldPlay y1).bind fun c5F=>(bif c5F then (s5 ((0:Int)<=e9U (more.length:Int) (m4 ((drawWorldPlay.2.length:Int)+1))/\e9U (more.length:Int) (m4 ((drawWorldPlay.2.length:Int)+1))<=(drawWorldPlay.2.length:Int)) (((a8W drawWorldPlay.1 ((drawWorldPlay.2.drop 0).take ((e9U (more.length:Int) (m4 ((drawWorldPlay.2.length:Int)+1))).toNat-0))).bind fun d0Q=>(s5 ((0:Int)<=e9U (more.length:Int) (m4 ((drawWorldPlay.2.length:Int)+1))/\e9U (more.length:Int) (m4 ((drawWorldPlay.2.length:Int)+1))<=(drawWorldPlay.2.length:Int)) (((a8W d0Q ((drawWorldPlay.2.drop (e9U (more.length:Int) (m4 ((drawWorldPlay.2.length:Int)+1))).toNat).take (drawWorldPlay.2.length-(e9U (more.length:Int) (m4 ((drawWorldPlay.2.length:Int)+1))).toNat))).bind fun c7a=>((a9t worldPlay c7a).bind fun c9I=>some c9I))))))) else some false))
theorem d51(more drawWorldPlay worldPlay)(r):NF a9n r (d02 more drawWorldPlay worldPlay) (fun s=>c2J more drawWorldPlay worldPlay s):=fun y1 h=>PK<|rg<|j7 R0 c2H 2 h fun c5F h=>j5 3 h (fun h=>s9 h fun e2 h=>om (V.sl 3 ((e9U (more.length:Int) (m4 ((drawWorldPlay.2.length:Int)+1))).toNat-0) (((drawWorldPlay.2.map K8).drop 0).take ((e9U (more.length:Int) (m4 ((drawWorldPlay.2.length:Int)+1))).toNat-0))=l7 3 K8 ((drawWorldPlay.2.drop 0).take ((e9U (more.length:Int) (m4 ((drawWorldPlay.2.length:Int)+1))).toNat-0))) (b1f e2)<|ob e2.1<|ob e2.2<|tl (8,{v:=some (l7 3 K8 ((drawWorldPlay.2.drop 0).take ((e9U (more.length:Int) (m4 ((drawWorldPlay.2.length:Int)+1))).toNat-0)))})<|j7 a31 b9R 9 h fun d0Q h=>s9 h fun e3 h=>om (V.sl 3 (drawWorldPlay.2.length-(e9U (more.length:Int) (m4 ((drawWorldPlay.2.length:Int)+1))).toNat) (((drawWorldPlay.2.map K8).drop (e9U (more.length:Int) (m4 ((drawWorldPlay.2.length:Int)+1))).toNat).take (drawWorldPlay.2.length-(e9U (more.length:Int) (m4 ((drawWorldPlay.2.length:Int)+1))).toNat))=l7 3 K8 ((drawWorldPlay.2.drop (e9U (more.length:Int) (m4 ((drawWorldPlay.2.length:Int)+1))).toNat).take (drawWorldPlay.2.length-(e9U (more.length:Int) (m4 ((drawWorldPlay.2.length:Int)+1))).toNat))) (b2U e3)<|ob e3.1<|ob e3.2<|tl (12,{v:=some (l7 3 K8 ((drawWorldPlay.2.drop (e9U (more.length:Int) (m4 ((drawWorldPlay.2.length:Int)+1))).toNat).take (drawWorldPlay.2.length-(e9U (more.length:Int) (m4 ((drawWorldPlay.2.length:Int)+1))).toNat)))})<|j7 a31 b9R 13 h fun c7a h=>j7 R0 c2H 14 h fun c9I h=>fE h) (fun h=>fE h)
def d5K(more:List Int)(drawWorldPlay:m8×List w9)(worldPlay:m8):(Int×m8)->KS:=fun (i,y)=>⟨a9n.k 9 [false,false,false],(bs 5 (.ptr 1 0 0::(l7 3 K8 drawWorldPlay.2::(.ptr 2 0 0::(vi (e9U (more.length:Int) (m4 ((drawWorldPlay.2.length:Int)+1)))::(.ptr 3 0 0::(vi i::(bs 74 [])))))))),[some [],some [.var 28 [l7 27 B3 drawWorldPlay.1.b7,l7 13 s7 drawWorldPlay.1.d8,l7 3 C4 drawWorldPlay.1.g7,l7 5 z4 drawWorldPlay.1.Told]],some [.var 28 [l7 27 B3 worldPlay.b7,l7 13 s7 worldPlay.d8,l7 3 C4 worldPlay.g7,l7 5 z4 worldPlay.Told]],some [.var 28 [l7 27 B3 y.b7,l7 13 s7 y.d8,l7 3 C4 y.g7,l7 5 z4 y.Told]]]⟩
def a5I(drawWorldPlay:m8×List w9)(i:Int)(y:m8):Option (l9 Bool (Int×m8) m8):=
 (bif decide (i<(drawWorldPlay.2.length:Int)) then ((idx drawWorldPlay.2 i).bind fun a5f=>((b4P y a5f).bind fun c2x=>((a8r c2x).bind fun c6t=>(bif (!c6t) then some (l9.ret false) else some (l9.nxt (m4 (i+1),c2x)))))) else some (l9.brk y))
theorem d9P(more drawWorldPlay worldPlay):LQ a9n (d02 more drawWorldPlay worldPlay) (d5K more drawWorldPlay worldPlay) (fun s=>a5I drawWorldPlay s.1 s.2):=fun lc (i,y) h=>PK<|rg<|j5 3 h (fun h=>rg<|x8 K8 3 h fun a5f c8K h=>j7 d3z d6f 5 h fun c2x h=>rg<|j7 O1 b6u 1 h fun c6t h=>j5 2 h (fun h=>rg<|fL lc h) (fun h=>rg<|(lc.nx h fun hI=>sk [] [5,6,7,8,9,10] [(1,0),(2,0),(3,0)] hI))) (fun h=>(lc.bk h fun hI=>sk [] [5,6,7,8,9] [(1,0),(2,0),(3,0)] hI))
def b9S(code:List Int)(more:List Int):Option Bool:=
 (bif decide ((code.length:Int)>1048576) then some true else (bif decide ((more.length:Int)>1048576) then some true else ((b6J code).bind fun drawWorldPlay=>((a8W drawWorldPlay.1 drawWorldPlay.2).bind fun worldPlay=>((b4y drawWorldPlay.1 drawWorldPlay.2).bind fun a6u=>((a9t worldPlay a6u).bind fun a8q=>(bif (!a8q) then some false else ((a8r drawWorldPlay.1).bind fun L3=>((a7H drawWorldPlay.1).bind fun c9m=>(bif (!(L3==c9m)) then some false else ((a7H drawWorldPlay.1).bind fun c4P=>(bif (!c4P) then some ((worldPlay.b7.length:Int)==0) else (s5 ((m4 ((drawWorldPlay.2.length:Int)+1))≠0) (((s2 (fun s:Int×m8=>a5I drawWorldPlay s.1 s.2) (0,drawWorldPlay.1)).bind fun x=>x.go (fun r=>some r) fun s=>c2J more drawWorldPlay worldPlay s)))))))))))))))
theorem e5E{code more}:OK a9n [l7 1 E1 code,l7 1 E1 more] (b9S code more):=
 p8 _ fun r h=>o9<|j5 3 h (fun h=>rg<|fE h) (fun h=>j5 7 h (fun h=>rg<|fE h) (fun h=>rg<|j7 d06 e7y 1 h fun drawWorldPlay h=>rg<|j7 a31 b9R 2 h fun worldPlay h=>rg<|j7 a60 e4L 3 h fun a6u h=>A8 h fun a8q e4D h=>om (a1n cx.P 6 [.agg (Y0 worldPlay),.agg [.sl 27 a6u.b7.length (V1 (a6u.b7.map u7)),l7 13 s7 a6u.d8,l7 3 C4 a6u.g7,l7 5 z4 a6u.Told]] (R0.R a8q) (R0.O a8q)) (by simp only [b8w b8J];exact (c2H a8q e4D))<|osc R0 a8q rfl (S6 2)<|z7 a6u<|tl (R0.t 4 true a8q)<|j5 6 h (fun h=>rg<|fE h) (fun h=>j7 O1 b6u 8 h fun L3 h=>j7 M9 b5N 10 h fun c9m h=>j5 12 h (fun h=>rg<|fE h) (fun h=>rg<|j7 M9 b5N 1 h fun c4P h=>j5 2 h (fun h=>rg<|fE h) (fun h=>rg<|s9 h fun e1 h=>ob e1<|o9<|lp (d9P more drawWorldPlay worldPlay) h (fun _ h=>a9n.rt h) (d51 more drawWorldPlay worldPlay r) fun hI=>sk [] [5,6,7,8,9,10] [(15,0),(21,0),(47,0)] hI)))))
theorem d4C:a8U Tryz.prog 5 E1 a4I:=e81 Tryz.underlying5
theorem d0W:a8U Tryz.prog 22 (fun l:List Int=>[l7 1 E1 l]) (z9 1 a4I):=e5K Tryz.underlying22 d4C (by kernel_rfl) (by decide) (by kernel_rfl) (fun _=>rfl)
theorem B8{n:Int}(h1:-9223372036854775808<=n)(h2:n<=9223372036854775807):m4 n=n:=IntWalk.i64_in n ⟨h1,h2⟩
def u5{α:Type}(l:List α):Prop:=l.length<=140737488351232
theorem G0{α:Type}{l:List α}(hl:u5 l){k:Nat}(h:k<l.length):m4 ((k:Int)+1)=((k+1:Nat):Int):=by
 unfold u5 at hl;rw [B8 (by omega) (by omega)];omega
section
variable {R S B:Type} {body:S->Option (l9 R S B)}
theorem F7{s t:S}(h:body s=some (.nxt t)):s2 body s=s2 body t:=by rw [c2X,h]
theorem D7{s:S}{b:B}(h:body s=some (.brk b)):s2 body s=some (.brk b):=by rw [c2X,h]
theorem Y9{s:S}{r:R}(h:body s=some (.ret r)):s2 body s=some (.ret r):=by rw [c2X,h]
theorem a0n(st:Nat->S)(n:Nat)(h:∀k,k<n->body (st k)=some (.nxt (st (k+1)))):s2 body (st 0)=s2 body (st n):=by
 induction n with
 | zero=>rfl
 | succ n ih=>
  rw [ih fun k hk=>h k (by omega)];exact F7 (h n (by omega))
theorem a5Y(st:Nat->S)(n:Nat)(ok:Nat->Bool)(r:Nat->R)(b:B)(h1:∀k,k<n->(∀j,j<k->ok j=true)->body (st k)=some (bif ok k then .nxt (st (k+1)) else .ret (r k)))(h2:(∀j,j<n->ok j=true)->body (st n)=some (.brk b)) :
  (s2 body (st 0)=some (.brk b)/\∀j,j<n->ok j=true)\/∃k,k<n/\ok k=false/\(∀j,j<k->ok j=true)/\s2 body (st 0)=some (.ret (r k)):=by
 by_cases hall:∀j,j<n->ok j=true
 ·left
  refine ⟨?_,hall⟩;rw [a0n st n fun k hk => ?_]
  ·exact D7 (h2 hall)
  ·rw [h1 k hk fun j hj=>hall j (by omega),hall k hk];rfl
 ·right
  have hex:∃k,k<n/\ok k=false:=by
   apply Classical.byContradiction;intro hn;apply hall;intro j hj;cases hj':ok j with
   | true=>rfl
   | false=>exact absurd ⟨j,hj,hj'⟩ hn
  obtain ⟨k,hk,ho,hb⟩:∃k,k<n/\ok k=false/\∀j,j<k->ok j=true:=by
   obtain ⟨k,hk,ho⟩:=hex;induction k using Nat.strongRecOn with
   | _ k ih=>
    by_cases hb:∀j,j<k->ok j=true
    ·exact ⟨k,hk,ho,hb⟩
    ·have:∃j,j<k/\ok j=false:=by
      apply Classical.byContradiction;intro hn;apply hb;intro j hj;cases hj':ok j with
      | true=>rfl
      | false=>exact absurd ⟨j,hj,hj'⟩ hn
     obtain ⟨j,hj,hjo⟩:=this;exact ih j hj (by omega) hjo
  refine ⟨k,hk,ho,hb,?_⟩;rw [a0n st k fun j hj => ?_]
  ·refine Y9 ?_;rw [h1 k hk hb,ho];rfl
  ·rw [h1 j (by omega) fun i hi=>hb i (by omega),hb j hj];rfl
end
theorem a5C{R S B:Type}{body:S->Option (l9 R S B)}(I:Nat->S->Prop)(Q:l8 R B->Prop)(h:∀k s,I k s->∃st,body s=some st/\match st with | .ret r=>Q (.ret r) | .brk b=>Q (.brk b) | .nxt t => ∃k',k'<k/\I k' t):∀{k s},I k s->∃x,s2 body s=some x/\Q x:=by
 intro k;induction k using Nat.strongRecOn with
 | _ k ih=>
  intro s hs;obtain ⟨st,hb,hq⟩:=h k s hs;cases st with
  | ret r=>exact ⟨_,Y9 hb,hq⟩
  | brk b=>exact ⟨_,D7 hb,hq⟩
  | nxt t=>
   obtain ⟨k',hk,ht⟩:=hq;obtain ⟨x,hx,hq⟩:=ih k' hk ht;exact ⟨x,by rw [F7 hb];exact hx,hq⟩
theorem t6{β:Type}{p:Prop}[Decidable p](h:p)(k:Option β):s5 p k=k:=if_pos h
theorem a7q{α:Type}(l:List α)(k:Nat):idx l (k:Int)=l[k]?:=by
 unfold idx;rw [if_pos (by omega)];rfl
theorem u6{α:Type}{l:List α}{k:Nat}(h:k<l.length):idx l (k:Int)=some l[k]:=by
 rw [a7q,e9N h]
theorem z0{α:Type}(l:List α)(k:Nat)(h:k<l.length):decide ((k:Int)<(l.length:Int))=true:=by simpa using h
theorem B7{α:Type}(l:List α):decide ((l.length:Int)<(l.length:Int))=false:=by simp
theorem T1{α B:Type}{body:Int->Option (l9 Bool Int B)}(l:List α)(hl:u5 l)(ok:α->Bool)(v:Bool)(b:B)(h1:∀(k:Nat) (h:k<l.length),body (k:Int)=some (bif ok l[k] then .nxt (m4 ((k:Int)+1)) else .ret v))(h2:body (l.length:Int)=some (.brk b)):s2 body 0=some (bif l.all ok then .brk b else .ret v):=by
 have h:=a5Y (body:=body) (fun k=>(k:Int)) l.length (fun k=>match l[k]? with|some x=>ok x|none=>true) (fun _=>v) b
  (fun k hk _=>by
   have:=h1 k hk;rw [G0 hl hk] at this;simpa [e9N hk] using this) (fun _=>h2)
 rcases h with ⟨h,hall⟩|⟨k,hk,ho,_,h⟩
 ·have:l.all ok=true:=by
   rw [e9W];intro x hx;obtain ⟨i,hi,rfl⟩:=f0R hx;have:=hall i hi;simpa [e9N hi] using this
  rw [this];exact h
 ·have:l.all ok=false:=by
   rw [f1j];refine ⟨l[k],e9Q hk,?_⟩;simpa [e9N hk] using ho
  rw [this];exact h
theorem a5Z{α B:Type}{body:Int->Option (l9 Bool Int B)}(l:List α)(hl:u5 l)(ok:Nat->Bool)(v:Bool)(b:B)(h1:∀(k:Nat) (h:k<l.length),(∀j,j<k->ok j=true)->body (k:Int)=some (bif ok k then .nxt (m4 ((k:Int)+1)) else .ret v))(h2:body (l.length:Int)=some (.brk b)):s2 body 0=some (bif (e9Y l.length).all ok then .brk b else .ret v):=by
 have h:=a5Y (body:=body) (fun k=>(k:Int)) l.length ok (fun _=>v) b
  (fun k hk hb=>by
   have:=h1 k hk hb;rw [G0 hl hk] at this;exact this) (fun _=>h2)
 rcases h with ⟨h,hall⟩|⟨k,hk,ho,_,h⟩
 ·have:(e9Y l.length).all ok=true:=by
   rw [e9W];intro x hx;exact hall x (by simpa using hx)
  rw [this];exact h
 ·have:(e9Y l.length).all ok=false:=by
   rw [f1j];exact ⟨k,by simpa using hk,by simp [ho]⟩
  rw [this];exact h
theorem c2d{α R B:Type}{body:Int->Option (l9 R Int B)}(l:List α)(hl:u5 l)(is:α->Bool)(f:α->R)(b:B)(h1:∀(k:Nat) (h:k<l.length),body (k:Int)=some (bif is l[k] then .ret (f l[k]) else .nxt (m4 ((k:Int)+1))))(h2:body (l.length:Int)=some (.brk b)):s2 body 0=some (match l.find? is with|some x=>.ret (f x)|none=>.brk b):=by
 have key:∀(m k:Nat),k+m=l.length->s2 body (k:Int)=some (match (l.drop k).find? is with|some x=>.ret (f x)|none=>.brk b):=by
  intro m;induction m with
  | zero=>
   intro k hk;have:k=l.length:=by omega
   subst this;rw [List.drop_length];exact D7 h2
  | succ m ih=>
   intro k hk;have hlt:k<l.length:=by omega
   have hb:=h1 k hlt;rw [e98 hlt,List.find?_cons];cases hq:is l[k] with
   | true=>
    rw [hq] at hb;exact Y9 hb
   | false=>
    rw [hq] at hb;rw [F7 hb,G0 hl hlt];exact ih (k+1) (by omega)
 have:=key l.length 0 (by omega);simpa using this
theorem c6h{α S R B:Type}{body:S×Int->Option (l9 R (S×Int) B)}(l:List α)(hl:u5 l)(g:S->α->S)(s0:S)(b:S->B)(h1:∀(k:Nat) (h:k<l.length),body ((l.take k).foldl g s0,(k:Int))=some (.nxt (g ((l.take k).foldl g s0) l[k],m4 ((k:Int)+1))))(h2:body (l.foldl g s0,(l.length:Int))=some (.brk (b (l.foldl g s0)))):s2 body (s0,0)=some (.brk (b (l.foldl g s0))):=by
 have h:=a0n (body:=body) (fun k=>((l.take k).foldl g s0,(k:Int))) l.length (fun k hk=>by
  rw [h1 k hk,G0 hl hk,f0m hk,f1k];rfl)
 simp only [f0t,f1A,f0o] at h;rw [show ((0:Nat):Int)=0 from rfl] at h;rw [h];exact D7 h2
def c0y(x:s3):Prop:=C2 x.d7/\C2 x.Seq
def c7A(x:s1):Prop:=C2 x.i6/\C2 x.j4
def d2j(x:p9):Prop:=C2 x.i6/\C2 x.d9
def b73(x:m9):Prop:=(z9 16 c7A) x.a9/\(z9 16 d2j) x.b6/\C2 x.d9/\C2 x.Code
def E0(x:m5):Prop:=c0y x.a5/\b73 x.b9
def G3(x:m6):Prop:=C2 x.a8/\E0 x.g9
def a5N(x:v5):Prop:=C2 x.i5/\(z9 96 G3) x.a0
def b1i(x:r9):Prop:=C2 x.a6/\C2 x.A/\C2 x.B/\C2 x.N
def P8(x:j8):Prop:=C2 x.Id/\a5N x.Acc/\(z9 88 E0) x.a7/\C2 x.Seq/\C2 x.f0/\C2 x.a8/\(z9 1 okT) x.c9/\(z9 96 G3) x.i4/\E0 x.c8/\(z9 1 okT) x.a0/\(z9 32 b1i) x.i7/\E0 x.b8/\(z9 88 E0) x.d6
def F9(x:j9):Prop:=C2 x.a6/\C2 x.c9/\C2 x.To/\C2 x.a8/\C2 x.g8/\E0 x.g9/\(z9 96 G3) x.a0
def d2D(x:C1):Prop:=c0y x.a5/\(z9 32 b1i) x.i7
def c8F(x:o8):Prop:=C2 x.Node/\c0y x.a5/\C2 x.Code/\C2 x.d9
def a0u(x:m8):Prop:=(z9 392 P8) x.b7/\(z9 152 F9) x.d8/\(z9 40 d2D) x.g7/\(z9 40 c8F) x.Told
theorem z9.fits{α:Type}{bytes:Nat}{ok:α->Prop}{l:List α}(h:z9 bytes ok l)(hb:0<bytes):u5 l:=by
 obtain ⟨h,_⟩:=h;unfold u5;have:l.length*1<=l.length*bytes:=Nat.mul_le_mul_left _ hb;omega
def a12(x:m9):Prop:=z9 16 okT x.a9/\z9 16 okT x.b6/\True
def a1M(x:m5):Prop:=True/\a12 x.b9
theorem z9.imp{α:Type}{bytes:Nat}{ok ok':α->Prop}{l:List α}(h:z9 bytes ok l)(hi:∀x,ok x->ok' x):z9 bytes ok' l:=⟨h.1,fun x hx=>hi x (h.2 x hx)⟩
theorem b73.f{x:m9}(h:b73 x):a12 x:=⟨h.1.imp fun _ _=>trivial,h.2.1.imp fun _ _=>trivial,trivial⟩
theorem E0.f{x:m5}(h:E0 x):a1M x:=⟨trivial,h.2.f⟩
theorem okEntries.f{l:List m5}(h:z9 88 E0 l):z9 88 a1M l:=h.imp fun _ x=>x.f
def L7(l:List s1)(box:Int):Bool:=l.any (·.i6==box)
def R8(l:List p9)(box:Int):Bool:=l.any (·.i6==box)
theorem c0C{l:List s1}(h:u5 l)(box:Int):b0Q l box=some (L7 l box):=by
 unfold b0Q;rw [T1 l h (fun x => !(x.i6==box)) true ()]
 ·unfold L7;rw [List.any_eq_not_all_not];cases l.all fun x => !(x.i6==box)<;>rfl
 ·intro k hk;unfold b4K;rw [z0 l k hk,u6 hk];cases hq:l[k].i6==box<;>simp [hq]
 ·unfold b4K;rw [B7];rfl
theorem c6V{α B:Type}{body:Int->Option (l9 Int Int B)}(l:List α)(hl:u5 l)(is:α->Bool)(b:B)(h1:∀(k:Nat) (h:k<l.length),body (k:Int)=some (bif is l[k] then .ret (k:Int) else .nxt (m4 ((k:Int)+1))))(h2:body (l.length:Int)=some (.brk b)):(s2 body 0=some (.brk b)/\l.any is=false)\/∃k:Nat,s2 body 0=some (.ret (k:Int))/\l.any is=true:=by
 have h:=a5Y (body:=body) (fun k=>(k:Int)) l.length (fun k=>match l[k]? with|some x => !is x|none=>true) (fun k=>(k:Int)) b
  (fun k hk _=>by
   have:=h1 k hk;rw [G0 hl hk] at this;rw [this];simp only [e9N hk];cases is l[k]<;>rfl) (fun _=>h2)
 rcases h with ⟨h,hall⟩|⟨k,hk,ho,_,h⟩
 ·left
  refine ⟨h,?_⟩;rw [f0u];intro x hx;obtain ⟨i,hi,rfl⟩:=f0R hx;have:=hall i hi;simpa [e9N hi] using this
 ·right
  refine ⟨k,h,?_⟩;rw [f1a];refine ⟨l[k],e9Q hk,?_⟩;simpa [e9N hk] using ho
theorem e4z{l:List p9}(h:u5 l)(box:Int):∃v,a2e l box=some v/\decide (v>=0)=R8 l box:=by
 unfold a2e;rcases c6V (body:=fun s:Int=>a1t l box s) l h (fun x=>x.i6==box) () (by
  intro k hk;unfold a1t;rw [z0 l k hk,u6 hk];cases hq:l[k].i6==box<;>simp [hq]) (by unfold a1t;rw [B7];rfl) with ⟨h1,h2⟩|⟨k,h1,h2⟩
 ·rw [h1];exact ⟨-1,rfl,h2.symm⟩
 ·rw [h1];refine ⟨k,rfl,?_⟩;rw [show R8 l box=true from h2];simp
theorem e9k{x:m9}(h:u5 x.a9)(box:Int):∃v,b1D x box=some v/\decide (v>=0)=L7 x.a9 box:=by
 unfold b1D;rcases c6V (body:=fun s:Int=>b2A x box s) x.a9 h (fun x=>x.i6==box) () (by
  intro k hk;unfold b2A;rw [z0 x.a9 k hk,u6 hk];cases hq:x.a9[k].i6==box<;>simp [hq]) (by unfold b2A;rw [B7];rfl) with ⟨h1,h2⟩|⟨k,h1,h2⟩
 ·rw [h1];exact ⟨-1,rfl,h2.symm⟩
 ·rw [h1];refine ⟨k,rfl,?_⟩;rw [show L7 x.a9 box=true from h2];simp
def q8(n lo hi:Int):Bool:=decide (lo<=n/\n<=hi)
theorem M0(n lo hi:Int):D3 n lo hi=some (q8 n lo hi):=by
 unfold D3 q8;by_cases h:n>=lo
 ·have h':lo<=n:=h;simp [h']
 ·have h':¬lo<=n:=h;simp [h']
theorem a5G(n:Int):a5L n=some (q8 n (-1000000) 1000000):=M0 n (-1000000) 1000000
theorem b9F(n:Int):a8h n=some (q8 n 0 3):=by
 rw [<-M0];unfold a8h D3;have:(n<4)=(n<=3):=by apply propext;omega
 simp only [this]
theorem b7G(q:s3):a5q q=some (q8 q.d7 0 2&&q8 q.Seq 1 1000):=by
 unfold a5q;simp only [M0,e9M];cases q8 q.d7 0 2<;>rfl
theorem c3I(q:s3):a9l q=some (q8 q.d7 0 2&&q8 q.Seq 1 1000):=by
 have h3:(q.d7<3)=(q.d7<=2):=by apply propext;omega
 unfold a9l q8;simp only [h3];by_cases h1:q.d7>=0<;>by_cases h2:q.d7<=2<;>by_cases h4:q.Seq>=1<;>by_cases h5:q.Seq<=1000<;>simp [h1,h2,h4,h5]<;>omega
def V2(l:List s1)(k:Nat):Bool:=match l[k]? with
 | some x=>q8 x.i6 0 3&&(q8 x.j4 0 1000000 && !L7 (l.take k) x.i6)
 | none=>true
def W3(l:List p9)(k:Nat):Bool:=match l[k]? with
 | some x=>q8 x.i6 0 3&&(q8 x.d9 (-1000000) 1000000 && !R8 (l.take k) x.i6)
 | none=>true
theorem c8Y{α:Type}{l:List α}(h:u5 l)(k:Nat):u5 (l.take k):=by
 unfold u5 at h⊢;rw [f0e];omega
theorem e1a{r:m9}(h:u5 r.a9):s2 (fun s:Int=>b17 r s) 0=some (bif (e9Y r.a9.length).all (V2 r.a9) then .brk () else .ret false):=by
 refine a5Z r.a9 h (V2 r.a9) false () ?_ ?_
 ·intro k hk _;unfold b17 V2 s5;rw [z0 _ k hk,u6 hk,e9N hk];have hp:(0:Int)<=(k:Int)/\(k:Int)<=(r.a9.length:Int):=by constructor<;>omega
  simp only [f1C,e9M,if_pos hp,b9F,f0h,f1y,f0G,c0C (c8Y h k)];cases q8 r.a9[k].i6 0 3
  ·rfl
  ·unfold q8;by_cases h1:r.a9[k].j4<0
   ·have h1':¬0<=r.a9[k].j4:=by omega
    simp [h1,h1']
   ·have h1':0<=r.a9[k].j4:=by omega
    by_cases h2:r.a9[k].j4>1000000
    ·have h2':¬r.a9[k].j4<=1000000:=by omega
     simp [h1,h1',h2,h2']
    ·have h2':r.a9[k].j4<=1000000:=by omega
     simp only [h1,h1',h2,h2',decide_false,decide_true,e9S,f1D,e95,and_self];cases L7 (r.a9.take k) r.a9[k].i6<;>rfl
 ·unfold b17;rw [B7];rfl
theorem e5p{r:m9}(h:u5 r.b6):s2 (fun s:Int=>b3j r s) 0=some (bif (e9Y r.b6.length).all (W3 r.b6) then .brk () else .ret false):=by
 refine a5Z r.b6 h (W3 r.b6) false () ?_ ?_
 ·intro k hk _;obtain ⟨v,hv,hg⟩:=e4z (c8Y h k) r.b6[k].i6;unfold b3j W3 s5;rw [z0 _ k hk,u6 hk,e9N hk];have hp:(0:Int)<=(k:Int)/\(k:Int)<=(r.b6.length:Int):=by constructor<;>omega
  simp only [f1C,e9M,if_pos hp,b9F,a5G,f0h,f1y,f0G,hv,hg];cases q8 r.b6[k].i6 0 3
  ·rfl
  ·cases q8 r.b6[k].d9 (-1000000) 1000000
   ·rfl
   ·cases R8 (r.b6.take k) r.b6[k].i6<;>rfl
 ·unfold b3j;rw [B7];rfl
def a81(f:Int->Bool):List Bool:=[f 0,f 1,f 2,f 3]
theorem c5G{f:Int->Bool}{b:Int}(h:q8 b 0 3=true):idx (a81 f) b=some (f b)/\b<4:=by
 have h:0<=b/\b<=3:=by simpa [q8] using h
 have:b=0\/b=1\/b=2\/b=3:=by omega
 rcases this with rfl|rfl|rfl|rfl<;>exact ⟨rfl,by decide⟩
theorem c7I{f g:Int->Bool}{b:Int}(h:q8 b 0 3=true)(hb:g b=true)(hne:∀c,c≠b->g c=f c):(a81 f).set b.toNat true=a81 g:=by
 have h:0<=b/\b<=3:=by simpa [q8] using h
 have:b=0\/b=1\/b=2\/b=3:=by omega
 unfold a81;rcases this with rfl|rfl|rfl|rfl
 all_goals
  rw [show [g 0,g 1,g 2,g 3]=_ from rfl];first
   | rw [hb,hne 1 (by decide),hne 2 (by decide),hne 3 (by decide)];rfl
   | rw [hb,hne 0 (by decide),hne 2 (by decide),hne 3 (by decide)];rfl
   | rw [hb,hne 0 (by decide),hne 1 (by decide),hne 3 (by decide)];rfl
   | rw [hb,hne 0 (by decide),hne 1 (by decide),hne 2 (by decide)];rfl
theorem d1G{l:List s1}{k:Nat}(hk:k<l.length)(b:Int):L7 (l.take (k+1)) b=(L7 (l.take k) b||(l[k].i6==b)):=by
 unfold L7;rw [f0m hk,List.any_append];simp
theorem c6m{l:List p9}{k:Nat}(hk:k<l.length)(b:Int):R8 (l.take (k+1)) b=(R8 (l.take k) b||(l[k].i6==b)):=by
 unfold R8;rw [f0m hk,List.any_append];simp
theorem d46{l:List s1}{k:Nat}(hk:k<l.length)(c:Int)(hc:c≠l[k].i6):L7 (l.take (k+1)) c=L7 (l.take k) c:=by
 have:(l[k].i6==c)=false:=by simpa using fun h=>hc h.symm
 rw [d1G hk,this,Bool.or_false]
theorem e0R{l:List p9}{k:Nat}(hk:k<l.length)(c:Int)(hc:c≠l[k].i6):R8 (l.take (k+1)) c=R8 (l.take k) c:=by
 have:(l[k].i6==c)=false:=by simpa using fun h=>hc h.symm
 rw [c6m hk,this,Bool.or_false]
theorem d2s{R S B:Type}{x:Option (l8 R B)}{n:Nat}{ok:Nat->Bool}{r:R}{b:B}(h:(x=some (.brk b)/\∀j,j<n->ok j=true)\/∃k,k<n/\ok k=false/\(∀j,j<k->ok j=true)/\x=some (.ret r)):x=some (bif (e9Y n).all ok then .brk b else .ret r):=by
 rcases h with ⟨h,hall⟩|⟨k,hk,ho,_,h⟩
 ·have:(e9Y n).all ok=true:=by
   rw [e9W];intro x hx;exact hall x (by simpa using hx)
  rw [this];exact h
 ·have:(e9Y n).all ok=false:=by
   rw [f1j];exact ⟨k,by simpa using hk,by simp [ho]⟩
  rw [this];exact h
theorem e61{r:m9}(h:u5 r.a9):s2 (fun s:List Bool×Int=>a94 r s.1 s.2) (e9O 4 false,0)=some (bif (e9Y r.a9.length).all (V2 r.a9) then .brk () else .ret false):=by
 refine d2s (S:=List Bool×Int) (a5Y (body:=fun s:List Bool×Int=>a94 r s.1 s.2) (fun k=>(a81 (L7 (r.a9.take k)),(k:Int))) r.a9.length (V2 r.a9) (fun _=>false) () ?_ ?_)
 ·intro k hk _;simp only;unfold a94 V2 s5;rw [z0 _ k hk,u6 hk,e9N hk];simp only [f1C,e9M,M0];cases hb:q8 r.a9[k].i6 0 3
  ·rfl
  ·obtain ⟨h1,h2⟩:=c5G (f:=L7 (r.a9.take k)) hb;rw [h1];simp only [if_pos h2,e9S,f1D,e9M,e95];cases hs:L7 (r.a9.take k) r.a9[k].i6
   ·cases q8 r.a9[k].j4 0 1000000
    ·rfl
    ·simp only [e9S,f1D,e97,e95,f1C];rw [c7I (f:=L7 (r.a9.take k)) (g:=L7 (r.a9.take (k+1))) hb (by rw [d1G hk];simp) (d46 hk),G0 h hk]
   ·cases q8 r.a9[k].j4 0 1000000<;>rfl
 ·intro _;simp only;unfold a94;rw [B7];rfl
theorem e4v{r:m9}(h:u5 r.b6):s2 (fun s:List Bool×Int=>a9B r s.1 s.2) (e9O 4 false,0)=some (bif (e9Y r.b6.length).all (W3 r.b6) then .brk () else .ret false):=by
 refine d2s (S:=List Bool×Int) (a5Y (body:=fun s:List Bool×Int=>a9B r s.1 s.2) (fun k=>(a81 (R8 (r.b6.take k)),(k:Int))) r.b6.length (W3 r.b6) (fun _=>false) () ?_ ?_)
 ·intro k hk _;simp only;unfold a9B W3 s5;rw [z0 _ k hk,u6 hk,e9N hk];simp only [f1C,e9M,M0];cases hb:q8 r.b6[k].i6 0 3
  ·rfl
  ·obtain ⟨h1,h2⟩:=c5G (f:=R8 (r.b6.take k)) hb;rw [h1];simp only [if_pos h2,e9S,f1D,e9M,e95];cases hs:R8 (r.b6.take k) r.b6[k].i6
   ·cases q8 r.b6[k].d9 (-1000000) 1000000
    ·rfl
    ·simp only [e9S,f1D,e97,e95,f1C];rw [c7I (f:=R8 (r.b6.take k)) (g:=R8 (r.b6.take (k+1))) hb (by rw [c6m hk];simp) (e0R hk),G0 h hk]
   ·cases q8 r.b6[k].d9 (-1000000) 1000000<;>rfl
 ·intro _;simp only;unfold a9B;rw [B7];rfl
def T0(r:m9):Bool:=q8 r.Code 0 3&&(q8 r.d9 (-1000000) 1000000&&((r.Code==0||(r.d9==0&&r.b6.length==0))&&((r.Code != 3||r.a9.length==0)&&((e9Y r.a9.length).all (V2 r.a9)&&(e9Y r.b6.length).all (W3 r.b6)))))
theorem e60{r:m9}(h:a12 r):b7U r=some ((e9Y r.a9.length).all (V2 r.a9)&&(e9Y r.b6.length).all (W3 r.b6)):=by
 unfold b7U b9p;rw [e1a (h.1.fits (by decide)),e5p (h.2.1.fits (by decide))];cases (e9Y r.a9.length).all (V2 r.a9)<;>cases (e9Y r.b6.length).all (W3 r.b6)<;>rfl
theorem d4U{r:m9}(h:a12 r):b6B r=some ((e9Y r.a9.length).all (V2 r.a9)&&(e9Y r.b6.length).all (W3 r.b6)):=by
 unfold b6B c2C;rw [e61 (h.1.fits (by decide)),e4v (h.2.1.fits (by decide))];cases (e9Y r.a9.length).all (V2 r.a9)<;>cases (e9Y r.b6.length).all (W3 r.b6)<;>rfl
theorem d2d{α:Type}(l:List α):decide ((l.length:Int)>0) = !(l.length==0):=by
 cases l<;>simp
theorem c8g{r:m9}(h:a12 r):b2u r=some (T0 r):=by
 unfold b2u T0;rw [e60 h];simp only [a5G,d2d,e9M,l8.go];generalize ((e9Y r.a9.length).all (V2 r.a9)&&(e9Y r.b6.length).all (W3 r.b6))=z;generalize (r.b6.length==0)=a;generalize (r.a9.length==0)=b;generalize q8 r.d9 (-1000000) 1000000=c;have h3:q8 r.Code 0 3=(!decide (r.Code<0) && !decide (r.Code>3)):=by
  unfold q8;by_cases h1:r.Code<0<;>by_cases h2:r.Code>3<;>simp [h1,h2]<;>omega
 rw [h3];unfold bne;cases decide (r.Code<0)<;>cases decide (r.Code>3)<;>cases c<;>cases (r.Code==0)<;>cases (r.d9==0)<;>cases a<;>cases (r.Code==3)<;>cases b<;>rfl
theorem c0V{r:m9}(h:a12 r):a8F r=some (T0 r):=by
 unfold a8F T0;rw [d4U h];simp only [M0,d2d,e9M,l8.go];generalize ((e9Y r.a9.length).all (V2 r.a9)&&(e9Y r.b6.length).all (W3 r.b6))=z;generalize (r.b6.length==0)=a;generalize (r.a9.length==0)=b;generalize q8 r.d9 (-1000000) 1000000=c;generalize q8 r.Code 0 3=d;unfold bne;cases d<;>cases c<;>cases (r.Code==0)<;>cases (r.d9==0)<;>cases a<;>cases (r.Code==3)<;>cases b<;>rfl
def a1E(a b:List s1)(k:Nat):Bool:=match a[k]?,b[k]? with
 | some x,some y=>([x.i6,x.j4]:List Int)==[y.i6,y.j4]
 | _,_=>true
def a1T(a b:List p9)(k:Nat):Bool:=match a[k]?,b[k]? with
 | some x,some y=>([x.i6,x.d9]:List Int)==[y.i6,y.d9]
 | _,_=>true
theorem e6U{a b:m9}(h:u5 a.a9)(hl:a.a9.length=b.a9.length):s2 (fun s:Int=>b2h a b s) 0=some (bif (e9Y a.a9.length).all (a1E a.a9 b.a9) then .brk () else .ret false):=by
 refine a5Z a.a9 h (a1E a.a9 b.a9) false () ?_ ?_
 ·intro k hk _;unfold b2h a1E;rw [z0 _ k hk,u6 hk,u6 (hl▸hk),e9N hk,e9N (hl▸hk)];simp only [f1C,e9M];cases ([a.a9[k].i6,a.a9[k].j4]:List Int)==[(b.a9[k]'(hl▸hk)).i6,(b.a9[k]'(hl▸hk)).j4]<;>rfl
 ·unfold b2h;rw [B7];rfl
theorem e6D{a b:m9}(h:u5 a.b6)(hl:a.b6.length=b.b6.length):s2 (fun s:Int=>b3K a b s) 0=some (bif (e9Y a.b6.length).all (a1T a.b6 b.b6) then .brk () else .ret false):=by
 refine a5Z a.b6 h (a1T a.b6 b.b6) false () ?_ ?_
 ·intro k hk _;unfold b3K a1T;rw [z0 _ k hk,u6 hk,u6 (hl▸hk),e9N hk,e9N (hl▸hk)];simp only [f1C,e9M];cases ([a.b6[k].i6,a.b6[k].d9]:List Int)==[(b.b6[k]'(hl▸hk)).i6,(b.b6[k]'(hl▸hk)).d9]<;>rfl
 ·unfold b3K;rw [B7];rfl
theorem e8j{a b:List s1}(h:u5 a):b5r a b=some (a.length==b.length&&(e9Y a.length).all (a1E a b)):=by
 unfold b5r;by_cases hl:a.length=b.length
 ·rw [a5Z a h (a1E a b) false ()]
  ·rw [hl];simp only [bne_self_eq_false,f1D,beq_self_eq_true,e95];cases (e9Y b.length).all (a1E a b)<;>rfl
  ·intro k hk _;unfold b6q a1E;rw [z0 _ k hk,u6 hk,u6 (hl▸hk),e9N hk,e9N (hl▸hk)];simp only [f1C,e9M];cases ([a[k].i6,a[k].j4]:List Int)==[(b[k]'(hl▸hk)).i6,(b[k]'(hl▸hk)).j4]<;>rfl
  ·unfold b6q;rw [B7];rfl
 ·have h1:((a.length:Int) != (b.length:Int))=true:=by simp;omega
  have h2:(a.length==b.length)=false:=by simpa using hl
  rw [h1,h2];rfl
theorem d9d{a b:List p9}(h:u5 a):b5c a b=some (a.length==b.length&&(e9Y a.length).all (a1T a b)):=by
 unfold b5c;by_cases hl:a.length=b.length
 ·rw [a5Z a h (a1T a b) false ()]
  ·rw [hl];simp only [bne_self_eq_false,f1D,beq_self_eq_true,e95];cases (e9Y b.length).all (a1T a b)<;>rfl
  ·intro k hk _;unfold b5x a1T;rw [z0 _ k hk,u6 hk,u6 (hl▸hk),e9N hk,e9N (hl▸hk)];simp only [f1C,e9M];cases ([a[k].i6,a[k].d9]:List Int)==[(b[k]'(hl▸hk)).i6,(b[k]'(hl▸hk)).d9]<;>rfl
  ·unfold b5x;rw [B7];rfl
 ·have h1:((a.length:Int) != (b.length:Int))=true:=by simp;omega
  have h2:(a.length==b.length)=false:=by simpa using hl
  rw [h1,h2];rfl
def a3e(a b:m9):Bool:=(a.a9.length==b.a9.length&&(e9Y a.a9.length).all (a1E a.a9 b.a9))&&((a.b6.length==b.b6.length&&(e9Y a.b6.length).all (a1T a.b6 b.b6))&&(a.d9==b.d9&&a.Code==b.Code))
theorem c8y{α β:Type}(a:List α)(b:List β):((a.length:Int) != (b.length:Int)) = !(a.length==b.length):=by
 unfold bne;congr 1
 by_cases h:a.length=b.length
 ·simp [h]
 ·have h1:((a.length:Int)==(b.length:Int))=false:=by simp;omega
  have h2:(a.length==b.length)=false:=by simpa using h
  rw [h1,h2]
theorem c3r{a b:m9}(h:a12 a):a9c a b=some (a3e a b):=by
 unfold a9c a3e;rw [c8y,c8y];cases h1:a.a9.length==b.a9.length
 ·unfold bne;cases a.d9==b.d9<;>cases a.Code==b.Code<;>rfl
 cases h2:a.b6.length==b.b6.length
 ·unfold bne;cases a.d9==b.d9<;>cases a.Code==b.Code<;>simp
 unfold b9Z;rw [e6U (h.1.fits (by decide)) (by simpa using h1),e6D (h.2.1.fits (by decide)) (by simpa using h2)];unfold bne;cases (e9Y a.a9.length).all (a1E a.a9 b.a9)<;>cases (e9Y a.b6.length).all (a1T a.b6 b.b6)<;>cases a.d9==b.d9<;>cases a.Code==b.Code<;>rfl
theorem b9j{a b:m9}(h:a12 a):b5w a b=some (a3e a b):=by
 unfold b5w a3e;rw [e8j (h.1.fits (by decide)),d9d (h.2.1.fits (by decide))];simp only [e9M];generalize (a.a9.length==b.a9.length&&(e9Y a.a9.length).all (a1E a.a9 b.a9))=x;generalize (a.b6.length==b.b6.length&&(e9Y a.b6.length).all (a1T a.b6 b.b6))=y;cases x<;>cases y<;>cases a.d9==b.d9<;>rfl
def z6(e:m5):Bool:=bif e.i8 then (([e.a5.d7,e.a5.Seq]:List Int)==[0,0])&&a3e e.b9 (m9.mk [] [] 0 0) else (q8 e.a5.d7 0 2&&q8 e.a5.Seq 1 1000)&&(T0 e.b9&&e.b9.Code != 3)
theorem a27{e:m5}(h:a1M e):a0V e=some (z6 e):=by
 unfold a0V z6;simp only [c3r h.2,c3I,c8g h.2,e9M];cases e.i8
 ·simp only [f1D];cases q8 e.a5.d7 0 2&&q8 e.a5.Seq 1 1000<;>cases T0 e.b9<;>rfl
 ·simp only [f1C];cases ([e.a5.d7,e.a5.Seq]:List Int)==[0,0]<;>rfl
theorem a5Q{e:m5}(h:a1M e):a00 e=some (z6 e):=by
 unfold a00 a0c z6;simp only [b9j h.2,b7G,c0V h.2,e9M];cases e.i8
 ·simp only [f1D];cases q8 e.a5.d7 0 2&&q8 e.a5.Seq 1 1000<;>cases T0 e.b9<;>rfl
 ·simp only [f1C,beq_self_eq_true];cases ([e.a5.d7,e.a5.Seq]:List Int)==[0,0]<;>rfl
def M6(l:List m5):Bool:=decide (l.length<=40)&&l.all z6
theorem c1D{α:Type}(l:List α)(n:Nat):decide ((l.length:Int)<=(n:Int))=decide (l.length<=n):=by
 by_cases h:l.length<=n
 ·have:(l.length:Int)<=(n:Int):=by omega
  simp [h,this]
 ·have:¬(l.length:Int)<=(n:Int):=by omega
  simp [h,this]
theorem a9O{α:Type}(l:List α)(n:Nat):decide ((l.length:Int)>(n:Int)) = !decide (l.length<=n):=by
 by_cases h:l.length<=n
 ·have:¬(l.length:Int)>(n:Int):=by omega
  simp [h,this]
 ·have:(l.length:Int)>(n:Int):=by omega
  simp [h,this]
theorem d4J{l:List m5}(h:z9 88 a1M l):b7C l=some (M6 l):=by
 unfold b7C M6;rw [show (40:Int)=((40:Nat):Int) from rfl,a9O,T1 l (h.fits (by decide)) z6 false ()]
 ·cases decide (l.length<=40)
  ·rfl
  ·cases l.all z6<;>rfl
 ·intro k hk;unfold b8z;rw [z0 _ k hk,u6 hk];simp only [f1C,e9M,a27 (h.2 _ (e9Q hk))];cases z6 l[k]<;>rfl
 ·unfold b8z;rw [B7];rfl
theorem d0n{l:List m5}(h:z9 88 a1M l):b3q l=some (M6 l):=by
 unfold b3q M6 c1y;rw [show (40:Int)=((40:Nat):Int) from rfl,c1D,T1 l (h.fits (by decide)) z6 false ()]
 ·cases l.all z6<;>cases decide (l.length<=40)<;>rfl
 ·intro k hk;unfold b52;rw [z0 _ k hk,u6 hk];simp only [f1C,e9M,a5Q (h.2 _ (e9Q hk))];cases z6 l[k]<;>rfl
 ·unfold b52;rw [B7];rfl
def a2l(b:q9):Bool:=q8 b.j4 0 1000000&&q8 b.d9 (-1000000) 1000000
def F6(l:List q9):Bool:=l.length==4&&l.all a2l
theorem d3j{α:Type}(l:List α)(n:Nat):((l.length:Int) != (n:Int)) = !(l.length==n):=by
 unfold bne;congr 1
 by_cases h:l.length=n
 ·simp [h]
 ·have h1:((l.length:Int)==(n:Int))=false:=by simp;omega
  have h2:(l.length==n)=false:=by simpa using h
  rw [h1,h2]
theorem e0y{α:Type}(l:List α)(n:Nat):((l.length:Int)==(n:Int))=(l.length==n):=by
 have:=d3j l n;unfold bne at this;simpa using this
theorem c0d{l:List q9}(h:u5 l):b1P l=some (F6 l):=by
 unfold b1P F6;rw [show (4:Int)=((4:Nat):Int) from rfl,d3j,T1 l h a2l false ()]
 ·cases l.length==4
  ·rfl
  ·cases l.all a2l<;>rfl
 ·intro k hk;unfold b4B a2l;rw [z0 _ k hk,u6 hk];simp only [f1C,e9M,a5G];cases hq:q8 l[k].j4 0 1000000 with
  | false=>
   by_cases h1:l[k].j4<0
   ·simp [h1]
   ·have:l[k].j4>1000000:=by
     unfold q8 at hq;simp at hq;omega
    simp [h1,this]
  | true=>
   unfold q8 at hq;simp at hq;have h1:¬l[k].j4<0:=by omega
   have h2:¬l[k].j4>1000000:=by omega
   simp only [h1,h2,decide_false,f1D,e95];cases q8 l[k].d9 (-1000000) 1000000<;>rfl
 ·unfold b4B;rw [B7];rfl
theorem b5o{l:List q9}(h:u5 l):a8m l=some (F6 l):=by
 unfold a8m F6 b8S;rw [show (4:Int)=((4:Nat):Int) from rfl,e0y,T1 l h a2l false ()]
 ·cases l.length==4<;>cases l.all a2l<;>rfl
 ·intro k hk;unfold b7S a2l;rw [z0 _ k hk,u6 hk];simp only [f1C,e9M,M0];cases q8 l[k].j4 0 1000000<;>cases q8 l[k].d9 (-1000000) 1000000<;>rfl
 ·unfold b7S;rw [B7];rfl
theorem c84{l:List s1}(h:(e9Y l.length).all (V2 l)=true):∀x∈l,0<=x.i6/\x.i6<=3/\0<=x.j4/\x.j4<=1000000:=by
 intro x hx;obtain ⟨i,hi,rfl⟩:=f0R hx;have:=e9W.1 h i (by simpa using hi);unfold V2 at this;rw [e9N hi] at this;simp [q8] at this;omega
theorem c7h{l:List p9}(h:(e9Y l.length).all (W3 l)=true):∀x∈l,0<=x.i6/\x.i6<=3/\-1000000<=x.d9/\x.d9<=1000000:=by
 intro x hx;obtain ⟨i,hi,rfl⟩:=f0R hx;have:=e9W.1 h i (by simpa using hi);unfold W3 at this;rw [e9N hi] at this;simp [q8] at this;omega
theorem a7u{r:m9}(h:T0 r=true):(0<=r.Code/\r.Code<=3)/\(-1000000<=r.d9/\r.d9<=1000000)/\(r.Code=0\/(r.d9=0/\r.b6=[]))/\(∀x∈r.a9,0<=x.i6/\x.i6<=3/\0<=x.j4/\x.j4<=1000000)/\∀x∈r.b6,0<=x.i6/\x.i6<=3/\-1000000<=x.d9/\x.d9<=1000000:=by
 unfold T0 at h;simp only [e9R,Bool.or_eq_true] at h;obtain ⟨h1,h2,h3,_,h4,h5⟩:=h;refine ⟨by simpa [q8] using h1,by simpa [q8] using h2,by simpa using h3,c84 h4,c7h h5⟩
def a4Q(l:List q9)(r:m9):Bool:=r.a9.all fun x=>match l[x.i6.toNat]? with
 | some b=>b.j4==x.j4
 | none=>true
theorem b76{l:List q9}(h:F6 l=true):l.length=4:=by
 unfold F6 at h;simp only [e9R,beq_iff_eq] at h;exact h.1
theorem a9E{l:List q9}(h:F6 l=true):u5 l:=by
 unfold u5;rw [b76 h];decide
theorem a39{l:List q9}(h:F6 l=true){b:Int}(hb:0<=b/\b<=3):∃x,idx l b=some x/\l[b.toNat]?=some x/\a2l x=true:=by
 have hl:=b76 h;have hlt:b.toNat<l.length:=by omega
 refine ⟨l[b.toNat],?_,e9N hlt,?_⟩
 ·unfold idx;rw [if_pos hb.1,e9N hlt]
 ·unfold F6 at h;simp only [e9R] at h;exact e9W.1 h.2 _ (e9Q hlt)
theorem e8M{l:List q9}{r:m9}(hl:u5 l)(hr:a12 r):b4n l r=some (F6 l&&(T0 r&&a4Q l r)):=by
 unfold b4n;rw [c0d hl,c8g hr];simp only [e9M];cases h1:F6 l
 ·rfl
 cases h2:T0 r
 ·rfl
 have hp:=a7u h2;simp only [e9S,f1D,e95];rw [T1 r.a9 (hr.1.fits (by decide)) (fun x=>match l[x.i6.toNat]? with|some b=>b.j4==x.j4|none=>true) false ()]
 ·unfold a4Q;cases r.a9.all _<;>rfl
 ·intro k hk;have hm:=hp.2.2.2.1 _ (e9Q hk);obtain ⟨b,hb1,hb2,_⟩:=a39 h1 (b:=r.a9[k].i6) ⟨hm.1,hm.2.1⟩;unfold b8r;rw [z0 _ k hk,u6 hk];simp only [f1C,e9M,hb1,hb2];unfold bne;cases b.j4==r.a9[k].j4<;>rfl
 ·unfold b8r;rw [B7];rfl
theorem d7f{l:List q9}{r:m9}(hl:u5 l)(hr:a12 r):b4S l r=some (F6 l&&(T0 r&&a4Q l r)):=by
 unfold b4S;rw [b5o hl,c0V hr];simp only [e9M];cases h1:F6 l
 ·rfl
 cases h2:T0 r
 ·rfl
 have hp:=a7u h2;simp only [e9S,f1D,e95];rw [T1 r.a9 (hr.1.fits (by decide)) (fun x=>match l[x.i6.toNat]? with|some b=>b.j4==x.j4|none=>true) false ()]
 ·unfold a4Q;cases r.a9.all _<;>rfl
 ·intro k hk;have hm:=hp.2.2.2.1 _ (e9Q hk);obtain ⟨b,hb1,hb2,_⟩:=a39 h1 (b:=r.a9[k].i6) ⟨hm.1,hm.2.1⟩;unfold b5Q;rw [z0 _ k hk,u6 hk];simp only [f1C,e9M,hb1,hb2];unfold bne;cases b.j4==r.a9[k].j4<;>rfl
 ·unfold b5Q;rw [B7];rfl
def a5g(l:List q9)(p:p9):List q9:=match l[p.i6.toNat]? with
 | some b=>l.set p.i6.toNat ⟨if b.j4+1<1000000 then b.j4+1 else 1000000,p.d9⟩
 | none=>l
def b7K(l:List q9)(ps:List p9):List q9:=ps.foldl a5g l
def a2N(x:p9):Prop:=0<=x.i6/\x.i6<=3/\-1000000<=x.d9/\x.d9<=1000000
theorem d0B{l:List q9}{p:p9}{b:q9}(h:l[p.i6.toNat]?=some b):a5g l p=l.set p.i6.toNat ⟨if b.j4+1<1000000 then b.j4+1 else 1000000,p.d9⟩:=by
 unfold a5g;rw [h]
theorem b1T{b:q9}:a2l b=true↔(0<=b.j4/\b.j4<=1000000)/\(-1000000<=b.d9/\b.d9<=1000000):=by
 unfold a2l q8;simp
theorem d38{l:List q9}:F6 l=true↔l.length=4/\∀b∈l,a2l b=true:=by
 unfold F6;simp
theorem e3i{l:List q9}{p:p9}(h:F6 l=true)(hp:a2N p):F6 (a5g l p)=true:=by
 obtain ⟨b,_,h2,h3⟩:=a39 h (b:=p.i6) ⟨hp.1,hp.2.1⟩;rw [d38] at h⊢;unfold a5g;rw [h2];refine ⟨by simpa using h.1,fun x hx => ?_⟩;rcases e99 hx with hx|rfl
 ·exact h.2 x hx
 ·rw [b1T] at h3⊢;refine ⟨?_,hp.2.2⟩;simp only;split<;>omega
theorem c2s:∀{ps:List p9} {l:List q9},F6 l=true->(∀p∈ps,a2N p)->F6 (b7K l ps)=true
 | [],l,h,_=>h
 | p::ps,l,h,hp=>c2s (ps:=ps) (e3i h (hp p (by simp))) fun x hx=>hp x (by simp [hx])
theorem c9O{l:List q9}{ps:List p9}(h:F6 l=true)(hp:∀p∈ps,a2N p)(k:Nat):F6 ((ps.take k).foldl a5g l)=true:=
 c2s h fun p hq=>hp p (f0v hq)
theorem d8y{l:List q9}{r:m9}(hl:F6 l=true)(hr:a12 r)(hp:∀p∈r.b6,a2N p):b77 l r=some (b7K l r.b6):=by
 unfold b77;rw [c6h r.b6 (hr.2.1.fits (by decide)) a5g l id]
 ·rfl
 ·intro k hk;have hq:=hp _ (e9Q hk);obtain ⟨b,h1,h2,h3⟩:=a39 (c9O hl hp k) (b:=r.b6[k].i6) ⟨hq.1,hq.2.1⟩;rw [b1T] at h3;unfold b72;rw [z0 _ k hk,u6 hk];simp only [f1C,e9M,h1];unfold c3c;rw [d0B h2,B8 (n:=b.j4+1) (by omega) (by omega)];by_cases hv:b.j4+1<1000000
  ·have:¬(1000000:Int)<b.j4+1:=by omega
   simp [hv,this]
  ·by_cases hv2:(1000000:Int)<b.j4+1
   ·simp [hv,hv2]
   ·have:b.j4+1=1000000:=by omega
    simp [hv,hv2,this]
 ·unfold b72;rw [B7];rfl
theorem c50{l:List q9}(h:l.length*16<=140737488351232):a8z l=some l:=by
 unfold a8z s5;cases l with
 | nil=>rfl
 | cons x l=>
  have h1:(((x::l).length:Int)==0)=false:=by simp;omega
  rw [h1,f1D,if_pos (by constructor<;>omega),if_pos (by simp)]
theorem c4w{l:List s6}(h:l.length*32<=140737488351232):a5M l=some l:=by
 unfold a5M s5;cases l with
 | nil=>rfl
 | cons x l=>
  have h1:(((x::l).length:Int)==0)=false:=by simp;omega
  rw [h1,f1D,if_pos (by constructor<;>omega),if_pos (by simp)]
theorem d7L{l:List q9}{r:m9}(hl:F6 l=true)(hr:a12 r)(hok:T0 r=true):b6a l r=some (b7K l r.b6):=by
 have hp:∀p∈r.b6,a2N p:=(a7u hok).2.2.2.2
 unfold b6a;rw [b5o (a9E hl),c0V hr,hl,hok];simp only [e9M,e9S,f1D];rw [c50 (by rw [b76 hl];decide),e9M,c6h r.b6 (hr.2.1.fits (by decide)) a5g l id]
 ·rfl
 ·intro k hk;have hq:=hp _ (e9Q hk);obtain ⟨b,h1,h2,h3⟩:=a39 (c9O hl hp k) (b:=r.b6[k].i6) ⟨hq.1,hq.2.1⟩;rw [b1T] at h3;unfold b3R;rw [z0 _ k hk,u6 hk];simp only [f1C,e9M,h1];rw [d0B h2,B8 (n:=b.j4+1) (by omega) (by omega)]
 ·unfold b3R;rw [B7];rfl
def a7O(d:s6):Bool:=(q8 d.a5.d7 0 2&&q8 d.a5.Seq 1 1000)&&(q8 d.Code 0 2&&(q8 d.d9 (-1000000) 1000000&&(d.Code==0||d.d9==0)))
def a3g(l:List s6):Prop:=l.Pairwise fun a b=>a.a5.d7<b.a5.d7
def K1(d:s6)(st:List s6×Bool)(x:s6):List s6×Bool:=
 bif !st.2&&decide (x.a5.d7>=d.a5.d7) then (bif x.a5.d7 != d.a5.d7 then (st.1++[d])++[x] else st.1++[d],true) else (bif x.a5.d7 != d.a5.d7 then st.1++[x] else st.1,st.2)
def a0w(l:List s6)(d:s6):List s6:=
 let r:=l.foldl (K1 d) ([],false);bif !r.2 then r.1++[d] else r.1
theorem e8I(d:s6)(st:List s6×Bool)(x:s6):(K1 d st x).1.length<=st.1.length+2:=by
 unfold K1;cases !st.2&&decide (x.a5.d7>=d.a5.d7)<;>cases x.a5.d7 != d.a5.d7<;>simp
theorem c0h(d:s6):∀(l:List s6) (st:List s6×Bool),(l.foldl (K1 d) st).1.length<=st.1.length+2*l.length
 | [],st=>by simp
 | x::l,st=>by
  have h1:=c0h d l (K1 d st x);have h2:=e8I d st x;simp only [f1f,f0D];omega
theorem c0j(d:s6):∀{l:List s6} {o:List s6},(∀x∈l,d.a5.d7<x.a5.d7)->l.foldl (K1 d) (o,true)=(o++l,true)
 | [],o,_=>by simp
 | x::l,o,h=>by
  have hx:=h x (by simp);have hne:(x.a5.d7 != d.a5.d7)=true:=by simp;omega
  rw [f1f,show K1 d (o,true) x=(o++[x],true) from by unfold K1;simp [hne],c0j d fun y hy=>h y (by simp [hy])];simp
theorem c54(d:s6):∀{l o:List s6},a3g l->
  (let r:=l.foldl (K1 d) (o,false);bif !r.2 then r.1++[d] else r.1)=o++(l.filter (fun x=>decide (x.a5.d7<d.a5.d7))++d::l.filter (fun x=>decide (d.a5.d7<x.a5.d7)))
 | [],o,_=>by simp
 | x::l,o,h=>by
  obtain ⟨h1,h2⟩:=f0W.1 h;rw [f1f];by_cases hlt:x.a5.d7<d.a5.d7
  ·have hge:¬x.a5.d7>=d.a5.d7:=by omega
   have hne:(x.a5.d7 != d.a5.d7)=true:=by simp;omega
   have hngt:¬d.a5.d7<x.a5.d7:=by omega
   rw [show K1 d (o,false) x=(o++[x],false) from by unfold K1;simp [hge,hne],c54 d h2];simp [hlt,hngt]
  ·have hge:x.a5.d7>=d.a5.d7:=by omega
   have hall:∀y∈l,d.a5.d7<y.a5.d7:=fun y hy=>by have:=h1 y hy;omega
   have hf1:l.filter (fun x=>decide (x.a5.d7<d.a5.d7))=[]:=by
    rw [List.filter_eq_nil_iff];intro y hy;have:=hall y hy;simp;omega
   have hf2:l.filter (fun x=>decide (d.a5.d7<x.a5.d7))=l:=by
    rw [List.filter_eq_self];intro y hy;simpa using hall y hy
   by_cases heq:x.a5.d7=d.a5.d7
   ·have hngt:¬d.a5.d7<x.a5.d7:=by omega
    rw [show K1 d (o,false) x=(o++[d],true) from by unfold K1;simp [hge,heq],c0j d hall];simp [hlt,hngt,hf1,hf2]
   ·have hgt:d.a5.d7<x.a5.d7:=by omega
    have hne:(x.a5.d7 != d.a5.d7)=true:=by simpa using heq
    rw [show K1 d (o,false) x=((o++[d])++[x],true) from by unfold K1;simp [hge,hne],c0j d hall];simp [hlt,hgt,hf1,hf2]
theorem c3S{l:List s6}(d:s6)(h:a3g l):a0w l d=l.filter (fun x=>decide (x.a5.d7<d.a5.d7))++d::l.filter (fun x=>decide (d.a5.d7<x.a5.d7)):=by
 have:=c54 d (o:=[]) h;simpa [a0w] using this
theorem e4q{l:List s6}(d:s6)(h:a3g l):a3g (a0w l d):=by
 rw [c3S d h];unfold a3g;rw [f05,f0W];refine ⟨h.filter _,⟨fun y hy=>by simpa using (f0C.1 hy).2,h.filter _⟩,fun a ha b hb => ?_⟩;have h1:a.a5.d7<d.a5.d7:=by simpa using (f0C.1 ha).2
 rcases e9V.1 hb with rfl|hb
 ·exact h1
 ·have h2:d.a5.d7<b.a5.d7:=by simpa using (f0C.1 hb).2
  omega
theorem d6d{l:List s6}{d x:s6}(h:a3g l)(hx:x∈a0w l d):x∈l\/x=d:=by
 rw [c3S d h] at hx;rcases e9P.1 hx with hx|hx
 ·exact .inl (f0C.1 hx).1
 ·rcases e9V.1 hx with rfl|hx
  ·exact .inr rfl
  ·exact .inl (f0C.1 hx).1
theorem c4b{l:List s6}(d:s6)(h:a3g l):(a0w l d).length<=l.length+1:=by
 rw [c3S d h];have:(l.filter fun x=>decide (x.a5.d7<d.a5.d7)).length+(l.filter fun x=>decide (d.a5.d7<x.a5.d7)).length<=l.length:=by
  clear h;induction l with
  | nil=>simp
  | cons x l ih=>
   by_cases h1:x.a5.d7<d.a5.d7
   ·have h2:¬d.a5.d7<x.a5.d7:=by omega
    simp [h1,h2];omega
   ·by_cases h2:d.a5.d7<x.a5.d7
    ·simp [h1,h2];omega
    ·simp [h1,h2];omega
 simp only [e91,f0D];omega
structure Inv(s:u9)(k:Nat):Prop where
 at_:s.At=(k:Int)
 le:k<=40
 boxes:F6 s.i0=true
 sorted:a3g s.i9
 dones:∀d∈s.i9,a7O d=true
 len:s.i9.length<=k
theorem Inv.fits{s:u9}{k:Nat}(h:Inv s k):u5 s.i9:=by
 have:=h.len;have:=h.le;unfold u5;omega
theorem c5p{α:Type}{o:List α}{d:α}(h:o.length<=80):((o++[d]).length+1)*32<=140737488355328:=by
 rw [show (o++[d]).length=o.length+1 from by simp];omega
theorem e7C{l:List s6}{d:s6}(hl:l.length<=40):b7x l d=some (a0w l d):=by
 have hf:u5 l:=by unfold u5;omega
 have hlen:∀k,k<=l.length->((l.take k).foldl (K1 d) ([],false)).1.length<=80:=by
  intro k hk;have:=c0h d (l.take k) ([],false);simp only [f1w,f0e] at this;omega
 unfold b7x;have hloop:=a0n (body:=fun s:(List s6)×Bool×Int=>b1O l d s.1 s.2.1 s.2.2) (fun k=>(((l.take k).foldl (K1 d) ([],false)).1,((l.take k).foldl (K1 d) ([],false)).2,(k:Int))) l.length (by
  intro k hk;have hb:=hlen k (by omega);rw [f0m hk,f1k];generalize (l.take k).foldl (K1 d) ([],false)=st at hb;obtain ⟨o,i⟩:=st;simp only at hb;simp only [f1f,f1A];unfold b1O c3x c3z K1;rw [z0 _ k hk,u6 hk,G0 hf hk];have n1:(o.length+1)*32<=140737488355328:=by omega
  have n2:((o++[d]).length+1)*32<=140737488355328:=c5p (by omega);cases i<;>cases h1:decide (l[k].a5.d7>=d.a5.d7)<;>cases h2:l[k].a5.d7 != d.a5.d7<;>simp only [h1,h2,t6 n1,t6 n2,f1C,f1D,e9M,l8.go,e9S,e97,e95,f1B])
 simp only [f0t,f1A,f0o] at hloop;rw [show ((0:Nat):Int)=0 from rfl] at hloop;rw [hloop,D7 (b:=l.foldl (K1 d) ([],false))]
 ·have hb:=hlen l.length (f0q _);rw [f0o] at hb;unfold b9i b91 a0w;generalize l.foldl (K1 d) ([],false)=st at hb;obtain ⟨o,i⟩:=st;have n1:(o.length+1)*32<=140737488355328:=by simp only at hb;omega
  cases i<;>simp only [t6 n1,f1C,f1D,e9M,l8.go,e9S,e97]
 ·unfold b1O;rw [B7];rfl
def a1e(s:u9)(e:m5):u9×Int:=
 bif a4Q s.i0 e.b9 then
  (bif e.b9.Code==0 then (⟨s.At+1,b7K s.i0 e.b9.b6,a0w s.i9 ⟨e.a5,0,e.b9.d9⟩⟩,0)
  else (⟨s.At+1,s.i0,a0w s.i9 ⟨e.a5,2,0⟩⟩,2))
 else (⟨s.At+1,s.i0,a0w s.i9 ⟨e.a5,1,0⟩⟩,1)
def apply(s:u9)(e:m5):u9×Int:=
 bif e.i8 then (⟨s.At+1,s.i0,s.i9⟩,5) else
 match s.i9.find? (fun d=>d.a5.d7==e.a5.d7) with
 | some d=>bif d.a5.Seq==e.a5.Seq then (⟨s.At+1,s.i0,s.i9⟩,3) else bif decide (d.a5.Seq>e.a5.Seq) then (⟨s.At+1,s.i0,s.i9⟩,4) else a1e s e
 | none=>a1e s e
theorem a8v{e:m5}(h:z6 e=true)(hn:e.i8=false):(0<=e.a5.d7/\e.a5.d7<=2)/\(1<=e.a5.Seq/\e.a5.Seq<=1000)/\T0 e.b9=true/\e.b9.Code≠3:=by
 unfold z6 at h;rw [hn] at h;simp [q8] at h;exact ⟨h.1.1,h.1.2,h.2.1,h.2.2⟩
theorem e8z{s:u9}(h:u5 s.i9)(who:Int):b6D s who=some (match s.i9.find? (fun d=>d.a5.d7==who) with|some d=>(d,true)|none=>(⟨⟨0,0⟩,0,0⟩,false)):=by
 unfold b6D;rw [c2d s.i9 h (fun d=>d.a5.d7==who) (fun d=>(d,true)) ()]
 ·cases s.i9.find? fun d=>d.a5.d7==who<;>rfl
 ·intro k hk;unfold b7I;rw [z0 _ k hk,u6 hk];simp only [f1C,e9M];cases s.i9[k].a5.d7==who<;>rfl
 ·unfold b7I;rw [B7];rfl
theorem c7G{s:u9}{k:Nat}{e:m5}(hs:Inv s k)(hk:k<40)(he:z6 e=true)(hf:a1M e):b0p s e=some (apply s e):=by
 have hw:m4 (s.At+1)=s.At+1:=by rw [hs.at_];exact B8 (by omega) (by omega)
 unfold b0p apply;rw [hw,e8z (s:=⟨s.At+1,s.i0,s.i9⟩) hs.fits];cases hn:e.i8;case true=>rfl
 obtain ⟨_,_,hr,hc3⟩:=a8v he hn;have hp:∀p∈e.b9.b6,a2N p:=(a7u hr).2.2.2.2
 have hfr:b8o s e=some (a1e s e):=by
  unfold b8o c1j c1A a1e;simp only [e8M (a9E hs.boxes) hf.2,hs.boxes,hr,e95,e9M,hw,e7C (f0c hs.len (by omega)),d8y hs.boxes hf.2 hp];cases a4Q s.i0 e.b9
  ·rfl
  ·cases e.b9.Code==0<;>rfl
 simp only [f1D,e9M,hfr];cases hfd:s.i9.find? fun d=>d.a5.d7==e.a5.d7 with
 | none=>rfl
 | some d=>
  have hwho:d.a5.d7=e.a5.d7:=by simpa using List.find?_some hfd
  have hq:(([d.a5.d7,d.a5.Seq]:List Int)==[e.a5.d7,e.a5.Seq])=(d.a5.Seq==e.a5.Seq):=by
   rw [hwho];simp
  simp only [hq,f1C];cases d.a5.Seq==e.a5.Seq
  ·cases decide (d.a5.Seq>e.a5.Seq)<;>rfl
  ·rfl
theorem e8S{l:List s6}(h:a3g l)(who seq:Int):l.find? (fun d=>d.a5.d7==who&&decide (d.a5.Seq>=seq))=match l.find? (fun d=>d.a5.d7==who) with
  | some d=>bif decide (d.a5.Seq>=seq) then some d else none
  | none=>none:=by
 induction l with
 | nil=>rfl
 | cons x l ih=>
  obtain ⟨h1,h2⟩:=f0W.1 h;rw [List.find?_cons,List.find?_cons];cases hx:x.a5.d7==who with
  | false=>simpa using ih h2
  | true=>
   cases hs:decide (x.a5.Seq>=seq) with
   | true=>simp [hs]
   | false=>
    simp only [Bool.and_false,hs,f1D];rw [List.find?_eq_none];intro y hy;have:=h1 y hy;have hx':x.a5.d7=who:=by simpa using hx
    simp;intro hyw;omega
theorem d6x{s:u9}{k:Nat}(hs:Inv s k):b40 s=some true:=by
 unfold b40;have hloop:=a0n (body:=fun v:Int=>b2M s v) (fun j=>(j:Int)) s.i9.length (by
  intro j hj;have hd:=hs.dones _ (e9Q hj);unfold a7O at hd;simp only [e9R,Bool.or_eq_true] at hd;obtain ⟨⟨d1,d2⟩,d3,d4,d5⟩:=hd;unfold b2M c3k;rw [z0 _ j hj,u6 hj,G0 hs.fits hj];simp only [f1C,e9M,b7G,M0,d1,d2,d3,d4,f0P,e9S,f1D];cases j with
  | zero=>
   rw [show decide (((0:Nat):Int)>0)=false from by decide];simp only [f1D];unfold bne;rcases d5 with d5|d5<;>simp [d5,l8.go,Option.bind]
  | succ j=>
   have hlt:(s.i9[j]'(by omega)).a5.d7<s.i9[j+1].a5.d7:=f0F.1 hs.sorted j (j+1) (by omega) hj (by omega);have hge:¬(s.i9[j]'(by omega)).a5.d7>=s.i9[j+1].a5.d7:=by omega
   have hle:=hs.fits;unfold u5 at hle;rw [show m4 (((j+1:Nat):Int)-1)=(j:Int) from by rw [B8 (by omega) (by omega)];omega,u6 (show j<s.i9.length by omega)];have hpos:decide (((j+1:Nat):Int)>0)=true:=by simp
   simp only [hpos,f1C,e9M,hge,decide_false,f1D];unfold bne;rcases d5 with d5|d5<;>simp [d5,l8.go,Option.bind])
 rw [show ((0:Nat):Int)=0 from rfl] at hloop;rw [hloop,D7 (b:=())]
 ·unfold b9D;have:=hs.le;have ha:q8 s.At 0 40=true:=by rw [hs.at_];simp [q8];omega
  simp [l8.go,M0,ha,b5o (a9E hs.boxes),hs.boxes]
 ·unfold b2M;rw [B7];rfl
theorem c2y{s:u9}{own:s6}{bx:List q9}(hl:s.i9.length<=40)(hw:m4 (s.At+1)=s.At+1)(hd:a3g s.i9):b64 s own bx=some (⟨s.At+1,bx,a0w s.i9 own⟩,own.Code):=by
 have hf:u5 s.i9:=by unfold u5;omega
 have hlen:∀k,k<=s.i9.length->((s.i9.take k).foldl (K1 own) ([],false)).1.length<=80:=by
  intro k hk;have:=c0h own (s.i9.take k) ([],false);simp only [f1w,f0e] at this;omega
 unfold b64;have hloop:=a0n (body:=fun x:(List s6)×Int×Bool=>b2i s own x.1 x.2.1 x.2.2) (fun k=>(((s.i9.take k).foldl (K1 own) ([],false)).1,(k:Int),((s.i9.take k).foldl (K1 own) ([],false)).2)) s.i9.length (by
  intro k hk;have hb:=hlen k (by omega);rw [f0m hk,f1k];generalize (s.i9.take k).foldl (K1 own) ([],false)=st at hb;obtain ⟨o,i⟩:=st;simp only at hb;simp only [f1f,f1A];unfold b2i c1w b9A K1;rw [z0 _ k hk,u6 hk,G0 hf hk];have n1:(o.length+1)*32<=140737488355328:=by omega
  have n2:((o++[own]).length+1)*32<=140737488355328:=c5p (by omega);cases i<;>cases h1:decide (s.i9[k].a5.d7>=own.a5.d7)<;>cases h2:s.i9[k].a5.d7 != own.a5.d7<;>simp only [h1,h2,t6 n1,t6 n2,f1C,f1D,e9M,l8.go,e9S,e97,e95,f1B])
 simp only [f0t,f1A,f0o] at hloop;rw [show ((0:Nat):Int)=0 from rfl] at hloop;rw [hloop,D7 (b:=s.i9.foldl (K1 own) ([],false))]
 ·have hb:=hlen s.i9.length (f0q _);rw [f0o] at hb;have hpl:=c4b own hd;have hcp:a5M (a0w s.i9 own)=some (a0w s.i9 own):=c4w (by omega);unfold c24 b9s;unfold a0w at hcp⊢;generalize s.i9.foldl (K1 own) ([],false)=st at hb hcp;obtain ⟨o,i⟩:=st;have n1:(o.length+1)*32<=140737488355328:=by simp only at hb;omega
  cases i<;>simp only [t6 n1,f1C,f1D,e9M,l8.go,e9S,e97,hw] at hcp⊢ <;>rw [hcp]<;>rfl
 ·unfold b2i;rw [B7];rfl
theorem b8H{s:u9}{k:Nat}{e:m5}(hs:Inv s k)(hk:k<40)(he:z6 e=true)(hf:a1M e):b47 s e=some (apply s e):=by
 have hw:m4 (s.At+1)=s.At+1:=by rw [hs.at_];exact B8 (by omega) (by omega)
 have hl:=hs.len;have hcd:a5M s.i9=some s.i9:=c4w (by omega);have hcb:a8z s.i0=some s.i0:=c50 (by rw [b76 hs.boxes];decide);have hat:(s.At==40)=false:=by rw [hs.at_];simp;omega
 unfold b47 apply;rw [d6x hs,a5Q hf,he];simp only [e9M,e9S,f1D,hat,hcb,hcd,hw];cases hn:e.i8;case true=>rfl
 obtain ⟨_,_,hr,hc3⟩:=a8v he hn;have hfr:b8c s e s.i0=some (a1e s e):=by
  unfold b8c a1e;simp only [d7f (a9E hs.boxes) hf.2,hs.boxes,hr,e95,e9M,d7L hs.boxes hf.2 hr];cases a4Q s.i0 e.b9
  ·simp only [e97,f1C,f1D,e9M,l8.go];exact c2y (by omega) hw hs.sorted
  ·unfold bne;cases e.b9.Code==0
   ·simp only [e97,e9S,f1C,f1D,e9M,l8.go];exact c2y (by omega) hw hs.sorted
   ·simp only [e9S,f1C,f1D,e9M,l8.go];exact c2y (by omega) hw hs.sorted
 simp only [f1D];rw [c2d s.i9 hs.fits (fun d=>d.a5.d7==e.a5.d7&&decide (d.a5.Seq>=e.a5.Seq)) (fun d=>(⟨s.At+1,s.i0,s.i9⟩,bif d.a5.Seq==e.a5.Seq then 3 else 4)) ()]
 ·rw [e8S hs.sorted];cases s.i9.find? fun d=>d.a5.d7==e.a5.d7 with
  | none=>simp only [e9M,l8.go,hfr]
  | some d=>
   cases hq:d.a5.Seq==e.a5.Seq with
   | true=>
    have:d.a5.Seq>=e.a5.Seq:=by
     have:d.a5.Seq=e.a5.Seq:=by simpa using hq
     omega
    simp [this,l8.go,hq]
   | false=>
    have hne:d.a5.Seq≠e.a5.Seq:=by simpa using hq
    by_cases hg:d.a5.Seq>e.a5.Seq
    ·have:d.a5.Seq>=e.a5.Seq:=by omega
     simp [this,l8.go,hg,hq]
    ·have:¬d.a5.Seq>=e.a5.Seq:=by omega
     simp [this,l8.go,hg,hfr,hq]
 ·intro j hj;unfold b5I c1R;rw [z0 _ j hj,u6 hj];simp only [f1C,e9M,hcd,hw];cases h1:s.i9[j].a5.d7==e.a5.d7<;>cases h2:decide (s.i9[j].a5.Seq>=e.a5.Seq)<;>cases h3:s.i9[j].a5.Seq==e.a5.Seq<;>simp only [f1C,f1D,e9M,l8.go,e95,f1B,f0P,Bool.and_false]
 ·unfold b5I;rw [B7];rfl
theorem e3n{s:u9}{k:Nat}{e:m5}(hs:Inv s k)(hk:k<40)(he:z6 e=true)(hn:e.i8=false):Inv (a1e s e).1 (k+1)/\0<=(a1e s e).2/\(a1e s e).2<=5:=by
  obtain ⟨h1,h2,hr,hc3⟩:=a8v he hn;have hp:=a7u hr;have hat:s.At+1=((k+1:Nat):Int):=by rw [hs.at_];rfl
  have key:∀(bx:List q9) (d:s6),F6 bx=true->a7O d=true->Inv ⟨s.At+1,bx,a0w s.i9 d⟩ (k+1):=fun bx d hb hd=>
    { at_:=hat,le:=by omega,boxes:=hb,sorted:=e4q d hs.sorted
      dones:=fun x hx=>by
        rcases d6d hs.sorted hx with hx|rfl
        · exact hs.dones x hx
        · exact hd
      len:=by
        have:=c4b d hs.sorted;have:=hs.len;simp only;omega}
  have hd0:∀c:Int,0<=c->c<=2->a7O ⟨e.a5,c,0⟩=true:=by
    intro c c1 c2;unfold a7O q8;simp;omega
  have hd1:a7O ⟨e.a5,0,e.b9.d9⟩=true:=by
    unfold a7O q8;simp;omega
  unfold a1e;cases a4Q s.i0 e.b9
  · exact ⟨key _ _ hs.boxes (hd0 1 (by decide) (by decide)),show (0:Int)<=1 from by decide,show (1:Int)<=5 from by decide⟩
  · cases e.b9.Code==0
    · exact ⟨key _ _ hs.boxes (hd0 2 (by decide) (by decide)),show (0:Int)<=2 from by decide,show (2:Int)<=5 from by decide⟩
    · exact ⟨key _ _ (c2s hs.boxes hp.2.2.2.2) hd1,show (0:Int)<=0 from by decide,show (0:Int)<=5 from by decide⟩
theorem d8D{s:u9}{k:Nat}{e:m5}(hs:Inv s k)(hk:k<40)(he:z6 e=true):Inv (apply s e).1 (k+1)/\0<=(apply s e).2/\(apply s e).2<=5:=by
 have hat:s.At+1=((k+1:Nat):Int):=by rw [hs.at_];rfl
 have key:Inv ⟨s.At+1,s.i0,s.i9⟩ (k+1):={at_:=hat,le:=by omega,boxes:=hs.boxes,sorted:=hs.sorted,dones:=hs.dones,len:=f02 hs.len}
 unfold apply;cases hn:e.i8
 ·have hfr:=e3n hs hk he hn;simp only [f1D];cases s.i9.find? fun d=>d.a5.d7==e.a5.d7 with
  | none=>exact hfr
  | some d=>
   simp only;cases d.a5.Seq==e.a5.Seq
   ·cases decide (d.a5.Seq>e.a5.Seq)
    ·exact hfr
    ·exact ⟨key,show (0:Int)<=4 from by decide,show (4:Int)<=5 from by decide⟩
   ·exact ⟨key,show (0:Int)<=3 from by decide,show (3:Int)<=5 from by decide⟩
 ·exact ⟨key,show (0:Int)<=5 from by decide,show (5:Int)<=5 from by decide⟩
def U3:u9:=⟨0,e9O 4 ⟨0,0⟩,[]⟩
theorem d5T:Inv U3 0:={at_:=rfl,le:=by omega,boxes:=by decide,sorted:=.nil,dones:=by simp [U3],len:=by simp [U3]}
theorem d3K:b0u=some U3:=by
 unfold b0u a3Q;rw [t6 (by decide)];rfl
theorem e80:b5O=some U3:=by
 unfold b5O c08;rw [t6 (by decide)];rfl
def b0t(st:u9×List Int)(e:m5):u9×List Int:=((apply st.1 e).1,st.2++[(apply st.1 e).2])
def A2(l:List m5):u9×List Int:=l.foldl b0t (U3,[])
theorem a65{l:List m5}{k:Nat}(hk:k<l.length):A2 (l.take (k+1))=b0t (A2 (l.take k)) l[k]:=by
 unfold A2;rw [f0m hk,f1k];rfl
theorem a4N{l:List m5}(hl:l.length<=40)(he:l.all z6=true):∀k,k<=l.length->Inv (A2 (l.take k)).1 k/\(A2 (l.take k)).2.length=k/\∀c∈(A2 (l.take k)).2,0<=c/\c<=5
 | 0,_=>by
  rw [f0t];exact ⟨d5T,rfl,by simp [A2]⟩
 | k+1,hk=>by
  obtain ⟨h1,h2,h3⟩:=a4N hl he k (by omega);have ha:=d8D h1 (by omega) (e9W.1 he _ (e9Q (show k<l.length by omega)));rw [a65 (show k<l.length by omega)];refine ⟨ha.1,by simp [b0t,h2],fun c hc => ?_⟩;unfold b0t at hc;rcases e9P.1 hc with hc|hc
  ·exact h3 c hc
  ·rw [e9Z] at hc;rw [hc];exact ha.2
theorem a76{l:List m5}(h:M6 l=true):l.length<=40/\l.all z6=true:=by
 unfold M6 at h;simpa using h
theorem c9s{l:List m5}(h:z9 88 a1M l)(hl:l.length<=40)(he:l.all z6=true):b14 l=some (A2 l):=by
  have hf:u5 l:=h.fits (by decide);unfold b14;rw [e80,e9M];first
  | (have hloop:=a0n (body:=fun s:(List q9)×(List s6)×(List Int)×Int×Int=>a0K l s.1 s.2.1 s.2.2.1 s.2.2.2.1 s.2.2.2.2) (fun k=>((A2 (l.take k)).1.i0,(A2 (l.take k)).1.i9,(A2 (l.take k)).2,(k:Int),(A2 (l.take k)).1.At)) l.length (by
       intro k hk;obtain ⟨h1,h2,h3⟩:=a4N hl he k (by omega);have n1:((A2 (l.take k)).2.length+1)*8<=140737488355328:=by rw [h2];omega
       rw [a65 hk];unfold a0K;rw [z0 _ k hk,u6 hk,G0 hf hk];simp only [f1C,e9M];rw [b8H h1 (by omega) (e9W.1 he _ (e9Q hk)) (h.2 _ (e9Q hk)),e9M,t6 n1];rfl)
     rw [f0t,f0o] at hloop;rw [show ((0:Nat):Int)=0 from rfl] at hloop;rw [show s2 (fun s:(List q9)×(List s6)×(List Int)×Int×Int=>a0K l s.1 s.2.1 s.2.2.1 s.2.2.2.1 s.2.2.2.2) (U3.i0,U3.i9,([]:List Int),0,U3.At)=_ from hloop,D7 (b:=((A2 l).1.i0,(A2 l).1.i9,(A2 l).2,(A2 l).1.At))]
     · rfl
     · unfold a0K;rw [B7];rfl
     done)
  | (have hloop:=a0n (body:=fun s:u9×(List Int)×Int=>a0K l s.1 s.2.1 s.2.2) (fun k=>((A2 (l.take k)).1,(A2 (l.take k)).2,(k:Int))) l.length (by
       intro k hk;obtain ⟨h1,h2,h3⟩:=a4N hl he k (by omega);have n1:((A2 (l.take k)).2.length+1)*8<=140737488355328:=by rw [h2];omega
       rw [a65 hk];unfold a0K;rw [z0 _ k hk,u6 hk,G0 hf hk];simp only [f1C,e9M];rw [b8H h1 (by omega) (e9W.1 he _ (e9Q hk)) (h.2 _ (e9Q hk)),e9M,t6 n1];rfl)
     rw [f0t,f0o] at hloop;rw [show ((0:Nat):Int)=0 from rfl] at hloop;rw [show s2 (fun s:u9×(List Int)×Int=>a0K l s.1 s.2.1 s.2.2) (U3,[],0)=_ from hloop,D7 (b:=A2 l)]
     · rfl
     · unfold a0K;rw [B7];rfl
     done)
  | (have hloop:=a0n (body:=fun s:(List q9)×(List Int)×Int×Int×List s6=>a0K l s.1 s.2.1 s.2.2.1 s.2.2.2.1 s.2.2.2.2) (fun k=>((A2 (l.take k)).1.i0,(A2 (l.take k)).2,(k:Int),(A2 (l.take k)).1.At,(A2 (l.take k)).1.i9)) l.length (by
       intro k hk;obtain ⟨h1,h2,h3⟩:=a4N hl he k (by omega);have n1:((A2 (l.take k)).2.length+1)*8<=140737488355328:=by rw [h2];omega
       rw [a65 hk];unfold a0K;rw [z0 _ k hk,u6 hk,G0 hf hk];simp only [f1C,e9M];rw [show (⟨(A2 (l.take k)).1.At,(A2 (l.take k)).1.i0,(A2 (l.take k)).1.i9⟩:u9)=(A2 (l.take k)).1 from rfl,b8H h1 (by omega) (e9W.1 he _ (e9Q hk)) (h.2 _ (e9Q hk)),e9M,t6 n1];rfl)
     rw [f0t,f0o] at hloop;rw [show ((0:Nat):Int)=0 from rfl] at hloop;rw [show s2 (fun s:(List q9)×(List Int)×Int×Int×List s6=>a0K l s.1 s.2.1 s.2.2.1 s.2.2.2.1 s.2.2.2.2) (U3.i0,[],0,U3.At,U3.i9)=_ from hloop,D7 (b:=((A2 l).1.i0,(A2 l).2,(A2 l).1.At,(A2 l).1.i9))]
     · rfl
     · unfold a0K;rw [B7];rfl
     done)
def Rd(r:o6)(m:Nat):Prop:=(∀x∈r.b,a4I x)/\r.b.length<=2000/\0<=r.p/\r.p<=(m:Int)
theorem Rd.mono{r:o6}{m n:Nat}(h:Rd r m)(hn:m<=n):Rd r n:=⟨h.1,h.2.1,h.2.2.1,by have:=h.2.2.2;omega⟩
theorem d8v{x y:Int}(hx:0<=x)(hx2:x<4611686018427387904)(hy:0<=y)(hy2:y<4611686018427387904):0<=a6t .i64 x y/\a6t .i64 x y<4611686018427387904:=by
 obtain ⟨a,rfl⟩:∃a:Nat,x=(a:Int):=⟨x.toNat,by omega⟩
 obtain ⟨b,rfl⟩:∃b:Nat,y=(b:Int):=⟨y.toNat,by omega⟩
 have hxor:a ^^^ b<2 ^ 62:=Nat.xor_lt_two_pow (by omega) (by omega);have h:a6t .i64 (a:Int) (b:Int)=((a ^^^ b:Nat):Int):=by
  unfold a6t;rw [BitVec.toNat_xor];have e1:(BitVec.ofInt IntKind.i64.bits (a:Int)).toNat=a:=by
   show (BitVec.ofInt 64 (a:Int)).toNat=a
   rw [BitVec.toNat_ofInt];omega
  have e2:(BitVec.ofInt IntKind.i64.bits (b:Int)).toNat=b:=by
   show (BitVec.ofInt 64 (b:Int)).toNat=b
   rw [BitVec.toNat_ofInt];omega
  rw [e1,e2];exact IntWalk.i64_in _ ⟨by omega,by omega⟩
 rw [h];omega
theorem c0D{l:List Int}(h:∀x∈l,a4I x){i:Int}(h0:0<=i)(h1:i<l.length):∃y,idx l i=some y/\0<=y/\y<=255:=by
 have hlt:i.toNat<l.length:=by omega
 refine ⟨l[i.toNat],?_,h _ (e9Q hlt)⟩;unfold idx;rw [if_pos h0,e9N hlt]
theorem b0c{x n:Int}(hx:0<=x)(hn:1<=n):0<=e9U x n/\e9U x n<n:=by
 rw [Int.tmod_eq_emod_of_nonneg hx];exact ⟨Int.emod_nonneg _ (by omega),Int.emod_lt_of_pos _ (by omega)⟩
theorem c8d{x n:Int}(hx:0<=x)(hn:1<=n):0<=f1r x n/\f1r x n<=x:=by
 rw [Int.tdiv_eq_ediv_of_nonneg hx];exact ⟨Int.ediv_nonneg hx (by omega),Int.ediv_le_self _ hx⟩
theorem C7{r:o6}{m:Nat}(h:Rd r m)(hm:m<=1000000000)(n:Int):∃v r',A3 r n=some (v,r')/\Rd r' (m+1)/\0<=v/\(v<n\/v=0):=by
 obtain ⟨hb,hbl,hp0,hp1⟩:=h;have hw:m4 (r.p+1)=r.p+1:=B8 (by omega) (by omega);have hw2:m4 (r.p+1-1)=r.p:=by rw [B8 (by omega) (by omega)];omega
 have hr:Rd ⟨r.b,r.p+1⟩ (m+1):=⟨hb,hbl,by simp only;omega,by simp only;omega⟩
 unfold A3;simp only [hw,hw2];by_cases hn:n<1
 ·simp only [hn,decide_true,f1C];exact ⟨0,_,rfl,hr,by omega,.inr rfl⟩
 simp only [hn,decide_false,f1D];cases he:((r.b.length:Int)==0);case true=>exact ⟨0,_,rfl,hr,by omega,.inr rfl⟩
 have hpos:0<r.b.length:=by
  have:¬(r.b.length:Int)=0:=by simpa using he
  omega
 have hne:(r.b.length:Int)≠0:=by omega
 have hnn:n≠0:=by omega
 simp only [f1D];by_cases hlt:r.p<(r.b.length:Int)
 ·obtain ⟨y,h1,h2,h3⟩:=c0D hb hp0 hlt;simp only [hlt,decide_true,f1C,h1,e9M,t6 hnn];rw [B8 (n:=y) (by omega) (by omega)];have:=b0c h2 (show 1<=n by omega);exact ⟨_,_,rfl,hr,this.1,.inl this.2⟩
 ·simp only [hlt,decide_false,f1D,t6 hne,t6 hnn];have t1:=b0c hp0 (show (1:Int)<=(r.b.length:Int) by omega);obtain ⟨y1,a1,a2,a3⟩:=c0D hb t1.1 t1.2;have w7:m4 (r.p*7)=r.p*7:=B8 (by omega) (by omega);have w73:m4 (r.p*7+3)=r.p*7+3:=B8 (by omega) (by omega);have t2:=b0c (show 0<=r.p*7+3 by omega) (show (1:Int)<=(r.b.length:Int) by omega);obtain ⟨y2,b1,b2,b3⟩:=c0D hb t2.1 t2.2;simp only [a1,w7,w73,b1,e9M];have td:=c8d hp0 (show (1:Int)<=(r.b.length:Int) by omega);have c1:m4 (m4 y1*131)=y1*131:=by rw [B8 (n:=y1) (by omega) (by omega),B8 (by omega) (by omega)]
  have c2:m4 (m4 y2*1117)=y2*1117:=by rw [B8 (n:=y2) (by omega) (by omega),B8 (by omega) (by omega)]
  have c3:m4 (r.p*29)=r.p*29:=B8 (by omega) (by omega);have c4:m4 (m4 (f1r r.p (r.b.length:Int))*53)=f1r r.p (r.b.length:Int)*53:=by rw [B8 (n:=f1r r.p (r.b.length:Int)) (by omega) (by omega),B8 (by omega) (by omega)]
  simp only [c1,c2,c3,c4];generalize f1r r.p (r.b.length:Int)=q at td;rw [B8 (n:=y1*131+y2*1117) (by omega) (by omega),B8 (n:=y1*131+y2*1117+r.p*29) (by omega) (by omega),B8 (n:=y1*131+y2*1117+r.p*29+q*53) (by omega) (by omega)];have hA0:0<=y1*131+y2*1117+r.p*29+q*53:=by omega
  have hA1:y1*131+y2*1117+r.p*29+q*53<1000000000000:=by omega
  generalize y1*131+y2*1117+r.p*29+q*53=A at hA0 hA1;have t3:=c8d hA0 (show (1:Int)<=64 by omega);rw [B8 (n:=f1r A 64) (by omega) (by omega)];have hx:=d8v hA0 (by omega) t3.1 (by omega);have t4:=b0c hx.1 (show 1<=n by omega);exact ⟨_,_,rfl,hr,t4.1,.inl t4.2⟩
theorem a1C{r:o6}{m:Nat}(h:Rd r m)(hm:m<=1000000000)(l:List Int)(hl:0<l.length)(hl2:l.length<=1000):∃v r',T3 r l=some (v,r')/\Rd r' (m+1)/\v∈l:=by
 obtain ⟨v,r',h1,h2,h3,h4⟩:=C7 h hm (l.length:Int);unfold T3;rw [h1,e9M];have hlt:v.toNat<l.length:=by omega
 refine ⟨l[v.toNat],r',?_,h2,e9Q hlt⟩;unfold idx;simp only [if_pos h3,e9N hlt,e9M]
theorem e2P{code:List Int}(h:∀x∈code,a4I x):∃r,b5a code=some r/\Rd r 0:=by
 unfold b5a c2U;by_cases hl:(code.length:Int)>2000
 ·simp only [hl,decide_true,f1C];rw [t6 ⟨by omega,by omega⟩];refine ⟨_,rfl,?_,?_,by simp,by simp⟩
  ·intro x hx;simp only [f0G] at hx;exact h x (f0v hx)
  ·simp only [f0e];have:(2000:Int).toNat-0=2000:=by decide
   omega
 ·simp only [hl,decide_false,f1D];exact ⟨_,rfl,h,by simp only;omega,by simp,by simp⟩
def M2(i:r9):Bool:=
 bif i.a6==1 then q8 i.A 0 3&&(q8 i.B 0 3&&i.N==0) else
 bif i.a6==2 then q8 i.A 0 3&&(q8 i.B 0 3&&i.N==0) else
 bif i.a6==3 then q8 i.A 0 3&&(i.B==0&&q8 i.N (-1000000) 1000000) else
 bif i.a6==4 then q8 i.A 0 3&&(q8 i.B 0 3&&i.N==0) else
 bif i.a6==5 then q8 i.A 0 3&&(q8 i.B 0 3&&i.N==0) else
 bif i.a6==6 then q8 i.A 0 3&&(q8 i.B 0 3&&q8 i.N 1 10) else
 bif i.a6==7 then i.A==0&&(i.B==0&&i.N==0) else false
theorem e3L(n:Int):a1L n=some (q8 n 0 3):=by
 rw [<-M0];unfold a1L D3;have:(n<4)=(n<=3):=by apply propext;omega
 simp only [this]
theorem e2b(i:r9):b6h i=some (M2 i):=by
 unfold b6h M2;have h6:(bif decide (i.N>=1) then some (decide (i.N<=10)) else some false)=some (q8 i.N 1 10):=by
  unfold q8;by_cases h1:i.N>=1<;>by_cases h2:i.N<=10<;>simp [h1,h2]<;>omega
 simp only [e3L,b9F,a5G,e9M,h6];cases i.a6==1<;>cases i.a6==2<;>cases i.a6==3<;>cases i.a6==4<;>cases i.a6==5<;>cases i.a6==6<;>cases i.a6==7<;>cases q8 i.A 0 3<;>cases q8 i.B 0 3<;>cases i.A==0<;>cases i.B==0<;>rfl
def D6(l:List r9):Bool:=decide (l.length<=10)&&l.all M2
theorem b4W{l:List r9}(h:u5 l):b0f l=some (D6 l):=by
 unfold b0f D6;rw [show (10:Int)=((10:Nat):Int) from rfl,a9O,T1 l h M2 false ()]
 ·cases decide (l.length<=10)
  ·rfl
  ·cases l.all M2<;>rfl
 ·intro k hk;unfold b4T;rw [z0 _ k hk,u6 hk];simp only [f1C,e9M,e2b];cases M2 l[k]<;>rfl
 ·unfold b4T;rw [B7];rfl
theorem a8e{i:r9}(h:M2 i=true):(i.a6=1/\(0<=i.A/\i.A<=3)/\(0<=i.B/\i.B<=3))\/(i.a6=2/\(0<=i.A/\i.A<=3)/\(0<=i.B/\i.B<=3))\/(i.a6=3/\(0<=i.A/\i.A<=3)/\(-1000000<=i.N/\i.N<=1000000))\/
  (i.a6=4/\(0<=i.A/\i.A<=3)/\(0<=i.B/\i.B<=3))\/(i.a6=5/\(0<=i.A/\i.A<=3)/\(0<=i.B/\i.B<=3))\/(i.a6=6/\(0<=i.A/\i.A<=3)/\(0<=i.B/\i.B<=3)/\(1<=i.N/\i.N<=10))\/(i.a6=7/\i.A=0):=by
 unfold M2 q8 at h;by_cases h1:i.a6=1
 ·simp [h1] at h;exact .inl ⟨h1,h.1,h.2.1⟩
 by_cases h2:i.a6=2
 ·simp [h2] at h;exact .inr (.inl ⟨h2,h.1,h.2.1⟩)
 by_cases h3:i.a6=3
 ·simp [h3] at h;exact .inr (.inr (.inl ⟨h3,h.1,h.2.2⟩))
 by_cases h4:i.a6=4
 ·simp [h4] at h;exact .inr (.inr (.inr (.inl ⟨h4,h.1,h.2.1⟩)))
 by_cases h5:i.a6=5
 ·simp [h5] at h;exact .inr (.inr (.inr (.inr (.inl ⟨h5,h.1,h.2.1⟩))))
 by_cases h6:i.a6=6
 ·simp [h6] at h;exact .inr (.inr (.inr (.inr (.inr (.inl ⟨h6,h.1,h.2.1,h.2.2⟩)))))
 by_cases h7:i.a6=7
 ·simp [h7] at h;exact .inr (.inr (.inr (.inr (.inr (.inr ⟨h7,h.1⟩)))))
 ·have e1:(i.a6==1)=false:=by simpa using h1
  have e2:(i.a6==2)=false:=by simpa using h2
  have e3:(i.a6==3)=false:=by simpa using h3
  have e4:(i.a6==4)=false:=by simpa using h4
  have e5:(i.a6==5)=false:=by simpa using h5
  have e6:(i.a6==6)=false:=by simpa using h6
  have e7:(i.a6==7)=false:=by simpa using h7
  rw [e1,e2,e3,e4,e5,e6,e7] at h;cases h
def a3D(l:List s1):Bool:=(e9Y l.length).all (V2 l)
def a1x(l:List p9):Bool:=(e9Y l.length).all (W3 l)
def c3y(x:s1):Prop:=0<=x.i6/\x.i6<=3/\0<=x.j4/\x.j4<=1000000
theorem d0L{l:List s1}:a3D l=true↔(∀x∈l,c3y x)/\l.Pairwise fun a b=>a.i6≠b.i6:=by
 unfold a3D;constructor
 ·intro h;refine ⟨c84 h,?_⟩;rw [f0F];intro i j hi hj hij heq;have:=e9W.1 h j (by simpa using hj);unfold V2 at this;rw [e9N hj] at this;simp only [e9R,f0J] at this;have hs:=this.2.2;unfold L7 at hs;rw [f0u] at hs;refine hs l[i] ?_ (by simpa using heq);rw [f06];exact ⟨i,by omega,rfl⟩
 ·rintro ⟨h1,h2⟩
  rw [e9W];intro k hk;have hk:k<l.length:=by simpa using hk
  unfold V2;rw [e9N hk];have hf:=h1 _ (e9Q hk);have hs:L7 (l.take k) l[k].i6=false:=by
   unfold L7;rw [f0u];intro x hx;obtain ⟨i,hi,rfl⟩:=f06.1 hx;have:=f0F.1 h2 i k (by omega) hk (by omega);simpa using this
  simp only [hs,e97,f0P,e9R];unfold c3y at hf;exact ⟨by simp [q8];omega,by simp [q8];omega⟩
theorem b6E{l:List p9}:a1x l=true↔(∀x∈l,a2N x)/\l.Pairwise fun a b=>a.i6≠b.i6:=by
 unfold a1x;constructor
 ·intro h;refine ⟨c7h h,?_⟩;rw [f0F];intro i j hi hj hij heq;have:=e9W.1 h j (by simpa using hj);unfold W3 at this;rw [e9N hj] at this;simp only [e9R,f0J] at this;have hs:=this.2.2;unfold R8 at hs;rw [f0u] at hs;refine hs l[i] ?_ (by simpa using heq);rw [f06];exact ⟨i,by omega,rfl⟩
 ·rintro ⟨h1,h2⟩
  rw [e9W];intro k hk;have hk:k<l.length:=by simpa using hk
  unfold W3;rw [e9N hk];have hf:=h1 _ (e9Q hk);have hs:R8 (l.take k) l[k].i6=false:=by
   unfold R8;rw [f0u];intro x hx;obtain ⟨i,hi,rfl⟩:=f06.1 hx;have:=f0F.1 h2 i k (by omega) hk (by omega);simpa using this
  simp only [hs,e97,f0P,e9R];unfold a2N at hf;exact ⟨by simp [q8];omega,by simp [q8];omega⟩
theorem c6i{l:List s1}{x:s1}(h:a3D l=true)(hx:c3y x)(hs:L7 l x.i6=false):a3D (l++[x])=true:=by
 rw [d0L] at h⊢;refine ⟨fun y hy => ?_,?_⟩
 ·rcases e9P.1 hy with hy|hy
  ·exact h.1 y hy
  ·rw [e9Z.1 hy];exact hx
 ·rw [f05];refine ⟨h.2,by simp,fun a ha b hb => ?_⟩;rw [e9Z.1 hb];unfold L7 at hs;rw [f0u] at hs;simpa using hs a ha
theorem d3J{l:List p9}{x:p9}(h:a1x l=true)(hx:a2N x)(hs:R8 l x.i6=false):a1x (l++[x])=true:=by
 rw [b6E] at h⊢;refine ⟨fun y hy => ?_,?_⟩
 ·rcases e9P.1 hy with hy|hy
  ·exact h.1 y hy
  ·rw [e9Z.1 hy];exact hx
 ·rw [f05];refine ⟨h.2,by simp,fun a ha b hb => ?_⟩;rw [e9Z.1 hb];unfold R8 at hs;rw [f0u] at hs;simpa using hs a ha
theorem c5W{l:List p9}{k:Nat}{v:Int}(h:a1x l=true)(hk:k<l.length)(hv:-1000000<=v/\v<=1000000):a1x (l.set k ⟨l[k].i6,v⟩)=true:=by
 rw [b6E] at h⊢;refine ⟨fun y hy => ?_,?_⟩
 ·rcases e99 hy with hy|rfl
  ·exact h.1 y hy
  ·have:=h.1 _ (e9Q hk);exact ⟨this.1,this.2.1,hv⟩
 ·rw [f0F];intro i j hi hj hij;have hi':i<l.length:=by simpa using hi
  have hj':j<l.length:=by simpa using hj
  have hne:=f0F.1 h.2 i j hi' hj' hij;rw [List.getElem_set,List.getElem_set];split<;>split<;>simp_all
theorem b2E(r:m9):T0 r=(q8 r.Code 0 3&&(q8 r.d9 (-1000000) 1000000&&((r.Code==0||(r.d9==0&&r.b6.length==0))&&((r.Code != 3||r.a9.length==0)&&(a3D r.a9&&a1x r.b6))))):=rfl
theorem c7W{l:List p9}(h:u5 l)(box:Int):(a2e l box=some (-1)/\R8 l box=false)\/∃k:Nat,a2e l box=some (k:Int)/\∃hk:k<l.length,l[k].i6=box:=by
 have hc:=a5Y (body:=fun s:Int=>a1t l box s) (fun k=>(k:Int)) l.length (fun k=>match l[k]? with|some x => !(x.i6==box)|none=>true) (fun k=>(k:Int)) ()
  (fun k hk _=>by
   unfold a1t;rw [z0 l k hk,u6 hk,G0 h hk];simp only [f1C,e9M,e9N hk];cases l[k].i6==box<;>rfl) (fun _=>by unfold a1t;rw [B7];rfl)
 unfold a2e;rcases hc with ⟨h1,hall⟩|⟨k,hk,ho,_,h1⟩
 ·left
  rw [show s2 (fun s:Int=>a1t l box s) 0=_ from h1];refine ⟨rfl,?_⟩;unfold R8;rw [f0u];intro x hx;obtain ⟨i,hi,rfl⟩:=f0R hx;have:=hall i hi;simpa [e9N hi] using this
 ·right
  rw [show s2 (fun s:Int=>a1t l box s) 0=_ from h1];refine ⟨k,rfl,hk,?_⟩;simpa [e9N hk] using ho
def inV(v:Int):Prop := -1000000<=v/\v<=1000000
def a74(regs:List Int):Prop:=regs.length=4/\∀v∈regs,inV v
theorem a2p{regs:List Int}(h:regs.length=4){a:Int}(ha:0<=a/\a<=3):∃v,idx regs a=some v/\v∈regs:=by
 have hlt:a.toNat<regs.length:=by omega
 refine ⟨regs[a.toNat],?_,e9Q hlt⟩;unfold idx;rw [if_pos ha.1,e9N hlt]
theorem d7E{regs:List Int}{a:Nat}{v w:Int}(h:w∈regs.set a v):w∈regs\/w=v:=e99 h
structure T6(r:m9)(n:Nat):Prop where
 val:r.d9=0
 reads:a3D r.a9=true
 puts:a1x r.b6=true
 rlen:r.a9.length<=n
 plen:r.b6.length<=n
theorem T6.fitsR{r:m9}{n:Nat}(h:T6 r n)(hn:n<=100):u5 r.a9:=by
 have:=h.rlen;unfold u5;omega
theorem T6.fitsP{r:m9}{n:Nat}(h:T6 r n)(hn:n<=100):u5 r.b6:=by
 have:=h.plen;unfold u5;omega
theorem e7H{l:List q9}{r:m9}{n:Nat}{box:Int}(hl:F6 l=true)(hr:T6 r n)(hn:n<=100)(hb:0<=box/\box<=3):∃v r',b0v l r box=some (v,r')/\T6 r' (n+1)/\r'.Code=r.Code/\inV v:=by
 have hp:=(b6E.1 hr.puts).1;unfold b0v;rcases c7W (hr.fitsP hn) box with ⟨h1,h2⟩|⟨k,h1,hk,h2⟩
 ·rw [h1,e9M,show decide ((-1:Int)>=0)=false from by decide,f1D,c0C (hr.fitsR hn),e9M];obtain ⟨b,b1,b2,b3⟩:=a39 hl hb;rw [b1T] at b3;cases hs:L7 r.a9 box
  ·simp only [e97,f1C,b1,e9M];have n1:(r.a9.length+1)*16<=140737488355328:=by have:=hr.rlen;omega
   simp only [t6 n1,e9M,l8.go];unfold b3f;rw [b1,e9M];refine ⟨_,_,rfl,⟨hr.val,c6i hr.reads ⟨hb.1,hb.2,b3.1⟩ hs,hr.puts,?_,?_⟩,rfl,b3.2⟩
   ·have:=hr.rlen;simp;omega
   ·have:=hr.plen;simp only;omega
  ·simp only [e9S,f1D,e9M,l8.go];unfold b3f;rw [b1,e9M];refine ⟨_,_,rfl,⟨hr.val,hr.reads,hr.puts,?_,?_⟩,rfl,b3.2⟩
   ·have:=hr.rlen;simp only;omega
   ·have:=hr.plen;simp only;omega
 ·rw [h1,e9M,show decide (((k:Nat):Int)>=0)=true from by simp,f1C,u6 hk,e9M];have hf:=hp _ (e9Q hk);exact ⟨_,_,rfl,⟨hr.val,hr.reads,hr.puts,f02 hr.rlen,f02 hr.plen⟩,rfl,hf.2.2⟩
theorem e66{r:m9}{n:Nat}{box v:Int}(hr:T6 r n)(hn:n<=100)(hb:0<=box/\box<=3)(hv:inV v):∃r',b2F r box v=some r'/\T6 r' (n+1)/\r'.Code=r.Code:=by
 unfold b2F;rcases c7W (hr.fitsP hn) box with ⟨h1,h2⟩|⟨k,h1,hk,h2⟩
 ·rw [h1,e9M,show decide ((-1:Int)>=0)=false from by decide,f1D];have n1:(r.b6.length+1)*16<=140737488355328:=by have:=hr.plen;omega
  rw [t6 n1];refine ⟨_,rfl,⟨hr.val,hr.reads,d3J hr.puts ⟨hb.1,hb.2,hv⟩ h2,?_,?_⟩,rfl⟩
  ·have:=hr.rlen;simp only;omega
  ·have:=hr.plen;simp;omega
 ·rw [h1,e9M,show decide (((k:Nat):Int)>=0)=true from by simp,f1C,u6 hk,e9M];refine ⟨_,rfl,⟨hr.val,hr.reads,?_,f02 hr.rlen,?_⟩,rfl⟩
  ·simp only [f0h];exact c5W hr.puts hk hv
  ·have:=hr.plen;simp;omega
theorem d5V{l:List q9}{r:m9}{n:Nat}{regs:List Int}{i:r9}(hl:F6 l=true)(hr:T6 r n)(hn:n<=100)(hc:r.Code=0)(hg:a74 regs)(hi:M2 i=true)(h6:i.a6≠6) :
  ∃r' regs',a58 l r regs i=some (r',regs')/\T6 r' (n+1)/\regs'.length=4/\(r'.Code=0\/r'.Code=1\/r'.Code=2)/\(r'.Code=0->a74 regs'):=by
 have hend:∀(regs':List Int) (r':m9),T6 r' (n+1)->(r'.Code=0\/r'.Code=1)->regs'.length=4->i.a6≠2->(0<=i.A/\i.A<=3)->(∀v,idx regs' i.A=some v->inV v->a74 regs')->
   ∃r2 regs2,a3l i regs' r'.a9 r'.b6 r'.d9 r'.Code=some (r2,regs2)/\T6 r2 (n+1)/\regs2.length=4/\(r2.Code=0\/r2.Code=1\/r2.Code=2)/\(r2.Code=0->a74 regs2):=by
  intro regs' r' w1 w2 w3 w4 w5 w6;obtain ⟨v,v1,v2⟩:=a2p w3 w5;have hk:(i.a6 != 2)=true:=by simpa using w4
  unfold a3l a7w;rw [hk,f1C,v1,e9M,a5G,e9M];cases hv:q8 v (-1000000) 1000000
  ·simp only [e97,f1C,e9M,l8.go];exact ⟨_,_,rfl,⟨w1.val,w1.reads,w1.puts,w1.rlen,w1.plen⟩,w3,.inr (.inr rfl),fun h=>absurd h (show ¬(2:Int)=0 from by decide)⟩
  ·simp only [e9S,f1D,e9M,l8.go];have hv':inV v:=by simpa [q8,inV] using hv
   refine ⟨_,_,rfl,⟨w1.val,w1.reads,w1.puts,w1.rlen,w1.plen⟩,w3,?_,fun _=>w6 v v1 hv'⟩;rcases w2 with w2|w2
   ·exact .inl w2
   ·exact .inr (.inl w2)
 have hset:∀(a:Int) (x:Int),(0<=a/\a<=3)->(regs.set a.toNat x).length=4/\∀v,idx (regs.set a.toNat x) a=some v->inV v->a74 (regs.set a.toNat x):=by
  intro a x ha;have hlt:a.toNat<regs.length:=by have:=hg.1;omega
  refine ⟨by simpa using hg.1,fun v hv hin=>⟨by simpa using hg.1,fun w hw => ?_⟩⟩;rcases d7E hw with hw|rfl
  ·exact hg.2 w hw
  ·unfold idx at hv;rw [if_pos ha.1,f0S hlt] at hv;injection hv with hv;subst hv;exact hin
 have hw1:T6 r (n+1):=⟨hr.val,hr.reads,hr.puts,f02 hr.rlen,f02 hr.plen⟩
 unfold a58;rcases a8e hi with ⟨k,ha,hb⟩|⟨k,ha,hb⟩|⟨k,ha,hN⟩|⟨k,ha,hb⟩|⟨k,ha,hb⟩|⟨k,_⟩|⟨k,ha⟩
 ·obtain ⟨v,r',q1,q2,q3,q4⟩:=e7H hl hr hn hb;obtain ⟨y,y1,_⟩:=a2p hg.1 ha;simp only [k,q1,y1,beq_self_eq_true,f1C,e9M,l8.go];exact hend _ r' q2 (.inl (q3.trans hc)) (hset i.A v ha).1 (by omega) ha (hset i.A v ha).2
 ·obtain ⟨y,y1,y2⟩:=a2p hg.1 hb;obtain ⟨r',q1,q2,q3⟩:=e66 hr hn ha (hg.2 y y2);have e1:((2:Int)==1)=false:=by decide
  simp only [k,e1,y1,q1,beq_self_eq_true,f1C,f1D,e9M,l8.go];unfold a3l a7w;simp only [k,bne_self_eq_false,f1D,e9M,l8.go];exact ⟨_,_,rfl,⟨q2.val,q2.reads,q2.puts,q2.rlen,q2.plen⟩,hg.1,.inl (q3.trans hc),fun _=>hg⟩
 ·obtain ⟨y,y1,_⟩:=a2p hg.1 ha;have e1:((3:Int)==1)=false:=by decide
  have e2:((3:Int)==2)=false:=by decide
  simp only [k,e1,e2,y1,beq_self_eq_true,f1C,f1D,e9M,l8.go];exact hend _ r hw1 (.inl hc) (hset i.A i.N ha).1 (by omega) ha (hset i.A i.N ha).2
 ·obtain ⟨y,y1,_⟩:=a2p hg.1 ha;obtain ⟨z,z1,_⟩:=a2p hg.1 hb;have e1:((4:Int)==1)=false:=by decide
  have e2:((4:Int)==2)=false:=by decide
  have e3:((4:Int)==3)=false:=by decide
  simp only [k,e1,e2,e3,y1,z1,beq_self_eq_true,f1C,f1D,e9M,l8.go];exact hend _ r hw1 (.inl hc) (hset i.A _ ha).1 (by omega) ha (hset i.A _ ha).2
 ·obtain ⟨y,y1,_⟩:=a2p hg.1 ha;obtain ⟨z,z1,_⟩:=a2p hg.1 hb;have e1:((5:Int)==1)=false:=by decide
  have e2:((5:Int)==2)=false:=by decide
  have e3:((5:Int)==3)=false:=by decide
  have e4:((5:Int)==4)=false:=by decide
  simp only [k,e1,e2,e3,e4,y1,z1,beq_self_eq_true,f1C,f1D,e9M,l8.go];exact hend _ r hw1 (.inl hc) (hset i.A _ ha).1 (by omega) ha (hset i.A _ ha).2
 ·exact absurd k h6
 ·have e1:((7:Int)==1)=false:=by decide
  have e2:((7:Int)==2)=false:=by decide
  have e3:((7:Int)==3)=false:=by decide
  have e4:((7:Int)==4)=false:=by decide
  have e5:((7:Int)==5)=false:=by decide
  simp only [k,e1,e2,e3,e4,e5,beq_self_eq_true,f1C,f1D,e9M,l8.go];have:=hend regs ⟨r.a9,r.b6,r.d9,1⟩ ⟨hw1.val,hw1.reads,hw1.puts,hw1.rlen,hw1.plen⟩ (.inr rfl) hg.1 (by omega) ⟨by omega,by omega⟩ (fun _ _ _=>hg);exact this
structure Ran(r:m9):Prop where
 ok:T0 r=true
 rlen:r.a9.length<=40
 plen:r.b6.length<=40
theorem b1H{r:m9}{n:Nat}(h:T6 r n)(hn:n<=40)(hc:r.Code=0\/r.Code=1\/r.Code=2){v:Int}(hv:r.Code=0->inV v):Ran ⟨r.a9,bif r.Code != 0 then [] else r.b6,bif r.Code != 0 then r.d9 else v,r.Code⟩:=by
 have h1:=h.rlen;have h2:=h.plen;have hR:=h.reads;have hP:=h.puts;have hP0:a1x []=true:=rfl;rcases hc with hc|hc|hc
 ·have hv:=hv hc;unfold inV at hv;refine ⟨?_,by simp only;omega,by simp only [hc];simp;omega⟩;rw [b2E];simp [hc,hR,hP,q8,hv]
 ·refine ⟨?_,by simp only;omega,by simp [hc]⟩;rw [b2E];simp [hc,hR,hP0,q8,h.val]
 ·refine ⟨?_,by simp only;omega,by simp [hc]⟩;rw [b2E];simp [hc,hR,hP0,q8,h.val]
theorem d9Q{l:List q9}{prog:List r9}(hl:u5 l)(hp:u5 prog):∃r,a70 l prog=some r/\(F6 l=true->Ran r)/\r.a9.length<=40/\r.b6.length<=40:=by
 unfold a70;rw [c0d hl,b4W hp];have h0:Ran ⟨[],[],0,3⟩:=⟨by decide,by simp,by simp⟩
 cases hb:F6 l
 ·exact ⟨_,rfl,(fun h=>by cases h),by simp,by simp⟩
 cases hpo:D6 prog
 ·exact ⟨_,rfl,fun _=>h0,by simp,by simp⟩
 simp only [e9M,e9S,f1D];rw [t6 (by decide)];have hlen:prog.length<=10:=by
  unfold D6 at hpo;simp only [e9R,decide_eq_true_eq] at hpo;exact hpo.1
 have hins:∀i∈prog,M2 i=true:=by
  unfold D6 at hpo;simp only [e9R] at hpo;exact e9W.1 hpo.2
 obtain ⟨x,hx,hq⟩:=a5C (body:=fun s:(List Int)×(List s1)×(List p9)×Int×Int×Int=>a0j l prog s.1 s.2.1 s.2.2.1 s.2.2.2.1 s.2.2.2.2.1 s.2.2.2.2.2)
  (fun m s => ∃k:Nat,s.2.2.2.1=(k:Int)/\k<=30/\k+m=31/\T6 ⟨s.2.1,s.2.2.1,s.2.2.2.2.1,s.2.2.2.2.2⟩ k/\s.1.length=4/\(s.2.2.2.2.2=0\/s.2.2.2.2.2=1\/s.2.2.2.2.2=2)/\(s.2.2.2.2.2=0->a74 s.1))
  (fun x=>match x with
   | .ret _=>False
   | .brk b=>T6 ⟨b.1,b.2.1,b.2.2.2.1,b.2.2.2.2⟩ 30/\b.2.2.1.length=4/\(b.2.2.2.2=0\/b.2.2.2.2=1\/b.2.2.2.2=2)/\(b.2.2.2.2=0->a74 b.2.2.1))
  (by
   rintro m ⟨regs,a9,b6,kk,rVal,rCode⟩ ⟨k,hk,hk30,hm,hway,hreg,hcode,hrok⟩
   simp only at hk hway hreg hcode hrok⊢;subst hk;have hend:T6 ⟨a9,b6,rVal,rCode⟩ 30:=⟨hway.val,hway.reads,hway.puts,f0c hway.rlen hk30,f0c hway.plen hk30⟩
   unfold a0j;by_cases hlt:k<prog.length
   ·rw [z0 _ k hlt,u6 hlt];cases hc:rCode==0
    ·exact ⟨_,rfl,hend,hreg,hcode,hrok⟩
    have hc0:rCode=0:=by simpa using hc
    have hi:=hins _ (e9Q hlt);simp only [f1C,e9M];cases h6:prog[k].a6==6
    ·obtain ⟨r',regs',q1,q2,q3,q4,q5⟩:=d5V hb hway (by omega) hc0 (hrok hc0) hi (by simpa using h6);simp only [f1D,q1,e9M];rw [t6 (by rw [q3];exact hreg),B8 (by omega) (by omega)];exact ⟨_,rfl,m-1,by omega,k+1,by simp,by omega,by omega,q2,q3,q4,q5⟩
    ·have h6':prog[k].a6=6:=by simpa using h6
     obtain ⟨_,ha,hbb,hN⟩:prog[k].a6=6/\(0<=prog[k].A/\prog[k].A<=3)/\(0<=prog[k].B/\prog[k].B<=3)/\(1<=prog[k].N/\prog[k].N<=10):=by
      rcases a8e hi with ⟨q,_⟩|⟨q,_⟩|⟨q,_⟩|⟨q,_⟩|⟨q,_⟩|q|⟨q,_⟩
      ·omega
      ·omega
      ·omega
      ·omega
      ·omega
      ·exact q
      ·omega
     obtain ⟨y,y1,_⟩:=a2p hreg ha;obtain ⟨z,z1,_⟩:=a2p hreg hbb;simp only [f1C,y1,z1,e9M];have hw2:∀j:Nat,k<=j->T6 ⟨a9,b6,rVal,rCode⟩ (j+1):=fun j h=>⟨hway.val,hway.reads,hway.puts,f0c hway.rlen (by omega),f0c hway.plen (by omega)⟩
     unfold b53;by_cases hyz:y<z
     ·simp only [hyz,decide_true,f1C,e9M,l8.go];have e1:m4 ((k:Int)+prog[k].N)=((k+prog[k].N.toNat:Nat):Int):=by
       rw [B8 (n:=(k:Int)+prog[k].N) (by omega) (by omega)];omega
      rw [e1,B8 (n:=((k+prog[k].N.toNat:Nat):Int)+1) (by omega) (by omega)];exact ⟨_,rfl,31-(k+prog[k].N.toNat+1),by omega,k+prog[k].N.toNat+1,rfl,by omega,by omega,hw2 _ (by omega),hreg,hcode,hrok⟩
     ·simp only [hyz,decide_false,f1D,e9M,l8.go];rw [B8 (n:=(k:Int)+1) (by omega) (by omega)];exact ⟨_,rfl,31-(k+1),by omega,k+1,rfl,by omega,by omega,hw2 k (by omega),hreg,hcode,hrok⟩
   ·have:decide ((k:Int)<(prog.length:Int))=false:=by simp;omega
    rw [this,f1D];exact ⟨_,rfl,hend,hreg,hcode,hrok⟩) (k:=31) (s:=(e9O (4:Int).toNat 0,[],[],0,0,0)) ⟨0,rfl,by omega,by omega,⟨rfl,rfl,rfl,by simp,by simp⟩,rfl,.inl rfl,fun _=>⟨rfl,by simp [inV]⟩⟩
 rw [hx,e9M];cases x with
 | ret r=>cases hq
 | brk b=>
  obtain ⟨a9,b6,regs,rVal,rCode⟩:=b;obtain ⟨q1,q2,q3,q4⟩:=hq;simp only at q1 q2 q3 q4;simp only [l8.go];unfold a5b;obtain ⟨v,v1,v2⟩:=a2p q2 (a:=0) ⟨by omega,by omega⟩;have hran:=b1H q1 (by omega) q3 (v:=v) (fun h=>(q4 h).2 v v2);have q1r:=q1.rlen;have q1p:=q1.plen;simp only at hran q1r q1p;cases hc:rCode != 0
  ·rw [hc] at hran;simp only [f1D,v1,e9M] at hran⊢;exact ⟨_,rfl,fun _=>hran,by simp only;omega,by simp only;omega⟩
  ·rw [hc] at hran;simp only [f1C] at hran⊢;exact ⟨_,rfl,fun _=>hran,by simp only;omega,by simp⟩
theorem e0h{r:o6}{m:Nat}(h:Rd r m)(hm:m<=100000000):∃i r',b6L r=some (i,r')/\Rd r' (m+10):=by
 obtain ⟨k,r1,a1,a2,a3⟩:=a1C h (by omega) [1,1,2,2,3,4,4,5,6,7] (by decide) (by decide);obtain ⟨p1,r2,b1,b2,b3,b4⟩:=C7 a2 (by omega) 3;obtain ⟨p2,r3,c1,c2,c3,c4⟩:=C7 b2 (by omega) 3;unfold b6L;simp only [a1,b1,c1,e9M];cases h3:k==3
 ·cases h6:k==6
  ·cases h7:k==7
   ·exact ⟨_,_,rfl,c2.mono (by omega)⟩
   ·obtain ⟨p3,r4,d1,d2,d3,d4⟩:=C7 c2 (by omega) 3;simp only [f1C,f1D,d1,e9M];cases decide (p3>0)
    ·exact ⟨_,_,rfl,d2.mono (by omega)⟩
    ·obtain ⟨p4,r5,e1,e2,e3,e4⟩:=C7 d2 (by omega) 4;obtain ⟨p5,r6,f1,f2,f3,f4⟩:=C7 e2 (by omega) 4;simp only [f1C,e1,f1,e9M];exact ⟨_,_,rfl,f2.mono (by omega)⟩
  ·obtain ⟨p3,r4,d1,d2,d3,d4⟩:=C7 c2 (by omega) 3;simp only [f1C,f1D,d1,e9M];exact ⟨_,_,rfl,d2.mono (by omega)⟩
 ·obtain ⟨n1,r4,d1,d2,d3⟩:=a1C c2 (by omega) [0,1,5,(-2),100,1000000] (by decide) (by decide);simp only [f1C,d1,e9M];exact ⟨_,_,rfl,d2.mono (by omega)⟩
theorem a9Q{r:o6}{m:Nat}(h:Rd r m)(hm:m<=50000000):∃p r',a0o r=some (p,r')/\Rd r' (m+200)/\p.length<=10:=by
 obtain ⟨v,r1,a1,a2,a3,a4⟩:=C7 h (by omega) 3;unfold a0o;simp only [a1,e9M];cases v==0
 ·obtain ⟨k,r2,b1,b2,b3,b4⟩:=C7 a2 (by omega) 8;simp only [f1D,b1,e9M];obtain ⟨x,hx,hq⟩:=a5C (body:=fun s:o6×(List r9)×Int=>b8e s.1 s.2.1 s.2.2)
   (fun j s=>s.2.2=(j:Int)/\j<=8/\Rd s.1 (m+2+10*(8-j))/\s.2.1.length+j<=8)
   (fun x=>match x with
    | .ret _=>False
    | .brk b=>Rd b.1 (m+200)/\b.2.length<=10)
   (by
    rintro j ⟨r,out,i⟩ ⟨q1,q2,q3,q4⟩
    simp only at q1 q3 q4⊢;subst q1;unfold b8e;cases j with
    | zero=>exact ⟨_,rfl,q3.mono (by omega),by simp only;omega⟩
    | succ j=>
     obtain ⟨i,r',d1,d2⟩:=e0h q3 (by omega);have hpos:decide (((j+1:Nat):Int)>0)=true:=by simp
     have n1:(out.length+1)*32<=140737488355328:=by omega
     rw [hpos,f1C,d1,e9M,t6 n1,B8 (by omega) (by omega)];exact ⟨_,rfl,j,by omega,by simp only;omega,by omega,d2.mono (by omega),by simp;omega⟩) (k:=k.toNat) (s:=(r2,[],k)) ⟨by simp only;omega,by omega,b2.mono (by omega),by simp;omega⟩
  rw [hx,e9M];cases x with
  | ret r=>cases hq
  | brk b=>exact ⟨_,_,rfl,hq.1,hq.2⟩
 ·obtain ⟨p1,r2,b1,b2,b3,b4⟩:=C7 a2 (by omega) 3;obtain ⟨p2,r3,c1,c2,c3,c4⟩:=C7 b2 (by omega) 3;obtain ⟨p3,r4,d1,d2,d3,d4⟩:=C7 c2 (by omega) 3;simp only [f1C,b1,c1,d1,e9M];exact ⟨_,_,rfl,d2.mono (by omega),by simp⟩
def e2g(e:m5):Prop:=e.b9.a9.length<=40/\e.b9.b6.length<=40
def drawn(l:List m5):Prop:=l.length<=41/\∀e∈l,e2g e
theorem b24{j:Nat}(hj:j<1000):m4 (((j+1:Nat):Int)-1)=(j:Int):=by
 rw [B8 (by omega) (by omega)];omega
theorem e9x{l:List m5}(h:z9 88 a1M l):b5U l=some (bif M6 l then (A2 l).1 else ⟨0,[],[]⟩):=by
 unfold b5U;rw [d0n h,e9M];cases hok:M6 l
 ·rfl
 ·obtain ⟨hl,he⟩:=a76 hok;rw [e9S,f1D,c9s h hl he];rfl
theorem e7s{l:List m5}(h:z9 88 a1M l)(hok:M6 l=true):b57 l=some (A2 l).1:=by
 obtain ⟨hl,he⟩:=a76 hok;have hf:u5 l:=h.fits (by decide);unfold b57;rw [d3K,e9M,show (40:Int)=((40:Nat):Int) from rfl,a9O,decide_eq_true hl,e9S,f1D];have hloop:=a0n (body:=fun s:(List q9)×Int×Int×List s6=>a9F l s.1 s.2.1 s.2.2.1 s.2.2.2) (fun k=>((A2 (l.take k)).1.i0,(k:Int),(A2 (l.take k)).1.At,(A2 (l.take k)).1.i9)) l.length (by
  intro k hk;obtain ⟨h1,h2,h3⟩:=a4N hl he k (by omega);have hek:=e9W.1 he _ (e9Q hk);have hfk:=h.2 _ (e9Q hk);rw [a65 hk];unfold a9F;rw [z0 _ k hk,u6 hk,G0 hf hk];simp only [f1C,e9M,a27 hfk,hek,e9S,f1D];rw [show (⟨(A2 (l.take k)).1.At,(A2 (l.take k)).1.i0,(A2 (l.take k)).1.i9⟩:u9)=(A2 (l.take k)).1 from rfl,c7G h1 (by omega) hek hfk,e9M];rfl)
 rw [f0t,f0o] at hloop;rw [show ((0:Nat):Int)=0 from rfl] at hloop;rw [show s2 (fun s:(List q9)×Int×Int×List s6=>a9F l s.1 s.2.1 s.2.2.1 s.2.2.2) (U3.i0,0,U3.At,U3.i9)=_ from hloop,D7 (b:=((A2 l).1.i0,(A2 l).1.At,(A2 l).1.i9))]
 ·rfl
 ·unfold a9F;rw [B7];rfl
theorem d6c{r:m9}(h:T0 r=true):a1x r.b6=true:=by
 rw [b2E] at h;simp only [e9R] at h;exact h.2.2.2.2.2
def e0B(l:List m5)(cs:List Int)(k:Nat):List s3:=match cs[k]?,l[k]? with
 | some c,some e=>bif c==0 then [e.a5] else []
 | _,_=>[]
def told(l:List m5)(cs:List Int):Nat->List s3
 | 0=>[]
 | k+1=>told l cs k++e0B l cs k
theorem a5w{ps:List p9}(h:ps.Pairwise fun p q=>p.i6≠q.i6)(b:Int):(ps.filter fun p=>p.i6==b).length<=1:=by
 have h2:=h.filter (fun p=>p.i6==b);cases hq:ps.filter fun p=>p.i6==b with
 | nil=>simp
 | cons x r=>
  cases r with
  | nil=>simp
  | cons y r=>
   rw [hq] at h2;have hne:=(f0W.1 h2).1 y (by simp);have hx:x∈ps.filter fun p=>p.i6==b:=by rw [hq];simp
   have hy:y∈ps.filter fun p=>p.i6==b:=by rw [hq];simp
   have hx:=(f0C.1 hx).2;have hy:=(f0C.1 hy).2;simp only [beq_iff_eq] at hx hy;omega
theorem c2l:∀{ps:List p9},(∀p∈ps,a2N p)->ps.length=(ps.filter fun p=>p.i6==0).length+(ps.filter fun p=>p.i6==1).length+(ps.filter fun p=>p.i6==2).length+(ps.filter fun p=>p.i6==3).length
 | [],_=>rfl
 | p::ps,h=>by
  have ih:=c2l (ps:=ps) fun x hx=>h x (by simp [hx])
  have hp:=h p (by simp);have:p.i6=0\/p.i6=1\/p.i6=2\/p.i6=3:=by
   have:=hp.1;have:=hp.2.1;omega
  simp only [List.filter_cons,f0D];rcases this with q|q|q|q<;>simp [q]<;>omega
theorem d9u{r:m9}(h:T0 r=true):r.b6.length<=4:=by
 have h1:=(b6E.1 (d6c h))
 have h2:=c2l h1.1;have a:=a5w h1.2 0;have b:=a5w h1.2 1;have c:=a5w h1.2 2;have d:=a5w h1.2 3;omega
theorem okEntries.s{l:List m5}(h:z9 88 E0 l):z9 88 a1M l:=h.imp fun _ x=>x.f
theorem a3d(c x:Bool):(bif c then some x else some false)=some (c&&x):=by cases c<;>rfl
theorem b2Y(c x:Bool):(bif c then some false else some x)=some (!c&&x):=by cases c<;>rfl
theorem d7g(n lo hi:Int):q8 n lo hi=(!decide (n<lo) && !decide (n>hi)):=by
 unfold q8;by_cases h1:n<lo<;>by_cases h2:n>hi<;>simp [h1,h2]<;>omega
theorem rng{α:Type}(n lo hi:Int)(X Y:α):(bif decide (n<lo) then Y else bif decide (n>hi) then Y else X)=bif q8 n lo hi then X else Y:=by
 rw [d7g];cases decide (n<lo)<;>cases decide (n>hi)<;>rfl
theorem b8K{α:Type}(n lo:Int)(X Y:α):(bif decide (n<lo) then Y else bif decide (n>=3) then Y else X)=bif q8 n lo 2 then X else Y:=by
 have e:decide (n>=3)=decide (n>2):=by
  by_cases h:n>2
  ·rw [decide_eq_true h,decide_eq_true (by omega)]
  ·rw [decide_eq_false h,decide_eq_false (by omega)]
 rw [<-rng,e]
theorem a4H(a b:Int):(!decide (a>b))=decide (a<=b):=by
 by_cases h:a<=b
 ·simp [h]
 ·simp [h];omega
theorem d1V{α:Type}(l:List α):decide ((l.length:Int)>0) = !((l.length:Int)==0):=by
 by_cases hp:l.length=0
 ·rw [decide_eq_false (by omega),show ((l.length:Int)==0)=true from by rw [hp];rfl];rfl
 ·rw [decide_eq_true (by omega),show ((l.length:Int)==0)=false from by rw [<-Bool.not_eq_true,beq_iff_eq];omega];rfl
theorem b3l{α:Type}[BEq α](a b:α):(!(a != b))=(a==b):=by simp [bne]
abbrev zE:m5:=⟨false,⟨0,0⟩,⟨[],[],0,0⟩⟩
def X1(a b:m5):Bool:=(a.i8==b.i8)&&((([a.a5.d7,a.a5.Seq]:List Int)==[b.a5.d7,b.a5.Seq])&&a3e a.b9 b.b9)
theorem b8C{a b:m5}(h:E0 a):a0c a b=some (X1 a b):=by
 unfold a0c X1;simp only [b9j h.f.2,e9M,a3d]
theorem c2u{e:m5}(h:E0 e):a4k e=some (X1 e zE):=by
 unfold a4k X1;simp only [c3r h.f.2,e9M,a3d];cases e.i8<;>rfl
theorem a9z(n:Int):a0O n=some (q8 n 1 3000):=M0 n 1 3000
def Z8(v:m6):Bool:=bif v.a8==0 then X1 v.g9 zE else q8 v.a8 1 3000&&z6 v.g9
theorem e8q{v:m6}(h:G3 v):b62 v=some (Z8 v):=by
 unfold b62 Z8;simp only [b8C h.2,M0,a5Q h.2.f,e9M,a3d];cases v.a8==0<;>rfl
theorem e4A{v:m6}(h:G3 v):b49 v=some (Z8 v):=by
 unfold b49 Z8 X1;simp only [c3r h.2.f.2,a9z,a27 h.2.f,e9M,a3d];cases v.a8==0<;>cases v.g9.i8<;>rfl
def K4(l:List m6):Bool:=decide (l.length<=40)&&l.all Z8
theorem c1u{l:List m6}(h:z9 96 G3 l):a5K l=some (K4 l):=by
 unfold a5K K4;rw [show (40:Int)=((40:Nat):Int) from rfl,a9O,T1 l (h.fits (by decide)) Z8 false ()]
 ·cases decide (l.length<=40)
  ·rfl
  ·cases l.all Z8<;>rfl
 ·intro k hk;unfold b5J;rw [z0 _ k hk,u6 hk];simp only [f1C,e9M,e4A (h.2 _ (e9Q hk))];cases Z8 l[k]<;>rfl
 ·unfold b5J;rw [B7];rfl
theorem b1S{l:List m6}(h:z9 96 G3 l):a5U l=some (K4 l):=by
 unfold a5U K4 c1h;rw [show (40:Int)=((40:Nat):Int) from rfl,c1D,T1 l (h.fits (by decide)) Z8 false ()]
 ·cases l.all Z8<;>cases decide (l.length<=40)<;>rfl
 ·intro k hk;unfold b7w;rw [z0 _ k hk,u6 hk];simp only [f1C,e9M,e8q (h.2 _ (e9Q hk))];cases Z8 l[k]<;>rfl
 ·unfold b7w;rw [B7];rfl
def O9(a:v5):Bool:=q8 a.i5 0 3000&&(K4 a.a0&&a.a0.all fun v => !decide (v.a8>a.i5))
theorem d9G{a:v5}(h:a5N a):b6T a=some (O9 a):=by
 unfold b6T O9;rw [rng,c1u h.2,T1 a.a0 (h.2.fits (by decide)) (fun v => !decide (v.a8>a.i5)) false ()]
 ·simp only [e9M];cases q8 a.i5 0 3000<;>cases K4 a.a0<;>cases a.a0.all (fun v => !decide (v.a8>a.i5))<;>rfl
 ·intro k hk;unfold b4Z;rw [z0 _ k hk,u6 hk];simp only [f1C,e9M];cases decide (a.a0[k].a8>a.i5)<;>rfl
 ·unfold b4Z;rw [B7];rfl
theorem c9c{a:v5}(h:a5N a):a87 a=some (O9 a):=by
 unfold a87 O9;rw [T1 a.a0 (h.2.fits (by decide)) (fun v => !decide (v.a8>a.i5)) false ()]
 ·unfold c1x;simp only [M0,b1S h.2,e9M];cases q8 a.i5 0 3000<;>cases K4 a.a0<;>cases a.a0.all (fun v => !decide (v.a8>a.i5))<;>rfl
 ·intro k hk;unfold b6w;rw [z0 _ k hk,u6 hk];simp only [f1C,e9M];cases decide (a.a0[k].a8>a.i5)<;>rfl
 ·unfold b6w;rw [B7];rfl
theorem e2t(i:r9):b6k i=some (M2 i):=by
 unfold b6k M2 a2r b5D;simp only [M0,e9M];cases i.a6==1<;>cases i.a6==2<;>cases i.a6==3<;>cases i.a6==4<;>cases i.a6==5<;>cases i.a6==6<;>cases i.a6==7<;>cases q8 i.A 0 3<;>cases q8 i.B 0 3<;>cases i.A==0<;>cases i.B==0<;>rfl
theorem b38{l:List r9}(h:u5 l):a7C l=some (D6 l):=by
 unfold a7C D6 c26;rw [show (10:Int)=((10:Nat):Int) from rfl,c1D,T1 l h M2 false ()]
 ·cases l.all M2<;>cases decide (l.length<=10)<;>rfl
 ·intro k hk;unfold b70;rw [z0 _ k hk,u6 hk];simp only [f1C,e9M,e2t];cases M2 l[k]<;>rfl
 ·unfold b70;rw [B7];rfl
def X8(b:Int):Int:=bif q8 b 1 3000 then e9U b 3 else -1
theorem e6C(b:Int):b0h b=some (X8 b):=by
 unfold b0h X8;rw [a9z,e9M];cases q8 b 1 3000<;>rfl
theorem c7Y(b:Int):b1C b=some (X8 b):=by
 unfold b1C X8;rw [M0,e9M];cases q8 b 1 3000<;>rfl
def b34(l:List Bool)(id:Int):Bool:=(idx l id).getD false
def a37(l:List Bool)(id:Int):Bool:=((l.length:Int)==3)&&b34 l id
theorem c82{l:List Bool}{id:Int}(h:q8 id 0 2=true)(hl:((l.length:Int)==3)=true):idx l id=some (b34 l id):=by
 unfold q8 at h;simp only [decide_eq_true_eq] at h;simp only [beq_iff_eq] at hl;unfold b34 idx;rw [if_pos h.1,e9N (by omega)];rfl
theorem e5m{l:List Bool}{id:Int}(h:q8 id 0 2=true)(x:Bool):(bif ((l.length:Int)==3) then (idx l id).bind fun y=>some (y&&x) else some false)=some (a37 l id&&x):=by
 unfold a37;cases hl:((l.length:Int)==3)
 ·rfl
 ·rw [c82 h hl];rfl
theorem e1Q{l:List Bool}{id:Int}(h:q8 id 0 2=true):b0J l id=some (a37 l id):=by
 unfold b0J a37;cases hl:((l.length:Int)==3)
 ·rfl
 ·rw [c82 h hl];rfl
def a3v(n:j8):Bool:=X1 n.c8 zE&&((n.a0.length:Int)==0)
def a04(n:j8):Bool:=
  bif n.f0==0 then (n.a8==0)&&(((n.c9.length:Int)==0)&&(((n.i4.length:Int)==0)&&a3v n)) else
  (X8 n.a8==n.Id)&&(decide (n.a8<=n.Acc.i5)&&(K4 n.i4 &&
    (bif n.f0==1 then a37 n.c9 n.Id&&a3v n else
     bif n.f0==2 then ((n.c9.length:Int)==0)&&a3v n else
     bif n.f0==3 then ((n.c9.length:Int)==0)&&(z6 n.c8&&(a37 n.a0 n.Id&&decide ((n.a7.length:Int)<40))) else false)))
theorem c77{n:j8}(h:q8 n.Id 0 2=true)(ho:(X8 n.a8==n.Id)=true):q8 n.a8 1 3000=true:=by
 cases hb:q8 n.a8 1 3000
 ·unfold X8 at ho;rw [hb] at ho;unfold q8 at h;simp only [decide_eq_true_eq,f1D,beq_iff_eq] at h ho;omega
 ·rfl
theorem e0m{n:j8}(h:P8 n)(hId:q8 n.Id 0 2=true):b2B n=some (a04 n):=by
 have hj:b2B n=b6Y n (a3v n):=by
  unfold b2B a3v;simp only [b8C h.2.2.2.2.2.2.2.2.1,e9M];cases X1 n.c8 zE<;>rfl
 rw [hj];unfold b6Y a04;simp only [c7Y,b1S h.2.2.2.2.2.2.2.1,e1Q hId,a5Q h.2.2.2.2.2.2.2.2.1.f,e9M,a3d];cases n.f0==0
 ·simp only [f1D];cases n.f0==1<;>cases n.f0==2<;>cases n.f0==3<;>simp only [f1C,f1D,b2Y,b3l,a4H,Bool.not_not]<;>(cases X8 n.a8==n.Id<;>cases decide (n.a8<=n.Acc.i5)<;>cases K4 n.i4<;>rfl)
 ·rfl
theorem e48{n:j8}(h:P8 n)(hId:q8 n.Id 0 2=true):b35 n=some (a04 n):=by
 unfold b35 a04;simp only [e6C,a9z,c2u h.2.2.2.2.2.2.2.2.1,c1u h.2.2.2.2.2.2.2.1,a27 h.2.2.2.2.2.2.2.2.1.f,e9M,a3d,b2Y,e5m hId,b3l,a4H,Bool.not_not];have hb:=c77 (n:=n) hId;cases h0:n.f0==0
 ·cases h1:n.f0==1
  ·cases h2:n.f0==2
   ·cases h3:n.f0==3
    ·simp only [f1D,Bool.and_false]
    ·simp only [f1D,f1C,b2Y,b3l,a4H,Bool.not_not];cases ho:X8 n.a8==n.Id
     ·simp
     ·rw [hb ho];cases decide (n.a8<=n.Acc.i5)<;>cases K4 n.i4<;>cases ((n.c9.length:Int)==0)<;>rfl
   ·simp only [f1D,f1C,b2Y,b3l,a4H,Bool.not_not];cases ho:X8 n.a8==n.Id
    ·simp
    ·rw [hb ho];unfold a3v;cases decide (n.a8<=n.Acc.i5)<;>cases K4 n.i4<;>cases ((n.c9.length:Int)==0)<;>rfl
  ·simp only [f1D,f1C,b2Y,b3l,a4H,Bool.not_not];cases ho:X8 n.a8==n.Id
   ·simp
   ·rw [hb ho];unfold a3v;cases decide (n.a8<=n.Acc.i5)<;>cases K4 n.i4<;>cases a37 n.c9 n.Id<;>rfl
 ·unfold a3v;simp only [f1C]
def a33(n:j8):Bool:=
 bif n.j3 then D6 n.i7&&(z6 n.b8&&(!n.b8.i8&&(([n.b8.a5.d7,n.b8.a5.Seq]:List Int)==[n.Id,n.Seq]))) else ((n.i7.length:Int)==0)&&X1 n.b8 zE
theorem d5I{n:j8}(h:P8 n):b5Z n=some (a33 n):=by
 unfold b5Z a33;have hw:=h.2.2.2.2.2.2.2.2.2.2.2.1;simp only [c2u hw,b4W (h.2.2.2.2.2.2.2.2.2.2.1.fits (by decide)),a27 hw.f,e9M,a3d];cases n.j3<;>rfl
def b7H(l:List m5):Bool:=l.all fun e=>z6 e && !e.i8
def D2(n:j8):Bool:=q8 n.Id 0 2&&(O9 n.Acc&&(M6 n.a7&&(q8 n.Seq 0 1000&&(decide ((n.d6.length:Int)<=4)&&(a04 n&&(a33 n&&b7H n.d6))))))
theorem a7B{n:j8}(h:P8 n):a24 n=some (D2 n):=by
 unfold a24 D2;rw [b8K];cases hId:q8 n.Id 0 2
 ·rfl
 ·rw [rng,d9G h.2.1,d4J (okEntries.s h.2.2.1),e48 h hId,d5I h,T1 n.d6 (h.2.2.2.2.2.2.2.2.2.2.2.2.fits (by decide)) (fun e=>z6 e && !e.i8) false ()]
  ·unfold b7H c3O;rw [<-a4H];simp only [e9M,f1C];cases O9 n.Acc<;>cases M6 n.a7<;>cases q8 n.Seq 0 1000<;>cases decide ((n.d6.length:Int)>4)<;>cases a04 n<;>cases a33 n<;>cases n.d6.all (fun e=>z6 e && !e.i8)<;>rfl
  ·intro k hk;unfold b4j;rw [z0 _ k hk,u6 hk];simp only [f1C,e9M,a27 ((h.2.2.2.2.2.2.2.2.2.2.2.2).2 _ (e9Q hk)).f];cases z6 n.d6[k]<;>cases n.d6[k].i8<;>rfl
  ·unfold b4j;rw [B7];rfl
theorem a8j{n:j8}(h:P8 n):a3F n=some (D2 n):=by
 unfold a3F D2;rw [M0,e9M];cases hId:q8 n.Id 0 2
 ·rfl
 ·have hw:=h.2.2.2.2.2.2.2.2.2.2.2.1;have hk3:b7i n=some (a33 n&&a04 n):=by
   unfold b7i c2V a33;simp only [b38 (h.2.2.2.2.2.2.2.2.2.2.1.fits (by decide)),a5Q hw.f,b8C hw,e0m h hId,e9M];cases n.j3
   ·rw [d1V];cases ((n.i7.length:Int)==0)<;>cases X1 n.b8 zE<;>rfl
   ·cases D6 n.i7<;>cases z6 n.b8<;>cases n.b8.i8<;>cases (([n.b8.a5.d7,n.b8.a5.Seq]:List Int)==[n.Id,n.Seq])<;>rfl
  rw [c9c h.2.1,d0n (okEntries.s h.2.2.1),M0,hk3,T1 n.d6 (h.2.2.2.2.2.2.2.2.2.2.2.2.fits (by decide)) (fun e=>z6 e && !e.i8) false ()]
  ·unfold b7H;rw [<-a4H];simp only [e9M,e9S,f1D];cases O9 n.Acc<;>cases M6 n.a7<;>cases q8 n.Seq 0 1000<;>cases decide ((n.d6.length:Int)>4)<;>cases a04 n<;>cases a33 n<;>cases n.d6.all (fun e=>z6 e && !e.i8)<;>rfl
  ·intro k hk;unfold b7g;rw [z0 _ k hk,u6 hk];simp only [f1C,e9M,a5Q ((h.2.2.2.2.2.2.2.2.2.2.2.2).2 _ (e9Q hk)).f];cases z6 n.d6[k]<;>cases n.d6[k].i8<;>rfl
  ·unfold b7g;rw [B7];rfl
def a6o(m:j9):Bool:=
 let bal:=q8 m.a8 1 3000;let non:=X1 m.g9 zE;let nv:=(m.a0.length:Int)==0;bif m.a6==1 then bal&&(non&&nv) else
 bif m.a6==4 then bal&&(non&&nv) else
 bif m.a6==2 then bal&&(non&&(K4 m.a0&&decide (m4 (m.g8+(m.a0.length:Int))<=40))) else
 bif m.a6==3 then bal&&(decide (m.g8<40)&&(z6 m.g9&&nv)) else
 bif m.a6==5 then (m.a8==0)&&(decide (m.g8<40)&&(z6 m.g9&&nv)) else
 bif m.a6==6 then bal&&((m.g8==0)&&(non&&nv)) else
 bif m.a6==7 then (m.a8==0)&&((m.g8==0)&&(z6 m.g9&&(!m.g9.i8&&nv))) else
 bif m.a6==8 then (m.a8==0)&&(non&&nv) else false
def I0(m:j9):Bool:=q8 m.c9 0 2&&(q8 m.To 0 2&&(!(m.c9==m.To)&&(q8 m.g8 0 40&&a6o m)))
theorem d1i{m:j9}(h:F9 m):b2D m=some (I0 m):=by
 unfold b2D I0 a6o;have he:=h.2.2.2.2.2.1;simp only [M0,b8C he,a5Q he.f,b1S h.2.2.2.2.2.2,e9M,a3d];cases q8 m.c9 0 2
 ·rfl
 cases q8 m.To 0 2
 ·rfl
 cases m.c9==m.To;case true=>rfl
 cases q8 m.g8 0 40
 ·rfl
 cases m.a6==1<;>cases m.a6==4<;>cases m.a6==2<;>cases m.a6==3<;>cases m.a6==5<;>cases m.a6==6<;>cases m.a6==7<;>cases m.a6==8<;>rfl
theorem c1l{m:j9}(h:F9 m):a8B m=some (I0 m):=by
 unfold a8B I0;have he:=h.2.2.2.2.2.1;have hj2:b8p m=b0r m (X1 m.g9 zE) (z6 m.g9&&decide (m.g8<40)):=by
  unfold b8p;simp only [c2u he,a27 he.f,e9M];cases z6 m.g9<;>rfl
 have hj:∀nv:Bool,nv=((m.a0.length:Int)==0)->(m.a6==2||nv)=true->b0r m (X1 m.g9 zE) (z6 m.g9&&decide (m.g8<40))=some (a6o m):=by
  intro nv hnv hk;unfold b0r a6o;simp only [a9z,c1u h.2.2.2.2.2.2,a27 he.f,e9M,a3d];rw [<-hnv];cases h1:m.a6==1;case true=>
   have:(m.a6==2)=false:=by
    simp only [beq_iff_eq] at h1;rw [h1];rfl
   rw [this,f0p] at hk;simp only [f1C,hk,f0P]
  cases h2:m.a6==2;case true=>
   cases h4:m.a6==4
   ·rfl
   ·simp only [beq_iff_eq] at h2 h4;omega
  rw [h2,f0p] at hk;subst hk;cases h3:m.a6==3;case true=>
   cases h4:m.a6==4
   ·simp only [f1C,f1D,f0P];cases q8 m.a8 1 3000<;>cases z6 m.g9<;>cases decide (m.g8<40)<;>rfl
   ·simp only [beq_iff_eq] at h3 h4;omega
  cases h4:m.a6==4;case true=>simp only [f1C,f1D,f0P]
  simp only [f1D];cases m.a6==5;case true=>
   simp only [f1C,f0P];cases m.a8==0<;>cases z6 m.g9<;>cases decide (m.g8<40)<;>rfl
  simp only [f1D];cases m.a6==6;case true=>
   simp only [f1C,f0P];cases q8 m.a8 1 3000<;>cases X1 m.g9 zE<;>cases m.g8==0<;>rfl
  cases m.a6==7<;>cases m.a6==8<;>simp only [f1C,f1D,f0P,e95,f1B]
 rw [hj2,b8K];cases q8 m.c9 0 2
 ·rfl
 simp only [f1C,e95];rw [b8K];cases q8 m.To 0 2
 ·rfl
 simp only [f1C,e95];cases m.c9==m.To;case true=>rfl
 simp only [f1D,e97,e95];rw [rng];cases q8 m.g8 0 40
 ·rfl
 simp only [f1C,e95];rw [d1V];cases h2:m.a6==2
 ·rw [show (m.a6 != 2)=true from by rw [bne,h2];rfl];cases hv:((m.a0.length:Int)==0)
  ·show some false=_
   have:a6o m=false:=by
    unfold a6o;rw [h2,hv];simp
   rw [this]
  ·exact hj true hv.symm (by simp)
 ·rw [show (m.a6 != 2)=false from by rw [bne,h2];rfl];exact hj _ rfl (by rw [h2];rfl)
def R6(t:o8):Bool:=q8 t.Node 0 2&&((q8 t.a5.d7 0 2&&q8 t.a5.Seq 1 1000)&&((t.a5.d7==t.Node)&&(q8 t.Code 0 4&&q8 t.d9 (-1000000) 1000000)))
theorem d4g(t:o8):b5z t=some (R6 t):=by
 unfold b5z R6;simp only [c3I,a5G,e9M,a3d];have e1:q8 t.Node 0 2=(decide (t.Node>=0)&&decide (t.Node<3)):=by
  unfold q8;by_cases h1:t.Node>=0<;>by_cases h2:t.Node<3<;>simp [h1,h2]<;>omega
 have e2:q8 t.Code 0 4=(decide (t.Code>=0)&&decide (t.Code<=4)):=by
  unfold q8;by_cases h1:t.Code>=0<;>by_cases h2:t.Code<=4<;>simp [h1,h2]<;>omega
 rw [e1,e2];simp only [f1o]
def W8(x:C1):Bool:=(q8 x.a5.d7 0 2&&q8 x.a5.Seq 1 1000)&&D6 x.i7
def a3J(w:m8)(k:Nat):Bool:=match w.b7[k]? with
 | some n=>(n.Id==(k:Int))&&D2 n
 | none=>true
def L3(w:m8):Bool:=((w.b7.length:Int)==3)&&(decide ((w.d8.length:Int)<=40)&&(decide ((w.g7.length:Int)<=60)&&(decide ((w.Told.length:Int)<=60)&&((e9Y w.b7.length).all (a3J w)&&(w.d8.all I0&&(w.g7.all W8&&w.Told.all R6))))))
theorem c2j{w:m8}(h:a0u w):a7H w=some (L3 w):=by
 have k7:b6H w=some (w.Told.all R6):=by
  unfold b6H;rw [T1 w.Told (h.2.2.2.fits (by decide)) R6 false ()]
  ·cases w.Told.all R6<;>rfl
  ·intro k hk;unfold b4G;rw [z0 _ k hk,u6 hk];simp only [f1C,e9M,d4g];cases R6 w.Told[k]<;>rfl
  ·unfold b4G;rw [B7];rfl
 have k9:b4e w=some (w.g7.all W8&&w.Told.all R6):=by
  unfold b4e;rw [T1 w.g7 (h.2.2.1.fits (by decide)) W8 false ()]
  ·rw [k7];cases w.g7.all W8<;>rfl
  ·intro k hk;unfold b8m;rw [z0 _ k hk,u6 hk];simp only [f1C,e9M,c3I,b4W ((h.2.2.1.2 _ (e9Q hk)).2.fits (by decide))];unfold W8;cases q8 w.g7[k].a5.d7 0 2&&q8 w.g7[k].a5.Seq 1 1000<;>cases D6 w.g7[k].i7<;>rfl
  ·unfold b8m;rw [B7];rfl
 have k11:b5A w=some (w.d8.all I0&&(w.g7.all W8&&w.Told.all R6)):=by
  unfold b5A;rw [T1 w.d8 (h.2.1.fits (by decide)) I0 false ()]
  ·rw [k9];cases w.d8.all I0<;>rfl
  ·intro k hk;unfold b6b;rw [z0 _ k hk,u6 hk];simp only [f1C,e9M,c1l (h.2.1.2 _ (e9Q hk))];cases I0 w.d8[k]<;>rfl
  ·unfold b6b;rw [B7];rfl
 unfold a7H L3;rw [a5Z w.b7 (h.1.fits (by decide)) (a3J w) false ()]
 ·rw [k11];simp only [<-a4H];rw [show ((w.b7.length:Int)==3) = !((w.b7.length:Int) != 3) from by simp [bne]];cases ((w.b7.length:Int) != 3)<;>cases decide ((w.d8.length:Int)>40)<;>cases decide ((w.g7.length:Int)>60)<;>cases decide ((w.Told.length:Int)>60)<;>cases (e9Y w.b7.length).all (a3J w)<;>rfl
 ·intro k hk _;unfold b8n;rw [z0 _ k hk,u6 hk];simp only [f1C,e9M,a7B (h.1.2 _ (e9Q hk)),a3J,e9N hk,bne];cases w.b7[k].Id==(k:Int)<;>cases D2 w.b7[k]<;>rfl
 ·unfold b8n;rw [B7];rfl
theorem b3O{w:m8}(h:a0u w):a8r w=some (L3 w):=by
 have k7:b7N w=some (w.Told.all R6):=by
  unfold b7N;rw [T1 w.Told (h.2.2.2.fits (by decide)) R6 false ()]
  ·cases w.Told.all R6<;>rfl
  ·intro k hk;unfold b51;rw [z0 _ k hk,u6 hk];simp only [f1C,e9M,M0,b7G];unfold R6;rw [show (w.Told[k].a5.d7==w.Told[k].Node) = !(w.Told[k].a5.d7 != w.Told[k].Node) from by simp [bne]];cases q8 w.Told[k].Node 0 2<;>cases q8 w.Told[k].a5.d7 0 2&&q8 w.Told[k].a5.Seq 1 1000<;>cases (w.Told[k].a5.d7 != w.Told[k].Node)<;>cases q8 w.Told[k].Code 0 4<;>cases q8 w.Told[k].d9 (-1000000) 1000000<;>rfl
  ·unfold b51;rw [B7];rfl
 have k9:b6P w=some (w.g7.all W8&&w.Told.all R6):=by
  unfold b6P;rw [T1 w.g7 (h.2.2.1.fits (by decide)) W8 false ()]
  ·rw [k7];cases w.g7.all W8<;>rfl
  ·intro k hk;unfold b5d;rw [z0 _ k hk,u6 hk];simp only [f1C,e9M,b7G,b38 ((h.2.2.1.2 _ (e9Q hk)).2.fits (by decide))];unfold W8;cases q8 w.g7[k].a5.d7 0 2&&q8 w.g7[k].a5.Seq 1 1000<;>cases D6 w.g7[k].i7<;>rfl
  ·unfold b5d;rw [B7];rfl
 have k11:b7k w=some (w.d8.all I0&&(w.g7.all W8&&w.Told.all R6)):=by
  unfold b7k;rw [T1 w.d8 (h.2.1.fits (by decide)) I0 false ()]
  ·rw [k9];cases w.d8.all I0<;>rfl
  ·intro k hk;unfold b6Z;rw [z0 _ k hk,u6 hk];simp only [f1C,e9M,d1i (h.2.1.2 _ (e9Q hk))];cases I0 w.d8[k]<;>rfl
  ·unfold b6Z;rw [B7];rfl
 unfold a8r L3;rw [a5Z w.b7 (h.1.fits (by decide)) (a3J w) false ()]
 ·rw [k11];simp only [<-a4H];rw [show ((w.b7.length:Int)==3) = !((w.b7.length:Int) != 3) from by simp [bne]];cases ((w.b7.length:Int) != 3)<;>cases decide ((w.d8.length:Int)>40)<;>cases decide ((w.g7.length:Int)>60)<;>cases decide ((w.Told.length:Int)>60)<;>cases (e9Y w.b7.length).all (a3J w)<;>rfl
 ·intro k hk _;unfold b6S;rw [z0 _ k hk,u6 hk];simp only [f1C,e9M,a8j (h.1.2 _ (e9Q hk)),a3J,e9N hk,bne];cases w.b7[k].Id==(k:Int)<;>cases D2 w.b7[k]<;>rfl
 ·unfold b6S;rw [B7];rfl
theorem c7T{α:Type}{p:List α->List α->Nat->Bool}(hp:∀(a b:List α) (k:Nat) (x y:α),a[k]?=some x->b[k]?=some y->(p a b k=true↔x=y))(a b:List α):(a.length==b.length&&(e9Y a.length).all (p a b))=true↔a=b:=by
 constructor
 ·intro h;simp only [e9R,beq_iff_eq,e9W,f0I] at h;refine List.ext_getElem h.1 fun i h1 h2 => ?_
  exact (hp a b i _ _ (e9N h1) (e9N h2)).1 (h.2 i h1)
 ·rintro rfl
  simp only [e9R,beq_iff_eq,e9W,f0I,true_and];intro k hk;exact (hp a a k _ _ (e9N hk) (e9N hk)).2 rfl
theorem c2k(a b:m9):a3e a b=true↔a=b:=by
 have h1:=c7T (p:=a1E) (fun a b k x y hx hy=>by
  unfold a1E;rw [hx,hy];cases x;cases y;simp) a.a9 b.a9
 have h2:=c7T (p:=a1T) (fun a b k x y hx hy=>by
  unfold a1T;rw [hx,hy];cases x;cases y;simp) a.b6 b.b6
 unfold a3e;rw [e9R,h1,e9R,h2,e9R,beq_iff_eq,beq_iff_eq];cases a;cases b;simp
theorem a4S(a b:m5):X1 a b=true↔a=b:=by
 unfold X1;rw [e9R,e9R,c2k];obtain ⟨n,⟨q1,q2⟩,r⟩:=a;obtain ⟨n',⟨q1',q2'⟩,r'⟩:=b;simp [and_assoc]
theorem H3{n lo hi:Int}:q8 n lo hi=true↔lo<=n/\n<=hi:=by unfold q8;simp
theorem e0a{l:List s1}(h:z9 16 c7A l):a18 l=some l:=by
 have hb:=h.1;unfold a18;cases hl:((l.length:Int)==0)
 ·rw [f1D,t6 (by constructor<;>omega),t6 (by simp)]
 ·simp only [beq_iff_eq] at hl;have:l=[]:=e90 (by omega);rw [this];rfl
theorem d4y{l:List p9}(h:z9 16 d2j l):a7L l=some l:=by
 have hb:=h.1;unfold a7L;cases hl:((l.length:Int)==0)
 ·rw [f1D,t6 (by constructor<;>omega),t6 (by simp)]
 ·simp only [beq_iff_eq] at hl;have:l=[]:=e90 (by omega);rw [this];rfl
theorem b0y{e:m5}(h:E0 e):a6i e=some e:=by
 unfold a6i c2Q;rw [e0a h.2.1,e9M,d4y h.2.2.1];rfl
theorem a0l{e:m5}(h:E0 e):V7 e=some e:=by
 have h1:=h.2.1.1;have h2:=h.2.2.1.1;unfold V7 b82;rw [t6 (by simp;omega),t6 (by simp;omega)];rfl
theorem e5R{l:List m5}(h:z9 88 E0 l):b4b l=some l:=by
 have hb:=h.1;unfold b4b;cases hl:((l.length:Int)==0)
 ·rw [f1D,t6 (by constructor<;>omega),t6 (by simp)]
 ·simp only [beq_iff_eq] at hl;have:l=[]:=e90 (by omega);rw [this];rfl
theorem d2Q{l:List m5}(h:z9 88 E0 l):b2m l=some l:=by
 have hf:u5 l:=h.fits (by decide);unfold b2m;rw [e5R h,e9M];have hl:=a0n (body:=fun s:(List m5)×Int=>b3z l s.1 s.2) (fun k=>(l,(k:Int))) l.length (by
  intro k hk;unfold b3z;rw [z0 _ k hk,u6 hk];simp only [f1C,e9M,b0y (h.2 _ (e9Q hk)),G0 hf hk,f0h,List.set_getElem_self])
 rw [show ((0:Nat):Int)=0 from rfl] at hl;rw [hl,D7 (b:=l)]
 ·rfl
 ·unfold b3z;rw [B7];rfl
theorem d1r{l:List m5}(h:z9 88 E0 l):b1J l=some l:=by
 have hf:u5 l:=h.fits (by decide);have hb:=h.1;unfold b1J;have hl:=a0n (body:=fun s:(List m5)×Int=>b1M l s.1 s.2) (fun k=>(l.take k,(k:Int))) l.length (by
  intro k hk;unfold b1M;rw [z0 _ k hk,u6 hk];simp only [f1C,e9M,a0l (h.2 _ (e9Q hk)),G0 hf hk];rw [t6 (by rw [f0e];omega),f0m hk])
 rw [show ((0:Nat):Int)=0 from rfl,f0t] at hl;rw [hl,f0o,D7 (b:=l)]
 ·rfl
 ·unfold b1M;rw [B7];rfl
def best(w:m8):Nat->Nat
 | 0=>0
 | k+1=>match w.b7[k]?,w.b7[best w k]? with
  | some a,some b=>bif decide ((a.a7.length:Int)>(b.a7.length:Int)) then k else best w k
  | _,_=>best w k
def O0(q:s3)(e:m5):Bool := !e.i8&&(([e.a5.d7,e.a5.Seq]:List Int)==[q.d7,q.Seq])
theorem b8x{α R S B:Type}{body:S->Option (l9 R S B)}(st:Nat->S)(l:List α)(is:α->Bool)(r:Nat->R)(b:B)(h1:∀(k:Nat) (h:k<l.length),body (st k)=some (bif is l[k] then .ret (r k) else .nxt (st (k+1))))(h2:body (st l.length)=some (.brk b)) :
  s2 body (st 0)=some (match l.findIdx? is with|some k=>.ret (r k)|none=>.brk b):=by
 rcases a5Y (body:=body) st l.length (fun k=>match l[k]? with|some x => !is x|none=>true) r b
  (fun k hk _=>by
   rw [h1 k hk,e9N hk];simp only;cases is l[k]<;>rfl) (fun _=>h2) with ⟨h,hall⟩|⟨k,hk,ho,hb,h⟩
 ·have:l.findIdx? is=none:=by
   rw [f1x];intro x hx;obtain ⟨i,hi,rfl⟩:=f0R hx;have:=hall i hi;rw [e9N hi] at this;simpa using this
  rw [this];exact h
 ·have:l.findIdx? is=some k:=by
   rw [f0T];refine ⟨hk,?_,fun j hj => ?_⟩
   ·rw [e9N hk] at ho;simpa using ho
   ·have:=hb j hj;rw [e9N (show j<l.length by omega)] at this;simpa using this
  rw [this];exact h
theorem c2G{l:List m5}(h:u5 l)(q:s3):b0b l q=some (match l.findIdx? (O0 q) with|some k=>(k:Int)|none => -1):=by
  unfold b0b;rw [show s2 (fun s:Int=>a85 l q s) 0=_ from b8x (body:=fun s:Int=>a85 l q s) (fun k=>(k:Int)) l (O0 q) (fun k=>(k:Int)) () (by
      intro k hk;unfold a85 c1k O0;rw [z0 _ k hk,u6 hk,<-G0 h hk];simp only [f1C,e9M];cases l[k].i8<;>cases (([l[k].a5.d7,l[k].a5.Seq]:List Int)==[q.d7,q.Seq])<;>rfl) (by
      unfold a85;rw [B7];rfl)]
  cases l.findIdx? (O0 q)<;>rfl
theorem d3I{l:List m5}(hl:l.length<=40)(he:l.all z6=true){k:Nat}(hk:k<l.length):(A2 l).2[k]?=some (apply (A2 (l.take k)).1 l[k]).2:=by
 have key:∀m,k<m->m<=l.length->(A2 (l.take m)).2[k]?=some (apply (A2 (l.take k)).1 l[k]).2:=by
  intro m;induction m with
  | zero=>omega
  | succ m ih=>
   intro h1 h2;have hlen:=(a4N hl he m (by omega)).2.1;rw [a65 (show m<l.length by omega)];unfold b0t;simp only;by_cases q:k<m
   ·rw [f0f (by omega)];exact ih q (by omega)
   ·have:k=m:=by omega
    subst this;rw [e96 (by omega),hlen];simp
 have:=key l.length hk (f0q _);rwa [f0o] at this
def a0r(l:List m5)(k:Nat):Int:=(A2 l).2[k]?.getD 0
theorem b8G{α B R:Type}{body:Int->Option (l9 R Int B)}(l:List α)(hl:u5 l)(ok:α->Bool)(v:R)(b:B)(h1:∀(k:Nat) (h:k<l.length),body (k:Int)=some (bif ok l[k] then .nxt (m4 ((k:Int)+1)) else .ret v))(h2:body (l.length:Int)=some (.brk b)):s2 body 0=some (bif l.all ok then .brk b else .ret v):=by
 have h:=a5Y (body:=body) (fun k=>(k:Int)) l.length (fun k=>match l[k]? with|some x=>ok x|none=>true) (fun _=>v) b
  (fun k hk _=>by
   have:=h1 k hk;rw [G0 hl hk] at this;simpa [e9N hk] using this) (fun _=>h2)
 rcases h with ⟨h,hall⟩|⟨k,hk,ho,_,h⟩
 ·have:l.all ok=true:=by
   rw [e9W];intro x hx;obtain ⟨i,hi,rfl⟩:=f0R hx;have:=hall i hi;simpa [e9N hi] using this
  rw [this];exact h
 ·have:l.all ok=false:=by
   rw [f1j];refine ⟨l[k],e9Q hk,?_⟩;simpa [e9N hk] using ho
  rw [this];exact h
theorem b3G{l:List s1}(h:l.length<=1000):a18 l=some l:=by
 unfold a18;cases hl:((l.length:Int)==0)
 ·rw [f1D,t6 (by constructor<;>omega),t6 (by simp)]
 ·simp only [beq_iff_eq] at hl;have:l=[]:=e90 (by omega);rw [this];rfl
theorem e3N{l:List p9}(h:l.length<=1000):a7L l=some l:=by
 unfold a7L;cases hl:((l.length:Int)==0)
 ·rw [f1D,t6 (by constructor<;>omega),t6 (by simp)]
 ·simp only [beq_iff_eq] at hl;have:l=[]:=e90 (by omega);rw [this];rfl
def Y6(ps:List p9)(b:Int):Option Nat:=ps.findIdx? (·.i6==b)
def atI:Option Nat->Int
 | some k=>(k:Int)
 | none => -1
theorem d1O{l:List p9}(h:u5 l)(b:Int):a2e l b=some (atI (Y6 l b)):=by
 unfold a2e;rw [show (0:Int)=((0:Nat):Int) from rfl,b8x (body:=fun s:Int=>a1t l b s) (fun k=>(k:Int)) l (·.i6==b) (fun k=>(k:Int)) ()]
 ·unfold Y6;cases l.findIdx? (·.i6==b)<;>rfl
 ·intro k hk;unfold a1t;rw [z0 _ k hk,u6 hk,G0 h hk];simp only [f1C,e9M];cases l[k].i6==b<;>rfl
 ·unfold a1t;rw [B7];rfl
theorem d0F{x:m9}(h:u5 x.b6)(b:Int):b1a x b=some (atI (Y6 x.b6 b)):=by
 unfold b1a;rw [show (0:Int)=((0:Nat):Int) from rfl,b8x (body:=fun s:Int=>b3w x b s) (fun k=>(k:Int)) x.b6 (·.i6==b) (fun k=>(k:Int)) ()]
 ·unfold Y6;cases x.b6.findIdx? (·.i6==b)<;>rfl
 ·intro k hk;unfold b3w;rw [z0 _ k hk,u6 hk,G0 h hk];simp only [f1C,e9M];cases x.b6[k].i6==b<;>rfl
 ·unfold b3w;rw [B7];rfl
theorem b2a{ps:List p9}{b:Int}{k:Nat}(h:Y6 ps b=some k):k<ps.length:=by
 obtain ⟨hk,_⟩:=f0T.1 h;exact hk
theorem b3Z(k:Nat):decide (atI (some k)>=0)=true:=by simp [atI]
theorem b6R:decide (atI none>=0)=false:=by simp [atI]
theorem e0c{x:m9}(h:u5 x.a9)(b:Int):∃v,b1D x b=some v/\decide (v<0) = !(L7 x.a9 b):=by
 obtain ⟨v,h1,h2⟩:=e9k h b;refine ⟨v,h1,?_⟩;rw [<-h2];by_cases q:v>=0
 ·have:¬v<0:=by omega
  simp [q,this]
 ·have:v<0:=by omega
  simp [q,this]
def G9(v:Int):Bool:=q8 v (-1000000) 1000000
def I4(regs:List Int)(a:Int):Int:=regs.getD a.toNat 0
theorem K7{regs:List Int}(h:regs.length=4){a:Int}(ha:0<=a/\a<=3):idx regs a=some (I4 regs a):=by
 obtain ⟨k,rfl⟩:=Int.eq_ofNat_of_zero_le ha.1;have hk:k<regs.length:=by omega
 rw [u6 hk];unfold I4;simp [hk]
theorem d5B{regs:List Int}(h:regs.length=4){a v:Int}(ha:0<=a/\a<=3):I4 (regs.set a.toNat v) a=v:=by
 unfold I4;have:a.toNat<regs.length:=by omega
 simp [this]
theorem d5G{regs:List Int}(h:regs.length=4)(hr:regs.all G9=true){a v:Int}(ha:0<=a/\a<=3):(regs.set a.toNat v).all G9=G9 v:=by
 cases hv:G9 v
 ·rw [f1j];exact ⟨v,e93 (i:=a.toNat) (by rw [f0S (by omega)]),by simp [hv]⟩
 ·rw [e9W] at hr⊢;intro x hx;rcases e99 hx with hx|rfl
  ·exact hr x hx
  ·exact hv
theorem a1O{regs:List Int}(h:regs.length=4)(hr:regs.all G9=true){a:Int}(ha:0<=a/\a<=3):-1000000<=I4 regs a/\I4 regs a<=1000000:=by
 have hi:=K7 h ha;have hm:I4 regs a∈regs:=e93 (b7W hi).2.2;have:=e9W.1 hr _ hm;simpa [G9,q8] using this
structure EI(regs:List Int)(rs:List s1)(ps:List p9)(k:Nat):Prop where
 len:regs.length=4
 rng:regs.all G9=true
 rl:rs.length<=k
 pl:ps.length<=k
theorem EI.fr{regs:List Int}{rs:List s1}{ps:List p9}{k:Nat}(h:EI regs rs ps k)(hk:k<=100):u5 rs:=by
 have:=h.rl;unfold u5;omega
theorem EI.fp{regs:List Int}{rs:List s1}{ps:List p9}{k:Nat}(h:EI regs rs ps k)(hk:k<=100):u5 ps:=by
 have:=h.pl;unfold u5;omega
def G2(l:List q9)(i:r9)(regs:List Int)(rs:List s1)(ps:List p9):List Int×List s1×List p9:=
 bif i.a6==1 then (match Y6 ps i.B with
  | some k=>(match ps[k]? with
   | some p=>(regs.set i.A.toNat p.d9,rs,ps)
   | none=>(regs,rs,ps))
  | none=>match l[i.B.toNat]? with
   | some b=>(regs.set i.A.toNat b.d9,bif L7 rs i.B then rs else rs++[⟨i.B,b.j4⟩],ps)
   | none=>(regs,rs,ps))
 else bif i.a6==2 then (regs,rs,match Y6 ps i.A with
  | some k=>(match ps[k]? with
   | some p=>ps.set k ⟨p.i6,I4 regs i.B⟩
   | none=>ps)
  | none=>ps++[⟨i.A,I4 regs i.B⟩])
 else bif i.a6==3 then (regs.set i.A.toNat i.N,rs,ps)
 else bif i.a6==4 then (regs.set i.A.toNat (I4 regs i.A+I4 regs i.B),rs,ps)
 else bif i.a6==5 then (regs.set i.A.toNat (I4 regs i.A-I4 regs i.B),rs,ps)
 else (regs,rs,ps)
def a0J(l:List q9)(prog:List r9):Nat->Nat->List Int->List s1->List p9->m9
 | 0,_,regs,rs,ps=>⟨rs,ps,I4 regs 0,0⟩
 | f+1,k,regs,rs,ps=>match prog[k]? with
  | none=>⟨rs,ps,I4 regs 0,0⟩
  | some i=>bif i.a6==6 then a0J l prog f (bif decide (I4 regs i.A<I4 regs i.B) then k+i.N.toNat+1 else k+1) regs rs ps
   else bif i.a6==7 then ⟨rs,[],0,1⟩
   else bif (G2 l i regs rs ps).1.all G9 then a0J l prog f (k+1) (G2 l i regs rs ps).1 (G2 l i regs rs ps).2.1 (G2 l i regs rs ps).2.2
   else ⟨(G2 l i regs rs ps).2.1,[],0,2⟩
def C5(l:List q9)(prog:List r9):m9:=bif F6 l&&D6 prog then a0J l prog (prog.length+1) 0 [0,0,0,0] [] [] else ⟨[],[],0,3⟩
end
end Go.Proofs.YtpkapdcfblhkoaaGreat
