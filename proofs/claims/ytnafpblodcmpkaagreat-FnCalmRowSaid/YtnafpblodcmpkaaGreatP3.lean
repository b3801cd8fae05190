/- Abstract values and states of the program, functions of the program and what their calls come to, and what follows from it: part 3 of the text that the law leans on; long names are written short. -/
import Derived.Test.YtnafpblodcmpkaaGreatP2
import Derived.IntWalk
set_option linter.unusedVariables false
set_option linter.unusedSimpArgs false
set_option linter.unnecessarySimpa false
namespace Go.Proofs.YtnafpblodcmpkaaGreat
open Go
open Option renaming bind_some->d8Y
open List renaming getElem?_eq_getElem->d8Z,mem_append->d80,replicate->d81,mem_singleton->d84,getElem_mem->d85,all_eq_true->d86,range->d87,mem_cons->d88,length_append->d9d,mem_or_eq_of_mem_set->d9r,mem_of_mem_take->d9C,drop_eq_getElem_cons->d9F,pairwise_iff_getElem->d9G,take_succ_eq_append_getElem->d9H,take_length->d9L,take_zero->d9S,mem_filter->d9V,getElem_of_mem->d9W,any_eq_false->d9X,length_take->d91,length_cons->d92,drop_zero->e0c,pairwise_cons->e0d,pairwise_append->e0r,any_eq_true->e0I,foldl_cons->e0K
open Bool renaming and_eq_true->d82,not_true->d9e,true_and->d9m,not_false->d9u,and_true->e0a
open Int renaming toNat_natCast->d9q,tmod->d9x,tdiv->e0m,tmod_eq_emod_of_nonneg->e0n
open Nat renaming le_refl->d9B
noncomputable section
theorem c4E{list}:OK b5y [j5 1 eB list] (b0a list):=
 o9 _ fun r h=>n8<|j3 2 h (fun h=>rg<|fE h) (fun h=>rg<|t0 h fun e1 h=>S4 2 7 4 1 1 eB false ti4 (.none) e1 (by decide) (by rfl)<|rg<|t0 h fun e2 h=>om (n9.row 4 1 (d81 (list.length:Int).toNat false).length (list.map eB)=m4 4 1 eB list) (Y7 e2)<|x9 (d81 (list.length:Int).toNat false)<|ob e2<|tl (2,{e:=some (m4 4 1 eB list)})<|rg<|om ((d81 (list.length:Int).toNat false).length=list.length) (by simp)<|fE h)
def b6u:FS (List m5):=⟨46,Tryz.f46,[.val [some 4] [some 78]],[none],[.val [some 4] []],fun r=>z6 78 4 z3 r,fun _=>[none],Tryz.func46⟩
def b2n(list:List m5):Option (List m5):=
 (bif ((list.length:Int)==0) then some [] else (r7 (0<=(list.length:Int)/\(list.length:Int)*32<=140737488355328) ((r7 (list.length=(d81 (list.length:Int).toNat (m5.mk 0 0 0 0)).length) (some list)))))
theorem b8x{list}:OK b6u [j5 4 z3 list] (b2n list):=
 o9 _ fun r h=>n8<|j3 2 h (fun h=>rg<|fE h) (fun h=>rg<|t0 h fun e1 h=>S4 2 7 78 4 32 z3 (m5.mk 0 0 0 0) b7f (.none) e1 (by decide) (by rfl)<|rg<|t0 h fun e2 h=>om (n9.row 78 4 (d81 (list.length:Int).toNat (m5.mk 0 0 0 0)).length (list.map z3)=m4 78 4 z3 list) (Y7 e2)<|x9 (d81 (list.length:Int).toNat (m5.mk 0 0 0 0))<|ob e2<|tl (2,{e:=some (m4 78 4 z3 list)})<|rg<|om ((d81 (list.length:Int).toNat (m5.mk 0 0 0 0)).length=list.length) (by simp)<|fE h)
def a8Y:FS (j6):=⟨45,Tryz.f45,[.val I0 om1],[none],[.val I0 []],fun r=>.agg (c6m r),fun _=>[none],Tryz.func45⟩
def a5m(n:j6):Option j6:=
 ((a2v n.Acc).bind fun K5=>((a8a n.a6).bind fun b5Z=>((b0a n.b7).bind fun bool=>((a4D n.f0).bind fun V4=>((a3U n.c9).bind fun R3=>((b0a n.a8).bind fun b53=>((b2n n.i6).bind fun ins=>((a3U n.b8).bind fun c28=>((a8a n.d8).bind fun b6K=>some (j6.mk n.Id K5 b5Z n.Seq n.a9 n.a5 bool V4 R3 b53 n.i4 ins c28 b6K))))))))))
theorem b1Q{n}:OK a8Y [.agg (w5 n)] (a5m n):=
 o9 _ fun r h=>X1<|j4 a5k a6l 2 h fun K5 h=>rg<|j4 a3W c1i 2 h fun b5Z h=>rg<|j4 b5y c4E 2 h fun bool h=>rg<|j4 a1y a91 2 h fun V4 h=>rg<|j4 a6U a7w 2 h fun R3 h=>rg<|j4 b5y c4E 2 h fun b53 h=>rg<|j4 b6u b8x 2 h fun ins h=>rg<|j4 a6U a7w 2 h fun c28 h=>rg<|j4 a3W c1i 2 h fun b6K h=>rg<|ol4 K5.a8 b5Z bool V4<|ol3 b53 ins b6K<|fE h
def Q7:FS (j8):=⟨22,Tryz.f22,[.val J5 om2],[none],[.val J5 []],fun r=>.agg (a5r r),fun _=>[none],Tryz.func22⟩
def c1C(msgsCopy:List l8)(asked:List D4)(told:List r9):(List j6)->KS:=fun Nodes1=>⟨Q7.k 4 [false],(bs 2 (.ptr 1 0 0::(.ptr 2 0 0::(bs 52 [])))),[some [],some [.var 32 [.nil,.nil,.nil,.nil]],some [.var 32 [.own 3 0 27 0 Nodes1.length,.own 4 0 13 0 msgsCopy.length,.own 5 0 3 0 asked.length,.own 6 0 5 0 told.length]],some [m4 66 27 w5 Nodes1],some [m4 93 13 t9 msgsCopy],some [m4 96 3 C6 asked],some [m4 48 5 z7 told]]⟩
def b9U(msgsCopy:List l8)(told:List r9)(Nodes1:List j6):(List D4)->KS:=fun a6G=>⟨Q7.k 6 [false,false],(bs 2 (.ptr 1 0 0::(.ptr 2 0 0::(bs 52 [])))),[some [],some [.var 32 [.nil,.nil,.nil,.nil]],some [.var 32 [.own 3 0 27 0 Nodes1.length,.own 4 0 13 0 msgsCopy.length,.own 5 0 3 0 a6G.length,.own 6 0 5 0 told.length]],some [m4 66 27 w5 Nodes1],some [m4 93 13 t9 msgsCopy],some [m4 96 3 C6 a6G],some [m4 48 5 z7 told]]⟩
def b9c(msgsCopy:List l8)(told:List r9)(Nodes1:List j6)(a6G:List D4):Option j8:=
 some (j8.mk Nodes1 msgsCopy a6G told)
theorem c72(msgsCopy told Nodes1)(r):NF Q7 r (b9U msgsCopy told Nodes1) (fun s=>b9c msgsCopy told Nodes1 s):=fun a6G h=>PK<|rg<|ol4 Nodes1 msgsCopy a6G told<|fE h
def d8B(msgsCopy:List l8)(asked:List D4)(told:List r9)(Nodes1:List j6):((List D4)×Int)->KS:=fun (g9,v39)=>⟨Q7.k 5 [false],(bs 2 (.ptr 1 0 0::(.ptr 2 0 0::(bs 34 (vi (asked.length:Int)::(vi v39::(bs 16 []))))))),[some [],some [.var 32 [.nil,.nil,.nil,.nil]],some [.var 32 [.own 3 0 27 0 Nodes1.length,.own 4 0 13 0 msgsCopy.length,.own 5 0 3 0 g9.length,.own 6 0 5 0 told.length]],some [m4 66 27 w5 Nodes1],some [m4 93 13 t9 msgsCopy],some [m4 96 3 C6 g9],some [m4 48 5 z7 told]]⟩
def b2R(asked:List D4)(g9:List D4)(v39:Int):Option (j7 j8 ((List D4)×Int) (List D4)):=
 (bif decide (v39<(asked.length:Int)) then ((idx g9 v39).bind fun a7e=>((b2n a7e.i6).bind fun ins=>some (j7.nxt (g9.set v39.toNat (D4.mk a7e.a7 ins),l9 (v39+1))))) else some (j7.brk g9))
theorem d3D(msgsCopy asked told Nodes1):LQ Q7 (b9U msgsCopy told Nodes1) (d8B msgsCopy asked told Nodes1) (fun s=>b2R asked s.1 s.2):=fun lc (g9,v39) h=>PK<|rg<|j3 0 h (fun h=>n8<|A7 h fun a7e b1k h=>E3 b1k<|V6 C6 8 b1k<|j4 b6u b8x 9 h fun ins h=>E3 b1k<|R1 96 3 C6 12 [some 4] (D4.mk a7e.a7 ins) b1k<|x9 ins<|rg<|(lc.nx h fun hI=>om ((.own 5 0 3 0 g9.length:V)=.own 5 0 3 0 (g9.set v39.toNat (D4.mk a7e.a7 ins)).length) (by simp)<|sk [.is (.cell 2 0 2) (.own 5 0 3 0 (g9.set v39.toNat (D4.mk a7e.a7 ins)).length)] [2,3,38,39] [(1,0),(2,0),(3,0),(4,0),(5,0),(6,0)] hI)) (fun h=>(lc.bk h fun hI=>sk [] [2,3] [(1,0),(2,0),(3,0),(4,0),(5,0),(6,0)] hI))
def b7O(msgsCopy:List l8)(asked:List D4)(told:List r9)(Nodes1:List j6):Option j8:=
 ((p6 (fun s:(List D4)×Int=>b2R asked s.1 s.2) (asked,0)).bind fun x=>x.go (fun r=>some r) fun s=>b9c msgsCopy told Nodes1 s)
theorem d3m(msgsCopy asked told)(r):NF Q7 r (c1C msgsCopy asked told) (fun s=>b7O msgsCopy asked told s):=fun Nodes1 h=>PK<|rg<|lp (d3D msgsCopy asked told Nodes1) h (fun _ h=>Q7.rt h) (c72 msgsCopy told Nodes1 r) fun hI=>sk [] [2,3,38,39] [(1,0),(2,0),(3,0),(4,0),(5,0),(6,0)] hI
def d4E(node:List j6)(msgsCopy:List l8)(asked:List D4)(told:List r9):((List j6)×Int)->KS:=fun (c6,v22)=>⟨Q7.k 3 [],(bs 2 (.ptr 1 0 0::(.ptr 2 0 0::(bs 17 (vi (node.length:Int)::(vi v22::(bs 33 []))))))),[some [],some [.var 32 [.nil,.nil,.nil,.nil]],some [.var 32 [.own 3 0 27 0 c6.length,.own 4 0 13 0 msgsCopy.length,.own 5 0 3 0 asked.length,.own 6 0 5 0 told.length]],some [m4 66 27 w5 c6],some [m4 93 13 t9 msgsCopy],some [m4 96 3 C6 asked],some [m4 48 5 z7 told]]⟩
def b1T(node:List j6)(c6:List j6)(v22:Int):Option (j7 j8 ((List j6)×Int) (List j6)):=
 (bif decide (v22<(node.length:Int)) then ((idx c6 v22).bind fun X3=>((a5m X3).bind fun Q8=>some (j7.nxt (c6.set v22.toNat Q8,l9 (v22+1))))) else some (j7.brk c6))
theorem d0h(node msgsCopy asked told):LQ Q7 (c1C msgsCopy asked told) (d4E node msgsCopy asked told) (fun s=>b1T node s.1 s.2):=fun lc (c6,v22) h=>PK<|rg<|j3 0 h (fun h=>n8<|A7 h fun X3 a11 h=>E3 a11<|V6 w5 7 a11<|j4 a8Y b1Q 8 h fun Q8 h=>E3 a11<|R1 66 27 w5 10 I0 Q8 a11<|I8 Q8<|rg<|(lc.nx h fun hI=>om ((.own 3 0 27 0 c6.length:V)=.own 3 0 27 0 (c6.set v22.toNat Q8).length) (by simp)<|sk [.is (.cell 2 0 0) (.own 3 0 27 0 (c6.set v22.toNat Q8).length)] [2,3,21,22] [(1,0),(2,0),(3,0),(4,0),(5,0),(6,0)] hI)) (fun h=>(lc.bk h fun hI=>sk [] [2,3] [(1,0),(2,0),(3,0),(4,0),(5,0),(6,0)] hI))
def Z6(w:j8):Option j8:=
 ((b7v w.c6).bind fun node=>((a7U w.g8).bind fun msgsCopy=>((b7H w.g9).bind fun asked=>((b0t w.Told).bind fun told=>((p6 (fun s:(List j6)×Int=>b1T node s.1 s.2) (node,0)).bind fun x=>x.go (fun r=>some r) fun s=>b7O msgsCopy asked told s)))))
theorem a5F{w}:OK Q7 [.agg (S7 w)] (Z6 w):=
 o9 _ fun r h=>n8<|j4 c0q c8w 2 h fun node h=>j4 a28 c2Z 5 h fun msgsCopy h=>j4 b9W d0K 8 h fun asked h=>j4 b5d c0H 11 h fun told h=>rg<|lp (d0h node msgsCopy asked told) h (fun _ h=>Q7.rt h) (d3m msgsCopy asked told r) fun hI=>sk [] [2,3,21,22] [(2,0),(16,0),(5,0),(8,0),(11,0),(14,0)] hI
def a5J:FS (j8):=⟨6,Tryz.f6,[.val J5 []],[],[],fun r=>.agg (S7 r),fun _=>[],Tryz.func6⟩
def c0Y:(List j6)->KS:=fun Nodes1=>⟨a5J.k 4 [false],(.ptr 1 0 0::(.ptr 2 0 0::(bs 15 []))),[some [],some [.var 32 [.nil,.nil,.nil,.nil]],some [.var 32 [.own 3 0 27 0 Nodes1.length,.nil,.nil,.nil]],some [m4 66 27 w5 Nodes1]]⟩
def c4p(Nodes1:List j6):Option j8:=
 ((Z6 (j8.mk Nodes1 [] [] [])).bind fun C4=>some C4)
theorem d0T(r):NF a5J r c0Y (fun s=>c4p s):=fun Nodes1 h=>PK<|rg<|j4 Q7 a5F 1 h fun C4 h=>x9 Nodes1<|I6 C4<|fE h
def d64:((List j6)×Int)->KS:=fun (c6,id)=>⟨a5J.k 3 [],(.ptr 1 0 0::(.ptr 2 0 0::(vi id::(bs 14 [])))),[some [],some [.var 32 [.nil,.nil,.nil,.nil]],some [.var 32 [.own 3 0 27 0 c6.length,.nil,.nil,.nil]],some [m4 66 27 w5 c6]]⟩
def a6x(c6:List j6)(id:Int):Option (j7 j8 ((List j6)×Int) (List j6)):=
 (bif decide (id<3) then ((b1E id).bind fun b1w=>(r7 ((c6.length+1)*392<=140737488355328) (some (j7.nxt (c6++[b1w],l9 (id+1)))))) else some (j7.brk c6))
theorem c6v:LQ a5J c0Y d64 (fun s=>a6x s.1 s.2):=fun lc (c6,id) h=>PK<|rg<|j3 1 h (fun h=>rg<|j4 b9o d2q 3 h fun b1w h=>tk 4 I0<|t0 h fun e1 h=>J8 5 11 66 27 392 w5 c6 b1w e1<|J0 b1w<|rg<|(lc.nx h fun hI=>sk [] [0,1,2] [(1,0),(2,0),(11,0)] hI)) (fun h=>(lc.bk h fun hI=>sk [] [0,1] [(1,0),(2,0),(3,0)] hI))
def a95:Option j8:=
 ((p6 (fun s:(List j6)×Int=>a6x s.1 s.2) ([],0)).bind fun x=>x.go (fun r=>some r) fun s=>c4p s)
theorem c8o:OK a5J [] a95:=
 o9 _ fun r h=>X1<|lp (c6v) h (fun _ h=>a5J.rt h) (d0T r) fun hI=>sk [.own (.cell 3 0 0) 66 27] [0,1,2] [(1,0),(3,0),(6,0)] hI
def a40:FS (Bool):=⟨126,Tryz.f126,[.val [] []],[none,none],[.val [some 2] [],.val [some 2] []],fun r=>.b r,fun _=>[none,none],Tryz.func126⟩
def c0U:Unit->KS:=fun _=>⟨a40.k 4 [false,false],(bs 26 []),[some []]⟩
def b8E:Option Bool:=
 some true
theorem c8R(r):NF a40 r c0U (fun s=>b8E):=fun _ h=>PK<|rg<|fE h
def d67(a:List p7)(b:List p7):Int->KS:=fun v13=>⟨a40.k 3 [false],(j5 2 t6 a::(j5 2 t6 b::(bs 10 (vi (a.length:Int)::(vi v13::(bs 12 [])))))),[some []]⟩
def b1u(a:List p7)(b:List p7)(v13:Int):Option (j7 Bool Int Unit):=
 (bif decide (v13<(a.length:Int)) then ((idx a v13).bind fun read=>((idx b v13).bind fun M0=>(bif (!(([read.g7,read.i8]:List Int)==[M0.g7,M0.i8])) then some (j7.ret false) else some (j7.nxt (l9 (v13+1)))))) else some (j7.brk ()))
theorem c7y(a b):LQ a40 c0U (d67 a b) (fun s=>b1u a b s):=fun lc v13 h=>PK<|rg<|j3 0 h (fun h=>n8<|u9 t6 2 h fun read a3D h=>u9 t6 6 h fun M0 b79 h=>j3 8 h (fun h=>rg<|fL lc h) (fun h=>rg<|(lc.nx h fun hI=>sk [] [0,1,12,13] [] hI))) (fun h=>(lc.bk h fun hI=>sk [] [] [] hI))
def b1Y(a:List p7)(b:List p7):Option Bool:=
 (bif ((a.length:Int) != (b.length:Int)) then some false else ((p6 (fun s:Int=>b1u a b s) 0).bind fun x=>x.go (fun r=>some r) fun s=>b8E))
theorem d5p{a b}:OK a40 [j5 2 t6 a,j5 2 t6 b] (b1Y a b):=
 o9 _ fun r h=>n8<|j3 4 h (fun h=>rg<|fE h) (fun h=>rg<|lp (c7y a b) h (fun _ h=>a40.rt h) (c8R r) fun hI=>sk [] [0,1,12,13] [] hI)
def a43:FS (Bool):=⟨127,Tryz.f127,[.val [] []],[none,none],[.val [some 2] [],.val [some 2] []],fun r=>.b r,fun _=>[none,none],Tryz.func127⟩
def c2h:Unit->KS:=fun _=>⟨a43.k 4 [false,false],(bs 26 []),[some []]⟩
def c5d:Option Bool:=
 some true
theorem d3g(r):NF a43 r c2h (fun s=>c5d):=fun _ h=>PK<|rg<|fE h
def d1A(a:List o7)(b:List o7):Int->KS:=fun v13=>⟨a43.k 3 [false],(j5 2 t7 a::(j5 2 t7 b::(bs 10 (vi (a.length:Int)::(vi v13::(bs 12 [])))))),[some []]⟩
def b2M(a:List o7)(b:List o7)(v13:Int):Option (j7 Bool Int Unit):=
 (bif decide (v13<(a.length:Int)) then ((idx a v13).bind fun put=>((idx b v13).bind fun put1=>(bif (!(([put.g7,put.c7]:List Int)==[put1.g7,put1.c7])) then some (j7.ret false) else some (j7.nxt (l9 (v13+1)))))) else some (j7.brk ()))
theorem d6o(a b):LQ a43 c2h (d1A a b) (fun s=>b2M a b s):=fun lc v13 h=>PK<|rg<|j3 0 h (fun h=>n8<|u9 t7 2 h fun put hput h=>u9 t7 6 h fun put1 a84 h=>j3 8 h (fun h=>rg<|fL lc h) (fun h=>rg<|(lc.nx h fun hI=>sk [] [0,1,12,13] [] hI))) (fun h=>(lc.bk h fun hI=>sk [] [] [] hI))
def b0B(a:List o7)(b:List o7):Option Bool:=
 (bif ((a.length:Int) != (b.length:Int)) then some false else ((p6 (fun s:Int=>b2M a b s) 0).bind fun x=>x.go (fun r=>some r) fun s=>c5d))
theorem c6H{a b}:OK a43 [j5 2 t7 a,j5 2 t7 b] (b0B a b):=
 o9 _ fun r h=>n8<|j3 4 h (fun h=>rg<|fE h) (fun h=>rg<|lp (d6o a b) h (fun _ h=>a43.rt h) (d3g r) fun hI=>sk [] [0,1,12,13] [] hI)
def b8r:FS (Bool):=⟨95,Tryz.f95,[.val [] []],[none,none],[.val a0b [],.val a0b []],fun r=>.b r,fun _=>[none,none],Tryz.func95⟩
def b0U(a:m8)(b:m8):Option Bool:=
 ((b1Y a.b5 b.b5).bind fun read=>(bif read then ((b0B a.b6 b.b6).bind fun put=>(bif put then (bif (a.c7==b.c7) then some (a.Code==b.Code) else some false) else some false)) else some false))
theorem d7v{a b}:OK b8r [.agg (Y8 a),.agg (Y8 b)] (b0U a b):=
 o9 _ fun r h=>n8<|j4 a40 d5p 4 h fun read h=>j3 5 h (fun h=>j4 a43 c6H 10 h fun put h=>j3 12 h (fun h=>j3 19 h (fun h=>fE h) (fun h=>fE h)) (fun h=>fE h)) (fun h=>fE h)
def a6a:FS (Bool):=⟨63,Tryz.f63,[.val [] []],[none,none],[.val T3 [],.val T3 []],fun r=>.b r,fun _=>[none,none],Tryz.func63⟩
def a2V(a:l7)(b:l7):Option Bool:=
 (bif (a.i7==b.i7) then (bif (([a.a7.b9,a.a7.Seq]:List Int)==[b.a7.b9,b.a7.Seq]) then ((b0U a.d6 b.d6).bind fun a1q=>some a1q) else some false) else some false)
theorem a9g{a b}:OK a6a [.agg (v5 a),.agg (v5 b)] (a2V a b):=
 o9 _ fun r h=>n8<|j3 5 h (fun h=>j3 12 h (fun h=>j4 b8r d7v 17 h fun a1q h=>fE h) (fun h=>fE h)) (fun h=>fE h)
def a6u:FS (Bool):=⟨39,Tryz.f39,[.val [] []],[none],[.val [] []],fun r=>.b r,fun _=>[none],Tryz.func39⟩
def a3q(q:p9):Option Bool:=
 ((A0 q.b9 0 2).bind fun in_=>(bif in_ then ((A0 q.Seq 1 1000).bind fun G1=>some G1) else some false))
theorem a9k{q}:OK a6u [.agg (a3k q)] (a3q q):=
 o9 _ fun r h=>n8<|j4 z8 A8 2 h fun in_ h=>j3 3 h (fun h=>j4 z8 A8 6 h fun G1 h=>fE h) (fun h=>fE h)
def T4:FS (Bool):=⟨94,Tryz.f94,[.val [] []],[none],[.val a0b []],fun r=>.b r,fun _=>[none],Tryz.func94⟩
def d53(r_:m8):Unit->KS:=fun _=>⟨T4.k 2 [false],(bs 1 (.ptr 1 0 0::(bs 98 []))),[some [],some [.var 62 (a0g r_)]]⟩
def c2j(r_:m8):Unit->KS:=fun _=>⟨T4.k 5 [false,false],(bs 1 (.ptr 1 0 0::(bs 2 (.ptr 2 0 0::(bs 95 []))))),[some [],some [.var 62 (a0g r_)],some [.arr 160 1 4 ((d81 4 false).map eB)]]⟩
def c3Q:Unit->KS:=fun _=>⟨T4.k 7 [false,false,false],(bs 100 []),[some []]⟩
def c3E:Option Bool:=
 some true
theorem d63(r):NF T4 r c3Q (fun s=>c3E):=fun _ h=>PK<|rg<|fE h
def c7h(r_:m8):((List Bool)×Int)->KS:=fun (put,v76)=>⟨T4.k 6 [false,false],(bs 4 (.ptr 1 0 0::(bs 69 (j5 2 t7 r_.b6::(vi (r_.b6.length:Int)::(vi v76::(bs 23 []))))))),[some [],some [.arr 160 1 4 (put.map eB)]]⟩
def a69(r_:m8)(put:List Bool)(v76:Int):Option (j7 Bool ((List Bool)×Int) Unit):=
 (bif decide (v76<(r_.b6.length:Int)) then ((idx r_.b6 v76).bind fun put1=>((A0 put1.g7 0 3).bind fun in_=>(bif (!in_) then some (j7.ret false) else ((idx put put1.g7).bind fun y=>(r7 (put1.g7<4) ((bif y then some (j7.ret false) else ((A0 put1.c7 (-1000000) 1000000).bind fun G1=>(bif (!G1) then some (j7.ret false) else (r7 (put1.g7<4) (some (j7.nxt (put.set put1.g7.toNat true,l9 (v76+1)))))))))))))) else some (j7.brk ()))
theorem c9L(r_):LQ T4 c3Q (c7h r_) (fun s=>a69 r_ s.1 s.2):=fun lc (put,v76) h=>PK<|rg<|j3 0 h (fun h=>rg<|u9 t7 0 h fun put1 a84 h=>rg<|j4 z8 A8 2 h fun in_ h=>j3 4 h (fun h=>rg<|fL lc h) (fun h=>A7 h fun y hy h=>t0 h fun e1 h=>ob (J4 hy)<|ob e1<|ob (N4 (enc:=eB) hy)<|tl (tr 8 (eB y))<|j3 10 h (fun h=>rg<|fL lc h) (fun h=>j4 z8 A8 13 h fun G1 h=>j3 15 h (fun h=>rg<|fL lc h) (fun h=>rg<|t0 h fun e2 h=>ob (J4 hy)<|ob e2<|om (n9.arr 160 1 4 ((put.map eB).set (put1.g7.toNat) [.b true])=n9.arr 160 1 4 ((put.set put1.g7.toNat true).map eB)) (a5I rfl)<|ob (N4 (enc:=eB) hy)<|tl (3,{a:=.rowck (eB y) [],e:=some (.arr 160 1 4 ((put.set put1.g7.toNat true).map eB))})<|rg<|(lc.nx h fun hI=>sk [] [4,74,75,76] [(1,0)] hI))))) (fun h=>(lc.bk h fun hI=>sk [] [] [] hI))
def b5B(r_:m8):Option Bool:=
 ((p6 (fun s:(List Bool)×Int=>a69 r_ s.1 s.2) (d81 4 false,0)).bind fun x=>x.go (fun r=>some r) fun s=>c3E)
theorem d0P(r_)(r):NF T4 r (c2j r_) (fun s=>b5B r_):=fun _ h=>PK<|rg<|lp (c9L r_) h (fun _ h=>T4.rt h) (d63 r) fun hI=>sk [] [4,74,75,76] [(2,0)] hI
def d4n(r_:m8):((List Bool)×Int)->KS:=fun (read,v49)=>⟨T4.k 4 [false],(bs 1 (.ptr 1 0 0::(bs 1 (.ptr 2 0 0::(.ptr 3 0 0::(bs 42 (j5 2 t6 r_.b5::(vi (r_.b5.length:Int)::(vi v49::(bs 50 [])))))))))),[some [],some [.var 62 (a0g r_)],some [.arr 160 1 4 (read.map eB)],some [.arr 160 1 4 ((d81 4 false).map eB)]]⟩
def a6m(r_:m8)(read:List Bool)(v49:Int):Option (j7 Bool ((List Bool)×Int) Unit):=
 (bif decide (v49<(r_.b5.length:Int)) then ((idx r_.b5 v49).bind fun M0=>((A0 M0.g7 0 3).bind fun R0=>(bif (!R0) then some (j7.ret false) else ((idx read M0.g7).bind fun y1=>(r7 (M0.g7<4) ((bif y1 then some (j7.ret false) else ((A0 M0.i8 0 1000000).bind fun T1=>(bif (!T1) then some (j7.ret false) else (r7 (M0.g7<4) (some (j7.nxt (read.set M0.g7.toNat true,l9 (v49+1)))))))))))))) else some (j7.brk ()))
theorem d5M(r_):LQ T4 (c2j r_) (d4n r_) (fun s=>a6m r_ s.1 s.2):=fun lc (read,v49) h=>PK<|rg<|j3 0 h (fun h=>rg<|u9 t6 0 h fun M0 b79 h=>rg<|j4 z8 A8 2 h fun R0 h=>j3 4 h (fun h=>rg<|fL lc h) (fun h=>A7 h fun y1 hy1 h=>t0 h fun e3 h=>ob (J4 hy1)<|ob e3<|ob (N4 (enc:=eB) hy1)<|tl (tr 8 (eB y1))<|j3 10 h (fun h=>rg<|fL lc h) (fun h=>j4 z8 A8 13 h fun T1 h=>j3 15 h (fun h=>rg<|fL lc h) (fun h=>rg<|t0 h fun e4 h=>ob (J4 hy1)<|ob e4<|om (n9.arr 160 1 4 ((read.map eB).set (M0.g7.toNat) [.b true])=n9.arr 160 1 4 ((read.set M0.g7.toNat true).map eB)) (a5I rfl)<|ob (N4 (enc:=eB) hy1)<|tl (3,{a:=.rowck (eB y1) [],e:=some (.arr 160 1 4 ((read.set M0.g7.toNat true).map eB))})<|rg<|(lc.nx h fun hI=>sk [] [1,3,4,47,48,49] [(1,0),(2,0),(3,0)] hI))))) (fun h=>(lc.bk h fun hI=>sk [] [1,4] [(1,0),(3,0)] hI))
def b0r(r_:m8):Option Bool:=
 ((p6 (fun s:(List Bool)×Int=>a6m r_ s.1 s.2) (d81 4 false,0)).bind fun x=>x.go (fun r=>some r) fun s=>b5B r_)
theorem c94(r_)(r):NF T4 r (d53 r_) (fun s=>b0r r_):=fun _ h=>PK<|rg<|om ((d81 4 ([.b false]:List V)).flatten=[.b false,.b false,.b false,.b false]/\([.b false]:List V).length=1) ⟨rfl,rfl⟩<|om ((d81 4 ([.b false]:List V)).flatten=[.b false,.b false,.b false,.b false]/\([.b false]:List V).length=1) ⟨rfl,rfl⟩<|rg<|lp (d5M r_) h (fun _ h=>T4.rt h) (d0P r_ r) fun hI=>sk [] [1,3,4,47,48,49] [(1,0),(2,0),(3,0)] hI
def a6k(r_:m8):Option Bool:=
 ((((A0 r_.Code 0 3).bind fun a2D=>(bif (!a2D) then some (j9.ret false) else ((A0 r_.c7 (-1000000) 1000000).bind fun a54=>(bif (!a54) then some (j9.ret false) else (bif (r_.Code != 0) then (bif (r_.c7 != 0) then some (j9.ret false) else (bif decide ((r_.b6.length:Int)>0) then some (j9.ret false) else (bif (r_.Code==3) then (bif decide ((r_.b5.length:Int)>0) then some (j9.ret false) else some (j9.brk ())) else some (j9.brk ())))) else (bif (r_.Code==3) then (bif decide ((r_.b5.length:Int)>0) then some (j9.ret false) else some (j9.brk ())) else some (j9.brk ()))))))):Option (j9 Bool Unit)).bind fun x=>x.go some fun j=>b0r r_)
theorem b6F{r_}:OK T4 [.agg (Y8 r_)] (a6k r_):=
 o9 _ fun r h=>rg<|B5 h (c94 r_ r) fun x1 h hc1=>rg<|j4 z8 A8 2 h fun a2D h=>j3 4 h (fun h=>rg<|(B0 h hc1 fun h=>fE h)) (fun h=>j4 z8 A8 7 h fun a54 h=>j3 10 h (fun h=>rg<|(B0 h hc1 fun h=>fE h)) (fun h=>j3 14 h (fun h=>j3 18 h (fun h=>rg<|(B0 h hc1 fun h=>fE h)) (fun h=>j3 26 h (fun h=>rg<|(B0 h hc1 fun h=>fE h)) (fun h=>j3 30 h (fun h=>j3 36 h (fun h=>rg<|(B0 h hc1 fun h=>fE h)) (fun h=>(p8 h hc1 fun hI=>sk [] [1] [(1,0)] hI))) (fun h=>(p8 h hc1 fun hI=>sk [] [1] [(1,0)] hI))))) (fun h=>j3 30 h (fun h=>j3 36 h (fun h=>rg<|(B0 h hc1 fun h=>fE h)) (fun h=>(p8 h hc1 fun hI=>sk [] [1] [(1,0)] hI))) (fun h=>(p8 h hc1 fun hI=>sk [] [1] [(1,0)] hI)))))
def a08:FS (Bool):=⟨62,Tryz.f62,[.val [] []],[none],[.val T3 []],fun r=>.b r,fun _=>[none],Tryz.func62⟩
def a0n(e_:l7):Option Bool:=
 (bif e_.i7 then ((a2V e_ (l7.mk true (p9.mk 0 0) (m8.mk [] [] 0 0))).bind fun Q6=>some Q6) else ((a3q e_.a7).bind fun a3g=>(bif a3g then ((a6k e_.d6).bind fun a1w=>(bif a1w then some (e_.d6.Code != 3) else some false)) else some false)))
theorem a2h{e_}:OK a08 [.agg (v5 e_)] (a0n e_):=
 o9 _ fun r h=>n8<|j3 1 h (fun h=>rg<|j4 a6a a9g 2 h fun Q6 h=>fE h) (fun h=>rg<|j4 a6u a9k 2 h fun a3g h=>j3 3 h (fun h=>j4 T4 b6F 6 h fun a1w h=>j3 8 h (fun h=>fE h) (fun h=>fE h)) (fun h=>fE h))
def b8w:FS (Bool):=⟨100,Tryz.f100,[.val [] []],[none],[.val a1G []],fun r=>.b r,fun _=>[none],Tryz.func100⟩
def b1U(v_:n7):Option Bool:=
 (bif (v_.a5==0) then ((a2V v_.d7 (l7.mk false (p9.mk 0 0) (m8.mk [] [] 0 0))).bind fun Q6=>some Q6) else ((A0 v_.a5 1 3000).bind fun in_=>(bif in_ then ((a0n v_.d7).bind fun C5=>some C5) else some false)))
theorem d0f{v_}:OK b8w [.agg (s5 v_)] (b1U v_):=
 o9 _ fun r h=>n8<|j3 2 h (fun h=>rg<|j4 a6a a9g 3 h fun Q6 h=>fE h) (fun h=>rg<|j4 z8 A8 2 h fun in_ h=>j3 3 h (fun h=>j4 a08 a2h 6 h fun C5 h=>fE h) (fun h=>fE h))
def a1i:FS (Bool):=⟨66,Tryz.f66,[.val [] []],[none],[.val [some 8] []],fun r=>.b r,fun _=>[none],Tryz.func66⟩
def b77(list:List n7):Unit->KS:=fun _=>⟨a1i.k 3 [false],(j5 8 s5 list::(bs 17 [])),[some []]⟩
def b59(list:List n7):Option Bool:=
 some (decide ((list.length:Int)<=40))
theorem d4J(list)(r):NF a1i r (b77 list) (fun s=>b59 list):=fun _ h=>PK<|rg<|fE h
def d1H(list:List n7):Int->KS:=fun v7=>⟨a1i.k 2 [],(j5 8 s5 list::(bs 4 (j5 8 s5 list::(vi (list.length:Int)::(vi v7::(bs 10 [])))))),[some []]⟩
def b14(list:List n7)(v7:Int):Option (j7 Bool Int Unit):=
 (bif decide (v7<(list.length:Int)) then ((idx list v7).bind fun vote=>((b1U vote).bind fun S9=>(bif (!S9) then some (j7.ret false) else some (j7.nxt (l9 (v7+1)))))) else some (j7.brk ()))
theorem c83(list):LQ a1i (b77 list) (d1H list) (fun s=>b14 list s):=fun lc v7 h=>PK<|rg<|j3 0 h (fun h=>rg<|u9 s5 0 h fun vote a4c h=>rg<|j4 b8w d0f 1 h fun S9 h=>j3 2 h (fun h=>rg<|fL lc h) (fun h=>rg<|(lc.nx h fun hI=>sk [] [0,5,6,7] [] hI))) (fun h=>(lc.bk h fun hI=>sk [] [0] [] hI))
def a3C(list:List n7):Option Bool:=
 ((p6 (fun s:Int=>b14 list s) 0).bind fun x=>x.go (fun r=>some r) fun s=>b59 list)
theorem a86{list}:OK a1i [j5 8 s5 list] (a3C list):=
 o9 _ fun r h=>n8<|lp (c83 list) h (fun _ h=>a1i.rt h) (d4J list r) fun hI=>sk [] [0,5,6,7] [] hI
def a2Z:FS (Bool):=⟨60,Tryz.f60,[.val [] []],[none],[.val [none,some 8] []],fun r=>.b r,fun _=>[none],Tryz.func60⟩
def c40(a:v6):Unit->KS:=fun _=>⟨a2Z.k 3 [false],(bs 1 (.ptr 1 0 0::(bs 24 []))),[some [],some [.var 56 [vi a.d9,j5 8 s5 a.a8]]]⟩
def b6k(a:v6):Option Bool:=
 ((A0 a.d9 0 3000).bind fun in_=>(bif in_ then ((a3C a.a8).bind fun G8=>some G8) else some false))
theorem d7c(a)(r):NF a2Z r (c40 a) (fun s=>b6k a):=fun _ h=>PK<|rg<|j4 z8 A8 2 h fun in_ h=>j3 3 h (fun h=>j4 a1i a86 6 h fun G8 h=>fE h) (fun h=>fE h)
def d5d(a:v6):Int->KS:=fun v8=>⟨a2Z.k 2 [],(bs 1 (.ptr 1 0 0::(bs 4 (j5 8 s5 a.a8::(vi (a.a8.length:Int)::(vi v8::(bs 17 []))))))),[some [],some [.var 56 [vi a.d9,j5 8 s5 a.a8]]]⟩
def b16(a:v6)(v8:Int):Option (j7 Bool Int Unit):=
 (bif decide (v8<(a.a8.length:Int)) then ((idx a.a8 v8).bind fun vote=>(bif decide (vote.a5>a.d9) then some (j7.ret false) else some (j7.nxt (l9 (v8+1))))) else some (j7.brk ()))
theorem d8M(a):LQ a2Z (c40 a) (d5d a) (fun s=>b16 a s):=fun lc v8 h=>PK<|rg<|j3 0 h (fun h=>rg<|u9 s5 0 h fun vote a4c h=>rg<|j3 4 h (fun h=>rg<|fL lc h) (fun h=>rg<|(lc.nx h fun hI=>sk [] [1,6,7,8] [(1,0)] hI))) (fun h=>(lc.bk h fun hI=>sk [] [1] [(1,0)] hI))
def a6F(a:v6):Option Bool:=
 ((p6 (fun s:Int=>b16 a s) 0).bind fun x=>x.go (fun r=>some r) fun s=>b6k a)
theorem b6Y{a}:OK a2Z [.agg (a3Y a)] (a6F a):=
 o9 _ fun r h=>n8<|lp (d8M a) h (fun _ h=>a2Z.rt h) (d7c a r) fun hI=>sk [] [1,6,7,8] [(1,0)] hI
def a3O:FS (Bool):=⟨61,Tryz.f61,[.val [] []],[none],[.val [some 7] []],fun r=>.b r,fun _=>[none],Tryz.func61⟩
def b83(list:List l7):Unit->KS:=fun _=>⟨a3O.k 3 [false],(j5 7 v5 list::(bs 17 [])),[some []]⟩
def b4Q(list:List l7):Option Bool:=
 some (decide ((list.length:Int)<=40))
theorem c81(list)(r):NF a3O r (b83 list) (fun s=>b4Q list):=fun _ h=>PK<|rg<|fE h
def d8E(list:List l7):Int->KS:=fun v7=>⟨a3O.k 2 [],(j5 7 v5 list::(bs 4 (j5 7 v5 list::(vi (list.length:Int)::(vi v7::(bs 10 [])))))),[some []]⟩
def b1J(list:List l7)(v7:Int):Option (j7 Bool Int Unit):=
 (bif decide (v7<(list.length:Int)) then ((idx list v7).bind fun entry=>((a0n entry).bind fun C5=>(bif (!C5) then some (j7.ret false) else some (j7.nxt (l9 (v7+1)))))) else some (j7.brk ()))
theorem d5O(list):LQ a3O (b83 list) (d8E list) (fun s=>b1J list s):=fun lc v7 h=>PK<|rg<|j3 0 h (fun h=>rg<|u9 v5 0 h fun entry a0d h=>rg<|j4 a08 a2h 1 h fun C5 h=>j3 2 h (fun h=>rg<|fL lc h) (fun h=>rg<|(lc.nx h fun hI=>sk [] [0,5,6,7] [] hI))) (fun h=>(lc.bk h fun hI=>sk [] [0] [] hI))
def a7v(list:List l7):Option Bool:=
 ((p6 (fun s:Int=>b1J list s) 0).bind fun x=>x.go (fun r=>some r) fun s=>b4Q list)
theorem b9f{list}:OK a3O [j5 7 v5 list] (a7v list):=
 o9 _ fun r h=>n8<|lp (d5O list) h (fun _ h=>a3O.rt h) (c81 list r) fun hI=>sk [] [0,5,6,7] [] hI
def a18:FS (Bool):=⟨101,Tryz.f101,[.val [] []],[none],[.val [] []],fun r=>.b r,fun _=>[none],Tryz.func101⟩
def a1t(n:Int):Option Bool:=
 ((A0 n 0 3).bind fun in_=>some in_)
theorem a2L{n}:OK a18 [vi n] (a1t n):=
 o9 _ fun r h=>n8<|j4 z8 A8 1 h fun in_ h=>fE h
def b6b:FS (Bool):=⟨102,Tryz.f102,[.val [] []],[none],[.val [] []],fun r=>.b r,fun _=>[none],Tryz.func102⟩
def b3O(n:Int):Option Bool:=
 ((A0 n 0 3).bind fun in_=>some in_)
theorem b8H{n}:OK b6b [vi n] (b3O n):=
 o9 _ fun r h=>n8<|j4 z8 A8 1 h fun in_ h=>fE h
def b72:FS (Bool):=⟨67,Tryz.f67,[.val [] []],[none],[.val [] []],fun r=>.b r,fun _=>[none],Tryz.func67⟩
def b3K(x_:m5):Option Bool:=
 (bif (x_.a0==1) then ((a1t x_.A).bind fun c1=>(bif c1 then ((b3O x_.B).bind fun c2=>(bif c2 then some (x_.N==0) else some false)) else some false)) else (bif (x_.a0==2) then ((b3O x_.A).bind fun c21=>(bif c21 then ((a1t x_.B).bind fun c11=>(bif c11 then some (x_.N==0) else some false)) else some false)) else (bif (x_.a0==3) then ((a1t x_.A).bind fun c12=>(bif c12 then (bif (x_.B==0) then ((A0 x_.N (-1000000) 1000000).bind fun in_=>some in_) else some false) else some false)) else (bif (x_.a0==4) then ((a1t x_.A).bind fun c13=>(bif c13 then ((a1t x_.B).bind fun c14=>(bif c14 then some (x_.N==0) else some false)) else some false)) else (bif (x_.a0==5) then ((a1t x_.A).bind fun c15=>(bif c15 then ((a1t x_.B).bind fun c16=>(bif c16 then some (x_.N==0) else some false)) else some false)) else (bif (x_.a0==6) then ((a1t x_.A).bind fun c17=>(bif c17 then ((a1t x_.B).bind fun c18=>(bif c18 then ((A0 x_.N 1 10).bind fun G1=>some G1) else some false)) else some false)) else (bif (x_.a0==7) then (bif (x_.A==0) then (bif (x_.B==0) then some (x_.N==0) else some false) else some false) else some false)))))))
theorem d8O{x_}:OK b72 [.agg (z3 x_)] (b3K x_):=
 o9 _ fun r h=>rg4<|rg<|j3 1 h (fun h=>rg<|j4 a18 a2L 3 h fun c1 h=>j3 4 h (fun h=>j4 b6b b8H 8 h fun c2 h=>j3 10 h (fun h=>fE h) (fun h=>fE h)) (fun h=>fE h)) (fun h=>rg<|j3 1 h (fun h=>rg<|j4 b6b b8H 3 h fun c21 h=>j3 4 h (fun h=>j4 a18 a2L 8 h fun c11 h=>j3 10 h (fun h=>fE h) (fun h=>fE h)) (fun h=>fE h)) (fun h=>rg<|j3 1 h (fun h=>rg<|j4 a18 a2L 3 h fun c12 h=>j3 4 h (fun h=>j3 9 h (fun h=>j4 z8 A8 12 h fun in_ h=>fE h) (fun h=>fE h)) (fun h=>fE h)) (fun h=>rg<|j3 1 h (fun h=>rg<|j4 a18 a2L 3 h fun c13 h=>j3 4 h (fun h=>j4 a18 a2L 8 h fun c14 h=>j3 10 h (fun h=>fE h) (fun h=>fE h)) (fun h=>fE h)) (fun h=>rg<|j3 1 h (fun h=>rg<|j4 a18 a2L 3 h fun c15 h=>j3 4 h (fun h=>j4 a18 a2L 8 h fun c16 h=>j3 10 h (fun h=>fE h) (fun h=>fE h)) (fun h=>fE h)) (fun h=>rg<|j3 1 h (fun h=>rg<|j4 a18 a2L 3 h fun c17 h=>j3 4 h (fun h=>j4 a18 a2L 8 h fun c18 h=>j3 10 h (fun h=>j4 z8 A8 13 h fun G1 h=>fE h) (fun h=>fE h)) (fun h=>fE h)) (fun h=>rg<|j3 1 h (fun h=>rg<|j3 3 h (fun h=>j3 8 h (fun h=>fE h) (fun h=>fE h)) (fun h=>fE h)) (fun h=>rg<|fE h)))))))
def a1K:FS (Bool):=⟨40,Tryz.f40,[.val [] []],[none],[.val [some 4] []],fun r=>.b r,fun _=>[none],Tryz.func40⟩
def c4u(list:List m5):Unit->KS:=fun _=>⟨a1K.k 3 [false],(j5 4 z3 list::(bs 17 [])),[some []]⟩
def b6n(list:List m5):Option Bool:=
 some (decide ((list.length:Int)<=10))
theorem c7H(list)(r):NF a1K r (c4u list) (fun s=>b6n list):=fun _ h=>PK<|rg<|fE h
def c9X(list:List m5):Int->KS:=fun v7=>⟨a1K.k 2 [],(j5 4 z3 list::(bs 4 (j5 4 z3 list::(vi (list.length:Int)::(vi v7::(bs 10 [])))))),[some []]⟩
def b2G(list:List m5)(v7:Int):Option (j7 Bool Int Unit):=
 (bif decide (v7<(list.length:Int)) then ((idx list v7).bind fun ins=>((b3K ins).bind fun K1=>(bif (!K1) then some (j7.ret false) else some (j7.nxt (l9 (v7+1)))))) else some (j7.brk ()))
theorem d76(list):LQ a1K (c4u list) (c9X list) (fun s=>b2G list s):=fun lc v7 h=>PK<|rg<|j3 0 h (fun h=>rg<|u9 z3 0 h fun ins hins h=>rg<|j4 b72 d8O 1 h fun K1 h=>j3 2 h (fun h=>rg<|fL lc h) (fun h=>rg<|(lc.nx h fun hI=>sk [] [0,5,6,7] [] hI))) (fun h=>(lc.bk h fun hI=>sk [] [0] [] hI))
def a4r(list:List m5):Option Bool:=
 ((p6 (fun s:Int=>b2G list s) 0).bind fun x=>x.go (fun r=>some r) fun s=>b6n list)
theorem b13{list}:OK a1K [j5 4 z3 list] (a4r list):=
 o9 _ fun r h=>n8<|lp (d76 list) h (fun _ h=>a1K.rt h) (c7H list r) fun hI=>sk [] [0,5,6,7] [] hI
def b4l:FS (Int):=⟨96,Tryz.f96,[.val [] []],[none],[.val [] []],fun r=>vi r,fun _=>[none],Tryz.func96⟩
def a8l(bal:Int):Option Int:=
 ((A0 bal 1 3000).bind fun in_=>(bif (!in_) then some (-1) else some (d9x bal 3)))
theorem c2F{bal}:OK b4l [vi bal] (a8l bal):=
 o9 _ fun r h=>n8<|j4 z8 A8 1 h fun in_ h=>j3 2 h (fun h=>rg<|fE h) (fun h=>rg<|om (3≠(0:Int)) (by decide)<|fE h)
def b5e:FS (Bool):=⟨97,Tryz.f97,[.val [] []],[none,none],[.val [some 1] [],.val [] []],fun r=>.b r,fun _=>[none,none],Tryz.func97⟩
def a81(list:List Bool)(id:Int):Option Bool:=
 (bif ((list.length:Int)==3) then ((idx list id).bind fun y=>some y) else some false)
theorem c2l{list id}:OK b5e [j5 1 eB list,vi id] (a81 list id):=
 o9 _ fun r h=>n8<|j3 3 h (fun h=>u9 eB 6 h fun y hy h=>fE h) (fun h=>fE h)
def b2Q:FS (Bool):=⟨64,Tryz.f64,[.val [] []],[none],[.val I0 []],fun r=>.b r,fun _=>[none],Tryz.func64⟩
def c9i(n:j6):Bool->KS:=fun a6Y=>⟨b2Q.k 2 [],(bs 1 (.ptr 1 0 0::(bs 1 (.b a6Y::(bs 92 []))))),[some [],some [.var 66 (a5o n)]]⟩
def b3G(n:j6)(a6Y:Bool):Option Bool:=
 (bif (n.a9==0) then (bif (n.a5==0) then (bif ((n.b7.length:Int)==0) then (bif ((n.f0.length:Int)==0) then some a6Y else some false) else some false) else some false) else ((a8l n.a5).bind fun a39=>(bif (a39 != n.Id) then some false else (bif decide (n.a5>n.Acc.d9) then some false else ((a3C n.f0).bind fun G8=>(bif (!G8) then some false else (bif (n.a9==1) then ((a81 n.b7 n.Id).bind fun b9v=>(bif b9v then some a6Y else some false)) else (bif (n.a9==2) then (bif ((n.b7.length:Int)==0) then some a6Y else some false) else (bif (n.a9==3) then (bif ((n.b7.length:Int)==0) then ((a0n n.c9).bind fun C5=>(bif C5 then ((a81 n.a8 n.Id).bind fun c5h=>(bif c5h then some (decide ((n.a6.length:Int)<40)) else some false)) else some false)) else some false) else some false)))))))))
theorem d6b(n)(r):NF b2Q r (c9i n) (fun s=>b3G n s):=fun a6Y h=>PK<|n8<|j3 2 h (fun h=>rg<|j3 3 h (fun h=>j3 6 h (fun h=>j3 12 h (fun h=>fE h) (fun h=>fE h)) (fun h=>fE h)) (fun h=>fE h)) (fun h=>rg<|j4 b4l c2F 2 h fun a39 h=>j3 6 h (fun h=>rg<|fE h) (fun h=>j3 14 h (fun h=>rg<|fE h) (fun h=>j4 a1i a86 17 h fun G8 h=>j3 19 h (fun h=>rg<|fE h) (fun h=>n8<|j3 1 h (fun h=>rg<|j4 b5e c2l 4 h fun b9v h=>j3 5 h (fun h=>fE h) (fun h=>fE h)) (fun h=>rg<|j3 1 h (fun h=>rg<|j3 1 h (fun h=>fE h) (fun h=>fE h)) (fun h=>rg<|j3 1 h (fun h=>rg<|j3 1 h (fun h=>j4 a08 a2h 4 h fun C5 h=>j3 6 h (fun h=>j4 b5e c2l 11 h fun c5h h=>j3 13 h (fun h=>fE h) (fun h=>fE h)) (fun h=>fE h)) (fun h=>fE h)) (fun h=>rg<|fE h)))))))
def a9H(n:j6):Option Bool:=
 ((((a2V n.c9 (l7.mk false (p9.mk 0 0) (m8.mk [] [] 0 0))).bind fun Q6=>(bif Q6 then some (j9.brk ((n.a8.length:Int)==0)) else some (j9.brk false))):Option (j9 Bool Bool)).bind fun x=>x.go some fun j=>b3G n j)
theorem d6i{n}:OK b2Q [.agg (w5 n)] (a9H n):=
 o9 _ fun r h=>rg<|B5 h (d6b n r) fun x1 h hc1=>rg<|j4 a6a a9g 3 h fun Q6 h=>j3 4 h (fun h=>(p8 h hc1 fun hI=>sk [] [1,3] [(1,0)] hI)) (fun h=>(p8 h hc1 fun hI=>sk [] [1,3] [(1,0)] hI))
def U6:FS (Bool):=⟨33,Tryz.f33,[.val [] []],[none],[.val I0 []],fun r=>.b r,fun _=>[none],Tryz.func33⟩
def c4K(n:j6):Unit->KS:=fun _=>⟨U6.k 4 [false,false],(bs 1 (.ptr 1 0 0::(bs 87 []))),[some [],some [.var 66 (a5o n)]]⟩
def c6O(n:j6):Unit->KS:=fun _=>⟨U6.k 6 [false,false,true,false],(bs 1 (.ptr 1 0 0::(bs 87 []))),[some [],some [.var 66 (a5o n)]]⟩
def b61(n:j6):Option Bool:=
 ((a9H n).bind fun a0f=>some a0f)
theorem c7Q(n)(r):NF U6 r (c6O n) (fun s=>b61 n):=fun _ h=>PK<|rg<|j4 b2Q d6i 1 h fun a0f h=>fE h
def b3V(n:j6):Option Bool:=
 (((bif n.i4 then ((a4r n.i6).bind fun z9=>(bif (!z9) then some (j9.ret false) else ((a0n n.b8).bind fun C5=>(bif (!C5) then some (j9.ret false) else (bif n.b8.i7 then some (j9.ret false) else (bif (!(([n.b8.a7.b9,n.b8.a7.Seq]:List Int)==[n.Id,n.Seq])) then some (j9.ret false) else some (j9.brk ()))))))) else (bif decide ((n.i6.length:Int)>0) then some (j9.ret false) else ((a2V n.b8 (l7.mk false (p9.mk 0 0) (m8.mk [] [] 0 0))).bind fun Q6=>(bif (!Q6) then some (j9.ret false) else some (j9.brk ()))))):Option (j9 Bool Unit)).bind fun x=>x.go some fun j=>b61 n)
theorem c6V(n)(r):NF U6 r (c4K n) (fun s=>b3V n):=fun _ h=>PK<|B5 h (c7Q n r) fun x1 h hc1=>rg<|j3 1 h (fun h=>rg<|j4 a1K b13 2 h fun z9 h=>j3 4 h (fun h=>rg<|(B0 h hc1 fun h=>fE h)) (fun h=>j4 a08 a2h 7 h fun C5 h=>j3 10 h (fun h=>rg<|(B0 h hc1 fun h=>fE h)) (fun h=>j3 15 h (fun h=>rg<|(B0 h hc1 fun h=>fE h)) (fun h=>j3 25 h (fun h=>rg<|(B0 h hc1 fun h=>fE h)) (fun h=>(p8 h hc1 fun hI=>sk [] [1] [(1,0)] hI)))))) (fun h=>rg<|j3 4 h (fun h=>rg<|(B0 h hc1 fun h=>fE h)) (fun h=>j4 a6a a9g 8 h fun Q6 h=>j3 10 h (fun h=>rg<|(B0 h hc1 fun h=>fE h)) (fun h=>(p8 h hc1 fun hI=>sk [] [1] [(1,0)] hI))))
def d8N(n:j6):Int->KS:=fun v36=>⟨U6.k 3 [false],(bs 1 (.ptr 1 0 0::(bs 32 (j5 7 v5 n.d8::(vi (n.d8.length:Int)::(vi v36::(bs 52 []))))))),[some [],some [.var 66 (a5o n)]]⟩
def b3L(n:j6)(v36:Int):Option (j7 Bool Int Unit):=
 (bif decide (v36<(n.d8.length:Int)) then ((idx n.d8 v36).bind fun entry=>((a0n entry).bind fun a06=>(bif (!a06) then some (j7.ret false) else (bif entry.i7 then some (j7.ret false) else some (j7.nxt (l9 (v36+1))))))) else some (j7.brk ()))
theorem d7V(n):LQ U6 (c4K n) (d8N n) (fun s=>b3L n s):=fun lc v36 h=>PK<|rg<|j3 0 h (fun h=>rg<|u9 v5 0 h fun entry a0d h=>rg<|j4 a08 a2h 1 h fun a06 h=>j3 3 h (fun h=>rg<|fL lc h) (fun h=>j3 6 h (fun h=>rg<|fL lc h) (fun h=>rg<|(lc.nx h fun hI=>sk [] [1,34,35,36] [(1,0)] hI)))) (fun h=>(lc.bk h fun hI=>sk [] [1] [(1,0)] hI))
def a1H(n:j6):Option Bool:=
 ((A0 n.Id 0 2).bind fun in_=>(bif (!in_) then some false else ((a6F n.Acc).bind fun K2=>(bif (!K2) then some false else ((a7v n.a6).bind fun G6=>(bif (!G6) then some false else ((A0 n.Seq 0 1000).bind fun G1=>(bif (!G1) then some false else (bif decide ((n.d8.length:Int)>4) then some false else ((p6 (fun s:Int=>b3L n s) 0).bind fun x=>x.go (fun r=>some r) fun s=>b3V n))))))))))
theorem a4u{n}:OK U6 [.agg (w5 n)] (a1H n):=
 o9 _ fun r h=>n8<|j4 z8 A8 2 h fun in_ h=>j3 4 h (fun h=>rg<|fE h) (fun h=>j4 a2Z b6Y 7 h fun K2 h=>j3 10 h (fun h=>rg<|fE h) (fun h=>j4 a3O b9f 13 h fun G6 h=>j3 16 h (fun h=>rg<|fE h) (fun h=>j4 z8 A8 19 h fun G1 h=>j3 22 h (fun h=>rg<|fE h) (fun h=>j3 27 h (fun h=>rg<|fE h) (fun h=>rg<|lp (d7V n) h (fun _ h=>U6.rt h) (c6V n r) fun hI=>sk [] [1,34,35,36] [(1,0)] hI)))))
def b4U:FS (Bool):=⟨38,Tryz.f38,[.val [] []],[none],[.val P5 []],fun r=>.b r,fun _=>[none],Tryz.func38⟩
def a7p(m:l8):Option Bool:=
 ((A0 m.b7 0 2).bind fun in_=>(bif (!in_) then some false else ((A0 m.To 0 2).bind fun G1=>(bif (!G1) then some false else (bif (m.b7==m.To) then some false else ((A0 m.c8 0 40).bind fun R0=>(bif (!R0) then some false else ((A0 m.a5 1 3000).bind fun T1=>((a2V m.d7 (l7.mk false (p9.mk 0 0) (m8.mk [] [] 0 0))).bind fun Q6=>(bif (m.a0==1) then (bif T1 then (bif Q6 then some ((m.a8.length:Int)==0) else some false) else some false) else (bif (m.a0==4) then (bif T1 then (bif Q6 then some ((m.a8.length:Int)==0) else some false) else some false) else (bif (m.a0==2) then (bif T1 then (bif Q6 then ((a3C m.a8).bind fun G8=>(bif G8 then some (decide ((l9 (m.c8+(m.a8.length:Int)))<=40)) else some false)) else some false) else some false) else (bif (m.a0==3) then (bif T1 then (bif decide (m.c8<40) then ((a0n m.d7).bind fun C5=>(bif C5 then some ((m.a8.length:Int)==0) else some false)) else some false) else some false) else (bif (m.a0==5) then (bif (m.a5==0) then (bif decide (m.c8<40) then ((a0n m.d7).bind fun a06=>(bif a06 then some ((m.a8.length:Int)==0) else some false)) else some false) else some false) else (bif (m.a0==6) then (bif T1 then (bif (m.c8==0) then (bif Q6 then some ((m.a8.length:Int)==0) else some false) else some false) else some false) else (bif (m.a0==7) then (bif (m.a5==0) then (bif (m.c8==0) then ((a0n m.d7).bind fun c56=>(bif c56 then (bif (!m.d7.i7) then some ((m.a8.length:Int)==0) else some false) else some false)) else some false) else some false) else (bif (m.a0==8) then (bif (m.a5==0) then (bif Q6 then some ((m.a8.length:Int)==0) else some false) else some false) else some false)))))))))))))))))
theorem c1P{m}:OK b4U [.agg (t9 m)] (a7p m):=
 o9 _ fun r h=>n8<|j4 z8 A8 2 h fun in_ h=>j3 4 h (fun h=>rg<|fE h) (fun h=>j4 z8 A8 7 h fun G1 h=>j3 10 h (fun h=>rg<|fE h) (fun h=>j3 17 h (fun h=>rg<|fE h) (fun h=>j4 z8 A8 20 h fun R0 h=>j3 22 h (fun h=>rg<|fE h) (fun h=>rg<|j4 z8 A8 2 h fun T1 h=>rg<|j4 a6a a9g 3 h fun Q6 h=>X1<|j3 1 h (fun h=>rg<|j3 1 h (fun h=>j3 4 h (fun h=>fE h) (fun h=>fE h)) (fun h=>fE h)) (fun h=>rg<|j3 1 h (fun h=>rg<|j3 1 h (fun h=>j3 4 h (fun h=>fE h) (fun h=>fE h)) (fun h=>fE h)) (fun h=>rg<|j3 1 h (fun h=>rg<|j3 1 h (fun h=>j3 4 h (fun h=>j4 a1i a86 7 h fun G8 h=>j3 9 h (fun h=>fE h) (fun h=>fE h)) (fun h=>fE h)) (fun h=>fE h)) (fun h=>rg<|j3 1 h (fun h=>rg<|j3 1 h (fun h=>j3 6 h (fun h=>j4 a08 a2h 9 h fun C5 h=>j3 11 h (fun h=>fE h) (fun h=>fE h)) (fun h=>fE h)) (fun h=>fE h)) (fun h=>rg<|j3 1 h (fun h=>rg<|j3 3 h (fun h=>j3 8 h (fun h=>j4 a08 a2h 11 h fun a06 h=>j3 13 h (fun h=>fE h) (fun h=>fE h)) (fun h=>fE h)) (fun h=>fE h)) (fun h=>rg<|j3 1 h (fun h=>rg<|j3 1 h (fun h=>j3 6 h (fun h=>j3 9 h (fun h=>fE h) (fun h=>fE h)) (fun h=>fE h)) (fun h=>fE h)) (fun h=>rg<|j3 1 h (fun h=>rg<|j3 3 h (fun h=>j3 8 h (fun h=>j4 a08 a2h 11 h fun c56 h=>j3 13 h (fun h=>j3 19 h (fun h=>fE h) (fun h=>fE h)) (fun h=>fE h)) (fun h=>fE h)) (fun h=>fE h)) (fun h=>rg<|j3 1 h (fun h=>rg<|j3 3 h (fun h=>j3 6 h (fun h=>fE h) (fun h=>fE h)) (fun h=>fE h)) (fun h=>rg<|fE h))))))))))))
def K3:FS (Bool):=⟨20,Tryz.f20,[.val [] []],[none],[.val J5 []],fun r=>.b r,fun _=>[none],Tryz.func20⟩
def c22(w:j8):Unit->KS:=fun _=>⟨K3.k 4 [false,false],(bs 1 (.ptr 1 0 0::(bs 116 []))),[some [],some [.var 32 (M1 w)]]⟩
def c1D(w:j8):Unit->KS:=fun _=>⟨K3.k 6 [false,false,false],(bs 1 (.ptr 1 0 0::(bs 116 []))),[some [],some [.var 32 (M1 w)]]⟩
def b7R(w:j8):Unit->KS:=fun _=>⟨K3.k 8 [false,false,false,false],(bs 1 (.ptr 1 0 0::(bs 116 []))),[some [],some [.var 32 (M1 w)]]⟩
def c05:Unit->KS:=fun _=>⟨K3.k 10 [false,false,false,false,false],(bs 118 []),[some []]⟩
def c58:Option Bool:=
 some true
theorem c8c(r):NF K3 r c05 (fun s=>c58):=fun _ h=>PK<|rg<|fE h
def d0L(w:j8):Int->KS:=fun v83=>⟨K3.k 9 [false,false,false,false],(bs 81 (j5 5 z7 w.Told::(vi (w.Told.length:Int)::(vi v83::(bs 34 []))))),[some []]⟩
def b3u(w:j8)(v83:Int):Option (j7 Bool Int Unit):=
 (bif decide (v83<(w.Told.length:Int)) then ((idx w.Told v83).bind fun told=>((A0 told.Node 0 2).bind fun in_=>(bif (!in_) then some (j7.ret false) else ((a3q told.a7).bind fun a3g=>(bif (!a3g) then some (j7.ret false) else (bif (told.a7.b9 != told.Node) then some (j7.ret false) else ((A0 told.Code 0 4).bind fun G1=>(bif (!G1) then some (j7.ret false) else ((A0 told.c7 (-1000000) 1000000).bind fun R0=>(bif (!R0) then some (j7.ret false) else some (j7.nxt (l9 (v83+1))))))))))))) else some (j7.brk ()))
theorem d8s(w):LQ K3 c05 (d0L w) (fun s=>b3u w s):=fun lc v83 h=>PK<|rg<|j3 0 h (fun h=>rg<|u9 z7 0 h fun told c2r h=>rg<|j4 z8 A8 2 h fun in_ h=>j3 4 h (fun h=>rg<|fL lc h) (fun h=>j4 a6u a9k 7 h fun a3g h=>j3 10 h (fun h=>rg<|fL lc h) (fun h=>j3 18 h (fun h=>rg<|fL lc h) (fun h=>j4 z8 A8 21 h fun G1 h=>j3 24 h (fun h=>rg<|fL lc h) (fun h=>j4 z8 A8 27 h fun R0 h=>j3 29 h (fun h=>rg<|fL lc h) (fun h=>rg<|(lc.nx h fun hI=>sk [] [81,82,83] [] hI))))))) (fun h=>(lc.bk h fun hI=>sk [] [] [] hI))
def b24(w:j8):Option Bool:=
 ((p6 (fun s:Int=>b3u w s) 0).bind fun x=>x.go (fun r=>some r) fun s=>c58)
theorem d6H(w)(r):NF K3 r (b7R w) (fun s=>b24 w):=fun _ h=>PK<|rg<|lp (d8s w) h (fun _ h=>K3.rt h) (c8c r) fun hI=>sk [] [81,82,83] [] hI
def d6r(w:j8):Int->KS:=fun v65=>⟨K3.k 7 [false,false,false],(bs 1 (.ptr 1 0 0::(bs 61 (j5 3 C6 w.g9::(vi (w.g9.length:Int)::(vi v65::(bs 52 []))))))),[some [],some [.var 32 (M1 w)]]⟩
def b2U(w:j8)(v65:Int):Option (j7 Bool Int Unit):=
 (bif decide (v65<(w.g9.length:Int)) then ((idx w.g9 v65).bind fun asked=>((a3q asked.a7).bind fun a7F=>(bif (!a7F) then some (j7.ret false) else ((a4r asked.i6).bind fun z9=>(bif (!z9) then some (j7.ret false) else some (j7.nxt (l9 (v65+1)))))))) else some (j7.brk ()))
theorem d7Q(w):LQ K3 (b7R w) (d6r w) (fun s=>b2U w s):=fun lc v65 h=>PK<|rg<|j3 0 h (fun h=>rg<|u9 C6 0 h fun asked b8R h=>rg<|j4 a6u a9k 2 h fun a7F h=>j3 4 h (fun h=>rg<|fL lc h) (fun h=>j4 a1K b13 7 h fun z9 h=>j3 9 h (fun h=>rg<|fL lc h) (fun h=>rg<|(lc.nx h fun hI=>sk [] [1,63,64,65] [(1,0)] hI)))) (fun h=>(lc.bk h fun hI=>sk [] [1] [(1,0)] hI))
def b3y(w:j8):Option Bool:=
 ((p6 (fun s:Int=>b2U w s) 0).bind fun x=>x.go (fun r=>some r) fun s=>b24 w)
theorem d3c(w)(r):NF K3 r (c1D w) (fun s=>b3y w):=fun _ h=>PK<|rg<|lp (d7Q w) h (fun _ h=>K3.rt h) (d6H w r) fun hI=>sk [] [1,63,64,65] [(1,0)] hI
def d7a(w:j8):Int->KS:=fun v54=>⟨K3.k 5 [false,false],(bs 1 (.ptr 1 0 0::(bs 50 (j5 13 t9 w.g8::(vi (w.g8.length:Int)::(vi v54::(bs 63 []))))))),[some [],some [.var 32 (M1 w)]]⟩
def a94(w:j8)(v54:Int):Option (j7 Bool Int Unit):=
 (bif decide (v54<(w.g8.length:Int)) then ((idx w.g8 v54).bind fun msg=>((a7p msg).bind fun J7=>(bif (!J7) then some (j7.ret false) else some (j7.nxt (l9 (v54+1)))))) else some (j7.brk ()))
theorem d5K(w):LQ K3 (c1D w) (d7a w) (fun s=>a94 w s):=fun lc v54 h=>PK<|rg<|j3 0 h (fun h=>rg<|u9 t9 0 h fun msg hmsg h=>rg<|j4 b4U c1P 1 h fun J7 h=>j3 2 h (fun h=>rg<|fL lc h) (fun h=>rg<|(lc.nx h fun hI=>sk [] [1,52,53,54] [(1,0)] hI))) (fun h=>(lc.bk h fun hI=>sk [] [1] [(1,0)] hI))
def b0e(w:j8):Option Bool:=
 ((p6 (fun s:Int=>a94 w s) 0).bind fun x=>x.go (fun r=>some r) fun s=>b3y w)
theorem d1e(w)(r):NF K3 r (c22 w) (fun s=>b0e w):=fun _ h=>PK<|rg<|lp (d5K w) h (fun _ h=>K3.rt h) (d3c w r) fun hI=>sk [] [1,52,53,54] [(1,0)] hI
def d8L(w:j8):Int->KS:=fun v36=>⟨K3.k 3 [false],(bs 1 (.ptr 1 0 0::(bs 32 (j5 27 w5 w.c6::(vi (w.c6.length:Int)::(vi v36::(bs 81 []))))))),[some [],some [.var 32 (M1 w)]]⟩
def b1S(w:j8)(v36:Int):Option (j7 Bool Int Unit):=
 (bif decide (v36<(w.c6.length:Int)) then ((idx w.c6 v36).bind fun node=>(bif (node.Id != v36) then some (j7.ret false) else ((a1H node).bind fun D6=>(bif (!D6) then some (j7.ret false) else some (j7.nxt (l9 (v36+1))))))) else some (j7.brk ()))
theorem d08(w):LQ K3 (c22 w) (d8L w) (fun s=>b1S w s):=fun lc v36 h=>PK<|rg<|j3 0 h (fun h=>rg<|u9 w5 1 h fun node hnode h=>rg<|j3 4 h (fun h=>rg<|fL lc h) (fun h=>j4 U6 a4u 6 h fun D6 h=>j3 8 h (fun h=>rg<|fL lc h) (fun h=>rg<|(lc.nx h fun hI=>sk [] [1,34,35,36] [(1,0)] hI)))) (fun h=>(lc.bk h fun hI=>sk [] [1] [(1,0)] hI))
def a5T(w:j8):Option Bool:=
 (bif ((w.c6.length:Int) != 3) then some false else (bif decide ((w.g8.length:Int)>40) then some false else (bif decide ((w.g9.length:Int)>60) then some false else (bif decide ((w.Told.length:Int)>60) then some false else ((p6 (fun s:Int=>b1S w s) 0).bind fun x=>x.go (fun r=>some r) fun s=>b0e w)))))
theorem b32{w}:OK K3 [.agg (S7 w)] (a5T w):=
 o9 _ fun r h=>n8<|j3 4 h (fun h=>rg<|fE h) (fun h=>j3 10 h (fun h=>rg<|fE h) (fun h=>j3 16 h (fun h=>rg<|fE h) (fun h=>j3 21 h (fun h=>rg<|fE h) (fun h=>rg<|lp (d08 w) h (fun _ h=>K3.rt h) (d1e w r) fun hI=>sk [] [1,34,35,36] [(1,0)] hI))))
def a9K:FS (m6):=⟨110,Tryz.f110,[.ptr D8 om3],[none],[.val I0 []],fun r=>.optr 152 (b2P r),fun _=>[none],Tryz.func110⟩
def a4x(n:j6):Option m6:=
 ((a5m n).bind fun Q8=>some (m6.mk Q8 [] []))
theorem b2I{n}:OK a9K [.agg (w5 n)] (a4x n):=
 o9 _ fun r h=>n8<|j4 a8Y b1Q 1 h fun Q8 h=>I8 Q8<|fE h
def a1A:FS (j6×(List l8)×(List r9)×m6):=⟨111,Tryz.f111,[.val I0 [],.val [some 13] [],.val [some 5] []],[some (0,.ptr D8 [])],[.ptr D8 []],fun r=>.tup [.agg (w5 r.1),j5 13 t9 r.2.1,j5 5 z7 r.2.2.1],fun r=>[some (.optr 152 (c2p r.2.2.2))],Tryz.func111⟩
def a0j(a:m6):Option (j6×(List l8)×(List r9)×m6):=
 ((a5m a.n).bind fun Q8=>((a7U a.out).bind fun msgsCopy=>((b0t a.told).bind fun told=>some (Q8,msgsCopy,told,a))))
theorem a2o{a}:OK a1A [.optr 152 (c2p a)] (a0j a):=
 o9 _ fun r h=>n8<|j4 a8Y b1Q 4 h fun Q8 h=>j4 a28 c2Z 9 h fun msgsCopy h=>j4 b5d c0H 14 h fun told h=>I8 Q8<|B6 msgsCopy told<|fE h
def b7c:FS (List m7):=⟨12,Tryz.f12,[.val [some 2] [some 82]],[],[],fun r=>z6 82 2 t8 r,fun _=>[],Tryz.func12⟩
def a9p:Option (List m7):=
 (r7 (0<=(4:Int)/\(4:Int)*16<=140737488355328) (some (d81 (4:Int).toNat (m7.mk 0 0))))
theorem c4A:OK b7c [] a9p:=
 o9 _ fun r h=>n8<|t0 h fun e1 h=>S4 0 2 82 2 16 t8 (m7.mk 0 0) a7V (.none) e1 (by decide) (by rfl)<|x9 (d81 (4:Int).toNat (m7.mk 0 0))<|fE h
def c4r:FS (u0):=⟨98,Tryz.f98,[.val [none,some 2,some 4] [none,some 82,some 166]],[],[],fun r=>.agg (a7T r),fun _=>[],Tryz.func98⟩
def b0l:Option u0:=
 ((a9p).bind fun a1L=>some (u0.mk 0 a1L []))
theorem c8H:OK c4r [] b0l:=
 o9 _ fun r h=>n8<|j4 b7c c4A 0 h fun a1L h=>x9 a1L<|fE h
def a1d:FS (Bool):=⟨28,Tryz.f28,[.val [] []],[none],[.val [some 2] []],fun r=>.b r,fun _=>[none],Tryz.func28⟩
def c5L(list:List m7):Unit->KS:=fun _=>⟨a1d.k 3 [false],(j5 2 t8 list::(bs 24 [])),[some []]⟩
def b4m(list:List m7):Option Bool:=
 some ((list.length:Int)==4)
theorem c8W(list)(r):NF a1d r (c5L list) (fun s=>b4m list):=fun _ h=>PK<|rg<|fE h
def d3I(list:List m7):Int->KS:=fun v7=>⟨a1d.k 2 [],(j5 2 t8 list::(bs 4 (j5 2 t8 list::(vi (list.length:Int)::(vi v7::(bs 17 [])))))),[some []]⟩
def b1g(list:List m7)(v7:Int):Option (j7 Bool Int Unit):=
 (bif decide (v7<(list.length:Int)) then ((idx list v7).bind fun box=>((A0 box.i8 0 1000000).bind fun in_=>(bif (!in_) then some (j7.ret false) else ((A0 box.c7 (-1000000) 1000000).bind fun G1=>(bif (!G1) then some (j7.ret false) else some (j7.nxt (l9 (v7+1)))))))) else some (j7.brk ()))
theorem c7i(list):LQ a1d (c5L list) (d3I list) (fun s=>b1g list s):=fun lc v7 h=>PK<|rg<|j3 0 h (fun h=>rg<|u9 t8 0 h fun box a5Y h=>rg<|j4 z8 A8 2 h fun in_ h=>j3 4 h (fun h=>rg<|fL lc h) (fun h=>j4 z8 A8 7 h fun G1 h=>j3 9 h (fun h=>rg<|fL lc h) (fun h=>rg<|(lc.nx h fun hI=>sk [] [0,5,6,7] [] hI)))) (fun h=>(lc.bk h fun hI=>sk [] [0] [] hI))
def a3I(list:List m7):Option Bool:=
 ((p6 (fun s:Int=>b1g list s) 0).bind fun x=>x.go (fun r=>some r) fun s=>b4m list)
theorem a9a{list}:OK a1d [j5 2 t8 list] (a3I list):=
 o9 _ fun r h=>n8<|lp (c7i list) h (fun _ h=>a1d.rt h) (c8W list r) fun hI=>sk [] [0,5,6,7] [] hI
def a2s:FS (Bool):=⟨128,Tryz.f128,[.val [] []],[none],[.val [none,some 2,some 4] []],fun r=>.b r,fun _=>[none],Tryz.func128⟩
def b6A(s_:u0):Unit->KS:=fun _=>⟨a2s.k 3 [false],(bs 1 (.ptr 1 0 0::(bs 64 []))),[some [],some [.var 52 [vi s_.At,j5 2 t8 s_.i0,j5 4 C1 s_.i5]]]⟩
def b6X(s_:u0):Option Bool:=
 ((A0 s_.At 0 40).bind fun in_=>(bif in_ then ((a3I s_.i0).bind fun Y4=>some Y4) else some false))
theorem d4L(s_)(r):NF a2s r (b6A s_) (fun s=>b6X s_):=fun _ h=>PK<|rg<|j4 z8 A8 2 h fun in_ h=>j3 3 h (fun h=>j4 a1d a9a 6 h fun Y4 h=>fE h) (fun h=>fE h)
def b70(s_:u0):Int->KS:=fun v8=>⟨a2s.k 2 [],(bs 1 (.ptr 1 0 0::(bs 4 (j5 4 C1 s_.i5::(vi (s_.i5.length:Int)::(vi v8::(bs 57 []))))))),[some [],some [.var 52 [vi s_.At,j5 2 t8 s_.i0,j5 4 C1 s_.i5]]]⟩
def d4W(s_:u0)(v8:Int):Unit->KS:=fun _=>⟨a2s.k 5 [true,false],(bs 1 (.ptr 1 0 0::(bs 4 (j5 4 C1 s_.i5::(vi (s_.i5.length:Int)::(vi v8::(bs 57 []))))))),[some [],some [.var 52 [vi s_.At,j5 2 t8 s_.i0,j5 4 C1 s_.i5]]]⟩
def b56(v8:Int):Option (j7 Bool Int Unit):=
 some (j7.nxt (l9 (v8+1)))
theorem d0H(s_ v8)(lc:R7 a2s (b6A s_) (b70 s_)):NL lc (d4W s_ v8) (fun s=>b56 v8):=fun _ h=>PK<|rg<|(lc.nx h fun hI=>sk [] [1,6,7,8] [(1,0)] hI)
def a9i(s_:u0)(v8:Int):Option (j7 Bool Int Unit):=
 (bif decide (v8<(s_.i5.length:Int)) then ((idx s_.i5 v8).bind fun done=>(((bif decide (v8>0) then ((idx s_.i5 (l9 (v8-1))).bind fun a7n=>(bif decide (a7n.a7.b9>=done.a7.b9) then some (j9.ret (j7.ret false)) else ((a3q done.a7).bind fun a3g=>(bif (!a3g) then some (j9.ret (j7.ret false)) else ((A0 done.Code 0 2).bind fun G1=>(bif (!G1) then some (j9.ret (j7.ret false)) else ((A0 done.c7 (-1000000) 1000000).bind fun R0=>(bif (!R0) then some (j9.ret (j7.ret false)) else (bif (done.Code != 0) then (bif (done.c7 != 0) then some (j9.ret (j7.ret false)) else some (j9.brk ())) else some (j9.brk ())))))))))) else ((a3q done.a7).bind fun a7F=>(bif (!a7F) then some (j9.ret (j7.ret false)) else ((A0 done.Code 0 2).bind fun T1=>(bif (!T1) then some (j9.ret (j7.ret false)) else ((A0 done.c7 (-1000000) 1000000).bind fun a2D=>(bif (!a2D) then some (j9.ret (j7.ret false)) else (bif (done.Code != 0) then (bif (done.c7 != 0) then some (j9.ret (j7.ret false)) else some (j9.brk ())) else some (j9.brk ()))))))))):Option (j9 (j7 Bool Int Unit) Unit)).bind fun x=>x.go some fun j=>b56 v8)) else some (j7.brk ()))
theorem d6f(s_):LQ a2s (b6A s_) (b70 s_) (fun s=>a9i s_ s):=fun lc v8 h=>PK<|rg<|j3 0 h (fun h=>rg<|u9 C1 1 h fun done d8T h=>B5 h (d0H s_ v8 lc) fun x2 h hc2=>rg<|j3 2 h (fun h=>u9 C1 7 h fun a7n d8U h=>j3 16 h (fun h=>rg<|(B0 h hc2 fun h=>fL lc h)) (fun h=>j4 a6u a9k 19 h fun a3g h=>j3 22 h (fun h=>rg<|(B0 h hc2 fun h=>fL lc h)) (fun h=>j4 z8 A8 25 h fun G1 h=>j3 28 h (fun h=>rg<|(B0 h hc2 fun h=>fL lc h)) (fun h=>j4 z8 A8 31 h fun R0 h=>j3 34 h (fun h=>rg<|(B0 h hc2 fun h=>fL lc h)) (fun h=>j3 38 h (fun h=>j3 43 h (fun h=>rg<|(B0 h hc2 fun h=>fL lc h)) (fun h=>(p8 h hc2 fun hI=>sk [] [1,6,7,8] [(1,0)] hI))) (fun h=>(p8 h hc2 fun hI=>sk [] [1,6,7,8] [(1,0)] hI))))))) (fun h=>j4 a6u a9k 19 h fun a7F h=>j3 22 h (fun h=>rg<|(B0 h hc2 fun h=>fL lc h)) (fun h=>j4 z8 A8 25 h fun T1 h=>j3 28 h (fun h=>rg<|(B0 h hc2 fun h=>fL lc h)) (fun h=>j4 z8 A8 31 h fun a2D h=>j3 34 h (fun h=>rg<|(B0 h hc2 fun h=>fL lc h)) (fun h=>j3 38 h (fun h=>j3 43 h (fun h=>rg<|(B0 h hc2 fun h=>fL lc h)) (fun h=>(p8 h hc2 fun hI=>sk [] [1,6,7,8] [(1,0)] hI))) (fun h=>(p8 h hc2 fun hI=>sk [] [1,6,7,8] [(1,0)] hI))))))) (fun h=>(lc.bk h fun hI=>sk [] [1] [(1,0)] hI))
def b0X(s_:u0):Option Bool:=
 ((p6 (fun s:Int=>a9i s_ s) 0).bind fun x=>x.go (fun r=>some r) fun s=>b6X s_)
theorem d4R{s_}:OK a2s [.agg (a8v s_)] (b0X s_):=
 o9 _ fun r h=>n8<|lp (d6f s_) h (fun _ h=>a2s.rt h) (d4L s_ r) fun hI=>sk [] [1,6,7,8] [(1,0)] hI
def b1r:FS (List m7):=⟨29,Tryz.f29,[.val [some 2] [some 82]],[none],[.val [some 2] []],fun r=>z6 82 2 t8 r,fun _=>[none],Tryz.func29⟩
def a4v(list:List m7):Option (List m7):=
 (bif ((list.length:Int)==0) then some [] else (r7 (0<=(list.length:Int)/\(list.length:Int)*16<=140737488355328) ((r7 (list.length=(d81 (list.length:Int).toNat (m7.mk 0 0)).length) (some list)))))
theorem b6a{list}:OK b1r [j5 2 t8 list] (a4v list):=
 o9 _ fun r h=>n8<|j3 2 h (fun h=>rg<|fE h) (fun h=>rg<|t0 h fun e1 h=>S4 2 7 82 2 16 t8 (m7.mk 0 0) a7V (.none) e1 (by decide) (by rfl)<|rg<|t0 h fun e2 h=>om (n9.row 82 2 (d81 (list.length:Int).toNat (m7.mk 0 0)).length (list.map t8)=m4 82 2 t8 list) (Y7 e2)<|x9 (d81 (list.length:Int).toNat (m7.mk 0 0))<|ob e2<|tl (2,{e:=some (m4 82 2 t8 list)})<|rg<|om ((d81 (list.length:Int).toNat (m7.mk 0 0)).length=list.length) (by simp)<|fE h)
def a72:FS (List s7):=⟨129,Tryz.f129,[.val [some 4] [some 166]],[none],[.val [some 4] []],fun r=>z6 166 4 C1 r,fun _=>[none],Tryz.func129⟩
def a3u(list:List s7):Option (List s7):=
 (bif ((list.length:Int)==0) then some [] else (r7 (0<=(list.length:Int)/\(list.length:Int)*32<=140737488355328) ((r7 (list.length=(d81 (list.length:Int).toNat (s7.mk (p9.mk 0 0) 0 0)).length) (some list)))))
theorem b4S{list}:OK a72 [j5 4 C1 list] (a3u list):=
 o9 _ fun r h=>n8<|j3 2 h (fun h=>rg<|fE h) (fun h=>rg<|t0 h fun e1 h=>S4 2 7 166 4 32 C1 (s7.mk (p9.mk 0 0) 0 0) b5j (.none) e1 (by decide) (by rfl)<|rg<|t0 h fun e2 h=>om (n9.row 166 4 (d81 (list.length:Int).toNat (s7.mk (p9.mk 0 0) 0 0)).length (list.map C1)=m4 166 4 C1 list) (Y7 e2)<|x9 (d81 (list.length:Int).toNat (s7.mk (p9.mk 0 0) 0 0))<|ob e2<|tl (2,{e:=some (m4 166 4 C1 list)})<|rg<|om ((d81 (list.length:Int).toNat (s7.mk (p9.mk 0 0) 0 0)).length=list.length) (by simp)<|fE h)
def a4G:FS (Bool):=⟨130,Tryz.f130,[.val [] []],[none,none],[.val [some 2] [],.val a0b []],fun r=>.b r,fun _=>[none,none],Tryz.func130⟩
def b9h:Unit->KS:=fun _=>⟨a4G.k 4 [false,false],(bs 32 []),[some []]⟩
def b8L:Option Bool:=
 some true
theorem c6x(r):NF a4G r b9h (fun s=>b8L):=fun _ h=>PK<|rg<|fE h
def d3v(list:List m7)(r_:m8):Int->KS:=fun v18=>⟨a4G.k 3 [false],(j5 2 t8 list::(bs 15 (j5 2 t6 r_.b5::(vi (r_.b5.length:Int)::(vi v18::(bs 13 [])))))),[some []]⟩
def b3v(list:List m7)(r_:m8)(v18:Int):Option (j7 Bool Int Unit):=
 (bif decide (v18<(r_.b5.length:Int)) then ((idx r_.b5 v18).bind fun read=>((idx list read.g7).bind fun box=>(bif (box.i8 != read.i8) then some (j7.ret false) else some (j7.nxt (l9 (v18+1)))))) else some (j7.brk ()))
theorem c7I(list r_):LQ a4G b9h (d3v list r_) (fun s=>b3v list r_ s):=fun lc v18 h=>PK<|rg<|j3 0 h (fun h=>rg<|u9 t6 0 h fun read a3D h=>rg<|u9 t8 3 h fun box a5Y h=>j3 8 h (fun h=>rg<|fL lc h) (fun h=>rg<|(lc.nx h fun hI=>sk [] [0,16,17,18] [] hI))) (fun h=>(lc.bk h fun hI=>sk [] [] [] hI))
def a93(list:List m7)(r_:m8):Option Bool:=
 ((a3I list).bind fun Y4=>(bif (!Y4) then some false else ((a6k r_).bind fun a1w=>(bif (!a1w) then some false else ((p6 (fun s:Int=>b3v list r_ s) 0).bind fun x=>x.go (fun r=>some r) fun s=>b8L)))))
theorem d1T{list r_}:OK a4G [j5 2 t8 list,.agg (Y8 r_)] (a93 list r_):=
 o9 _ fun r h=>n8<|j4 a1d a9a 1 h fun Y4 h=>j3 3 h (fun h=>rg<|fE h) (fun h=>j4 T4 b6F 5 h fun a1w h=>j3 7 h (fun h=>rg<|fE h) (fun h=>rg<|lp (c7I list r_) h (fun _ h=>a4G.rt h) (c6x r) fun hI=>sk [] [0,16,17,18] [] hI))
def a3z:FS (List m7):=⟨59,Tryz.f59,[.val [some 2] [some 82]],[none,none],[.val [some 2] [],.val a0b []],fun r=>z6 82 2 t8 r,fun _=>[none,none],Tryz.func59⟩
def c4i:(List m7)->KS:=fun out1=>⟨a3z.k 5 [false,false],(bs 5 (.own 1 0 2 0 out1.length::(bs 36 []))),[some [],some [m4 82 2 t8 out1]]⟩
def c3Z(out1:List m7):Option (List m7):=
 some out1
theorem c6Y(r):NF a3z r c4i (fun s=>c3Z s):=fun out1 h=>PK<|rg<|x9 out1<|fE h
def d1m(r_:m8):((List m7)×Int)->KS:=fun (out,v21)=>⟨a3z.k 4 [false],(bs 5 (.own 1 0 2 0 out.length::(bs 13 (j5 2 t7 r_.b6::(vi (r_.b6.length:Int)::(vi v21::(bs 20 []))))))),[some [],some [m4 82 2 t8 out]]⟩
def b2b(r_:m8)(out:List m7)(v21:Int):Option (j7 (List m7) ((List m7)×Int) (List m7)):=
 (bif decide (v21<(r_.b6.length:Int)) then ((idx r_.b6 v21).bind fun put=>((idx out put.g7).bind fun L1=>some (j7.nxt (out.set put.g7.toNat (m7.mk (if (l9 (L1.i8+1))<1000000 then (l9 (L1.i8+1)) else 1000000) put.c7),l9 (v21+1))))) else some (j7.brk out))
theorem d4C(r_):LQ a3z c4i (d1m r_) (fun s=>b2b r_ s.1 s.2):=fun lc (out,v21) h=>PK<|rg<|j3 0 h (fun h=>rg<|u9 t7 0 h fun put hput h=>rg<|A7 h fun L1 a2z h=>E3 a2z<|V6 t8 8 a2z<|E3 a2z<|R1 82 2 t8 15 [] (m7.mk (if (l9 (L1.i8+1))<1000000 then (l9 (L1.i8+1)) else 1000000) put.c7) a2z<|rg<|(lc.nx h fun hI=>om ((.own 1 0 2 0 out.length:V)=.own 1 0 2 0 (out.set put.g7.toNat (m7.mk (if (l9 (L1.i8+1))<1000000 then (l9 (L1.i8+1)) else 1000000) put.c7)).length) (by simp)<|sk [.is (.tmp 5) (.own 1 0 2 0 (out.set put.g7.toNat (m7.mk (if (l9 (L1.i8+1))<1000000 then (l9 (L1.i8+1)) else 1000000) put.c7)).length)] [5,19,20,21] [(1,0)] hI)) (fun h=>(lc.bk h fun hI=>sk [] [5] [(1,0)] hI))
def a8A(list:List m7)(r_:m8):Option (List m7):=
 ((a3I list).bind fun Y4=>(bif (!Y4) then some [] else ((a6k r_).bind fun a1w=>(bif (!a1w) then some [] else ((a4v list).bind fun box=>((p6 (fun s:(List m7)×Int=>b2b r_ s.1 s.2) (box,0)).bind fun x=>x.go (fun r=>some r) fun s=>c3Z s))))))
theorem c1T{list r_}:OK a3z [j5 2 t8 list,.agg (Y8 r_)] (a8A list r_):=
 o9 _ fun r h=>n8<|j4 a1d a9a 1 h fun Y4 h=>j3 3 h (fun h=>rg<|fE h) (fun h=>j4 T4 b6F 5 h fun a1w h=>j3 7 h (fun h=>rg<|fE h) (fun h=>rg<|j4 b1r b6a 1 h fun box h=>rg<|lp (d4C r_) h (fun _ h=>a3z.rt h) (c6Y r) fun hI=>sk [] [5,19,20,21] [(12,0)] hI))
def K9:FS (u0×Int):=⟨99,Tryz.f99,[.val [none,some 2,some 4] [none,some 82,some 166],.val [] []],[none,none],[.val [none,some 2,some 4] [],.val T3 []],fun r=>.tup [.agg (a7T r.1),vi r.2],fun _=>[none,none],Tryz.func99⟩
def b5T(s_:u0)(e_:l7)(box:List m7):Unit->KS:=fun _=>⟨K9.k 6 [false,false,false],(bs 2 (.ptr 1 0 0::(.ptr 2 0 0::(.ptr 3 0 0::(bs 1 (.ptr 4 0 0::(bs 145 []))))))),[some [],some [.var 52 [vi s_.At,j5 2 t8 s_.i0,j5 4 C1 s_.i5]],some [.var 64 (a8w e_)],some [.var 52 [vi 0,.nil,.nil]],some [.var 52 [vi (l9 (s_.At+1)),.own 5 0 2 0 box.length,.nil]],some [m4 82 2 t8 box]]⟩
def c9s(s_:u0):(s7×List m7)->KS:=fun (own,i0)=>⟨K9.k 9 [false,false,false,true],(bs 2 (.ptr 1 0 0::(bs 1 (.ptr 2 0 0::(bs 1 (.ptr 3 0 0::(bs 2 (.ptr 5 0 0::(bs 142 []))))))))),[some [],some [.var 52 [vi s_.At,j5 2 t8 s_.i0,j5 4 C1 s_.i5]],some [.var 52 [vi 0,.nil,.nil]],some [.var 52 [vi (l9 (s_.At+1)),.own 4 0 2 0 i0.length,.nil]],some [m4 82 2 t8 i0],some [.var 166 [vi own.a7.b9,vi own.a7.Seq,vi own.Code,vi own.c7]]]⟩
def b2g(s_:u0)(own:s7)(i0:List m7):((List s7)×Bool)->KS:=fun (dones1,put1)=>⟨K9.k 13 [false,false,false,true,false],(bs 4 (.ptr 1 0 0::(bs 1 (.ptr 2 0 0::(bs 2 (.ptr 4 0 0::(.own 5 0 4 0 dones1.length::(.b put1::(bs 140 []))))))))),[some [],some [.var 52 [vi 0,.nil,.nil]],some [.var 52 [vi (l9 (s_.At+1)),.own 3 0 2 0 i0.length,.nil]],some [m4 82 2 t8 i0],some [.var 166 [vi own.a7.b9,vi own.a7.Seq,vi own.Code,vi own.c7]],some [m4 166 4 C1 dones1]]⟩
def d7K(s_:u0)(own:s7)(i0:List m7):(List s7)->KS:=fun a50=>⟨K9.k 15 [false,false,false,true,false,true],(bs 4 (.ptr 1 0 0::(bs 1 (.ptr 2 0 0::(bs 2 (.ptr 4 0 0::(.own 5 0 4 0 a50.length::(bs 141 [])))))))),[some [],some [.var 52 [vi 0,.nil,.nil]],some [.var 52 [vi (l9 (s_.At+1)),.own 3 0 2 0 i0.length,.nil]],some [m4 82 2 t8 i0],some [.var 166 [vi own.a7.b9,vi own.a7.Seq,vi own.Code,vi own.c7]],some [m4 166 4 C1 a50]]⟩
def b5w(s_:u0)(own:s7)(i0:List m7)(a50:List s7):Option (u0×Int):=
 ((a3u a50).bind fun a7n=>some ((u0.mk (l9 (s_.At+1)) i0 a7n),own.Code))
theorem d3j(s_ own i0)(r):NF K9 r (d7K s_ own i0) (fun s=>b5w s_ own i0 s):=fun a50 h=>PK<|rg<|cbS a72 b4S 1 (fun _=>(by simp [a72,N7,V3,Q0,V.simple,vi,z6,C1,eI,a3k])) (fun _=>(a0P 1)) h fun a7n h=>x9 a50<|rg<|B6 i0 a7n<|fE h
def b4M(s_:u0)(own:s7)(i0:List m7)(dones1:List s7)(put1:Bool):Option (u0×Int):=
 (((bif (!put1) then (r7 ((dones1.length+1)*32<=140737488355328) (some (j9.brk (dones1++[own])))) else some (j9.brk dones1)):Option (j9 (u0×Int) (List s7))).bind fun x=>x.go some fun j=>b5w s_ own i0 j)
theorem d8t(s_ own i0)(r):NF K9 r (b2g s_ own i0) (fun s=>b4M s_ own i0 s.1 s.2):=fun (dones1,put1) h=>PK<|B5 h (d3j s_ own i0 r) fun x1 h hc1=>rg<|j3 1 h (fun h=>rg<|tk 2 []<|t0 h fun e1 h=>J8 3 11 166 4 32 C1 dones1 own e1<|J0 own<|(p8 h hc1 fun hI=>sk [] [4,6,9,10] [(1,0),(2,0),(3,0),(4,0),(11,0)] hI)) (fun h=>(p8 h hc1 fun hI=>sk [] [4,6,9,10] [(1,0),(2,0),(3,0),(4,0),(5,0)] hI))
def b5f(s_:u0)(own:s7)(i0:List m7):((List s7)×Int×Bool)->KS:=fun (dones,v109,put)=>⟨K9.k 12 [false,false,false,true],(bs 4 (.ptr 1 0 0::(bs 1 (.ptr 2 0 0::(bs 2 (.ptr 4 0 0::(.own 5 0 4 0 dones.length::(.b put::(bs 95 (j5 4 C1 s_.i5::(vi (s_.i5.length:Int)::(vi v109::(bs 42 []))))))))))))),[some [],some [.var 52 [vi 0,.nil,.nil]],some [.var 52 [vi (l9 (s_.At+1)),.own 3 0 2 0 i0.length,.nil]],some [m4 82 2 t8 i0],some [.var 166 [vi own.a7.b9,vi own.a7.Seq,vi own.Code,vi own.c7]],some [m4 166 4 C1 dones]]⟩
def c9H(s_:u0)(own:s7)(i0:List m7)(v109:Int)(done2:s7):((List s7)×Bool)->KS:=fun (dones3,put2)=>⟨K9.k 17 [false,false,false,true,true,true],(bs 4 (.ptr 1 0 0::(bs 1 (.ptr 2 0 0::(bs 2 (.ptr 4 0 0::(.own 5 0 4 0 dones3.length::(.b put2::(bs 1 (.ptr 6 0 0::(bs 93 (j5 4 C1 s_.i5::(vi (s_.i5.length:Int)::(vi v109::(bs 42 []))))))))))))))),[some [],some [.var 52 [vi 0,.nil,.nil]],some [.var 52 [vi (l9 (s_.At+1)),.own 3 0 2 0 i0.length,.nil]],some [m4 82 2 t8 i0],some [.var 166 [vi own.a7.b9,vi own.a7.Seq,vi own.Code,vi own.c7]],some [m4 166 4 C1 dones3],some [.var 166 [vi done2.a7.b9,vi done2.a7.Seq,vi done2.Code,vi done2.c7]]]⟩
def c6t(s_:u0)(own:s7)(i0:List m7)(v109:Int)(put2:Bool):(List s7)->KS:=fun a9q=>⟨K9.k 19 [false,false,false,true,true,true,true],(bs 4 (.ptr 1 0 0::(bs 1 (.ptr 2 0 0::(bs 2 (.ptr 4 0 0::(.own 5 0 4 0 a9q.length::(.b put2::(bs 95 (j5 4 C1 s_.i5::(vi (s_.i5.length:Int)::(vi v109::(bs 42 []))))))))))))),[some [],some [.var 52 [vi 0,.nil,.nil]],some [.var 52 [vi (l9 (s_.At+1)),.own 3 0 2 0 i0.length,.nil]],some [m4 82 2 t8 i0],some [.var 166 [vi own.a7.b9,vi own.a7.Seq,vi own.Code,vi own.c7]],some [m4 166 4 C1 a9q]]⟩
def b4x(v109:Int)(put2:Bool)(a9q:List s7):Option (j7 (u0×Int) ((List s7)×Int×Bool) ((List s7)×Bool)):=
 some (j7.nxt (a9q,l9 (v109+1),put2))
theorem d8h(s_ own i0 v109 put2)(lc:R7 K9 (b2g s_ own i0) (b5f s_ own i0)):NL lc (c6t s_ own i0 v109 put2) (fun s=>b4x v109 put2 s):=fun a9q h=>PK<|rg<|(lc.nx h fun hI=>sk [] [4,6,9,10,11,107,108,109] [(1,0),(2,0),(3,0),(4,0),(5,0)] hI)
def b7r(own:s7)(v109:Int)(done2:s7)(dones3:List s7)(put2:Bool):Option (j7 (u0×Int) ((List s7)×Int×Bool) ((List s7)×Bool)):=
 (((bif (done2.a7.b9 != own.a7.b9) then (r7 ((dones3.length+1)*32<=140737488355328) (some (j9.brk (dones3++[done2])))) else some (j9.brk dones3)):Option (j9 (j7 (u0×Int) ((List s7)×Int×Bool) ((List s7)×Bool)) (List s7))).bind fun x=>x.go some fun j=>b4x v109 put2 j)
theorem d3J(s_ own i0 v109 done2)(lc:R7 K9 (b2g s_ own i0) (b5f s_ own i0)):NL lc (c9H s_ own i0 v109 done2) (fun s=>b7r own v109 done2 s.1 s.2):=fun (dones3,put2) h=>PK<|B5 h (d8h s_ own i0 v109 put2 lc) fun x2 h hc2=>rg<|j3 6 h (fun h=>rg<|tk 2 []<|t0 h fun e2 h=>J8 3 17 166 4 32 C1 dones3 done2 e2<|J0 done2<|(p8 h hc2 fun hI=>sk [] [4,6,9,10,11,107,108,109] [(1,0),(2,0),(3,0),(4,0),(17,0)] hI)) (fun h=>(p8 h hc2 fun hI=>sk [] [4,6,9,10,11,107,108,109] [(1,0),(2,0),(3,0),(4,0),(5,0)] hI))
def a8I(s_:u0)(own:s7)(dones:List s7)(v109:Int)(put:Bool):Option (j7 (u0×Int) ((List s7)×Int×Bool) ((List s7)×Bool)):=
 (bif decide (v109<(s_.i5.length:Int)) then ((idx s_.i5 v109).bind fun done2=>(((bif (!put) then (bif decide (done2.a7.b9>=own.a7.b9) then (r7 ((dones.length+1)*32<=140737488355328) (some (j9.brk (dones++[own],true)))) else some (j9.brk (dones,put))) else some (j9.brk (dones,put))):Option (j9 (j7 (u0×Int) ((List s7)×Int×Bool) ((List s7)×Bool)) ((List s7)×Bool))).bind fun x=>x.go some fun j=>b7r own v109 done2 j.1 j.2)) else some (j7.brk (dones,put)))
theorem d2X(s_ own i0):LQ K9 (b2g s_ own i0) (b5f s_ own i0) (fun s=>a8I s_ own s.1 s.2.1 s.2.2):=fun lc (dones,v109,put) h=>PK<|rg<|j3 0 h (fun h=>rg<|u9 C1 0 h fun done2 d8X h=>B5 h (d3J s_ own i0 v109 done2 lc) fun x2 h hc2=>rg<|j3 2 h (fun h=>j3 10 h (fun h=>rg<|tk 2 []<|t0 h fun e3 h=>J8 3 25 166 4 32 C1 dones own e3<|J0 own<|rg<|(p8 h hc2 fun hI=>sk [] [4,6,9,10,11,13,107,108,109] [(1,0),(2,0),(3,0),(4,0),(25,0),(9,0)] hI)) (fun h=>(p8 h hc2 fun hI=>sk [] [4,6,9,10,11,13,107,108,109] [(1,0),(2,0),(3,0),(4,0),(5,0),(9,0)] hI))) (fun h=>(p8 h hc2 fun hI=>sk [] [4,6,9,10,11,13,107,108,109] [(1,0),(2,0),(3,0),(4,0),(5,0),(9,0)] hI))) (fun h=>(lc.bk h fun hI=>sk [] [4,6,9,10,11] [(1,0),(2,0),(3,0),(4,0),(5,0)] hI))
def b0k(s_:u0)(own:s7)(i0:List m7):Option (u0×Int):=
 ((p6 (fun s:(List s7)×Int×Bool=>a8I s_ own s.1 s.2.1 s.2.2) ([],0,false)).bind fun x=>x.go (fun r=>some r) fun s=>b4M s_ own i0 s.1 s.2)
theorem d1s(s_)(r):NF K9 r (c9s s_) (fun s=>b0k s_ s.1 s.2):=fun (own,i0) h=>PK<|X1<|lp (d2X s_ own i0) h (fun _ h=>K9.rt h) (d8t s_ own i0 r) fun hI=>sk [.own (.tmp 10) 166 4] [4,6,9,10,11,107,108,109] [(2,0),(3,0),(4,0),(5,0),(12,0)] hI
def b3r(s_:u0)(e_:l7)(box:List m7):Option (u0×Int):=
 ((((a93 s_.i0 e_.d6).bind fun c5p=>(bif (!c5p) then some (j9.brk ((s7.mk e_.a7 1 0),box)) else (bif (e_.d6.Code != 0) then some (j9.brk ((s7.mk e_.a7 2 0),box)) else ((a8A s_.i0 e_.d6).bind fun a5U=>some (j9.brk ((s7.mk e_.a7 0 e_.d6.c7),a5U)))))):Option (j9 (u0×Int) (s7×List m7))).bind fun x=>x.go some fun j=>b0k s_ j.1 j.2)
theorem d0F(s_ e_ box)(r):NF K9 r (b5T s_ e_ box) (fun s=>b3r s_ e_ box):=fun _ h=>PK<|rg<|B5 h (d1s s_ r) fun x1 h hc1=>rg<|j4 a4G d1T 4 h fun c5p h=>j3 6 h (fun h=>rg<|(p8 h hc1 fun hI=>sk [] [2,4,6,9] [(1,0),(3,0),(4,0),(5,0),(9,0)] hI)) (fun h=>rg<|j3 4 h (fun h=>rg<|(p8 h hc1 fun hI=>sk [] [2,4,6,9] [(1,0),(3,0),(4,0),(5,0),(9,0)] hI)) (fun h=>n8<|j4 a3z c1T 4 h fun a5U h=>(p8 h hc1 fun hI=>sk [] [2,4,6,9] [(1,0),(3,0),(4,0),(32,0),(9,0)] hI)))
def b8k(s_:u0)(e_:l7)(box:List m7):Int->KS:=fun v45=>⟨K9.k 5 [false,false],(bs 2 (.ptr 1 0 0::(.ptr 2 0 0::(.ptr 3 0 0::(bs 1 (.ptr 4 0 0::(bs 36 (j5 4 C1 s_.i5::(vi (s_.i5.length:Int)::(vi v45::(bs 106 []))))))))))),[some [],some [.var 52 [vi s_.At,j5 2 t8 s_.i0,j5 4 C1 s_.i5]],some [.var 64 (a8w e_)],some [.var 52 [vi 0,.nil,.nil]],some [.var 52 [vi (l9 (s_.At+1)),.own 5 0 2 0 box.length,.nil]],some [m4 82 2 t8 box]]⟩
def d3Z(s_:u0)(e_:l7)(box:List m7)(v45:Int):Unit->KS:=fun _=>⟨K9.k 8 [false,false,true,false],(bs 2 (.ptr 1 0 0::(.ptr 2 0 0::(.ptr 3 0 0::(bs 1 (.ptr 4 0 0::(bs 36 (j5 4 C1 s_.i5::(vi (s_.i5.length:Int)::(vi v45::(bs 106 []))))))))))),[some [],some [.var 52 [vi s_.At,j5 2 t8 s_.i0,j5 4 C1 s_.i5]],some [.var 64 (a8w e_)],some [.var 52 [vi 0,.nil,.nil]],some [.var 52 [vi (l9 (s_.At+1)),.own 5 0 2 0 box.length,.nil]],some [m4 82 2 t8 box]]⟩
def b5J(v45:Int):Option (j7 (u0×Int) Int Unit):=
 some (j7.nxt (l9 (v45+1)))
theorem d51(s_ e_ box v45)(lc:R7 K9 (b5T s_ e_ box) (b8k s_ e_ box)):NL lc (d3Z s_ e_ box v45) (fun s=>b5J v45):=fun _ h=>PK<|rg<|(lc.nx h fun hI=>sk [] [2,3,4,6,43,44,45] [(1,0),(2,0),(3,0),(4,0),(5,0)] hI)
def b0G(s_:u0)(e_:l7)(box:List m7)(v45:Int):Option (j7 (u0×Int) Int Unit):=
 (bif decide (v45<(s_.i5.length:Int)) then ((idx s_.i5 v45).bind fun b0q=>(((bif (b0q.a7.b9==e_.a7.b9) then (bif decide (b0q.a7.Seq>=e_.a7.Seq) then ((a3u s_.i5).bind fun a7K=>(bif (b0q.a7.Seq==e_.a7.Seq) then some (j9.ret (j7.ret ((u0.mk (l9 (s_.At+1)) box a7K),3))) else some (j9.ret (j7.ret ((u0.mk (l9 (s_.At+1)) box a7K),4))))) else some (j9.brk ())) else some (j9.brk ())):Option (j9 (j7 (u0×Int) Int Unit) Unit)).bind fun x=>x.go some fun j=>b5J v45)) else some (j7.brk ()))
theorem d2i(s_ e_ box):LQ K9 (b5T s_ e_ box) (b8k s_ e_ box) (fun s=>b0G s_ e_ box s):=fun lc v45 h=>PK<|rg<|j3 0 h (fun h=>rg<|u9 C1 0 h fun b0q d8R h=>B5 h (d51 s_ e_ box v45 lc) fun x2 h hc2=>rg<|j3 7 h (fun h=>j3 15 h (fun h=>rg<|j4 a72 b4S 2 h fun a7K h=>rg<|j3 6 h (fun h=>rg<|(B0 h hc2 fun h=>B6 box a7K<|fL lc h)) (fun h=>rg<|(B0 h hc2 fun h=>B6 box a7K<|fL lc h))) (fun h=>(p8 h hc2 fun hI=>sk [] [2,3,4,6,43,44,45] [(1,0),(2,0),(3,0),(4,0),(5,0)] hI))) (fun h=>(p8 h hc2 fun hI=>sk [] [2,3,4,6,43,44,45] [(1,0),(2,0),(3,0),(4,0),(5,0)] hI))) (fun h=>(lc.bk h fun hI=>sk [] [2,3,4,6] [(1,0),(2,0),(3,0),(4,0),(5,0)] hI))
def b17(s_:u0)(e_:l7):Option (u0×Int):=
 ((b0X s_).bind fun c3h=>(bif (!c3h) then some ((u0.mk 0 [] []),(-1)) else ((a0n e_).bind fun C5=>(bif (!C5) then some ((u0.mk 0 [] []),(-1)) else (bif (s_.At==40) then some ((u0.mk 0 [] []),(-1)) else ((a4v s_.i0).bind fun box=>(bif e_.i7 then ((a3u s_.i5).bind fun done=>some ((u0.mk (l9 (s_.At+1)) box done),5)) else ((p6 (fun s:Int=>b0G s_ e_ box s) 0).bind fun x=>x.go (fun r=>some r) fun s=>b3r s_ e_ box))))))))
theorem d4i{s_ e_}:OK K9 [.agg (a8v s_),.agg (v5 e_)] (b17 s_ e_):=
 o9 _ fun r h=>n8<|j4 a2s d4R 1 h fun c3h h=>j3 3 h (fun h=>rg<|fE h) (fun h=>j4 a08 a2h 5 h fun C5 h=>j3 8 h (fun h=>rg<|fE h) (fun h=>j3 12 h (fun h=>rg<|fE h) (fun h=>rg<|j4 b1r b6a 5 h fun box h=>rg<|j3 1 h (fun h=>rg<|j4 a72 b4S 2 h fun done h=>rg<|B6 box done<|fE h) (fun h=>rg<|lp (d2i s_ e_ box) h (fun _ h=>K9.rt h) (d0F s_ e_ box r) fun hI=>sk [] [2,3,4,6,43,44,45] [(1,0),(2,0),(3,0),(25,0),(23,0)] hI))))
def a2K:FS (u0×List Int):=⟨65,Tryz.f65,[.val [none,some 2,some 4] [none,some 82,some 166],.val [some 1] [some 3]],[none],[.val [some 7] []],fun r=>.tup [.agg (a7T r.1),z6 3 1 eI r.2],fun _=>[none],Tryz.func65⟩
def c6c:((List m7)×(List s7)×(List Int)×Int)->KS:=fun (Boxes1,Dones1,codes1,sAt1)=>⟨a2K.k 5 [false],(bs 2 (.ptr 1 0 0::(bs 1 (.ptr 2 0 0::(.own 5 0 1 0 codes1.length::(bs 25 [])))))),[some [],some [.var 52 [vi 0,.nil,.nil]],some [.var 52 [vi sAt1,.own 3 0 2 0 Boxes1.length,.own 4 0 4 0 Dones1.length]],some [m4 82 2 t8 Boxes1],some [m4 166 4 C1 Dones1],some [m4 3 1 eI codes1]]⟩
def c47(Boxes1:List m7)(Dones1:List s7)(codes1:List Int)(sAt1:Int):Option (u0×List Int):=
 some ((u0.mk sAt1 Boxes1 Dones1),codes1)
theorem c8O(r):NF a2K r c6c (fun s=>c47 s.1 s.2.1 s.2.2.1 s.2.2.2):=fun (Boxes1,Dones1,codes1,sAt1) h=>PK<|rg<|ol3 Boxes1 Dones1 codes1<|fE h
def d3A(list:List l7):((List m7)×(List s7)×(List Int)×Int×Int)->KS:=fun (i0,i5,codes,v13,sAt)=>⟨a2K.k 4 [],(bs 2 (.ptr 1 0 0::(bs 1 (.ptr 2 0 0::(.own 5 0 1 0 codes.length::(bs 5 (j5 7 v5 list::(vi (list.length:Int)::(vi v13::(bs 17 [])))))))))),[some [],some [.var 52 [vi 0,.nil,.nil]],some [.var 52 [vi sAt,.own 3 0 2 0 i0.length,.own 4 0 4 0 i5.length]],some [m4 82 2 t8 i0],some [m4 166 4 C1 i5],some [m4 3 1 eI codes]]⟩
def W2(list:List l7)(i0:List m7)(i5:List s7)(codes:List Int)(v13:Int)(sAt:Int):Option (j7 (u0×List Int) ((List m7)×(List s7)×(List Int)×Int×Int) ((List m7)×(List s7)×(List Int)×Int)):=
 (bif decide (v13<(list.length:Int)) then ((idx list v13).bind fun entry=>((b17 (u0.mk sAt i0 i5) entry).bind fun a4X=>(r7 ((codes.length+1)*8<=140737488355328) (some (j7.nxt (a4X.1.i0,a4X.1.i5,codes++[a4X.2],l9 (v13+1),a4X.1.At)))))) else some (j7.brk (i0,i5,codes,sAt)))
theorem d7Z(list):LQ a2K c6c (d3A list) (fun s=>W2 list s.1 s.2.1 s.2.2.1 s.2.2.2.1 s.2.2.2.2):=fun lc (i0,i5,codes,v13,sAt) h=>PK<|rg<|j3 0 h (fun h=>rg<|u9 v5 0 h fun entry a0d h=>rg<|cbS K9 d4i 2 (fun _=>(by simp [K9,N7,V3,Q0,V.simple,vi,z6,a7T,t8,C1,eI,a3k,a8v])) (fun _=>(a0P 2)) h fun a4X h=>B6 i0 i5<|n8<|tk 2 []<|t0 h fun e1 h=>J8 3 25 3 1 8 eI codes a4X.2 e1<|J0 a4X.2<|rg<|(lc.nx h fun hI=>sk [] [2,4,5,11,12,13] [(1,0),(2,0),(13,0),(13,1),(25,0)] hI)) (fun h=>(lc.bk h fun hI=>sk [] [2,4,5] [(1,0),(2,0),(3,0),(4,0),(5,0)] hI))
def a89(list:List l7):Option (u0×List Int):=
 ((b0l).bind fun b3x=>((p6 (fun s:(List m7)×(List s7)×(List Int)×Int×Int=>W2 list s.1 s.2.1 s.2.2.1 s.2.2.2.1 s.2.2.2.2) (b3x.i0,b3x.i5,[],0,b3x.At)).bind fun x=>x.go (fun r=>some r) fun s=>c47 s.1 s.2.1 s.2.2.1 s.2.2.2))
theorem c1p{list}:OK a2K [j5 7 v5 list] (a89 list):=
 o9 _ fun r h=>n8<|j4 c4r c8H 0 h fun b3x h=>n8<|lp (d7Z list) h (fun _ h=>a2K.rt h) (c8O r) fun hI=>sk [.own (.tmp 5) 3 1] [2,4,5,11,12,13] [(1,0),(4,0),(3,0),(3,1),(10,0)] hI
def c4R:FS (u0):=⟨34,Tryz.f34,[.val [none,some 2,some 4] [none,some 82,none]],[none],[.val [some 7] []],fun r=>.agg (c8Y r),fun _=>[none],Tryz.func34⟩
def b0R(list:List l7):Option u0:=
 ((a7v list).bind fun G6=>(bif (!G6) then some (u0.mk 0 [] []) else ((a89 list).bind fun u5=>some u5.1)))
theorem d15{list}:OK c4R [j5 7 v5 list] (b0R list):=
 o9 _ fun r h=>n8<|j4 a3O b9f 1 h fun G6 h=>j3 2 h (fun h=>rg<|fE h) (fun h=>rg<|j4 a2K c1p 1 h fun u5 h=>rg<|B6 u5.1.i0 u5.1.i5<|fE h)
def b6m:FS (u0):=⟨14,Tryz.f14,[.val [none,some 2,some 4] []],[none],[.val I0 []],fun r=>.agg (a8v r),fun _=>[none],Tryz.func14⟩
def a8M(n:j6):Option u0:=
 ((a1H n).bind fun D6=>(bif (!D6) then some (u0.mk 0 [] []) else ((b0R n.a6).bind fun b4C=>some b4C)))
theorem c0V{n}:OK b6m [.agg (w5 n)] (a8M n):=
 o9 _ fun r h=>n8<|j4 U6 a4u 1 h fun D6 h=>j3 2 h (fun h=>rg<|fE h) (fun h=>rg<|j4 c4R d15 2 h fun b4C h=>x9 b4C.i0<|fE h)
def a38:FS (Int):=⟨90,Tryz.f90,[.val [] []],[none,none],[.val a0b [],.val [] []],fun r=>vi r,fun _=>[none,none],Tryz.func90⟩
def c4V:Unit->KS:=fun _=>⟨a38.k 3 [false],(bs 21 []),[some []]⟩
def b8z:Option Int:=
 some (-1)
theorem d6p(r):NF a38 r c4V (fun s=>b8z):=fun _ h=>PK<|rg<|fE h
def d6K(r_:m8)(box:Int):Int->KS:=fun v10=>⟨a38.k 2 [],(bs 1 (vi box::(bs 6 (j5 2 t7 r_.b6::(vi (r_.b6.length:Int)::(vi v10::(bs 10 []))))))),[some []]⟩
def a8Q(r_:m8)(box:Int)(v10:Int):Option (j7 Int Int Unit):=
 (bif decide (v10<(r_.b6.length:Int)) then ((idx r_.b6 v10).bind fun put=>(bif (put.g7==box) then some (j7.ret v10) else some (j7.nxt (l9 (v10+1))))) else some (j7.brk ()))
theorem d2g(r_ box):LQ a38 c4V (d6K r_ box) (fun s=>a8Q r_ box s):=fun lc v10 h=>PK<|rg<|j3 0 h (fun h=>rg<|u9 t7 1 h fun put hput h=>rg<|j3 3 h (fun h=>rg<|fL lc h) (fun h=>rg<|(lc.nx h fun hI=>sk [] [1,8,9,10] [] hI))) (fun h=>(lc.bk h fun hI=>sk [] [] [] hI))
def a8h(r_:m8)(box:Int):Option Int:=
 ((p6 (fun s:Int=>a8Q r_ box s) 0).bind fun x=>x.go (fun r=>some r) fun s=>b8z)
theorem b9I{r_ box}:OK a38 [.agg (Y8 r_),vi box] (a8h r_ box):=
 o9 _ fun r h=>n8<|lp (d2g r_ box) h (fun _ h=>a38.rt h) (d6p r) fun hI=>sk [] [1,8,9,10] [] hI
def a5j:FS (Int):=⟨91,Tryz.f91,[.val [] []],[none,none],[.val a0b [],.val [] []],fun r=>vi r,fun _=>[none,none],Tryz.func91⟩
def b98:Unit->KS:=fun _=>⟨a5j.k 3 [false],(bs 21 []),[some []]⟩
def c5D:Option Int:=
 some (-1)
theorem d5N(r):NF a5j r b98 (fun s=>c5D):=fun _ h=>PK<|rg<|fE h
def c8d(r_:m8)(box:Int):Int->KS:=fun v10=>⟨a5j.k 2 [],(bs 1 (vi box::(bs 6 (j5 2 t6 r_.b5::(vi (r_.b5.length:Int)::(vi v10::(bs 10 []))))))),[some []]⟩
def a7C(r_:m8)(box:Int)(v10:Int):Option (j7 Int Int Unit):=
 (bif decide (v10<(r_.b5.length:Int)) then ((idx r_.b5 v10).bind fun read=>(bif (read.g7==box) then some (j7.ret v10) else some (j7.nxt (l9 (v10+1))))) else some (j7.brk ()))
theorem d21(r_ box):LQ a5j b98 (c8d r_ box) (fun s=>a7C r_ box s):=fun lc v10 h=>PK<|rg<|j3 0 h (fun h=>rg<|u9 t6 1 h fun read a3D h=>rg<|j3 3 h (fun h=>rg<|fL lc h) (fun h=>rg<|(lc.nx h fun hI=>sk [] [1,8,9,10] [] hI))) (fun h=>(lc.bk h fun hI=>sk [] [] [] hI))
def a7Y(r_:m8)(box:Int):Option Int:=
 ((p6 (fun s:Int=>a7C r_ box s) 0).bind fun x=>x.go (fun r=>some r) fun s=>c5D)
theorem d3K{r_ box}:OK a5j [.agg (Y8 r_),vi box] (a7Y r_ box):=
 o9 _ fun r h=>n8<|lp (d21 r_ box) h (fun _ h=>a5j.rt h) (d5N r) fun hI=>sk [] [1,8,9,10] [] hI
def J6:FS (m8):=⟨58,Tryz.f58,[.val a0b []],[none,none],[.val [some 2] [],.val [some 4] []],fun r=>.agg (Y8 r),fun _=>[none,none],Tryz.func58⟩
def a5A:((List p7)×(List o7)×(List Int)×(List p7)×List o7)->KS:=fun (Reads2,Puts2,regs1,Reads3,Puts3)=>⟨J6.k 6 [false,false],(bs 4 (.ptr 1 0 0::(.ptr 4 0 0::(.ptr 5 0 0::(bs 175 []))))),[some [],some [.var 62 [.own 2 0 2 0 Reads2.length,.own 3 0 2 0 Puts2.length,vi 0,vi 0]],some [m4 135 2 t6 Reads2],some [m4 133 2 t7 Puts2],some [.arr 130 1 4 (regs1.map eI)],some [.var 62 [.own 6 0 2 0 Reads3.length,.own 7 0 2 0 Puts3.length,vi 0,vi 0]],some [m4 135 2 t6 Reads3],some [m4 133 2 t7 Puts3]]⟩
def a9e(Reads2:List p7)(Puts2:List o7)(regs1:List Int)(Reads3:List p7)(Puts3:List o7):Option m8:=
 ((a0Z Reads3).bind fun read=>((a5L Puts3).bind fun put=>((idx regs1 0).bind fun y=>(r7 ((0:Int)<4) (some (m8.mk read put y 0))))))
theorem d3N(r):NF J6 r a5A (fun s=>a9e s.1 s.2.1 s.2.2.1 s.2.2.2.1 s.2.2.2.2):=fun (Reads2,Puts2,regs1,Reads3,Puts3) h=>PK<|rg<|cbS a0G a6s 2 (fun _=>(by simp [a0G,N7,V3,Q0,V.simple,vi,z6,eI,t6])) (fun _=>(a0P 1)) h fun read h=>x9 Reads3<|cbS b3B b88 5 (fun _=>(by simp [b3B,N7,V3,Q0,V.simple,vi,z6,eI,t7])) (fun _=>(a0P 1)) h fun put h=>x9 Puts3<|A7 h fun y hy h=>t0 h fun e1 h=>ob (J4 hy)<|ob e1<|ob (N4 (enc:=eI) hy)<|tl (tr 7 (eI y))<|B6 read put<|fE h
def a5R(list:List m7)(prog:List m5):((List Int)×(List p7)×(List o7)×(List p7)×(List o7)×Int)->KS:=fun (regs,b5,b6,Reads1,Puts1,at_)=>⟨J6.k 5 [false],(j5 2 t8 list::(j5 4 z3 prog::(bs 2 (.ptr 1 0 0::(.ptr 2 0 0::(.ptr 3 0 0::(vi at_::(bs 174 [])))))))),[some [],some [.var 62 [.own 4 0 2 0 b5.length,.own 5 0 2 0 b6.length,vi 0,vi 0]],some [.arr 130 1 4 (regs.map eI)],some [.var 62 [.own 6 0 2 0 Reads1.length,.own 7 0 2 0 Puts1.length,vi 0,vi 0]],some [m4 135 2 t6 b5],some [m4 133 2 t7 b6],some [m4 135 2 t6 Reads1],some [m4 133 2 t7 Puts1]]⟩
def b9r(list:List m7)(prog:List m5)(regs:List Int)(b5:List p7)(b6:List o7)(Reads1:List p7)(Puts1:List o7)(at_:Int)(ins:m5)(put1:o7):Unit->KS:=fun _=>⟨J6.k 14 [false,true,true,true,false],(j5 2 t8 list::(j5 4 z3 prog::(bs 2 (.ptr 1 0 0::(.ptr 4 0 0::(.ptr 5 0 0::(vi at_::(bs 174 [])))))))),[some [],some [.var 62 [.own 2 0 2 0 b5.length,.own 3 0 2 0 b6.length,vi 0,vi 0]],some [m4 135 2 t6 b5],some [m4 133 2 t7 b6],some [.arr 130 1 4 ((regs.set ins.A.toNat put1.c7).map eI)],some [.var 62 [.own 6 0 2 0 Reads1.length,.own 7 0 2 0 Puts1.length,vi 0,vi 0]],some [m4 135 2 t6 Reads1],some [m4 133 2 t7 Puts1]]⟩
def b7C(regs:List Int)(b5:List p7)(b6:List o7)(Reads1:List p7)(Puts1:List o7)(at_:Int)(ins:m5)(put1:o7):Option (j7 m8 ((List Int)×(List p7)×(List o7)×(List p7)×(List o7)×Int) ((List p7)×(List o7)×(List Int)×(List p7)×List o7)):=
 some (j7.nxt (regs.set ins.A.toNat put1.c7,b5,b6,Reads1,Puts1,l9 (at_+1)))
theorem d7N(list prog regs b5 b6 Reads1 Puts1 at_ ins put1)(lc:R7 J6 a5A (a5R list prog)):NL lc (b9r list prog regs b5 b6 Reads1 Puts1 at_ ins put1) (fun s=>b7C regs b5 b6 Reads1 Puts1 at_ ins put1):=fun _ h=>PK<|rg<|(lc.nx h fun hI=>sk [] [0,1,4,5,6,7] [(1,0),(4,0),(5,0),(2,0),(3,0),(6,0),(7,0)] hI)
def d2o(list:List m7)(prog:List m5)(regs:List Int)(b5:List p7)(b6:List o7)(Reads1:List p7)(Puts1:List o7)(at_:Int)(ins:m5)(put1:o7):Int->KS:=fun a3p=>⟨J6.k 13 [false,true,true,true],(j5 2 t8 list::(j5 4 z3 prog::(bs 2 (.ptr 1 0 0::(.ptr 4 0 0::(.ptr 5 0 0::(vi at_::(bs 153 (.agg ((regs.set ins.A.toNat put1.c7).map eI).flatten::(vi a3p::(bs 19 []))))))))))),[some [],some [.var 62 [.own 2 0 2 0 b5.length,.own 3 0 2 0 b6.length,vi 0,vi 0]],some [m4 135 2 t6 b5],some [m4 133 2 t7 b6],some [.arr 130 1 4 ((regs.set ins.A.toNat put1.c7).map eI)],some [.var 62 [.own 6 0 2 0 Reads1.length,.own 7 0 2 0 Puts1.length,vi 0,vi 0]],some [m4 135 2 t6 Reads1],some [m4 133 2 t7 Puts1]]⟩
def a8k(regs:List Int)(Reads1:List p7)(ins:m5)(put1:o7)(a3p:Int):Option (j7 m8 Int Unit):=
 (bif decide (a3p<4) then ((idx (regs.set ins.A.toNat put1.c7) a3p).bind fun y2=>(r7 (a3p<4) (((A0 y2 (-1000000) 1000000).bind fun in_=>(bif (!in_) then ((a0Z Reads1).bind fun M0=>some (j7.ret (m8.mk M0 [] 0 2))) else some (j7.nxt (l9 (a3p+1)))))))) else some (j7.brk ()))
theorem d1O(list prog regs b5 b6 Reads1 Puts1 at_ ins put1):LQ J6 (b9r list prog regs b5 b6 Reads1 Puts1 at_ ins put1) (d2o list prog regs b5 b6 Reads1 Puts1 at_ ins put1) (fun s=>a8k regs Reads1 ins put1 s):=fun lc a3p h=>PK<|rg<|j3 0 h (fun h=>rg<|A7 h fun y2 hy2 h=>t0 h fun e3 h=>ob (J4 hy2)<|ob e3<|om (((regs.set ins.A.toNat put1.c7).map eI).flatten[a3p.toNat]?=some (vi y2)) (b4y (fun _=>rfl) hy2)<|tl (0,{a:=.val (vi y2)})<|rg<|j4 z8 A8 1 h fun in_ h=>j3 2 h (fun h=>rg<|cbS a0G a6s 2 (fun _=>(by simp [a0G,N7,V3,Q0,V.simple,vi,z6,eI,t6])) (fun _=>(a0P 1)) h fun M0 h=>B6 Reads1 M0<|fL lc h) (fun h=>rg<|(lc.nx h fun hI=>om (V.agg (((regs.set ins.A.toNat put1.c7).map eI).flatten.map (P6 [(1,0),(2,0),(3,0),(4,0),(5,0),(6,0),(7,0)]))=.agg ((regs.set ins.A.toNat put1.c7).map eI).flatten) (congrArg V.agg (a4E (fun _=>rfl) _))<|skT [] [0,1,4,5,6,7,161,162] [(1,0),(2,0),(3,0),(4,0),(5,0),(6,0),(7,0)] [(161,.agg ((regs.set ins.A.toNat put1.c7).map eI).flatten)] hI))) (fun h=>(lc.bk h fun hI=>sk [] [0,1,4,5,6,7] [(1,0),(2,0),(3,0),(4,0),(5,0),(6,0),(7,0)] hI))
def d2J(list:List m7)(prog:List m5)(regs:List Int)(b5:List p7)(b6:List o7)(Puts1:List o7)(at_:Int)(ins:m5):(List p7)->KS:=fun Reads4=>⟨J6.k 13 [false,true,true,false,true],(j5 2 t8 list::(j5 4 z3 prog::(bs 2 (.ptr 1 0 0::(.ptr 4 0 0::(.ptr 5 0 0::(vi at_::(.ptr 8 0 0::(bs 173 []))))))))),[some [],some [.var 62 [.own 2 0 2 0 b5.length,.own 3 0 2 0 b6.length,vi 0,vi 0]],some [m4 135 2 t6 b5],some [m4 133 2 t7 b6],some [.arr 130 1 4 (regs.map eI)],some [.var 62 [.own 6 0 2 0 Reads4.length,.own 7 0 2 0 Puts1.length,vi 0,vi 0]],some [m4 135 2 t6 Reads4],some [m4 133 2 t7 Puts1],some [.var 78 [vi ins.a0,vi ins.A,vi ins.B,vi ins.N]]]⟩
def b9O(list:List m7)(prog:List m5)(regs:List Int)(b5:List p7)(b6:List o7)(Puts1:List o7)(at_:Int)(ins:m5)(Reads4:List p7)(box:m7):Unit->KS:=fun _=>⟨J6.k 16 [false,true,true,false,true,false],(j5 2 t8 list::(j5 4 z3 prog::(bs 2 (.ptr 1 0 0::(.ptr 4 0 0::(.ptr 5 0 0::(vi at_::(bs 174 [])))))))),[some [],some [.var 62 [.own 2 0 2 0 b5.length,.own 3 0 2 0 b6.length,vi 0,vi 0]],some [m4 135 2 t6 b5],some [m4 133 2 t7 b6],some [.arr 130 1 4 ((regs.set ins.A.toNat box.c7).map eI)],some [.var 62 [.own 6 0 2 0 Reads4.length,.own 7 0 2 0 Puts1.length,vi 0,vi 0]],some [m4 135 2 t6 Reads4],some [m4 133 2 t7 Puts1]]⟩
def b2J(regs:List Int)(b5:List p7)(b6:List o7)(Puts1:List o7)(at_:Int)(ins:m5)(Reads4:List p7)(box:m7):Option (j7 m8 ((List Int)×(List p7)×(List o7)×(List p7)×(List o7)×Int) ((List p7)×(List o7)×(List Int)×(List p7)×List o7)):=
 some (j7.nxt (regs.set ins.A.toNat box.c7,b5,b6,Reads4,Puts1,l9 (at_+1)))
theorem d4t(list prog regs b5 b6 Puts1 at_ ins Reads4 box)(lc:R7 J6 a5A (a5R list prog)):NL lc (b9O list prog regs b5 b6 Puts1 at_ ins Reads4 box) (fun s=>b2J regs b5 b6 Puts1 at_ ins Reads4 box):=fun _ h=>PK<|rg<|(lc.nx h fun hI=>sk [] [0,1,4,5,6,7] [(1,0),(4,0),(5,0),(2,0),(3,0),(6,0),(7,0)] hI)
def d8m(list:List m7)(prog:List m5)(regs:List Int)(b5:List p7)(b6:List o7)(Puts1:List o7)(at_:Int)(ins:m5)(Reads4:List p7)(box:m7):Int->KS:=fun a3o=>⟨J6.k 15 [false,true,true,false,true],(j5 2 t8 list::(j5 4 z3 prog::(bs 2 (.ptr 1 0 0::(.ptr 4 0 0::(.ptr 5 0 0::(vi at_::(bs 153 (.agg ((regs.set ins.A.toNat box.c7).map eI).flatten::(vi a3o::(bs 19 []))))))))))),[some [],some [.var 62 [.own 2 0 2 0 b5.length,.own 3 0 2 0 b6.length,vi 0,vi 0]],some [m4 135 2 t6 b5],some [m4 133 2 t7 b6],some [.arr 130 1 4 ((regs.set ins.A.toNat box.c7).map eI)],some [.var 62 [.own 6 0 2 0 Reads4.length,.own 7 0 2 0 Puts1.length,vi 0,vi 0]],some [m4 135 2 t6 Reads4],some [m4 133 2 t7 Puts1]]⟩
def a7N(regs:List Int)(ins:m5)(Reads4:List p7)(box:m7)(a3o:Int):Option (j7 m8 Int Unit):=
 (bif decide (a3o<4) then ((idx (regs.set ins.A.toNat box.c7) a3o).bind fun y4=>(r7 (a3o<4) (((A0 y4 (-1000000) 1000000).bind fun G1=>(bif (!G1) then ((a0Z Reads4).bind fun b7s=>some (j7.ret (m8.mk b7s [] 0 2))) else some (j7.nxt (l9 (a3o+1)))))))) else some (j7.brk ()))
theorem c8b(list prog regs b5 b6 Puts1 at_ ins Reads4 box):LQ J6 (b9O list prog regs b5 b6 Puts1 at_ ins Reads4 box) (d8m list prog regs b5 b6 Puts1 at_ ins Reads4 box) (fun s=>a7N regs ins Reads4 box s):=fun lc a3o h=>PK<|rg<|j3 0 h (fun h=>rg<|A7 h fun y4 hy4 h=>t0 h fun e5 h=>ob (J4 hy4)<|ob e5<|om (((regs.set ins.A.toNat box.c7).map eI).flatten[a3o.toNat]?=some (vi y4)) (b4y (fun _=>rfl) hy4)<|tl (0,{a:=.val (vi y4)})<|rg<|j4 z8 A8 1 h fun G1 h=>j3 2 h (fun h=>rg<|cbS a0G a6s 2 (fun _=>(by simp [a0G,N7,V3,Q0,V.simple,vi,z6,eI,t6])) (fun _=>(a0P 1)) h fun b7s h=>B6 Reads4 b7s<|fL lc h) (fun h=>rg<|(lc.nx h fun hI=>om (V.agg (((regs.set ins.A.toNat box.c7).map eI).flatten.map (P6 [(1,0),(2,0),(3,0),(4,0),(5,0),(6,0),(7,0)]))=.agg ((regs.set ins.A.toNat box.c7).map eI).flatten) (congrArg V.agg (a4E (fun _=>rfl) _))<|skT [] [0,1,4,5,6,7,161,162] [(1,0),(2,0),(3,0),(4,0),(5,0),(6,0),(7,0)] [(161,.agg ((regs.set ins.A.toNat box.c7).map eI).flatten)] hI))) (fun h=>(lc.bk h fun hI=>sk [] [0,1,4,5,6,7] [(1,0),(2,0),(3,0),(4,0),(5,0),(6,0),(7,0)] hI))
def b3q(list:List m7)(regs:List Int)(b5:List p7)(b6:List o7)(Puts1:List o7)(at_:Int)(ins:m5)(Reads4:List p7):Option (j7 m8 ((List Int)×(List p7)×(List o7)×(List p7)×(List o7)×Int) ((List p7)×(List o7)×(List Int)×(List p7)×List o7)):=
 ((idx list ins.B).bind fun box=>((idx regs ins.A).bind fun y3=>(r7 (ins.A<4) (((p6 (fun s:Int=>a7N regs ins Reads4 box s) 0).bind fun x=>x.go (fun r=>some (j7.ret r)) fun s=>b2J regs b5 b6 Puts1 at_ ins Reads4 box)))))
theorem d0i(list prog regs b5 b6 Puts1 at_ ins)(lc:R7 J6 a5A (a5R list prog)):NL lc (d2J list prog regs b5 b6 Puts1 at_ ins) (fun s=>b3q list regs b5 b6 Puts1 at_ ins s):=fun Reads4 h=>PK<|rg<|u9 t8 5 h fun box a5Y h=>A7 h fun y3 hy3 h=>t0 h fun e4 h=>ob (J4 hy3)<|ob e4<|om (n9.arr 130 1 4 ((regs.map eI).set (ins.A.toNat) [vi box.c7])=n9.arr 130 1 4 ((regs.set ins.A.toNat box.c7).map eI)) (a5I rfl)<|ob (N4 (enc:=eI) hy3)<|tl (9,{a:=.rowck (eI y3) [],e:=some (.arr 130 1 4 ((regs.set ins.A.toNat box.c7).map eI))})<|rg<|om (4*1=4) rfl<|lp (c8b list prog regs b5 b6 Puts1 at_ ins Reads4 box) h (fun _ h=>lc.rt h) (d4t list prog regs b5 b6 Puts1 at_ ins Reads4 box lc) fun hI=>om (V.agg (((regs.set ins.A.toNat box.c7).map eI).flatten.map (P6 [(1,0),(2,0),(3,0),(4,0),(5,0),(6,0),(7,0)]))=.agg ((regs.set ins.A.toNat box.c7).map eI).flatten) (congrArg V.agg (a4E (fun _=>rfl) _))<|skT [] [0,1,4,5,6,7,161,162] [(1,0),(2,0),(3,0),(4,0),(5,0),(6,0),(7,0)] [(161,.agg ((regs.set ins.A.toNat box.c7).map eI).flatten)] hI
def d3O(list:List m7)(prog:List m5)(b5:List p7)(b6:List o7)(Reads1:List p7):((List Int)×(List o7)×Int)->KS:=fun (regs2,Puts4,at_1)=>⟨J6.k 13 [false,true,false,true,true],(j5 2 t8 list::(j5 4 z3 prog::(bs 2 (.ptr 1 0 0::(.ptr 4 0 0::(.ptr 5 0 0::(vi at_1::(bs 174 [])))))))),[some [],some [.var 62 [.own 2 0 2 0 b5.length,.own 3 0 2 0 b6.length,vi 0,vi 0]],some [m4 135 2 t6 b5],some [m4 133 2 t7 b6],some [.arr 130 1 4 (regs2.map eI)],some [.var 62 [.own 6 0 2 0 Reads1.length,.own 7 0 2 0 Puts4.length,vi 0,vi 0]],some [m4 135 2 t6 Reads1],some [m4 133 2 t7 Puts4]]⟩
def c29(list:List m7)(prog:List m5)(b5:List p7)(b6:List o7)(Reads1:List p7)(regs2:List Int)(Puts4:List o7)(at_1:Int):Unit->KS:=fun _=>⟨J6.k 15 [false,true,false,true,true,false],(j5 2 t8 list::(j5 4 z3 prog::(bs 2 (.ptr 1 0 0::(.ptr 4 0 0::(.ptr 5 0 0::(vi at_1::(bs 174 [])))))))),[some [],some [.var 62 [.own 2 0 2 0 b5.length,.own 3 0 2 0 b6.length,vi 0,vi 0]],some [m4 135 2 t6 b5],some [m4 133 2 t7 b6],some [.arr 130 1 4 (regs2.map eI)],some [.var 62 [.own 6 0 2 0 Reads1.length,.own 7 0 2 0 Puts4.length,vi 0,vi 0]],some [m4 135 2 t6 Reads1],some [m4 133 2 t7 Puts4]]⟩
def a8x(b5:List p7)(b6:List o7)(Reads1:List p7)(regs2:List Int)(Puts4:List o7)(at_1:Int):Option (j7 m8 ((List Int)×(List p7)×(List o7)×(List p7)×(List o7)×Int) ((List p7)×(List o7)×(List Int)×(List p7)×List o7)):=
 some (j7.nxt (regs2,b5,b6,Reads1,Puts4,l9 (at_1+1)))
theorem c61(list prog b5 b6 Reads1 regs2 Puts4 at_1)(lc:R7 J6 a5A (a5R list prog)):NL lc (c29 list prog b5 b6 Reads1 regs2 Puts4 at_1) (fun s=>a8x b5 b6 Reads1 regs2 Puts4 at_1):=fun _ h=>PK<|rg<|(lc.nx h fun hI=>sk [] [0,1,4,5,6,7] [(1,0),(4,0),(5,0),(2,0),(3,0),(6,0),(7,0)] hI)
def c6o(list:List m7)(prog:List m5)(b5:List p7)(b6:List o7)(Reads1:List p7)(regs2:List Int)(Puts4:List o7)(at_1:Int):Int->KS:=fun a3B=>⟨J6.k 14 [false,true,false,true,true],(j5 2 t8 list::(j5 4 z3 prog::(bs 2 (.ptr 1 0 0::(.ptr 4 0 0::(.ptr 5 0 0::(vi at_1::(bs 153 (.agg (regs2.map eI).flatten::(vi a3B::(bs 19 []))))))))))),[some [],some [.var 62 [.own 2 0 2 0 b5.length,.own 3 0 2 0 b6.length,vi 0,vi 0]],some [m4 135 2 t6 b5],some [m4 133 2 t7 b6],some [.arr 130 1 4 (regs2.map eI)],some [.var 62 [.own 6 0 2 0 Reads1.length,.own 7 0 2 0 Puts4.length,vi 0,vi 0]],some [m4 135 2 t6 Reads1],some [m4 133 2 t7 Puts4]]⟩
def a9b(Reads1:List p7)(regs2:List Int)(a3B:Int):Option (j7 m8 Int Unit):=
 (bif decide (a3B<4) then ((idx regs2 a3B).bind fun y5=>(r7 (a3B<4) (((A0 y5 (-1000000) 1000000).bind fun R0=>(bif (!R0) then ((a0Z Reads1).bind fun b7e=>some (j7.ret (m8.mk b7e [] 0 2))) else some (j7.nxt (l9 (a3B+1)))))))) else some (j7.brk ()))
theorem d4l(list prog b5 b6 Reads1 regs2 Puts4 at_1):LQ J6 (c29 list prog b5 b6 Reads1 regs2 Puts4 at_1) (c6o list prog b5 b6 Reads1 regs2 Puts4 at_1) (fun s=>a9b Reads1 regs2 s):=fun lc a3B h=>PK<|rg<|j3 0 h (fun h=>rg<|A7 h fun y5 hy5 h=>t0 h fun e7 h=>ob (J4 hy5)<|ob e7<|om ((regs2.map eI).flatten[a3B.toNat]?=some (vi y5)) (b4y (fun _=>rfl) hy5)<|tl (0,{a:=.val (vi y5)})<|rg<|j4 z8 A8 1 h fun R0 h=>j3 2 h (fun h=>rg<|cbS a0G a6s 2 (fun _=>(by simp [a0G,N7,V3,Q0,V.simple,vi,z6,eI,t6])) (fun _=>(a0P 1)) h fun b7e h=>B6 Reads1 b7e<|fL lc h) (fun h=>rg<|(lc.nx h fun hI=>om (V.agg ((regs2.map eI).flatten.map (P6 [(1,0),(2,0),(3,0),(4,0),(5,0),(6,0),(7,0)]))=.agg (regs2.map eI).flatten) (congrArg V.agg (a4E (fun _=>rfl) _))<|skT [] [0,1,4,5,6,7,161,162] [(1,0),(2,0),(3,0),(4,0),(5,0),(6,0),(7,0)] [(161,.agg (regs2.map eI).flatten)] hI))) (fun h=>(lc.bk h fun hI=>sk [] [0,1,4,5,6,7] [(1,0),(2,0),(3,0),(4,0),(5,0),(6,0),(7,0)] hI))
def a6z(b5:List p7)(b6:List o7)(Reads1:List p7)(regs2:List Int)(Puts4:List o7)(at_1:Int):Option (j7 m8 ((List Int)×(List p7)×(List o7)×(List p7)×(List o7)×Int) ((List p7)×(List o7)×(List Int)×(List p7)×List o7)):=
 ((p6 (fun s:Int=>a9b Reads1 regs2 s) 0).bind fun x=>x.go (fun r=>some (j7.ret r)) fun s=>a8x b5 b6 Reads1 regs2 Puts4 at_1)
theorem d1o(list prog b5 b6 Reads1)(lc:R7 J6 a5A (a5R list prog)):NL lc (d3O list prog b5 b6 Reads1) (fun s=>a6z b5 b6 Reads1 s.1 s.2.1 s.2.2):=fun (regs2,Puts4,at_1) h=>PK<|rg<|om (4*1=4) rfl<|lp (d4l list prog b5 b6 Reads1 regs2 Puts4 at_1) h (fun _ h=>lc.rt h) (c61 list prog b5 b6 Reads1 regs2 Puts4 at_1 lc) fun hI=>om (V.agg ((regs2.map eI).flatten.map (P6 [(1,0),(2,0),(3,0),(4,0),(5,0),(6,0),(7,0)]))=.agg (regs2.map eI).flatten) (congrArg V.agg (a4E (fun _=>rfl) _))<|skT [] [0,1,4,5,6,7,161,162] [(1,0),(2,0),(3,0),(4,0),(5,0),(6,0),(7,0)] [(161,.agg (regs2.map eI).flatten)] hI
def a09(list:List m7)(prog:List m5)(regs:List Int)(b5:List p7)(b6:List o7)(Reads1:List p7)(Puts1:List o7)(at_:Int):Option (j7 m8 ((List Int)×(List p7)×(List o7)×(List p7)×(List o7)×Int) ((List p7)×(List o7)×(List Int)×(List p7)×List o7)):=
 (bif decide (at_<(prog.length:Int)) then ((idx prog at_).bind fun ins=>(bif (ins.a0==1) then ((a8h (m8.mk Reads1 Puts1 0 0) ins.B).bind fun W8=>(bif decide (W8>=0) then ((idx Puts1 W8).bind fun put1=>((idx regs ins.A).bind fun y1=>(r7 (ins.A<4) (((p6 (fun s:Int=>a8k regs Reads1 ins put1 s) 0).bind fun x=>x.go (fun r=>some (j7.ret r)) fun s=>b7C regs b5 b6 Reads1 Puts1 at_ ins put1))))) else ((((a7Y (m8.mk Reads1 Puts1 0 0) ins.B).bind fun c6i=>(bif decide (c6i<0) then ((idx list ins.B).bind fun L1=>(r7 ((Reads1.length+1)*16<=140737488355328) (some (j9.brk (Reads1++[(p7.mk ins.B L1.i8)]))))) else some (j9.brk Reads1))):Option (j9 (j7 m8 ((List Int)×(List p7)×(List o7)×(List p7)×(List o7)×Int) ((List p7)×(List o7)×(List Int)×(List p7)×List o7)) (List p7))).bind fun x=>x.go some fun j=>b3q list regs b5 b6 Puts1 at_ ins j))) else (((bif (ins.a0==2) then ((a8h (m8.mk Reads1 Puts1 0 0) ins.A).bind fun a6o=>(bif decide (a6o>=0) then ((idx regs ins.B).bind fun y6=>(r7 (ins.B<4) (((idx Puts1 a6o).bind fun put2=>some (j9.brk (regs,Puts1.set a6o.toNat (o7.mk put2.g7 y6),at_)))))) else ((idx regs ins.B).bind fun y7=>(r7 (ins.B<4) ((r7 ((Puts1.length+1)*16<=140737488355328) (some (j9.brk (regs,Puts1++[(o7.mk ins.A y7)],at_))))))))) else (bif (ins.a0==3) then ((idx regs ins.A).bind fun y8=>(r7 (ins.A<4) (some (j9.brk (regs.set ins.A.toNat ins.N,Puts1,at_))))) else (bif (ins.a0==4) then ((idx regs ins.A).bind fun y9=>(r7 (ins.A<4) (((idx regs ins.B).bind fun y10=>(r7 (ins.B<4) ((r7 (ins.A<4) (some (j9.brk (regs.set ins.A.toNat (l9 (y9+y10)),Puts1,at_)))))))))) else (bif (ins.a0==5) then ((idx regs ins.A).bind fun y11=>(r7 (ins.A<4) (((idx regs ins.B).bind fun y12=>(r7 (ins.B<4) ((r7 (ins.A<4) (some (j9.brk (regs.set ins.A.toNat (l9 (y11-y12)),Puts1,at_)))))))))) else (bif (ins.a0==6) then ((idx regs ins.A).bind fun y13=>(r7 (ins.A<4) (((idx regs ins.B).bind fun y14=>(r7 (ins.B<4) ((bif decide (y13<y14) then some (j9.brk (regs,Puts1,l9 (at_+ins.N))) else some (j9.brk (regs,Puts1,at_))))))))) else (bif (ins.a0==7) then ((a0Z Reads1).bind fun b5Q=>some (j9.ret (j7.ret (m8.mk b5Q [] 0 1)))) else some (j9.brk (regs,Puts1,at_)))))))):Option (j9 (j7 m8 ((List Int)×(List p7)×(List o7)×(List p7)×(List o7)×Int) ((List p7)×(List o7)×(List Int)×(List p7)×List o7)) ((List Int)×(List o7)×Int))).bind fun x=>x.go some fun j=>a6z b5 b6 Reads1 j.1 j.2.1 j.2.2))) else some (j7.brk (b5,b6,regs,Reads1,Puts1)))
set_option maxRecDepth 20000 in
theorem d58(list prog):LQ J6 a5A (a5R list prog) (fun s=>a09 list prog s.1 s.2.1 s.2.2.1 s.2.2.2.1 s.2.2.2.2.1 s.2.2.2.2.2):=fun lc (regs,b5,b6,Reads1,Puts1,at_) h=>PK<|rg<|j3 3 h (fun h=>rg<|u9 z3 2 h fun ins hins h=>n8<|j3 1 h (fun h=>rg<|cb1 a38 b9I 3 2 h fun W8 h=>B6 Reads1 Puts1<|rg<|j3 1 h (fun h=>rg<|A7 h fun put1 a84 h=>E3 a84<|V6 t7 7 a84<|A7 h fun y1 hy1 h=>t0 h fun e2 h=>ob (J4 hy1)<|ob e2<|om (n9.arr 130 1 4 ((regs.map eI).set (ins.A.toNat) [vi put1.c7])=n9.arr 130 1 4 ((regs.set ins.A.toNat put1.c7).map eI)) (a5I rfl)<|ob (N4 (enc:=eI) hy1)<|tl (9,{a:=.rowck (eI y1) [],e:=some (.arr 130 1 4 ((regs.set ins.A.toNat put1.c7).map eI))})<|rg<|om (4*1=4) rfl<|lp (d1O list prog regs b5 b6 Reads1 Puts1 at_ ins put1) h (fun _ h=>lc.rt h) (d7N list prog regs b5 b6 Reads1 Puts1 at_ ins put1 lc) fun hI=>om (V.agg (((regs.set ins.A.toNat put1.c7).map eI).flatten.map (P6 [(1,0),(4,0),(5,0),(2,0),(3,0),(6,0),(7,0)]))=.agg ((regs.set ins.A.toNat put1.c7).map eI).flatten) (congrArg V.agg (a4E (fun _=>rfl) _))<|skT [] [0,1,4,5,6,7,161,162] [(1,0),(4,0),(5,0),(2,0),(3,0),(6,0),(7,0)] [(161,.agg ((regs.set ins.A.toNat put1.c7).map eI).flatten)] hI) (fun h=>B5 h (d0i list prog regs b5 b6 Puts1 at_ ins lc) fun x2 h hc2=>rg<|cb1 a5j d3K 3 2 h fun c6i h=>B6 Reads1 Puts1<|j3 4 h (fun h=>rg<|u9 t8 7 h fun L1 a2z h=>tk 11 []<|t0 h fun e6 h=>J8 12 46 135 2 16 t6 Reads1 (p7.mk ins.B L1.i8) e6<|J0 (p7.mk ins.B L1.i8)<|(p8 h hc2 fun hI=>sk [] [0,1,4,5,6,7,8] [(1,0),(4,0),(5,0),(2,0),(3,0),(46,0),(7,0),(16,0)] hI)) (fun h=>(p8 h hc2 fun hI=>sk [] [0,1,4,5,6,7,8] [(1,0),(4,0),(5,0),(2,0),(3,0),(6,0),(7,0),(16,0)] hI)))) (fun h=>B5 h (d1o list prog b5 b6 Reads1 lc) fun x2 h hc2=>rg<|j3 1 h (fun h=>rg<|cb1 a38 b9I 3 2 h fun a6o h=>B6 Reads1 Puts1<|rg<|j3 1 h (fun h=>rg<|A7 h fun y6 hy6 h=>t0 h fun e8 h=>ob (J4 hy6)<|ob e8<|ob (N4 (enc:=eI) hy6)<|tl (tr 6 (eI y6))<|A7 h fun put2 c24 h=>E3 c24<|R1 133 2 t7 9 [] (o7.mk put2.g7 y6) c24<|(p8 h hc2 fun hI=>om ((.own 7 0 2 0 Puts1.length:V)=.own 7 0 2 0 (Puts1.set a6o.toNat (o7.mk put2.g7 y6)).length) (by simp)<|sk [.is (.cell 3 0 1) (.own 7 0 2 0 (Puts1.set a6o.toNat (o7.mk put2.g7 y6)).length)] [0,1,4,5,6,7] [(1,0),(4,0),(5,0),(2,0),(3,0),(6,0),(7,0)] hI)) (fun h=>rg<|A7 h fun y7 hy7 h=>t0 h fun e9 h=>ob (J4 hy7)<|ob e9<|ob (N4 (enc:=eI) hy7)<|tl (tr 7 (eI y7))<|tk 9 []<|t0 h fun e10 h=>J8 10 41 133 2 16 t7 Puts1 (o7.mk ins.A y7) e10<|J0 (o7.mk ins.A y7)<|(p8 h hc2 fun hI=>sk [] [0,1,4,5,6,7] [(1,0),(4,0),(5,0),(2,0),(3,0),(6,0),(41,0)] hI))) (fun h=>rg<|j3 1 h (fun h=>rg<|A7 h fun y8 hy8 h=>t0 h fun e11 h=>ob (J4 hy8)<|ob e11<|om (n9.arr 130 1 4 ((regs.map eI).set (ins.A.toNat) [vi ins.N])=n9.arr 130 1 4 ((regs.set ins.A.toNat ins.N).map eI)) (a5I rfl)<|ob (N4 (enc:=eI) hy8)<|tl (5,{a:=.rowck (eI y8) [],e:=some (.arr 130 1 4 ((regs.set ins.A.toNat ins.N).map eI))})<|(p8 h hc2 fun hI=>sk [] [0,1,4,5,6,7] [(1,0),(4,0),(5,0),(2,0),(3,0),(6,0),(7,0)] hI)) (fun h=>rg<|j3 1 h (fun h=>rg<|A7 h fun y9 hy9 h=>t0 h fun e12 h=>ob (J4 hy9)<|ob e12<|ob (N4 (enc:=eI) hy9)<|tl (tr 3 (eI y9))<|A7 h fun y10 b90 h=>t0 h fun e13 h=>ob (J4 b90)<|ob e13<|ob (N4 (enc:=eI) b90)<|tl (tr 7 (eI y10))<|t0 h fun e14 h=>ob (J4 hy9)<|ob e14<|om (n9.arr 130 1 4 ((regs.map eI).set (ins.A.toNat) [vi (l9 (y9+y10))])=n9.arr 130 1 4 ((regs.set ins.A.toNat (l9 (y9+y10))).map eI)) (a5I rfl)<|ob (N4 (enc:=eI) hy9)<|tl (10,{a:=.rowck (eI y9) [],e:=some (.arr 130 1 4 ((regs.set ins.A.toNat (l9 (y9+y10))).map eI))})<|(p8 h hc2 fun hI=>sk [] [0,1,4,5,6,7] [(1,0),(4,0),(5,0),(2,0),(3,0),(6,0),(7,0)] hI)) (fun h=>rg<|j3 1 h (fun h=>rg<|A7 h fun y11 b3I h=>t0 h fun e15 h=>ob (J4 b3I)<|ob e15<|ob (N4 (enc:=eI) b3I)<|tl (tr 3 (eI y11))<|A7 h fun y12 c1Q h=>t0 h fun e16 h=>ob (J4 c1Q)<|ob e16<|ob (N4 (enc:=eI) c1Q)<|tl (tr 7 (eI y12))<|t0 h fun e17 h=>ob (J4 b3I)<|ob e17<|om (n9.arr 130 1 4 ((regs.map eI).set (ins.A.toNat) [vi (l9 (y11-y12))])=n9.arr 130 1 4 ((regs.set ins.A.toNat (l9 (y11-y12))).map eI)) (a5I rfl)<|ob (N4 (enc:=eI) b3I)<|tl (10,{a:=.rowck (eI y11) [],e:=some (.arr 130 1 4 ((regs.set ins.A.toNat (l9 (y11-y12))).map eI))})<|(p8 h hc2 fun hI=>sk [] [0,1,4,5,6,7] [(1,0),(4,0),(5,0),(2,0),(3,0),(6,0),(7,0)] hI)) (fun h=>rg<|j3 1 h (fun h=>rg<|A7 h fun y13 c33 h=>t0 h fun e18 h=>ob (J4 c33)<|ob e18<|ob (N4 (enc:=eI) c33)<|tl (tr 3 (eI y13))<|A7 h fun y14 c6e h=>t0 h fun e19 h=>ob (J4 c6e)<|ob e19<|ob (N4 (enc:=eI) c6e)<|tl (tr 7 (eI y14))<|j3 8 h (fun h=>rg<|(p8 h hc2 fun hI=>sk [] [0,1,4,5,6,7] [(1,0),(4,0),(5,0),(2,0),(3,0),(6,0),(7,0)] hI)) (fun h=>(p8 h hc2 fun hI=>sk [] [0,1,4,5,6,7] [(1,0),(4,0),(5,0),(2,0),(3,0),(6,0),(7,0)] hI))) (fun h=>rg<|j3 1 h (fun h=>rg<|cbS a0G a6s 2 (fun _=>(by simp [a0G,N7,V3,Q0,V.simple,vi,z6,eI,t6])) (fun _=>(a0P 1)) h fun b5Q h=>x9 Reads1<|(B0 h hc2 fun h=>x9 b5Q<|fL lc h)) (fun h=>(p8 h hc2 fun hI=>sk [] [0,1,4,5,6,7] [(1,0),(4,0),(5,0),(2,0),(3,0),(6,0),(7,0)] hI))))))))) (fun h=>(lc.bk h fun hI=>sk [] [4,5,6] [(1,0),(4,0),(5,0),(2,0),(3,0),(6,0),(7,0)] hI))
def a9T(list:List m7)(prog:List m5):Option m8:=
 ((a3I list).bind fun Y4=>(bif (!Y4) then some (m8.mk [] [] 0 3) else ((a4r prog).bind fun z9=>(bif (!z9) then some (m8.mk [] [] 0 3) else ((p6 (fun s:(List Int)×(List p7)×(List o7)×(List p7)×(List o7)×Int=>a09 list prog s.1 s.2.1 s.2.2.1 s.2.2.2.1 s.2.2.2.2.1 s.2.2.2.2.2) (d81 4 (0:Int),[],[],[],[],0)).bind fun x=>x.go (fun r=>some r) fun s=>a9e s.1 s.2.1 s.2.2.1 s.2.2.2.1 s.2.2.2.2)))))
theorem c3A{list prog}:OK J6 [j5 2 t8 list,j5 4 z3 prog] (a9T list prog):=
 o9 _ fun r h=>n8<|j4 a1d a9a 1 h fun Y4 h=>j3 3 h (fun h=>rg<|fE h) (fun h=>j4 a1K b13 5 h fun z9 h=>j3 7 h (fun h=>rg<|fE h) (fun h=>rg<|om ((d81 4 ([vi 0]:List V)).flatten=[vi 0,vi 0,vi 0,vi 0]/\([vi 0]:List V).length=1) ⟨rfl,rfl⟩<|n8<|lp (d58 list prog) h (fun _ h=>J6.rt h) (d3N r) fun hI=>sk [.own (.cell 1 0 0) 135 2,.own (.cell 1 0 1) 133 2,.own (.cell 12 0 0) 135 2,.own (.cell 12 0 1) 133 2] [0,1,4,5,6,7] [(1,0),(10,0),(12,0),(15,0),(16,0),(17,0),(18,0)] hI))
def a1x:FS (Int):=⟨139,Tryz.f139,[.val [] []],[none,none],[.val [some 7] [],.val [] []],fun r=>vi r,fun _=>[none,none],Tryz.func139⟩
def b7q:Unit->KS:=fun _=>⟨a1x.k 3 [false],(bs 25 []),[some []]⟩
def c5x:Option Int:=
 some (-1)
theorem d2C(r):NF a1x r b7q (fun s=>c5x):=fun _ h=>PK<|rg<|fE h
def b9k(list:List l7)(q:p9):Int->KS:=fun v9=>⟨a1x.k 2 [],(bs 3 (.ptr 1 0 0::(bs 3 (j5 7 v5 list::(vi (list.length:Int)::(vi v9::(bs 15 []))))))),[some [],some [.var 46 [vi q.b9,vi q.Seq]]]⟩
def d0y(list:List l7)(q:p9)(v9:Int):Unit->KS:=fun _=>⟨a1x.k 5 [true,false],(bs 3 (.ptr 1 0 0::(bs 3 (j5 7 v5 list::(vi (list.length:Int)::(vi v9::(bs 15 []))))))),[some [],some [.var 46 [vi q.b9,vi q.Seq]]]⟩
def b7g(v9:Int):Option (j7 Int Int Unit):=
 some (j7.nxt (l9 (v9+1)))
theorem d70(list q v9)(lc:R7 a1x b7q (b9k list q)):NL lc (d0y list q v9) (fun s=>b7g v9):=fun _ h=>PK<|rg<|(lc.nx h fun hI=>sk [] [3,7,8,9] [(1,0)] hI)
def a7c(list:List l7)(q:p9)(v9:Int):Option (j7 Int Int Unit):=
 (bif decide (v9<(list.length:Int)) then ((idx list v9).bind fun entry=>(((bif (!entry.i7) then (bif (([entry.a7.b9,entry.a7.Seq]:List Int)==[q.b9,q.Seq]) then some (j9.ret (j7.ret v9)) else some (j9.brk ())) else some (j9.brk ())):Option (j9 (j7 Int Int Unit) Unit)).bind fun x=>x.go some fun j=>b7g v9)) else some (j7.brk ()))
theorem d36(list q):LQ a1x b7q (b9k list q) (fun s=>a7c list q s):=fun lc v9 h=>PK<|rg<|j3 0 h (fun h=>rg<|u9 v5 1 h fun entry a0d h=>B5 h (d70 list q v9 lc) fun x2 h hc2=>rg<|j3 3 h (fun h=>j3 8 h (fun h=>rg<|(B0 h hc2 fun h=>fL lc h)) (fun h=>(p8 h hc2 fun hI=>sk [] [3,7,8,9] [(1,0)] hI))) (fun h=>(p8 h hc2 fun hI=>sk [] [3,7,8,9] [(1,0)] hI))) (fun h=>(lc.bk h fun hI=>sk [] [] [] hI))
def a67(list:List l7)(q:p9):Option Int:=
 ((p6 (fun s:Int=>a7c list q s) 0).bind fun x=>x.go (fun r=>some r) fun s=>c5x)
theorem b6I{list q}:OK a1x [j5 7 v5 list,.agg (a3k q)] (a67 list q):=
 o9 _ fun r h=>n8<|lp (d36 list q) h (fun _ h=>a1x.rt h) (d2C r) fun hI=>sk [] [3,7,8,9] [(1,0)] hI
def b4v:FS (Bool×m6):=⟨138,Tryz.f138,[.val [] []],[some (0,.ptr D8 H0),none],[.ptr D8 H0,.val [] []],fun r=>.b r.1,fun r=>[some (.optr 152 (G4 r.2)),none],Tryz.func138⟩
def a9r(a:m6)(q:p9):Option (Bool×m6):=
 ((a67 a.n.a6 q).bind fun first=>some (decide (first>=0),a))
theorem b9G{a q}:OK b4v [.optr 152 (G4 a),.agg (a3k q)] (a9r a q):=
 o9 _ fun r h=>n8<|cb1 a1x b6I 6 2 h fun first h=>x9 a.n.a6<|z4 a<|fE h
def T5:FS (l7×Bool×m6):=⟨133,Tryz.f133,[.val T3 [],.val [] []],[some (0,.ptr D8 H0)],[.ptr D8 H0],fun r=>.tup [.agg (v5 r.1),.b r.2.1],fun r=>[some (.optr 152 (G4 r.2.2))],Tryz.func133⟩
def d7n(a:m6):Unit->KS:=fun _=>⟨T5.k 3 [false],(.ptr 0 0 0::(bs 1 (.ptr 1 0 0::(bs 1 (vi (a.n.a6.length:Int)::(bs 112 [])))))),[some ([.var 152 (b4i a)]++b4V a),some [.var 64 [.b false,vi 0,vi 0,.nil,.nil,vi 0,vi 0]]]⟩
def b9A(a:m6):Unit->KS:=fun _=>⟨T5.k 5 [false,false],(.ptr 0 0 0::(bs 1 (.ptr 1 0 0::(bs 114 [])))),[some ([.var 152 (b4i a)]++b4V a),some [.var 64 [.b false,vi 0,vi 0,.nil,.nil,vi 0,vi 0]]]⟩
def d3r:m6->KS:=fun a1=>⟨T5.k 6 [false,false,false],(.ptr 0 0 0::(bs 1 (.ptr 6 0 0::(bs 114 [])))),[some [.var 152 (a7W a1),.dead,.dead,.dead,.dead,.dead]]++a1c a1++[some [.var 64 [.b false,vi 0,vi 0,.nil,.nil,vi 0,vi 0]]]⟩
def c2s:m6->KS:=fun w=>⟨T5.k 7 [false,false,false,false],(bs 2 (.ptr 6 0 0::(bs 114 []))),[some [.var 152 (a7W w),.dead,.dead,.dead,.dead,.dead]]++a1c w++[some [.var 64 [.b false,vi 0,vi 0,.nil,.nil,vi 0,vi 0]]]⟩
def c52(w:m6):Option (l7×Bool×m6):=
 some ((l7.mk false (p9.mk 0 0) (m8.mk [] [] 0 0)),false,w)
theorem d8G(r):NF T5 r c2s (fun s=>c52 s):=fun w h=>PK<|rg<|z4 w<|fE h
def d07:m6->KS:=fun a2=>⟨T5.k 6 [false,false,false],(.ptr 0 0 0::(bs 1 (.ptr 6 0 0::(bs 114 [])))),[some [.var 152 (a7W a2),.dead,.dead,.dead,.dead,.dead]]++a1c a2++[some [.var 64 [.b false,vi 0,vi 0,.nil,.nil,vi 0,vi 0]]]⟩
def a2x(a2:m6):Option (j7 (l7×Bool×m6) m6 m6):=
 (bif decide ((a2.n.d8.length:Int)>0) then ((idx a2.n.d8 0).bind fun entry=>(r7 ((0:Int)<=1/\1<=(a2.n.d8.length:Int)) (((a9r (m6.mk (j6.mk a2.n.Id a2.n.Acc a2.n.a6 a2.n.Seq a2.n.a9 a2.n.a5 a2.n.b7 a2.n.f0 a2.n.c9 a2.n.a8 a2.n.i4 a2.n.i6 a2.n.b8 ((a2.n.d8.drop (1:Int).toNat).take (a2.n.d8.length-(1:Int).toNat))) a2.out a2.told) entry.a7).bind fun a8U=>(bif (!a8U.1) then some (j7.ret (entry,true,a8U.2)) else some (j7.nxt a8U.2)))))) else some (j7.brk a2))
theorem d7J:LQ T5 c2s d07 (fun s=>a2x s):=fun lc a2 h=>PK<|rg<|j3 6 h (fun h=>rg<|u9 v5 5 h fun entry a0d h=>rg<|t0 h fun e1 h=>om (V.sl 7 (a2.n.d8.length-(1:Int).toNat) (((a2.n.d8.map v5).drop (1:Int).toNat).take (a2.n.d8.length-(1:Int).toNat))=j5 7 v5 ((a2.n.d8.drop (1:Int).toNat).take (a2.n.d8.length-(1:Int).toNat))) (b4L e1)<|ob e1.1<|ob e1.2<|tl (6,{v:=some (j5 7 v5 ((a2.n.d8.drop (1:Int).toNat).take (a2.n.d8.length-(1:Int).toNat)))})<|rg<|j4 b4v b9G 3 h fun a8U h=>z4 a2<|j3 4 h (fun h=>rg<|z4 a8U.2<|fL lc h) (fun h=>(lc.nx h fun hI=>sk [] [0,2] [(37,0),(37,1),(37,2),(37,3),(37,4),(6,0)] hI))) (fun h=>(lc.bk h fun hI=>sk [] [2] [(1,0),(2,0),(3,0),(4,0),(5,0),(6,0)] hI))
def b3n(a1:m6):Option (l7×Bool×m6):=
 ((p6 (fun s:m6=>a2x s) a1).bind fun x=>x.go (fun r=>some r) fun s=>c52 s)
theorem d1a(r):NF T5 r d3r (fun s=>b3n s):=fun a1 h=>PK<|lp (d7J) h (fun _ h=>T5.rt h) (d8G r) fun hI=>sk [] [0,2] [(1,0),(2,0),(3,0),(4,0),(5,0),(6,0)] hI
def b5l(a:m6):Option (l7×Bool×m6):=
 (((bif a.n.i4 then ((a9r a a.n.b8.a7).bind fun a6A=>(bif (!a6A.1) then some (j9.ret (a6A.2.n.b8,true,a6A.2)) else some (j9.brk a6A.2))) else some (j9.brk a)):Option (j9 (l7×Bool×m6) m6)).bind fun x=>x.go some fun j=>b3n j)
theorem d1P(a)(r):NF T5 r (b9A a) (fun s=>b5l a):=fun _ h=>PK<|B5 h (d1a r) fun x1 h hc1=>rg<|j3 5 h (fun h=>j4 b4v b9G 13 h fun a6A h=>z4 a<|j3 15 h (fun h=>rg<|(B0 h hc1 fun h=>z4 a6A.2<|fE h)) (fun h=>(p8 h hc1 fun hI=>sk [] [0,2] [(15,0),(15,1),(15,2),(15,3),(15,4),(1,0)] hI))) (fun h=>(p8 h hc1 fun hI=>sk [] [0,2] [(0,1),(0,2),(0,3),(0,4),(0,5),(1,0)] hI))
def c6G(a:m6):Int->KS:=fun i=>⟨T5.k 4 [false],(.ptr 0 0 0::(bs 1 (.ptr 1 0 0::(bs 2 (vi i::(bs 111 [])))))),[some ([.var 152 (b4i a)]++b4V a),some [.var 64 [.b false,vi 0,vi 0,.nil,.nil,vi 0,vi 0]]]⟩
def a2p(a:m6)(i:Int):Option (j7 (l7×Bool×m6) Int Unit):=
 (bif decide (i<(a.n.f0.length:Int)) then ((idx a.n.f0 i).bind fun vote=>(bif (vote.a5 != 0) then some (j7.ret ((l7.mk true (p9.mk 0 0) (m8.mk [] [] 0 0)),true,a)) else some (j7.nxt (l9 (i+1))))) else some (j7.brk ()))
theorem c9t(a):LQ T5 (b9A a) (c6G a) (fun s=>a2p a s):=fun lc i h=>PK<|rg<|j3 7 h (fun h=>rg<|u9 s5 6 h fun vote a4c h=>j3 9 h (fun h=>rg<|z4 a<|fL lc h) (fun h=>rg<|(lc.nx h fun hI=>sk [] [0,2,5] [(1,0)] hI))) (fun h=>(lc.bk h fun hI=>sk [] [0,2] [(1,0)] hI))
def b3A(a:m6):Option (l7×Bool×m6):=
 ((p6 (fun s:Int=>a2p a s) (l9 ((a.n.a6.length:Int)+1))).bind fun x=>x.go (fun r=>some r) fun s=>b5l a)
theorem d1f(a)(r):NF T5 r (d7n a) (fun s=>b3A a):=fun _ h=>PK<|rg<|lp (c9t a) h (fun _ h=>T5.rt h) (d1P a r) fun hI=>sk [] [0,2,5] [(1,0)] hI
def b2a(a:m6):Option (l7×Bool×m6):=
 (((bif decide ((a.n.a6.length:Int)<(a.n.f0.length:Int)) then ((idx a.n.f0 (a.n.a6.length:Int)).bind fun U8=>(bif (U8.a5 != 0) then some (j9.ret (U8.d7,true,a)) else some (j9.brk ()))) else some (j9.brk ())):Option (j9 (l7×Bool×m6) Unit)).bind fun x=>x.go some fun j=>b3A a)
theorem c9G{a}:OK T5 [.optr 152 (G4 a)] (b2a a):=
 o9 _ fun r h=>n8<|B5 h (d1f a r) fun x1 h hc1=>rg<|j3 8 h (fun h=>u9 s5 15 h fun U8 a5q h=>j3 19 h (fun h=>rg<|Z7 s5 6 a5q<|(B0 h hc1 fun h=>z4 a<|fE h)) (fun h=>(p8 h hc1 fun hI=>sk [] [0,2,4] [(1,0)] hI))) (fun h=>(p8 h hc1 fun hI=>sk [] [0,2,4] [(1,0)] hI))
def c3u:FS (v6×Bool):=⟨116,Tryz.f116,[.val [none,some 8] [none,some 140],.val [] []],[none,none],[.val [none,some 8] [],.val [] []],fun r=>.tup [.agg [vi r.1.d9,z6 140 8 s5 r.1.a8],.b r.2],fun _=>[none,none],Tryz.func116⟩
def b4z(a:v6)(bal:Int):Option (v6×Bool):=
 ((a6F a).bind fun K2=>(bif (!K2) then some ((v6.mk 0 []),false) else ((a2v a).bind fun K5=>((A0 bal 1 3000).bind fun in_=>(bif (!in_) then some (K5,false) else (bif decide (bal<a.d9) then some (K5,false) else some ((v6.mk bal K5.a8),true)))))))
theorem d6Q{a bal}:OK c3u [.agg (a3Y a),vi bal] (b4z a bal):=
 o9 _ fun r h=>n8<|j4 a2Z b6Y 1 h fun K2 h=>j3 2 h (fun h=>rg<|fE h) (fun h=>rg<|j4 a5k a6l 1 h fun K5 h=>rg<|j4 z8 A8 1 h fun in_ h=>j3 3 h (fun h=>rg<|x9 K5.a8<|fE h) (fun h=>j3 8 h (fun h=>rg<|x9 K5.a8<|fE h) (fun h=>n8<|x9 K5.a8<|fE h)))
def a32:FS (v6×Bool):=⟨134,Tryz.f134,[.val [none,some 8] [],.val [] []],[none,none,none,none],[.val [none,some 8] [],.val [] [],.val [] [],.val T3 []],fun r=>.tup [.agg (a3Y r.1),.b r.2],fun _=>[none,none,none,none],Tryz.func134⟩
def c1E(bal:Int)(slot:Int)(e_:l7)(o:v6×Bool):(List n7)->KS:=fun a3Z=>⟨a32.k 5 [false,false,false],(bs 1 (vi bal::(vi slot::(bs 4 (.ptr 1 0 0::(.ptr 2 0 0::(bs 1 (.ptr 3 0 0::(bs 40 []))))))))),[some [],some [.var 64 (a8w e_)],some [.var 56 [vi 0,.nil]],some [.var 56 [vi o.1.d9,.own 4 0 8 0 a3Z.length]],some [m4 140 8 s5 a3Z]]⟩
def b43(bal:Int)(slot:Int)(e_:l7)(o:v6×Bool)(a3Z:List n7):Option (v6×Bool):=
 ((idx a3Z slot).bind fun vote=>((a2v (v6.mk o.1.d9 (a3Z.set slot.toNat (n7.mk bal e_)))).bind fun b7A=>some (b7A,true)))
theorem d3b(bal slot e_ o)(r):NF a32 r (c1E bal slot e_ o) (fun s=>b43 bal slot e_ o s):=fun a3Z h=>PK<|rg<|A7 h fun vote a4c h=>E3 a4c<|R1 140 8 s5 7 a1G (n7.mk bal e_) a4c<|rg<|j4 a5k a6l 1 h fun b7A h=>om (a3Z.length=(a3Z.set slot.toNat (n7.mk bal e_)).length) (by simp)<|x9 b7A.a8<|fE h
def c6D(bal:Int)(slot:Int)(e_:l7)(o:v6×Bool):(List n7)->KS:=fun a8=>⟨a32.k 4 [false,false],(bs 1 (vi bal::(vi slot::(bs 4 (.ptr 1 0 0::(.ptr 2 0 0::(bs 1 (.ptr 3 0 0::(bs 40 []))))))))),[some [],some [.var 64 (a8w e_)],some [.var 56 [vi 0,.nil]],some [.var 56 [vi o.1.d9,.own 4 0 8 0 a8.length]],some [m4 140 8 s5 a8]]⟩
def a47(slot:Int)(a8:List n7):Option (j7 (v6×Bool) (List n7) (List n7)):=
 (bif decide ((a8.length:Int)<=slot) then (r7 ((a8.length+1)*96<=140737488355328) (some (j7.nxt (a8++[(n7.mk 0 (l7.mk false (p9.mk 0 0) (m8.mk [] [] 0 0)))])))) else some (j7.brk a8))
theorem d1x(bal slot e_ o):LQ a32 (c1E bal slot e_ o) (c6D bal slot e_ o) (fun s=>a47 slot s):=fun lc a8 h=>PK<|rg<|j3 4 h (fun h=>rg<|tk 3 a1G<|t0 h fun e1 h=>J8 4 14 140 8 96 s5 a8 (n7.mk 0 (l7.mk false (p9.mk 0 0) (m8.mk [] [] 0 0))) e1<|J0 (n7.mk 0 (l7.mk false (p9.mk 0 0) (m8.mk [] [] 0 0)))<|(lc.nx h fun hI=>sk [] [1,2,7,8,10] [(1,0),(2,0),(3,0),(14,0)] hI)) (fun h=>(lc.bk h fun hI=>sk [] [1,2,7,8,10] [(1,0),(2,0),(3,0),(4,0)] hI))
def a9m(a:v6)(bal:Int)(slot:Int)(e_:l7):Option (v6×Bool):=
 ((b4z a bal).bind fun o=>(bif (!o.2) then some (o.1,false) else ((A0 slot 0 39).bind fun in_=>(bif (!in_) then ((a2v a).bind fun K5=>some (K5,false)) else ((a0n e_).bind fun C5=>(bif (!C5) then ((a2v a).bind fun b6R=>some (b6R,false)) else ((p6 (fun s:List n7=>a47 slot s) o.1.a8).bind fun x=>x.go (fun r=>some r) fun s=>b43 bal slot e_ o s)))))))
theorem c0J{a bal slot e_}:OK a32 [.agg (a3Y a),vi bal,vi slot,.agg (v5 e_)] (a9m a bal slot e_):=
 o9 _ fun r h=>n8<|j4 c3u d6Q 2 h fun o h=>rg<|j3 1 h (fun h=>rg<|x9 o.1.a8<|fE h) (fun h=>rg<|j4 z8 A8 1 h fun in_ h=>j3 3 h (fun h=>rg<|j4 a5k a6l 1 h fun K5 h=>x9 K5.a8<|fE h) (fun h=>j4 a08 a2h 5 h fun C5 h=>j3 7 h (fun h=>rg<|j4 a5k a6l 1 h fun b6R h=>x9 b6R.a8<|fE h) (fun h=>lp (d1x bal slot e_ o) h (fun _ h=>a32.rt h) (d3b bal slot e_ o r) fun hI=>sk [] [1,2,7,8,10] [(2,0),(3,0),(11,0),(7,0)] hI)))
def b3E:FS (m6):=⟨115,Tryz.f115,[],[some (0,.ptr D8 H0)],[.ptr D8 H0],fun _=>.tup [],fun r=>[some (.optr 152 (G4 r))],Tryz.func115⟩
def a9O(a:m6):Option m6:=
 some (m6.mk (j6.mk a.n.Id a.n.Acc a.n.a6 a.n.Seq 0 0 [] [] (l7.mk false (p9.mk 0 0) (m8.mk [] [] 0 0)) [] a.n.i4 a.n.i6 a.n.b8 a.n.d8) a.out a.told)
theorem b63{a}:OK b3E [.optr 152 (G4 a)] (a9O a):=
 o9 _ fun r h=>rg4<|n8<|ol3 a.n.a6 a.out a.told<|fE h
def b6i:FS ((List Bool)×m6):=⟨117,Tryz.f117,[.val [some 1] [some 4]],[some (0,.ptr D8 H0)],[.ptr D8 H0],fun r=>z6 4 1 eB r.1,fun r=>[some (.optr 152 (G4 r.2))],Tryz.func117⟩
def a7J(a:m6):Option ((List Bool)×m6):=
 (r7 (0<=(3:Int)/\(3:Int)*1<=140737488355328) (((idx (d81 (3:Int).toNat false) a.n.Id).bind fun y=>some ((d81 (3:Int).toNat false).set a.n.Id.toNat true,a))))
theorem b8B{a}:OK b6i [.optr 152 (G4 a)] (a7J a):=
 o9 _ fun r h=>n8<|t0 h fun e1 h=>S4 0 2 4 1 1 eB false ti4 (.none) e1 (by decide) (by rfl)<|rg<|A7 h fun y hy h=>E3 hy<|R1 4 1 eB 7 [] true hy<|rg<|om ((d81 (3:Int).toNat false).length=((d81 (3:Int).toNat false).set a.n.Id.toNat true).length) (by simp)<|z4 a<|fE h
def a3c:FS (m6):=⟨125,Tryz.f125,[],[some (0,.ptr D8 H0),none,none],[.ptr D8 H0,.val [] [],.val P5 []],fun _=>.tup [],fun r=>[some (.optr 152 (G4 r)),none,none],Tryz.func125⟩
def a1Z(a:m6)(to:Int)(m:l8):Option m6:=
 (r7 ((a.out.length+1)*152<=140737488355328) (some (m6.mk a.n (a.out++[(l8.mk m.a0 a.n.Id to m.a5 m.c8 m.d7 m.a8)]) a.told)))
theorem a4H{a to m}:OK a3c [.optr 152 (G4 a),vi to,.agg (t9 m)] (a1Z a to m):=
 o9 _ fun r h=>rg4<|tk 6 P5<|t0 h fun e1 h=>J8 7 19 93 13 152 t9 a.out (l8.mk m.a0 a.n.Id to m.a5 m.c8 m.d7 m.a8) e1<|J0 (l8.mk m.a0 a.n.Id to m.a5 m.c8 m.d7 m.a8)<|ol4 a.n.a6 a.n.b7 a.n.a8 (a.out++[(l8.mk m.a0 a.n.Id to m.a5 m.c8 m.d7 m.a8)])<|x9 a.told<|fE h
def X5:FS (m6):=⟨113,Tryz.f113,[],[some (0,.ptr D8 H0),none],[.ptr D8 H0,.val P5 []],fun _=>.tup [],fun r=>[some (.optr 152 (G4 r)),none],Tryz.func113⟩
def c0p(m:l8):(Int×m6)->KS:=fun (to,a1)=>⟨X5.k 2 [],(.ptr 0 0 0::(bs 2 (.ptr 1 0 0::(vi to::(bs 15 []))))),[some [.var 152 (d0G a1),.dead,.dead,.dead,.dead,.dead],some [.var 93 (a6h m)]]++c6N a1⟩
def d5w(m:l8)(to:Int):m6->KS:=fun a2=>⟨X5.k 5 [true,true],(.ptr 0 0 0::(bs 2 (.ptr 6 0 0::(vi to::(bs 15 []))))),[some [.var 152 (a7W a2),.dead,.dead,.dead,.dead,.dead]]++a1c a2++[some [.var 93 (a6h m)]]⟩
def b7G(to:Int)(a2:m6):Option (j7 m6 (Int×m6) Unit):=
 some (j7.nxt (l9 (to+1),a2))
theorem d6l(m to)(lc:R7 X5 noK (c0p m)):NL lc (d5w m to) (fun s=>b7G to s):=fun a2 h=>PK<|rg<|(lc.nx h fun hI=>sk [] [0,3,4] [(6,0),(5,0),(4,0),(3,0),(2,0),(1,0)] hI)
def a2y(m:l8)(to:Int)(a1:m6):Option (j7 m6 (Int×m6) Unit):=
 (bif decide (to<3) then (((bif (to != a1.n.Id) then ((a1Z a1 to m).bind fun R8=>some (j9.brk R8)) else some (j9.brk a1)):Option (j9 (j7 m6 (Int×m6) Unit) m6)).bind fun x=>x.go some fun j=>b7G to j) else some (j7.ret a1))
theorem c9l(m):LQ X5 noK (c0p m) (fun s=>a2y m s.1 s.2):=fun lc (to,a1) h=>PK<|rg<|j3 1 h (fun h=>B5 h (d6l m to lc) fun x2 h hc2=>rg<|j3 6 h (fun h=>rg<|j4 a3c a4H 3 h fun R8 h=>z4 a1<|(p8 h hc2 fun hI=>sk [] [0,3,4] [(19,0),(19,1),(19,2),(19,3),(19,4),(1,0)] hI)) (fun h=>(p8 h hc2 fun hI=>sk [] [0,3,4] [(6,0),(5,0),(4,0),(3,0),(2,0),(1,0)] hI))) (fun h=>z4 a1<|fL lc h)
def a1h(a:m6)(m:l8):Option m6:=
 ((p6 (fun s:Int×m6=>a2y m s.1 s.2) (0,a)).bind fun x=>x.go (fun r=>some r) fun _=>none)
theorem a4i{a m}:OK X5 [.optr 152 (G4 a),.agg (t9 m)] (a1h a m):=
 o9 _ fun r h=>n8<|lp (c9l m) h (fun _ h=>X5.rt h) (fun _ h=>nomatch h) fun hI=>sk [] [0,3,4] [(1,0),(0,5),(0,4),(0,3),(0,2),(0,1)] hI
def a62:FS (m6):=⟨112,Tryz.f112,[],[some (0,.ptr D8 H0)],[.ptr D8 H0],fun _=>.tup [],fun r=>[some (.optr 152 (G4 r))],Tryz.func112⟩
def a4k(a:m6):Option m6:=
 (bif (a.n.a9 != 2) then some a else (bif decide ((a.n.a6.length:Int)>=40) then some a else ((b2a a).bind fun next=>(bif (!next.2.1) then some next.2.2 else ((a9m next.2.2.n.Acc next.2.2.n.a5 (next.2.2.n.a6.length:Int) next.1).bind fun a5s=>(bif (!a5s.2) then ((a9O next.2.2).bind fun follow=>some follow) else ((a7J (m6.mk (j6.mk next.2.2.n.Id a5s.1 next.2.2.n.a6 next.2.2.n.Seq next.2.2.n.a9 next.2.2.n.a5 next.2.2.n.b7 next.2.2.n.f0 next.1 next.2.2.n.a8 next.2.2.n.i4 next.2.2.n.i6 next.2.2.n.b8 next.2.2.n.d8) next.2.2.out next.2.2.told)).bind fun B3=>((a1h (m6.mk (j6.mk B3.2.n.Id B3.2.n.Acc B3.2.n.a6 B3.2.n.Seq 3 B3.2.n.a5 B3.2.n.b7 B3.2.n.f0 B3.2.n.c9 B3.1 B3.2.n.i4 B3.2.n.i6 B3.2.n.b8 B3.2.n.d8) B3.2.out B3.2.told) (l8.mk 3 0 0 B3.2.n.a5 (B3.2.n.a6.length:Int) next.1 [])).bind fun all=>some all))))))))
theorem a9B{a}:OK a62 [.optr 152 (G4 a)] (a4k a):=
 o9 _ fun r h=>rg<|j3 6 h (fun h=>z4 a<|fE h) (fun h=>j3 14 h (fun h=>z4 a<|fE h) (fun h=>rg<|j4 T5 c9G 1 h fun next h=>z4 a<|rg<|j3 1 h (fun h=>z4 next.2.2<|fE h) (fun h=>rg<|j4 a32 c0J 17 h fun a5s h=>rg<|j3 1 h (fun h=>rg<|j4 b3E b63 1 h fun follow h=>z4 next.2.2<|z4 follow<|fE h) (fun h=>X1<|j4 b6i b8B 2 h fun B3 h=>z4 next.2.2<|n8<|j4 X5 a4i 14 h fun all h=>ol4 B3.2.n.a6 B3.2.n.b7 B3.1 B3.2.out<|x9 B3.2.told<|z4 all<|fE h))))
def b2V:FS (j6×(List l8)×List r9):=⟨83,Tryz.f83,[.val I0 [],.val [some 13] [],.val [some 5] []],[none,none],[.val I0 [],.val [some 4] []],fun r=>.tup [.agg (w5 r.1),j5 13 t9 r.2.1,j5 5 z7 r.2.2],fun _=>[none,none],Tryz.func83⟩
def d3T:m6->KS:=fun a=>⟨b2V.k 11 [false,false,true],(bs 4 (.ptr 1 0 0::(bs 2 (.ptr 2 0 0::(bs 80 []))))),[some [],some [.var 66 [vi 0,vi 0,.nil,.nil,vi 0,vi 0,vi 0,.nil,.nil,.b false,vi 0,vi 0,.nil,.nil,vi 0,vi 0,.nil,.b false,.nil,.b false,vi 0,vi 0,.nil,.nil,vi 0,vi 0,.nil]],some [.var 152 (a82 a)]]++a1c a⟩
def b05(a:m6):Option (j6×(List l8)×List r9):=
 ((a0j a).bind fun b0N=>some (b0N.1,b0N.2.1,b0N.2.2.1))
theorem d09(r):NF b2V r d3T (fun s=>b05 s):=fun a h=>PK<|rg<|j4 a1A a2o 1 h fun b0N h=>z4 a<|fE h
def b1b(n:j6)(prog:List m5):Option (j6×(List l8)×List r9):=
 ((a1H n).bind fun D6=>(bif (!D6) then some ((j6.mk 0 (v6.mk 0 []) [] 0 0 0 [] [] (l7.mk false (p9.mk 0 0) (m8.mk [] [] 0 0)) [] false [] (l7.mk false (p9.mk 0 0) (m8.mk [] [] 0 0)) []),[],[]) else ((a4x n).bind fun begin=>(bif n.i4 then ((a0j begin).bind fun Q5=>some (Q5.1,Q5.2.1,Q5.2.2.1)) else (bif (n.Seq==1000) then ((a0j begin).bind fun a2Y=>some (a2Y.1,a2Y.2.1,a2Y.2.2.1)) else ((a4r prog).bind fun z9=>(bif (!z9) then ((a0j begin).bind fun a2P=>some (a2P.1,a2P.2.1,a2P.2.2.1)) else ((a8M n).bind fun a9F=>((a9T a9F.i0 prog).bind fun A6=>(((bif (n.a9==2) then ((a4k (m6.mk (j6.mk begin.n.Id begin.n.Acc begin.n.a6 (l9 (begin.n.Seq+1)) begin.n.a9 begin.n.a5 begin.n.b7 begin.n.f0 begin.n.c9 begin.n.a8 true prog (l7.mk false (p9.mk n.Id (l9 (begin.n.Seq+1))) A6) begin.n.d8) begin.out begin.told)).bind fun R2=>some (j9.brk R2)) else (bif (n.a9==0) then ((a1h (m6.mk (j6.mk begin.n.Id begin.n.Acc begin.n.a6 (l9 (begin.n.Seq+1)) begin.n.a9 begin.n.a5 begin.n.b7 begin.n.f0 begin.n.c9 begin.n.a8 true prog (l7.mk false (p9.mk n.Id (l9 (begin.n.Seq+1))) A6) begin.n.d8) begin.out begin.told) (l8.mk 7 0 0 0 0 (l7.mk false (p9.mk n.Id (l9 (begin.n.Seq+1))) A6) [])).bind fun all=>some (j9.brk all)) else some (j9.brk (m6.mk (j6.mk begin.n.Id begin.n.Acc begin.n.a6 (l9 (begin.n.Seq+1)) begin.n.a9 begin.n.a5 begin.n.b7 begin.n.f0 begin.n.c9 begin.n.a8 true prog (l7.mk false (p9.mk n.Id (l9 (begin.n.Seq+1))) A6) begin.n.d8) begin.out begin.told)))):Option (j9 (j6×(List l8)×List r9) m6)).bind fun x=>x.go some fun j=>b05 j))))))))))
theorem d2b{n prog}:OK b2V [.agg (w5 n),j5 4 z3 prog] (b1b n prog):=
 o9 _ fun r h=>n8<|j4 U6 a4u 1 h fun D6 h=>j3 2 h (fun h=>rg<|fE h) (fun h=>rg<|j4 a9K b2I 1 h fun begin h=>rg<|j3 2 h (fun h=>rg<|j4 a1A a2o 1 h fun Q5 h=>I8 begin.n<|B6 begin.out begin.told<|fE h) (fun h=>j3 7 h (fun h=>rg<|j4 a1A a2o 1 h fun a2Y h=>I8 begin.n<|B6 begin.out begin.told<|fE h) (fun h=>j4 a1K b13 9 h fun z9 h=>j3 11 h (fun h=>rg<|j4 a1A a2o 1 h fun a2P h=>I8 begin.n<|B6 begin.out begin.told<|fE h) (fun h=>rg4<|j4 b6m c0V 10 h fun a9F h=>j4 J6 c3A 13 h fun A6 h=>rg<|B5 h (d09 r) fun x1 h hc1=>rg<|j3 1 h (fun h=>rg<|j4 a62 a9B 1 h fun R2 h=>I8 begin.n<|B6 begin.out begin.told<|(p8 h hc1 fun hI=>sk [] [4,7] [(2,0),(9,0),(68,0),(68,1),(68,2),(68,3),(68,4)] hI)) (fun h=>rg<|j3 1 h (fun h=>rg<|j4 X5 a4i 7 h fun all h=>I8 begin.n<|B6 begin.out begin.told<|(p8 h hc1 fun hI=>sk [] [4,7] [(2,0),(9,0),(76,0),(76,1),(76,2),(76,3),(76,4)] hI)) (fun h=>(p8 h hc1 fun hI=>x9 begin.n.d8<|sk [.frz (.cell 9 0 26) (none)] [4,7] [(2,0),(9,0),(9,1),(9,2),(9,3),(9,5),(9,6)] hI)))))))
def O0:FS (j8):=⟨84,Tryz.f84,[.val J5 om2],[none,none,none,none],[.val J5 om2,.val I0 [],.val [some 13] [],.val [some 5] []],fun r=>.agg (a5r r),fun _=>[none,none,none,none],Tryz.func84⟩
def b40(w:j8)(n:j6)(told:List r9):(List l8)->KS:=fun Net1=>⟨O0.k 4 [false],(bs 3 (j5 5 z7 told::(.ptr 1 0 0::(bs 3 (.ptr 3 0 0::(bs 45 [])))))),[some [m4 66 27 w5 (w.c6.set n.Id.toNat n),.dead,m4 96 3 C6 w.g9,m4 48 5 z7 w.Told],some [.var 32 [.own 0 0 27 0 (w.c6.set n.Id.toNat n).length,.own 2 0 13 0 Net1.length,.own 0 2 3 0 w.g9.length,.own 0 3 5 0 w.Told.length]],some [m4 93 13 t9 Net1],some [.var 32 [.nil,.nil,.nil,.nil]]]⟩
def b7I(w:j8)(n:j6)(Net1:List l8):(List r9)->KS:=fun a6P=>⟨O0.k 6 [false,false],(bs 4 (.ptr 1 0 0::(bs 3 (.ptr 4 0 0::(bs 45 []))))),[some [m4 66 27 w5 (w.c6.set n.Id.toNat n),.dead,m4 96 3 C6 w.g9,.dead],some [.var 32 [.own 0 0 27 0 (w.c6.set n.Id.toNat n).length,.own 2 0 13 0 Net1.length,.own 0 2 3 0 w.g9.length,.own 3 0 5 0 a6P.length]],some [m4 93 13 t9 Net1],some [m4 48 5 z7 a6P],some [.var 32 [.nil,.nil,.nil,.nil]]]⟩
def b5x(w:j8)(n:j6)(Net1:List l8)(a6P:List r9):Option j8:=
 some (j8.mk (w.c6.set n.Id.toNat n) Net1 w.g9 a6P)
theorem d8n(w n Net1)(r):NF O0 r (b7I w n Net1) (fun s=>b5x w n Net1 s):=fun a6P h=>PK<|rg<|ol4 (w.c6.set n.Id.toNat n) Net1 w.g9 a6P<|fE h
def c2M(w:j8)(n:j6)(told:List r9)(Net1:List l8):((List r9)×Int)->KS:=fun (Told,v38)=>⟨O0.k 5 [false],(bs 4 (.ptr 1 0 0::(bs 3 (.ptr 3 0 0::(bs 27 (j5 5 z7 told::(vi (told.length:Int)::(vi v38::(bs 15 []))))))))),[some [m4 66 27 w5 (w.c6.set n.Id.toNat n),.dead,m4 96 3 C6 w.g9,.dead],some [.var 32 [.own 0 0 27 0 (w.c6.set n.Id.toNat n).length,.own 2 0 13 0 Net1.length,.own 0 2 3 0 w.g9.length,.own 4 0 5 0 Told.length]],some [m4 93 13 t9 Net1],some [.var 32 [.nil,.nil,.nil,.nil]],some [m4 48 5 z7 Told]]⟩
def c7f(w:j8)(n:j6)(told:List r9)(Net1:List l8)(v38:Int):(List r9)->KS:=fun a9V=>⟨O0.k 9 [false,true,true],(bs 4 (.ptr 1 0 0::(bs 3 (.ptr 4 0 0::(bs 27 (j5 5 z7 told::(vi (told.length:Int)::(vi v38::(bs 15 []))))))))),[some [m4 66 27 w5 (w.c6.set n.Id.toNat n),.dead,m4 96 3 C6 w.g9,.dead],some [.var 32 [.own 0 0 27 0 (w.c6.set n.Id.toNat n).length,.own 2 0 13 0 Net1.length,.own 0 2 3 0 w.g9.length,.own 3 0 5 0 a9V.length]],some [m4 93 13 t9 Net1],some [m4 48 5 z7 a9V],some [.var 32 [.nil,.nil,.nil,.nil]]]⟩
def b3s(v38:Int)(a9V:List r9):Option (j7 j8 ((List r9)×Int) (List r9)):=
 some (j7.nxt (a9V,l9 (v38+1)))
theorem d4H(w n told Net1 v38)(lc:R7 O0 (b7I w n Net1) (c2M w n told Net1)):NL lc (c7f w n told Net1 v38) (fun s=>b3s v38 s):=fun a9V h=>PK<|rg<|(lc.nx h fun hI=>sk [] [4,8,36,37,38] [(1,0),(2,0),(4,0),(3,0)] hI)
def a17(told:List r9)(Told:List r9)(v38:Int):Option (j7 j8 ((List r9)×Int) (List r9)):=
 (bif decide (v38<(told.length:Int)) then ((idx told v38).bind fun b0W=>(((bif decide ((Told.length:Int)<60) then (r7 ((Told.length+1)*40<=140737488355328) (some (j9.brk (Told++[b0W])))) else some (j9.brk Told)):Option (j9 (j7 j8 ((List r9)×Int) (List r9)) (List r9))).bind fun x=>x.go some fun j=>b3s v38 j)) else some (j7.brk Told))
theorem d1E(w n told Net1):LQ O0 (b7I w n Net1) (c2M w n told Net1) (fun s=>a17 told s.1 s.2):=fun lc (Told,v38) h=>PK<|rg<|j3 0 h (fun h=>rg<|u9 z7 0 h fun b0W d8V h=>B5 h (d4H w n told Net1 v38 lc) fun x2 h hc2=>rg<|j3 3 h (fun h=>rg<|tk 3 []<|t0 h fun e1 h=>J8 4 18 48 5 40 z7 Told b0W e1<|J0 b0W<|(p8 h hc2 fun hI=>sk [] [4,8,36,37,38] [(1,0),(2,0),(18,0),(3,0)] hI)) (fun h=>(p8 h hc2 fun hI=>sk [] [4,8,36,37,38] [(1,0),(2,0),(4,0),(3,0)] hI))) (fun h=>(lc.bk h fun hI=>sk [] [4,8] [(1,0),(2,0),(4,0),(3,0)] hI))
def b4Z(w:j8)(n:j6)(told:List r9)(Net1:List l8):Option j8:=
 ((p6 (fun s:(List r9)×Int=>a17 told s.1 s.2) (w.Told,0)).bind fun x=>x.go (fun r=>some r) fun s=>b5x w n Net1 s)
theorem c73(w n told)(r):NF O0 r (b40 w n told) (fun s=>b4Z w n told s):=fun Net1 h=>PK<|rg<|lp (d1E w n told Net1) h (fun _ h=>O0.rt h) (d8n w n Net1 r) fun hI=>sk [] [4,8,36,37,38] [(1,0),(2,0),(3,0),(0,3)] hI
def b9j(w:j8)(n:j6)(list:List l8)(told:List r9):((List l8)×Int)->KS:=fun (g8,v21)=>⟨O0.k 3 [],(bs 3 (j5 5 z7 told::(.ptr 1 0 0::(bs 3 (.ptr 2 0 0::(bs 10 (j5 13 t9 list::(vi (list.length:Int)::(vi v21::(bs 32 [])))))))))),[some [m4 66 27 w5 (w.c6.set n.Id.toNat n),.dead,m4 96 3 C6 w.g9,m4 48 5 z7 w.Told],some [.var 32 [.own 0 0 27 0 (w.c6.set n.Id.toNat n).length,.own 3 0 13 0 g8.length,.own 0 2 3 0 w.g9.length,.own 0 3 5 0 w.Told.length]],some [.var 32 [.nil,.nil,.nil,.nil]],some [m4 93 13 t9 g8]]⟩
def d2f(w:j8)(n:j6)(list:List l8)(told:List r9)(v21:Int):(List l8)->KS:=fun a9G=>⟨O0.k 7 [true,true],(bs 3 (j5 5 z7 told::(.ptr 1 0 0::(bs 3 (.ptr 3 0 0::(bs 10 (j5 13 t9 list::(vi (list.length:Int)::(vi v21::(bs 32 [])))))))))),[some [m4 66 27 w5 (w.c6.set n.Id.toNat n),.dead,m4 96 3 C6 w.g9,m4 48 5 z7 w.Told],some [.var 32 [.own 0 0 27 0 (w.c6.set n.Id.toNat n).length,.own 2 0 13 0 a9G.length,.own 0 2 3 0 w.g9.length,.own 0 3 5 0 w.Told.length]],some [m4 93 13 t9 a9G],some [.var 32 [.nil,.nil,.nil,.nil]]]⟩
def b1Z(v21:Int)(a9G:List l8):Option (j7 j8 ((List l8)×Int) (List l8)):=
 some (j7.nxt (a9G,l9 (v21+1)))
theorem c8I(w n list told v21)(lc:R7 O0 (b40 w n told) (b9j w n list told)):NL lc (d2f w n list told v21) (fun s=>b1Z v21 s):=fun a9G h=>PK<|rg<|(lc.nx h fun hI=>sk [] [3,4,8,19,20,21] [(1,0),(3,0),(2,0)] hI)
def a1D(list:List l8)(g8:List l8)(v21:Int):Option (j7 j8 ((List l8)×Int) (List l8)):=
 (bif decide (v21<(list.length:Int)) then ((idx list v21).bind fun msg=>(((bif decide ((g8.length:Int)<40) then (r7 ((g8.length+1)*152<=140737488355328) (some (j9.brk (g8++[msg])))) else some (j9.brk g8)):Option (j9 (j7 j8 ((List l8)×Int) (List l8)) (List l8))).bind fun x=>x.go some fun j=>b1Z v21 j)) else some (j7.brk g8))
theorem d5A(w n list told):LQ O0 (b40 w n told) (b9j w n list told) (fun s=>a1D list s.1 s.2):=fun lc (g8,v21) h=>PK<|rg<|j3 0 h (fun h=>rg<|u9 t9 0 h fun msg hmsg h=>B5 h (c8I w n list told v21 lc) fun x2 h hc2=>rg<|j3 3 h (fun h=>rg<|tk 3 P5<|t0 h fun e2 h=>J8 4 17 93 13 152 t9 g8 msg e2<|J0 msg<|(p8 h hc2 fun hI=>sk [] [3,4,8,19,20,21] [(1,0),(17,0),(2,0)] hI)) (fun h=>(p8 h hc2 fun hI=>sk [] [3,4,8,19,20,21] [(1,0),(3,0),(2,0)] hI))) (fun h=>(lc.bk h fun hI=>sk [] [3,4,8] [(1,0),(3,0),(2,0)] hI))
def a2m(w:j8)(n:j6)(list:List l8)(told:List r9):Option j8:=
 ((idx w.c6 n.Id).bind fun node=>((p6 (fun s:(List l8)×Int=>a1D list s.1 s.2) (w.g8,0)).bind fun x=>x.go (fun r=>some r) fun s=>b4Z w n told s))
theorem a7l{w n list told}:OK O0 [.agg (a5r w),.agg (w5 n),j5 13 t9 list,j5 5 z7 told] (a2m w n list told):=
 o9 _ fun r h=>n8<|A7 h fun node hnode h=>E3 hnode<|R1 66 27 w5 6 I0 n hnode<|rg<|lp (d5A w n list told) h (fun _ h=>O0.rt h) (c73 w n told r) fun hI=>om ((.own 0 0 27 0 w.c6.length:V)=.own 0 0 27 0 (w.c6.set n.Id.toNat n).length) (by simp)<|sk [.is (.cell 1 0 0) (.own 0 0 27 0 (w.c6.set n.Id.toNat n).length)] [3,4,8,19,20,21] [(1,0),(3,0),(0,1)] hI
def a4U:FS (Int):=⟨114,Tryz.f114,[.val [] []],[none,none],[.val [] [],.val [] []],fun r=>vi r,fun _=>[none,none],Tryz.func114⟩
def c5J:Unit->KS:=fun _=>⟨a4U.k 4 [false,false],(bs 28 []),[some []]⟩
def c4C:Option Int:=
 some (-1)
theorem c6C(r):NF a4U r c5J (fun s=>c4C):=fun _ h=>PK<|rg<|fE h
def c8p(who:Int):Int->KS:=fun n=>⟨a4U.k 3 [false],(bs 1 (vi who::(bs 3 (vi n::(bs 22 []))))),[some []]⟩
def a0N(who:Int)(n:Int):Option (j7 Int Int Unit):=
 (bif decide (n<=3000) then (bif decide (n>0) then ((a8l n).bind fun a39=>(bif (a39==who) then some (j7.ret n) else some (j7.nxt (l9 (n+1))))) else some (j7.brk ())) else some (j7.brk ()))
theorem d1V(who):LQ a4U c5J (c8p who) (fun s=>a0N who s):=fun lc n h=>PK<|rg<|j3 2 h (fun h=>j3 5 h (fun h=>rg<|j4 b4l c2F 1 h fun a39 h=>j3 3 h (fun h=>rg<|fL lc h) (fun h=>rg<|(lc.nx h fun hI=>sk [] [1,5] [] hI))) (fun h=>(lc.bk h fun hI=>sk [] [] [] hI))) (fun h=>(lc.bk h fun hI=>sk [] [] [] hI))
def b1L(bal:Int)(who:Int):Option Int:=
 (bif decide (bal<0) then some (-1) else ((A0 who 0 2).bind fun in_=>(bif (!in_) then some (-1) else ((p6 (fun s:Int=>a0N who s) (l9 (bal+1))).bind fun x=>x.go (fun r=>some r) fun s=>c4C))))
theorem d3p{bal who}:OK a4U [vi bal,vi who] (b1L bal who):=
 o9 _ fun r h=>n8<|j3 2 h (fun h=>rg<|fE h) (fun h=>j4 z8 A8 4 h fun in_ h=>j3 6 h (fun h=>rg<|fE h) (fun h=>rg<|lp (d1V who) h (fun _ h=>a4U.rt h) (c6C r) fun hI=>sk [] [1,5] [] hI))
def b11:FS (v6×Bool):=⟨116,Tryz.f116,[.val [none,some 8] [],.val [] []],[none,none],[.val [none,some 8] [],.val [] []],fun r=>.tup [.agg (a3Y r.1),.b r.2],fun _=>[none,none],Tryz.func116⟩
def a6Z(a:v6)(bal:Int):Option (v6×Bool):=
 ((a6F a).bind fun K2=>(bif (!K2) then some ((v6.mk 0 []),false) else ((a2v a).bind fun K5=>((A0 bal 1 3000).bind fun in_=>(bif (!in_) then some (K5,false) else (bif decide (bal<a.d9) then some (K5,false) else some ((v6.mk bal K5.a8),true)))))))
theorem b6M{a bal}:OK b11 [.agg (a3Y a),vi bal] (a6Z a bal):=
 o9 _ fun r h=>n8<|j4 a2Z b6Y 1 h fun K2 h=>j3 2 h (fun h=>rg<|fE h) (fun h=>rg<|j4 a5k a6l 1 h fun K5 h=>rg<|j4 z8 A8 1 h fun in_ h=>j3 3 h (fun h=>rg<|x9 K5.a8<|fE h) (fun h=>j3 8 h (fun h=>rg<|x9 K5.a8<|fE h) (fun h=>n8<|x9 K5.a8<|fE h)))
def a99:FS (j6×List l8):=⟨85,Tryz.f85,[.val I0 [],.val [some 13] []],[none],[.val I0 []],fun r=>.tup [.agg (w5 r.1),j5 13 t9 r.2],fun _=>[none],Tryz.func85⟩
def d26:m6->KS:=fun a=>⟨a99.k 12 [false,true],(bs 2 (.ptr 1 0 0::(bs 1 (.ptr 2 0 0::(bs 74 []))))),[some [],some [.var 66 [vi 0,vi 0,.nil,.nil,vi 0,vi 0,vi 0,.nil,.nil,.b false,vi 0,vi 0,.nil,.nil,vi 0,vi 0,.nil,.b false,.nil,.b false,vi 0,vi 0,.nil,.nil,vi 0,vi 0,.nil]],some [.var 152 (a82 a)]]++a1c a⟩
def a8t(a:m6):Option (j6×List l8):=
 ((a0j a).bind fun Q5=>some (Q5.1,Q5.2.1))
theorem d29(r):NF a99 r d26 (fun s=>a8t s):=fun a h=>PK<|rg<|j4 a1A a2o 1 h fun Q5 h=>z4 a<|rg<|fE h
def b18(n:j6):Option (j6×List l8):=
 ((a1H n).bind fun D6=>(bif (!D6) then some ((j6.mk 0 (v6.mk 0 []) [] 0 0 0 [] [] (l7.mk false (p9.mk 0 0) (m8.mk [] [] 0 0)) [] false [] (l7.mk false (p9.mk 0 0) (m8.mk [] [] 0 0)) []),[]) else ((a4x n).bind fun begin=>((b1L n.Acc.d9 n.Id).bind fun a9h=>(((bif decide (a9h>=0) then ((a9O begin).bind fun follow=>((a6Z follow.n.Acc a9h).bind fun O3=>((a7J (m6.mk (j6.mk follow.n.Id O3.1 follow.n.a6 follow.n.Seq 1 a9h follow.n.b7 follow.n.f0 follow.n.c9 follow.n.a8 follow.n.i4 follow.n.i6 follow.n.b8 follow.n.d8) follow.out follow.told)).bind fun B3=>((a1h (m6.mk (j6.mk B3.2.n.Id B3.2.n.Acc B3.2.n.a6 B3.2.n.Seq B3.2.n.a9 B3.2.n.a5 B3.1 B3.2.n.Acc.a8 B3.2.n.c9 B3.2.n.a8 B3.2.n.i4 B3.2.n.i6 B3.2.n.b8 B3.2.n.d8) B3.2.out B3.2.told) (l8.mk 1 0 0 a9h (n.a6.length:Int) (l7.mk false (p9.mk 0 0) (m8.mk [] [] 0 0)) [])).bind fun all=>some (j9.brk all))))) else some (j9.brk begin)):Option (j9 (j6×List l8) m6)).bind fun x=>x.go some fun j=>a8t j)))))
theorem c7p{n}:OK a99 [.agg (w5 n)] (b18 n):=
 o9 _ fun r h=>n8<|j4 U6 a4u 1 h fun D6 h=>j3 2 h (fun h=>rg<|fE h) (fun h=>rg<|j4 a9K b2I 1 h fun begin h=>rg<|j4 a4U d3p 5 h fun a9h h=>B5 h (d29 r) fun x1 h hc1=>rg<|j3 1 h (fun h=>rg<|j4 b3E b63 1 h fun follow h=>I8 begin.n<|B6 begin.out begin.told<|rg<|j4 b11 b6M 7 h fun O3 h=>X1<|j4 b6i b8B 2 h fun B3 h=>z4 follow<|n8<|j4 X5 a4i 6 h fun all h=>ol4 B3.2.n.a6 B3.1 B3.2.n.a8 B3.2.out<|x9 B3.2.told<|(p8 h hc1 fun hI=>sk [] [2,4] [(2,0),(8,0),(71,0),(71,1),(71,2),(71,3),(71,4)] hI)) (fun h=>(p8 h hc1 fun hI=>x9 begin.n.d8<|sk [.frz (.cell 8 0 26) (none)] [2,4] [(2,0),(8,0),(8,1),(8,2),(8,3),(8,5),(8,6)] hI)))
def b1o:FS (j6×(List l8)×List r9):=⟨86,Tryz.f86,[.val I0 [],.val [some 13] [],.val [some 5] []],[none],[.val I0 []],fun r=>.tup [.agg (w5 r.1),j5 13 t9 r.2.1,j5 5 z7 r.2.2],fun _=>[none],Tryz.func86⟩
def c6B:m6->KS:=fun a=>⟨b1o.k 7 [false,true],(bs 2 (.ptr 1 0 0::(bs 2 (.ptr 2 0 0::(bs 55 []))))),[some [],some [.var 66 [vi 0,vi 0,.nil,.nil,vi 0,vi 0,vi 0,.nil,.nil,.b false,vi 0,vi 0,.nil,.nil,vi 0,vi 0,.nil,.b false,.nil,.b false,vi 0,vi 0,.nil,.nil,vi 0,vi 0,.nil]],some [.var 152 (a82 a)]]++a1c a⟩
def b0M(a:m6):Option (j6×(List l8)×List r9):=
 ((a0j a).bind fun Q5=>some (Q5.1,Q5.2.1,Q5.2.2.1))
theorem d1i(r):NF b1o r c6B (fun s=>b0M s):=fun a h=>PK<|rg<|j4 a1A a2o 1 h fun Q5 h=>z4 a<|fE h
def b2m(n:j6):Option (j6×(List l8)×List r9):=
 ((a1H n).bind fun D6=>(bif (!D6) then some ((j6.mk 0 (v6.mk 0 []) [] 0 0 0 [] [] (l7.mk false (p9.mk 0 0) (m8.mk [] [] 0 0)) [] false [] (l7.mk false (p9.mk 0 0) (m8.mk [] [] 0 0)) []),[],[]) else ((a4x n).bind fun begin=>((a1h begin (l8.mk 8 0 0 0 (n.a6.length:Int) (l7.mk false (p9.mk 0 0) (m8.mk [] [] 0 0)) [])).bind fun all=>(((bif (n.a9==1) then ((a1h all (l8.mk 1 0 0 n.a5 (n.a6.length:Int) (l7.mk false (p9.mk 0 0) (m8.mk [] [] 0 0)) [])).bind fun c41=>some (j9.brk c41)) else (bif (n.a9==2) then ((a4k all).bind fun R2=>some (j9.brk R2)) else (bif (n.a9==3) then ((a1h all (l8.mk 3 0 0 n.a5 (n.a6.length:Int) n.c9 [])).bind fun c1x=>some (j9.brk c1x)) else (bif n.i4 then ((a1h all (l8.mk 7 0 0 0 0 n.b8 [])).bind fun c0h=>some (j9.brk c0h)) else some (j9.brk all))))):Option (j9 (j6×(List l8)×List r9) m6)).bind fun x=>x.go some fun j=>b0M j)))))
theorem c6A{n}:OK b1o [.agg (w5 n)] (b2m n):=
 o9 _ fun r h=>n8<|j4 U6 a4u 1 h fun D6 h=>j3 2 h (fun h=>rg<|fE h) (fun h=>rg<|j4 a9K b2I 1 h fun begin h=>n8<|j4 X5 a4i 3 h fun all h=>I8 begin.n<|B6 begin.out begin.told<|B5 h (d1i r) fun x1 h hc1=>rg<|j3 3 h (fun h=>rg<|j4 X5 a4i 5 h fun c41 h=>z4 all<|(p8 h hc1 fun hI=>sk [] [2,5] [(2,0),(9,0),(28,0),(28,1),(28,2),(28,3),(28,4)] hI)) (fun h=>rg<|j3 3 h (fun h=>rg<|j4 a62 a9B 1 h fun R2 h=>z4 all<|(p8 h hc1 fun hI=>sk [] [2,5] [(2,0),(9,0),(28,0),(28,1),(28,2),(28,3),(28,4)] hI)) (fun h=>rg<|j3 3 h (fun h=>rg<|j4 X5 a4i 7 h fun c1x h=>z4 all<|(p8 h hc1 fun hI=>sk [] [2,5] [(2,0),(9,0),(38,0),(38,1),(38,2),(38,3),(38,4)] hI)) (fun h=>rg<|j3 2 h (fun h=>rg<|j4 X5 a4i 4 h fun c0h h=>z4 all<|(p8 h hc1 fun hI=>sk [] [2,5] [(2,0),(9,0),(38,0),(38,1),(38,2),(38,3),(38,4)] hI)) (fun h=>(p8 h hc1 fun hI=>sk [] [2,5] [(2,0),(9,0),(18,0),(18,1),(18,2),(18,3),(18,4)] hI))))))
def c3Y:FS (j6):=⟨87,Tryz.f87,[.val I0 []],[none],[.val I0 []],fun r=>.agg (w5 r),fun _=>[none],Tryz.func87⟩
def b3c(n:j6):Option j6:=
 ((a1H n).bind fun D6=>(bif (!D6) then some (j6.mk 0 (v6.mk 0 []) [] 0 0 0 [] [] (l7.mk false (p9.mk 0 0) (m8.mk [] [] 0 0)) [] false [] (l7.mk false (p9.mk 0 0) (m8.mk [] [] 0 0)) []) else ((a5m (j6.mk n.Id n.Acc n.a6 n.Seq 0 0 [] [] (l7.mk false (p9.mk 0 0) (m8.mk [] [] 0 0)) [] false [] (l7.mk false (p9.mk 0 0) (m8.mk [] [] 0 0)) [])).bind fun Q8=>some Q8)))
theorem d5H{n}:OK c3Y [.agg (w5 n)] (b3c n):=
 o9 _ fun r h=>n8<|j4 U6 a4u 1 h fun D6 h=>j3 2 h (fun h=>rg<|fE h) (fun h=>rg<|j4 a8Y b1Q 9 h fun Q8 h=>I8 Q8<|fE h)
def a5b:FS (j8):=⟨56,Tryz.f56,[.val J5 om2],[none,none],[.val J5 om2,.val [none,none,some 4] []],fun r=>.agg (a5r r),fun _=>[none,none],Tryz.func56⟩
def c8M:j8->KS:=fun w1=>⟨a5b.k 9 [true,false,true],(bs 2 (.ptr 1 0 0::(bs 1 (.ptr 6 0 0::(bs 86 []))))),[some [.dead,.dead,.dead,.dead],some [.var 32 [.own 2 0 27 0 w1.c6.length,.own 3 0 13 0 w1.g8.length,.own 4 0 3 0 w1.g9.length,.own 5 0 5 0 w1.Told.length]],some [m4 66 27 w5 w1.c6],some [m4 93 13 t9 w1.g8],some [m4 96 3 C6 w1.g9],some [m4 48 5 z7 w1.Told],some [.var 32 [.nil,.nil,.nil,.nil]]]⟩
def b23(w1:j8):Option j8:=
 some w1
theorem c7o(r):NF a5b r c8M (fun s=>b23 s):=fun w1 h=>PK<|rg<|I6 w1<|fE h
def a3K(w:j8)(e_:F9):Option j8:=
 ((idx w.c6 e_.A).bind fun node=>(((bif (e_.a0==1) then (bif decide ((w.g9.length:Int)>=60) then some (j9.ret w) else ((b1b node e_.i6).bind fun a3l=>((a2m w a3l.1 a3l.2.1 a3l.2.2).bind fun a1n=>(bif (a3l.1.Seq != node.Seq) then (r7 ((a1n.g9.length+1)*40<=140737488355328) (some (j9.brk (j8.mk a1n.c6 a1n.g8 (a1n.g9++[(D4.mk (p9.mk node.Id a3l.1.Seq) e_.i6)]) a1n.Told)))) else some (j9.brk a1n))))) else (bif (e_.a0==5) then ((b18 node).bind fun b5N=>((a2m w b5N.1 b5N.2 []).bind fun a7D=>some (j9.brk a7D))) else (bif (e_.a0==6) then ((b2m node).bind fun b1q=>((a2m w b1q.1 b1q.2.1 b1q.2.2).bind fun c5v=>some (j9.brk c5v))) else (bif (e_.a0==7) then ((b3c node).bind fun c0O=>((a2m w c0O [] []).bind fun c3T=>some (j9.brk c3T))) else some (j9.brk w))))):Option (j9 j8 j8)).bind fun x=>x.go some fun j=>b23 j))
theorem b3d{w e_}:OK a5b [.agg (a5r w),.agg (a97 e_)] (a3K w e_):=
 o9 _ fun r h=>n8<|A7 h fun node hnode h=>E3 hnode<|V6 w5 5 hnode<|rg<|B5 h (c7o r) fun x1 h hc1=>rg<|j3 1 h (fun h=>rg<|j3 3 h (fun h=>rg<|(B0 h hc1 fun h=>I6 w<|fE h)) (fun h=>rg<|j4 b2V d2b 3 h fun a3l h=>rg<|j4 O0 a7l 4 h fun a1n h=>I6 w<|rg<|j3 4 h (fun h=>rg<|tk 10 [none,none,some 4]<|t0 h fun e1 h=>J8 11 54 96 3 40 C6 a1n.g9 (D4.mk (p9.mk node.Id a3l.1.Seq) e_.i6) e1<|J0 (D4.mk (p9.mk node.Id a3l.1.Seq) e_.i6)<|(p8 h hc1 fun hI=>sk [] [2,4] [(1,0),(36,0),(36,1),(54,0),(36,3),(3,0)] hI)) (fun h=>(p8 h hc1 fun hI=>sk [] [2,4] [(1,0),(36,0),(36,1),(36,2),(36,3),(3,0)] hI)))) (fun h=>rg<|j3 1 h (fun h=>rg<|j4 a99 c7p 1 h fun b5N h=>rg<|j4 O0 a7l 3 h fun a7D h=>I6 w<|(p8 h hc1 fun hI=>sk [] [2,4] [(1,0),(29,0),(29,1),(29,2),(29,3),(3,0)] hI)) (fun h=>rg<|j3 1 h (fun h=>rg<|j4 b1o c6A 1 h fun b1q h=>rg<|j4 O0 a7l 4 h fun c5v h=>I6 w<|(p8 h hc1 fun hI=>sk [] [2,4] [(1,0),(34,0),(34,1),(34,2),(34,3),(3,0)] hI)) (fun h=>rg<|j3 1 h (fun h=>rg<|j4 c3Y d5H 2 h fun c0O h=>j4 O0 a7l 3 h fun c3T h=>I6 w<|(p8 h hc1 fun hI=>sk [] [2,4] [(1,0),(25,0),(25,1),(25,2),(25,3),(3,0)] hI)) (fun h=>(p8 h hc1 fun hI=>sk [] [2,4] [(1,0),(0,0),(0,1),(0,2),(0,3),(3,0)] hI)))))
def b5t:FS (List l8):=⟨88,Tryz.f88,[.val [some 13] [some 93]],[none,none],[.val [some 13] [],.val [] []],fun r=>z6 93 13 t9 r,fun _=>[none,none],Tryz.func88⟩
def a8F(list:List l8)(at_:Int):Option (List l8):=
 (r7 ((0:Int)<=at_/\at_<=(list.length:Int)) ((r7 ((([]:List l8).length+((list.drop 0).take (at_.toNat-0)).length)*152<=140737488355328) ((r7 ((0:Int)<=l9 (at_+1)/\l9 (at_+1)<=(list.length:Int)) ((r7 (((([]:List l8)++((list.drop 0).take (at_.toNat-0))).length+((list.drop (l9 (at_+1)).toNat).take (list.length-(l9 (at_+1)).toNat)).length)*152<=140737488355328) (some ((([]:List l8)++((list.drop 0).take (at_.toNat-0)))++((list.drop (l9 (at_+1)).toNat).take (list.length-(l9 (at_+1)).toNat)))))))))))
theorem c4Y{list at_}:OK b5t [j5 13 t9 list,vi at_] (a8F list at_):=
 o9 _ fun r h=>n8<|tk 0 P5<|t0 h fun e1 h=>om (V.sl 13 (at_.toNat-0) (((list.map t9).drop 0).take (at_.toNat-0))=j5 13 t9 ((list.drop 0).take (at_.toNat-0))) (a75 e1)<|ob e1.1<|ob e1.2<|tl (3,{v:=some (j5 13 t9 ((list.drop 0).take (at_.toNat-0)))})<|t0 h fun e2 h=>om (V.own 6 0 13 0 (([]:List l8).length+((list.drop 0).take (at_.toNat-0)).length)=.own 6 0 13 0 (([]:List l8)++((list.drop 0).take (at_.toNat-0))).length) (by first|exact congrArg (V.own 6 0 13 0) d9d.symm|simp)<|om (n9.row 93 13 (([]:List l8).length+((list.drop 0).take (at_.toNat-0)).length) (([]:List l8).map t9++((list.drop 0).take (at_.toNat-0)).map t9)=m4 93 13 t9 (([]:List l8)++((list.drop 0).take (at_.toNat-0)))) (by first|exact b39 rfl rfl|simp [m4])<|ol0 l8<|ob e2<|tl (4,{v:=some (.own 6 0 13 0 (([]:List l8)++((list.drop 0).take (at_.toNat-0))).length),e:=some (m4 93 13 t9 (([]:List l8)++((list.drop 0).take (at_.toNat-0))))})<|t0 h fun e3 h=>om (V.sl 13 (list.length-(l9 (at_+1)).toNat) (((list.map t9).drop (l9 (at_+1)).toNat).take (list.length-(l9 (at_+1)).toNat))=j5 13 t9 ((list.drop (l9 (at_+1)).toNat).take (list.length-(l9 (at_+1)).toNat))) (b4L e3)<|ob e3.1<|ob e3.2<|tl (8,{v:=some (j5 13 t9 ((list.drop (l9 (at_+1)).toNat).take (list.length-(l9 (at_+1)).toNat)))})<|t0 h fun e4 h=>apL 9 11 93 13 152 t9 (([]:List l8)++((list.drop 0).take (at_.toNat-0))) ((list.drop (l9 (at_+1)).toNat).take (list.length-(l9 (at_+1)).toNat)) e4<|x9 ((([]:List l8)++((list.drop 0).take (at_.toNat-0)))++((list.drop (l9 (at_+1)).toNat).take (list.length-(l9 (at_+1)).toNat)))<|fE h
def b0y:FS (m6):=⟨123,Tryz.f123,[],[some (0,.ptr D8 H0),none],[.ptr D8 H0,.val [] []],fun _=>.tup [],fun r=>[some (.optr 152 (G4 r)),none],Tryz.func123⟩
def a7k(a:m6)(bal:Int):Option m6:=
 (bif (a.n.a9 != 0) then (bif decide (bal>a.n.a5) then ((a9O a).bind fun follow=>some follow) else some a) else some a)
theorem b5a{a bal}:OK b0y [.optr 152 (G4 a),vi bal] (a7k a bal):=
 o9 _ fun r h=>rg<|j3 6 h (fun h=>j3 14 h (fun h=>rg<|j4 b3E b63 1 h fun follow h=>z4 a<|z4 follow<|fE h) (fun h=>z4 a<|fE h)) (fun h=>z4 a<|fE h)
def b2p:FS (m6):=⟨118,Tryz.f118,[],[some (0,.ptr D8 H0),none],[.ptr D8 H0,.val P5 []],fun _=>.tup [],fun r=>[some (.optr 152 (G4 r)),none],Tryz.func118⟩
def d0X(m:l8)(yield:m6):(List n7)->KS:=fun b2Z=>⟨b2p.k 8 [false,true],(.ptr 0 0 0::(bs 2 (.ptr 6 0 0::(bs 2 (j5 8 s5 b2Z::(bs 54 [])))))),[some [.var 152 (a7W yield),.dead,.dead,.dead,.dead,.dead]]++a1c yield++[some [.var 93 (a6h m)]]⟩
def b2j(m:l8)(yield:m6)(b2Z:List n7):Option m6:=
 ((a1Z yield m.b7 (l8.mk 2 0 0 m.a5 m.c8 (l7.mk false (p9.mk 0 0) (m8.mk [] [] 0 0)) b2Z)).bind fun a4L=>some a4L)
theorem d6x(m yield)(r):NF b2p r (d0X m yield) (fun s=>b2j m yield s):=fun b2Z h=>PK<|rg<|j4 a3c a4H 9 h fun a4L h=>z4 yield<|z4 a4L<|fE h
def b1j(a:m6)(m:l8):Option m6:=
 ((a6Z a.n.Acc m.a5).bind fun O3=>(bif (!O3.2) then ((a1Z a m.b7 (l8.mk 6 0 0 a.n.Acc.d9 0 (l7.mk false (p9.mk 0 0) (m8.mk [] [] 0 0)) [])).bind fun R8=>some R8) else ((a7k (m6.mk (j6.mk a.n.Id O3.1 a.n.a6 a.n.Seq a.n.a9 a.n.a5 a.n.b7 a.n.f0 a.n.c9 a.n.a8 a.n.i4 a.n.i6 a.n.b8 a.n.d8) a.out a.told) m.a5).bind fun yield=>(((bif decide (m.c8<(O3.1.a8.length:Int)) then (r7 ((0:Int)<=m.c8/\m.c8<=(O3.1.a8.length:Int)) (some (j9.brk ((O3.1.a8.drop m.c8.toNat).take (O3.1.a8.length-m.c8.toNat))))) else some (j9.brk [])):Option (j9 m6 (List n7))).bind fun x=>x.go some fun j=>b2j m yield j))))
theorem c75{a m}:OK b2p [.optr 152 (G4 a),.agg (t9 m)] (b1j a m):=
 o9 _ fun r h=>n8<|j4 b11 b6M 7 h fun O3 h=>rg<|j3 1 h (fun h=>rg<|j4 a3c a4H 10 h fun R8 h=>z4 a<|z4 R8<|fE h) (fun h=>n8<|j4 b0y b5a 3 h fun yield h=>z4 a<|rg<|B5 h (d6x m yield r) fun x1 h hc1=>rg<|j3 5 h (fun h=>rg<|t0 h fun e1 h=>om (V.sl 8 (O3.1.a8.length-m.c8.toNat) (((O3.1.a8.map s5).drop m.c8.toNat).take (O3.1.a8.length-m.c8.toNat))=j5 8 s5 ((O3.1.a8.drop m.c8.toNat).take (O3.1.a8.length-m.c8.toNat))) (b4L e1)<|ob e1.1<|ob e1.2<|tl (4,{v:=some (j5 8 s5 ((O3.1.a8.drop m.c8.toNat).take (O3.1.a8.length-m.c8.toNat)))})<|(p8 h hc1 fun hI=>sk [] [0,3,6] [(27,0),(27,1),(27,2),(27,3),(27,4),(1,0)] hI)) (fun h=>(p8 h hc1 fun hI=>sk [.frz (.tmp 6) (some 8)] [0,3,6] [(27,0),(27,1),(27,2),(27,3),(27,4),(1,0)] hI)))
def a1g:FS (List n7):=⟨135,Tryz.f135,[.val [some 8] []],[none,none],[.val [some 8] [],.val [some 8] []],fun r=>j5 8 s5 r,fun _=>[none,none],Tryz.func135⟩
def b2s:(List n7)->KS:=fun out1=>⟨a1g.k 5 [false,false],(bs 5 (.own 1 0 8 0 out1.length::(bs 67 []))),[some [],some [m4 140 8 s5 out1]]⟩
def b38(out1:List n7):Option (List n7):=
 ((a4D out1).bind fun V4=>some V4)
theorem d44(r):NF a1g r b2s (fun s=>b38 s):=fun out1 h=>PK<|rg<|j4 a1y a91 1 h fun V4 h=>B6 out1 V4<|fE h
def b5o(a:List n7)(b:List n7):((List n7)×Int)->KS:=fun (out,i)=>⟨a1g.k 4 [false],(j5 8 s5 a::(j5 8 s5 b::(bs 3 (.own 1 0 8 0 out.length::(vi i::(bs 66 [])))))),[some [],some [m4 140 8 s5 out]]⟩
def d5g(a:List n7)(b:List n7)(out:List n7)(i:Int):Unit->KS:=fun _=>⟨a1g.k 5 [false,true],(j5 8 s5 a::(j5 8 s5 b::(bs 3 (.own 1 0 8 0 out.length::(vi i::(bs 66 [])))))),[some [],some [m4 140 8 s5 out]]⟩
def c87(a:List n7)(b:List n7)(i:Int):(List n7)->KS:=fun out2=>⟨a1g.k 7 [false,true,true],(j5 8 s5 a::(j5 8 s5 b::(bs 3 (.own 1 0 8 0 out2.length::(vi i::(bs 66 [])))))),[some [],some [m4 140 8 s5 out2]]⟩
def b6O(i:Int)(out2:List n7):Option (j7 (List n7) ((List n7)×Int) (List n7)):=
 some (j7.nxt (out2,l9 (i+1)))
theorem d6q(a b i)(lc:R7 a1g b2s (b5o a b)):NL lc (c87 a b i) (fun s=>b6O i s):=fun out2 h=>PK<|rg<|(lc.nx h fun hI=>sk [] [0,1,5,6] [(1,0)] hI)
def b20(a:List n7)(b:List n7)(out:List n7)(i:Int):Option (j7 (List n7) ((List n7)×Int) (List n7)):=
 (((bif decide (i>=(a.length:Int)) then ((idx b i).bind fun vote=>(r7 ((out.length+1)*96<=140737488355328) (some (j9.brk (out++[vote]))))) else (bif decide (i>=(b.length:Int)) then ((idx a i).bind fun U8=>(r7 ((out.length+1)*96<=140737488355328) (some (j9.brk (out++[U8]))))) else ((idx a i).bind fun a8G=>((idx b i).bind fun a7Z=>(bif decide (a8G.a5>=a7Z.a5) then (r7 ((out.length+1)*96<=140737488355328) (some (j9.brk (out++[a8G])))) else (r7 ((out.length+1)*96<=140737488355328) (some (j9.brk (out++[a7Z]))))))))):Option (j9 (j7 (List n7) ((List n7)×Int) (List n7)) (List n7))).bind fun x=>x.go some fun j=>b6O i j)
theorem d5r(a b out i)(lc:R7 a1g b2s (b5o a b)):NL lc (d5g a b out i) (fun s=>b20 a b out i):=fun _ h=>PK<|B5 h (d6q a b i lc) fun x2 h hc2=>rg<|j3 4 h (fun h=>rg<|u9 s5 3 h fun vote a4c h=>tk 5 a1G<|t0 h fun e1 h=>J8 6 13 140 8 96 s5 out vote e1<|J0 vote<|(p8 h hc2 fun hI=>sk [] [0,1,5,6] [(13,0)] hI)) (fun h=>rg<|j3 4 h (fun h=>rg<|u9 s5 3 h fun U8 a5q h=>tk 5 a1G<|t0 h fun e2 h=>J8 6 31 140 8 96 s5 out U8 e2<|J0 U8<|(p8 h hc2 fun hI=>sk [] [0,1,5,6] [(31,0)] hI)) (fun h=>u9 s5 7 h fun a8G d1D h=>u9 s5 12 h fun a7Z d8y h=>j3 17 h (fun h=>rg<|Z7 s5 3 d1D<|tk 5 a1G<|t0 h fun e3 h=>J8 6 31 140 8 96 s5 out a8G e3<|J0 a8G<|(p8 h hc2 fun hI=>sk [] [0,1,5,6] [(31,0)] hI)) (fun h=>rg<|Z7 s5 3 d8y<|tk 5 a1G<|t0 h fun e4 h=>J8 6 31 140 8 96 s5 out a7Z e4<|J0 a7Z<|(p8 h hc2 fun hI=>sk [] [0,1,5,6] [(31,0)] hI))))
def a3Q(a:List n7)(b:List n7)(out:List n7)(i:Int):Option (j7 (List n7) ((List n7)×Int) (List n7)):=
 (((bif decide (i<(a.length:Int)) then some (j9.brk ()) else (bif decide (i<(b.length:Int)) then some (j9.brk ()) else some (j9.ret (j7.brk out)))):Option (j9 (j7 (List n7) ((List n7)×Int) (List n7)) Unit)).bind fun x=>x.go some fun j=>b20 a b out i)
theorem c9g(a b):LQ a1g b2s (b5o a b) (fun s=>a3Q a b s.1 s.2):=fun lc (out,i) h=>PK<|B5 h (d5r a b out i lc) fun x2 h hc2=>rg<|j3 4 h (fun h=>(p8 h hc2 fun hI=>sk [] [0,1,5,6] [(1,0)] hI)) (fun h=>j3 9 h (fun h=>(p8 h hc2 fun hI=>sk [] [0,1,5,6] [(1,0)] hI)) (fun h=>(B0 h hc2 fun h=>(lc.bk h fun hI=>sk [] [5] [(1,0)] hI))))
def b0F(a:List n7)(b:List n7):Option (List n7):=
 ((a3C a).bind fun G8=>(bif (!G8) then some [] else ((a3C b).bind fun c4L=>(bif (!c4L) then some [] else ((p6 (fun s:(List n7)×Int=>a3Q a b s.1 s.2) ([],0)).bind fun x=>x.go (fun r=>some r) fun s=>b38 s)))))
theorem d1v{a b}:OK a1g [j5 8 s5 a,j5 8 s5 b] (b0F a b):=
 o9 _ fun r h=>n8<|j4 a1i a86 1 h fun G8 h=>j3 3 h (fun h=>rg<|fE h) (fun h=>j4 a1i a86 5 h fun c4L h=>j3 7 h (fun h=>rg<|fE h) (fun h=>n8<|lp (c9g a b) h (fun _ h=>a1g.rt h) (d44 r) fun hI=>sk [.own (.tmp 5) 140 8] [0,1,5,6] [(12,0)] hI))
def a1U:FS (Int):=⟨136,Tryz.f136,[.val [] []],[none],[.val [some 1] []],fun r=>vi r,fun _=>[none],Tryz.func136⟩
def b6E:Int->KS:=fun n1=>⟨a1U.k 4 [false],(bs 3 (vi n1::(bs 13 []))),[some []]⟩
def b9u(n1:Int):Option Int:=
 some n1
theorem c9Q(r):NF a1U r b6E (fun s=>b9u s):=fun n1 h=>PK<|rg<|fE h
def c1I(list:List Bool):(Int×Int)->KS:=fun (n,v8)=>⟨a1U.k 3 [],(bs 3 (vi n::(bs 2 (j5 1 eB list::(vi (list.length:Int)::(vi v8::(bs 8 []))))))),[some []]⟩
def d4c(list:List Bool)(v8:Int):Int->KS:=fun n2=>⟨a1U.k 7 [true,true],(bs 3 (vi n2::(bs 2 (j5 1 eB list::(vi (list.length:Int)::(vi v8::(bs 8 []))))))),[some []]⟩
def b4r(v8:Int)(n2:Int):Option (j7 Int (Int×Int) Int):=
 some (j7.nxt (n2,l9 (v8+1)))
theorem d39(list v8)(lc:R7 a1U b6E (c1I list)):NL lc (d4c list v8) (fun s=>b4r v8 s):=fun n2 h=>PK<|rg<|(lc.nx h fun hI=>sk [] [3,6,7,8] [] hI)
def a2S(list:List Bool)(n:Int)(v8:Int):Option (j7 Int (Int×Int) Int):=
 (bif decide (v8<(list.length:Int)) then ((idx list v8).bind fun y=>(((bif y then some (j9.brk (l9 (n+1))) else some (j9.brk n)):Option (j9 (j7 Int (Int×Int) Int) Int)).bind fun x=>x.go some fun j=>b4r v8 j)) else some (j7.brk n))
theorem d4s(list):LQ a1U b6E (c1I list) (fun s=>a2S list s.1 s.2):=fun lc (n,v8) h=>PK<|rg<|j3 0 h (fun h=>rg<|u9 eB 0 h fun y hy h=>B5 h (d39 list v8 lc) fun x2 h hc2=>rg<|j3 0 h (fun h=>rg<|(p8 h hc2 fun hI=>sk [] [3,6,7,8] [] hI)) (fun h=>(p8 h hc2 fun hI=>sk [] [3,6,7,8] [] hI))) (fun h=>(lc.bk h fun hI=>sk [] [3] [] hI))
def a9l(list:List Bool):Option Int:=
 ((p6 (fun s:Int×Int=>a2S list s.1 s.2) (0,0)).bind fun x=>x.go (fun r=>some r) fun s=>b9u s)
theorem c2z{list}:OK a1U [j5 1 eB list] (a9l list):=
 o9 _ fun r h=>X1<|lp (d4s list) h (fun _ h=>a1U.rt h) (c9Q r) fun hI=>sk [] [3,6,7,8] [] hI
def c1H:FS (m6):=⟨119,Tryz.f119,[],[some (0,.ptr D8 H0),none],[.ptr D8 H0,.val P5 []],fun _=>.tup [],fun r=>[some (.optr 152 (G4 r)),none],Tryz.func119⟩
def b1D(a:m6)(m:l8):Option m6:=
 (bif (a.n.a9 != 1) then some a else (bif (m.a5 != a.n.a5) then some a else ((idx a.n.b7 m.b7).bind fun y=>(r7 (0<=m.c8/\m.c8*96<=140737488355328) ((r7 (((d81 m.c8.toNat (n7.mk 0 (l7.mk false (p9.mk 0 0) (m8.mk [] [] 0 0)))).length+m.a8.length)*96<=140737488355328) (((b0F a.n.f0 ((d81 m.c8.toNat (n7.mk 0 (l7.mk false (p9.mk 0 0) (m8.mk [] [] 0 0))))++m.a8)).bind fun b3X=>((a9l (a.n.b7.set m.b7.toNat true)).bind fun a77=>(bif decide (a77>=2) then ((a4k (m6.mk (j6.mk a.n.Id a.n.Acc a.n.a6 a.n.Seq 2 a.n.a5 [] b3X a.n.c9 a.n.a8 a.n.i4 a.n.i6 a.n.b8 a.n.d8) a.out a.told)).bind fun R2=>some R2) else some (m6.mk (j6.mk a.n.Id a.n.Acc a.n.a6 a.n.Seq a.n.a9 a.n.a5 (a.n.b7.set m.b7.toNat true) b3X a.n.c9 a.n.a8 a.n.i4 a.n.i6 a.n.b8 a.n.d8) a.out a.told)))))))))))
theorem c7v{a m}:OK c1H [.optr 152 (G4 a),.agg (t9 m)] (b1D a m):=
 o9 _ fun r h=>n8<|j3 6 h (fun h=>z4 a<|fE h) (fun h=>j3 15 h (fun h=>z4 a<|fE h) (fun h=>rg<|A7 h fun y hy h=>E3 hy<|R1 4 1 eB 8 [] true hy<|rg<|t0 h fun e1 h=>S4 8 35 140 8 96 s5 (n7.mk 0 (l7.mk false (p9.mk 0 0) (m8.mk [] [] 0 0))) b1v (.ck a1G) e1 (by decide) (by rfl)<|t0 h fun e2 h=>apL 11 38 140 8 96 s5 (d81 m.c8.toNat (n7.mk 0 (l7.mk false (p9.mk 0 0) (m8.mk [] [] 0 0)))) m.a8 e2<|j4 a1g d1v 12 h fun b3X h=>x9 ((d81 m.c8.toNat (n7.mk 0 (l7.mk false (p9.mk 0 0) (m8.mk [] [] 0 0))))++m.a8)<|rg<|cb1 a1U c2z 5 1 h fun a77 h=>om (a.n.b7.length=(a.n.b7.set m.b7.toNat true).length) (by simp)<|j3 6 h (fun h=>X1<|j4 a62 a9B 1 h fun R2 h=>ol4 a.n.a6 a.n.a8 a.out a.told<|z4 R2<|fE h) (fun h=>x9 a.n.a6<|om (a.n.b7.length=(a.n.b7.set m.b7.toNat true).length) (by simp)<|ol3 a.n.a8 a.out a.told<|fE h)))
def b84:FS (m6):=⟨120,Tryz.f120,[],[some (0,.ptr D8 H0),none],[.ptr D8 H0,.val P5 []],fun _=>.tup [],fun r=>[some (.optr 152 (G4 r)),none],Tryz.func120⟩
def b0I(a:m6)(m:l8):Option m6:=
 ((a9m a.n.Acc m.a5 m.c8 m.d7).bind fun a5s=>(bif (!a5s.2) then ((a1Z a m.b7 (l8.mk 6 0 0 a.n.Acc.d9 0 (l7.mk false (p9.mk 0 0) (m8.mk [] [] 0 0)) [])).bind fun R8=>some R8) else ((a7k (m6.mk (j6.mk a.n.Id a5s.1 a.n.a6 a.n.Seq a.n.a9 a.n.a5 a.n.b7 a.n.f0 a.n.c9 a.n.a8 a.n.i4 a.n.i6 a.n.b8 a.n.d8) a.out a.told) m.a5).bind fun yield=>((a1Z yield m.b7 (l8.mk 4 0 0 m.a5 m.c8 (l7.mk false (p9.mk 0 0) (m8.mk [] [] 0 0)) [])).bind fun a4L=>some a4L))))
theorem d01{a m}:OK b84 [.optr 152 (G4 a),.agg (t9 m)] (b0I a m):=
 o9 _ fun r h=>n8<|j4 a32 c0J 11 h fun a5s h=>rg<|j3 1 h (fun h=>rg<|j4 a3c a4H 10 h fun R8 h=>z4 a<|z4 R8<|fE h) (fun h=>n8<|j4 b0y b5a 3 h fun yield h=>z4 a<|rg<|j4 a3c a4H 8 h fun a4L h=>z4 yield<|z4 a4L<|fE h)
def a0V:FS (m6):=⟨137,Tryz.f137,[],[some (0,.ptr D8 H0),none],[.ptr D8 H0,.val T3 []],fun _=>.tup [],fun r=>[some (.optr 152 (G4 r)),none],Tryz.func137⟩
def d7B:m6->KS:=fun a1=>⟨a0V.k 6 [true],(.ptr 0 0 0::(bs 123 [])),[some ([.var 152 (c1M a1),.dead,m4 4 1 eB a1.n.b7,.dead]++c0l a1)]++c0C a1⟩
def c1j:m6->KS:=fun a2=>⟨a0V.k 16 [true,true,true],(.ptr 0 0 0::(bs 123 [])),[some [.var 152 (d1B a2),.dead,m4 4 1 eB a2.n.b7,.dead,m4 93 13 t9 a2.out,.dead]]++c6T a2⟩
def b12(a2:m6):Option m6:=
 ((a4k a2).bind fun R2=>some R2)
theorem d2K(r):NF a0V r c1j (fun s=>b12 s):=fun a2 h=>PK<|rg<|j4 a62 a9B 1 h fun R2 h=>z4 a2<|z4 R2<|fE h
def d5P(a1:m6)(y:Int):Int->KS:=fun a6f=>⟨a0V.k 12 [true,true,true],(.ptr 0 0 0::(bs 6 (.ptr 3 0 0::(bs 116 [])))),[some ([.var 152 (c1M a1),.dead,m4 4 1 eB a1.n.b7,.dead]++c0l a1)]++c0C a1++[some [.var 48 [vi a1.n.Id,vi a1.n.b8.a7.b9,vi a1.n.b8.a7.Seq,vi y,vi a6f]]]⟩
def b0f(a1:m6)(y:Int)(a6f:Int):Option (j9 m6 m6):=
 (r7 ((a1.told.length+1)*40<=140737488355328) (some (j9.brk (m6.mk (j6.mk a1.n.Id a1.n.Acc a1.n.a6 a1.n.Seq a1.n.a9 a1.n.a5 a1.n.b7 a1.n.f0 a1.n.c9 a1.n.a8 false [] (l7.mk false (p9.mk 0 0) (m8.mk [] [] 0 0)) a1.n.d8) a1.out (a1.told++[(r9.mk a1.n.Id a1.n.b8.a7 y a6f)])))))
theorem d1F(a1 y)(r){x1}(hc1:JC (fun j=>FK cx a0V.X (a0V.R r) (a0V.O r) (c1j j)) r x1):NG a0V r (d5P a1 y) (fun s=>b0f a1 y s) x1:=fun a6f h=>PK<|rg<|tk 6 []<|t0 h fun e2 h=>J8 7 11 48 5 40 z7 a1.told (r9.mk a1.n.Id a1.n.b8.a7 y a6f) e2<|J0 (r9.mk a1.n.Id a1.n.b8.a7 y a6f)<|X1<|(p8 h hc1 fun hI=>sk [.frz (.cell 0 0 18) (some 4),.frz (.cell 0 0 22) (some 2),.frz (.cell 0 0 23) (some 2)] [0] [(1,0),(2,0),(11,0)] hI)
def b2u(a1:m6):Option m6:=
 ((a67 a1.n.a6 a1.n.b8.a7).bind fun first=>(((bif a1.n.i4 then (bif decide (first>=0) then ((a89 a1.n.a6).bind fun u5=>((idx u5.2 first).bind fun y=>(((bif (y==0) then ((idx a1.n.a6 first).bind fun entry=>some (j9.brk entry.d6.c7)) else some (j9.brk 0)):Option (j9 (j9 m6 m6) Int)).bind fun x=>x.go some fun j=>b0f a1 y j))) else some (j9.brk a1)) else some (j9.brk a1)):Option (j9 m6 m6)).bind fun x=>x.go some fun j=>b12 j))
theorem c7T(r):NF a0V r d7B (fun s=>b2u s):=fun a1 h=>PK<|rg<|cb1 a1x b6I 11 2 h fun first h=>x9 a1.n.a6<|B5 h (d2K r) fun x1 h hc1=>rg<|j3 5 h (fun h=>j3 8 h (fun h=>rg<|cbS a2K c1p 5 (fun _=>(by simp [a2K,N7,V3,Q0,V.simple,vi,z6,a7T,t8,C1,eI,a3k,a8v])) (fun _=>(a0P 1)) h fun u5 h=>x9 a1.n.a6<|rg<|A7 h fun y hy h=>E3 hy<|V6 eI 14 hy<|B5 h (d1F a1 y r hc1) fun x2 h hc2=>rg<|j3 2 h (fun h=>rg<|A7 h fun entry a0d h=>E3 a0d<|V6 v5 9 a0d<|(p8 h hc2 fun hI=>sk [] [0,7] [(1,0),(2,0),(53,0)] hI)) (fun h=>(p8 h hc2 fun hI=>sk [] [0,7] [(1,0),(2,0),(53,0)] hI))) (fun h=>(p8 h hc1 fun hI=>sk [] [0] [(1,0),(2,0),(0,5)] hI))) (fun h=>(p8 h hc1 fun hI=>sk [] [0] [(1,0),(2,0),(0,5)] hI))
def a8e(a:m6)(e_:l7):Option m6:=
 (r7 ((a.n.a6.length+1)*88<=140737488355328) ((((bif (a.n.a9==3) then some (j9.brk (m6.mk (j6.mk a.n.Id a.n.Acc (a.n.a6++[e_]) a.n.Seq 2 a.n.a5 a.n.b7 a.n.f0 (l7.mk false (p9.mk 0 0) (m8.mk [] [] 0 0)) [] a.n.i4 a.n.i6 a.n.b8 a.n.d8) a.out a.told)) else some (j9.brk (m6.mk (j6.mk a.n.Id a.n.Acc (a.n.a6++[e_]) a.n.Seq a.n.a9 a.n.a5 a.n.b7 a.n.f0 a.n.c9 a.n.a8 a.n.i4 a.n.i6 a.n.b8 a.n.d8) a.out a.told))):Option (j9 m6 m6)).bind fun x=>x.go some fun j=>b2u j)))
theorem c2c{a e_}:OK a0V [.optr 152 (G4 a),.agg (v5 e_)] (a8e a e_):=
 o9 _ fun r h=>n8<|tk 7 T3<|t0 h fun e1 h=>J8 8 10 64 7 88 v5 a.n.a6 e_ e1<|J0 e_<|B5 h (c7T r) fun x1 h hc1=>rg<|j3 5 h (fun h=>X1<|(p8 h hc1 fun hI=>sk [.frz (.cell 0 0 12) (some 2),.frz (.cell 0 0 13) (some 2),.own (.cell 0 0 16) 4 1,.kill 0 3] [0] [(10,0),(37,0)] hI)) (fun h=>(p8 h hc1 fun hI=>sk [] [0] [(10,0),(0,3)] hI))
def c4B:FS (m6):=⟨121,Tryz.f121,[],[some (0,.ptr D8 H0),none],[.ptr D8 H0,.val P5 []],fun _=>.tup [],fun r=>[some (.optr 152 (G4 r)),none],Tryz.func121⟩
def b1H(a:m6)(m:l8):Option m6:=
 (bif (a.n.a9 != 3) then some a else (bif (m.a5 != a.n.a5) then some a else (bif (m.c8 != (a.n.a6.length:Int)) then some a else ((idx a.n.a8 m.b7).bind fun y=>((a9l (a.n.a8.set m.b7.toNat true)).bind fun a77=>(bif decide (a77>=2) then ((a1h (m6.mk (j6.mk a.n.Id a.n.Acc a.n.a6 a.n.Seq a.n.a9 a.n.a5 a.n.b7 a.n.f0 a.n.c9 (a.n.a8.set m.b7.toNat true) a.n.i4 a.n.i6 a.n.b8 a.n.d8) a.out a.told) (l8.mk 5 0 0 0 m.c8 a.n.c9 [])).bind fun all=>((a8e all all.n.c9).bind fun a49=>some a49)) else some (m6.mk (j6.mk a.n.Id a.n.Acc a.n.a6 a.n.Seq a.n.a9 a.n.a5 a.n.b7 a.n.f0 a.n.c9 (a.n.a8.set m.b7.toNat true) a.n.i4 a.n.i6 a.n.b8 a.n.d8) a.out a.told)))))))
theorem d28{a m}:OK c4B [.optr 152 (G4 a),.agg (t9 m)] (b1H a m):=
 o9 _ fun r h=>n8<|j3 6 h (fun h=>z4 a<|fE h) (fun h=>j3 16 h (fun h=>z4 a<|fE h) (fun h=>j3 26 h (fun h=>z4 a<|fE h) (fun h=>rg<|A7 h fun y hy h=>E3 hy<|R1 4 1 eB 8 [] true hy<|rg<|cb1 a1U c2z 5 1 h fun a77 h=>om (a.n.a8.length=(a.n.a8.set m.b7.toNat true).length) (by simp)<|j3 6 h (fun h=>rg<|j4 X5 a4i 9 h fun all h=>B6 a.n.a6 a.n.b7<|om (a.n.a8.length=(a.n.a8.set m.b7.toNat true).length) (by simp)<|B6 a.out a.told<|rg<|j4 a0V c2c 6 h fun a49 h=>z4 all<|z4 a49<|fE h) (fun h=>B6 a.n.a6 a.n.b7<|om (a.n.a8.length=(a.n.a8.set m.b7.toNat true).length) (by simp)<|B6 a.out a.told<|fE h))))
def b95:FS (m6):=⟨122,Tryz.f122,[],[some (0,.ptr D8 H0),none],[.ptr D8 H0,.val P5 []],fun _=>.tup [],fun r=>[some (.optr 152 (G4 r)),none],Tryz.func122⟩
def b1x(a:m6)(m:l8):Option m6:=
 (bif decide (m.c8<(a.n.a6.length:Int)) then some a else (bif decide (m.c8>(a.n.a6.length:Int)) then ((a1Z a m.b7 (l8.mk 8 0 0 0 (a.n.a6.length:Int) (l7.mk false (p9.mk 0 0) (m8.mk [] [] 0 0)) [])).bind fun R8=>some R8) else ((a8e a m.d7).bind fun a49=>some a49)))
theorem c9r{a m}:OK b95 [.optr 152 (G4 a),.agg (t9 m)] (b1x a m):=
 o9 _ fun r h=>n8<|j3 9 h (fun h=>z4 a<|fE h) (fun h=>rg<|j3 9 h (fun h=>rg<|j4 a3c a4H 10 h fun R8 h=>z4 a<|z4 R8<|fE h) (fun h=>rg<|j4 a0V c2c 3 h fun a49 h=>z4 a<|z4 a49<|fE h))
def c5m:FS (Bool×m6):=⟨138,Tryz.f138,[.val [] []],[some (0,.ptr D8 om3),none],[.ptr D8 om3,.val [] []],fun r=>.b r.1,fun r=>[some (.optr 152 (b2P r.2)),none],Tryz.func138⟩
def b1M(a:m6)(q:p9):Option (Bool×m6):=
 ((a67 a.n.a6 q).bind fun first=>some (decide (first>=0),a))
theorem d3L{a q}:OK c5m [.optr 152 (b2P a),.agg (a3k q)] (b1M a q):=
 o9 _ fun r h=>n8<|cb1 a1x b6I 6 2 h fun first h=>x9 a.n.a6<|I8 a.n<|B6 a.out a.told<|fE h
def c0g:FS (m6):=⟨124,Tryz.f124,[],[some (0,.ptr D8 H0),none],[.ptr D8 om3,.val P5 []],fun _=>.tup [],fun r=>[some (.optr 152 (G4 r)),none],Tryz.func124⟩
def b3D(a:m6)(m:l8):Option m6:=
 (bif (a.n.a9==0) then some a else (bif decide ((a.n.d8.length:Int)>=4) then some a else ((b1M a m.d7.a7).bind fun v_=>(bif v_.1 then some v_.2 else (r7 ((v_.2.n.d8.length+1)*88<=140737488355328) (((a4k (m6.mk (j6.mk v_.2.n.Id v_.2.n.Acc v_.2.n.a6 v_.2.n.Seq v_.2.n.a9 v_.2.n.a5 v_.2.n.b7 v_.2.n.f0 v_.2.n.c9 v_.2.n.a8 v_.2.n.i4 v_.2.n.i6 v_.2.n.b8 (v_.2.n.d8++[m.d7])) v_.2.out v_.2.told)).bind fun R2=>some R2)))))))
theorem d6Y{a m}:OK c0g [.optr 152 (b2P a),.agg (t9 m)] (b3D a m):=
 o9 _ fun r h=>n8<|j3 6 h (fun h=>I8 a.n<|B6 a.out a.told<|fE h) (fun h=>j3 15 h (fun h=>I8 a.n<|B6 a.out a.told<|fE h) (fun h=>j4 c5m d3L 20 h fun v_ h=>I8 a.n<|B6 a.out a.told<|j3 21 h (fun h=>I8 v_.2.n<|B6 v_.2.out v_.2.told<|fE h) (fun h=>rg<|tk 8 T3<|t0 h fun e1 h=>J8 9 33 64 7 88 v5 v_.2.n.d8 m.d7 e1<|J0 m.d7<|rg<|j4 a62 a9B 1 h fun R2 h=>ol4 v_.2.n.a6 v_.2.n.b7 v_.2.n.a8 (v_.2.n.d8++[m.d7])<|B6 v_.2.out v_.2.told<|z4 R2<|fE h)))
def a0t:FS (j6×(List l8)×List r9):=⟨89,Tryz.f89,[.val I0 [],.val [some 13] [],.val [some 5] []],[none,none],[.val I0 [],.val P5 []],fun r=>.tup [.agg (w5 r.1),j5 13 t9 r.2.1,j5 5 z7 r.2.2],fun _=>[none,none],Tryz.func89⟩
def c5u:m6->KS:=fun a=>⟨a0t.k 7 [false,false,true],(bs 4 (.ptr 1 0 0::(bs 2 (.ptr 2 0 0::(bs 108 []))))),[some [],some [.var 66 [vi 0,vi 0,.nil,.nil,vi 0,vi 0,vi 0,.nil,.nil,.b false,vi 0,vi 0,.nil,.nil,vi 0,vi 0,.nil,.b false,.nil,.b false,vi 0,vi 0,.nil,.nil,vi 0,vi 0,.nil]],some [.var 152 (a82 a)]]++a1c a⟩
def b3o(a:m6):Option (j6×(List l8)×List r9):=
 ((a0j a).bind fun a2P=>some (a2P.1,a2P.2.1,a2P.2.2.1))
theorem c7q(r):NF a0t r c5u (fun s=>b3o s):=fun a h=>PK<|rg<|j4 a1A a2o 1 h fun a2P h=>z4 a<|fE h
def c3U:m6->KS:=fun a2=>⟨a0t.k 15 [false,false,false,false,false,false,false,false,false,true,false],(bs 4 (.ptr 1 0 0::(bs 2 (.ptr 2 0 0::(bs 108 []))))),[some [],some [.var 66 [vi 0,vi 0,.nil,.nil,vi 0,vi 0,vi 0,.nil,.nil,.b false,vi 0,vi 0,.nil,.nil,vi 0,vi 0,.nil,.b false,.nil,.b false,vi 0,vi 0,.nil,.nil,vi 0,vi 0,.nil]],some [.var 152 (a82 a2)]]++a1c a2⟩
def c06(a2:m6):Option (j9 (j6×(List l8)×List r9) m6):=
 some (j9.brk a2)
theorem c7O(r){x1}(hc1:JC (fun j=>FK cx a0t.X (a0t.R r) (a0t.O r) (c5u j)) r x1):NG a0t r c3U (fun s=>c06 s) x1:=fun a2 h=>PK<|(p8 h hc1 fun hI=>sk [] [4,7] [(1,0),(2,0),(3,0),(4,0),(5,0),(6,0),(7,0)] hI)
def d20(m:l8):(Int×m6)->KS:=fun (i,a1)=>⟨a0t.k 14 [false,false,false,false,false,false,false,false,false,true],(bs 3 (.ptr 1 0 0::(.ptr 2 0 0::(bs 2 (.ptr 3 0 0::(vi i::(bs 107 []))))))),[some [],some [.var 93 (a6h m)],some [.var 66 [vi 0,vi 0,.nil,.nil,vi 0,vi 0,vi 0,.nil,.nil,.b false,vi 0,vi 0,.nil,.nil,vi 0,vi 0,.nil,.b false,.nil,.b false,vi 0,vi 0,.nil,.nil,vi 0,vi 0,.nil]],some [.var 152 (d2L a1)]]++a1c a1⟩
def a3j(m:l8)(i:Int)(a1:m6):Option (j7 (j6×(List l8)×List r9) (Int×m6) m6):=
 (bif decide (i<(a1.n.a6.length:Int)) then ((idx a1.n.a6 i).bind fun entry=>((a1Z a1 m.b7 (l8.mk 5 0 0 0 i entry [])).bind fun R8=>some (j7.nxt (l9 (i+1),R8)))) else some (j7.brk a1))
theorem c9o(m):LQ a0t c3U (d20 m) (fun s=>a3j m s.1 s.2):=fun lc (i,a1) h=>PK<|rg<|j3 7 h (fun h=>rg<|A7 h fun entry a0d h=>E3 a0d<|V6 v5 11 a0d<|j4 a3c a4H 13 h fun R8 h=>z4 a1<|rg<|(lc.nx h fun hI=>sk [] [3,4,7,8] [(1,0),(2,0),(3,0),(30,0),(30,1),(30,2),(30,3),(30,4)] hI)) (fun h=>(lc.bk h fun hI=>sk [] [4,7] [(2,0),(3,0),(4,0),(5,0),(6,0),(7,0),(8,0)] hI))
def b2S(n:j6)(m:l8):Option (j6×(List l8)×List r9):=
 ((a1H n).bind fun D6=>(bif (!D6) then some ((j6.mk 0 (v6.mk 0 []) [] 0 0 0 [] [] (l7.mk false (p9.mk 0 0) (m8.mk [] [] 0 0)) [] false [] (l7.mk false (p9.mk 0 0) (m8.mk [] [] 0 0)) []),[],[]) else ((a4x n).bind fun begin=>((a7p m).bind fun J7=>(bif (!J7) then ((a0j begin).bind fun Q5=>some (Q5.1,Q5.2.1,Q5.2.2.1)) else (bif (m.To != n.Id) then ((a0j begin).bind fun a2Y=>some (a2Y.1,a2Y.2.1,a2Y.2.2.1)) else (((bif (m.a0==1) then ((b1j begin m).bind fun c3n=>some (j9.brk c3n)) else (bif (m.a0==2) then ((b1D begin m).bind fun c09=>some (j9.brk c09)) else (bif (m.a0==3) then ((b0I begin m).bind fun c3v=>some (j9.brk c3v)) else (bif (m.a0==4) then ((b1H begin m).bind fun c3G=>some (j9.brk c3G)) else (bif (m.a0==5) then ((b1x begin m).bind fun c2m=>some (j9.brk c2m)) else (bif (m.a0==6) then ((a6Z begin.n.Acc m.a5).bind fun O3=>((a7k (m6.mk (j6.mk begin.n.Id O3.1 begin.n.a6 begin.n.Seq begin.n.a9 begin.n.a5 begin.n.b7 begin.n.f0 begin.n.c9 begin.n.a8 begin.n.i4 begin.n.i6 begin.n.b8 begin.n.d8) begin.out begin.told) m.a5).bind fun yield=>some (j9.brk yield))) else (bif (m.a0==7) then ((b3D begin m).bind fun asked=>some (j9.brk asked)) else (bif (m.a0==8) then ((p6 (fun s:Int×m6=>a3j m s.1 s.2) (m.c8,begin)).bind fun x=>x.go (fun r=>some (j9.ret r)) fun s=>c06 s) else some (j9.brk begin))))))))):Option (j9 (j6×(List l8)×List r9) m6)).bind fun x=>x.go some fun j=>b3o j)))))))
set_option maxRecDepth 20000 in
theorem d7p{n m}:OK a0t [.agg (w5 n),.agg (t9 m)] (b2S n m):=
 o9 _ fun r h=>n8<|j4 U6 a4u 1 h fun D6 h=>j3 2 h (fun h=>rg<|fE h) (fun h=>rg<|j4 a9K b2I 1 h fun begin h=>rg<|j4 b4U c1P 1 h fun J7 h=>j3 3 h (fun h=>rg<|j4 a1A a2o 1 h fun Q5 h=>I8 begin.n<|B6 begin.out begin.told<|fE h) (fun h=>j3 9 h (fun h=>rg<|j4 a1A a2o 1 h fun a2Y h=>I8 begin.n<|B6 begin.out begin.told<|fE h) (fun h=>rg<|B5 h (c7q r) fun x1 h hc1=>rg<|j3 1 h (fun h=>rg<|j4 b2p c75 2 h fun c3n h=>I8 begin.n<|B6 begin.out begin.told<|(p8 h hc1 fun hI=>sk [] [4,7] [(3,0),(10,0),(28,0),(28,1),(28,2),(28,3),(28,4)] hI)) (fun h=>rg<|j3 1 h (fun h=>rg<|j4 c1H c7v 2 h fun c09 h=>I8 begin.n<|B6 begin.out begin.told<|(p8 h hc1 fun hI=>sk [] [4,7] [(3,0),(10,0),(30,0),(30,1),(30,2),(30,3),(30,4)] hI)) (fun h=>rg<|j3 1 h (fun h=>rg<|j4 b84 d01 2 h fun c3v h=>I8 begin.n<|B6 begin.out begin.told<|(p8 h hc1 fun hI=>sk [] [4,7] [(3,0),(10,0),(32,0),(32,1),(32,2),(32,3),(32,4)] hI)) (fun h=>rg<|j3 1 h (fun h=>rg<|j4 c4B d28 2 h fun c3G h=>I8 begin.n<|B6 begin.out begin.told<|(p8 h hc1 fun hI=>sk [] [4,7] [(3,0),(10,0),(34,0),(34,1),(34,2),(34,3),(34,4)] hI)) (fun h=>rg<|j3 1 h (fun h=>rg<|j4 b95 c9r 2 h fun c2m h=>I8 begin.n<|B6 begin.out begin.told<|(p8 h hc1 fun hI=>sk [] [4,7] [(3,0),(10,0),(36,0),(36,1),(36,2),(36,3),(36,4)] hI)) (fun h=>rg<|j3 1 h (fun h=>rg<|j4 b11 b6M 8 h fun O3 h=>rg<|j4 b0y b5a 3 h fun yield h=>I8 begin.n<|B6 begin.out begin.told<|(p8 h hc1 fun hI=>sk [] [4,7] [(3,0),(10,0),(55,0),(55,1),(55,2),(55,3),(55,4)] hI)) (fun h=>rg<|j3 1 h (fun h=>rg<|j4 c0g d6Y 2 h fun asked h=>I8 begin.n<|B6 begin.out begin.told<|(p8 h hc1 fun hI=>sk [] [4,7] [(3,0),(10,0),(40,0),(40,1),(40,2),(40,3),(40,4)] hI)) (fun h=>rg<|j3 1 h (fun h=>rg<|lp (c9o m) h (fun _ h=>a0t.rt (b9e h hc1)) (c7O r hc1) fun hI=>x9 begin.n.d8<|sk [.frz (.cell 10 0 26) (none)] [3,4,7,8] [(2,0),(3,0),(10,0),(10,1),(10,2),(10,3),(10,5),(10,6)] hI) (fun h=>(p8 h hc1 fun hI=>x9 begin.n.d8<|sk [.frz (.cell 10 0 26) (none)] [4,7] [(3,0),(10,0),(10,1),(10,2),(10,3),(10,5),(10,6)] hI))))))))))))
def a6H:FS (j8):=⟨57,Tryz.f57,[.val J5 om2],[none,none],[.val J5 om2,.val [none,none,some 4] []],fun r=>.agg (a5r r),fun _=>[none,none],Tryz.func57⟩
def d1L:j8->KS:=fun w1=>⟨a6H.k 7 [true],(bs 2 (.ptr 1 0 0::(bs 1 (.ptr 6 0 0::(bs 58 []))))),[some [.dead,.dead,.dead,.dead],some [.var 32 [.own 2 0 27 0 w1.c6.length,.own 3 0 13 0 w1.g8.length,.own 4 0 3 0 w1.g9.length,.own 5 0 5 0 w1.Told.length]],some [m4 66 27 w5 w1.c6],some [m4 93 13 t9 w1.g8],some [m4 96 3 C6 w1.g9],some [m4 48 5 z7 w1.Told],some [.var 32 [.nil,.nil,.nil,.nil]]]⟩
def c1V(w1:j8):Option j8:=
 some w1
theorem d17(r):NF a6H r d1L (fun s=>c1V s):=fun w1 h=>PK<|rg<|I6 w1<|fE h
def a4V(w:j8)(e_:F9):Option j8:=
 ((idx w.g8 e_.A).bind fun msg=>(((bif (e_.a0==2) then ((a8F w.g8 e_.A).bind fun off=>((idx w.c6 msg.To).bind fun node=>((b2S node msg).bind fun a96=>((a2m (j8.mk w.c6 off w.g9 w.Told) a96.1 a96.2.1 a96.2.2).bind fun a1n=>some (j9.brk a1n))))) else (bif (e_.a0==3) then ((a8F w.g8 e_.A).bind fun c0n=>some (j9.brk (j8.mk w.c6 c0n w.g9 w.Told))) else (bif (e_.a0==4) then ((idx w.c6 msg.To).bind fun X3=>((a2m w X3 [msg] []).bind fun a7D=>some (j9.brk a7D))) else some (j9.brk w)))):Option (j9 j8 j8)).bind fun x=>x.go some fun j=>c1V j))
theorem b5i{w e_}:OK a6H [.agg (a5r w),.agg (a97 e_)] (a4V w e_):=
 o9 _ fun r h=>n8<|A7 h fun msg hmsg h=>E3 hmsg<|V6 t9 5 hmsg<|rg<|B5 h (d17 r) fun x1 h hc1=>rg<|j3 1 h (fun h=>rg<|j4 b5t c4Y 4 h fun off h=>x9 w.g8<|rg<|A7 h fun node hnode h=>E3 hnode<|V6 w5 5 hnode<|j4 a0t d7p 7 h fun a96 h=>rg<|j4 O0 a7l 4 h fun a1n h=>ol4 w.c6 off w.g9 w.Told<|(p8 h hc1 fun hI=>sk [.kill 0 1] [2,4] [(1,0),(43,0),(43,1),(43,2),(43,3),(3,0)] hI)) (fun h=>rg<|j3 1 h (fun h=>rg<|j4 b5t c4Y 4 h fun c0n h=>x9 w.g8<|(p8 h hc1 fun hI=>sk [.kill 0 1] [2,4] [(1,0),(0,0),(22,0),(0,2),(0,3),(3,0)] hI)) (fun h=>rg<|j3 1 h (fun h=>rg<|A7 h fun X3 a11 h=>E3 a11<|V6 w5 6 a11<|tk 8 P5<|j4 O0 a7l 9 h fun a7D h=>I6 w<|J0 msg<|(p8 h hc1 fun hI=>sk [] [2,4] [(1,0),(29,0),(29,1),(29,2),(29,3),(3,0)] hI)) (fun h=>(p8 h hc1 fun hI=>sk [] [2,4] [(1,0),(0,0),(0,1),(0,2),(0,3),(3,0)] hI))))
def a0a:FS (j8):=⟨27,Tryz.f27,[.val J5 []],[none,none],[.val J5 [],.val [none,none,some 4] []],fun r=>.agg (S7 r),fun _=>[none,none],Tryz.func27⟩
def d41:j8->KS:=fun out=>⟨a0a.k 6 [true,true,true],(bs 4 (.ptr 1 0 0::(.ptr 2 0 0::(bs 35 [])))),[some [],some [.var 32 [.nil,.nil,.nil,.nil]],some [.var 32 [.own 3 0 27 0 out.c6.length,.own 4 0 13 0 out.g8.length,.own 5 0 3 0 out.g9.length,.own 6 0 5 0 out.Told.length]],some [m4 66 27 w5 out.c6],some [m4 93 13 t9 out.g8],some [m4 96 3 C6 out.g9],some [m4 48 5 z7 out.Told]]⟩
def b46(out:j8):Option j8:=
 ((Z6 out).bind fun b5r=>some b5r)
theorem c60(r):NF a0a r d41 (fun s=>b46 s):=fun out h=>PK<|rg<|j4 Q7 a5F 1 h fun b5r h=>I6 out<|I6 b5r<|fE h
def d3s:j8->KS:=fun out1=>⟨a0a.k 7 [false,true,true,true],(bs 4 (.ptr 1 0 0::(.ptr 2 0 0::(bs 35 [])))),[some [],some [.var 32 [.nil,.nil,.nil,.nil]],some [.var 32 [.own 3 0 27 0 out1.c6.length,.own 4 0 13 0 out1.g8.length,.own 5 0 3 0 out1.g9.length,.own 6 0 5 0 out1.Told.length]],some [m4 66 27 w5 out1.c6],some [m4 93 13 t9 out1.g8],some [m4 96 3 C6 out1.g9],some [m4 48 5 z7 out1.Told]]⟩
def b7x(out1:j8):Option j8:=
 ((Z6 out1).bind fun b60=>some b60)
theorem c9F(r):NF a0a r d3s (fun s=>b7x s):=fun out1 h=>PK<|rg<|j4 Q7 a5F 1 h fun b60 h=>I6 out1<|I6 b60<|fE h
def d66:j8->KS:=fun out2=>⟨a0a.k 8 [false,false,true,true,true],(bs 4 (.ptr 1 0 0::(.ptr 2 0 0::(bs 35 [])))),[some [],some [.var 32 [.nil,.nil,.nil,.nil]],some [.var 32 [.own 3 0 27 0 out2.c6.length,.own 4 0 13 0 out2.g8.length,.own 5 0 3 0 out2.g9.length,.own 6 0 5 0 out2.Told.length]],some [m4 66 27 w5 out2.c6],some [m4 93 13 t9 out2.g8],some [m4 96 3 C6 out2.g9],some [m4 48 5 z7 out2.Told]]⟩
def b49(out2:j8):Option j8:=
 ((Z6 out2).bind fun b6V=>some b6V)
theorem d6a(r):NF a0a r d66 (fun s=>b49 s):=fun out2 h=>PK<|rg<|j4 Q7 a5F 1 h fun b6V h=>I6 out2<|I6 b6V<|fE h
def d7A:j8->KS:=fun a0R=>⟨a0a.k 9 [false,false,false,true,true],(bs 4 (.ptr 1 0 0::(.ptr 2 0 0::(bs 35 [])))),[some [],some [.var 32 [.nil,.nil,.nil,.nil]],some [.var 32 [.own 3 0 27 0 a0R.c6.length,.own 4 0 13 0 a0R.g8.length,.own 5 0 3 0 a0R.g9.length,.own 6 0 5 0 a0R.Told.length]],some [m4 66 27 w5 a0R.c6],some [m4 93 13 t9 a0R.g8],some [m4 96 3 C6 a0R.g9],some [m4 48 5 z7 a0R.Told]]⟩
def b0z(a0R:j8):Option j8:=
 ((Z6 a0R).bind fun b7P=>some b7P)
theorem d5G(r):NF a0a r d7A (fun s=>b0z s):=fun a0R h=>PK<|rg<|j4 Q7 a5F 1 h fun b7P h=>I6 a0R<|I6 b7P<|fE h
def a4F(w:j8)(e_:F9):Option j8:=
 ((Z6 w).bind fun C4=>(bif (e_.a0==1) then ((((A0 e_.A 0 (l9 ((C4.c6.length:Int)-1))).bind fun in_=>(bif in_ then ((a3K C4 e_).bind fun c3D=>some (j9.brk c3D)) else some (j9.brk C4))):Option (j9 j8 j8)).bind fun x=>x.go some fun j=>b46 j) else (bif (e_.a0==5) then ((((A0 e_.A 0 (l9 ((C4.c6.length:Int)-1))).bind fun G1=>(bif G1 then ((a3K C4 e_).bind fun c3i=>some (j9.brk c3i)) else some (j9.brk C4))):Option (j9 j8 j8)).bind fun x=>x.go some fun j=>b7x j) else (bif (e_.a0==6) then ((((A0 e_.A 0 (l9 ((C4.c6.length:Int)-1))).bind fun R0=>(bif R0 then ((a3K C4 e_).bind fun c30=>some (j9.brk c30)) else some (j9.brk C4))):Option (j9 j8 j8)).bind fun x=>x.go some fun j=>b49 j) else (((bif (e_.a0==7) then ((A0 e_.A 0 (l9 ((C4.c6.length:Int)-1))).bind fun T1=>(bif T1 then ((a3K C4 e_).bind fun c3m=>some (j9.brk c3m)) else some (j9.brk C4))) else (bif (e_.a0==2) then ((A0 e_.A 0 (l9 ((C4.g8.length:Int)-1))).bind fun a2D=>(bif a2D then ((a4V C4 e_).bind fun c2Y=>some (j9.brk c2Y)) else some (j9.brk C4))) else (bif (e_.a0==3) then ((A0 e_.A 0 (l9 ((C4.g8.length:Int)-1))).bind fun a54=>(bif a54 then ((a4V C4 e_).bind fun c1R=>some (j9.brk c1R)) else some (j9.brk C4))) else (bif (e_.a0==4) then ((A0 e_.A 0 (l9 ((C4.g8.length:Int)-1))).bind fun b6s=>(bif b6s then ((a4V C4 e_).bind fun c3R=>some (j9.brk c3R)) else some (j9.brk C4))) else some (j9.brk C4))))):Option (j9 j8 j8)).bind fun x=>x.go some fun j=>b0z j)))))
set_option maxRecDepth 20000 in
theorem b0d{w e_}:OK a0a [.agg (S7 w),.agg (a97 e_)] (a4F w e_):=
 o9 _ fun r h=>n8<|j4 Q7 a5F 1 h fun C4 h=>n8<|j3 1 h (fun h=>B5 h (c60 r) fun x1 h hc1=>rg<|cbE z8.t A8 h fun in_ c19 h=>cdT (z8.t 6 false in_) h (fun _ h=>ob c19<|rg<|j4 a5b b3d 2 h fun c3D h=>I6 C4<|(p8 h hc1 fun hI=>sk [] [4,5] [(3,0),(6,0),(21,0),(21,1),(21,2),(21,3)] hI)) (fun _ h=>ob c19<|(p8 h hc1 fun hI=>sk [] [4,5] [(3,0),(6,0),(5,0),(5,1),(5,2),(5,3)] hI))) (fun h=>rg<|j3 1 h (fun h=>B5 h (c9F r) fun x1 h hc1=>rg<|cbE z8.t A8 h fun G1 c5K h=>cdT (z8.t 6 false G1) h (fun _ h=>ob c5K<|rg<|j4 a5b b3d 2 h fun c3i h=>I6 C4<|(p8 h hc1 fun hI=>sk [] [4,5] [(3,0),(6,0),(23,0),(23,1),(23,2),(23,3)] hI)) (fun _ h=>ob c5K<|(p8 h hc1 fun hI=>sk [] [4,5] [(3,0),(6,0),(5,0),(5,1),(5,2),(5,3)] hI))) (fun h=>rg<|j3 1 h (fun h=>B5 h (d6a r) fun x1 h hc1=>rg<|cbE z8.t A8 h fun R0 c1L h=>cdT (z8.t 6 false R0) h (fun _ h=>ob c1L<|rg<|j4 a5b b3d 2 h fun c30 h=>I6 C4<|(p8 h hc1 fun hI=>sk [] [4,5] [(3,0),(6,0),(25,0),(25,1),(25,2),(25,3)] hI)) (fun _ h=>ob c1L<|(p8 h hc1 fun hI=>sk [] [4,5] [(3,0),(6,0),(5,0),(5,1),(5,2),(5,3)] hI))) (fun h=>B5 h (d5G r) fun x1 h hc1=>rg<|j3 1 h (fun h=>rg<|cbE z8.t A8 h fun T1 c5r h=>cdT (z8.t 6 false T1) h (fun _ h=>ob c5r<|rg<|j4 a5b b3d 2 h fun c3m h=>I6 C4<|(p8 h hc1 fun hI=>sk [] [4,5] [(3,0),(6,0),(27,0),(27,1),(27,2),(27,3)] hI)) (fun _ h=>ob c5r<|(p8 h hc1 fun hI=>sk [] [4,5] [(3,0),(6,0),(5,0),(5,1),(5,2),(5,3)] hI))) (fun h=>rg<|j3 1 h (fun h=>rg<|cbE z8.t A8 h fun a2D b9J h=>cdT (z8.t 6 false a2D) h (fun _ h=>ob b9J<|rg<|j4 a6H b5i 2 h fun c2Y h=>I6 C4<|(p8 h hc1 fun hI=>sk [] [4,5] [(3,0),(6,0),(29,0),(29,1),(29,2),(29,3)] hI)) (fun _ h=>ob b9J<|(p8 h hc1 fun hI=>sk [] [4,5] [(3,0),(6,0),(5,0),(5,1),(5,2),(5,3)] hI))) (fun h=>rg<|j3 1 h (fun h=>rg<|cbE z8.t A8 h fun a54 c4J h=>cdT (z8.t 6 false a54) h (fun _ h=>ob c4J<|rg<|j4 a6H b5i 2 h fun c1R h=>I6 C4<|(p8 h hc1 fun hI=>sk [] [4,5] [(3,0),(6,0),(31,0),(31,1),(31,2),(31,3)] hI)) (fun _ h=>ob c4J<|(p8 h hc1 fun hI=>sk [] [4,5] [(3,0),(6,0),(5,0),(5,1),(5,2),(5,3)] hI))) (fun h=>rg<|j3 1 h (fun h=>rg<|cbE z8.t A8 h fun b6s b96 h=>cdT (z8.t 6 false b6s) h (fun _ h=>ob b96<|rg<|j4 a6H b5i 2 h fun c3R h=>I6 C4<|(p8 h hc1 fun hI=>sk [] [4,5] [(3,0),(6,0),(33,0),(33,1),(33,2),(33,3)] hI)) (fun _ h=>ob b96<|(p8 h hc1 fun hI=>sk [] [4,5] [(3,0),(6,0),(5,0),(5,1),(5,2),(5,3)] hI))) (fun h=>(p8 h hc1 fun hI=>sk [] [4,5] [(3,0),(6,0),(5,0),(5,1),(5,2),(5,3)] hI))))))))
def a2H:FS (j8):=⟨47,Tryz.f47,[.val J5 []],[none],[.val J5 []],fun r=>.agg (S7 r),fun _=>[none],Tryz.func47⟩
def c1g:j8->KS:=fun w2=>⟨a2H.k 3 [false],(bs 1 (.ptr 1 0 0::(.ptr 2 0 0::(bs 15 [])))),[some [],some [.var 32 (M1 w2)],some [.var 32 [.nil,.nil,.nil,.nil]]]⟩
def b86(w2:j8):Option j8:=
 some w2
theorem d5S(r):NF a2H r c1g (fun s=>b86 s):=fun w2 h=>PK<|rg<|fE h
def c6z:(j8×Int)->KS:=fun (w1,i)=>⟨a2H.k 2 [],(bs 1 (.ptr 1 0 0::(.ptr 2 0 0::(vi i::(bs 14 []))))),[some [],some [.var 32 (M1 w1)],some [.var 32 [.nil,.nil,.nil,.nil]]]⟩
def a2c(w1:j8)(i:Int):Option (j7 j8 (j8×Int) j8):=
 (bif decide (i<800) then (bif decide ((w1.g8.length:Int)>0) then ((a4F w1 (F9.mk 2 0 [])).bind fun a3s=>some (j7.nxt (a3s,l9 (i+1)))) else some (j7.brk w1)) else some (j7.brk w1))
theorem d6c:LQ a2H c1g c6z (fun s=>a2c s.1 s.2):=fun lc (w1,i) h=>PK<|rg<|j3 2 h (fun h=>j3 7 h (fun h=>rg<|j4 a0a b0d 2 h fun a3s h=>rg<|(lc.nx h fun hI=>sk [] [1,2,3] [(1,0),(2,0)] hI)) (fun h=>(lc.bk h fun hI=>sk [] [1,2] [(1,0),(2,0)] hI))) (fun h=>(lc.bk h fun hI=>sk [] [1,2] [(1,0),(2,0)] hI))
def a7i(w:j8):Option j8:=
 ((p6 (fun s:j8×Int=>a2c s.1 s.2) (w,0)).bind fun x=>x.go (fun r=>some r) fun s=>b86 s)
theorem b30{w}:OK a2H [.agg (S7 w)] (a7i w):=
 o9 _ fun r h=>n8<|lp (d6c) h (fun _ h=>a2H.rt h) (d5S r) fun hI=>sk [] [1,2,3] [(1,0),(2,0)] hI
def a2j:FS (Bool):=⟨48,Tryz.f48,[.val [] []],[none,none],[.val J5 [],.val [] []],fun r=>.b r,fun _=>[none,none],Tryz.func48⟩
def c6M(w:j8)(node:j6):Unit->KS:=fun _=>⟨a2j.k 3 [false],(bs 2 (.ptr 1 0 0::(bs 2 (.ptr 2 0 0::(bs 29 []))))),[some [],some [.var 32 (M1 w)],some [.var 66 (a5o node)]]⟩
def b8l:Unit->KS:=fun _=>⟨a2j.k 5 [false,false],(bs 35 []),[some []]⟩
def c42:Option Bool:=
 some true
theorem c8t(r):NF a2j r b8l (fun s=>c42):=fun _ h=>PK<|rg<|fE h
def d4O(w:j8)(node:j6):Int->KS:=fun v24=>⟨a2j.k 4 [false],(bs 5 (.ptr 1 0 0::(bs 16 (j5 27 w5 w.c6::(vi (w.c6.length:Int)::(vi v24::(bs 10 []))))))),[some [],some [.var 66 (a5o node)]]⟩
def b1O(w:j8)(node:j6)(v24:Int):Option (j7 Bool Int Unit):=
 (bif decide (v24<(w.c6.length:Int)) then ((idx w.c6 v24).bind fun X3=>(bif decide (X3.Acc.d9>node.a5) then some (j7.ret false) else some (j7.nxt (l9 (v24+1))))) else some (j7.brk ()))
theorem d35(w node):LQ a2j b8l (d4O w node) (fun s=>b1O w node s):=fun lc v24 h=>PK<|rg<|j3 0 h (fun h=>rg<|u9 w5 0 h fun X3 a11 h=>rg<|j3 5 h (fun h=>rg<|fL lc h) (fun h=>rg<|(lc.nx h fun hI=>sk [] [5,22,23,24] [(1,0)] hI))) (fun h=>(lc.bk h fun hI=>sk [] [] [] hI))
def a6X(w:j8)(node:j6):Option Bool:=
 ((p6 (fun s:Int=>b1O w node s) 0).bind fun x=>x.go (fun r=>some r) fun s=>c42)
theorem d3R(w node)(r):NF a2j r (c6M w node) (fun s=>a6X w node):=fun _ h=>PK<|rg<|lp (d35 w node) h (fun _ h=>a2j.rt h) (c8t r) fun hI=>sk [] [5,22,23,24] [(2,0)] hI
def b19(w:j8)(id:Int):Option Bool:=
 ((idx w.c6 id).bind fun node=>(((bif (node.a9 != 2) then (bif (node.a9 != 3) then some (j9.ret false) else some (j9.brk ())) else some (j9.brk ())):Option (j9 Bool Unit)).bind fun x=>x.go some fun j=>a6X w node))
theorem d3S{w id}:OK a2j [.agg (S7 w),vi id] (b19 w id):=
 o9 _ fun r h=>n8<|u9 w5 3 h fun node hnode h=>B5 h (d3R w node r) fun x1 h hc1=>rg<|j3 3 h (fun h=>j3 7 h (fun h=>rg<|(B0 h hc1 fun h=>fE h)) (fun h=>(p8 h hc1 fun hI=>sk [] [2,5] [(1,0),(8,0)] hI))) (fun h=>(p8 h hc1 fun hI=>sk [] [2,5] [(1,0),(8,0)] hI))
def a0Q:FS (j8):=⟨23,Tryz.f23,[.val J5 []],[none,none],[.val J5 [],.val [] []],fun r=>.agg (S7 r),fun _=>[none,none],Tryz.func23⟩
def c5P:j8->KS:=fun w2=>⟨a0Q.k 4 [false],(bs 2 (.ptr 1 0 0::(bs 1 (.ptr 2 0 0::(bs 29 []))))),[some [],some [.var 32 (M1 w2)],some [.var 32 [.nil,.nil,.nil,.nil]]]⟩
def b9V:j8->KS:=fun w4=>⟨a0Q.k 6 [false,false],(bs 2 (.ptr 1 0 0::(bs 1 (.ptr 2 0 0::(bs 29 []))))),[some [],some [.var 32 (M1 w4)],some [.var 32 [.nil,.nil,.nil,.nil]]]⟩
def b7V(w4:j8):Option j8:=
 some w4
theorem d2P(r):NF a0Q r b9V (fun s=>b7V s):=fun w4 h=>PK<|rg<|fE h
def c9R:(j8×Int)->KS:=fun (w3,id)=>⟨a0Q.k 5 [false],(bs 2 (.ptr 1 0 0::(bs 1 (.ptr 2 0 0::(bs 1 (vi id::(bs 27 []))))))),[some [],some [.var 32 (M1 w3)],some [.var 32 [.nil,.nil,.nil,.nil]]]⟩
def a1E(w3:j8)(id:Int):Option (j7 j8 (j8×Int) j8):=
 (bif decide (id<3) then ((a4F w3 (F9.mk 6 id [])).bind fun a3s=>((a7i a3s).bind fun b81=>some (j7.nxt (b81,l9 (id+1))))) else some (j7.brk w3))
theorem d7t:LQ a0Q b9V c9R (fun s=>a1E s.1 s.2):=fun lc (w3,id) h=>PK<|rg<|j3 1 h (fun h=>rg<|j4 a0a b0d 3 h fun a3s h=>j4 a2H b30 4 h fun b81 h=>rg<|(lc.nx h fun hI=>sk [] [2,4,6] [(1,0),(2,0)] hI)) (fun h=>(lc.bk h fun hI=>sk [] [2,4] [(1,0),(2,0)] hI))
def b10(w2:j8):Option j8:=
 ((p6 (fun s:j8×Int=>a1E s.1 s.2) (w2,0)).bind fun x=>x.go (fun r=>some r) fun s=>b7V s)
theorem d4D(r):NF a0Q r c5P (fun s=>b10 s):=fun w2 h=>PK<|rg<|lp (d7t) h (fun _ h=>a0Q.rt h) (d2P r) fun hI=>sk [] [2,4,6] [(1,0),(2,0)] hI
def c90(O9:Int):(j8×Int)->KS:=fun (w1,i)=>⟨a0Q.k 3 [],(bs 1 (vi O9::(.ptr 1 0 0::(bs 1 (.ptr 2 0 0::(vi i::(bs 28 []))))))),[some [],some [.var 32 (M1 w1)],some [.var 32 [.nil,.nil,.nil,.nil]]]⟩
def a1z(O9:Int)(w1:j8)(i:Int):Option (j7 j8 (j8×Int) j8):=
 (bif decide (i<4) then ((b19 w1 O9).bind fun b76=>(bif (!b76) then ((a4F w1 (F9.mk 5 O9 [])).bind fun c4Q=>((a7i c4Q).bind fun c2X=>some (j7.nxt (c2X,l9 (i+1))))) else some (j7.brk w1))) else some (j7.brk w1))
theorem c9w(O9):LQ a0Q c5P (c90 O9) (fun s=>a1z O9 s.1 s.2):=fun lc (w1,i) h=>PK<|rg<|j3 2 h (fun h=>j4 a2j d3S 5 h fun b76 h=>j3 7 h (fun h=>rg<|j4 a0a b0d 3 h fun c4Q h=>j4 a2H b30 4 h fun c2X h=>rg<|(lc.nx h fun hI=>sk [] [1,2,4,5] [(1,0),(2,0)] hI)) (fun h=>(lc.bk h fun hI=>sk [] [2,4] [(1,0),(2,0)] hI))) (fun h=>(lc.bk h fun hI=>sk [] [2,4] [(1,0),(2,0)] hI))
def b1y(w:j8)(O9:Int):Option j8:=
 ((a7i w).bind fun c2P=>((p6 (fun s:j8×Int=>a1z O9 s.1 s.2) (c2P,0)).bind fun x=>x.go (fun r=>some r) fun s=>b10 s))
theorem c9Y{w O9}:OK a0Q [.agg (S7 w),vi O9] (b1y w O9):=
 o9 _ fun r h=>n8<|j4 a2H b30 1 h fun c2P h=>rg<|lp (c9w O9) h (fun _ h=>a0Q.rt h) (d4D r) fun hI=>sk [] [1,2,4,5] [(1,0),(2,0)] hI
def b4o:FS (j8):=⟨5,Tryz.f5,[.val J5 []],[none,none],[.val J5 [],.val [] []],fun r=>.agg (S7 r),fun _=>[none,none],Tryz.func5⟩
def a4J(w:j8)(O9:Int):Option j8:=
 ((a5T w).bind fun N8=>(bif (!N8) then some (j8.mk [] [] [] []) else ((A0 O9 0 2).bind fun in_=>(bif (!in_) then some (j8.mk [] [] [] []) else ((b1y w O9).bind fun c1o=>((Z6 c1o).bind fun C4=>some C4))))))
theorem c2u{w O9}:OK b4o [.agg (S7 w),vi O9] (a4J w O9):=
 o9 _ fun r h=>n8<|j4 K3 b32 1 h fun N8 h=>j3 3 h (fun h=>rg<|fE h) (fun h=>j4 z8 A8 5 h fun in_ h=>j3 7 h (fun h=>rg<|fE h) (fun h=>rg<|j4 a0Q c9Y 2 h fun c1o h=>j4 Q7 a5F 3 h fun C4 h=>I6 C4<|fE h))
def a3d:FS (Bool):=⟨7,Tryz.f7,[.val [] []],[none],[.val J5 []],fun r=>.b r,fun _=>[none],Tryz.func7⟩
def c3t:Unit->KS:=fun _=>⟨a3d.k 4 [false,false],(bs 36 []),[some []]⟩
def c5M:Option Bool:=
 some true
theorem d45(r):NF a3d r c3t (fun s=>c5M):=fun _ h=>PK<|rg<|fE h
def c7C(w:j8):Int->KS:=fun v17=>⟨a3d.k 3 [false],(bs 1 (.ptr 1 0 0::(bs 13 (j5 27 w5 w.c6::(vi (w.c6.length:Int)::(vi v17::(bs 18 []))))))),[some [],some [.var 32 (M1 w)]]⟩
def a6I(w:j8)(v17:Int):Option (j7 Bool Int Unit):=
 (bif decide (v17<(w.c6.length:Int)) then ((idx w.c6 v17).bind fun node=>(bif node.i4 then some (j7.ret false) else ((idx w.c6 0).bind fun X3=>(bif ((node.a6.length:Int) != (X3.a6.length:Int)) then some (j7.ret false) else some (j7.nxt (l9 (v17+1))))))) else some (j7.brk ()))
theorem c62(w):LQ a3d c3t (c7C w) (fun s=>a6I w s):=fun lc v17 h=>PK<|rg<|j3 0 h (fun h=>rg<|u9 w5 0 h fun node hnode h=>rg<|j3 2 h (fun h=>rg<|fL lc h) (fun h=>u9 w5 8 h fun X3 a11 h=>j3 13 h (fun h=>rg<|fL lc h) (fun h=>rg<|(lc.nx h fun hI=>sk [] [1,15,16,17] [(1,0)] hI)))) (fun h=>(lc.bk h fun hI=>sk [] [] [] hI))
def a1k(w:j8):Option Bool:=
 ((a5T w).bind fun N8=>(bif (!N8) then some false else (bif decide ((w.g8.length:Int)>0) then some false else ((p6 (fun s:Int=>a6I w s) 0).bind fun x=>x.go (fun r=>some r) fun s=>c5M))))
theorem c3a{w}:OK a3d [.agg (S7 w)] (a1k w):=
 o9 _ fun r h=>n8<|j4 K3 b32 1 h fun N8 h=>j3 3 h (fun h=>rg<|fE h) (fun h=>j3 8 h (fun h=>rg<|fE h) (fun h=>rg<|lp (c62 w) h (fun _ h=>a3d.rt h) (d45 r) fun hI=>sk [] [1,15,16,17] [(1,0)] hI))
def W3:FS (Bool):=⟨107,Tryz.f107,[.val [] []],[none,none],[.val a0b [],.val a0b []],fun r=>.b r,fun _=>[none,none],Tryz.func107⟩
def c2C(a:m8)(b:m8):Unit->KS:=fun _=>⟨W3.k 4 [false,false],(bs 2 (.ptr 1 0 0::(.ptr 2 0 0::(bs 69 [])))),[some [],some [.var 62 (a0g a)],some [.var 62 (a0g b)]]⟩
def b8N:Unit->KS:=fun _=>⟨W3.k 6 [false,false,false],(bs 73 []),[some []]⟩
def c0K:Option Bool:=
 some true
theorem d1q(r):NF W3 r b8N (fun s=>c0K):=fun _ h=>PK<|rg<|fE h
def c7g(a:m8)(b:m8):Int->KS:=fun i1=>⟨W3.k 5 [false,false],(bs 2 (.ptr 1 0 0::(.ptr 2 0 0::(bs 2 (vi i1::(bs 66 [])))))),[some [],some [.var 62 (a0g a)],some [.var 62 (a0g b)]]⟩
def a9f(a:m8)(b:m8)(i1:Int):Option (j7 Bool Int Unit):=
 (bif decide (i1<(a.b6.length:Int)) then ((idx a.b6 i1).bind fun put=>((idx b.b6 i1).bind fun put1=>(bif (!(([put.g7,put.c7]:List Int)==[put1.g7,put1.c7])) then some (j7.ret false) else some (j7.nxt (l9 (i1+1)))))) else some (j7.brk ()))
theorem d8c(a b):LQ W3 b8N (c7g a b) (fun s=>a9f a b s):=fun lc i1 h=>PK<|rg<|j3 4 h (fun h=>rg<|u9 t7 3 h fun put hput h=>u9 t7 8 h fun put1 a84 h=>j3 10 h (fun h=>rg<|fL lc h) (fun h=>rg<|(lc.nx h fun hI=>sk [] [2,3,6] [(1,0),(2,0)] hI))) (fun h=>(lc.bk h fun hI=>sk [] [] [] hI))
def b5u(a:m8)(b:m8):Option Bool:=
 ((p6 (fun s:Int=>a9f a b s) 0).bind fun x=>x.go (fun r=>some r) fun s=>c0K)
theorem d3i(a b)(r):NF W3 r (c2C a b) (fun s=>b5u a b):=fun _ h=>PK<|rg<|lp (d8c a b) h (fun _ h=>W3.rt h) (d1q r) fun hI=>sk [] [2,3,6] [(1,0),(2,0)] hI
def d3w(a:m8)(b:m8):Int->KS:=fun i=>⟨W3.k 3 [false],(bs 2 (.ptr 1 0 0::(.ptr 2 0 0::(bs 1 (vi i::(bs 67 [])))))),[some [],some [.var 62 (a0g a)],some [.var 62 (a0g b)]]⟩
def a8K(a:m8)(b:m8)(i:Int):Option (j7 Bool Int Unit):=
 (bif decide (i<(a.b5.length:Int)) then ((idx a.b5 i).bind fun read=>((idx b.b5 i).bind fun M0=>(bif (!(([read.g7,read.i8]:List Int)==[M0.g7,M0.i8])) then some (j7.ret false) else some (j7.nxt (l9 (i+1)))))) else some (j7.brk ()))
theorem d3F(a b):LQ W3 (c2C a b) (d3w a b) (fun s=>a8K a b s):=fun lc i h=>PK<|rg<|j3 4 h (fun h=>rg<|u9 t6 3 h fun read a3D h=>u9 t6 8 h fun M0 b79 h=>j3 10 h (fun h=>rg<|fL lc h) (fun h=>rg<|(lc.nx h fun hI=>sk [] [2,3,5] [(1,0),(2,0)] hI))) (fun h=>(lc.bk h fun hI=>sk [] [2,3] [(1,0),(2,0)] hI))
def a5V(a:m8)(b:m8):Option Bool:=
 (bif (a.c7 != b.c7) then some false else (bif (a.Code != b.Code) then some false else (bif ((a.b5.length:Int) != (b.b5.length:Int)) then some false else (bif ((a.b6.length:Int) != (b.b6.length:Int)) then some false else ((p6 (fun s:Int=>a8K a b s) 0).bind fun x=>x.go (fun r=>some r) fun s=>b5u a b)))))
theorem b4w{a b}:OK W3 [.agg (Y8 a),.agg (Y8 b)] (a5V a b):=
 o9 _ fun r h=>n8<|j3 5 h (fun h=>rg<|fE h) (fun h=>j3 12 h (fun h=>rg<|fE h) (fun h=>j3 21 h (fun h=>rg<|fE h) (fun h=>j3 29 h (fun h=>rg<|fE h) (fun h=>rg<|lp (d3F a b) h (fun _ h=>W3.rt h) (d3i a b r) fun hI=>sk [] [2,3,5] [(1,0),(2,0)] hI))))
def a1s:FS (Bool):=⟨81,Tryz.f81,[.val [] []],[none],[.val [] []],fun r=>.b r,fun _=>[none],Tryz.func81⟩
def a0H(n:Int):Option Bool:=
 (bif decide (n>=1) then some (decide (n<=3000)) else some false)
theorem a1V{n}:OK a1s [vi n] (a0H n):=
 o9 _ fun r h=>n8<|j3 2 h (fun h=>fE h) (fun h=>fE h)
def b2f:FS (Bool):=⟨51,Tryz.f51,[.val [] []],[none],[.val [] []],fun r=>.b r,fun _=>[none],Tryz.func51⟩
def a7o(q:p9):Option Bool:=
 (bif decide (q.b9>=0) then (bif decide (q.b9<3) then (bif decide (q.Seq>=1) then some (decide (q.Seq<=1000)) else some false) else some false) else some false)
theorem b6h{q}:OK b2f [.agg (a3k q)] (a7o q):=
 o9 _ fun r h=>n8<|j3 3 h (fun h=>j3 8 h (fun h=>j3 13 h (fun h=>fE h) (fun h=>fE h)) (fun h=>fE h)) (fun h=>fE h)
def a8r:FS (Bool):=⟨55,Tryz.f55,[.val [] []],[none],[.val [] []],fun r=>.b r,fun _=>[none],Tryz.func55⟩
def a51(n:Int):Option Bool:=
 (bif decide (n>=(-1000000)) then some (decide (n<=1000000)) else some false)
theorem b3S{n}:OK a8r [vi n] (a51 n):=
 o9 _ fun r h=>n8<|j3 2 h (fun h=>fE h) (fun h=>fE h)
def a8H:FS (Bool):=⟨54,Tryz.f54,[.val [] []],[none],[.val [] []],fun r=>.b r,fun _=>[none],Tryz.func54⟩
def a4p(n:Int):Option Bool:=
 (bif decide (n>=0) then some (decide (n<4)) else some false)
theorem b0O{n}:OK a8H [vi n] (a4p n):=
 o9 _ fun r h=>n8<|j3 2 h (fun h=>fE h) (fun h=>fE h)
def a5O:FS (Bool):=⟨131,Tryz.f131,[.val [] []],[none,none],[.val [some 2] [],.val [] []],fun r=>.b r,fun _=>[none,none],Tryz.func131⟩
def c0G:Unit->KS:=fun _=>⟨a5O.k 3 [false],(bs 19 []),[some []]⟩
def c3f:Option Bool:=
 some false
theorem d2z(r):NF a5O r c0G (fun s=>c3f):=fun _ h=>PK<|rg<|fE h
def c76(list:List p7)(box:Int):Int->KS:=fun i=>⟨a5O.k 2 [],(j5 2 t6 list::(vi box::(bs 3 (vi i::(bs 13 []))))),[some []]⟩
def b21(list:List p7)(box:Int)(i:Int):Option (j7 Bool Int Unit):=
 (bif decide (i<(list.length:Int)) then ((idx list i).bind fun read=>(bif (read.g7==box) then some (j7.ret true) else some (j7.nxt (l9 (i+1))))) else some (j7.brk ()))
theorem c70(list box):LQ a5O c0G (c76 list box) (fun s=>b21 list box s):=fun lc i h=>PK<|rg<|j3 3 h (fun h=>rg<|u9 t6 2 h fun read a3D h=>j3 6 h (fun h=>rg<|fL lc h) (fun h=>rg<|(lc.nx h fun hI=>sk [] [0,1,5] [] hI))) (fun h=>(lc.bk h fun hI=>sk [] [] [] hI))
def b06(list:List p7)(box:Int):Option Bool:=
 ((p6 (fun s:Int=>b21 list box s) 0).bind fun x=>x.go (fun r=>some r) fun s=>c3f)
theorem d8i{list box}:OK a5O [j5 2 t6 list,vi box] (b06 list box):=
 o9 _ fun r h=>n8<|lp (c70 list box) h (fun _ h=>a5O.rt h) (d2z r) fun hI=>sk [] [0,1,5] [] hI
def a4N:FS (Int):=⟨132,Tryz.f132,[.val [] []],[none,none],[.val [some 2] [],.val [] []],fun r=>vi r,fun _=>[none,none],Tryz.func132⟩
def c1k:Unit->KS:=fun _=>⟨a4N.k 3 [false],(bs 20 []),[some []]⟩
def c3N:Option Int:=
 some (-1)
theorem d5E(r):NF a4N r c1k (fun s=>c3N):=fun _ h=>PK<|rg<|fE h
def d05(list:List o7)(box:Int):Int->KS:=fun i=>⟨a4N.k 2 [],(j5 2 t7 list::(vi box::(bs 3 (vi i::(bs 14 []))))),[some []]⟩
def a7z(list:List o7)(box:Int)(i:Int):Option (j7 Int Int Unit):=
 (bif decide (i<(list.length:Int)) then ((idx list i).bind fun put=>(bif (put.g7==box) then some (j7.ret i) else some (j7.nxt (l9 (i+1))))) else some (j7.brk ()))
theorem d7Y(list box):LQ a4N c1k (d05 list box) (fun s=>a7z list box s):=fun lc i h=>PK<|rg<|j3 3 h (fun h=>rg<|u9 t7 2 h fun put hput h=>j3 6 h (fun h=>rg<|fL lc h) (fun h=>rg<|(lc.nx h fun hI=>sk [] [0,1,5] [] hI))) (fun h=>(lc.bk h fun hI=>sk [] [] [] hI))
def b2e(list:List o7)(box:Int):Option Int:=
 ((p6 (fun s:Int=>a7z list box s) 0).bind fun x=>x.go (fun r=>some r) fun s=>c3N)
theorem c6u{list box}:OK a4N [j5 2 t7 list,vi box] (b2e list box):=
 o9 _ fun r h=>n8<|lp (d7Y list box) h (fun _ h=>a4N.rt h) (d5E r) fun hI=>sk [] [0,1,5] [] hI
def W1:FS (Bool):=⟨108,Tryz.f108,[.val [] []],[none],[.val a0b []],fun r=>.b r,fun _=>[none],Tryz.func108⟩
def c7Y(r_:m8):Unit->KS:=fun _=>⟨W1.k 2 [false],(bs 1 (.ptr 1 0 0::(bs 129 []))),[some [],some [.var 62 (a0g r_)]]⟩
def c0Q(r_:m8):Unit->KS:=fun _=>⟨W1.k 4 [false,false],(bs 1 (.ptr 1 0 0::(bs 129 []))),[some [],some [.var 62 (a0g r_)]]⟩
def c3M:Unit->KS:=fun _=>⟨W1.k 6 [false,false,false],(bs 131 []),[some []]⟩
def b8G:Option Bool:=
 some true
theorem d68(r):NF W1 r c3M (fun s=>b8G):=fun _ h=>PK<|rg<|fE h
def d04(r_:m8):Int->KS:=fun i1=>⟨W1.k 5 [false,false],(bs 1 (.ptr 1 0 0::(bs 2 (vi i1::(bs 126 []))))),[some [],some [.var 62 (a0g r_)]]⟩
def a7r(r_:m8)(i1:Int):Option (j7 Bool Int Unit):=
 (bif decide (i1<(r_.b6.length:Int)) then ((idx r_.b6 i1).bind fun put=>((a4p put.g7).bind fun a9Q=>(bif (!a9Q) then some (j7.ret false) else ((a51 put.c7).bind fun a4l=>(bif (!a4l) then some (j7.ret false) else (r7 ((0:Int)<=i1/\i1<=(r_.b6.length:Int)) (((b2e ((r_.b6.drop 0).take (i1.toNat-0)) put.g7).bind fun c3j=>(bif decide (c3j>=0) then some (j7.ret false) else some (j7.nxt (l9 (i1+1)))))))))))) else some (j7.brk ()))
theorem c7J(r_):LQ W1 c3M (d04 r_) (fun s=>a7r r_ s):=fun lc i1 h=>PK<|rg<|j3 4 h (fun h=>rg<|u9 t7 3 h fun put hput h=>j4 a8H b0O 6 h fun a9Q h=>j3 8 h (fun h=>rg<|fL lc h) (fun h=>Z7 t7 12 hput<|j4 a8r b3S 15 h fun a4l h=>j3 18 h (fun h=>rg<|fL lc h) (fun h=>t0 h fun e1 h=>om (V.sl 2 (i1.toNat-0) (((r_.b6.map t7).drop 0).take (i1.toNat-0))=j5 2 t7 ((r_.b6.drop 0).take (i1.toNat-0))) (a75 e1)<|ob e1.1<|ob e1.2<|tl (22,{v:=some (j5 2 t7 ((r_.b6.drop 0).take (i1.toNat-0)))})<|Z7 t7 26 hput<|j4 a4N c6u 29 h fun c3j h=>j3 31 h (fun h=>rg<|fL lc h) (fun h=>rg<|(lc.nx h fun hI=>sk [] [1,4] [(1,0)] hI))))) (fun h=>(lc.bk h fun hI=>sk [] [] [] hI))
def b4k(r_:m8):Option Bool:=
 ((p6 (fun s:Int=>a7r r_ s) 0).bind fun x=>x.go (fun r=>some r) fun s=>b8G)
theorem d4V(r_)(r):NF W1 r (c0Q r_) (fun s=>b4k r_):=fun _ h=>PK<|rg<|lp (c7J r_) h (fun _ h=>W1.rt h) (d68 r) fun hI=>sk [] [1,4] [(1,0)] hI
def d5z(r_:m8):Int->KS:=fun i=>⟨W1.k 3 [false],(bs 1 (.ptr 1 0 0::(bs 1 (vi i::(bs 127 []))))),[some [],some [.var 62 (a0g r_)]]⟩
def a9J(r_:m8)(i:Int):Option (j7 Bool Int Unit):=
 (bif decide (i<(r_.b5.length:Int)) then ((idx r_.b5 i).bind fun read=>((a4p read.g7).bind fun a7u=>(bif (!a7u) then some (j7.ret false) else (bif decide (read.i8<0) then some (j7.ret false) else (bif decide (read.i8>1000000) then some (j7.ret false) else (r7 ((0:Int)<=i/\i<=(r_.b5.length:Int)) (((b06 ((r_.b5.drop 0).take (i.toNat-0)) read.g7).bind fun c1t=>(bif c1t then some (j7.ret false) else some (j7.nxt (l9 (i+1)))))))))))) else some (j7.brk ()))
theorem c9J(r_):LQ W1 (c0Q r_) (d5z r_) (fun s=>a9J r_ s):=fun lc i h=>PK<|rg<|j3 4 h (fun h=>rg<|u9 t6 3 h fun read a3D h=>j4 a8H b0O 6 h fun a7u h=>j3 8 h (fun h=>rg<|fL lc h) (fun h=>Z7 t6 12 a3D<|j3 17 h (fun h=>rg<|fL lc h) (fun h=>Z7 t6 21 a3D<|j3 26 h (fun h=>rg<|fL lc h) (fun h=>t0 h fun e2 h=>om (V.sl 2 (i.toNat-0) (((r_.b5.map t6).drop 0).take (i.toNat-0))=j5 2 t6 ((r_.b5.drop 0).take (i.toNat-0))) (a75 e2)<|ob e2.1<|ob e2.2<|tl (30,{v:=some (j5 2 t6 ((r_.b5.drop 0).take (i.toNat-0)))})<|Z7 t6 34 a3D<|j4 a5O d8i 37 h fun c1t h=>j3 38 h (fun h=>rg<|fL lc h) (fun h=>rg<|(lc.nx h fun hI=>sk [] [1,3] [(1,0)] hI)))))) (fun h=>(lc.bk h fun hI=>sk [] [1] [(1,0)] hI))
def b3M(r_:m8):Option Bool:=
 ((p6 (fun s:Int=>a9J r_ s) 0).bind fun x=>x.go (fun r=>some r) fun s=>b4k r_)
theorem c7K(r_)(r):NF W1 r (c7Y r_) (fun s=>b3M r_):=fun _ h=>PK<|rg<|lp (c9J r_) h (fun _ h=>W1.rt h) (d4V r_ r) fun hI=>sk [] [1,3] [(1,0)] hI
def b1p(r_:m8):Option Bool:=
 (((bif decide (r_.Code<0) then some (j9.ret false) else (bif decide (r_.Code>3) then some (j9.ret false) else ((a51 r_.c7).bind fun c0d=>(bif (!c0d) then some (j9.ret false) else (bif (r_.Code != 0) then (bif (r_.c7 != 0) then some (j9.ret false) else (bif decide ((r_.b6.length:Int)>0) then some (j9.ret false) else (bif (r_.Code==3) then (bif decide ((r_.b5.length:Int)>0) then some (j9.ret false) else some (j9.brk ())) else some (j9.brk ())))) else (bif (r_.Code==3) then (bif decide ((r_.b5.length:Int)>0) then some (j9.ret false) else some (j9.brk ())) else some (j9.brk ()))))))):Option (j9 Bool Unit)).bind fun x=>x.go some fun j=>b3M r_)
theorem d3Q{r_}:OK W1 [.agg (Y8 r_)] (b1p r_):=
 o9 _ fun r h=>rg<|B5 h (c7K r_ r) fun x1 h hc1=>rg<|j3 3 h (fun h=>rg<|(B0 h hc1 fun h=>fE h)) (fun h=>j3 8 h (fun h=>rg<|(B0 h hc1 fun h=>fE h)) (fun h=>j4 a8r b3S 11 h fun c0d h=>j3 14 h (fun h=>rg<|(B0 h hc1 fun h=>fE h)) (fun h=>j3 18 h (fun h=>j3 22 h (fun h=>rg<|(B0 h hc1 fun h=>fE h)) (fun h=>j3 30 h (fun h=>rg<|(B0 h hc1 fun h=>fE h)) (fun h=>j3 34 h (fun h=>j3 40 h (fun h=>rg<|(B0 h hc1 fun h=>fE h)) (fun h=>(p8 h hc1 fun hI=>sk [] [1] [(1,0)] hI))) (fun h=>(p8 h hc1 fun hI=>sk [] [1] [(1,0)] hI))))) (fun h=>j3 34 h (fun h=>j3 40 h (fun h=>rg<|(B0 h hc1 fun h=>fE h)) (fun h=>(p8 h hc1 fun hI=>sk [] [1] [(1,0)] hI))) (fun h=>(p8 h hc1 fun hI=>sk [] [1] [(1,0)] hI))))))
def a27:FS (Bool):=⟨79,Tryz.f79,[.val [] []],[none],[.val T3 []],fun r=>.b r,fun _=>[none],Tryz.func79⟩
def a1r(e_:l7):Option Bool:=
 (bif e_.i7 then (bif (([e_.a7.b9,e_.a7.Seq]:List Int)==[0,0]) then ((a5V e_.d6 (m8.mk [] [] 0 0)).bind fun a1q=>some a1q) else some false) else ((a7o e_.a7).bind fun a3r=>(bif a3r then ((b1p e_.d6).bind fun a1w=>(bif a1w then some (e_.d6.Code != 3) else some false)) else some false)))
theorem a4h{e_}:OK a27 [.agg (v5 e_)] (a1r e_):=
 o9 _ fun r h=>n8<|j3 1 h (fun h=>rg<|j3 4 h (fun h=>j4 W3 b4w 8 h fun a1q h=>fE h) (fun h=>fE h)) (fun h=>rg<|j4 b2f b6h 2 h fun a3r h=>j3 3 h (fun h=>j4 W1 d3Q 6 h fun a1w h=>j3 8 h (fun h=>fE h) (fun h=>fE h)) (fun h=>fE h))
def c1q:FS (Bool):=⟨109,Tryz.f109,[.val [] []],[none],[.val a1G []],fun r=>.b r,fun _=>[none],Tryz.func109⟩
def b1V(v_:n7):Option Bool:=
 (bif (v_.a5==0) then (bif (!v_.d7.i7) then (bif (([v_.d7.a7.b9,v_.d7.a7.Seq]:List Int)==[0,0]) then ((a5V v_.d7.d6 (m8.mk [] [] 0 0)).bind fun a1q=>some a1q) else some false) else some false) else ((a0H v_.a5).bind fun a02=>(bif a02 then ((a1r v_.d7).bind fun C5=>some C5) else some false)))
theorem d5Z{v_}:OK c1q [.agg (s5 v_)] (b1V v_):=
 o9 _ fun r h=>n8<|j3 2 h (fun h=>rg<|j3 4 h (fun h=>j3 11 h (fun h=>j4 W3 b4w 16 h fun a1q h=>fE h) (fun h=>fE h)) (fun h=>fE h)) (fun h=>rg<|j4 a1s a1V 2 h fun a02 h=>j3 3 h (fun h=>j4 a27 a4h 6 h fun C5 h=>fE h) (fun h=>fE h))
def a04:FS (Bool):=⟨82,Tryz.f82,[.val [] []],[none],[.val [some 8] []],fun r=>.b r,fun _=>[none],Tryz.func82⟩
def c2J:Unit->KS:=fun _=>⟨a04.k 4 [false,false],(bs 19 []),[some []]⟩
def c4b:Option Bool:=
 some true
theorem d0u(r):NF a04 r c2J (fun s=>c4b):=fun _ h=>PK<|rg<|fE h
def c7t(list:List n7):Int->KS:=fun i=>⟨a04.k 3 [false],(j5 8 s5 list::(bs 2 (vi i::(bs 15 [])))),[some []]⟩
def b3g(list:List n7)(i:Int):Option (j7 Bool Int Unit):=
 (bif decide (i<(list.length:Int)) then ((idx list i).bind fun vote=>((b1V vote).bind fun c3S=>(bif (!c3S) then some (j7.ret false) else some (j7.nxt (l9 (i+1)))))) else some (j7.brk ()))
theorem c8s(list):LQ a04 c2J (c7t list) (fun s=>b3g list s):=fun lc i h=>PK<|rg<|j3 3 h (fun h=>rg<|u9 s5 2 h fun vote a4c h=>j4 c1q d5Z 4 h fun c3S h=>j3 5 h (fun h=>rg<|fL lc h) (fun h=>rg<|(lc.nx h fun hI=>sk [] [0,3] [] hI))) (fun h=>(lc.bk h fun hI=>sk [] [] [] hI))
def a36(list:List n7):Option Bool:=
 (bif decide ((list.length:Int)>40) then some false else ((p6 (fun s:Int=>b3g list s) 0).bind fun x=>x.go (fun r=>some r) fun s=>c4b))
theorem a7O{list}:OK a04 [j5 8 s5 list] (a36 list):=
 o9 _ fun r h=>n8<|j3 2 h (fun h=>rg<|fE h) (fun h=>rg<|lp (c8s list) h (fun _ h=>a04.rt h) (d0u r) fun hI=>sk [] [0,3] [] hI)
def a4B:FS (Bool):=⟨75,Tryz.f75,[.val [] []],[none],[.val [none,some 8] []],fun r=>.b r,fun _=>[none],Tryz.func75⟩
def b9b:Unit->KS:=fun _=>⟨a4B.k 4 [false,false],(bs 34 []),[some []]⟩
def c46:Option Bool:=
 some true
theorem d5V(r):NF a4B r b9b (fun s=>c46):=fun _ h=>PK<|rg<|fE h
def d6V(a:v6):Int->KS:=fun i=>⟨a4B.k 3 [false],(bs 1 (.ptr 1 0 0::(bs 1 (vi i::(bs 30 []))))),[some [],some [.var 56 [vi a.d9,j5 8 s5 a.a8]]]⟩
def b3i(a:v6)(i:Int):Option (j7 Bool Int Unit):=
 (bif decide (i<(a.a8.length:Int)) then ((idx a.a8 i).bind fun vote=>(bif decide (vote.a5>a.d9) then some (j7.ret false) else some (j7.nxt (l9 (i+1))))) else some (j7.brk ()))
theorem d8l(a):LQ a4B b9b (d6V a) (fun s=>b3i a s):=fun lc i h=>PK<|rg<|j3 4 h (fun h=>rg<|u9 s5 3 h fun vote a4c h=>j3 8 h (fun h=>rg<|fL lc h) (fun h=>rg<|(lc.nx h fun hI=>sk [] [1,3] [(1,0)] hI))) (fun h=>(lc.bk h fun hI=>sk [] [] [] hI))
def b2l(a:v6):Option Bool:=
 (bif decide (a.d9<0) then some false else (bif decide (a.d9>3000) then some false else ((a36 a.a8).bind fun a4e=>(bif (!a4e) then some false else ((p6 (fun s:Int=>b3i a s) 0).bind fun x=>x.go (fun r=>some r) fun s=>c46)))))
theorem d5B{a}:OK a4B [.agg (a3Y a)] (b2l a):=
 o9 _ fun r h=>n8<|j3 3 h (fun h=>rg<|fE h) (fun h=>j3 8 h (fun h=>rg<|fE h) (fun h=>j4 a04 a7O 11 h fun a4e h=>j3 13 h (fun h=>rg<|fE h) (fun h=>rg<|lp (d8l a) h (fun _ h=>a4B.rt h) (d5V r) fun hI=>sk [] [1,3] [(1,0)] hI)))
def a4m:FS (Bool):=⟨76,Tryz.f76,[.val [] []],[none],[.val [some 7] []],fun r=>.b r,fun _=>[none],Tryz.func76⟩
def c1Z:Unit->KS:=fun _=>⟨a4m.k 4 [false,false],(bs 19 []),[some []]⟩
def b93:Option Bool:=
 some true
theorem d7k(r):NF a4m r c1Z (fun s=>b93):=fun _ h=>PK<|rg<|fE h
def d3Y(list:List l7):Int->KS:=fun i=>⟨a4m.k 3 [false],(j5 7 v5 list::(bs 2 (vi i::(bs 15 [])))),[some []]⟩
def a98(list:List l7)(i:Int):Option (j7 Bool Int Unit):=
 (bif decide (i<(list.length:Int)) then ((idx list i).bind fun entry=>((a1r entry).bind fun C5=>(bif (!C5) then some (j7.ret false) else some (j7.nxt (l9 (i+1)))))) else some (j7.brk ()))
theorem c8J(list):LQ a4m c1Z (d3Y list) (fun s=>a98 list s):=fun lc i h=>PK<|rg<|j3 3 h (fun h=>rg<|u9 v5 2 h fun entry a0d h=>j4 a27 a4h 4 h fun C5 h=>j3 5 h (fun h=>rg<|fL lc h) (fun h=>rg<|(lc.nx h fun hI=>sk [] [0,3] [] hI))) (fun h=>(lc.bk h fun hI=>sk [] [] [] hI))
def b2A(list:List l7):Option Bool:=
 (bif decide ((list.length:Int)>40) then some false else ((p6 (fun s:Int=>a98 list s) 0).bind fun x=>x.go (fun r=>some r) fun s=>b93))
theorem d6d{list}:OK a4m [j5 7 v5 list] (b2A list):=
 o9 _ fun r h=>n8<|j3 2 h (fun h=>rg<|fE h) (fun h=>rg<|lp (c8J list) h (fun _ h=>a4m.rt h) (d7k r) fun hI=>sk [] [0,3] [] hI)
def a4A:FS (Bool):=⟨80,Tryz.f80,[.val [] []],[none],[.val T3 []],fun r=>.b r,fun _=>[none],Tryz.func80⟩
def a2C(e_:l7):Option Bool:=
 (bif (!e_.i7) then (bif (([e_.a7.b9,e_.a7.Seq]:List Int)==[0,0]) then ((a5V e_.d6 (m8.mk [] [] 0 0)).bind fun a1q=>some a1q) else some false) else some false)
theorem a56{e_}:OK a4A [.agg (v5 e_)] (a2C e_):=
 o9 _ fun r h=>n8<|j3 3 h (fun h=>j3 9 h (fun h=>j4 W3 b4w 13 h fun a1q h=>fE h) (fun h=>fE h)) (fun h=>fE h)
def b0p:FS (Int):=⟨106,Tryz.f106,[.val [] []],[none],[.val [] []],fun r=>vi r,fun _=>[none],Tryz.func106⟩
def a7m(bal:Int):Option Int:=
 ((a0H bal).bind fun a02=>(bif (!a02) then some (-1) else some (d9x bal 3)))
theorem b7p{bal}:OK b0p [vi bal] (a7m bal):=
 o9 _ fun r h=>n8<|j4 a1s a1V 1 h fun a02 h=>j3 2 h (fun h=>rg<|fE h) (fun h=>rg<|om (3≠(0:Int)) (by decide)<|fE h)
def c4x:FS (Bool):=⟨77,Tryz.f77,[.val [] []],[none],[.val I0 []],fun r=>.b r,fun _=>[none],Tryz.func77⟩
def b2z(n:j6):Option Bool:=
 (bif (n.a9==0) then (bif (n.a5==0) then (bif ((n.b7.length:Int)==0) then (bif ((n.f0.length:Int)==0) then ((a2C n.c9).bind fun l7None=>(bif l7None then some ((n.a8.length:Int)==0) else some false)) else some false) else some false) else some false) else (bif (n.a9==1) then ((a0H n.a5).bind fun a02=>(bif a02 then (bif decide (n.a5<=n.Acc.d9) then ((a7m n.a5).bind fun a39=>(bif (a39==n.Id) then (bif ((n.b7.length:Int)==3) then ((idx n.b7 n.Id).bind fun y=>(bif y then ((a36 n.f0).bind fun a4e=>(bif a4e then ((a2C n.c9).bind fun b78=>(bif b78 then some ((n.a8.length:Int)==0) else some false)) else some false)) else some false)) else some false) else some false)) else some false) else some false)) else (bif (n.a9==2) then ((a0H n.a5).bind fun a8c=>(bif (!a8c) then some false else (bif decide (n.a5>n.Acc.d9) then some false else ((a7m n.a5).bind fun c4t=>(bif (c4t != n.Id) then some false else (bif ((n.b7.length:Int) != 0) then some false else ((a36 n.f0).bind fun b87=>(bif (!b87) then some false else (bif (n.a9==2) then ((a2C n.c9).bind fun c4h=>(bif c4h then some ((n.a8.length:Int)==0) else some false)) else ((a1r n.c9).bind fun C5=>(bif C5 then (bif ((n.a8.length:Int)==3) then ((idx n.a8 n.Id).bind fun y1=>(bif y1 then some (decide ((n.a6.length:Int)<40)) else some false)) else some false) else some false))))))))))) else (bif (n.a9==3) then ((a0H n.a5).bind fun a8N=>(bif (!a8N) then some false else (bif decide (n.a5>n.Acc.d9) then some false else ((a7m n.a5).bind fun b9a=>(bif (b9a != n.Id) then some false else (bif ((n.b7.length:Int) != 0) then some false else ((a36 n.f0).bind fun b7W=>(bif (!b7W) then some false else (bif (n.a9==2) then ((a2C n.c9).bind fun c2O=>(bif c2O then some ((n.a8.length:Int)==0) else some false)) else ((a1r n.c9).bind fun a06=>(bif a06 then (bif ((n.a8.length:Int)==3) then ((idx n.a8 n.Id).bind fun y2=>(bif y2 then some (decide ((n.a6.length:Int)<40)) else some false)) else some false) else some false))))))))))) else some false))))
set_option maxRecDepth 20000 in
theorem c6q{n}:OK c4x [.agg (w5 n)] (b2z n):=
 o9 _ fun r h=>X1<|j3 1 h (fun h=>rg<|j3 3 h (fun h=>j3 9 h (fun h=>j3 15 h (fun h=>j4 a4A a56 18 h fun l7None h=>j3 20 h (fun h=>fE h) (fun h=>fE h)) (fun h=>fE h)) (fun h=>fE h)) (fun h=>fE h)) (fun h=>rg<|j3 1 h (fun h=>rg<|j4 a1s a1V 2 h fun a02 h=>j3 3 h (fun h=>j3 11 h (fun h=>j4 b0p b7p 14 h fun a39 h=>j3 19 h (fun h=>j3 25 h (fun h=>u9 eB 30 h fun y hy h=>j3 33 h (fun h=>j4 a04 a7O 36 h fun a4e h=>j3 38 h (fun h=>j4 a4A a56 41 h fun b78 h=>j3 43 h (fun h=>fE h) (fun h=>fE h)) (fun h=>fE h)) (fun h=>fE h)) (fun h=>fE h)) (fun h=>fE h)) (fun h=>fE h)) (fun h=>fE h)) (fun h=>rg<|j3 1 h (fun h=>rg<|j4 a1s a1V 2 h fun a8c h=>j3 4 h (fun h=>rg<|fE h) (fun h=>j3 12 h (fun h=>rg<|fE h) (fun h=>j4 b0p b7p 15 h fun c4t h=>j3 20 h (fun h=>rg<|fE h) (fun h=>j3 26 h (fun h=>rg<|fE h) (fun h=>j4 a04 a7O 29 h fun b87 h=>j3 31 h (fun h=>rg<|fE h) (fun h=>rg<|j3 2 h (fun h=>rg<|j4 a4A a56 2 h fun c4h h=>j3 3 h (fun h=>fE h) (fun h=>fE h)) (fun h=>rg<|j4 a27 a4h 2 h fun C5 h=>j3 3 h (fun h=>j3 9 h (fun h=>u9 eB 14 h fun y1 hy1 h=>j3 17 h (fun h=>fE h) (fun h=>fE h)) (fun h=>fE h)) (fun h=>fE h)))))))) (fun h=>rg<|j3 1 h (fun h=>rg<|j4 a1s a1V 2 h fun a8N h=>j3 4 h (fun h=>rg<|fE h) (fun h=>j3 12 h (fun h=>rg<|fE h) (fun h=>j4 b0p b7p 15 h fun b9a h=>j3 20 h (fun h=>rg<|fE h) (fun h=>j3 26 h (fun h=>rg<|fE h) (fun h=>j4 a04 a7O 29 h fun b7W h=>j3 31 h (fun h=>rg<|fE h) (fun h=>rg<|j3 2 h (fun h=>rg<|j4 a4A a56 2 h fun c2O h=>j3 3 h (fun h=>fE h) (fun h=>fE h)) (fun h=>rg<|j4 a27 a4h 2 h fun a06 h=>j3 3 h (fun h=>j3 9 h (fun h=>u9 eB 14 h fun y2 hy2 h=>j3 17 h (fun h=>fE h) (fun h=>fE h)) (fun h=>fE h)) (fun h=>fE h)))))))) (fun h=>rg<|fE h))))
def a1J:FS (Bool):=⟨53,Tryz.f53,[.val [] []],[none],[.val [] []],fun r=>.b r,fun _=>[none],Tryz.func53⟩
def a0O(n:Int):Option Bool:=
 (bif decide (n>=0) then some (decide (n<4)) else some false)
theorem a2F{n}:OK a1J [vi n] (a0O n):=
 o9 _ fun r h=>n8<|j3 2 h (fun h=>fE h) (fun h=>fE h)
def c0j:FS (Bool):=⟨26,Tryz.f26,[.val [] []],[none],[.val [] []],fun r=>.b r,fun _=>[none],Tryz.func26⟩
def b29(i:m5):Option Bool:=
 (bif (i.a0==1) then ((a0O i.A).bind fun b8s=>(bif b8s then ((a4p i.B).bind fun a9Q=>(bif a9Q then some (i.N==0) else some false)) else some false)) else (bif (i.a0==2) then ((a4p i.A).bind fun a7u=>(bif a7u then ((a0O i.B).bind fun c5l=>(bif c5l then some (i.N==0) else some false)) else some false)) else (bif (i.a0==3) then ((a0O i.A).bind fun c1l=>(bif c1l then (bif (i.B==0) then ((a51 i.N).bind fun a4l=>some a4l) else some false) else some false)) else (bif (i.a0==4) then ((a0O i.A).bind fun c1s=>(bif c1s then ((a0O i.B).bind fun c50=>(bif c50 then some (i.N==0) else some false)) else some false)) else (bif (i.a0==5) then ((a0O i.A).bind fun c2L=>(bif c2L then ((a0O i.B).bind fun c10=>(bif c10 then some (i.N==0) else some false)) else some false)) else (bif (i.a0==6) then ((a0O i.A).bind fun b8T=>(bif b8T then ((a0O i.B).bind fun c4P=>(bif c4P then (bif decide (i.N>=1) then some (decide (i.N<=10)) else some false) else some false)) else some false)) else (bif (i.a0==7) then (bif (i.A==0) then (bif (i.B==0) then some (i.N==0) else some false) else some false) else some false)))))))
theorem c89{i}:OK c0j [.agg (z3 i)] (b29 i):=
 o9 _ fun r h=>X1<|j3 1 h (fun h=>rg<|j4 a1J a2F 2 h fun b8s h=>j3 3 h (fun h=>j4 a8H b0O 6 h fun a9Q h=>j3 8 h (fun h=>fE h) (fun h=>fE h)) (fun h=>fE h)) (fun h=>rg<|j3 1 h (fun h=>rg<|j4 a8H b0O 2 h fun a7u h=>j3 3 h (fun h=>j4 a1J a2F 6 h fun c5l h=>j3 8 h (fun h=>fE h) (fun h=>fE h)) (fun h=>fE h)) (fun h=>rg<|j3 1 h (fun h=>rg<|j4 a1J a2F 2 h fun c1l h=>j3 3 h (fun h=>j3 8 h (fun h=>j4 a8r b3S 11 h fun a4l h=>fE h) (fun h=>fE h)) (fun h=>fE h)) (fun h=>rg<|j3 1 h (fun h=>rg<|j4 a1J a2F 2 h fun c1s h=>j3 3 h (fun h=>j4 a1J a2F 6 h fun c50 h=>j3 8 h (fun h=>fE h) (fun h=>fE h)) (fun h=>fE h)) (fun h=>rg<|j3 1 h (fun h=>rg<|j4 a1J a2F 2 h fun c2L h=>j3 3 h (fun h=>j4 a1J a2F 6 h fun c10 h=>j3 8 h (fun h=>fE h) (fun h=>fE h)) (fun h=>fE h)) (fun h=>rg<|j3 1 h (fun h=>rg<|j4 a1J a2F 2 h fun b8T h=>j3 3 h (fun h=>j4 a1J a2F 6 h fun c4P h=>j3 8 h (fun h=>j3 13 h (fun h=>fE h) (fun h=>fE h)) (fun h=>fE h)) (fun h=>fE h)) (fun h=>rg<|j3 1 h (fun h=>rg<|j3 3 h (fun h=>j3 8 h (fun h=>fE h) (fun h=>fE h)) (fun h=>fE h)) (fun h=>rg<|fE h)))))))
def a2u:FS (Bool):=⟨9,Tryz.f9,[.val [] []],[none],[.val [some 4] []],fun r=>.b r,fun _=>[none],Tryz.func9⟩
def b94:Unit->KS:=fun _=>⟨a2u.k 4 [false,false],(bs 19 []),[some []]⟩
def c1a:Option Bool:=
 some true
theorem d14(r):NF a2u r b94 (fun s=>c1a):=fun _ h=>PK<|rg<|fE h
def d0Y(list:List m5):Int->KS:=fun i=>⟨a2u.k 3 [false],(j5 4 z3 list::(bs 2 (vi i::(bs 15 [])))),[some []]⟩
def b0S(list:List m5)(i:Int):Option (j7 Bool Int Unit):=
 (bif decide (i<(list.length:Int)) then ((idx list i).bind fun ins=>((b29 ins).bind fun c2n=>(bif (!c2n) then some (j7.ret false) else some (j7.nxt (l9 (i+1)))))) else some (j7.brk ()))
theorem d7E(list):LQ a2u b94 (d0Y list) (fun s=>b0S list s):=fun lc i h=>PK<|rg<|j3 3 h (fun h=>rg<|u9 z3 2 h fun ins hins h=>j4 c0j c89 4 h fun c2n h=>j3 5 h (fun h=>rg<|fL lc h) (fun h=>rg<|(lc.nx h fun hI=>sk [] [0,3] [] hI))) (fun h=>(lc.bk h fun hI=>sk [] [] [] hI))
def a55(list:List m5):Option Bool:=
 (bif decide ((list.length:Int)>10) then some false else ((p6 (fun s:Int=>b0S list s) 0).bind fun x=>x.go (fun r=>some r) fun s=>c1a))
theorem b47{list}:OK a2u [j5 4 z3 list] (a55 list):=
 o9 _ fun r h=>n8<|j3 2 h (fun h=>rg<|fE h) (fun h=>rg<|lp (d7E list) h (fun _ h=>a2u.rt h) (d14 r) fun hI=>sk [] [0,3] [] hI)
def c5a:FS (Bool):=⟨78,Tryz.f78,[.val [] []],[none],[.val I0 []],fun r=>.b r,fun _=>[none],Tryz.func78⟩
def b2O(n:j6):Option Bool:=
 (bif (!n.i4) then (bif ((n.i6.length:Int)==0) then ((a2C n.b8).bind fun l7None=>some l7None) else some false) else ((a55 n.i6).bind fun z9=>(bif z9 then ((a1r n.b8).bind fun C5=>(bif C5 then (bif (!n.b8.i7) then some (([n.b8.a7.b9,n.b8.a7.Seq]:List Int)==[n.Id,n.Seq]) else some false) else some false)) else some false)))
theorem c9v{n}:OK c5a [.agg (w5 n)] (b2O n):=
 o9 _ fun r h=>n8<|j3 2 h (fun h=>rg<|j3 4 h (fun h=>j4 a4A a56 7 h fun l7None h=>fE h) (fun h=>fE h)) (fun h=>rg<|j4 a2u b47 2 h fun z9 h=>j3 3 h (fun h=>j4 a27 a4h 6 h fun C5 h=>j3 8 h (fun h=>j3 14 h (fun h=>fE h) (fun h=>fE h)) (fun h=>fE h)) (fun h=>fE h))
def a5M:FS (Bool):=⟨49,Tryz.f49,[.val [] []],[none],[.val I0 []],fun r=>.b r,fun _=>[none],Tryz.func49⟩
def b8c:Unit->KS:=fun _=>⟨a5M.k 4 [false,false],(bs 72 []),[some []]⟩
def b34:Option Bool:=
 some true
theorem d5e(r):NF a5M r b8c (fun s=>b34):=fun _ h=>PK<|rg<|fE h
def c7S(n:j6):Int->KS:=fun i=>⟨a5M.k 3 [false],(bs 1 (.ptr 1 0 0::(bs 1 (vi i::(bs 68 []))))),[some [],some [.var 66 (a5o n)]]⟩
def b3k(n:j6)(i:Int):Option (j7 Bool Int Unit):=
 (bif decide (i<(n.d8.length:Int)) then ((idx n.d8 i).bind fun entry=>((a1r entry).bind fun C5=>(bif (!C5) then some (j7.ret false) else (bif entry.i7 then some (j7.ret false) else some (j7.nxt (l9 (i+1))))))) else some (j7.brk ()))
theorem d3q(n):LQ a5M b8c (c7S n) (fun s=>b3k n s):=fun lc i h=>PK<|rg<|j3 4 h (fun h=>rg<|u9 v5 3 h fun entry a0d h=>j4 a27 a4h 5 h fun C5 h=>j3 7 h (fun h=>rg<|fL lc h) (fun h=>Z7 v5 11 a0d<|j3 14 h (fun h=>rg<|fL lc h) (fun h=>rg<|(lc.nx h fun hI=>sk [] [1,3] [(1,0)] hI)))) (fun h=>(lc.bk h fun hI=>sk [] [] [] hI))
def b0H(n:j6):Option Bool:=
 (bif decide (n.Id<0) then some false else (bif decide (n.Id>=3) then some false else ((b2l n.Acc).bind fun K2=>(bif (!K2) then some false else ((b2A n.a6).bind fun c3x=>(bif (!c3x) then some false else (bif decide (n.Seq<0) then some false else (bif decide (n.Seq>1000) then some false else (bif decide ((n.d8.length:Int)>4) then some false else ((b2z n).bind fun b8I=>(bif (!b8I) then some false else ((b2O n).bind fun b85=>(bif (!b85) then some false else ((p6 (fun s:Int=>b3k n s) 0).bind fun x=>x.go (fun r=>some r) fun s=>b34))))))))))))))
theorem c6R{n}:OK a5M [.agg (w5 n)] (b0H n):=
 o9 _ fun r h=>n8<|j3 3 h (fun h=>rg<|fE h) (fun h=>j3 8 h (fun h=>rg<|fE h) (fun h=>j4 a4B d5B 11 h fun K2 h=>j3 14 h (fun h=>rg<|fE h) (fun h=>j4 a4m d6d 17 h fun c3x h=>j3 20 h (fun h=>rg<|fE h) (fun h=>j3 25 h (fun h=>rg<|fE h) (fun h=>j3 30 h (fun h=>rg<|fE h) (fun h=>j3 36 h (fun h=>rg<|fE h) (fun h=>j4 c4x c6q 38 h fun b8I h=>j3 41 h (fun h=>rg<|fE h) (fun h=>j4 c5a c9v 43 h fun b85 h=>j3 45 h (fun h=>rg<|fE h) (fun h=>rg<|lp (d3q n) h (fun _ h=>a5M.rt h) (d5e r) fun hI=>sk [] [1,3] [(1,0)] hI)))))))))
def a5S:FS (Bool):=⟨50,Tryz.f50,[.val [] []],[none],[.val P5 []],fun r=>.b r,fun _=>[none],Tryz.func50⟩
def d1t(m:l8):Unit->KS:=fun _=>⟨a5S.k 2 [false],(bs 1 (.ptr 1 0 0::(bs 158 []))),[some [],some [.var 93 (a6h m)]]⟩
def d7m(m:l8)(l7None:Bool):Bool->KS:=fun right=>⟨a5S.k 4 [false],(bs 1 (.ptr 1 0 0::(bs 1 (.b l7None::(.b right::(bs 155 [])))))),[some [],some [.var 93 (a6h m)]]⟩
def a9z(m:l8)(l7None:Bool)(right:Bool):Option Bool:=
 (bif (m.a0==1) then ((a0H m.a5).bind fun a02=>(bif a02 then some l7None else some false)) else (bif (m.a0==2) then ((a0H m.a5).bind fun a8c=>(bif a8c then (bif l7None then ((a36 m.a8).bind fun a4e=>(bif a4e then some (decide ((l9 (m.c8+(m.a8.length:Int)))<=40)) else some false)) else some false) else some false)) else (bif (m.a0==3) then ((a0H m.a5).bind fun a8N=>(bif a8N then some right else some false)) else (bif (m.a0==4) then ((a0H m.a5).bind fun b8i=>(bif b8i then some l7None else some false)) else (bif (m.a0==5) then (bif (m.a5==0) then some right else some false) else (bif (m.a0==6) then ((a0H m.a5).bind fun b8d=>(bif b8d then (bif l7None then some (m.c8==0) else some false) else some false)) else (bif (m.a0==7) then (bif (m.a5==0) then (bif (m.c8==0) then ((a1r m.d7).bind fun C5=>(bif C5 then some (!m.d7.i7) else some false)) else some false) else some false) else (bif (m.a0==8) then (bif (m.a5==0) then some l7None else some false) else some false))))))))
theorem d55(m l7None)(r):NF a5S r (d7m m l7None) (fun s=>a9z m l7None s):=fun right h=>PK<|n8<|j3 1 h (fun h=>rg<|j4 a1s a1V 2 h fun a02 h=>j3 3 h (fun h=>fE h) (fun h=>fE h)) (fun h=>rg<|j3 1 h (fun h=>rg<|j4 a1s a1V 2 h fun a8c h=>j3 3 h (fun h=>j3 6 h (fun h=>j4 a04 a7O 9 h fun a4e h=>j3 11 h (fun h=>fE h) (fun h=>fE h)) (fun h=>fE h)) (fun h=>fE h)) (fun h=>rg<|j3 1 h (fun h=>rg<|j4 a1s a1V 2 h fun a8N h=>j3 3 h (fun h=>fE h) (fun h=>fE h)) (fun h=>rg<|j3 1 h (fun h=>rg<|j4 a1s a1V 2 h fun b8i h=>j3 3 h (fun h=>fE h) (fun h=>fE h)) (fun h=>rg<|j3 1 h (fun h=>rg<|j3 3 h (fun h=>fE h) (fun h=>fE h)) (fun h=>rg<|j3 1 h (fun h=>rg<|j4 a1s a1V 2 h fun b8d h=>j3 3 h (fun h=>j3 6 h (fun h=>fE h) (fun h=>fE h)) (fun h=>fE h)) (fun h=>rg<|j3 1 h (fun h=>rg<|j3 3 h (fun h=>j3 8 h (fun h=>j4 a27 a4h 11 h fun C5 h=>j3 13 h (fun h=>fE h) (fun h=>fE h)) (fun h=>fE h)) (fun h=>fE h)) (fun h=>rg<|j3 1 h (fun h=>rg<|j3 3 h (fun h=>fE h) (fun h=>fE h)) (fun h=>rg<|fE h))))))))
def b0u(m:l8):Option Bool:=
 ((a2C m.d7).bind fun l7None=>((((a1r m.d7).bind fun a06=>(bif a06 then some (j9.brk (decide (m.c8<40))) else some (j9.brk false))):Option (j9 Bool Bool)).bind fun x=>x.go some fun j=>a9z m l7None j))
theorem c7z(m)(r):NF a5S r (d1t m) (fun s=>b0u m):=fun _ h=>PK<|rg<|j4 a4A a56 2 h fun l7None h=>B5 h (d55 m l7None r) fun x1 h hc1=>rg<|j4 a27 a4h 2 h fun a06 h=>j3 3 h (fun h=>(p8 h hc1 fun hI=>sk [] [1,3,4] [(1,0)] hI)) (fun h=>(p8 h hc1 fun hI=>sk [] [1,3,4] [(1,0)] hI))
def b3e(m:l8):Option Bool:=
 (((bif decide (m.b7<0) then some (j9.ret false) else (bif decide (m.b7>=3) then some (j9.ret false) else (bif decide (m.To<0) then some (j9.ret false) else (bif decide (m.To>=3) then some (j9.ret false) else (bif (m.b7==m.To) then some (j9.ret false) else (bif decide (m.c8<0) then some (j9.ret false) else (bif decide (m.c8>40) then some (j9.ret false) else (bif (m.a0 != 2) then (bif decide ((m.a8.length:Int)>0) then some (j9.ret false) else some (j9.brk ())) else some (j9.brk ()))))))))):Option (j9 Bool Unit)).bind fun x=>x.go some fun j=>b0u m)
theorem c98{m}:OK a5S [.agg (t9 m)] (b3e m):=
 o9 _ fun r h=>rg<|B5 h (c7z m r) fun x1 h hc1=>rg<|j3 3 h (fun h=>rg<|(B0 h hc1 fun h=>fE h)) (fun h=>j3 8 h (fun h=>rg<|(B0 h hc1 fun h=>fE h)) (fun h=>j3 13 h (fun h=>rg<|(B0 h hc1 fun h=>fE h)) (fun h=>j3 18 h (fun h=>rg<|(B0 h hc1 fun h=>fE h)) (fun h=>j3 25 h (fun h=>rg<|(B0 h hc1 fun h=>fE h)) (fun h=>j3 30 h (fun h=>rg<|(B0 h hc1 fun h=>fE h)) (fun h=>j3 35 h (fun h=>rg<|(B0 h hc1 fun h=>fE h)) (fun h=>j3 39 h (fun h=>j3 45 h (fun h=>rg<|(B0 h hc1 fun h=>fE h)) (fun h=>(p8 h hc1 fun hI=>sk [] [1] [(1,0)] hI))) (fun h=>(p8 h hc1 fun hI=>sk [] [1] [(1,0)] hI)))))))))
def c27:FS (Bool):=⟨52,Tryz.f52,[.val [] []],[none],[.val [] []],fun r=>.b r,fun _=>[none],Tryz.func52⟩
def b08(a:r9):Option Bool:=
 (bif decide (a.Node>=0) then (bif decide (a.Node<3) then ((a7o a.a7).bind fun a3r=>(bif a3r then (bif (a.a7.b9==a.Node) then (bif decide (a.Code>=0) then (bif decide (a.Code<=4) then ((a51 a.c7).bind fun a4l=>some a4l) else some false) else some false) else some false) else some false)) else some false) else some false)
theorem c6X{a}:OK c27 [.agg (z7 a)] (b08 a):=
 o9 _ fun r h=>n8<|j3 3 h (fun h=>j3 8 h (fun h=>j4 b2f b6h 11 h fun a3r h=>j3 13 h (fun h=>j3 21 h (fun h=>j3 26 h (fun h=>j3 31 h (fun h=>j4 a8r b3S 34 h fun a4l h=>fE h) (fun h=>fE h)) (fun h=>fE h)) (fun h=>fE h)) (fun h=>fE h)) (fun h=>fE h)) (fun h=>fE h)
def N0:FS (Bool):=⟨25,Tryz.f25,[.val [] []],[none],[.val J5 []],fun r=>.b r,fun _=>[none],Tryz.func25⟩
def c5n(w:j8):Unit->KS:=fun _=>⟨N0.k 4 [false,false],(bs 1 (.ptr 1 0 0::(bs 104 []))),[some [],some [.var 32 (M1 w)]]⟩
def c5w(w:j8):Unit->KS:=fun _=>⟨N0.k 6 [false,false,false],(bs 1 (.ptr 1 0 0::(bs 104 []))),[some [],some [.var 32 (M1 w)]]⟩
def c0r(w:j8):Unit->KS:=fun _=>⟨N0.k 8 [false,false,false,false],(bs 1 (.ptr 1 0 0::(bs 104 []))),[some [],some [.var 32 (M1 w)]]⟩
def c0I:Unit->KS:=fun _=>⟨N0.k 10 [false,false,false,false,false],(bs 106 []),[some []]⟩
def c0L:Option Bool:=
 some true
theorem d8p(r):NF N0 r c0I (fun s=>c0L):=fun _ h=>PK<|rg<|fE h
def d59(w:j8):Int->KS:=fun i3=>⟨N0.k 9 [false,false,false,false],(bs 1 (.ptr 1 0 0::(bs 4 (vi i3::(bs 99 []))))),[some [],some [.var 32 (M1 w)]]⟩
def b0x(w:j8)(i3:Int):Option (j7 Bool Int Unit):=
 (bif decide (i3<(w.Told.length:Int)) then ((idx w.Told i3).bind fun told=>((b08 told).bind fun b8S=>(bif (!b8S) then some (j7.ret false) else some (j7.nxt (l9 (i3+1)))))) else some (j7.brk ()))
theorem d7l(w):LQ N0 c0I (d59 w) (fun s=>b0x w s):=fun lc i3 h=>PK<|rg<|j3 4 h (fun h=>rg<|u9 z7 3 h fun told c2r h=>j4 c27 c6X 5 h fun b8S h=>j3 6 h (fun h=>rg<|fL lc h) (fun h=>rg<|(lc.nx h fun hI=>sk [] [1,6] [(1,0)] hI))) (fun h=>(lc.bk h fun hI=>sk [] [] [] hI))
def b3p(w:j8):Option Bool:=
 ((p6 (fun s:Int=>b0x w s) 0).bind fun x=>x.go (fun r=>some r) fun s=>c0L)
theorem d6Z(w)(r):NF N0 r (c0r w) (fun s=>b3p w):=fun _ h=>PK<|rg<|lp (d7l w) h (fun _ h=>N0.rt h) (d8p r) fun hI=>sk [] [1,6] [(1,0)] hI
def d2Y(w:j8):Int->KS:=fun i2=>⟨N0.k 7 [false,false,false],(bs 1 (.ptr 1 0 0::(bs 3 (vi i2::(bs 100 []))))),[some [],some [.var 32 (M1 w)]]⟩
def b1B(w:j8)(i2:Int):Option (j7 Bool Int Unit):=
 (bif decide (i2<(w.g9.length:Int)) then ((idx w.g9 i2).bind fun asked=>((a7o asked.a7).bind fun a3r=>(bif (!a3r) then some (j7.ret false) else ((a55 asked.i6).bind fun z9=>(bif (!z9) then some (j7.ret false) else some (j7.nxt (l9 (i2+1)))))))) else some (j7.brk ()))
theorem d0N(w):LQ N0 (c0r w) (d2Y w) (fun s=>b1B w s):=fun lc i2 h=>PK<|rg<|j3 4 h (fun h=>rg<|u9 C6 3 h fun asked b8R h=>j4 b2f b6h 6 h fun a3r h=>j3 8 h (fun h=>rg<|fL lc h) (fun h=>Z7 C6 12 b8R<|j4 a2u b47 15 h fun z9 h=>j3 17 h (fun h=>rg<|fL lc h) (fun h=>rg<|(lc.nx h fun hI=>sk [] [1,5] [(1,0)] hI)))) (fun h=>(lc.bk h fun hI=>sk [] [1] [(1,0)] hI))
def b3C(w:j8):Option Bool:=
 ((p6 (fun s:Int=>b1B w s) 0).bind fun x=>x.go (fun r=>some r) fun s=>b3p w)
theorem d4U(w)(r):NF N0 r (c5w w) (fun s=>b3C w):=fun _ h=>PK<|rg<|lp (d0N w) h (fun _ h=>N0.rt h) (d6Z w r) fun hI=>sk [] [1,5] [(1,0)] hI
def c7s(w:j8):Int->KS:=fun i1=>⟨N0.k 5 [false,false],(bs 1 (.ptr 1 0 0::(bs 2 (vi i1::(bs 101 []))))),[some [],some [.var 32 (M1 w)]]⟩
def b2q(w:j8)(i1:Int):Option (j7 Bool Int Unit):=
 (bif decide (i1<(w.g8.length:Int)) then ((idx w.g8 i1).bind fun msg=>((b3e msg).bind fun J7=>(bif (!J7) then some (j7.ret false) else some (j7.nxt (l9 (i1+1)))))) else some (j7.brk ()))
theorem c6p(w):LQ N0 (c5w w) (c7s w) (fun s=>b2q w s):=fun lc i1 h=>PK<|rg<|j3 4 h (fun h=>rg<|u9 t9 3 h fun msg hmsg h=>j4 a5S c98 5 h fun J7 h=>j3 6 h (fun h=>rg<|fL lc h) (fun h=>rg<|(lc.nx h fun hI=>sk [] [1,4] [(1,0)] hI))) (fun h=>(lc.bk h fun hI=>sk [] [1] [(1,0)] hI))
def b1R(w:j8):Option Bool:=
 ((p6 (fun s:Int=>b2q w s) 0).bind fun x=>x.go (fun r=>some r) fun s=>b3C w)
theorem d24(w)(r):NF N0 r (c5n w) (fun s=>b1R w):=fun _ h=>PK<|rg<|lp (c6p w) h (fun _ h=>N0.rt h) (d4U w r) fun hI=>sk [] [1,4] [(1,0)] hI
def d2h(w:j8):Int->KS:=fun i=>⟨N0.k 3 [false],(bs 1 (.ptr 1 0 0::(bs 1 (vi i::(bs 102 []))))),[some [],some [.var 32 (M1 w)]]⟩
def b0T(w:j8)(i:Int):Option (j7 Bool Int Unit):=
 (bif decide (i<(w.c6.length:Int)) then ((idx w.c6 i).bind fun node=>(bif (node.Id != i) then some (j7.ret false) else ((b0H node).bind fun D6=>(bif (!D6) then some (j7.ret false) else some (j7.nxt (l9 (i+1))))))) else some (j7.brk ()))
theorem c7n(w):LQ N0 (c5n w) (d2h w) (fun s=>b0T w s):=fun lc i h=>PK<|rg<|j3 4 h (fun h=>rg<|u9 w5 3 h fun node hnode h=>j3 8 h (fun h=>rg<|fL lc h) (fun h=>Z7 w5 12 hnode<|j4 a5M c6R 14 h fun D6 h=>j3 16 h (fun h=>rg<|fL lc h) (fun h=>rg<|(lc.nx h fun hI=>sk [] [1,3] [(1,0)] hI)))) (fun h=>(lc.bk h fun hI=>sk [] [1] [(1,0)] hI))
def b15(w:j8):Option Bool:=
 (bif ((w.c6.length:Int) != 3) then some false else (bif decide ((w.g8.length:Int)>40) then some false else (bif decide ((w.g9.length:Int)>60) then some false else (bif decide ((w.Told.length:Int)>60) then some false else ((p6 (fun s:Int=>b0T w s) 0).bind fun x=>x.go (fun r=>some r) fun s=>b1R w)))))
theorem d8J{w}:OK N0 [.agg (S7 w)] (b15 w):=
 o9 _ fun r h=>n8<|j3 4 h (fun h=>rg<|fE h) (fun h=>j3 10 h (fun h=>rg<|fE h) (fun h=>j3 16 h (fun h=>rg<|fE h) (fun h=>j3 21 h (fun h=>rg<|fE h) (fun h=>rg<|lp (c7n w) h (fun _ h=>N0.rt h) (d24 w r) fun hI=>sk [] [1,3] [(1,0)] hI))))
def a4C:FS (Bool):=⟨8,Tryz.f8,[.val [] []],[none],[.val J5 []],fun r=>.b r,fun _=>[none],Tryz.func8⟩
def c0b:Unit->KS:=fun _=>⟨a4C.k 4 [false,false],(bs 42 []),[some []]⟩
def c0P:Option Bool:=
 some true
theorem c8g(r):NF a4C r c0b (fun s=>c0P):=fun _ h=>PK<|rg<|fE h
def d8g(w:j8):Int->KS:=fun i=>⟨a4C.k 3 [false],(bs 1 (.ptr 1 0 0::(bs 1 (vi i::(bs 38 []))))),[some [],some [.var 32 (M1 w)]]⟩
def c2T(w:j8)(i:Int):Option (j7 Bool Int Unit):=
 (bif decide (i<(w.c6.length:Int)) then ((idx w.c6 i).bind fun node=>(bif node.i4 then some (j7.ret false) else ((idx w.c6 0).bind fun X3=>(bif ((node.a6.length:Int) != (X3.a6.length:Int)) then some (j7.ret false) else some (j7.nxt (l9 (i+1))))))) else some (j7.brk ()))
theorem c6W(w):LQ a4C c0b (d8g w) (fun s=>c2T w s):=fun lc i h=>PK<|rg<|j3 4 h (fun h=>rg<|u9 w5 3 h fun node hnode h=>j3 6 h (fun h=>rg<|fL lc h) (fun h=>Z7 w5 10 hnode<|u9 w5 16 h fun X3 a11 h=>j3 21 h (fun h=>rg<|fL lc h) (fun h=>rg<|(lc.nx h fun hI=>sk [] [1,3] [(1,0)] hI)))) (fun h=>(lc.bk h fun hI=>sk [] [] [] hI))
def a7d(w:j8):Option Bool:=
 ((b15 w).bind fun N8=>(bif (!N8) then some false else (bif decide ((w.g8.length:Int)>0) then some false else ((p6 (fun s:Int=>c2T w s) 0).bind fun x=>x.go (fun r=>some r) fun s=>c0P))))
theorem d4B{w}:OK a4C [.agg (S7 w)] (a7d w):=
 o9 _ fun r h=>n8<|j4 N0 d8J 1 h fun N8 h=>j3 3 h (fun h=>rg<|fE h) (fun h=>j3 8 h (fun h=>rg<|fE h) (fun h=>rg<|lp (c6W w) h (fun _ h=>a4C.rt h) (c8g r) fun hI=>sk [] [1,3] [(1,0)] hI))
def b7X:FS (j8):=⟨10,Tryz.f10,[.val J5 []],[none,none],[.val J5 [],.val [none,none,some 4] []],fun r=>.agg (S7 r),fun _=>[none,none],Tryz.func10⟩
def b0m(w:j8)(e_:F9):Option j8:=
 ((a5T w).bind fun N8=>(bif (!N8) then some (j8.mk [] [] [] []) else ((a4F w e_).bind fun a3s=>some a3s)))
theorem d2p{w e_}:OK b7X [.agg (S7 w),.agg (a97 e_)] (b0m w e_):=
 o9 _ fun r h=>n8<|j4 K3 b32 1 h fun N8 h=>j3 2 h (fun h=>rg<|fE h) (fun h=>rg<|j4 a0a b0d 2 h fun a3s h=>fE h)
def c4o:FS ((List m7)×Int×Int):=⟨30,Tryz.f30,[.val [some 2] [],.val [] [],.val [] []],[none,none],[.val [some 2] [],.val [some 4] []],fun r=>.tup [j5 2 t8 r.1,vi r.2.1,vi r.2.2],fun _=>[none,none],Tryz.func30⟩
def b0b(list:List m7)(prog:List m5):Option ((List m7)×Int×Int):=
 ((a9T list prog).bind fun A6=>(bif (A6.Code==3) then some ([],0,3) else ((a8A list A6).bind fun a5U=>some (a5U,A6.c7,A6.Code))))
theorem c9U{list prog}:OK c4o [j5 2 t8 list,j5 4 z3 prog] (b0b list prog):=
 o9 _ fun r h=>n8<|j4 J6 c3A 2 h fun A6 h=>rg<|j3 2 h (fun h=>rg<|fE h) (fun h=>rg<|j4 a3z c1T 2 h fun a5U h=>x9 a5U<|fE h)
def b7m:FS (List Int):=⟨31,Tryz.f31,[.val [some 1] [some 3]],[none],[.val [some 1] []],fun r=>z6 3 1 eI r,fun _=>[none],Tryz.func31⟩
def b3F(list:List Int):Option (List Int):=
 (bif ((list.length:Int)==0) then some [] else (r7 (0<=(list.length:Int)/\(list.length:Int)*8<=140737488355328) ((r7 (list.length=(d81 (list.length:Int).toNat (0:Int)).length) (some list)))))
theorem d31{list}:OK b7m [j5 1 eI list] (b3F list):=
 o9 _ fun r h=>n8<|j3 2 h (fun h=>rg<|fE h) (fun h=>rg<|t0 h fun e1 h=>S4 2 7 3 1 8 eI (0:Int) ti3 (.none) e1 (by decide) (by rfl)<|rg<|t0 h fun e2 h=>om (n9.row 3 1 (d81 (list.length:Int).toNat (0:Int)).length (list.map eI)=m4 3 1 eI list) (Y7 e2)<|x9 (d81 (list.length:Int).toNat (0:Int))<|ob e2<|tl (2,{e:=some (m4 3 1 eI list)})<|rg<|om ((d81 (list.length:Int).toNat (0:Int)).length=list.length) (by simp)<|fE h)
def a5B:FS ((List m7)×List Int):=⟨11,Tryz.f11,[.val [some 2] [],.val [some 1] []],[none,none],[.val [some 2] [],.val [some 1] []],fun r=>.tup [j5 2 t8 r.1,j5 1 eI r.2],fun _=>[none,none],Tryz.func11⟩
def b8U:((List Int)×List m7)->KS:=fun (vals1,now1)=>⟨a5B.k 6 [false,false],(bs 6 (j5 2 t8 now1::(.own 1 0 1 0 vals1.length::(bs 39 [])))),[some [],some [m4 3 1 eI vals1]]⟩
def b0w(vals1:List Int)(now1:List m7):Option ((List m7)×List Int):=
 ((b3F vals1).bind fun int=>some (now1,int))
theorem d12(r):NF a5B r b8U (fun s=>b0w s.1 s.2):=fun (vals1,now1) h=>PK<|rg<|cbS b7m d31 2 (fun _=>(by simp [b7m,N7,V3,Q0,V.simple,vi,z6,eI])) (fun _=>(a0P 1)) h fun int h=>B6 vals1 int<|fE h
def c8u(progs:List (List m5)):((List Int)×Int×List m7)->KS:=fun (vals,v25,now)=>⟨a5B.k 5 [false],(bs 6 (j5 2 t8 now::(.own 1 0 1 0 vals.length::(bs 15 (j5 1 R4 progs::(vi (progs.length:Int)::(vi v25::(bs 21 [])))))))),[some [],some [m4 3 1 eI vals]]⟩
def a6i(progs:List (List m5))(vals:List Int)(v25:Int)(now:List m7):Option (j7 ((List m7)×List Int) ((List Int)×Int×List m7) ((List Int)×List m7)):=
 (bif decide (v25<(progs.length:Int)) then ((idx progs v25).bind fun y=>((b0b now y).bind fun H6=>(bif (H6.2.2==3) then some (j7.ret ([],[])) else (r7 ((vals.length+1)*8<=140737488355328) (some (j7.nxt (vals++[H6.2.1],l9 (v25+1),H6.1))))))) else some (j7.brk (vals,now)))
theorem d8D(progs):LQ a5B b8U (c8u progs) (fun s=>a6i progs s.1 s.2.1 s.2.2):=fun lc (vals,v25,now) h=>PK<|rg<|j3 0 h (fun h=>rg<|u9 R4 0 h fun y hy h=>rg<|j4 c4o c9U 2 h fun H6 h=>rg<|j3 1 h (fun h=>rg<|fL lc h) (fun h=>n8<|tk 2 []<|t0 h fun e1 h=>J8 3 23 3 1 8 eI vals H6.2.1 e1<|J0 H6.2.1<|rg<|(lc.nx h fun hI=>sk [] [6,7,23,24,25] [(23,0)] hI))) (fun h=>(lc.bk h fun hI=>sk [] [6,7] [(1,0)] hI))
def a8J(list:List m7)(progs:List (List m5)):Option ((List m7)×List Int):=
 ((a3I list).bind fun Y4=>(bif (!Y4) then some ([],[]) else (bif decide ((progs.length:Int)>100) then some ([],[]) else ((a4v list).bind fun box=>((p6 (fun s:(List Int)×Int×List m7=>a6i progs s.1 s.2.1 s.2.2) ([],0,box)).bind fun x=>x.go (fun r=>some r) fun s=>b0w s.1 s.2)))))
theorem d5m{list progs}:OK a5B [j5 2 t8 list,j5 1 R4 progs] (a8J list progs):=
 o9 _ fun r h=>n8<|j4 a1d a9a 1 h fun Y4 h=>j3 3 h (fun h=>rg<|fE h) (fun h=>j3 7 h (fun h=>rg<|fE h) (fun h=>rg<|j4 b1r b6a 1 h fun box h=>n8<|lp (d8D progs) h (fun _ h=>a5B.rt h) (d12 r) fun hI=>x9 box<|sk [.frz (.tmp 6) (none),.own (.tmp 7) 3 1] [6,7,23,24,25] [(18,0)] hI))
def a4O:FS (Bool):=⟨32,Tryz.f32,[.val [] []],[none,none],[.val [some 2] [],.val [some 2] []],fun r=>.b r,fun _=>[none,none],Tryz.func32⟩
def c2d:Unit->KS:=fun _=>⟨a4O.k 4 [false,false],(bs 26 []),[some []]⟩
def c3b:Option Bool:=
 some true
theorem d4v(r):NF a4O r c2d (fun s=>c3b):=fun _ h=>PK<|rg<|fE h
def d37(a:List m7)(b:List m7):Int->KS:=fun v13=>⟨a4O.k 3 [false],(j5 2 t8 a::(j5 2 t8 b::(bs 10 (vi (a.length:Int)::(vi v13::(bs 12 [])))))),[some []]⟩
def b3Q(a:List m7)(b:List m7)(v13:Int):Option (j7 Bool Int Unit):=
 (bif decide (v13<(a.length:Int)) then ((idx a v13).bind fun box=>((idx b v13).bind fun L1=>(bif (!(([box.i8,box.c7]:List Int)==[L1.i8,L1.c7])) then some (j7.ret false) else some (j7.nxt (l9 (v13+1)))))) else some (j7.brk ()))
theorem c7x(a b):LQ a4O c2d (d37 a b) (fun s=>b3Q a b s):=fun lc v13 h=>PK<|rg<|j3 0 h (fun h=>n8<|u9 t8 2 h fun box a5Y h=>u9 t8 6 h fun L1 a2z h=>j3 8 h (fun h=>rg<|fL lc h) (fun h=>rg<|(lc.nx h fun hI=>sk [] [0,1,12,13] [] hI))) (fun h=>(lc.bk h fun hI=>sk [] [] [] hI))
def b7o(a:List m7)(b:List m7):Option Bool:=
 (bif ((a.length:Int) != (b.length:Int)) then some false else ((p6 (fun s:Int=>b3Q a b s) 0).bind fun x=>x.go (fun r=>some r) fun s=>c3b))
theorem c8l{a b}:OK a4O [j5 2 t8 a,j5 2 t8 b] (b7o a b):=
 o9 _ fun r h=>n8<|j3 4 h (fun h=>rg<|fE h) (fun h=>rg<|lp (c7x a b) h (fun _ h=>a4O.rt h) (d4v r) fun hI=>sk [] [0,1,12,13] [] hI)
def c4y:FS (Bool):=⟨13,Tryz.f13,[.val [] []],[none,none],[.val [some 2] [],.val [some 2] []],fun r=>.b r,fun _=>[none,none],Tryz.func13⟩
def a8D(a:List m7)(b:List m7):Option Bool:=
 ((b7o a b).bind fun box=>some box)
theorem c6K{a b}:OK c4y [j5 2 t8 a,j5 2 t8 b] (a8D a b):=
 o9 _ fun r h=>n8<|j4 a4O c8l 2 h fun box h=>fE h
def a0h:FS (Bool):=⟨3,Tryz.f3,[.val [] []],[none,none],[.val [some 1] [],.val [some 1] []],fun r=>.b r,fun _=>[none,none],Tryz.func3⟩
def b8m(drawSerialAll:(List m7×Nat)×List (List m5)):j8->KS:=fun w1=>⟨a0h.k 7 [false,false,false],(bs 6 (j5 1 R4 drawSerialAll.2::(.ptr 1 0 0::(bs 119 [])))),[some [],some [.var 32 [j5 27 w5 w1.c6,j5 13 t9 w1.g8,j5 3 C6 w1.g9,j5 5 z7 w1.Told]]]⟩
def c9q(drawSerialAll:(List m7×Nat)×List (List m5))(w1:j8):Int->KS:=fun n=>⟨a0h.k 10 [false,false,false,true],(bs 6 (j5 1 R4 drawSerialAll.2::(.ptr 1 0 0::(bs 1 (vi n::(bs 117 [])))))),[some [],some [.var 32 [j5 27 w5 w1.c6,j5 13 t9 w1.g8,j5 3 C6 w1.g9,j5 5 z7 w1.Told]]]⟩
def c4z(w1:j8)(n:Int)(H2:(List m7)×List Int):Unit->KS:=fun _=>⟨a0h.k 13 [false,false,false,true,false],(bs 7 (.ptr 1 0 0::(bs 1 (vi n::(j5 2 t8 H2.1::(j5 1 eI H2.2::(bs 115 []))))))),[some [],some [.var 32 [j5 27 w5 w1.c6,j5 13 t9 w1.g8,j5 3 C6 w1.g9,j5 5 z7 w1.Told]]]⟩
def b4N(w1:j8)(n:Int)(H2:(List m7)×List Int):Option Bool:=
 ((idx w1.c6 0).bind fun node=>((a8M node).bind fun a9F=>((a8D a9F.i0 H2.1).bind fun b1P=>(bif b1P then some ((H2.2.length:Int)==n) else some false))))
theorem d0W(w1 n H2)(r):NF a0h r (c4z w1 n H2) (fun s=>b4N w1 n H2):=fun _ h=>PK<|rg<|u9 w5 2 h fun node hnode h=>j4 b6m c0V 4 h fun a9F h=>j4 c4y c6K 7 h fun b1P h=>j3 8 h (fun h=>fE h) (fun h=>fE h)
def d0U(w1:j8)(n:Int)(H2:(List m7)×List Int):Int->KS:=fun i1=>⟨a0h.k 12 [false,false,false,true],(bs 7 (.ptr 1 0 0::(bs 1 (vi n::(j5 2 t8 H2.1::(j5 1 eI H2.2::(vi i1::(bs 114 [])))))))),[some [],some [.var 32 [j5 27 w5 w1.c6,j5 13 t9 w1.g8,j5 3 C6 w1.g9,j5 5 z7 w1.Told]]]⟩
def a7I(w1:j8)(H2:(List m7)×List Int)(i1:Int):Option (j7 Bool Int Unit):=
 (bif decide (i1<(H2.2.length:Int)) then ((idx w1.Told i1).bind fun told=>((idx H2.2 i1).bind fun y=>(bif (told.c7 != y) then some (j7.ret false) else some (j7.nxt (l9 (i1+1)))))) else some (j7.brk ()))
theorem c7M(w1 n H2):LQ a0h (c4z w1 n H2) (d0U w1 n H2) (fun s=>a7I w1 H2 s):=fun lc i1 h=>PK<|rg<|j3 3 h (fun h=>rg<|u9 z7 3 h fun told c2r h=>u9 eI 8 h fun y hy h=>j3 10 h (fun h=>rg<|fL lc h) (fun h=>rg<|(lc.nx h fun hI=>sk [] [7,9,10,11,12] [(1,0)] hI))) (fun h=>(lc.bk h fun hI=>sk [] [7,9,10,11] [(1,0)] hI))
def b04(drawSerialAll:(List m7×Nat)×List (List m5))(w1:j8)(n:Int):Option Bool:=
 ((a9p).bind fun a1L=>(r7 ((0:Int)<=n/\n<=(drawSerialAll.2.length:Int)) (((a8J a1L ((drawSerialAll.2.drop 0).take (n.toNat-0))).bind fun H2=>((p6 (fun s:Int=>a7I w1 H2 s) 0).bind fun x=>x.go (fun r=>some r) fun s=>b4N w1 n H2)))))
theorem d5n(drawSerialAll w1)(r):NF a0h r (c9q drawSerialAll w1) (fun s=>b04 drawSerialAll w1 s):=fun n h=>PK<|rg<|j4 b7c c4A 0 h fun a1L h=>t0 h fun e1 h=>om (V.sl 1 (n.toNat-0) (((drawSerialAll.2.map R4).drop 0).take (n.toNat-0))=j5 1 R4 ((drawSerialAll.2.drop 0).take (n.toNat-0))) (a75 e1)<|ob e1.1<|ob e1.2<|tl (3,{v:=some (j5 1 R4 ((drawSerialAll.2.drop 0).take (n.toNat-0)))})<|j4 a5B d5m 4 h fun H2 h=>x9 a1L<|rg<|lp (c7M w1 n H2) h (fun _ h=>a0h.rt h) (d0W w1 n H2 r) fun hI=>sk [] [7,9,10,11,12] [(1,0)] hI
def b1e(drawSerialAll:(List m7×Nat)×List (List m5))(w1:j8):Option Bool:=
 (((bif decide ((drawSerialAll.2.length:Int)>5) then some (j9.brk 5) else some (j9.brk (drawSerialAll.2.length:Int))):Option (j9 Bool Int)).bind fun x=>x.go some fun j=>b04 drawSerialAll w1 j)
theorem d1N(drawSerialAll)(r):NF a0h r (b8m drawSerialAll) (fun s=>b1e drawSerialAll s):=fun w1 h=>PK<|rg<|B5 h (d5n drawSerialAll w1 r) fun x1 h hc1=>rg<|j3 1 h (fun h=>rg<|(p8 h hc1 fun hI=>sk [] [6,7,9] [(1,0)] hI)) (fun h=>(p8 h hc1 fun hI=>sk [] [6,7,9] [(1,0)] hI))
def d3G(more:List Int)(drawSerialAll:(List m7×Nat)×List (List m5)):(Int×j8)->KS:=fun (i,w)=>⟨a0h.k 6 [false,false],(bs 1 (j5 1 I9 more::(bs 4 (j5 1 R4 drawSerialAll.2::(.ptr 1 0 0::(vi i::(bs 118 []))))))),[some [],some [.var 32 [j5 27 w5 w.c6,j5 13 t9 w.g8,j5 3 C6 w.g9,j5 5 z7 w.Told]]]⟩
def W4(more:List Int)(drawSerialAll:(List m7×Nat)×List (List m5))(i:Int)(w:j8):Option (j7 Bool (Int×j8) j8):=
 (bif decide (i<(drawSerialAll.2.length:Int)) then (bif decide (i<5) then ((idx drawSerialAll.2 i).bind fun y1=>((a55 y1).bind fun z9=>(bif (!z9) then some (j7.ret true) else ((b0m w (F9.mk 1 (d9x (l9 ((l9 (e0m (more.length:Int) 3))+i)) 3) y1)).bind fun c0c=>((a4J c0c (d9x (more.length:Int) 3)).bind fun b1d=>((a1k b1d).bind fun c43=>(bif (!c43) then some (j7.ret false) else (bif ((b1d.Told.length:Int) != (l9 (i+1))) then some (j7.ret false) else some (j7.nxt (l9 (i+1),b1d)))))))))) else some (j7.brk w)) else some (j7.brk w))
theorem c9W(more drawSerialAll):LQ a0h (b8m drawSerialAll) (d3G more drawSerialAll) (fun s=>W4 more drawSerialAll s.1 s.2):=fun lc (i,w) h=>PK<|rg<|j3 4 h (fun h=>j3 7 h (fun h=>rg<|u9 R4 2 h fun y1 hy1 h=>j4 a2u b47 4 h fun z9 h=>j3 5 h (fun h=>rg<|fL lc h) (fun h=>rg<|om (3≠(0:Int)) (by decide)<|om (3≠(0:Int)) (by decide)<|Z7 R4 9 hy1<|j4 b7X d2p 12 h fun c0c h=>rg<|om (3≠(0:Int)) (by decide)<|j4 b4o c2u 4 h fun b1d h=>rg<|j4 a3d c3a 1 h fun c43 h=>j3 3 h (fun h=>rg<|fL lc h) (fun h=>j3 10 h (fun h=>rg<|fL lc h) (fun h=>rg<|(lc.nx h fun hI=>sk [] [1,6,7,8] [(1,0)] hI))))) (fun h=>(lc.bk h fun hI=>sk [] [6,7] [(1,0)] hI))) (fun h=>(lc.bk h fun hI=>sk [] [6,7] [(1,0)] hI))
def b7y(code:List Int)(more:List Int):Option Bool:=
 (bif decide ((code.length:Int)>1048576) then some true else (bif decide ((more.length:Int)>1048576) then some true else ((b3m code).bind fun drawSerialAll=>((a95).bind fun c3e=>((a4J c3e (d9x (more.length:Int) 3)).bind fun b3W=>((a1k b3W).bind fun b9D=>(bif (!b9D) then some false else ((a7d b3W).bind fun c36=>(bif (!c36) then some false else ((p6 (fun s:Int×j8=>W4 more drawSerialAll s.1 s.2) (0,b3W)).bind fun x=>x.go (fun r=>some r) fun s=>b1e drawSerialAll s))))))))))
theorem c8j{code more}:OK a0h [j5 1 I9 code,j5 1 I9 more] (b7y code more):=
 o9 _ fun r h=>n8<|j3 3 h (fun h=>rg<|fE h) (fun h=>j3 7 h (fun h=>rg<|fE h) (fun h=>rg<|j4 a2U c7B 1 h fun drawSerialAll h=>rg<|j4 a5J c8o 0 h fun c3e h=>om (3≠(0:Int)) (by decide)<|j4 b4o c2u 4 h fun b3W h=>rg<|j4 a3d c3a 1 h fun b9D h=>j3 3 h (fun h=>rg<|fE h) (fun h=>j4 a4C d4B 5 h fun c36 h=>j3 7 h (fun h=>rg<|fE h) (fun h=>rg<|lp (c9W more drawSerialAll) h (fun _ h=>a0h.rt h) (d1N drawSerialAll r) fun hI=>sk [] [1,6,7,8] [(22,0)] hI))))
theorem d33:a5Q Tryz.prog 5 I9 a2G:=d6e Tryz.underlying5
theorem c0w:a5Q Tryz.prog 22 (fun l:List Int=>[j5 1 I9 l]) (z0 1 a2G):=d1z Tryz.underlying22 d33 (by kernel_rfl) (by decide) (by kernel_rfl) (fun _=>rfl)
theorem B4{n:Int}(h1:-9223372036854775808<=n)(h2:n<=9223372036854775807):l9 n=n:=IntWalk.i64_in n ⟨h1,h2⟩
def s6{α:Type}(l:List α):Prop:=l.length<=140737488351232
theorem J2{α:Type}{l:List α}(hl:s6 l){k:Nat}(h:k<l.length):l9 ((k:Int)+1)=((k+1:Nat):Int):=by
 unfold s6 at hl;rw [B4 (by omega) (by omega)];omega
section
variable {R S B:Type} {body:S->Option (j7 R S B)}
theorem F8{s t:S}(h:body s=some (.nxt t)):p6 body s=p6 body t:=by rw [b7K,h]
theorem E9{s:S}{b:B}(h:body s=some (.brk b)):p6 body s=some (.brk b):=by rw [b7K,h]
theorem a0r{s:S}{r:R}(h:body s=some (.ret r)):p6 body s=some (.ret r):=by rw [b7K,h]
theorem a1u(st:Nat->S)(n:Nat)(h:∀k,k<n->body (st k)=some (.nxt (st (k+1)))):p6 body (st 0)=p6 body (st n):=by
 induction n with
 | zero=>rfl
 | succ n ih=>
  rw [ih fun k hk=>h k (by omega)];exact F8 (h n (by omega))
theorem a5t(st:Nat->S)(n:Nat)(ok:Nat->Bool)(r:Nat->R)(b:B)(h1:∀k,k<n->(∀j,j<k->ok j=true)->body (st k)=some (bif ok k then .nxt (st (k+1)) else .ret (r k)))(h2:(∀j,j<n->ok j=true)->body (st n)=some (.brk b)) :
  (p6 body (st 0)=some (.brk b)/\∀j,j<n->ok j=true)\/∃k,k<n/\ok k=false/\(∀j,j<k->ok j=true)/\p6 body (st 0)=some (.ret (r k)):=by
 by_cases hall:∀j,j<n->ok j=true
 ·left
  refine ⟨?_,hall⟩;rw [a1u st n fun k hk => ?_]
  ·exact E9 (h2 hall)
  ·rw [h1 k hk fun j hj=>hall j (by omega),hall k hk];rfl
 ·right
  have hex:∃k,k<n/\ok k=false:=by
   apply Classical.byContradiction;intro hn;apply hall;intro j hj;cases hj':ok j with
   | true=>rfl
   | false=>exact absurd ⟨j,hj,hj'⟩ hn
  obtain ⟨k,hk,ho,hb⟩:∃k,k<n/\ok k=false/\∀j,j<k->ok j=true:=by
   obtain ⟨k,hk,ho⟩:=hex;induction k using Nat.strongRecOn with
   | _ k ih=>
    by_cases hb:∀j,j<k->ok j=true
    ·exact ⟨k,hk,ho,hb⟩
    ·have:∃j,j<k/\ok j=false:=by
      apply Classical.byContradiction;intro hn;apply hb;intro j hj;cases hj':ok j with
      | true=>rfl
      | false=>exact absurd ⟨j,hj,hj'⟩ hn
     obtain ⟨j,hj,hjo⟩:=this;exact ih j hj (by omega) hjo
  refine ⟨k,hk,ho,hb,?_⟩;rw [a1u st k fun j hj => ?_]
  ·refine a0r ?_;rw [h1 k hk hb,ho];rfl
  ·rw [h1 j (by omega) fun i hi=>hb i (by omega),hb j hj];rfl
end
theorem b07{R S B:Type}{body:S->Option (j7 R S B)}(I:Nat->S->Prop)(Q:j9 R B->Prop)(h:∀k s,I k s->∃st,body s=some st/\match st with | .ret r=>Q (.ret r) | .brk b=>Q (.brk b) | .nxt t => ∃k',k'<k/\I k' t):∀{k s},I k s->∃x,p6 body s=some x/\Q x:=by
 intro k;induction k using Nat.strongRecOn with
 | _ k ih=>
  intro s hs;obtain ⟨st,hb,hq⟩:=h k s hs;cases st with
  | ret r=>exact ⟨_,a0r hb,hq⟩
  | brk b=>exact ⟨_,E9 hb,hq⟩
  | nxt t=>
   obtain ⟨k',hk,ht⟩:=hq;obtain ⟨x,hx,hq⟩:=ih k' hk ht;exact ⟨x,by rw [F8 hb];exact hx,hq⟩
theorem x6{β:Type}{p:Prop}[Decidable p](h:p)(k:Option β):r7 p k=k:=if_pos h
theorem a9u{α:Type}(l:List α)(k:Nat):idx l (k:Int)=l[k]?:=by
 unfold idx;rw [if_pos (by omega)];rfl
theorem s8{α:Type}{l:List α}{k:Nat}(h:k<l.length):idx l (k:Int)=some l[k]:=by
 rw [a9u,d8Z h]
theorem x7{α:Type}(l:List α)(k:Nat)(h:k<l.length):decide ((k:Int)<(l.length:Int))=true:=by simpa using h
theorem A4{α:Type}(l:List α):decide ((l.length:Int)<(l.length:Int))=false:=by simp
theorem K6{α B:Type}{body:Int->Option (j7 Bool Int B)}(l:List α)(hl:s6 l)(ok:α->Bool)(v:Bool)(b:B)(h1:∀(k:Nat) (h:k<l.length),body (k:Int)=some (bif ok l[k] then .nxt (l9 ((k:Int)+1)) else .ret v))(h2:body (l.length:Int)=some (.brk b)):p6 body 0=some (bif l.all ok then .brk b else .ret v):=by
 have h:=a5t (body:=body) (fun k=>(k:Int)) l.length (fun k=>match l[k]? with|some x=>ok x|none=>true) (fun _=>v) b
  (fun k hk _=>by
   have:=h1 k hk;rw [J2 hl hk] at this;simpa [d8Z hk] using this) (fun _=>h2)
 rcases h with ⟨h,hall⟩|⟨k,hk,ho,_,h⟩
 ·have:l.all ok=true:=by
   rw [d86];intro x hx;obtain ⟨i,hi,rfl⟩:=d9W hx;have:=hall i hi;simpa [d8Z hi] using this
  rw [this];exact h
 ·have:l.all ok=false:=by
   rw [List.all_eq_false];refine ⟨l[k],d85 hk,?_⟩;simpa [d8Z hk] using ho
  rw [this];exact h
theorem a2I{α B:Type}{body:Int->Option (j7 Bool Int B)}(l:List α)(hl:s6 l)(ok:Nat->Bool)(v:Bool)(b:B)(h1:∀(k:Nat) (h:k<l.length),(∀j,j<k->ok j=true)->body (k:Int)=some (bif ok k then .nxt (l9 ((k:Int)+1)) else .ret v))(h2:body (l.length:Int)=some (.brk b)):p6 body 0=some (bif (d87 l.length).all ok then .brk b else .ret v):=by
 have h:=a5t (body:=body) (fun k=>(k:Int)) l.length ok (fun _=>v) b
  (fun k hk hb=>by
   have:=h1 k hk hb;rw [J2 hl hk] at this;exact this) (fun _=>h2)
 rcases h with ⟨h,hall⟩|⟨k,hk,ho,_,h⟩
 ·have:(d87 l.length).all ok=true:=by
   rw [d86];intro x hx;exact hall x (by simpa using hx)
  rw [this];exact h
 ·have:(d87 l.length).all ok=false:=by
   rw [List.all_eq_false];exact ⟨k,by simpa using hk,by simp [ho]⟩
  rw [this];exact h
theorem d4h{α R B:Type}{body:Int->Option (j7 R Int B)}(l:List α)(hl:s6 l)(is:α->Bool)(f:α->R)(b:B)(h1:∀(k:Nat) (h:k<l.length),body (k:Int)=some (bif is l[k] then .ret (f l[k]) else .nxt (l9 ((k:Int)+1))))(h2:body (l.length:Int)=some (.brk b)):p6 body 0=some (match l.find? is with|some x=>.ret (f x)|none=>.brk b):=by
 have key:∀(m k:Nat),k+m=l.length->p6 body (k:Int)=some (match (l.drop k).find? is with|some x=>.ret (f x)|none=>.brk b):=by
  intro m;induction m with
  | zero=>
   intro k hk;have:k=l.length:=by omega
   subst this;rw [List.drop_length];exact E9 h2
  | succ m ih=>
   intro k hk;have hlt:k<l.length:=by omega
   have hb:=h1 k hlt;rw [d9F hlt,List.find?_cons];cases hq:is l[k] with
   | true=>
    rw [hq] at hb;exact a0r hb
   | false=>
    rw [hq] at hb;rw [F8 hb,J2 hl hlt];exact ih (k+1) (by omega)
 have:=key l.length 0 (by omega);simpa using this
theorem d7y{α S R B:Type}{body:S×Int->Option (j7 R (S×Int) B)}(l:List α)(hl:s6 l)(g:S->α->S)(s0:S)(b:S->B)(h1:∀(k:Nat) (h:k<l.length),body ((l.take k).foldl g s0,(k:Int))=some (.nxt (g ((l.take k).foldl g s0) l[k],l9 ((k:Int)+1))))(h2:body (l.foldl g s0,(l.length:Int))=some (.brk (b (l.foldl g s0)))):p6 body (s0,0)=some (.brk (b (l.foldl g s0))):=by
 have h:=a1u (body:=body) (fun k=>((l.take k).foldl g s0,(k:Int))) l.length (fun k hk=>by
  rw [h1 k hk,J2 hl hk,d9H hk,List.foldl_append];rfl)
 simp only [d9S,List.foldl_nil,d9L] at h;rw [show ((0:Nat):Int)=0 from rfl] at h;rw [h];exact E9 h2
def b4R(x:p9):Prop:=F4 x.b9/\F4 x.Seq
def c45(x:p7):Prop:=F4 x.g7/\F4 x.i8
def b7S(x:o7):Prop:=F4 x.g7/\F4 x.c7
def b0P(x:m8):Prop:=(z0 16 c45) x.b5/\(z0 16 b7S) x.b6/\F4 x.c7/\F4 x.Code
def I7(x:l7):Prop:=b4R x.a7/\b0P x.d6
def a0k(x:n7):Prop:=F4 x.a5/\I7 x.d7
def a30(x:v6):Prop:=F4 x.d9/\(z0 96 a0k) x.a8
def a7t(x:m5):Prop:=F4 x.a0/\F4 x.A/\F4 x.B/\F4 x.N
def a10(x:j6):Prop:=F4 x.Id/\a30 x.Acc/\(z0 88 I7) x.a6/\F4 x.Seq/\F4 x.a9/\F4 x.a5/\(z0 1 okT) x.b7/\(z0 96 a0k) x.f0/\I7 x.c9/\(z0 1 okT) x.a8/\(z0 32 a7t) x.i6/\I7 x.b8/\(z0 88 I7) x.d8
def a4I(x:l8):Prop:=F4 x.a0/\F4 x.b7/\F4 x.To/\F4 x.a5/\F4 x.c8/\I7 x.d7/\(z0 96 a0k) x.a8
def c4e(x:D4):Prop:=b4R x.a7/\(z0 32 a7t) x.i6
def c0a(x:r9):Prop:=F4 x.Node/\b4R x.a7/\F4 x.Code/\F4 x.c7
def a9S(x:j8):Prop:=(z0 392 a10) x.c6/\(z0 152 a4I) x.g8/\(z0 40 c4e) x.g9/\(z0 40 c0a) x.Told
theorem z0.fits{α:Type}{bytes:Nat}{ok:α->Prop}{l:List α}(h:z0 bytes ok l)(hb:0<bytes):s6 l:=by
 obtain ⟨h,_⟩:=h;unfold s6;have:l.length*1<=l.length*bytes:=Nat.mul_le_mul_left _ hb;omega
def a07(x:m8):Prop:=z0 16 okT x.b5/\z0 16 okT x.b6/\True
def a1O(x:l7):Prop:=True/\a07 x.d6
theorem z0.imp{α:Type}{bytes:Nat}{ok ok':α->Prop}{l:List α}(h:z0 bytes ok l)(hi:∀x,ok x->ok' x):z0 bytes ok' l:=⟨h.1,fun x hx=>hi x (h.2 x hx)⟩
theorem b0P.f{x:m8}(h:b0P x):a07 x:=⟨h.1.imp fun _ _=>trivial,h.2.1.imp fun _ _=>trivial,trivial⟩
theorem I7.f{x:l7}(h:I7 x):a1O x:=⟨trivial,h.2.f⟩
theorem okEntries.f{l:List l7}(h:z0 88 I7 l):z0 88 a1O l:=h.imp fun _ x=>x.f
def H5(l:List p7)(box:Int):Bool:=l.any (·.g7==box)
def O4(l:List o7)(box:Int):Bool:=l.any (·.g7==box)
theorem d7I{l:List p7}(h:s6 l)(box:Int):b06 l box=some (H5 l box):=by
 unfold b06;rw [K6 l h (fun x => !(x.g7==box)) true ()]
 ·unfold H5;rw [List.any_eq_not_all_not];cases l.all fun x => !(x.g7==box)<;>rfl
 ·intro k hk;unfold b21;rw [x7 l k hk,s8 hk];cases hq:l[k].g7==box<;>simp [hq]
 ·unfold b21;rw [A4];rfl
theorem c4k{α B:Type}{body:Int->Option (j7 Int Int B)}(l:List α)(hl:s6 l)(is:α->Bool)(b:B)(h1:∀(k:Nat) (h:k<l.length),body (k:Int)=some (bif is l[k] then .ret (k:Int) else .nxt (l9 ((k:Int)+1))))(h2:body (l.length:Int)=some (.brk b)):(p6 body 0=some (.brk b)/\l.any is=false)\/∃k:Nat,p6 body 0=some (.ret (k:Int))/\l.any is=true:=by
 have h:=a5t (body:=body) (fun k=>(k:Int)) l.length (fun k=>match l[k]? with|some x => !is x|none=>true) (fun k=>(k:Int)) b
  (fun k hk _=>by
   have:=h1 k hk;rw [J2 hl hk] at this;rw [this];simp only [d8Z hk];cases is l[k]<;>rfl) (fun _=>h2)
 rcases h with ⟨h,hall⟩|⟨k,hk,ho,_,h⟩
 ·left
  refine ⟨h,?_⟩;rw [d9X];intro x hx;obtain ⟨i,hi,rfl⟩:=d9W hx;have:=hall i hi;simpa [d8Z hi] using this
 ·right
  refine ⟨k,h,?_⟩;rw [e0I];refine ⟨l[k],d85 hk,?_⟩;simpa [d8Z hk] using ho
theorem d0M{l:List o7}(h:s6 l)(box:Int):∃v,b2e l box=some v/\decide (v>=0)=O4 l box:=by
 unfold b2e;rcases c4k (body:=fun s:Int=>a7z l box s) l h (fun x=>x.g7==box) () (by
  intro k hk;unfold a7z;rw [x7 l k hk,s8 hk];cases hq:l[k].g7==box<;>simp [hq]) (by unfold a7z;rw [A4];rfl) with ⟨h1,h2⟩|⟨k,h1,h2⟩
 ·rw [h1];exact ⟨-1,rfl,h2.symm⟩
 ·rw [h1];refine ⟨k,rfl,?_⟩;rw [show O4 l box=true from h2];simp
theorem d0R{x:m8}(h:s6 x.b5)(box:Int):∃v,a7Y x box=some v/\decide (v>=0)=H5 x.b5 box:=by
 unfold a7Y;rcases c4k (body:=fun s:Int=>a7C x box s) x.b5 h (fun x=>x.g7==box) () (by
  intro k hk;unfold a7C;rw [x7 x.b5 k hk,s8 hk];cases hq:x.b5[k].g7==box<;>simp [hq]) (by unfold a7C;rw [A4];rfl) with ⟨h1,h2⟩|⟨k,h1,h2⟩
 ·rw [h1];exact ⟨-1,rfl,h2.symm⟩
 ·rw [h1];refine ⟨k,rfl,?_⟩;rw [show H5 x.b5 box=true from h2];simp
def m9(n lo hi:Int):Bool:=decide (lo<=n/\n<=hi)
theorem G2(n lo hi:Int):A0 n lo hi=some (m9 n lo hi):=by
 unfold A0 m9;by_cases h:n>=lo
 ·have h':lo<=n:=h;simp [h']
 ·have h':¬lo<=n:=h;simp [h']
theorem b2t(n:Int):a51 n=some (m9 n (-1000000) 1000000):=G2 n (-1000000) 1000000
theorem b7N(n:Int):a4p n=some (m9 n 0 3):=by
 rw [<-G2];unfold a4p A0;have:(n<4)=(n<=3):=by apply propext;omega
 simp only [this]
theorem b01(q:p9):a3q q=some (m9 q.b9 0 2&&m9 q.Seq 1 1000):=by
 unfold a3q;simp only [G2,d8Y];cases m9 q.b9 0 2<;>rfl
theorem b5W(q:p9):a7o q=some (m9 q.b9 0 2&&m9 q.Seq 1 1000):=by
 have h3:(q.b9<3)=(q.b9<=2):=by apply propext;omega
 unfold a7o m9;simp only [h3];by_cases h1:q.b9>=0<;>by_cases h2:q.b9<=2<;>by_cases h4:q.Seq>=1<;>by_cases h5:q.Seq<=1000<;>simp [h1,h2,h4,h5]<;>omega
def Q3(l:List p7)(k:Nat):Bool:=match l[k]? with
 | some x=>m9 x.g7 0 3&&(m9 x.i8 0 1000000 && !H5 (l.take k) x.g7)
 | none=>true
def Q4(l:List o7)(k:Nat):Bool:=match l[k]? with
 | some x=>m9 x.g7 0 3&&(m9 x.c7 (-1000000) 1000000 && !O4 (l.take k) x.g7)
 | none=>true
theorem c5k{α:Type}{l:List α}(h:s6 l)(k:Nat):s6 (l.take k):=by
 unfold s6 at h ⊢;rw [d91];omega
theorem d5q{r:m8}(h:s6 r.b5):p6 (fun s:Int=>a9J r s) 0=some (bif (d87 r.b5.length).all (Q3 r.b5) then .brk () else .ret false):=by
 refine a2I r.b5 h (Q3 r.b5) false () ?_ ?_
 ·intro k hk _;unfold a9J Q3 r7;rw [x7 _ k hk,s8 hk,d8Z hk];have hp:(0:Int)<=(k:Int)/\(k:Int)<=(r.b5.length:Int):=by constructor<;>omega
  simp only [e0O,d8Y,if_pos hp,b7N,d9q,Nat.sub_zero,e0c,d7I (c5k h k)];cases m9 r.b5[k].g7 0 3
  ·rfl
  ·unfold m9;by_cases h1:r.b5[k].i8<0
   ·have h1':¬0<=r.b5[k].i8:=by omega
    simp [h1,h1']
   ·have h1':0<=r.b5[k].i8:=by omega
    by_cases h2:r.b5[k].i8>1000000
    ·have h2':¬r.b5[k].i8<=1000000:=by omega
     simp [h1,h1',h2,h2']
    ·have h2':r.b5[k].i8<=1000000:=by omega
     simp only [h1,h1',h2,h2',decide_false,decide_true,d9e,e0P,d9m,and_self];cases H5 (r.b5.take k) r.b5[k].g7<;>rfl
 ·unfold a9J;rw [A4];rfl
theorem d1W{r:m8}(h:s6 r.b6):p6 (fun s:Int=>a7r r s) 0=some (bif (d87 r.b6.length).all (Q4 r.b6) then .brk () else .ret false):=by
 refine a2I r.b6 h (Q4 r.b6) false () ?_ ?_
 ·intro k hk _;obtain ⟨v,hv,hg⟩:=d0M (c5k h k) r.b6[k].g7;unfold a7r Q4 r7;rw [x7 _ k hk,s8 hk,d8Z hk];have hp:(0:Int)<=(k:Int)/\(k:Int)<=(r.b6.length:Int):=by constructor<;>omega
  simp only [e0O,d8Y,if_pos hp,b7N,b2t,d9q,Nat.sub_zero,e0c,hv,hg];cases m9 r.b6[k].g7 0 3
  ·rfl
  ·cases m9 r.b6[k].c7 (-1000000) 1000000
   ·rfl
   ·cases O4 (r.b6.take k) r.b6[k].g7<;>rfl
 ·unfold a7r;rw [A4];rfl
def a58(f:Int->Bool):List Bool:=[f 0,f 1,f 2,f 3]
theorem b9i{f:Int->Bool}{b:Int}(h:m9 b 0 3=true):idx (a58 f) b=some (f b)/\b<4:=by
 have h:0<=b/\b<=3:=by simpa [m9] using h
 have:b=0\/b=1\/b=2\/b=3:=by omega
 rcases this with rfl|rfl|rfl|rfl<;>exact ⟨rfl,by decide⟩
theorem c5I{f g:Int->Bool}{b:Int}(h:m9 b 0 3=true)(hb:g b=true)(hne:∀c,c≠b->g c=f c):(a58 f).set b.toNat true=a58 g:=by
 have h:0<=b/\b<=3:=by simpa [m9] using h
 have:b=0\/b=1\/b=2\/b=3:=by omega
 unfold a58;rcases this with rfl|rfl|rfl|rfl
 all_goals
  rw [show [g 0,g 1,g 2,g 3]=_ from rfl];first
   | rw [hb,hne 1 (by decide),hne 2 (by decide),hne 3 (by decide)];rfl
   | rw [hb,hne 0 (by decide),hne 2 (by decide),hne 3 (by decide)];rfl
   | rw [hb,hne 0 (by decide),hne 1 (by decide),hne 3 (by decide)];rfl
   | rw [hb,hne 0 (by decide),hne 1 (by decide),hne 2 (by decide)];rfl
theorem c5Q{l:List p7}{k:Nat}(hk:k<l.length)(b:Int):H5 (l.take (k+1)) b=(H5 (l.take k) b||(l[k].g7==b)):=by
 unfold H5;rw [d9H hk,List.any_append];simp
theorem b89{l:List o7}{k:Nat}(hk:k<l.length)(b:Int):O4 (l.take (k+1)) b=(O4 (l.take k) b||(l[k].g7==b)):=by
 unfold O4;rw [d9H hk,List.any_append];simp
theorem c9m{l:List p7}{k:Nat}(hk:k<l.length)(c:Int)(hc:c≠l[k].g7):H5 (l.take (k+1)) c=H5 (l.take k) c:=by
 have:(l[k].g7==c)=false:=by simpa using fun h=>hc h.symm
 rw [c5Q hk,this,Bool.or_false]
theorem c8S{l:List o7}{k:Nat}(hk:k<l.length)(c:Int)(hc:c≠l[k].g7):O4 (l.take (k+1)) c=O4 (l.take k) c:=by
 have:(l[k].g7==c)=false:=by simpa using fun h=>hc h.symm
 rw [b89 hk,this,Bool.or_false]
theorem c4c{R S B:Type}{x:Option (j9 R B)}{n:Nat}{ok:Nat->Bool}{r:R}{b:B}(h:(x=some (.brk b)/\∀j,j<n->ok j=true)\/∃k,k<n/\ok k=false/\(∀j,j<k->ok j=true)/\x=some (.ret r)):x=some (bif (d87 n).all ok then .brk b else .ret r):=by
 rcases h with ⟨h,hall⟩|⟨k,hk,ho,_,h⟩
 ·have:(d87 n).all ok=true:=by
   rw [d86];intro x hx;exact hall x (by simpa using hx)
  rw [this];exact h
 ·have:(d87 n).all ok=false:=by
   rw [List.all_eq_false];exact ⟨k,by simpa using hk,by simp [ho]⟩
  rw [this];exact h
theorem d5J{r:m8}(h:s6 r.b5):p6 (fun s:List Bool×Int=>a6m r s.1 s.2) (d81 4 false,0)=some (bif (d87 r.b5.length).all (Q3 r.b5) then .brk () else .ret false):=by
 refine c4c (S:=List Bool×Int) (a5t (body:=fun s:List Bool×Int=>a6m r s.1 s.2) (fun k=>(a58 (H5 (r.b5.take k)),(k:Int))) r.b5.length (Q3 r.b5) (fun _=>false) () ?_ ?_)
 ·intro k hk _;simp only;unfold a6m Q3 r7;rw [x7 _ k hk,s8 hk,d8Z hk];simp only [e0O,d8Y,G2];cases hb:m9 r.b5[k].g7 0 3
  ·rfl
  ·obtain ⟨h1,h2⟩:=b9i (f:=H5 (r.b5.take k)) hb;rw [h1];simp only [if_pos h2,d9e,e0P,d8Y,d9m];cases hs:H5 (r.b5.take k) r.b5[k].g7
   ·cases m9 r.b5[k].i8 0 1000000
    ·rfl
    ·simp only [d9e,e0P,d9u,d9m,e0O];rw [c5I (f:=H5 (r.b5.take k)) (g:=H5 (r.b5.take (k+1))) hb (by rw [c5Q hk];simp) (c9m hk),J2 h hk]
   ·cases m9 r.b5[k].i8 0 1000000<;>rfl
 ·intro _;simp only;unfold a6m;rw [A4];rfl
theorem d7C{r:m8}(h:s6 r.b6):p6 (fun s:List Bool×Int=>a69 r s.1 s.2) (d81 4 false,0)=some (bif (d87 r.b6.length).all (Q4 r.b6) then .brk () else .ret false):=by
 refine c4c (S:=List Bool×Int) (a5t (body:=fun s:List Bool×Int=>a69 r s.1 s.2) (fun k=>(a58 (O4 (r.b6.take k)),(k:Int))) r.b6.length (Q4 r.b6) (fun _=>false) () ?_ ?_)
 ·intro k hk _;simp only;unfold a69 Q4 r7;rw [x7 _ k hk,s8 hk,d8Z hk];simp only [e0O,d8Y,G2];cases hb:m9 r.b6[k].g7 0 3
  ·rfl
  ·obtain ⟨h1,h2⟩:=b9i (f:=O4 (r.b6.take k)) hb;rw [h1];simp only [if_pos h2,d9e,e0P,d8Y,d9m];cases hs:O4 (r.b6.take k) r.b6[k].g7
   ·cases m9 r.b6[k].c7 (-1000000) 1000000
    ·rfl
    ·simp only [d9e,e0P,d9u,d9m,e0O];rw [c5I (f:=O4 (r.b6.take k)) (g:=O4 (r.b6.take (k+1))) hb (by rw [b89 hk];simp) (c8S hk),J2 h hk]
   ·cases m9 r.b6[k].c7 (-1000000) 1000000<;>rfl
 ·intro _;simp only;unfold a69;rw [A4];rfl
def O6(r:m8):Bool:=m9 r.Code 0 3&&(m9 r.c7 (-1000000) 1000000&&((r.Code==0||(r.c7==0&&r.b6.length==0))&&((r.Code != 3||r.b5.length==0)&&((d87 r.b5.length).all (Q3 r.b5)&&(d87 r.b6.length).all (Q4 r.b6)))))
theorem d2t{r:m8}(h:a07 r):b3M r=some ((d87 r.b5.length).all (Q3 r.b5)&&(d87 r.b6.length).all (Q4 r.b6)):=by
 unfold b3M b4k;rw [d5q (h.1.fits (by decide)),d1W (h.2.1.fits (by decide))];cases (d87 r.b5.length).all (Q3 r.b5)<;>cases (d87 r.b6.length).all (Q4 r.b6)<;>rfl
theorem d2D{r:m8}(h:a07 r):b0r r=some ((d87 r.b5.length).all (Q3 r.b5)&&(d87 r.b6.length).all (Q4 r.b6)):=by
 unfold b0r b5B;rw [d5J (h.1.fits (by decide)),d7C (h.2.1.fits (by decide))];cases (d87 r.b5.length).all (Q3 r.b5)<;>cases (d87 r.b6.length).all (Q4 r.b6)<;>rfl
theorem c5O{α:Type}(l:List α):decide ((l.length:Int)>0) = !(l.length==0):=by
 cases l<;>simp
theorem c7F{r:m8}(h:a07 r):b1p r=some (O6 r):=by
 unfold b1p O6;rw [d2t h];simp only [b2t,c5O,d8Y,j9.go];generalize ((d87 r.b5.length).all (Q3 r.b5)&&(d87 r.b6.length).all (Q4 r.b6))=z;generalize (r.b6.length==0)=a;generalize (r.b5.length==0)=b;generalize m9 r.c7 (-1000000) 1000000=c;have h3:m9 r.Code 0 3=(!decide (r.Code<0) && !decide (r.Code>3)):=by
  unfold m9;by_cases h1:r.Code<0<;>by_cases h2:r.Code>3<;>simp [h1,h2]<;>omega
 rw [h3];unfold bne;cases decide (r.Code<0)<;>cases decide (r.Code>3)<;>cases c<;>cases (r.Code==0)<;>cases (r.c7==0)<;>cases a<;>cases (r.Code==3)<;>cases b<;>rfl
theorem b5b{r:m8}(h:a07 r):a6k r=some (O6 r):=by
 unfold a6k O6;rw [d2D h];simp only [G2,c5O,d8Y,j9.go];generalize ((d87 r.b5.length).all (Q3 r.b5)&&(d87 r.b6.length).all (Q4 r.b6))=z;generalize (r.b6.length==0)=a;generalize (r.b5.length==0)=b;generalize m9 r.c7 (-1000000) 1000000=c;generalize m9 r.Code 0 3=d;unfold bne;cases d<;>cases c<;>cases (r.Code==0)<;>cases (r.c7==0)<;>cases a<;>cases (r.Code==3)<;>cases b<;>rfl
def a0F(a b:List p7)(k:Nat):Bool:=match a[k]?,b[k]? with
 | some x,some y=>([x.g7,x.i8]:List Int)==[y.g7,y.i8]
 | _,_=>true
def a0D(a b:List o7)(k:Nat):Bool:=match a[k]?,b[k]? with
 | some x,some y=>([x.g7,x.c7]:List Int)==[y.g7,y.c7]
 | _,_=>true
theorem d5I{a b:m8}(h:s6 a.b5)(hl:a.b5.length=b.b5.length):p6 (fun s:Int=>a8K a b s) 0=some (bif (d87 a.b5.length).all (a0F a.b5 b.b5) then .brk () else .ret false):=by
 refine a2I a.b5 h (a0F a.b5 b.b5) false () ?_ ?_
 ·intro k hk _;unfold a8K a0F;rw [x7 _ k hk,s8 hk,s8 (hl▸hk),d8Z hk,d8Z (hl▸hk)];simp only [e0O,d8Y];cases ([a.b5[k].g7,a.b5[k].i8]:List Int)==[(b.b5[k]'(hl▸hk)).g7,(b.b5[k]'(hl▸hk)).i8]<;>rfl
 ·unfold a8K;rw [A4];rfl
theorem d1X{a b:m8}(h:s6 a.b6)(hl:a.b6.length=b.b6.length):p6 (fun s:Int=>a9f a b s) 0=some (bif (d87 a.b6.length).all (a0D a.b6 b.b6) then .brk () else .ret false):=by
 refine a2I a.b6 h (a0D a.b6 b.b6) false () ?_ ?_
 ·intro k hk _;unfold a9f a0D;rw [x7 _ k hk,s8 hk,s8 (hl▸hk),d8Z hk,d8Z (hl▸hk)];simp only [e0O,d8Y];cases ([a.b6[k].g7,a.b6[k].c7]:List Int)==[(b.b6[k]'(hl▸hk)).g7,(b.b6[k]'(hl▸hk)).c7]<;>rfl
 ·unfold a9f;rw [A4];rfl
theorem d2N{a b:List p7}(h:s6 a):b1Y a b=some (a.length==b.length&&(d87 a.length).all (a0F a b)):=by
 unfold b1Y;by_cases hl:a.length=b.length
 ·rw [a2I a h (a0F a b) false ()]
  ·rw [hl];simp only [bne_self_eq_false,e0P,beq_self_eq_true,d9m];cases (d87 b.length).all (a0F a b)<;>rfl
  ·intro k hk _;unfold b1u a0F;rw [x7 _ k hk,s8 hk,s8 (hl▸hk),d8Z hk,d8Z (hl▸hk)];simp only [e0O,d8Y];cases ([a[k].g7,a[k].i8]:List Int)==[(b[k]'(hl▸hk)).g7,(b[k]'(hl▸hk)).i8]<;>rfl
  ·unfold b1u;rw [A4];rfl
 ·have h1:((a.length:Int) != (b.length:Int))=true:=by simp;omega
  have h2:(a.length==b.length)=false:=by simpa using hl
  rw [h1,h2];rfl
theorem d0s{a b:List o7}(h:s6 a):b0B a b=some (a.length==b.length&&(d87 a.length).all (a0D a b)):=by
 unfold b0B;by_cases hl:a.length=b.length
 ·rw [a2I a h (a0D a b) false ()]
  ·rw [hl];simp only [bne_self_eq_false,e0P,beq_self_eq_true,d9m];cases (d87 b.length).all (a0D a b)<;>rfl
  ·intro k hk _;unfold b2M a0D;rw [x7 _ k hk,s8 hk,s8 (hl▸hk),d8Z hk,d8Z (hl▸hk)];simp only [e0O,d8Y];cases ([a[k].g7,a[k].c7]:List Int)==[(b[k]'(hl▸hk)).g7,(b[k]'(hl▸hk)).c7]<;>rfl
  ·unfold b2M;rw [A4];rfl
 ·have h1:((a.length:Int) != (b.length:Int))=true:=by simp;omega
  have h2:(a.length==b.length)=false:=by simpa using hl
  rw [h1,h2];rfl
def a2i(a b:m8):Bool:=(a.b5.length==b.b5.length&&(d87 a.b5.length).all (a0F a.b5 b.b5))&&((a.b6.length==b.b6.length&&(d87 a.b6.length).all (a0D a.b6 b.b6))&&(a.c7==b.c7&&a.Code==b.Code))
theorem b8M{α β:Type}(a:List α)(b:List β):((a.length:Int) != (b.length:Int)) = !(a.length==b.length):=by
 unfold bne;congr 1
 by_cases h:a.length=b.length
 ·simp [h]
 ·have h1:((a.length:Int)==(b.length:Int))=false:=by simp;omega
  have h2:(a.length==b.length)=false:=by simpa using h
  rw [h1,h2]
theorem b4F{a b:m8}(h:a07 a):a5V a b=some (a2i a b):=by
 unfold a5V a2i;rw [b8M,b8M];cases h1:a.b5.length==b.b5.length
 ·unfold bne;cases a.c7==b.c7<;>cases a.Code==b.Code<;>rfl
 cases h2:a.b6.length==b.b6.length
 ·unfold bne;cases a.c7==b.c7<;>cases a.Code==b.Code<;>simp
 unfold b5u;rw [d5I (h.1.fits (by decide)) (by simpa using h1),d1X (h.2.1.fits (by decide)) (by simpa using h2)];unfold bne;cases (d87 a.b5.length).all (a0F a.b5 b.b5)<;>cases (d87 a.b6.length).all (a0D a.b6 b.b6)<;>cases a.c7==b.c7<;>cases a.Code==b.Code<;>rfl
theorem c5W{a b:m8}(h:a07 a):b0U a b=some (a2i a b):=by
 unfold b0U a2i;rw [d2N (h.1.fits (by decide)),d0s (h.2.1.fits (by decide))];simp only [d8Y];generalize (a.b5.length==b.b5.length&&(d87 a.b5.length).all (a0F a.b5 b.b5))=x;generalize (a.b6.length==b.b6.length&&(d87 a.b6.length).all (a0D a.b6 b.b6))=y;cases x<;>cases y<;>cases a.c7==b.c7<;>rfl
def s9(e:l7):Bool:=bif e.i7 then (([e.a7.b9,e.a7.Seq]:List Int)==[0,0])&&a2i e.d6 (m8.mk [] [] 0 0) else (m9 e.a7.b9 0 2&&m9 e.a7.Seq 1 1000)&&(O6 e.d6&&e.d6.Code != 3)
theorem a5e{e:l7}(h:a1O e):a1r e=some (s9 e):=by
 unfold a1r s9;simp only [b4F h.2,b5W,c7F h.2,d8Y];cases e.i7
 ·simp only [e0P];cases m9 e.a7.b9 0 2&&m9 e.a7.Seq 1 1000<;>cases O6 e.d6<;>rfl
 ·simp only [e0O];cases ([e.a7.b9,e.a7.Seq]:List Int)==[0,0]<;>rfl
theorem a3m{e:l7}(h:a1O e):a0n e=some (s9 e):=by
 unfold a0n a2V s9;simp only [c5W h.2,b01,b5b h.2,d8Y];cases e.i7
 ·simp only [e0P];cases m9 e.a7.b9 0 2&&m9 e.a7.Seq 1 1000<;>cases O6 e.d6<;>rfl
 ·simp only [e0O,beq_self_eq_true];cases ([e.a7.b9,e.a7.Seq]:List Int)==[0,0]<;>rfl
def G6(l:List l7):Bool:=decide (l.length<=40)&&l.all s9
theorem b5p{α:Type}(l:List α)(n:Nat):decide ((l.length:Int)<=(n:Int))=decide (l.length<=n):=by
 by_cases h:l.length<=n
 ·have:(l.length:Int)<=(n:Int):=by omega
  simp [h,this]
 ·have:¬(l.length:Int)<=(n:Int):=by omega
  simp [h,this]
theorem b7k{α:Type}(l:List α)(n:Nat):decide ((l.length:Int)>(n:Int)) = !decide (l.length<=n):=by
 by_cases h:l.length<=n
 ·have:¬(l.length:Int)>(n:Int):=by omega
  simp [h,this]
 ·have:(l.length:Int)>(n:Int):=by omega
  simp [h,this]
theorem c9S{l:List l7}(h:z0 88 a1O l):b2A l=some (G6 l):=by
 unfold b2A G6;rw [show (40:Int)=((40:Nat):Int) from rfl,b7k,K6 l (h.fits (by decide)) s9 false ()]
 ·cases decide (l.length<=40)
  ·rfl
  ·cases l.all s9<;>rfl
 ·intro k hk;unfold a98;rw [x7 _ k hk,s8 hk];simp only [e0O,d8Y,a5e (h.2 _ (d85 hk))];cases s9 l[k]<;>rfl
 ·unfold a98;rw [A4];rfl
theorem c0z{l:List l7}(h:z0 88 a1O l):a7v l=some (G6 l):=by
 unfold a7v G6 b4Q;rw [show (40:Int)=((40:Nat):Int) from rfl,b5p,K6 l (h.fits (by decide)) s9 false ()]
 ·cases l.all s9<;>cases decide (l.length<=40)<;>rfl
 ·intro k hk;unfold b1J;rw [x7 _ k hk,s8 hk];simp only [e0O,d8Y,a3m (h.2 _ (d85 hk))];cases s9 l[k]<;>rfl
 ·unfold b1J;rw [A4];rfl
def a3P(b:m7):Bool:=m9 b.i8 0 1000000&&m9 b.c7 (-1000000) 1000000
def C0(l:List m7):Bool:=l.length==4&&l.all a3P
theorem c1e{α:Type}(l:List α)(n:Nat):((l.length:Int) != (n:Int)) = !(l.length==n):=by
 unfold bne;congr 1
 by_cases h:l.length=n
 ·simp [h]
 ·have h1:((l.length:Int)==(n:Int))=false:=by simp;omega
  have h2:(l.length==n)=false:=by simpa using h
  rw [h1,h2]
theorem c7U{α:Type}(l:List α)(n:Nat):((l.length:Int)==(n:Int))=(l.length==n):=by
 have:=c1e l n;unfold bne at this;simpa using this
theorem a8u{l:List m7}(h:s6 l):a3I l=some (C0 l):=by
 unfold a3I C0 b4m;rw [show (4:Int)=((4:Nat):Int) from rfl,c7U,K6 l h a3P false ()]
 ·cases l.length==4<;>cases l.all a3P<;>rfl
 ·intro k hk;unfold b1g a3P;rw [x7 _ k hk,s8 hk];simp only [e0O,d8Y,G2];cases m9 l[k].i8 0 1000000<;>cases m9 l[k].c7 (-1000000) 1000000<;>rfl
 ·unfold b1g;rw [A4];rfl
theorem c5S{l:List p7}(h:(d87 l.length).all (Q3 l)=true):∀x∈l,0<=x.g7/\x.g7<=3/\0<=x.i8/\x.i8<=1000000:=by
 intro x hx;obtain ⟨i,hi,rfl⟩:=d9W hx;have:=d86.1 h i (by simpa using hi);unfold Q3 at this;rw [d8Z hi] at this;simp [m9] at this;omega
theorem c4T{l:List o7}(h:(d87 l.length).all (Q4 l)=true):∀x∈l,0<=x.g7/\x.g7<=3/\-1000000<=x.c7/\x.c7<=1000000:=by
 intro x hx;obtain ⟨i,hi,rfl⟩:=d9W hx;have:=d86.1 h i (by simpa using hi);unfold Q4 at this;rw [d8Z hi] at this;simp [m9] at this;omega
theorem a7S{r:m8}(h:O6 r=true):(0<=r.Code/\r.Code<=3)/\(-1000000<=r.c7/\r.c7<=1000000)/\(r.Code=0\/(r.c7=0/\r.b6=[]))/\(∀x∈r.b5,0<=x.g7/\x.g7<=3/\0<=x.i8/\x.i8<=1000000)/\∀x∈r.b6,0<=x.g7/\x.g7<=3/\-1000000<=x.c7/\x.c7<=1000000:=by
 unfold O6 at h;simp only [d82,Bool.or_eq_true] at h;obtain ⟨h1,h2,h3,_,h4,h5⟩:=h;refine ⟨by simpa [m9] using h1,by simpa [m9] using h2,by simpa using h3,c5S h4,c4T h5⟩
def a2a(l:List m7)(r:m8):Bool:=r.b5.all fun x=>match l[x.g7.toNat]? with
 | some b=>b.i8==x.i8
 | none=>true
theorem a7x{l:List m7}(h:C0 l=true):l.length=4:=by
 unfold C0 at h;simp only [d82,beq_iff_eq] at h;exact h.1
theorem a5y{l:List m7}(h:C0 l=true):s6 l:=by
 unfold s6;rw [a7x h];decide
theorem a9R{l:List m7}(h:C0 l=true){b:Int}(hb:0<=b/\b<=3):∃x,idx l b=some x/\l[b.toNat]?=some x/\a3P x=true:=by
 have hl:=a7x h;have hlt:b.toNat<l.length:=by omega
 refine ⟨l[b.toNat],?_,d8Z hlt,?_⟩
 ·unfold idx;rw [if_pos hb.1,d8Z hlt]
 ·unfold C0 at h;simp only [d82] at h;exact d86.1 h.2 _ (d85 hlt)
theorem d2u{l:List m7}{r:m8}(hl:s6 l)(hr:a07 r):a93 l r=some (C0 l&&(O6 r&&a2a l r)):=by
 unfold a93;rw [a8u hl,b5b hr];simp only [d8Y];cases h1:C0 l
 ·rfl
 cases h2:O6 r
 ·rfl
 have hp:=a7S h2;simp only [d9e,e0P,d9m];rw [K6 r.b5 (hr.1.fits (by decide)) (fun x=>match l[x.g7.toNat]? with|some b=>b.i8==x.i8|none=>true) false ()]
 ·unfold a2a;cases r.b5.all _<;>rfl
 ·intro k hk;have hm:=hp.2.2.2.1 _ (d85 hk);obtain ⟨b,hb1,hb2,_⟩:=a9R h1 (b:=r.b5[k].g7) ⟨hm.1,hm.2.1⟩;unfold b3v;rw [x7 _ k hk,s8 hk];simp only [e0O,d8Y,hb1,hb2];unfold bne;cases b.i8==r.b5[k].i8<;>rfl
 ·unfold b3v;rw [A4];rfl
def a5h(l:List m7)(p:o7):List m7:=match l[p.g7.toNat]? with
 | some b=>l.set p.g7.toNat ⟨if b.i8+1<1000000 then b.i8+1 else 1000000,p.c7⟩
 | none=>l
def a9j(l:List m7)(ps:List o7):List m7:=ps.foldl a5h l
def a1C(x:o7):Prop:=0<=x.g7/\x.g7<=3/\-1000000<=x.c7/\x.c7<=1000000
theorem d3P{l:List m7}{p:o7}{b:m7}(h:l[p.g7.toNat]?=some b):a5h l p=l.set p.g7.toNat ⟨if b.i8+1<1000000 then b.i8+1 else 1000000,p.c7⟩:=by
 unfold a5h;rw [h]
theorem b4G{b:m7}:a3P b=true↔(0<=b.i8/\b.i8<=1000000)/\(-1000000<=b.c7/\b.c7<=1000000):=by
 unfold a3P m9;simp
theorem d6C{l:List m7}:C0 l=true↔l.length=4/\∀b∈l,a3P b=true:=by
 unfold C0;simp
theorem c6S{l:List m7}{p:o7}(h:C0 l=true)(hp:a1C p):C0 (a5h l p)=true:=by
 obtain ⟨b,_,h2,h3⟩:=a9R h (b:=p.g7) ⟨hp.1,hp.2.1⟩;rw [d6C] at h ⊢;unfold a5h;rw [h2];refine ⟨by simpa using h.1,fun x hx => ?_⟩;rcases d9r hx with hx|rfl
 ·exact h.2 x hx
 ·rw [b4G] at h3 ⊢;refine ⟨?_,hp.2.2⟩;simp only;split<;>omega
theorem b2c:∀{ps:List o7} {l:List m7},C0 l=true->(∀p∈ps,a1C p)->C0 (a9j l ps)=true
 | [],l,h,_=>h
 | p::ps,l,h,hp=>b2c (ps:=ps) (c6S h (hp p (by simp))) fun x hx=>hp x (by simp [hx])
theorem d8u{l:List m7}{ps:List o7}(h:C0 l=true)(hp:∀p∈ps,a1C p)(k:Nat):C0 ((ps.take k).foldl a5h l)=true:=
 b2c h fun p hq=>hp p (d9C hq)
theorem b6B{l:List m7}(h:l.length*16<=140737488351232):a4v l=some l:=by
 unfold a4v r7;cases l with
 | nil=>rfl
 | cons x l=>
  have h1:(((x::l).length:Int)==0)=false:=by simp;omega
  rw [h1,e0P,if_pos (by constructor<;>omega),if_pos (by simp)]
theorem b91{l:List s7}(h:l.length*32<=140737488351232):a3u l=some l:=by
 unfold a3u r7;cases l with
 | nil=>rfl
 | cons x l=>
  have h1:(((x::l).length:Int)==0)=false:=by simp;omega
  rw [h1,e0P,if_pos (by constructor<;>omega),if_pos (by simp)]
theorem b8j{l:List m7}{r:m8}(hl:C0 l=true)(hr:a07 r)(hok:O6 r=true):a8A l r=some (a9j l r.b6):=by
 have hp:∀p∈r.b6,a1C p:=(a7S hok).2.2.2.2
 unfold a8A;rw [a8u (a5y hl),b5b hr,hl,hok];simp only [d8Y,d9e,e0P];rw [b6B (by rw [a7x hl];decide),d8Y,d7y r.b6 (hr.2.1.fits (by decide)) a5h l id]
 ·rfl
 ·intro k hk;have hq:=hp _ (d85 hk);obtain ⟨b,h1,h2,h3⟩:=a9R (d8u hl hp k) (b:=r.b6[k].g7) ⟨hq.1,hq.2.1⟩;rw [b4G] at h3;unfold b2b;rw [x7 _ k hk,s8 hk];simp only [e0O,d8Y,h1];rw [d3P h2,B4 (n:=b.i8+1) (by omega) (by omega)]
 ·unfold b2b;rw [A4];rfl
def a5u(d:s7):Bool:=(m9 d.a7.b9 0 2&&m9 d.a7.Seq 1 1000)&&(m9 d.Code 0 2&&(m9 d.c7 (-1000000) 1000000&&(d.Code==0||d.c7==0)))
def a19(l:List s7):Prop:=l.Pairwise fun a b=>a.a7.b9<b.a7.b9
def M4(d:s7)(st:List s7×Bool)(x:s7):List s7×Bool:=
 bif !st.2&&decide (x.a7.b9>=d.a7.b9) then (bif x.a7.b9 != d.a7.b9 then (st.1++[d])++[x] else st.1++[d],true) else (bif x.a7.b9 != d.a7.b9 then st.1++[x] else st.1,st.2)
def W5(l:List s7)(d:s7):List s7:=
 let r:=l.foldl (M4 d) ([],false);bif !r.2 then r.1++[d] else r.1
theorem d74(d:s7)(st:List s7×Bool)(x:s7):(M4 d st x).1.length<=st.1.length+2:=by
 unfold M4;cases !st.2&&decide (x.a7.b9>=d.a7.b9)<;>cases x.a7.b9 != d.a7.b9<;>simp
theorem b9p(d:s7):∀(l:List s7) (st:List s7×Bool),(l.foldl (M4 d) st).1.length<=st.1.length+2*l.length
 | [],st=>by simp
 | x::l,st=>by
  have h1:=b9p d l (M4 d st x);have h2:=d74 d st x;simp only [e0K,d92];omega
theorem b6T(d:s7):∀{l:List s7} {o:List s7},(∀x∈l,d.a7.b9<x.a7.b9)->l.foldl (M4 d) (o,true)=(o++l,true)
 | [],o,_=>by simp
 | x::l,o,h=>by
  have hx:=h x (by simp);have hne:(x.a7.b9 != d.a7.b9)=true:=by simp;omega
  rw [e0K,show M4 d (o,true) x=(o++[x],true) from by unfold M4;simp [hne],b6T d fun y hy=>h y (by simp [hy])];simp
theorem c5e(d:s7):∀{l o:List s7},a19 l->
  (let r:=l.foldl (M4 d) (o,false);bif !r.2 then r.1++[d] else r.1)=o++(l.filter (fun x=>decide (x.a7.b9<d.a7.b9))++d::l.filter (fun x=>decide (d.a7.b9<x.a7.b9)))
 | [],o,_=>by simp
 | x::l,o,h=>by
  obtain ⟨h1,h2⟩:=e0d.1 h;rw [e0K];by_cases hlt:x.a7.b9<d.a7.b9
  ·have hge:¬x.a7.b9>=d.a7.b9:=by omega
   have hne:(x.a7.b9 != d.a7.b9)=true:=by simp;omega
   have hngt:¬d.a7.b9<x.a7.b9:=by omega
   rw [show M4 d (o,false) x=(o++[x],false) from by unfold M4;simp [hge,hne],c5e d h2];simp [hlt,hngt]
  ·have hge:x.a7.b9>=d.a7.b9:=by omega
   have hall:∀y∈l,d.a7.b9<y.a7.b9:=fun y hy=>by have:=h1 y hy;omega
   have hf1:l.filter (fun x=>decide (x.a7.b9<d.a7.b9))=[]:=by
    rw [List.filter_eq_nil_iff];intro y hy;have:=hall y hy;simp;omega
   have hf2:l.filter (fun x=>decide (d.a7.b9<x.a7.b9))=l:=by
    rw [List.filter_eq_self];intro y hy;simpa using hall y hy
   by_cases heq:x.a7.b9=d.a7.b9
   ·have hngt:¬d.a7.b9<x.a7.b9:=by omega
    rw [show M4 d (o,false) x=(o++[d],true) from by unfold M4;simp [hge,heq],b6T d hall];simp [hlt,hngt,hf1,hf2]
   ·have hgt:d.a7.b9<x.a7.b9:=by omega
    have hne:(x.a7.b9 != d.a7.b9)=true:=by simpa using heq
    rw [show M4 d (o,false) x=((o++[d])++[x],true) from by unfold M4;simp [hge,hne],b6T d hall];simp [hlt,hgt,hf1,hf2]
theorem b4W{l:List s7}(d:s7)(h:a19 l):W5 l d=l.filter (fun x=>decide (x.a7.b9<d.a7.b9))++d::l.filter (fun x=>decide (d.a7.b9<x.a7.b9)):=by
 have:=c5e d (o:=[]) h;simpa [W5] using this
theorem d34{l:List s7}(d:s7)(h:a19 l):a19 (W5 l d):=by
 rw [b4W d h];unfold a19;rw [e0r,e0d];refine ⟨h.filter _,⟨fun y hy=>by simpa using (d9V.1 hy).2,h.filter _⟩,fun a ha b hb => ?_⟩;have h1:a.a7.b9<d.a7.b9:=by simpa using (d9V.1 ha).2
 rcases d88.1 hb with rfl|hb
 ·exact h1
 ·have h2:d.a7.b9<b.a7.b9:=by simpa using (d9V.1 hb).2
  omega
theorem b9t{l:List s7}{d x:s7}(h:a19 l)(hx:x∈W5 l d):x∈l\/x=d:=by
 rw [b4W d h] at hx;rcases d80.1 hx with hx|hx
 ·exact .inl (d9V.1 hx).1
 ·rcases d88.1 hx with rfl|hx
  ·exact .inr rfl
  ·exact .inl (d9V.1 hx).1
theorem c34{l:List s7}(d:s7)(h:a19 l):(W5 l d).length<=l.length+1:=by
 rw [b4W d h];have:(l.filter fun x=>decide (x.a7.b9<d.a7.b9)).length+(l.filter fun x=>decide (d.a7.b9<x.a7.b9)).length<=l.length:=by
  clear h;induction l with
  | nil=>simp
  | cons x l ih=>
   by_cases h1:x.a7.b9<d.a7.b9
   ·have h2:¬d.a7.b9<x.a7.b9:=by omega
    simp [h1,h2];omega
   ·by_cases h2:d.a7.b9<x.a7.b9
    ·simp [h1,h2];omega
    ·simp [h1,h2];omega
 simp only [d9d,d92];omega
structure Inv(s:u0)(k:Nat):Prop where
 at_:s.At=(k:Int)
 le:k<=40
 boxes:C0 s.i0=true
 sorted:a19 s.i5
 dones:∀d∈s.i5,a5u d=true
 len:s.i5.length<=k
theorem Inv.fits{s:u0}{k:Nat}(h:Inv s k):s6 s.i5:=by
 have:=h.len;have:=h.le;unfold s6;omega
theorem c99{α:Type}{o:List α}{d:α}(h:o.length<=80):((o++[d]).length+1)*32<=140737488355328:=by
 rw [show (o++[d]).length=o.length+1 from by simp];omega
def W0(s:u0)(e:l7):u0×Int:=
 bif a2a s.i0 e.d6 then
  (bif e.d6.Code==0 then (⟨s.At+1,a9j s.i0 e.d6.b6,W5 s.i5 ⟨e.a7,0,e.d6.c7⟩⟩,0)
  else (⟨s.At+1,s.i0,W5 s.i5 ⟨e.a7,2,0⟩⟩,2))
 else (⟨s.At+1,s.i0,W5 s.i5 ⟨e.a7,1,0⟩⟩,1)
def apply(s:u0)(e:l7):u0×Int:=
 bif e.i7 then (⟨s.At+1,s.i0,s.i5⟩,5) else
 match s.i5.find? (fun d=>d.a7.b9==e.a7.b9) with
 | some d=>bif d.a7.Seq==e.a7.Seq then (⟨s.At+1,s.i0,s.i5⟩,3) else bif decide (d.a7.Seq>e.a7.Seq) then (⟨s.At+1,s.i0,s.i5⟩,4) else W0 s e
 | none=>W0 s e
theorem a4n{e:l7}(h:s9 e=true)(hn:e.i7=false):(0<=e.a7.b9/\e.a7.b9<=2)/\(1<=e.a7.Seq/\e.a7.Seq<=1000)/\O6 e.d6=true/\e.d6.Code≠3:=by
 unfold s9 at h;rw [hn] at h;simp [m9] at h;exact ⟨h.1.1,h.1.2,h.2.1,h.2.2⟩
theorem c8X{l:List s7}(h:a19 l)(who seq:Int):l.find? (fun d=>d.a7.b9==who&&decide (d.a7.Seq>=seq))=match l.find? (fun d=>d.a7.b9==who) with
  | some d=>bif decide (d.a7.Seq>=seq) then some d else none
  | none=>none:=by
 induction l with
 | nil=>rfl
 | cons x l ih=>
  obtain ⟨h1,h2⟩:=e0d.1 h;rw [List.find?_cons,List.find?_cons];cases hx:x.a7.b9==who with
  | false=>simpa using ih h2
  | true=>
   cases hs:decide (x.a7.Seq>=seq) with
   | true=>simp [hs]
   | false=>
    simp only [Bool.and_false,hs,e0P];rw [List.find?_eq_none];intro y hy;have:=h1 y hy;have hx':x.a7.b9=who:=by simpa using hx
    simp;intro hyw;omega
theorem d2d{s:u0}{k:Nat}(hs:Inv s k):b0X s=some true:=by
 unfold b0X;have hloop:=a1u (body:=fun v:Int=>a9i s v) (fun j=>(j:Int)) s.i5.length (by
  intro j hj;have hd:=hs.dones _ (d85 hj);unfold a5u at hd;simp only [d82,Bool.or_eq_true] at hd;obtain ⟨⟨d1,d2⟩,d3,d4,d5⟩:=hd;unfold a9i b56;rw [x7 _ j hj,s8 hj,J2 hs.fits hj];simp only [e0O,d8Y,b01,G2,d1,d2,d3,d4,e0a,d9e,e0P];cases j with
  | zero=>
   rw [show decide (((0:Nat):Int)>0)=false from by decide];simp only [e0P];unfold bne;rcases d5 with d5|d5<;>simp [d5,j9.go,Option.bind]
  | succ j=>
   have hlt:(s.i5[j]'(by omega)).a7.b9<s.i5[j+1].a7.b9:=d9G.1 hs.sorted j (j+1) (by omega) hj (by omega);have hge:¬(s.i5[j]'(by omega)).a7.b9>=s.i5[j+1].a7.b9:=by omega
   have hle:=hs.fits;unfold s6 at hle;rw [show l9 (((j+1:Nat):Int)-1)=(j:Int) from by rw [B4 (by omega) (by omega)];omega,s8 (show j<s.i5.length by omega)];have hpos:decide (((j+1:Nat):Int)>0)=true:=by simp
   simp only [hpos,e0O,d8Y,hge,decide_false,e0P];unfold bne;rcases d5 with d5|d5<;>simp [d5,j9.go,Option.bind])
 rw [show ((0:Nat):Int)=0 from rfl] at hloop;rw [hloop,E9 (b:=())]
 ·unfold b6X;have:=hs.le;have ha:m9 s.At 0 40=true:=by rw [hs.at_];simp [m9];omega
  simp [j9.go,G2,ha,a8u (a5y hs.boxes),hs.boxes]
 ·unfold a9i;rw [A4];rfl
theorem b7Q{s:u0}{own:s7}{bx:List m7}(hl:s.i5.length<=40)(hw:l9 (s.At+1)=s.At+1)(hd:a19 s.i5):b0k s own bx=some (⟨s.At+1,bx,W5 s.i5 own⟩,own.Code):=by
 have hf:s6 s.i5:=by unfold s6;omega
 have hlen:∀k,k<=s.i5.length->((s.i5.take k).foldl (M4 own) ([],false)).1.length<=80:=by
  intro k hk;have:=b9p own (s.i5.take k) ([],false);simp only [List.length_nil,d91] at this;omega
 unfold b0k;have hloop:=a1u (body:=fun x:(List s7)×Int×Bool=>a8I s own x.1 x.2.1 x.2.2) (fun k=>(((s.i5.take k).foldl (M4 own) ([],false)).1,(k:Int),((s.i5.take k).foldl (M4 own) ([],false)).2)) s.i5.length (by
  intro k hk;have hb:=hlen k (by omega);rw [d9H hk,List.foldl_append];generalize (s.i5.take k).foldl (M4 own) ([],false)=st at hb;obtain ⟨o,i⟩:=st;simp only at hb;simp only [e0K,List.foldl_nil];unfold a8I b7r b4x M4;rw [x7 _ k hk,s8 hk,J2 hf hk];have n1:(o.length+1)*32<=140737488355328:=by omega
  have n2:((o++[own]).length+1)*32<=140737488355328:=c99 (by omega);cases i<;>cases h1:decide (s.i5[k].a7.b9>=own.a7.b9)<;>cases h2:s.i5[k].a7.b9 != own.a7.b9<;>simp only [h1,h2,x6 n1,x6 n2,e0O,e0P,d8Y,j9.go,d9e,d9u,d9m,Bool.false_and])
 simp only [d9S,List.foldl_nil,d9L] at hloop;rw [show ((0:Nat):Int)=0 from rfl] at hloop;rw [hloop,E9 (b:=s.i5.foldl (M4 own) ([],false))]
 ·have hb:=hlen s.i5.length (d9B _);rw [d9L] at hb;have hpl:=c34 own hd;have hcp:a3u (W5 s.i5 own)=some (W5 s.i5 own):=b91 (by omega);unfold b4M b5w;unfold W5 at hcp ⊢;generalize s.i5.foldl (M4 own) ([],false)=st at hb hcp;obtain ⟨o,i⟩:=st;have n1:(o.length+1)*32<=140737488355328:=by simp only at hb;omega
  cases i<;>simp only [x6 n1,e0O,e0P,d8Y,j9.go,d9e,d9u,hw] at hcp ⊢ <;>rw [hcp]<;>rfl
 ·unfold a8I;rw [A4];rfl
theorem b6W{s:u0}{k:Nat}{e:l7}(hs:Inv s k)(hk:k<40)(he:s9 e=true)(hf:a1O e):b17 s e=some (apply s e):=by
 have hw:l9 (s.At+1)=s.At+1:=by rw [hs.at_];exact B4 (by omega) (by omega)
 have hl:=hs.len;have hcd:a3u s.i5=some s.i5:=b91 (by omega);have hcb:a4v s.i0=some s.i0:=b6B (by rw [a7x hs.boxes];decide);have hat:(s.At==40)=false:=by rw [hs.at_];simp;omega
 unfold b17 apply;rw [d2d hs,a3m hf,he];simp only [d8Y,d9e,e0P,hat,hcb,hcd,hw];cases hn:e.i7;case true=>rfl
 obtain ⟨_,_,hr,hc3⟩:=a4n he hn;have hfr:b3r s e s.i0=some (W0 s e):=by
  unfold b3r W0;simp only [d2u (a5y hs.boxes) hf.2,hs.boxes,hr,d9m,d8Y,b8j hs.boxes hf.2 hr];cases a2a s.i0 e.d6
  ·simp only [d9u,e0O,e0P,d8Y,j9.go];exact b7Q (by omega) hw hs.sorted
  ·unfold bne;cases e.d6.Code==0
   ·simp only [d9u,d9e,e0O,e0P,d8Y,j9.go];exact b7Q (by omega) hw hs.sorted
   ·simp only [d9e,e0O,e0P,d8Y,j9.go];exact b7Q (by omega) hw hs.sorted
 simp only [e0P];rw [d4h s.i5 hs.fits (fun d=>d.a7.b9==e.a7.b9&&decide (d.a7.Seq>=e.a7.Seq)) (fun d=>(⟨s.At+1,s.i0,s.i5⟩,bif d.a7.Seq==e.a7.Seq then 3 else 4)) ()]
 ·rw [c8X hs.sorted];cases s.i5.find? fun d=>d.a7.b9==e.a7.b9 with
  | none=>simp only [d8Y,j9.go,hfr]
  | some d=>
   cases hq:d.a7.Seq==e.a7.Seq with
   | true=>
    have:d.a7.Seq>=e.a7.Seq:=by
     have:d.a7.Seq=e.a7.Seq:=by simpa using hq
     omega
    simp [this,j9.go,hq]
   | false=>
    have hne:d.a7.Seq≠e.a7.Seq:=by simpa using hq
    by_cases hg:d.a7.Seq>e.a7.Seq
    ·have:d.a7.Seq>=e.a7.Seq:=by omega
     simp [this,j9.go,hg,hq]
    ·have:¬d.a7.Seq>=e.a7.Seq:=by omega
     simp [this,j9.go,hg,hfr,hq]
 ·intro j hj;unfold b0G b5J;rw [x7 _ j hj,s8 hj];simp only [e0O,d8Y,hcd,hw];cases h1:s.i5[j].a7.b9==e.a7.b9<;>cases h2:decide (s.i5[j].a7.Seq>=e.a7.Seq)<;>cases h3:s.i5[j].a7.Seq==e.a7.Seq<;>simp only [e0O,e0P,d8Y,j9.go,d9m,Bool.false_and,e0a,Bool.and_false]
 ·unfold b0G;rw [A4];rfl
theorem d6j{s:u0}{k:Nat}{e:l7}(hs:Inv s k)(hk:k<40)(he:s9 e=true)(hn:e.i7=false):Inv (W0 s e).1 (k+1)/\0<=(W0 s e).2/\(W0 s e).2<=5:=by
  obtain ⟨h1,h2,hr,hc3⟩:=a4n he hn;have hp:=a7S hr;have hat:s.At+1=((k+1:Nat):Int):=by rw [hs.at_];rfl
  have key:∀(bx:List m7) (d:s7),C0 bx=true->a5u d=true->Inv ⟨s.At+1,bx,W5 s.i5 d⟩ (k+1):=fun bx d hb hd=>
    { at_:=hat,le:=by omega,boxes:=hb,sorted:=d34 d hs.sorted
      dones:=fun x hx=>by
        rcases b9t hs.sorted hx with hx|rfl
        · exact hs.dones x hx
        · exact hd
      len:=by
        have:=c34 d hs.sorted;have:=hs.len;simp only;omega}
  have hd0:∀c:Int,0<=c->c<=2->a5u ⟨e.a7,c,0⟩=true:=by
    intro c c1 c2;unfold a5u m9;simp;omega
  have hd1:a5u ⟨e.a7,0,e.d6.c7⟩=true:=by
    unfold a5u m9;simp;omega
  unfold W0;cases a2a s.i0 e.d6
  · exact ⟨key _ _ hs.boxes (hd0 1 (by decide) (by decide)),show (0:Int)<=1 from by decide,show (1:Int)<=5 from by decide⟩
  · cases e.d6.Code==0
    · exact ⟨key _ _ hs.boxes (hd0 2 (by decide) (by decide)),show (0:Int)<=2 from by decide,show (2:Int)<=5 from by decide⟩
    · exact ⟨key _ _ (b2c hs.boxes hp.2.2.2.2) hd1,show (0:Int)<=0 from by decide,show (0:Int)<=5 from by decide⟩
theorem c6P{s:u0}{k:Nat}{e:l7}(hs:Inv s k)(hk:k<40)(he:s9 e=true):Inv (apply s e).1 (k+1)/\0<=(apply s e).2/\(apply s e).2<=5:=by
 have hat:s.At+1=((k+1:Nat):Int):=by rw [hs.at_];rfl
 have key:Inv ⟨s.At+1,s.i0,s.i5⟩ (k+1):={at_:=hat,le:=by omega,boxes:=hs.boxes,sorted:=hs.sorted,dones:=hs.dones,len:=Nat.le_succ_of_le hs.len}
 unfold apply;cases hn:e.i7
 ·have hfr:=d6j hs hk he hn;simp only [e0P];cases s.i5.find? fun d=>d.a7.b9==e.a7.b9 with
  | none=>exact hfr
  | some d=>
   simp only;cases d.a7.Seq==e.a7.Seq
   ·cases decide (d.a7.Seq>e.a7.Seq)
    ·exact hfr
    ·exact ⟨key,show (0:Int)<=4 from by decide,show (4:Int)<=5 from by decide⟩
   ·exact ⟨key,show (0:Int)<=3 from by decide,show (3:Int)<=5 from by decide⟩
 ·exact ⟨key,show (0:Int)<=5 from by decide,show (5:Int)<=5 from by decide⟩
def a0z:u0:=⟨0,d81 4 ⟨0,0⟩,[]⟩
theorem d5a:Inv a0z 0:={at_:=rfl,le:=by omega,boxes:=by decide,sorted:=.nil,dones:=by simp [a0z],len:=by simp [a0z]}
theorem c86:b0l=some a0z:=by
 unfold b0l a9p;rw [x6 (by decide)];rfl
def a8z(st:u0×List Int)(e:l7):u0×List Int:=((apply st.1 e).1,st.2++[(apply st.1 e).2])
def u5(l:List l7):u0×List Int:=l.foldl a8z (a0z,[])
theorem a5x{l:List l7}{k:Nat}(hk:k<l.length):u5 (l.take (k+1))=a8z (u5 (l.take k)) l[k]:=by
 unfold u5;rw [d9H hk,List.foldl_append];rfl
theorem a21{l:List l7}(hl:l.length<=40)(he:l.all s9=true):∀k,k<=l.length->Inv (u5 (l.take k)).1 k/\(u5 (l.take k)).2.length=k/\∀c∈(u5 (l.take k)).2,0<=c/\c<=5
 | 0,_=>by
  rw [d9S];exact ⟨d5a,rfl,by simp [u5]⟩
 | k+1,hk=>by
  obtain ⟨h1,h2,h3⟩:=a21 hl he k (by omega);have ha:=c6P h1 (by omega) (d86.1 he _ (d85 (show k<l.length by omega)));rw [a5x (show k<l.length by omega)];refine ⟨ha.1,by simp [a8z,h2],fun c hc => ?_⟩;unfold a8z at hc;rcases d80.1 hc with hc|hc
  ·exact h3 c hc
  ·rw [d84] at hc;rw [hc];exact ha.2
theorem a6R{l:List l7}(h:G6 l=true):l.length<=40/\l.all s9=true:=by
 unfold G6 at h;simpa using h
theorem c5N{l:List l7}(h:z0 88 a1O l)(hl:l.length<=40)(he:l.all s9=true):a89 l=some (u5 l):=by
  have hf:s6 l:=h.fits (by decide);unfold a89;rw [c86,d8Y];first
  | (have hloop:=a1u (body:=fun s:(List m7)×(List s7)×(List Int)×Int×Int=>W2 l s.1 s.2.1 s.2.2.1 s.2.2.2.1 s.2.2.2.2) (fun k=>((u5 (l.take k)).1.i0,(u5 (l.take k)).1.i5,(u5 (l.take k)).2,(k:Int),(u5 (l.take k)).1.At)) l.length (by
       intro k hk;obtain ⟨h1,h2,h3⟩:=a21 hl he k (by omega);have n1:((u5 (l.take k)).2.length+1)*8<=140737488355328:=by rw [h2];omega
       rw [a5x hk];unfold W2;rw [x7 _ k hk,s8 hk,J2 hf hk];simp only [e0O,d8Y];rw [b6W h1 (by omega) (d86.1 he _ (d85 hk)) (h.2 _ (d85 hk)),d8Y,x6 n1];rfl)
     rw [d9S,d9L] at hloop;rw [show ((0:Nat):Int)=0 from rfl] at hloop;rw [show p6 (fun s:(List m7)×(List s7)×(List Int)×Int×Int=>W2 l s.1 s.2.1 s.2.2.1 s.2.2.2.1 s.2.2.2.2) (a0z.i0,a0z.i5,([]:List Int),0,a0z.At)=_ from hloop,E9 (b:=((u5 l).1.i0,(u5 l).1.i5,(u5 l).2,(u5 l).1.At))]
     · rfl
     · unfold W2;rw [A4];rfl
     done)
  | (have hloop:=a1u (body:=fun s:u0×(List Int)×Int=>W2 l s.1 s.2.1 s.2.2) (fun k=>((u5 (l.take k)).1,(u5 (l.take k)).2,(k:Int))) l.length (by
       intro k hk;obtain ⟨h1,h2,h3⟩:=a21 hl he k (by omega);have n1:((u5 (l.take k)).2.length+1)*8<=140737488355328:=by rw [h2];omega
       rw [a5x hk];unfold W2;rw [x7 _ k hk,s8 hk,J2 hf hk];simp only [e0O,d8Y];rw [b6W h1 (by omega) (d86.1 he _ (d85 hk)) (h.2 _ (d85 hk)),d8Y,x6 n1];rfl)
     rw [d9S,d9L] at hloop;rw [show ((0:Nat):Int)=0 from rfl] at hloop;rw [show p6 (fun s:u0×(List Int)×Int=>W2 l s.1 s.2.1 s.2.2) (a0z,[],0)=_ from hloop,E9 (b:=u5 l)]
     · rfl
     · unfold W2;rw [A4];rfl
     done)
  | (have hloop:=a1u (body:=fun s:(List m7)×(List Int)×Int×Int×List s7=>W2 l s.1 s.2.1 s.2.2.1 s.2.2.2.1 s.2.2.2.2) (fun k=>((u5 (l.take k)).1.i0,(u5 (l.take k)).2,(k:Int),(u5 (l.take k)).1.At,(u5 (l.take k)).1.i5)) l.length (by
       intro k hk;obtain ⟨h1,h2,h3⟩:=a21 hl he k (by omega);have n1:((u5 (l.take k)).2.length+1)*8<=140737488355328:=by rw [h2];omega
       rw [a5x hk];unfold W2;rw [x7 _ k hk,s8 hk,J2 hf hk];simp only [e0O,d8Y];rw [show (⟨(u5 (l.take k)).1.At,(u5 (l.take k)).1.i0,(u5 (l.take k)).1.i5⟩:u0)=(u5 (l.take k)).1 from rfl,b6W h1 (by omega) (d86.1 he _ (d85 hk)) (h.2 _ (d85 hk)),d8Y,x6 n1];rfl)
     rw [d9S,d9L] at hloop;rw [show ((0:Nat):Int)=0 from rfl] at hloop;rw [show p6 (fun s:(List m7)×(List Int)×Int×Int×List s7=>W2 l s.1 s.2.1 s.2.2.1 s.2.2.2.1 s.2.2.2.2) (a0z.i0,[],0,a0z.At,a0z.i5)=_ from hloop,E9 (b:=((u5 l).1.i0,(u5 l).2,(u5 l).1.At,(u5 l).1.i5))]
     · rfl
     · unfold W2;rw [A4];rfl
     done)
def Rd(r:t5)(m:Nat):Prop:=(∀x∈r.b,a2G x)/\r.b.length<=2000/\0<=r.p/\r.p<=(m:Int)
theorem Rd.mono{r:t5}{m n:Nat}(h:Rd r m)(hn:m<=n):Rd r n:=⟨h.1,h.2.1,h.2.2.1,by have:=h.2.2.2;omega⟩
theorem d1b{x y:Int}(hx:0<=x)(hx2:x<4611686018427387904)(hy:0<=y)(hy2:y<4611686018427387904):0<=a3E .i64 x y/\a3E .i64 x y<4611686018427387904:=by
 obtain ⟨a,rfl⟩:∃a:Nat,x=(a:Int):=⟨x.toNat,by omega⟩
 obtain ⟨b,rfl⟩:∃b:Nat,y=(b:Int):=⟨y.toNat,by omega⟩
 have hxor:a ^^^ b<2 ^ 62:=Nat.xor_lt_two_pow (by omega) (by omega);have h:a3E .i64 (a:Int) (b:Int)=((a ^^^ b:Nat):Int):=by
  unfold a3E;rw [BitVec.toNat_xor];have e1:(BitVec.ofInt IntKind.i64.bits (a:Int)).toNat=a:=by
   show (BitVec.ofInt 64 (a:Int)).toNat=a
   rw [BitVec.toNat_ofInt];omega
  have e2:(BitVec.ofInt IntKind.i64.bits (b:Int)).toNat=b:=by
   show (BitVec.ofInt 64 (b:Int)).toNat=b
   rw [BitVec.toNat_ofInt];omega
  rw [e1,e2];exact IntWalk.i64_in _ ⟨by omega,by omega⟩
 rw [h];omega
theorem b5s{l:List Int}(h:∀x∈l,a2G x){i:Int}(h0:0<=i)(h1:i<l.length):∃y,idx l i=some y/\0<=y/\y<=255:=by
 have hlt:i.toNat<l.length:=by omega
 refine ⟨l[i.toNat],?_,h _ (d85 hlt)⟩;unfold idx;rw [if_pos h0,d8Z hlt]
theorem b1h{x n:Int}(hx:0<=x)(hn:1<=n):0<=d9x x n/\d9x x n<n:=by
 rw [e0n hx];exact ⟨Int.emod_nonneg _ (by omega),Int.emod_lt_of_pos _ (by omega)⟩
theorem c4S{x n:Int}(hx:0<=x)(hn:1<=n):0<=e0m x n/\e0m x n<=x:=by
 rw [Int.tdiv_eq_ediv_of_nonneg hx];exact ⟨Int.ediv_nonneg hx (by omega),Int.ediv_le_self _ hx⟩
theorem P9{r:t5}{m:Nat}(h:Rd r m)(hm:m<=1000000000)(n:Int):∃v r',L6 r n=some (v,r')/\Rd r' (m+1)/\0<=v/\(v<n\/v=0):=by
 obtain ⟨hb,hbl,hp0,hp1⟩:=h;have hw:l9 (r.p+1)=r.p+1:=B4 (by omega) (by omega);have hw2:l9 (r.p+1-1)=r.p:=by rw [B4 (by omega) (by omega)];omega
 have hr:Rd ⟨r.b,r.p+1⟩ (m+1):=⟨hb,hbl,by simp only;omega,by simp only;omega⟩
 unfold L6;simp only [hw,hw2];by_cases hn:n<1
 ·simp only [hn,decide_true,e0O];exact ⟨0,_,rfl,hr,by omega,.inr rfl⟩
 simp only [hn,decide_false,e0P];cases he:((r.b.length:Int)==0);case true=>exact ⟨0,_,rfl,hr,by omega,.inr rfl⟩
 have hpos:0<r.b.length:=by
  have:¬(r.b.length:Int)=0:=by simpa using he
  omega
 have hne:(r.b.length:Int)≠0:=by omega
 have hnn:n≠0:=by omega
 simp only [e0P];by_cases hlt:r.p<(r.b.length:Int)
 ·obtain ⟨y,h1,h2,h3⟩:=b5s hb hp0 hlt;simp only [hlt,decide_true,e0O,h1,d8Y,x6 hnn];rw [B4 (n:=y) (by omega) (by omega)];have:=b1h h2 (show 1<=n by omega);exact ⟨_,_,rfl,hr,this.1,.inl this.2⟩
 ·simp only [hlt,decide_false,e0P,x6 hne,x6 hnn];have t1:=b1h hp0 (show (1:Int)<=(r.b.length:Int) by omega);obtain ⟨y1,a1,a2,a3⟩:=b5s hb t1.1 t1.2;have w7:l9 (r.p*7)=r.p*7:=B4 (by omega) (by omega);have w73:l9 (r.p*7+3)=r.p*7+3:=B4 (by omega) (by omega);have t2:=b1h (show 0<=r.p*7+3 by omega) (show (1:Int)<=(r.b.length:Int) by omega);obtain ⟨y2,b1,b2,b3⟩:=b5s hb t2.1 t2.2;simp only [a1,w7,w73,b1,d8Y];have td:=c4S hp0 (show (1:Int)<=(r.b.length:Int) by omega);have c1:l9 (l9 y1*131)=y1*131:=by rw [B4 (n:=y1) (by omega) (by omega),B4 (by omega) (by omega)]
  have c2:l9 (l9 y2*1117)=y2*1117:=by rw [B4 (n:=y2) (by omega) (by omega),B4 (by omega) (by omega)]
  have c3:l9 (r.p*29)=r.p*29:=B4 (by omega) (by omega);have c4:l9 (l9 (e0m r.p (r.b.length:Int))*53)=e0m r.p (r.b.length:Int)*53:=by rw [B4 (n:=e0m r.p (r.b.length:Int)) (by omega) (by omega),B4 (by omega) (by omega)]
  simp only [c1,c2,c3,c4];generalize e0m r.p (r.b.length:Int)=q at td;rw [B4 (n:=y1*131+y2*1117) (by omega) (by omega),B4 (n:=y1*131+y2*1117+r.p*29) (by omega) (by omega),B4 (n:=y1*131+y2*1117+r.p*29+q*53) (by omega) (by omega)];have hA0:0<=y1*131+y2*1117+r.p*29+q*53:=by omega
  have hA1:y1*131+y2*1117+r.p*29+q*53<1000000000000:=by omega
  generalize y1*131+y2*1117+r.p*29+q*53=A at hA0 hA1;have t3:=c4S hA0 (show (1:Int)<=64 by omega);rw [B4 (n:=e0m A 64) (by omega) (by omega)];have hx:=d1b hA0 (by omega) t3.1 (by omega);have t4:=b1h hx.1 (show 1<=n by omega);exact ⟨_,_,rfl,hr,t4.1,.inl t4.2⟩
theorem a3f{r:t5}{m:Nat}(h:Rd r m)(hm:m<=1000000000)(l:List Int)(hl:0<l.length)(hl2:l.length<=1000):∃v r',a0Y r l=some (v,r')/\Rd r' (m+1)/\v∈l:=by
 obtain ⟨v,r',h1,h2,h3,h4⟩:=P9 h hm (l.length:Int);unfold a0Y;rw [h1,d8Y];have hlt:v.toNat<l.length:=by omega
 refine ⟨l[v.toNat],r',?_,h2,d85 hlt⟩;unfold idx;simp only [if_pos h3,d8Z hlt,d8Y]
theorem d3a{code:List Int}(h:∀x∈code,a2G x):∃r,b1a code=some r/\Rd r 0:=by
 unfold b1a b6C;by_cases hl:(code.length:Int)>2000
 ·simp only [hl,decide_true,e0O];rw [x6 ⟨by omega,by omega⟩];refine ⟨_,rfl,?_,?_,by simp,by simp⟩
  ·intro x hx;simp only [e0c] at hx;exact h x (d9C hx)
  ·simp only [d91];have:(2000:Int).toNat-0=2000:=by decide
   omega
 ·simp only [hl,decide_false,e0P];exact ⟨_,rfl,h,by simp only;omega,by simp,by simp⟩
def K1(i:m5):Bool:=
 bif i.a0==1 then m9 i.A 0 3&&(m9 i.B 0 3&&i.N==0) else
 bif i.a0==2 then m9 i.A 0 3&&(m9 i.B 0 3&&i.N==0) else
 bif i.a0==3 then m9 i.A 0 3&&(i.B==0&&m9 i.N (-1000000) 1000000) else
 bif i.a0==4 then m9 i.A 0 3&&(m9 i.B 0 3&&i.N==0) else
 bif i.a0==5 then m9 i.A 0 3&&(m9 i.B 0 3&&i.N==0) else
 bif i.a0==6 then m9 i.A 0 3&&(m9 i.B 0 3&&m9 i.N 1 10) else
 bif i.a0==7 then i.A==0&&(i.B==0&&i.N==0) else false
theorem d4b(n:Int):a0O n=some (m9 n 0 3):=by
 rw [<-G2];unfold a0O A0;have:(n<4)=(n<=3):=by apply propext;omega
 simp only [this]
theorem d3n(i:m5):b29 i=some (K1 i):=by
 unfold b29 K1;have h6:(bif decide (i.N>=1) then some (decide (i.N<=10)) else some false)=some (m9 i.N 1 10):=by
  unfold m9;by_cases h1:i.N>=1<;>by_cases h2:i.N<=10<;>simp [h1,h2]<;>omega
 simp only [d4b,b7N,b2t,d8Y,h6];cases i.a0==1<;>cases i.a0==2<;>cases i.a0==3<;>cases i.a0==4<;>cases i.a0==5<;>cases i.a0==6<;>cases i.a0==7<;>cases m9 i.A 0 3<;>cases m9 i.B 0 3<;>cases i.A==0<;>cases i.B==0<;>rfl
def z9(l:List m5):Bool:=decide (l.length<=10)&&l.all K1
theorem b3b{l:List m5}(h:s6 l):a55 l=some (z9 l):=by
 unfold a55 z9;rw [show (10:Int)=((10:Nat):Int) from rfl,b7k,K6 l h K1 false ()]
 ·cases decide (l.length<=10)
  ·rfl
  ·cases l.all K1<;>rfl
 ·intro k hk;unfold b0S;rw [x7 _ k hk,s8 hk];simp only [e0O,d8Y,d3n];cases K1 l[k]<;>rfl
 ·unfold b0S;rw [A4];rfl
theorem b9H{i:m5}(h:K1 i=true):(i.a0=1/\(0<=i.A/\i.A<=3)/\(0<=i.B/\i.B<=3))\/(i.a0=2/\(0<=i.A/\i.A<=3)/\(0<=i.B/\i.B<=3))\/(i.a0=3/\(0<=i.A/\i.A<=3)/\(-1000000<=i.N/\i.N<=1000000))\/
  (i.a0=4/\(0<=i.A/\i.A<=3)/\(0<=i.B/\i.B<=3))\/(i.a0=5/\(0<=i.A/\i.A<=3)/\(0<=i.B/\i.B<=3))\/(i.a0=6/\(0<=i.A/\i.A<=3)/\(0<=i.B/\i.B<=3)/\(1<=i.N/\i.N<=10))\/(i.a0=7/\i.A=0):=by
 unfold K1 m9 at h;by_cases h1:i.a0=1
 ·simp [h1] at h;exact .inl ⟨h1,h.1,h.2.1⟩
 by_cases h2:i.a0=2
 ·simp [h2] at h;exact .inr (.inl ⟨h2,h.1,h.2.1⟩)
 by_cases h3:i.a0=3
 ·simp [h3] at h;exact .inr (.inr (.inl ⟨h3,h.1,h.2.2⟩))
 by_cases h4:i.a0=4
 ·simp [h4] at h;exact .inr (.inr (.inr (.inl ⟨h4,h.1,h.2.1⟩)))
 by_cases h5:i.a0=5
 ·simp [h5] at h;exact .inr (.inr (.inr (.inr (.inl ⟨h5,h.1,h.2.1⟩))))
 by_cases h6:i.a0=6
 ·simp [h6] at h;exact .inr (.inr (.inr (.inr (.inr (.inl ⟨h6,h.1,h.2.1,h.2.2⟩)))))
 by_cases h7:i.a0=7
 ·simp [h7] at h;exact .inr (.inr (.inr (.inr (.inr (.inr ⟨h7,h.1⟩)))))
 ·have e1:(i.a0==1)=false:=by simpa using h1
  have e2:(i.a0==2)=false:=by simpa using h2
  have e3:(i.a0==3)=false:=by simpa using h3
  have e4:(i.a0==4)=false:=by simpa using h4
  have e5:(i.a0==5)=false:=by simpa using h5
  have e6:(i.a0==6)=false:=by simpa using h6
  have e7:(i.a0==7)=false:=by simpa using h7
  rw [e1,e2,e3,e4,e5,e6,e7] at h;cases h
def a2d(l:List p7):Bool:=(d87 l.length).all (Q3 l)
def a0q(l:List o7):Bool:=(d87 l.length).all (Q4 l)
def b4s(x:p7):Prop:=0<=x.g7/\x.g7<=3/\0<=x.i8/\x.i8<=1000000
end
end Go.Proofs.YtnafpblodcmpkaaGreat
