/- What the law leans on, part 4. -/
import Derived.Test.YtffneplcebhckaaGreatP3
import Derived.IntWalk
set_option linter.unusedVariables false
set_option linter.unusedSimpArgs false
set_option linter.unnecessarySimpa false
set_option linter.defProp false
namespace Go.Proofs.YtffneplcebhckaaGreat
open Go
open Option renaming bind_some->g0X,getD_some->g13,map_some->g2c
open List renaming getElem?_eq_getElem->g0Y,mem_append->g0Z,replicate->g00,getElem_mem->g01,mem_singleton->g03,all_eq_true->g05,getElem?_eq_some_iff->g06,length_append->g08,range->g09,mem_cons->g1a,eq_nil_of_length_eq_zero->g1c,append_assoc->g1d,mem_of_getElem?->g1e,append_nil->g1i,getElem?_append_right->g1j,getElem?_set_ne->g1k,length_take->g1l,mem_map->g1m,take_length->g1n,getElem?_append_left->g1o,drop_eq_getElem_cons->g1q,drop_eq_nil_of_le->g1r,getElem?_eq_none->g1s,take_succ_eq_append_getElem->g1u,take_of_length_le->g1A,getElem_of_mem->g1E,mem_or_eq_of_mem_set->g1F,length_cons->g1G,length_map->g1J,any_eq_false->g1K,mem_of_mem_take->g1M,take_zero->g1P,length_singleton->g1Q,pairwise_iff_getElem->g1R,findIdx?_eq_some_iff_getElem->g1T,map_append->g1W,mem_range->g1X,mem_of_mem_drop->g10,mem_take_iff_getElem->g11,mem_filter->g12,mem_cons_of_mem->g16,getElem?_set_self->g18,getElem?_cons_succ->g19,drop_zero->g2a,length_set->g2b,any_eq_true->g2e,pairwise_cons->g2f,length_nil->g2i,getElem?_set->g2q,find?_cons->g2w,all_eq_false->g2y,getElem?_of_mem->g2A,pairwise_append->g2B,findIdx?_eq_none_iff->g2C,length_drop->g2H,foldl_cons->g2L,set_getElem_self->g2S,any_cons->g2X,mem_of_find?_eq_some->g20,find?_eq_none->g21,foldl_nil->g23
open Bool renaming and_eq_true->g02,not_true->g04,true_and->g1h,not_false->g1y,not_eq_true'->g1D,false_or->g1I,false_eq_true->g2d,and_true->g2g,eq_iff_iff->g2j,and_assoc->g2G,not_eq_true->g2W,not_not->g22,false_and->g24
open Nat renaming le_refl->g07,mul_le_mul_right->g1x,le_trans->g1C,zero_add->g1U,succ_mul->g15
open Int renaming le_refl->g1g,toNat_natCast->g1p,tmod->g1w,tmod_eq_emod_of_nonneg->g2k,tdiv->g2V
open Option.some renaming inj->g1Y
open Classical renaming byContradiction->g2Z
open Option renaming some->U,none->Z
open Bool renaming false->W,true->Y
open List renaming length->O
noncomputable section
def b9e(a:u7)(m:m9):Option u7:=
 (bif(a.n.d6 != 3)then U a else bif(m.b5 != a.n.b5)then U a else bif(m.i6 != (O a.n.a9:Int))then U a else(idx a.n.b8 m.d7).bind λy=>(b4K (a.n.b8.set m.d7.toNat Y)).bind λb5X=>bif decide (b5X>=2)then(a4c (u7.mk (m4.mk a.n.Id a.n.Acc a.n.a9 a.n.Seq a.n.d6 a.n.b5 a.n.d7 a.n.j5 a.n.g9 (a.n.b8.set m.d7.toNat Y) a.n.j6 a.n.j8 a.n.d9 a.n.i5) a.out a.told) (m9.mk 5 0 0 0 m.i6 a.n.g9 [])).bind λall=>(b5L all all.n.g9).bind λa9I=>U a9I else U (u7.mk (m4.mk a.n.Id a.n.Acc a.n.a9 a.n.Seq a.n.d6 a.n.b5 a.n.d7 a.n.j5 a.n.g9 (a.n.b8.set m.d7.toNat Y) a.n.j6 a.n.j8 a.n.d9 a.n.i5) a.out a.told))
def e5p{a m}:OK e0h [.optr 179 (S4 a),.agg (x7 m)] (b9e a m):=
 t9 _ λr h=>t5<|l9 6 h (λh=>G3 a<|fE h) (λh=>l9 16 h (λh=>G3 a<|fE h) (λh=>l9 26 h (λh=>G3 a<|fE h) (λh=>rg<|D6 h λy hy h=>E2 hy<|W3 4 1 eB 8 [] Y hy<|rg<|X9 a47 d52 5 1 h λb5X h=>om ((O a.n.b8)=(a.n.b8.set m.d7.toNat Y).length) (by simp)<|l9 6 h (λh=>rg<|n9 a2R a7I 9 h λall h=>G6 a.n.a9 a.n.d7<|om ((O a.n.b8)=(a.n.b8.set m.d7.toNat Y).length) (by simp)<|G6 a.out a.told<|rg<|n9 a32 d2u 6 h λa9I h=>G3 all<|G3 a9I<|fE h) (λh=>G6 a.n.a9 a.n.d7<|om ((O a.n.b8)=(a.n.b8.set m.d7.toNat Y).length) (by simp)<|G6 a.out a.told<|fE h))))
def d4K:FS (u7):=⟨166,Tryz.f166,[],[U (0,.ptr N1 S6),Z],[.ptr N1 S6,.val E5 []],λ_=>.tup [],λr=>[U (.optr 179 (S4 r)),Z],Tryz.func166⟩
def b7G(a:u7)(m:m9):Option u7:=
 (bif decide (m.i6<(O a.n.a9:Int))then U a else bif decide (m.i6>(O a.n.a9:Int))then(a5C a m.d7 (m9.mk 8 0 0 0 (O a.n.a9:Int) (p9.mk W (u0.mk 0 0) (s9.mk [] [] 0 0)) [])).bind λa1m=>U a1m else(b5L a m.i9).bind λa9I=>U a9I)
def e5D{a m}:OK d4K [.optr 179 (S4 a),.agg (x7 m)] (b7G a m):=
 t9 _ λr h=>t5<|l9 9 h (λh=>G3 a<|fE h) (λh=>rg<|l9 9 h (λh=>rg<|n9 a8C b0x 10 h λa1m h=>G3 a<|G3 a1m<|fE h) (λh=>rg<|n9 a32 d2u 3 h λa9I h=>G3 a<|G3 a9I<|fE h))
def d5b:FS (Bool×u7):=⟨203,Tryz.f203,[.val [] []],[U (0,.ptr N1 om7),Z],[.ptr N1 om7,.val [] []],λr=>.b r.1,λr=>[U (.optr 179 (b93 r.2)),Z],Tryz.func203⟩
def b7r(a:u7)(q:u0):Option (Bool×u7):=
 ((a8m a.n.a9 q).bind λfirst=>U (decide (first>=0),a))
def f8r{a q}:OK d5b [.optr 179 (b93 a),.agg (N8 q)] (b7r a q):=
 t9 _ λr h=>t5<|X9 a3h b4x 6 2 h λfirst h=>z0 a.n.a9<|O6 a.n<|G6 a.out a.told<|fE h
def d0T:FS (u7):=⟨168,Tryz.f168,[],[U (0,.ptr N1 S6),Z],[.ptr N1 om7,.val E5 []],λ_=>.tup [],λr=>[U (.optr 179 (S4 r)),Z],Tryz.func168⟩
def b9x(a:u7)(m:m9):Option u7:=
 (bif(a.n.d6==0)then U a else bif decide ((O a.n.i5:Int)>=4)then U a else(b7r a m.i9.b6).bind λv_=>bif v_.1 then U v_.2 else z5 (((O v_.2.n.i5)+1)*88<=140737488355328) (((a7i (u7.mk (m4.mk v_.2.n.Id v_.2.n.Acc v_.2.n.a9 v_.2.n.Seq v_.2.n.d6 v_.2.n.b5 v_.2.n.d7 v_.2.n.j5 v_.2.n.g9 v_.2.n.b8 v_.2.n.j6 v_.2.n.j8 v_.2.n.d9 (v_.2.n.i5++[m.i9])) v_.2.out v_.2.told)).bind λa1f=>U a1f)))
def f4N{a m}:OK d0T [.optr 179 (b93 a),.agg (x7 m)] (b9x a m):=
 t9 _ λr h=>t5<|l9 6 h (λh=>O6 a.n<|G6 a.out a.told<|fE h) (λh=>l9 15 h (λh=>O6 a.n<|G6 a.out a.told<|fE h) (λh=>n9 d5b f8r 20 h λv_ h=>O6 a.n<|G6 a.out a.told<|l9 21 h (λh=>O6 v_.2.n<|G6 v_.2.out v_.2.told<|fE h) (λh=>rg<|tk 8 Q2<|z9 h λe1 h=>J4 9 33 50 7 88 x9 v_.2.n.i5 m.i9 e1<|I2 m.i9<|rg<|n9 b23 b5G 1 h λa1f h=>L0 v_.2.n.a9 v_.2.n.d7 v_.2.n.b8 (v_.2.n.i5++[m.i9])<|G6 v_.2.out v_.2.told<|G3 a1f<|fE h)))
def a3K:FS (m4×(E m9)×E s8):=⟨111,Tryz.f111,[.val D1 [],.val [U 13] [],.val [U 5] []],[Z,Z],[.val D1 [],.val E5 []],λr=>.tup [.agg (B3 r.1),n7 13 x7 r.2.1,n7 5 B6 r.2.2],λ_=>[Z,Z],Tryz.func111⟩
def d5j:u7->KS:=λa=>⟨a3K.k 7 [W,W,Y],bs 4 (.ptr 1 0 0::bs 2 (.ptr 2 0 0::bs 108 [])),[U [],U jk,U [.var 179 (b4b a)]]++a4T a⟩
def b7c(a:u7):Option (m4×(E m9)×E s8):=
 ((a3t a).bind λa50=>U (a50.1,a50.2.1,a50.2.2.1))
def e5h(r):NF a3K r d5j (λs=>b7c s):=λa h=>PK<|rg<|n9 a5A a6A 1 h λa50 h=>G3 a<|fE h
def d8q:u7->KS:=λa2=>⟨a3K.k 15 [W,W,W,W,W,W,W,W,W,Y,W],bs 4 (.ptr 1 0 0::bs 2 (.ptr 2 0 0::bs 108 [])),[U [],U jk,U [.var 179 (b4b a2)]]++a4T a2⟩
def d7O(a2:u7):Option (r9 (m4×(E m9)×E s8) u7):=
 U (r9.brk a2)
def e1J(r){x1}(hc1:JC (λj=>FK cx a3K.X (a3K.R r) (a3K.Θ r) (d5j j)) r x1):NG a3K r d8q (λs=>d7O s) x1:=λa2 h=>PK<|(u6 h hc1 λhI=>sk [] [4,7] [(1,0),(2,0),(3,0),(4,0),(5,0),(6,0),(7,0)] hI)
def f9p(m:m9):(Int×u7)->KS:=λ(i,a1)=>⟨a3K.k 14 [W,W,W,W,W,W,W,W,W,Y],bs 3 (.ptr 1 0 0::(.ptr 2 0 0::bs 2 (.ptr 3 0 0::(vi i::bs 107 [])))),[U [],U [.var 70 (a5Z m)],U jk,U [.var 179 (f6d a1)]]++a4T a1⟩
def a7g(m:m9)(i:Int)(a1:u7):Option (n6 (m4×(E m9)×E s8) (Int×u7) u7):=
 (bif decide (i<(O a1.n.a9:Int))then(idx a1.n.a9 i).bind λentry=>(a5C a1 m.d7 (m9.mk 5 0 0 0 i entry [])).bind λa1m=>U (n6.nxt (s6 (i+1),a1m))else U (n6.brk a1))
def f6J(m):LQ a3K d8q (f9p m) (λs=>a7g m s.1 s.2):=λlc (i,a1) h=>PK<|rg<|l9 7 h (λh=>rg<|D6 h λentry K6 h=>E2 K6<|M4 x9 11 K6<|n9 a8C b0x 13 h λa1m h=>G3 a1<|rg<|(lc.nx h λhI=>sk [] [3,4,7,8] [(1,0),(2,0),(3,0),(30,0),(30,1),(30,2),(30,3),(30,4)] hI)) (λh=>lc.bk h λhI=>sk [] [4,7] [(2,0),(3,0),(4,0),(5,0),(6,0),(7,0),(8,0)] hI)
def c1I(n:m4)(m:m9):Option (m4×(E m9)×E s8):=
 ((a43 n).bind λH4=>bif(!H4)then U ((m4.mk 0 (B4.mk 0 []) [] 0 0 0 [] [] (p9.mk W (u0.mk 0 0) (s9.mk [] [] 0 0)) [] W [] (p9.mk W (u0.mk 0 0) (s9.mk [] [] 0 0)) []),[],[])else(b0r n).bind λbegin=>(b3C m).bind λW4=>bif(!W4)then(a3t begin).bind λa0U=>U (a0U.1,a0U.2.1,a0U.2.2.1)else bif(m.To != n.Id)then(a3t begin).bind λa6C=>U (a6C.1,a6C.2.1,a6C.2.2.1)else((bif(m.b7==1)then(c1U begin m).bind λd5L=>U (r9.brk d5L)else bif(m.b7==2)then(c1m begin m).bind λe0t=>U (r9.brk e0t)else bif(m.b7==3)then(c1t begin m).bind λd3u=>U (r9.brk d3u)else bif(m.b7==4)then(b9e begin m).bind λd1q=>U (r9.brk d1q)else bif(m.b7==5)then(b7G begin m).bind λd5y=>U (r9.brk d5y)else bif(m.b7==6)then(b04 begin.n.Acc m.b5).bind λa0y=>(b1h (u7.mk (m4.mk begin.n.Id a0y.1 begin.n.a9 begin.n.Seq begin.n.d6 begin.n.b5 begin.n.d7 begin.n.j5 begin.n.g9 begin.n.b8 begin.n.j6 begin.n.j8 begin.n.d9 begin.n.i5) begin.out begin.told) m.b5).bind λyield=>U (r9.brk yield)else bif(m.b7==7)then(b9x begin m).bind λasked=>U (r9.brk asked)else bif(m.b7==8)then(u5 (λs:Int×u7=>a7g m s.1 s.2) (m.i6,begin)).bind λx=>x.go (λr=>U (r9.ret r)) λs=>d7O s else U (r9.brk begin)):Option (r9 (m4×(E m9)×E s8) u7)).bind λx=>x.go U λj=>b7c j)
set_option maxRecDepth 20000 in
def e8R{n m}:OK a3K [.agg (B3 n),.agg (x7 m)] (c1I n m):=
 t9 _ λr h=>t5<|n9 a1W b0u 1 h λH4 h=>l9 2 h (λh=>rg<|fE h) (λh=>rg<|n9 b3w c00 1 h λbegin h=>rg<|n9 c7W d9V 1 h λW4 h=>l9 3 h (λh=>rg<|n9 a5A a6A 1 h λa0U h=>O6 begin.n<|G6 begin.out begin.told<|fE h) (λh=>l9 9 h (λh=>rg<|n9 a5A a6A 1 h λa6C h=>O6 begin.n<|G6 begin.out begin.told<|fE h) (λh=>rg<|D5 h (e5h r) λx1 h hc1=>rg<|l9 1 h (λh=>rg<|n9 b6V f0X 2 h λd5L h=>O6 begin.n<|G6 begin.out begin.told<|(u6 h hc1 λhI=>sk [] [4,7] [(3,0),(10,0),(28,0),(28,1),(28,2),(28,3),(28,4)] hI)) (λh=>rg<|l9 1 h (λh=>rg<|n9 d1Y e6N 2 h λe0t h=>O6 begin.n<|G6 begin.out begin.told<|(u6 h hc1 λhI=>sk [] [4,7] [(3,0),(10,0),(30,0),(30,1),(30,2),(30,3),(30,4)] hI)) (λh=>rg<|l9 1 h (λh=>rg<|n9 d4f e7G 2 h λd3u h=>O6 begin.n<|G6 begin.out begin.told<|(u6 h hc1 λhI=>sk [] [4,7] [(3,0),(10,0),(32,0),(32,1),(32,2),(32,3),(32,4)] hI)) (λh=>rg<|l9 1 h (λh=>rg<|n9 e0h e5p 2 h λd1q h=>O6 begin.n<|G6 begin.out begin.told<|(u6 h hc1 λhI=>sk [] [4,7] [(3,0),(10,0),(34,0),(34,1),(34,2),(34,3),(34,4)] hI)) (λh=>rg<|l9 1 h (λh=>rg<|n9 d4K e5D 2 h λd5y h=>O6 begin.n<|G6 begin.out begin.told<|(u6 h hc1 λhI=>sk [] [4,7] [(3,0),(10,0),(36,0),(36,1),(36,2),(36,3),(36,4)] hI)) (λh=>rg<|l9 1 h (λh=>rg<|n9 b9c c8f 8 h λa0y h=>rg<|n9 b7C c4P 3 h λyield h=>O6 begin.n<|G6 begin.out begin.told<|(u6 h hc1 λhI=>sk [] [4,7] [(3,0),(10,0),(55,0),(55,1),(55,2),(55,3),(55,4)] hI)) (λh=>rg<|l9 1 h (λh=>rg<|n9 d0T f4N 2 h λasked h=>O6 begin.n<|G6 begin.out begin.told<|(u6 h hc1 λhI=>sk [] [4,7] [(3,0),(10,0),(40,0),(40,1),(40,2),(40,3),(40,4)] hI)) (λh=>rg<|l9 1 h (λh=>rg<|lp (f6J m) h (λ_ h=>a3K.rt (f1v h hc1)) (e1J r hc1) λhI=>z0 begin.n.i5<|sk [.frz (.cell 10 0 26) (Z)] [3,4,7,8] [(2,0),(3,0),(10,0),(10,1),(10,2),(10,3),(10,5),(10,6)] hI) (λh=>u6 h hc1 λhI=>z0 begin.n.i5<|sk [.frz (.cell 10 0 26) (Z)] [4,7] [(3,0),(10,0),(10,1),(10,2),(10,3),(10,5),(10,6)] hI)))))))))))
def b2G:FS (m6):=⟨53,Tryz.f53,[.val F4 om2],[Z,Z],[.val F4 om2,.val [Z,Z,U 4] []],λr=>.agg (a9x r),λ_=>[Z,Z],Tryz.func53⟩
def f2r:m6->KS:=λw1=>⟨b2G.k 7 [Y],bs 2 (.ptr 1 0 0::bs 1 (.ptr 6 0 0::bs 58 [])),[U [.dead,.dead,.dead,.dead],U [.var 28 [.own 2 0 27 0 (O w1.b9),.own 3 0 13 0 (O w1.c9),.own 4 0 3 0 (O w1.i4),.own 5 0 5 0 (O w1.Told)]],U [s5 59 27 B3 w1.b9],U [s5 70 13 x7 w1.c9],U [s5 72 3 C9 w1.i4],U [s5 66 5 B6 w1.Told],U jq]⟩
def d4Z(w1:m6):Option m6:=
 U w1
def e45(r):NF b2G r f2r (λs=>d4Z s):=λw1 h=>PK<|rg<|D4 w1<|fE h
def a8O(w:m6)(e_:v6):Option m6:=
 ((idx w.c9 e_.A).bind λmsg=>((bif(e_.b7==2)then(b6y w.c9 e_.A).bind λoff=>(idx w.b9 msg.To).bind λnode=>(c1I node msg).bind λc0V=>(a6I (m6.mk w.b9 off w.i4 w.Told) c0V.1 c0V.2.1 c0V.2.2).bind λa4H=>U (r9.brk a4H)else bif(e_.b7==3)then(b6y w.c9 e_.A).bind λd0h=>U (r9.brk (m6.mk w.b9 d0h w.i4 w.Told))else bif(e_.b7==4)then(idx w.b9 msg.To).bind λnode1=>(a6I w node1 [msg] []).bind λb4k=>U (r9.brk b4k)else U (r9.brk w)):Option (r9 m6 m6)).bind λx=>x.go U λj=>d4Z j)
def c8F{w e_}:OK b2G [.agg (a9x w),.agg (L2 e_)] (a8O w e_):=
 t9 _ λr h=>t5<|D6 h λmsg hmsg h=>E2 hmsg<|M4 x7 5 hmsg<|rg<|D5 h (e45 r) λx1 h hc1=>rg<|l9 1 h (λh=>rg<|n9 c3N e0p 4 h λoff h=>z0 w.c9<|rg<|D6 h λnode hnode h=>E2 hnode<|M4 B3 5 hnode<|n9 a3K e8R 7 h λc0V h=>rg<|n9 a0h b1j 4 h λa4H h=>L0 w.b9 off w.i4 w.Told<|(u6 h hc1 λhI=>sk [.kill 0 1] [2,4] [(1,0),(43,0),(43,1),(43,2),(43,3),(3,0)] hI)) (λh=>rg<|l9 1 h (λh=>rg<|n9 c3N e0p 4 h λd0h h=>z0 w.c9<|(u6 h hc1 λhI=>sk [.kill 0 1] [2,4] [(1,0),(0,0),(22,0),(0,2),(0,3),(3,0)] hI)) (λh=>rg<|l9 1 h (λh=>rg<|D6 h λnode1 a2P h=>E2 a2P<|M4 B3 6 a2P<|tk 8 E5<|n9 a0h b1j 9 h λb4k h=>D4 w<|I2 msg<|(u6 h hc1 λhI=>sk [] [2,4] JZ hI)) (λh=>u6 h hc1 λhI=>sk [] [2,4] Wk hI)))
def a2p:FS (m6):=⟨19,Tryz.f19,[.val F4 []],[Z,Z],[.val F4 [],.val [Z,Z,U 4] []],λr=>.agg (N0 r),λ_=>[Z,Z],Tryz.func19⟩
def f2l:m6->KS:=λout=>⟨a2p.k 6 [Y,Y,Y],bs 4 (.ptr 1 0 0::(.ptr 2 0 0::bs 35 [])),[U [],U jq,U [.var 28 [.own 3 0 27 0 (O out.b9),.own 4 0 13 0 (O out.c9),.own 5 0 3 0 (O out.i4),.own 6 0 5 0 (O out.Told)]],U [s5 59 27 B3 out.b9],U [s5 70 13 x7 out.c9],U [s5 72 3 C9 out.i4],U [s5 66 5 B6 out.Told]]⟩
def c7n(out:m6):Option m6:=
 ((a2A out).bind λc30=>U c30)
def f8V(r):NF a2p r f2l (λs=>c7n s):=λout h=>PK<|rg<|n9 a0C a7m 1 h λc30 h=>D4 out<|D4 c30<|fE h
def f0j:m6->KS:=λout1=>⟨a2p.k 7 [W,Y,Y,Y],bs 4 (.ptr 1 0 0::(.ptr 2 0 0::bs 35 [])),[U [],U jq,U [.var 28 [.own 3 0 27 0 (O out1.b9),.own 4 0 13 0 (O out1.c9),.own 5 0 3 0 (O out1.i4),.own 6 0 5 0 (O out1.Told)]],U [s5 59 27 B3 out1.b9],U [s5 70 13 x7 out1.c9],U [s5 72 3 C9 out1.i4],U [s5 66 5 B6 out1.Told]]⟩
def c28(out1:m6):Option m6:=
 ((a2A out1).bind λc5U=>U c5U)
def e6E(r):NF a2p r f0j (λs=>c28 s):=λout1 h=>PK<|rg<|n9 a0C a7m 1 h λc5U h=>D4 out1<|D4 c5U<|fE h
def e66:m6->KS:=λout2=>⟨a2p.k 8 [W,W,Y,Y,Y],bs 4 (.ptr 1 0 0::(.ptr 2 0 0::bs 35 [])),[U [],U jq,U [.var 28 [.own 3 0 27 0 (O out2.b9),.own 4 0 13 0 (O out2.c9),.own 5 0 3 0 (O out2.i4),.own 6 0 5 0 (O out2.Told)]],U [s5 59 27 B3 out2.b9],U [s5 70 13 x7 out2.c9],U [s5 72 3 C9 out2.i4],U [s5 66 5 B6 out2.Told]]⟩
def c52(out2:m6):Option m6:=
 ((a2A out2).bind λc4Y=>U c4Y)
def e73(r):NF a2p r e66 (λs=>c52 s):=λout2 h=>PK<|rg<|n9 a0C a7m 1 h λc4Y h=>D4 out2<|D4 c4Y<|fE h
def f9W:m6->KS:=λout3=>⟨a2p.k 9 [W,W,W,Y,Y],bs 4 (.ptr 1 0 0::(.ptr 2 0 0::bs 35 [])),[U [],U jq,U [.var 28 [.own 3 0 27 0 (O out3.b9),.own 4 0 13 0 (O out3.c9),.own 5 0 3 0 (O out3.i4),.own 6 0 5 0 (O out3.Told)]],U [s5 59 27 B3 out3.b9],U [s5 70 13 x7 out3.c9],U [s5 72 3 C9 out3.i4],U [s5 66 5 B6 out3.Told]]⟩
def c2w(out3:m6):Option m6:=
 ((a2A out3).bind λc6v=>U c6v)
def f3T(r):NF a2p r f9W (λs=>c2w s):=λout3 h=>PK<|rg<|n9 a0C a7m 1 h λc6v h=>D4 out3<|D4 c6v<|fE h
def a7X(w:m6)(e_:v6):Option m6:=
 ((a2A w).bind λJ5=>bif(e_.b7==1)then(((H2 e_.A 0 (s6 ((O J5.b9:Int)-1))).bind λin_=>bif in_ then(a7D J5 e_).bind λd2O=>U (r9.brk d2O)else U (r9.brk J5)):Option (r9 m6 m6)).bind λx=>x.go U λj=>c7n j else bif(e_.b7==5)then(((H2 e_.A 0 (s6 ((O J5.b9:Int)-1))).bind λin_1=>bif in_1 then(a7D J5 e_).bind λd4u=>U (r9.brk d4u)else U (r9.brk J5)):Option (r9 m6 m6)).bind λx=>x.go U λj=>c28 j else bif(e_.b7==6)then(((H2 e_.A 0 (s6 ((O J5.b9:Int)-1))).bind λin_2=>bif in_2 then(a7D J5 e_).bind λd5Y=>U (r9.brk d5Y)else U (r9.brk J5)):Option (r9 m6 m6)).bind λx=>x.go U λj=>c52 j else((bif(e_.b7==7)then(H2 e_.A 0 (s6 ((O J5.b9:Int)-1))).bind λa1H=>bif a1H then(a7D J5 e_).bind λd02=>U (r9.brk d02)else U (r9.brk J5)else bif(e_.b7==2)then(H2 e_.A 0 (s6 ((O J5.c9:Int)-1))).bind λa6R=>bif a6R then(a8O J5 e_).bind λd6C=>U (r9.brk d6C)else U (r9.brk J5)else bif(e_.b7==3)then(H2 e_.A 0 (s6 ((O J5.c9:Int)-1))).bind λb1X=>bif b1X then(a8O J5 e_).bind λd0Q=>U (r9.brk d0Q)else U (r9.brk J5)else bif(e_.b7==4)then(H2 e_.A 0 (s6 ((O J5.c9:Int)-1))).bind λc4u=>bif c4u then(a8O J5 e_).bind λd8M=>U (r9.brk d8M)else U (r9.brk J5)else U (r9.brk J5)):Option (r9 m6 m6)).bind λx=>x.go U λj=>c2w j)
set_option maxRecDepth 20000 in
def b3j{w e_}:OK a2p [.agg (N0 w),.agg (L2 e_)] (a7X w e_):=
 t9 _ λr h=>t5<|n9 a0C a7m 1 h λJ5 h=>t5<|l9 1 h (λh=>D5 h (f8V r) λx1 h hc1=>rg<|cbE H0.t H9 h λin_ d69 h=>cdT (H0.t 6 W in_) h (λ_ h=>ob d69<|rg<|n9 a8S c0v 2 h λd2O h=>D4 J5<|(u6 h hc1 λhI=>sk [] [4,5] [(3,0),(6,0),(21,0),(21,1),(21,2),(21,3)] hI)) (λ_ h=>ob d69<|(u6 h hc1 λhI=>sk [] [4,5] jX hI))) (λh=>rg<|l9 1 h (λh=>D5 h (e6E r) λx1 h hc1=>rg<|cbE H0.t H9 h λin_1 d1s h=>cdT (H0.t 6 W in_1) h (λ_ h=>ob d1s<|rg<|n9 a8S c0v 2 h λd4u h=>D4 J5<|(u6 h hc1 λhI=>sk [] [4,5] [(3,0),(6,0),(23,0),(23,1),(23,2),(23,3)] hI)) (λ_ h=>ob d1s<|(u6 h hc1 λhI=>sk [] [4,5] jX hI))) (λh=>rg<|l9 1 h (λh=>D5 h (e73 r) λx1 h hc1=>rg<|cbE H0.t H9 h λin_2 d9r h=>cdT (H0.t 6 W in_2) h (λ_ h=>ob d9r<|rg<|n9 a8S c0v 2 h λd5Y h=>D4 J5<|(u6 h hc1 λhI=>sk [] [4,5] [(3,0),(6,0),(25,0),(25,1),(25,2),(25,3)] hI)) (λ_ h=>ob d9r<|(u6 h hc1 λhI=>sk [] [4,5] jX hI))) (λh=>D5 h (f3T r) λx1 h hc1=>rg<|l9 1 h (λh=>rg<|cbE H0.t H9 h λa1H d5c h=>cdT (H0.t 6 W a1H) h (λ_ h=>ob d5c<|rg<|n9 a8S c0v 2 h λd02 h=>D4 J5<|(u6 h hc1 λhI=>sk [] [4,5] [(3,0),(6,0),(27,0),(27,1),(27,2),(27,3)] hI)) (λ_ h=>ob d5c<|(u6 h hc1 λhI=>sk [] [4,5] jX hI))) (λh=>rg<|l9 1 h (λh=>rg<|cbE H0.t H9 h λa6R d7A h=>cdT (H0.t 6 W a6R) h (λ_ h=>ob d7A<|rg<|n9 b2G c8F 2 h λd6C h=>D4 J5<|(u6 h hc1 λhI=>sk [] [4,5] [(3,0),(6,0),(29,0),(29,1),(29,2),(29,3)] hI)) (λ_ h=>ob d7A<|(u6 h hc1 λhI=>sk [] [4,5] jX hI))) (λh=>rg<|l9 1 h (λh=>rg<|cbE H0.t H9 h λb1X d06 h=>cdT (H0.t 6 W b1X) h (λ_ h=>ob d06<|rg<|n9 b2G c8F 2 h λd0Q h=>D4 J5<|(u6 h hc1 λhI=>sk [] [4,5] [(3,0),(6,0),(31,0),(31,1),(31,2),(31,3)] hI)) (λ_ h=>ob d06<|(u6 h hc1 λhI=>sk [] [4,5] jX hI))) (λh=>rg<|l9 1 h (λh=>rg<|cbE H0.t H9 h λc4u d6u h=>cdT (H0.t 6 W c4u) h (λ_ h=>ob d6u<|rg<|n9 b2G c8F 2 h λd8M h=>D4 J5<|(u6 h hc1 λhI=>sk [] [4,5] [(3,0),(6,0),(33,0),(33,1),(33,2),(33,3)] hI)) (λ_ h=>ob d6u<|(u6 h hc1 λhI=>sk [] [4,5] jX hI))) (λh=>u6 h hc1 λhI=>sk [] [4,5] jX hI)))))))
def a87:FS (m6):=⟨4,Tryz.f4,[.val F4 []],[Z,Z],[.val F4 [],.val [U 3] []],λr=>.agg (N0 r),λ_=>[Z,Z],Tryz.func4⟩
def d80:m6->KS:=λout1=>⟨a87.k 5 [W,W],bs 4 (.ptr 1 0 0::(.ptr 2 0 0::bs 24 [])),[U [],U jq,U [.var 28 (F9 out1)]]⟩
def d3D(out1:m6):Option m6:=
 U out1
def e0K(r):NF a87 r d80 (λs=>d3D s):=λout1 h=>PK<|rg<|fE h
def e7Z(events:E v6):(Int×m6)->KS:=λ(v21,out)=>⟨a87.k 4 [W],bs 4 (.ptr 1 0 0::(.ptr 2 0 0::bs 13 (n7 3 L2 events::(vi (O events:Int)::(vi v21::bs 8 []))))),[U [],U jq,U [.var 28 (F9 out)]]⟩
def a8a(events:E v6)(v21:Int)(out:m6):Option (n6 m6 (Int×m6) m6):=
 (bif decide (v21<(O events:Int))then(idx events v21).bind λb33=>(a7X out b33).bind λa4n=>U (n6.nxt (s6 (v21+1),a4n))else U (n6.brk out))
def e9I(events):LQ a87 d80 (e7Z events) (λs=>a8a events s.1 s.2):=λlc (v21,out) h=>PK<|rg<|l9 0 h (λh=>rg<|A3 L2 0 h λb33 e70 h=>rg<|n9 a2p b3j 2 h λa4n h=>rg<|(lc.nx h λhI=>sk [] [4,5,19,20,21] jy hI)) (λh=>lc.bk h λhI=>sk [] [4,5] jy hI)
def b0U(w:m6)(events:E v6):Option m6:=
 ((a1X w).bind λC8=>bif(!C8)then U (m6.mk [] [] [] [])else bif decide ((O events:Int)>400)then U (m6.mk [] [] [] [])else(a2A w).bind λJ5=>(u5 (λs:Int×m6=>a8a events s.1 s.2) (0,J5)).bind λx=>x.go (λr=>U r) λs=>d3D s)
def f9c{w events}:OK a87 [.agg (N0 w),n7 3 L2 events] (b0U w events):=
 t9 _ λr h=>t5<|n9 P3 a3Z 1 h λC8 h=>l9 3 h (λh=>rg<|fE h) (λh=>l9 7 h (λh=>rg<|fE h) (λh=>rg<|n9 a0C a7m 1 h λJ5 h=>rg<|lp (e9I events) h (λ_ h=>a87.rt h) (e0K r) λhI=>D4 J5<|sk [.frz (.cell 13 0 0) (Z),.frz (.cell 13 0 1) (Z),.frz (.cell 13 0 2) (Z),.frz (.cell 13 0 3) (Z)] [4,5,19,20,21] [(2,0),(13,0)] hI))
def a5R:FS (m6):=⟨8,Tryz.f8,[.val F4 Z2],[Z,Z],[.val F4 [],.val [U 3] []],λr=>.agg (Y2 r),λ_=>[Z,Z],Tryz.func8⟩
def d3p:((E m4)×(E m9)×(E B2)×E s8)->KS:=λ(Nodes1,Net1,Asked1,Told1)=>⟨a5R.k 5 [W,W],bs 2 (.ptr 1 0 0::bs 1 (.ptr 6 0 0::bs 25 [])),[U [],U [.var 28 [.own 2 0 27 0 (O Nodes1),.own 3 0 13 0 (O Net1),.own 4 0 3 0 (O Asked1),.own 5 0 5 0 (O Told1)]],U [F7 59 27 B8 Nodes1],U [s5 70 13 x7 Net1],U [s5 72 3 C9 Asked1],U [s5 66 5 B6 Told1],U jq]⟩
def d1A(Nodes1:E m4)(Net1:E m9)(Asked1:E B2)(Told1:E s8):Option m6:=
 U (m6.mk Nodes1 Net1 Asked1 Told1)
def f3i(r):NF a5R r d3p (λs=>d1A s.1 s.2.1 s.2.2.1 s.2.2.2):=λ(Nodes1,Net1,Asked1,Told1) h=>PK<|rg<|L0 Nodes1 Net1 Asked1 Told1<|fE h
def e1M(events:E v6):((E m4)×(E m9)×(E B2)×(E s8)×Int)->KS:=λ(b9,c9,i4,Told,i)=>⟨a5R.k 4 [W],bs 1 (n7 3 L2 events::(.ptr 1 0 0::bs 1 (.ptr 6 0 0::(vi i::bs 24 [])))),[U [],U [.var 28 [.own 2 0 27 0 (O b9),.own 3 0 13 0 (O c9),.own 4 0 3 0 (O i4),.own 5 0 5 0 (O Told)]],U [F7 59 27 B8 b9],U [s5 70 13 x7 c9],U [s5 72 3 C9 i4],U [s5 66 5 B6 Told],U jq]⟩
def a6g(events:E v6)(b9:E m4)(c9:E m9)(i4:E B2)(Told:E s8)(i:Int):Option (n6 m6 ((E m4)×(E m9)×(E B2)×(E s8)×Int) ((E m4)×(E m9)×(E B2)×E s8)):=
 (bif decide (i<(O events:Int))then(idx events i).bind λb33=>(b0O (m6.mk b9 c9 i4 Told) b33).bind λa1T=>U (n6.nxt (a1T.b9,a1T.c9,a1T.i4,a1T.Told,s6 (i+1)))else U (n6.brk (b9,c9,i4,Told)))
def f3j(events):LQ a5R d3p (e1M events) (λs=>a6g events s.1 s.2.1 s.2.2.1 s.2.2.2.1 s.2.2.2.2):=λlc (b9,c9,i4,Told,i) h=>PK<|rg<|l9 3 h (λh=>rg<|A3 L2 3 h λb33 e70 h=>n9 b1Z c6X 5 h λa1T h=>L0 b9 c9 i4 Told<|rg<|(lc.nx h λhI=>sk [] [1,2,4,5] [(1,0),(16,0),(16,1),(16,2),(16,3),(6,0)] hI)) (λh=>lc.bk h λhI=>sk [] [2,4] jz hI)
def b6T(w:m6)(events:E v6):Option m6:=
 ((b3L w).bind λC8=>bif(!C8)then U (m6.mk [] [] [] [])else bif decide ((O events:Int)>400)then U (m6.mk [] [] [] [])else(b4z w).bind λa3u=>(u5 (λs:(E m4)×(E m9)×(E B2)×(E s8)×Int=>a6g events s.1 s.2.1 s.2.2.1 s.2.2.2.1 s.2.2.2.2) (a3u.b9,a3u.c9,a3u.i4,a3u.Told,0)).bind λx=>x.go (λr=>U r) λs=>d1A s.1 s.2.1 s.2.2.1 s.2.2.2)
def e1i{w events}:OK a5R [.agg (N0 w),n7 3 L2 events] (b6T w events):=
 t9 _ λr h=>t5<|n9 S7 c8m 1 h λC8 h=>l9 3 h (λh=>rg<|fE h) (λh=>l9 7 h (λh=>rg<|fE h) (λh=>rg<|n9 a0x d5r 1 h λa3u h=>rg<|lp (f3j events) h (λ_ h=>a5R.rt h) (f3i r) λhI=>sk [] [1,2,4,5] [(1,0),(12,0),(12,1),(12,2),(12,3),(2,0)] hI))
def a9Y:FS (Bool):=⟨23,Tryz.f23,[.val [] []],[Z,Z],[.val [U 5] [],.val [U 5] []],λr=>.b r,λ_=>[Z,Z],Tryz.func23⟩
def d0J:Unit->KS:=λ_=>⟨a9Y.k 4 [W,W],bs 26 [],[U []]⟩
def c9K:Option Bool:=
 U Y
def f8I(r):NF a9Y r d0J (λs=>c9K):=λ_ h=>PK<|rg<|fE h
def e1Q(a:E s8)(b:E s8):Int->KS:=λv13=>⟨a9Y.k 3 [W],n7 5 B6 a::(n7 5 B6 b::bs 10 (vi (O a:Int)::(vi v13::bs 12 []))),[U []]⟩
def b9r(a:E s8)(b:E s8)(v13:Int):Option (n6 Bool Int Unit):=
 (bif decide (v13<(O a:Int))then(idx a v13).bind λtold=>(idx b v13).bind λa4g=>bif(!(([told.Node,told.b6.i0,told.b6.Seq,told.Code,told.i8]:E Int)==[a4g.Node,a4g.b6.i0,a4g.b6.Seq,a4g.Code,a4g.i8]))then U (n6.ret W)else U (n6.nxt (s6 (v13+1)))else U (n6.brk ()))
def f8Y(a b):LQ a9Y d0J (e1Q a b) (λs=>b9r a b s):=λlc v13 h=>PK<|rg<|l9 0 h (λh=>t5<|A3 B6 2 h λtold a6h h=>A3 B6 6 h λa4g f2M h=>l9 8 h (λh=>rg<|fL lc h) (λh=>rg<|(lc.nx h λhI=>sk [] [0,1,12,13] [] hI))) (λh=>lc.bk h λhI=>sk [] [] [] hI)
def b9z(a:E s8)(b:E s8):Option Bool:=
 (bif((O a:Int) != (O b:Int))then U W else(u5 (λs:Int=>b9r a b s) 0).bind λx=>x.go (λr=>U r) λs=>c9K)
def f2v{a b}:OK a9Y [n7 5 B6 a,n7 5 B6 b] (b9z a b):=
 t9 _ λr h=>t5<|l9 4 h (λh=>rg<|fE h) (λh=>rg<|lp (f8Y a b) h (λ_ h=>a9Y.rt h) (f8I r) λhI=>sk [] [0,1,12,13] [] hI)
def a6f:FS (Bool):=⟨63,Tryz.f63,[.val [] []],[Z,Z],[.val [U 8] [],.val [U 8] []],λr=>.b r,λ_=>[Z,Z],Tryz.func63⟩
def d4M:Unit->KS:=λ_=>⟨a6f.k 4 [W,W],bs 42 [],[U []]⟩
def c91:Option Bool:=
 U Y
def e80(r):NF a6f r d4M (λs=>c91):=λ_ h=>PK<|rg<|fE h
def e7s(a:E s7)(b:E s7):Int->KS:=λv13=>⟨a6f.k 3 [W],n7 8 w6 a::(n7 8 w6 b::bs 10 (vi (O a:Int)::(vi v13::bs 28 []))),[U []]⟩
def b9i(a:E s7)(b:E s7)(v13:Int):Option (n6 Bool Int Unit):=
 (bif decide (v13<(O a:Int))then(idx a v13).bind λvote=>(idx b v13).bind λT9=>bif(vote.b5 != T9.b5)then U (n6.ret W)else(a0e vote.i9 T9.i9).bind λI8=>bif(!I8)then U (n6.ret W)else U (n6.nxt (s6 (v13+1)))else U (n6.brk ()))
def f9m(a b):LQ a6f d4M (e7s a b) (λs=>b9i a b s):=λlc v13 h=>PK<|rg<|l9 0 h (λh=>t5<|A3 w6 2 h λvote N9 h=>A3 w6 7 h λT9 a3w h=>l9 11 h (λh=>rg<|fL lc h) (λh=>P7 w6 14 N9<|P7 w6 19 a3w<|n9 a1G a2k 22 h λI8 h=>l9 24 h (λh=>rg<|fL lc h) (λh=>rg<|(lc.nx h λhI=>sk [] [0,1,12,13] [] hI)))) (λh=>lc.bk h λhI=>sk [] [] [] hI)
def b2b(a:E s7)(b:E s7):Option Bool:=
 (bif((O a:Int) != (O b:Int))then U W else(u5 (λs:Int=>b9i a b s) 0).bind λx=>x.go (λr=>U r) λs=>c91)
def c7A{a b}:OK a6f [n7 8 w6 a,n7 8 w6 b] (b2b a b):=
 t9 _ λr h=>t5<|l9 4 h (λh=>rg<|fE h) (λh=>rg<|lp (f9m a b) h (λ_ h=>a6f.rt h) (e80 r) λhI=>sk [] [0,1,12,13] [] hI)
def d6T:FS (Bool):=⟨60,Tryz.f60,[.val [] []],[Z,Z],[.val [Z,U 8] [],.val [Z,U 8] []],λr=>.b r,λ_=>[Z,Z],Tryz.func60⟩
def c6z(a:B4)(b:B4):Option Bool:=
 (bif(a.i7==b.i7)then(b2b a.b8 b.b8).bind λa7k=>U a7k else U W)
def f7K{a b}:OK d6T [.agg (a1h a),.agg (a1h b)] (c6z a b):=
 t9 _ λr h=>t5<|l9 5 h (λh=>n9 a6f c7A 10 h λa7k h=>fE h) (λh=>fE h)
def a8n:FS (Bool):=⟨61,Tryz.f61,[.val [] []],[Z,Z],[.val [U 7] [],.val [U 7] []],λr=>.b r,λ_=>[Z,Z],Tryz.func61⟩
def d8r:Unit->KS:=λ_=>⟨a8n.k 4 [W,W],bs 27 [],[U []]⟩
def d8A:Option Bool:=
 U Y
def g0k(r):NF a8n r d8r (λs=>d8A):=λ_ h=>PK<|rg<|fE h
def e2Q(a:E p9)(b:E p9):Int->KS:=λv13=>⟨a8n.k 3 [W],n7 7 x9 a::(n7 7 x9 b::bs 10 (vi (O a:Int)::(vi v13::bs 13 []))),[U []]⟩
def c1L(a:E p9)(b:E p9)(v13:Int):Option (n6 Bool Int Unit):=
 (bif decide (v13<(O a:Int))then(idx a v13).bind λentry=>(idx b v13).bind λa4W=>(a0e entry a4W).bind λI8=>bif(!I8)then U (n6.ret W)else U (n6.nxt (s6 (v13+1)))else U (n6.brk ()))
def f7j(a b):LQ a8n d8r (e2Q a b) (λs=>c1L a b s):=λlc v13 h=>PK<|rg<|l9 0 h (λh=>t5<|A3 x9 2 h λentry K6 h=>A3 x9 6 h λa4W b0D h=>n9 a1G a2k 8 h λI8 h=>l9 9 h (λh=>rg<|fL lc h) (λh=>rg<|(lc.nx h λhI=>sk [] [0,1,12,13] [] hI))) (λh=>lc.bk h λhI=>sk [] [] [] hI)
def b45(a:E p9)(b:E p9):Option Bool:=
 (bif((O a:Int) != (O b:Int))then U W else(u5 (λs:Int=>c1L a b s) 0).bind λx=>x.go (λr=>U r) λs=>d8A)
def e0k{a b}:OK a8n [n7 7 x9 a,n7 7 x9 b] (b45 a b):=
 t9 _ λr h=>t5<|l9 4 h (λh=>rg<|fE h) (λh=>rg<|lp (f7j a b) h (λ_ h=>a8n.rt h) (g0k r) λhI=>sk [] [0,1,12,13] [] hI)
def a8c:FS (Bool):=⟨62,Tryz.f62,[.val [] []],[Z,Z],[.val [U 1] [],.val [U 1] []],λr=>.b r,λ_=>[Z,Z],Tryz.func62⟩
def d1U:Unit->KS:=λ_=>⟨a8c.k 4 [W,W],bs 26 [],[U []]⟩
def c9B:Option Bool:=
 U Y
def f3Z(r):NF a8c r d1U (λs=>c9B):=λ_ h=>PK<|rg<|fE h
def f1Q(a:E Bool)(b:E Bool):Int->KS:=λv13=>⟨a8c.k 3 [W],n7 1 eB a::(n7 1 eB b::bs 10 (vi (O a:Int)::(vi v13::bs 12 []))),[U []]⟩
def b8M(a:E Bool)(b:E Bool)(v13:Int):Option (n6 Bool Int Unit):=
 (bif decide (v13<(O a:Int))then(idx a v13).bind λy=>(idx b v13).bind λy1=>bif(!(y==y1))then U (n6.ret W)else U (n6.nxt (s6 (v13+1)))else U (n6.brk ()))
def e9b(a b):LQ a8c d1U (f1Q a b) (λs=>b8M a b s):=λlc v13 h=>PK<|rg<|l9 0 h (λh=>t5<|A3 eB 2 h λy hy h=>A3 eB 6 h λy1 hy1 h=>l9 8 h (λh=>rg<|fL lc h) (λh=>rg<|(lc.nx h λhI=>sk [] [0,1,12,13] [] hI))) (λh=>lc.bk h λhI=>sk [] [] [] hI)
def b5l(a:E Bool)(b:E Bool):Option Bool:=
 (bif((O a:Int) != (O b:Int))then U W else(u5 (λs:Int=>b8M a b s) 0).bind λx=>x.go (λr=>U r) λs=>c9B)
def d94{a b}:OK a8c [n7 1 eB a,n7 1 eB b] (b5l a b):=
 t9 _ λr h=>t5<|l9 4 h (λh=>rg<|fE h) (λh=>rg<|lp (e9b a b) h (λ_ h=>a8c.rt h) (f3Z r) λhI=>sk [] [0,1,12,13] [] hI)
def a9t:FS (Bool):=⟨64,Tryz.f64,[.val [] []],[Z,Z],[.val [U 4] [],.val [U 4] []],λr=>.b r,λ_=>[Z,Z],Tryz.func64⟩
def d3F:Unit->KS:=λ_=>⟨a9t.k 4 [W,W],bs 26 [],[U []]⟩
def d70:Option Bool:=
 U Y
def f1q(r):NF a9t r d3F (λs=>d70):=λ_ h=>PK<|rg<|fE h
def e1H(a:E t8)(b:E t8):Int->KS:=λv13=>⟨a9t.k 3 [W],n7 4 C2 a::(n7 4 C2 b::bs 10 (vi (O a:Int)::(vi v13::bs 12 []))),[U []]⟩
def c1v(a:E t8)(b:E t8)(v13:Int):Option (n6 Bool Int Unit):=
 (bif decide (v13<(O a:Int))then(idx a v13).bind λins=>(idx b v13).bind λb5C=>bif(!(([ins.b7,ins.A,ins.B,ins.N]:E Int)==[b5C.b7,b5C.A,b5C.B,b5C.N]))then U (n6.ret W)else U (n6.nxt (s6 (v13+1)))else U (n6.brk ()))
def f0B(a b):LQ a9t d3F (e1H a b) (λs=>c1v a b s):=λlc v13 h=>PK<|rg<|l9 0 h (λh=>t5<|A3 C2 2 h λins hins h=>A3 C2 6 h λb5C g0M h=>l9 8 h (λh=>rg<|fL lc h) (λh=>rg<|(lc.nx h λhI=>sk [] [0,1,12,13] [] hI))) (λh=>lc.bk h λhI=>sk [] [] [] hI)
def c3V(a:E t8)(b:E t8):Option Bool:=
 (bif((O a:Int) != (O b:Int))then U W else(u5 (λs:Int=>c1v a b s) 0).bind λx=>x.go (λr=>U r) λs=>d70)
def e2R{a b}:OK a9t [n7 4 C2 a,n7 4 C2 b] (c3V a b):=
 t9 _ λr h=>t5<|l9 4 h (λh=>rg<|fE h) (λh=>rg<|lp (f0B a b) h (λ_ h=>a9t.rt h) (f1q r) λhI=>sk [] [0,1,12,13] [] hI)
def c5z:FS (Bool):=⟨26,Tryz.f26,[.val [] []],[Z,Z],[.val [U 4] [],.val [U 4] []],λr=>.b r,λ_=>[Z,Z],Tryz.func26⟩
def b4y(a:E t8)(b:E t8):Option Bool:=
 ((c3V a b).bind λins=>U ins)
def d9N{a b}:OK c5z [n7 4 C2 a,n7 4 C2 b] (b4y a b):=
 t9 _ λr h=>t5<|n9 a9t e2R 2 h λins h=>fE h
def d6h:FS (Bool):=⟨24,Tryz.f24,[.val [] []],[Z,Z],[.val D1 [],.val D1 []],λr=>.b r,λ_=>[Z,Z],Tryz.func24⟩
def b7z(a:m4)(b:m4):Option Bool:=
 (bif(a.Id==b.Id)then(c6z a.Acc b.Acc).bind λd3Y=>bif d3Y then(b45 a.a9 b.a9).bind λd78=>bif d78 then bif(a.Seq==b.Seq)then bif(a.d6==b.d6)then bif(a.b5==b.b5)then(b5l a.d7 b.d7).bind λbool=>bif bool then(b2b a.j5 b.j5).bind λa7k=>bif a7k then(a0e a.g9 b.g9).bind λI8=>bif I8 then(b5l a.b8 b.b8).bind λb2h=>bif b2h then bif(a.j6==b.j6)then(b4y a.j8 b.j8).bind λb5c=>bif b5c then(a0e a.d9 b.d9).bind λd5s=>bif d5s then(b45 a.i5 b.i5).bind λc9k=>U c9k else U W else U W else U W else U W else U W else U W else U W else U W else U W else U W else U W else U W else U W)
def e33{a b}:OK d6h [.agg (B3 a),.agg (B3 b)] (b7z a b):=
 t9 _ λr h=>t5<|l9 5 h (λh=>n9 d6T f7K 10 h λd3Y h=>l9 12 h (λh=>n9 a8n e0k 17 h λd78 h=>l9 19 h (λh=>l9 26 h (λh=>l9 33 h (λh=>l9 40 h (λh=>n9 a8c d94 45 h λbool h=>l9 47 h (λh=>n9 a6f c7A 52 h λa7k h=>l9 54 h (λh=>n9 a1G a2k 59 h λI8 h=>l9 61 h (λh=>n9 a8c d94 66 h λb2h h=>l9 68 h (λh=>l9 75 h (λh=>n9 c5z d9N 80 h λb5c h=>l9 82 h (λh=>n9 a1G a2k 87 h λd5s h=>l9 89 h (λh=>n9 a8n e0k 94 h λc9k h=>fE h) (λh=>fE h)) (λh=>fE h)) (λh=>fE h)) (λh=>fE h)) (λh=>fE h)) (λh=>fE h)) (λh=>fE h)) (λh=>fE h)) (λh=>fE h)) (λh=>fE h)) (λh=>fE h)) (λh=>fE h)) (λh=>fE h)
def d6Y:FS (Bool):=⟨25,Tryz.f25,[.val [] []],[Z,Z],[.val E5 [],.val E5 []],λr=>.b r,λ_=>[Z,Z],Tryz.func25⟩
def c7d(a:m9)(b:m9):Option Bool:=
 (bif(a.b7==b.b7)then bif(a.d7==b.d7)then bif(a.To==b.To)then bif(a.b5==b.b5)then bif(a.i6==b.i6)then(a0e a.i9 b.i9).bind λI8=>bif I8 then(b2b a.b8 b.b8).bind λa7k=>U a7k else U W else U W else U W else U W else U W else U W)
def g0y{a b}:OK d6Y [.agg (x7 a),.agg (x7 b)] (c7d a b):=
 t9 _ λr h=>t5<|l9 5 h (λh=>l9 12 h (λh=>l9 19 h (λh=>l9 26 h (λh=>l9 33 h (λh=>n9 a1G a2k 38 h λI8 h=>l9 40 h (λh=>n9 a6f c7A 45 h λa7k h=>fE h) (λh=>fE h)) (λh=>fE h)) (λh=>fE h)) (λh=>fE h)) (λh=>fE h)) (λh=>fE h)
def a0r:FS (Bool):=⟨7,Tryz.f7,[.val [] []],[Z,Z],[.val F4 [],.val F4 []],λr=>.b r,λ_=>[Z,Z],Tryz.func7⟩
def d2i(a:m6)(b:m6):Unit->KS:=λ_=>⟨a0r.k 4 [W,W],bs 2 (.ptr 1 0 0::(.ptr 2 0 0::bs 111 [])),[U [],U [.var 28 (F9 a)],U [.var 28 (F9 b)]]⟩
def d3w(a:m6)(b:m6):Unit->KS:=λ_=>⟨a0r.k 6 [W,W,W],bs 2 (.ptr 1 0 0::(.ptr 2 0 0::bs 111 [])),[U [],U [.var 28 (F9 a)],U [.var 28 (F9 b)]]⟩
def c9n:Unit->KS:=λ_=>⟨a0r.k 8 [W,W,W,W],bs 115 [],[U []]⟩
def d9z:Option Bool:=
 U Y
def f5y(r):NF a0r r c9n (λs=>d9z):=λ_ h=>PK<|rg<|fE h
def e9w(a:m6)(b:m6):Int->KS:=λv82=>⟨a0r.k 7 [W,W,W],bs 2 (.ptr 1 0 0::(.ptr 2 0 0::bs 77 (vi (O a.i4:Int)::(vi v82::bs 32 [])))),[U [],U [.var 28 (F9 a)],U [.var 28 (F9 b)]]⟩
def c0m(a:m6)(b:m6)(v82:Int):Option (n6 Bool Int Unit):=
 (bif decide (v82<(O a.i4:Int))then(idx a.i4 v82).bind λasked=>(idx b.i4 v82).bind λa4V=>bif(!(([asked.b6.i0,asked.b6.Seq]:E Int)==[a4V.b6.i0,a4V.b6.Seq]))then U (n6.ret W)else(b4y asked.j8 a4V.j8).bind λb5c=>bif(!b5c)then U (n6.ret W)else U (n6.nxt (s6 (v82+1)))else U (n6.brk ()))
def f8w(a b):LQ a0r c9n (e9w a b) (λs=>c0m a b s):=λlc v82 h=>PK<|rg<|l9 0 h (λh=>t5<|A3 C9 3 h λasked a9n h=>A3 C9 9 h λa4V b2o h=>l9 13 h (λh=>rg<|fL lc h) (λh=>P7 C9 17 a9n<|P7 C9 23 b2o<|n9 c5z d9N 26 h λb5c h=>l9 28 h (λh=>rg<|fL lc h) (λh=>rg<|(lc.nx h λhI=>sk [] [2,3,81,82] jy hI)))) (λh=>lc.bk h λhI=>sk [] [] [] hI)
def c5j(a:m6)(b:m6):Option Bool:=
 ((u5 (λs:Int=>c0m a b s) 0).bind λx=>x.go (λr=>U r) λs=>d9z)
def e9M(a b)(r):NF a0r r (d3w a b) (λs=>c5j a b):=λ_ h=>PK<|rg<|lp (f8w a b) h (λ_ h=>a0r.rt h) (f5y r) λhI=>sk [] [2,3,81,82] jy hI
def f3v(a:m6)(b:m6):Int->KS:=λv63=>⟨a0r.k 5 [W,W],bs 2 (.ptr 1 0 0::(.ptr 2 0 0::bs 58 (vi (O a.c9:Int)::(vi v63::bs 51 [])))),[U [],U [.var 28 (F9 a)],U [.var 28 (F9 b)]]⟩
def c2d(a:m6)(b:m6)(v63:Int):Option (n6 Bool Int Unit):=
 (bif decide (v63<(O a.c9:Int))then(idx a.c9 v63).bind λmsg=>(idx b.c9 v63).bind λb6P=>(c7d msg b6P).bind λd79=>bif(!d79)then U (n6.ret W)else U (n6.nxt (s6 (v63+1)))else U (n6.brk ()))
def e9o(a b):LQ a0r (d3w a b) (f3v a b) (λs=>c2d a b s):=λlc v63 h=>PK<|rg<|l9 0 h (λh=>t5<|A3 x7 3 h λmsg hmsg h=>A3 x7 8 h λb6P b4G h=>n9 d6Y g0y 10 h λd79 h=>l9 11 h (λh=>rg<|fL lc h) (λh=>rg<|(lc.nx h λhI=>sk [] [2,3,62,63] jy hI))) (λh=>lc.bk h λhI=>sk [] [2,3] jy hI)
def c5a(a:m6)(b:m6):Option Bool:=
 ((u5 (λs:Int=>c2d a b s) 0).bind λx=>x.go (λr=>U r) λs=>c5j a b)
def f5N(a b)(r):NF a0r r (d2i a b) (λs=>c5a a b):=λ_ h=>PK<|rg<|lp (e9o a b) h (λ_ h=>a0r.rt h) (e9M a b r) λhI=>sk [] [2,3,62,63] jy hI
def f9s(a:m6)(b:m6):Int->KS:=λv44=>⟨a0r.k 3 [W],bs 2 (.ptr 1 0 0::(.ptr 2 0 0::bs 39 (vi (O a.b9:Int)::(vi v44::bs 70 [])))),[U [],U [.var 28 (F9 a)],U [.var 28 (F9 b)]]⟩
def c0D(a:m6)(b:m6)(v44:Int):Option (n6 Bool Int Unit):=
 (bif decide (v44<(O a.b9:Int))then(idx a.b9 v44).bind λnode=>(idx b.b9 v44).bind λnode1=>(b7z node node1).bind λd1w=>bif(!d1w)then U (n6.ret W)else U (n6.nxt (s6 (v44+1)))else U (n6.brk ()))
def f6l(a b):LQ a0r (d2i a b) (f9s a b) (λs=>c0D a b s):=λlc v44 h=>PK<|rg<|l9 0 h (λh=>t5<|A3 B3 3 h λnode hnode h=>A3 B3 8 h λnode1 a2P h=>n9 d6h e33 10 h λd1w h=>l9 11 h (λh=>rg<|fL lc h) (λh=>rg<|(lc.nx h λhI=>sk [] [2,3,43,44] jy hI))) (λh=>lc.bk h λhI=>sk [] [2,3] jy hI)
def c2H(a:m6)(b:m6):Option Bool:=
 (bif((O a.b9:Int) != (O b.b9:Int))then U W else bif((O a.c9:Int) != (O b.c9:Int))then U W else bif((O a.i4:Int) != (O b.i4:Int))then U W else(b9z a.Told b.Told).bind λtold=>bif(!told)then U W else(u5 (λs:Int=>c0D a b s) 0).bind λx=>x.go (λr=>U r) λs=>c5a a b)
def f6r{a b}:OK a0r [.agg (N0 a),.agg (N0 b)] (c2H a b):=
 t9 _ λr h=>t5<|l9 7 h (λh=>rg<|fE h) (λh=>l9 16 h (λh=>rg<|fE h) (λh=>l9 25 h (λh=>rg<|fE h) (λh=>n9 a9Y f2v 30 h λtold h=>l9 32 h (λh=>rg<|fE h) (λh=>rg<|lp (f6l a b) h (λ_ h=>a0r.rt h) (f5N a b r) λhI=>sk [] [2,3,43,44] jy hI))))
def a3S:FS (E p9):=⟨10,Tryz.f10,[.val [U 7] []],[Z],[.val F4 []],λr=>n7 7 x9 r,λ_=>[Z],Tryz.func10⟩
def c4A(w:m6):Int->KS:=λb6K=>⟨a3S.k 4 [W],bs 1 (.ptr 1 0 0::bs 1 (vi b6K::bs 36 [])),[U [],U [.var 28 (F9 w)]]⟩
def c4t(w:m6)(b6K:Int):Option (E p9):=
 (bif decide (b6K<0)then U []else(idx w.b9 b6K).bind λnode=>(b21 node.a9).bind λa9T=>U a9T)
def e0J(w)(r):NF a3S r (c4A w) (λs=>c4t w s):=λb6K h=>PK<|rg<|l9 1 h (λh=>rg<|fE h) (λh=>rg<|A3 B3 3 h λnode hnode h=>n9 a6e c3b 6 h λa9T h=>z0 a9T<|fE h)
def c9d(w:m6):(Int×Int)->KS:=λ(best,v9)=>⟨a3S.k 3 [],bs 1 (.ptr 1 0 0::bs 1 (vi best::bs 3 (n7 27 B3 w.b9::(vi (O w.b9:Int)::(vi v9::bs 30 []))))),[U [],U [.var 28 (F9 w)]]⟩
def f5F(w:m6)(v9:Int):Int->KS:=λb9f=>⟨a3S.k 7 [Y,Y],bs 1 (.ptr 1 0 0::bs 1 (vi b9f::bs 3 (n7 27 B3 w.b9::(vi (O w.b9:Int)::(vi v9::bs 30 []))))),[U [],U [.var 28 (F9 w)]]⟩
def b7j(v9:Int)(b9f:Int):Option (n6 (E p9) (Int×Int) Int):=
 U (n6.nxt (b9f,s6 (v9+1)))
def f7e(w v9)(lc:J2 a3S (c4A w) (c9d w)):NL lc (f5F w v9) (λs=>b7j v9 s):=λb9f h=>PK<|rg<|(lc.nx h λhI=>sk [] [1,3,7,8,9] [(1,0)] hI)
def a6t(w:m6)(best:Int)(v9:Int):Option (n6 (E p9) (Int×Int) Int):=
 (bif decide (v9<(O w.b9:Int))then(idx w.b9 v9).bind λnode1=>((bif decide (best<0)then U (r9.brk v9)else(idx w.b9 best).bind λd8Y=>bif decide ((O node1.a9:Int)>(O d8Y.a9:Int))then U (r9.brk v9)else U (r9.brk best)):Option (r9 (n6 (E p9) (Int×Int) Int) Int)).bind λx=>x.go U λj=>b7j v9 j else U (n6.brk best))
def f4k(w):LQ a3S (c4A w) (c9d w) (λs=>a6t w s.1 s.2):=λlc (best,v9) h=>PK<|rg<|l9 0 h (λh=>rg<|A3 B3 1 h λnode1 a2P h=>D5 h (f7e w v9 lc) λx2 h hc2=>rg<|l9 2 h (λh=>rg<|(u6 h hc2 λhI=>sk [] [1,3,7,8,9] jv hI)) (λh=>A3 B3 9 h λd8Y g0Q h=>l9 14 h (λh=>rg<|(u6 h hc2 λhI=>sk [] [1,3,7,8,9] jv hI)) (λh=>u6 h hc2 λhI=>sk [] [1,3,7,8,9] jv hI))) (λh=>lc.bk h λhI=>sk [] [1,3] jv hI)
def a8p(w:m6):Option (E p9):=
 ((u5 (λs:Int×Int=>a6t w s.1 s.2) ((-1),0)).bind λx=>x.go (λr=>U r) λs=>c4t w s)
def c2B{w}:OK a3S [.agg (N0 w)] (a8p w):=
 t9 _ λr h=>T1<|lp (f4k w) h (λ_ h=>a3S.rt h) (e0J w r) λhI=>sk [] [1,3,7,8,9] jv hI
def d1e:FS (m6):=⟨11,Tryz.f11,[.val F4 []],[Z,Z],[.val F4 [],.val [Z,Z,U 4] []],λr=>.agg (N0 r),λ_=>[Z,Z],Tryz.func11⟩
def b99(w:m6)(e_:v6):Option m6:=
 ((a1X w).bind λC8=>bif(!C8)then U (m6.mk [] [] [] [])else(a7X w e_).bind λa4n=>U a4n)
def f3y{w e_}:OK d1e [.agg (N0 w),.agg (L2 e_)] (b99 w e_):=
 t9 _ λr h=>t5<|n9 P3 a3Z 1 h λC8 h=>l9 2 h (λh=>rg<|fE h) (λh=>rg<|n9 a2p b3j 2 h λa4n h=>fE h)
def a6n:FS (Bool):=⟨15,Tryz.f15,[.val [] []],[Z],[.val F4 []],λr=>.b r,λ_=>[Z],Tryz.func15⟩
def d9O:Unit->KS:=λ_=>⟨a6n.k 4 [W,W],bs 36 [],[U []]⟩
def d7z:Option Bool:=
 U Y
def e0S(r):NF a6n r d9O (λs=>d7z):=λ_ h=>PK<|rg<|fE h
def f7T(w:m6):Int->KS:=λv17=>⟨a6n.k 3 [W],bs 1 (.ptr 1 0 0::bs 13 (n7 27 B3 w.b9::(vi (O w.b9:Int)::(vi v17::bs 18 [])))),[U [],U [.var 28 (F9 w)]]⟩
def b6W(w:m6)(v17:Int):Option (n6 Bool Int Unit):=
 (bif decide (v17<(O w.b9:Int))then(idx w.b9 v17).bind λnode=>bif node.j6 then U (n6.ret W)else(idx w.b9 0).bind λnode1=>bif((O node.a9:Int) != (O node1.a9:Int))then U (n6.ret W)else U (n6.nxt (s6 (v17+1)))else U (n6.brk ()))
def f4r(w):LQ a6n d9O (f7T w) (λs=>b6W w s):=λlc v17 h=>PK<|rg<|l9 0 h (λh=>rg<|A3 B3 0 h λnode hnode h=>rg<|l9 2 h (λh=>rg<|fL lc h) (λh=>A3 B3 8 h λnode1 a2P h=>l9 13 h (λh=>rg<|fL lc h) (λh=>rg<|(lc.nx h λhI=>sk [] [1,15,16,17] jv hI)))) (λh=>lc.bk h λhI=>sk [] [] [] hI)
def b3F(w:m6):Option Bool:=
 ((a1X w).bind λC8=>bif(!C8)then U W else bif decide ((O w.c9:Int)>0)then U W else(u5 (λs:Int=>b6W w s) 0).bind λx=>x.go (λr=>U r) λs=>d7z)
def d7o{w}:OK a6n [.agg (N0 w)] (b3F w):=
 t9 _ λr h=>t5<|n9 P3 a3Z 1 h λC8 h=>l9 3 h (λh=>rg<|fE h) (λh=>l9 8 h (λh=>rg<|fE h) (λh=>rg<|lp (f4r w) h (λ_ h=>a6n.rt h) (e0S r) λhI=>sk [] [1,15,16,17] jv hI))
def a6S:FS (m6):=⟨81,Tryz.f81,[.val F4 []],[Z],[.val F4 []],λr=>.agg (N0 r),λ_=>[Z],Tryz.func81⟩
def d9L:m6->KS:=λw2=>⟨a6S.k 3 [W],bs 1 (.ptr 1 0 0::(.ptr 2 0 0::bs 15 [])),[U [],U [.var 28 (F9 w2)],U jq]⟩
def d5B(w2:m6):Option m6:=
 U w2
def e1r(r):NF a6S r d9L (λs=>d5B s):=λw2 h=>PK<|rg<|fE h
def e3Z:(m6×Int)->KS:=λ(w1,i)=>⟨a6S.k 2 [],bs 1 (.ptr 1 0 0::(.ptr 2 0 0::(vi i::bs 14 []))),[U [],U [.var 28 (F9 w1)],U jq]⟩
def a40(w1:m6)(i:Int):Option (n6 m6 (m6×Int) m6):=
 (bif decide (i<800)then bif decide ((O w1.c9:Int)>0)then(a7X w1 (v6.mk 2 0 [])).bind λa4n=>U (n6.nxt (a4n,s6 (i+1)))else U (n6.brk w1)else U (n6.brk w1))
def e3z:LQ a6S d9L e3Z (λs=>a40 s.1 s.2):=λlc (w1,i) h=>PK<|rg<|l9 2 h (λh=>l9 7 h (λh=>rg<|n9 a2p b3j 2 h λa4n h=>rg<|(lc.nx h λhI=>sk [] [1,2,3] jy hI)) (λh=>lc.bk h λhI=>sk [] [1,2] jy hI)) (λh=>lc.bk h λhI=>sk [] [1,2] jy hI)
def b1d(w:m6):Option m6:=
 ((u5 (λs:m6×Int=>a40 s.1 s.2) (w,0)).bind λx=>x.go (λr=>U r) λs=>d5B s)
def c4h{w}:OK a6S [.agg (N0 w)] (b1d w):=
 t9 _ λr h=>t5<|lp (e3z) h (λ_ h=>a6S.rt h) (e1r r) λhI=>sk [] [1,2,3] jy hI
def a5Y:FS (Bool):=⟨82,Tryz.f82,[.val [] []],[Z,Z],[.val F4 [],.val [] []],λr=>.b r,λ_=>[Z,Z],Tryz.func82⟩
def e4S(w:m6)(node:m4):Unit->KS:=λ_=>⟨a5Y.k 3 [W],bs 2 (.ptr 1 0 0::bs 2 (.ptr 2 0 0::bs 29 [])),[U [],U [.var 28 (F9 w)],U [.var 59 (a0z node)]]⟩
def d92:Unit->KS:=λ_=>⟨a5Y.k 5 [W,W],bs 35 [],[U []]⟩
def d9W:Option Bool:=
 U Y
def f4i(r):NF a5Y r d92 (λs=>d9W):=λ_ h=>PK<|rg<|fE h
def e4i(w:m6)(node:m4):Int->KS:=λv24=>⟨a5Y.k 4 [W],bs 5 (.ptr 1 0 0::bs 16 (n7 27 B3 w.b9::(vi (O w.b9:Int)::(vi v24::bs 10 [])))),[U [],U [.var 59 (a0z node)]]⟩
def b7Y(w:m6)(node:m4)(v24:Int):Option (n6 Bool Int Unit):=
 (bif decide (v24<(O w.b9:Int))then(idx w.b9 v24).bind λnode1=>bif decide (node1.Acc.i7>node.b5)then U (n6.ret W)else U (n6.nxt (s6 (v24+1)))else U (n6.brk ()))
def f5x(w node):LQ a5Y d92 (e4i w node) (λs=>b7Y w node s):=λlc v24 h=>PK<|rg<|l9 0 h (λh=>rg<|A3 B3 0 h λnode1 a2P h=>rg<|l9 5 h (λh=>rg<|fL lc h) (λh=>rg<|(lc.nx h λhI=>sk [] [5,22,23,24] jv hI))) (λh=>lc.bk h λhI=>sk [] [] [] hI)
def b0Z(w:m6)(node:m4):Option Bool:=
 ((u5 (λs:Int=>b7Y w node s) 0).bind λx=>x.go (λr=>U r) λs=>d9W)
def e8p(w node)(r):NF a5Y r (e4S w node) (λs=>b0Z w node):=λ_ h=>PK<|rg<|lp (f5x w node) h (λ_ h=>a5Y.rt h) (f4i r) λhI=>sk [] [5,22,23,24] Jv hI
def b72(w:m6)(id:Int):Option Bool:=
 ((idx w.b9 id).bind λnode=>((bif(node.d6 != 2)then bif(node.d6 != 3)then U (r9.ret W)else U (r9.brk ())else U (r9.brk ())):Option (r9 Bool Unit)).bind λx=>x.go U λj=>b0Z w node)
def f7w{w id}:OK a5Y [.agg (N0 w),vi id] (b72 w id):=
 t9 _ λr h=>t5<|A3 B3 3 h λnode hnode h=>D5 h (e8p w node r) λx1 h hc1=>rg<|l9 3 h (λh=>l9 7 h (λh=>rg<|(E3 h hc1 λh=>fE h)) (λh=>u6 h hc1 λhI=>sk [] [2,5] [(1,0),(8,0)] hI)) (λh=>u6 h hc1 λhI=>sk [] [2,5] [(1,0),(8,0)] hI)
def a20:FS (m6):=⟨33,Tryz.f33,[.val F4 []],[Z,Z],[.val F4 [],.val [] []],λr=>.agg (N0 r),λ_=>[Z,Z],Tryz.func33⟩
def c9X:m6->KS:=λw2=>⟨a20.k 4 [W],bs 2 (.ptr 1 0 0::bs 1 (.ptr 2 0 0::bs 29 [])),[U [],U [.var 28 (F9 w2)],U jq]⟩
def d9h:m6->KS:=λw4=>⟨a20.k 6 [W,W],bs 2 (.ptr 1 0 0::bs 1 (.ptr 2 0 0::bs 29 [])),[U [],U [.var 28 (F9 w4)],U jq]⟩
def e0q(w4:m6):Option m6:=
 U w4
def e9u(r):NF a20 r d9h (λs=>e0q s):=λw4 h=>PK<|rg<|fE h
def f9k:(m6×Int)->KS:=λ(w3,id)=>⟨a20.k 5 [W],bs 2 (.ptr 1 0 0::bs 1 (.ptr 2 0 0::bs 1 (vi id::bs 27 []))),[U [],U [.var 28 (F9 w3)],U jq]⟩
def a5f(w3:m6)(id:Int):Option (n6 m6 (m6×Int) m6):=
 (bif decide (id<3)then(a7X w3 (v6.mk 6 id [])).bind λa4n=>(b1d a4n).bind λc97=>U (n6.nxt (c97,s6 (id+1)))else U (n6.brk w3))
def f8c:LQ a20 d9h f9k (λs=>a5f s.1 s.2):=λlc (w3,id) h=>PK<|rg<|l9 1 h (λh=>rg<|n9 a2p b3j 3 h λa4n h=>n9 a6S c4h 4 h λc97 h=>rg<|(lc.nx h λhI=>sk [] [2,4,6] jy hI)) (λh=>lc.bk h λhI=>sk [] [2,4] jy hI)
def b7W(w2:m6):Option m6:=
 ((u5 (λs:m6×Int=>a5f s.1 s.2) (w2,0)).bind λx=>x.go (λr=>U r) λs=>e0q s)
def e1X(r):NF a20 r c9X (λs=>b7W s):=λw2 h=>PK<|rg<|lp (f8c) h (λ_ h=>a20.rt h) (e9u r) λhI=>sk [] [2,4,6] jy hI
def e6c(L6:Int):(m6×Int)->KS:=λ(w1,i)=>⟨a20.k 3 [],bs 1 (vi L6::(.ptr 1 0 0::bs 1 (.ptr 2 0 0::(vi i::bs 28 [])))),[U [],U [.var 28 (F9 w1)],U jq]⟩
def a5d(L6:Int)(w1:m6)(i:Int):Option (n6 m6 (m6×Int) m6):=
 (bif decide (i<4)then(b72 w1 L6).bind λc93=>bif(!c93)then(a7X w1 (v6.mk 5 L6 [])).bind λd4c=>(b1d d4c).bind λd8Z=>U (n6.nxt (d8Z,s6 (i+1)))else U (n6.brk w1)else U (n6.brk w1))
def e2P(L6):LQ a20 c9X (e6c L6) (λs=>a5d L6 s.1 s.2):=λlc (w1,i) h=>PK<|rg<|l9 2 h (λh=>n9 a5Y f7w 5 h λc93 h=>l9 7 h (λh=>rg<|n9 a2p b3j 3 h λd4c h=>n9 a6S c4h 4 h λd8Z h=>rg<|(lc.nx h λhI=>sk [] [1,2,4,5] jy hI)) (λh=>lc.bk h λhI=>sk [] [2,4] jy hI)) (λh=>lc.bk h λhI=>sk [] [2,4] jy hI)
def b4S(w:m6)(L6:Int):Option m6:=
 ((b1d w).bind λd5Z=>(u5 (λs:m6×Int=>a5d L6 s.1 s.2) (d5Z,0)).bind λx=>x.go (λr=>U r) λs=>b7W s)
def d74{w L6}:OK a20 [.agg (N0 w),vi L6] (b4S w L6):=
 t9 _ λr h=>t5<|n9 a6S c4h 1 h λd5Z h=>rg<|lp (e2P L6) h (λ_ h=>a20.rt h) (e1X r) λhI=>sk [] [1,2,4,5] jy hI
def a9Z:FS (Int):=⟨12,Tryz.f12,[.val [] []],[Z,Z,Z],[.val F4 [],.val [] [],.val [] []],λr=>vi r,λ_=>[Z,Z,Z],Tryz.func12⟩
def d77:Unit->KS:=λ_=>⟨a9Z.k 4 [W,W],bs 31 [],[U []]⟩
def d0n:Option Int:=
 U (-1)
def f2C(r):NF a9Z r d77 (λs=>d0n):=λ_ h=>PK<|rg<|fE h
def f2V(L6:Int)(most:Int):(Int×m6)->KS:=λ(i,w1)=>⟨a9Z.k 3 [W],bs 1 (vi L6::(vi most::(.ptr 1 0 0::bs 3 (vi i::bs 23 [])))),[U [],U [.var 28 (F9 w1)]]⟩
def a8H(L6:Int)(most:Int)(i:Int)(w1:m6):Option (n6 Int (Int×m6) Unit):=
 (bif decide (i<=most)then bif decide (i<=20)then(b3F w1).bind λb2j=>bif b2j then U (n6.ret i)else(b4S w1 L6).bind λb6v=>U (n6.nxt (s6 (i+1),b6v))else U (n6.brk ())else U (n6.brk ()))
def e1N(L6 most):LQ a9Z d77 (f2V L6 most) (λs=>a8H L6 most s.1 s.2):=λlc (i,w1) h=>PK<|rg<|l9 3 h (λh=>l9 6 h (λh=>rg<|cbE a6n.t d7o h λb2j d0z h=>cdT (a6n.t 1 W b2j) h (λ_ h=>ob d0z<|rg<|fL lc h) (λ_ h=>ob d0z<|rg<|n9 a20 d74 2 h λb6v h=>rg<|(lc.nx h λhI=>sk [] [1,2,3,7] jv hI))) (λh=>lc.bk h λhI=>sk [] [] [] hI)) (λh=>lc.bk h λhI=>sk [] [] [] hI)
def b8q(w:m6)(L6:Int)(most:Int):Option Int:=
 ((a1X w).bind λC8=>bif(!C8)then U (-1)else(H2 L6 0 2).bind λin_=>bif(!in_)then U (-1)else(u5 (λs:Int×m6=>a8H L6 most s.1 s.2) (0,w)).bind λx=>x.go (λr=>U r) λs=>d0n)
def e1h{w L6 most}:OK a9Z [.agg (N0 w),vi L6,vi most] (b8q w L6 most):=
 t9 _ λr h=>t5<|n9 P3 a3Z 1 h λC8 h=>l9 3 h (λh=>rg<|fE h) (λh=>n9 H0 H9 5 h λin_ h=>l9 7 h (λh=>rg<|fE h) (λh=>rg<|lp (e1N L6 most) h (λ_ h=>a9Z.rt h) (f2C r) λhI=>sk [] [1,2,3,7] jv hI))
def d2Q:FS (m6):=⟨13,Tryz.f13,[.val F4 []],[Z,Z],[.val F4 [],.val [] []],λr=>.agg (N0 r),λ_=>[Z,Z],Tryz.func13⟩
def b7k(w:m6)(L6:Int):Option m6:=
 ((a1X w).bind λC8=>bif(!C8)then U (m6.mk [] [] [] [])else(H2 L6 0 2).bind λin_=>bif(!in_)then U (m6.mk [] [] [] [])else(b4S w L6).bind λb6v=>(a2A b6v).bind λJ5=>U J5)
def f3f{w L6}:OK d2Q [.agg (N0 w),vi L6] (b7k w L6):=
 t9 _ λr h=>t5<|n9 P3 a3Z 1 h λC8 h=>l9 3 h (λh=>rg<|fE h) (λh=>n9 H0 H9 5 h λin_ h=>l9 7 h (λh=>rg<|fE h) (λh=>rg<|n9 a20 d74 2 h λb6v h=>n9 a0C a7m 3 h λJ5 h=>D4 J5<|fE h))
def a14:FS (Bool):=⟨35,Tryz.f35,[.val [] []],[Z],[.val F4 []],λr=>.b r,λ_=>[Z],Tryz.func35⟩
def c4d:Unit->KS:=λ_=>⟨a14.k 4 [W,W],bs 53 [],[U []]⟩
def e0o:Option Bool:=
 U Y
def f5S(r):NF a14 r c4d (λs=>e0o):=λ_ h=>PK<|rg<|fE h
def e0x(w:m6):Int->KS:=λv14=>⟨a14.k 3 [W],bs 1 (.ptr 1 0 0::bs 10 (n7 27 B3 w.b9::(vi (O w.b9:Int)::(vi v14::bs 38 [])))),[U [],U [.var 28 (F9 w)]]⟩
def c6T(w:m6)(v14:Int):Unit->KS:=λ_=>⟨a14.k 7 [W,Y,W],bs 1 (.ptr 1 0 0::bs 10 (n7 27 B3 w.b9::(vi (O w.b9:Int)::(vi v14::bs 38 [])))),[U [],U [.var 28 (F9 w)]]⟩
def d9Y(v14:Int):Option (n6 Bool Int Unit):=
 U (n6.nxt (s6 (v14+1)))
def f1c(w v14)(lc:J2 a14 c4d (e0x w)):NL lc (c6T w v14) (λs=>d9Y v14):=λ_ h=>PK<|rg<|(lc.nx h λhI=>sk [] [1,12,13,14] [(1,0)] hI)
def c9O(w:m6)(v14:Int)(node:m4):Int->KS:=λv21=>⟨a14.k 6 [W,Y],bs 1 (.ptr 1 0 0::bs 2 (.ptr 2 0 0::bs 7 (n7 27 B3 w.b9::(vi (O w.b9:Int)::(vi v14::bs 4 (n7 27 B3 w.b9::(vi (O w.b9:Int)::(vi v21::bs 31 [])))))))),[U [],U [.var 28 (F9 w)],U [.var 59 (a0z node)]]⟩
def c9C(w:m6)(v14:Int)(node:m4)(v21:Int):Unit->KS:=λ_=>⟨a14.k 10 [W,Y,Y,W],bs 1 (.ptr 1 0 0::bs 2 (.ptr 2 0 0::bs 7 (n7 27 B3 w.b9::(vi (O w.b9:Int)::(vi v14::bs 4 (n7 27 B3 w.b9::(vi (O w.b9:Int)::(vi v21::bs 31 [])))))))),[U [],U [.var 28 (F9 w)],U [.var 59 (a0z node)]]⟩
def d6o(v21:Int):Option (n6 Bool Int Unit):=
 U (n6.nxt (s6 (v21+1)))
def e2L(w v14 node v21)(lc:J2 a14 (c6T w v14) (c9O w v14 node)):NL lc (c9C w v14 node v21) (λs=>d6o v21):=λ_ h=>PK<|rg<|(lc.nx h λhI=>sk [] [1,4,12,13,14,19,20,21] [(1,0),(2,0)] hI)
def e1w(w:m6)(v14:Int)(node:m4)(v21:Int)(node1:m4):Int->KS:=λi=>⟨a14.k 9 [W,Y,Y],bs 1 (.ptr 1 0 0::bs 2 (.ptr 2 0 0::bs 1 (.ptr 3 0 0::(vi i::bs 4 (n7 27 B3 w.b9::(vi (O w.b9:Int)::(vi v14::bs 4 (n7 27 B3 w.b9::(vi (O w.b9:Int)::(vi v21::bs 31 [])))))))))),[U [],U [.var 28 (F9 w)],U [.var 59 (a0z node)],U [.var 59 (a0z node1)]]⟩
def b3E(node:m4)(node1:m4)(i:Int):Option (n6 Bool Int Unit):=
 (bif decide (i<(O node.a9:Int))then bif decide (i<(O node1.a9:Int))then(idx node.a9 i).bind λentry=>(idx node1.a9 i).bind λa4W=>(a0e entry a4W).bind λI8=>bif(!I8)then U (n6.ret W)else U (n6.nxt (s6 (i+1)))else U (n6.brk ())else U (n6.brk ()))
def e72(w v14 node v21 node1):LQ a14 (c9C w v14 node v21) (e1w w v14 node v21 node1) (λs=>b3E node node1 s):=λlc i h=>PK<|rg<|l9 5 h (λh=>l9 11 h (λh=>rg<|A3 x9 3 h λentry K6 h=>A3 x9 8 h λa4W b0D h=>n9 a1G a2k 10 h λI8 h=>l9 11 h (λh=>rg<|fL lc h) (λh=>rg<|(lc.nx h λhI=>sk [] [1,4,6,7,12,13,14,19,20,21] jY hI))) (λh=>lc.bk h λhI=>sk [] [1,4,12,13,14,19,20,21] jy hI)) (λh=>lc.bk h λhI=>sk [] [1,4,12,13,14,19,20,21] jy hI)
def b4H(w:m6)(node:m4)(v21:Int):Option (n6 Bool Int Unit):=
 (bif decide (v21<(O w.b9:Int))then(idx w.b9 v21).bind λnode1=>(u5 (λs:Int=>b3E node node1 s) 0).bind λx=>x.go (λr=>U (n6.ret r)) λs=>d6o v21 else U (n6.brk ()))
def e9p(w v14 node):LQ a14 (c6T w v14) (c9O w v14 node) (λs=>b4H w node s):=λlc v21 h=>PK<|rg<|l9 0 h (λh=>rg<|A3 B3 0 h λnode1 a2P h=>rg<|lp (e72 w v14 node v21 node1) h (λ_ h=>lc.rt h) (e2L w v14 node v21 lc) λhI=>sk [] [1,4,6,7,12,13,14,19,20,21] [(1,0),(2,0),(6,0)] hI) (λh=>lc.bk h λhI=>sk [] [1,12,13,14] jv hI)
def c2u(w:m6)(v14:Int):Option (n6 Bool Int Unit):=
 (bif decide (v14<(O w.b9:Int))then(idx w.b9 v14).bind λnode=>(u5 (λs:Int=>b4H w node s) 0).bind λx=>x.go (λr=>U (n6.ret r)) λs=>d9Y v14 else U (n6.brk ()))
def f3J(w):LQ a14 c4d (e0x w) (λs=>c2u w s):=λlc v14 h=>PK<|rg<|l9 0 h (λh=>rg<|A3 B3 0 h λnode hnode h=>rg<|lp (e9p w v14 node) h (λ_ h=>lc.rt h) (f1c w v14 lc) λhI=>sk [] [1,4,12,13,14,19,20,21] Wq hI) (λh=>lc.bk h λhI=>sk [] [] [] hI)
def b6o(w:m6):Option Bool:=
 ((a1X w).bind λC8=>bif(!C8)then U W else(u5 (λs:Int=>c2u w s) 0).bind λx=>x.go (λr=>U r) λs=>e0o)
def e34{w}:OK a14 [.agg (N0 w)] (b6o w):=
 t9 _ λr h=>t5<|n9 P3 a3Z 1 h λC8 h=>l9 2 h (λh=>rg<|fE h) (λh=>rg<|lp (f3J w) h (λ_ h=>a14.rt h) (f5S r) λhI=>sk [] [1,12,13,14] jv hI)
def a1g:FS (Bool):=⟨36,Tryz.f36,[.val [] []],[Z],[.val F4 []],λr=>.b r,λ_=>[Z],Tryz.func36⟩
def c8j:Unit->KS:=λ_=>⟨a1g.k 4 [W,W],bs 80 [],[U []]⟩
def d65:Option Bool:=
 U Y
def f1z(r):NF a1g r c8j (λs=>d65):=λ_ h=>PK<|rg<|fE h
def d6v(w:m6):Int->KS:=λv16=>⟨a1g.k 3 [W],bs 1 (.ptr 1 0 0::bs 12 (n7 27 B3 w.b9::(vi (O w.b9:Int)::(vi v16::bs 63 [])))),[U [],U [.var 28 (F9 w)]]⟩
def c6O(w:m6)(v16:Int):Unit->KS:=λ_=>⟨a1g.k 7 [W,Y,W],bs 1 (.ptr 1 0 0::bs 12 (n7 27 B3 w.b9::(vi (O w.b9:Int)::(vi v16::bs 63 [])))),[U [],U [.var 28 (F9 w)]]⟩
def c8y(v16:Int):Option (n6 Bool Int Unit):=
 U (n6.nxt (s6 (v16+1)))
def e0P(w v16)(lc:J2 a1g c8j (d6v w)):NL lc (c6O w v16) (λs=>c8y v16):=λ_ h=>PK<|rg<|(lc.nx h λhI=>sk [] [1,14,15,16] [(1,0)] hI)
def d9S(w:m6)(v16:Int)(node:m4):Int->KS:=λv23=>⟨a1g.k 6 [W,Y],bs 1 (.ptr 1 0 0::bs 2 (.ptr 2 0 0::bs 9 (n7 27 B3 w.b9::(vi (O w.b9:Int)::(vi v16::bs 4 (n7 27 B3 w.b9::(vi (O w.b9:Int)::(vi v23::bs 56 [])))))))),[U [],U [.var 28 (F9 w)],U [.var 59 (a0z node)]]⟩
def c60(w:m6)(v16:Int)(node:m4)(v23:Int):Unit->KS:=λ_=>⟨a1g.k 11 [W,Y,Y,W],bs 1 (.ptr 1 0 0::bs 2 (.ptr 2 0 0::bs 9 (n7 27 B3 w.b9::(vi (O w.b9:Int)::(vi v16::bs 4 (n7 27 B3 w.b9::(vi (O w.b9:Int)::(vi v23::bs 56 [])))))))),[U [],U [.var 28 (F9 w)],U [.var 59 (a0z node)]]⟩
def c3z(v23:Int):Option (n6 Bool Int Unit):=
 U (n6.nxt (s6 (v23+1)))
def f4R(w v16 node v23)(lc:J2 a1g (c6O w v16) (d9S w v16 node)):NL lc (c60 w v16 node v23) (λs=>c3z v23):=λ_ h=>PK<|rg<|(lc.nx h λhI=>sk [] [1,4,14,15,16,21,22,23] [(1,0),(2,0)] hI)
def d30(w:m6)(v16:Int)(node:m4)(v23:Int)(node1:m4):Int->KS:=λi=>⟨a1g.k 10 [W,Y,Y],bs 1 (.ptr 1 0 0::bs 2 (.ptr 2 0 0::bs 2 (n7 8 w6 node.Acc.b8::(n7 8 w6 node1.Acc.b8::(vi i::bs 4 (n7 27 B3 w.b9::(vi (O w.b9:Int)::(vi v16::bs 4 (n7 27 B3 w.b9::(vi (O w.b9:Int)::(vi v23::bs 56 []))))))))))),[U [],U [.var 28 (F9 w)],U [.var 59 (a0z node)]]⟩
def e2G(w:m6)(v16:Int)(node:m4)(v23:Int)(node1:m4)(i:Int):Unit->KS:=λ_=>⟨a1g.k 12 [W,Y,Y,Y,W],bs 1 (.ptr 1 0 0::bs 2 (.ptr 2 0 0::bs 2 (n7 8 w6 node.Acc.b8::(n7 8 w6 node1.Acc.b8::(vi i::bs 4 (n7 27 B3 w.b9::(vi (O w.b9:Int)::(vi v16::bs 4 (n7 27 B3 w.b9::(vi (O w.b9:Int)::(vi v23::bs 56 []))))))))))),[U [],U [.var 28 (F9 w)],U [.var 59 (a0z node)]]⟩
def c8D(i:Int):Option (n6 Bool Int Unit):=
 U (n6.nxt (s6 (i+1)))
def f9l(w v16 node v23 node1 i)(lc:J2 a1g (c60 w v16 node v23) (d30 w v16 node v23 node1)):NL lc (e2G w v16 node v23 node1 i) (λs=>c8D i):=λ_ h=>PK<|rg<|(lc.nx h λhI=>sk [] [1,4,7,8,9,14,15,16,21,22,23] [(1,0),(2,0)] hI)
def b5r(node:m4)(node1:m4)(i:Int):Option (n6 Bool Int Unit):=
 (bif decide (i<(O node.Acc.b8:Int))then bif decide (i<(O node1.Acc.b8:Int))then(((idx node.Acc.b8 i).bind λvote=>bif(vote.b5 != 0)then(idx node1.Acc.b8 i).bind λT9=>bif(vote.b5==T9.b5)then(a0e vote.i9 T9.i9).bind λI8=>bif(!I8)then U (r9.ret (n6.ret W))else U (r9.brk ())else U (r9.brk ())else U (r9.brk ())):Option (r9 (n6 Bool Int Unit) Unit)).bind λx=>x.go U λj=>c8D i else U (n6.brk ())else U (n6.brk ()))
def e2y(w v16 node v23 node1):LQ a1g (c60 w v16 node v23) (d30 w v16 node v23 node1) (λs=>b5r node node1 s):=λlc i h=>PK<|rg<|l9 4 h (λh=>l9 9 h (λh=>D5 h (f9l w v16 node v23 node1 i lc) λx4 h hc4=>rg<|A3 w6 2 h λvote N9 h=>l9 6 h (λh=>P7 w6 9 N9<|A3 w6 14 h λT9 a3w h=>l9 19 h (λh=>P7 w6 22 N9<|P7 w6 27 a3w<|n9 a1G a2k 30 h λI8 h=>l9 32 h (λh=>rg<|(E3 h hc4 λh=>fL lc h)) (λh=>u6 h hc4 λhI=>sk [] [1,4,7,8,9,14,15,16,21,22,23] jy hI)) (λh=>u6 h hc4 λhI=>sk [] [1,4,7,8,9,14,15,16,21,22,23] jy hI)) (λh=>u6 h hc4 λhI=>sk [] [1,4,7,8,9,14,15,16,21,22,23] jy hI)) (λh=>lc.bk h λhI=>sk [] [1,4,14,15,16,21,22,23] jy hI)) (λh=>lc.bk h λhI=>sk [] [1,4,14,15,16,21,22,23] jy hI)
def b3k(w:m6)(node:m4)(v23:Int):Option (n6 Bool Int Unit):=
 (bif decide (v23<(O w.b9:Int))then(idx w.b9 v23).bind λnode1=>(u5 (λs:Int=>b5r node node1 s) 0).bind λx=>x.go (λr=>U (n6.ret r)) λs=>c3z v23 else U (n6.brk ()))
def f0z(w v16 node):LQ a1g (c6O w v16) (d9S w v16 node) (λs=>b3k w node s):=λlc v23 h=>PK<|rg<|l9 0 h (λh=>rg<|A3 B3 0 h λnode1 a2P h=>t5<|lp (e2y w v16 node v23 node1) h (λ_ h=>lc.rt h) (f4R w v16 node v23 lc) λhI=>sk [] [1,4,7,8,9,14,15,16,21,22,23] jy hI) (λh=>lc.bk h λhI=>sk [] [1,14,15,16] jv hI)
def b9E(w:m6)(v16:Int):Option (n6 Bool Int Unit):=
 (bif decide (v16<(O w.b9:Int))then(idx w.b9 v16).bind λnode=>(u5 (λs:Int=>b3k w node s) 0).bind λx=>x.go (λr=>U (n6.ret r)) λs=>c8y v16 else U (n6.brk ()))
def e7T(w):LQ a1g c8j (d6v w) (λs=>b9E w s):=λlc v16 h=>PK<|rg<|l9 0 h (λh=>rg<|A3 B3 0 h λnode hnode h=>rg<|lp (f0z w v16 node) h (λ_ h=>lc.rt h) (e0P w v16 lc) λhI=>sk [] [1,4,14,15,16,21,22,23] Wq hI) (λh=>lc.bk h λhI=>sk [] [] [] hI)
def b4l(w:m6):Option Bool:=
 ((a1X w).bind λC8=>bif(!C8)then U W else(u5 (λs:Int=>b9E w s) 0).bind λx=>x.go (λr=>U r) λs=>d65)
def f8M{w}:OK a1g [.agg (N0 w)] (b4l w):=
 t9 _ λr h=>t5<|n9 P3 a3Z 1 h λC8 h=>l9 2 h (λh=>rg<|fE h) (λh=>rg<|lp (e7T w) h (λ_ h=>a1g.rt h) (f1z r) λhI=>sk [] [1,14,15,16] jv hI)
def a6q:FS (Int):=⟨85,Tryz.f85,[.val [] []],[Z,Z,Z],[.val F4 [],.val [] [],.val Q2 []],λr=>vi r,λ_=>[Z,Z,Z],Tryz.func85⟩
def c7B:Int->KS:=λn1=>⟨a6q.k 4 [W],bs 7 (vi n1::bs 40 []),[U []]⟩
def d7p(n1:Int):Option Int:=
 U n1
def f8s(r):NF a6q r c7B (λs=>d7p s):=λn1 h=>PK<|rg<|fE h
def d5l(w:m6)(at_:Int)(e_:p9):(Int×Int)->KS:=λ(v13,n)=>⟨a6q.k 3 [],bs 1 (vi at_::bs 3 (.ptr 1 0 0::bs 1 (vi n::bs 3 (n7 27 B3 w.b9::(vi (O w.b9:Int)::(vi v13::bs 34 [])))))),[U [],U [.var 50 (a4D e_)]]⟩
def e1o(w:m6)(at_:Int)(e_:p9)(v13:Int):Int->KS:=λn2=>⟨a6q.k 7 [Y,Y],bs 1 (vi at_::bs 3 (.ptr 1 0 0::bs 1 (vi n2::bs 3 (n7 27 B3 w.b9::(vi (O w.b9:Int)::(vi v13::bs 34 [])))))),[U [],U [.var 50 (a4D e_)]]⟩
def c5y(v13:Int)(n2:Int):Option (n6 Int (Int×Int) Int):=
 U (n6.nxt (s6 (v13+1),n2))
def f1e(w at_ e_ v13)(lc:J2 a6q c7B (d5l w at_ e_)):NL lc (e1o w at_ e_ v13) (λs=>c5y v13 s):=λn2 h=>PK<|rg<|(lc.nx h λhI=>sk [] [1,5,7,11,12,13] [(1,0)] hI)
def b2K(w:m6)(at_:Int)(e_:p9)(v13:Int)(n:Int):Option (n6 Int (Int×Int) Int):=
 (bif decide (v13<(O w.b9:Int))then(idx w.b9 v13).bind λnode=>((bif decide (at_<(O node.Acc.b8:Int))then(idx node.Acc.b8 at_).bind λvote=>bif(vote.b5 != 0)then(a0e vote.i9 e_).bind λI8=>bif I8 then U (r9.brk (s6 (n+1)))else U (r9.brk n)else U (r9.brk n)else U (r9.brk n)):Option (r9 (n6 Int (Int×Int) Int) Int)).bind λx=>x.go U λj=>c5y v13 j else U (n6.brk n))
def f6K(w at_ e_):LQ a6q c7B (d5l w at_ e_) (λs=>b2K w at_ e_ s.1 s.2):=λlc (v13,n) h=>PK<|rg<|l9 0 h (λh=>rg<|A3 B3 0 h λnode hnode h=>D5 h (f1e w at_ e_ v13 lc) λx2 h hc2=>rg<|l9 6 h (λh=>A3 w6 11 h λvote N9 h=>l9 16 h (λh=>P7 w6 21 N9<|n9 a1G a2k 25 h λI8 h=>l9 26 h (λh=>rg<|(u6 h hc2 λhI=>sk [] [1,5,7,11,12,13] jv hI)) (λh=>u6 h hc2 λhI=>sk [] [1,5,7,11,12,13] jv hI)) (λh=>u6 h hc2 λhI=>sk [] [1,5,7,11,12,13] jv hI)) (λh=>u6 h hc2 λhI=>sk [] [1,5,7,11,12,13] jv hI)) (λh=>lc.bk h λhI=>sk [] [7] [] hI)
def b75(w:m6)(at_:Int)(e_:p9):Option Int:=
 ((u5 (λs:Int×Int=>b2K w at_ e_ s.1 s.2) (0,0)).bind λx=>x.go (λr=>U r) λs=>d7p s)
def e7a{w at_ e_}:OK a6q [.agg (N0 w),vi at_,.agg (x9 e_)] (b75 w at_ e_):=
 t9 _ λr h=>T1<|lp (f6K w at_ e_) h (λ_ h=>a6q.rt h) (f8s r) λhI=>sk [] [1,5,7,11,12,13] Jv hI
def a4p:FS (Bool):=⟨37,Tryz.f37,[.val [] []],[Z],[.val F4 []],λr=>.b r,λ_=>[Z],Tryz.func37⟩
def c2W:Unit->KS:=λ_=>⟨a4p.k 4 [W,W],bs 32 [],[U []]⟩
def d05:Option Bool:=
 U Y
def e9Y(r):NF a4p r c2W (λs=>d05):=λ_ h=>PK<|rg<|fE h
def d7r(w:m6):Int->KS:=λv13=>⟨a4p.k 3 [W],bs 1 (.ptr 1 0 0::bs 9 (n7 27 B3 w.b9::(vi (O w.b9:Int)::(vi v13::bs 18 [])))),[U [],U [.var 28 (F9 w)]]⟩
def d5n(w:m6)(v13:Int):Unit->KS:=λ_=>⟨a4p.k 7 [W,Y,W],bs 1 (.ptr 1 0 0::bs 9 (n7 27 B3 w.b9::(vi (O w.b9:Int)::(vi v13::bs 18 [])))),[U [],U [.var 28 (F9 w)]]⟩
def c6p(v13:Int):Option (n6 Bool Int Unit):=
 U (n6.nxt (s6 (v13+1)))
def e27(w v13)(lc:J2 a4p c2W (d7r w)):NL lc (d5n w v13) (λs=>c6p v13):=λ_ h=>PK<|rg<|(lc.nx h λhI=>sk [] [1,11,12,13] [(1,0)] hI)
def e9j(w:m6)(v13:Int)(node:m4):Int->KS:=λv20=>⟨a4p.k 6 [W,Y],bs 1 (.ptr 1 0 0::bs 9 (n7 27 B3 w.b9::(vi (O w.b9:Int)::(vi v13::bs 4 (n7 7 x9 node.a9::(vi (O node.a9:Int)::(vi v20::bs 11 []))))))),[U [],U [.var 28 (F9 w)]]⟩
def b3R(w:m6)(node:m4)(v20:Int):Option (n6 Bool Int Unit):=
 (bif decide (v20<(O node.a9:Int))then(idx node.a9 v20).bind λentry=>(b75 w v20 entry).bind λd8O=>bif decide (d8O<2)then U (n6.ret W)else U (n6.nxt (s6 (v20+1)))else U (n6.brk ()))
def g0n(w v13 node):LQ a4p (d5n w v13) (e9j w v13 node) (λs=>b3R w node s):=λlc v20 h=>PK<|rg<|l9 0 h (λh=>rg<|A3 x9 1 h λentry K6 h=>rg<|n9 a6q e7a 3 h λd8O h=>l9 4 h (λh=>rg<|fL lc h) (λh=>rg<|(lc.nx h λhI=>sk [] [1,11,12,13,18,19,20] jv hI))) (λh=>lc.bk h λhI=>sk [] [1,11,12,13] jv hI)
def b9A(w:m6)(v13:Int):Option (n6 Bool Int Unit):=
 (bif decide (v13<(O w.b9:Int))then(idx w.b9 v13).bind λnode=>(u5 (λs:Int=>b3R w node s) 0).bind λx=>x.go (λr=>U (n6.ret r)) λs=>c6p v13 else U (n6.brk ()))
def f7X(w):LQ a4p c2W (d7r w) (λs=>b9A w s):=λlc v13 h=>PK<|rg<|l9 0 h (λh=>rg<|A3 B3 0 h λnode hnode h=>rg<|lp (g0n w v13 node) h (λ_ h=>lc.rt h) (e27 w v13 lc) λhI=>sk [] [1,11,12,13,18,19,20] jv hI) (λh=>lc.bk h λhI=>sk [] [] [] hI)
def b4v(w:m6):Option Bool:=
 ((a1X w).bind λC8=>bif(!C8)then U W else(u5 (λs:Int=>b9A w s) 0).bind λx=>x.go (λr=>U r) λs=>d05)
def f6P{w}:OK a4p [.agg (N0 w)] (b4v w):=
 t9 _ λr h=>t5<|n9 P3 a3Z 1 h λC8 h=>l9 2 h (λh=>rg<|fE h) (λh=>rg<|lp (f7X w) h (λ_ h=>a4p.rt h) (e9Y r) λhI=>sk [] [1,11,12,13] jv hI)
def a1Y:FS (Bool):=⟨38,Tryz.f38,[.val [] []],[Z],[.val F4 []],λr=>.b r,λ_=>[Z],Tryz.func38⟩
def b6Z:Unit->KS:=λ_=>⟨a1Y.k 4 [W,W],bs 80 [],[U []]⟩
def d10:Option Bool:=
 U Y
def f3c(r):NF a1Y r b6Z (λs=>d10):=λ_ h=>PK<|rg<|fE h
def c59(w:m6):Int->KS:=λv15=>⟨a1Y.k 3 [W],bs 1 (.ptr 1 0 0::bs 11 (n7 27 B3 w.b9::(vi (O w.b9:Int)::(vi v15::bs 64 [])))),[U [],U [.var 28 (F9 w)]]⟩
def c6m(w:m6)(v15:Int)(node:m4):Unit->KS:=λ_=>⟨a1Y.k 7 [W,Y,W],bs 1 (.ptr 1 0 0::bs 2 (.ptr 2 0 0::bs 8 (n7 27 B3 w.b9::(vi (O w.b9:Int)::(vi v15::bs 64 []))))),[U [],U [.var 28 (F9 w)],U [.var 59 (a0z node)]]⟩
def f1H(w:m6)(v15:Int):Unit->KS:=λ_=>⟨a1Y.k 12 [W,Y,W,W,W,W],bs 1 (.ptr 1 0 0::bs 11 (n7 27 B3 w.b9::(vi (O w.b9:Int)::(vi v15::bs 64 [])))),[U [],U [.var 28 (F9 w)]]⟩
def c45(v15:Int):Option (n6 Bool Int Unit):=
 U (n6.nxt (s6 (v15+1)))
def f8v(w v15)(lc:J2 a1Y b6Z (c59 w)):NL lc (f1H w v15) (λs=>c45 v15):=λ_ h=>PK<|rg<|(lc.nx h λhI=>sk [] [1,13,14,15] [(1,0)] hI)
def c2C(v15:Int)(node:m4):Option (n6 Bool Int Unit):=
 (bif(node.d6 != 3)then U (n6.nxt (s6 (v15+1)))else bif decide ((O node.a9:Int)>=(O node.Acc.b8:Int))then U (n6.ret W)else(idx node.Acc.b8 (O node.a9:Int)).bind λvote=>((bif decide (vote.b5<node.b5)then U (r9.ret (n6.ret W))else bif(vote.b5==node.b5)then(a0e vote.i9 node.g9).bind λI8=>bif(!I8)then U (r9.ret (n6.ret W))else U (r9.brk ())else U (r9.brk ())):Option (r9 (n6 Bool Int Unit) Unit)).bind λx=>x.go U λj=>c45 v15)
def f1U(w v15 node)(lc:J2 a1Y b6Z (c59 w)):NL lc (c6m w v15 node) (λs=>c2C v15 node):=λ_ h=>PK<|rg<|l9 2 h (λh=>rg<|(lc.nx h λhI=>sk [] [1,13,14,15] [(1,0)] hI)) (λh=>t5<|l9 5 h (λh=>rg<|fL lc h) (λh=>rg<|A3 w6 4 h λvote N9 h=>D5 h (f8v w v15 lc) λx2 h hc2=>rg<|l9 5 h (λh=>rg<|(E3 h hc2 λh=>fL lc h)) (λh=>l9 11 h (λh=>n9 a1G a2k 16 h λI8 h=>l9 19 h (λh=>rg<|(E3 h hc2 λh=>fL lc h)) (λh=>u6 h hc2 λhI=>sk [] [1,13,14,15] [(1,0)] hI)) (λh=>u6 h hc2 λhI=>sk [] [1,13,14,15] [(1,0)] hI))))
def d7H(w:m6)(v15:Int)(node:m4):Int->KS:=λv26=>⟨a1Y.k 6 [W,Y],bs 1 (.ptr 1 0 0::bs 2 (.ptr 2 0 0::bs 8 (n7 27 B3 w.b9::(vi (O w.b9:Int)::(vi v15::bs 8 (n7 27 B3 ((w.b9.drop (s6 (v15+1)).toNat).take ((O w.b9)-(s6 (v15+1)).toNat))::(vi (((w.b9.drop (s6 (v15+1)).toNat).take ((O w.b9)-(s6 (v15+1)).toNat)).length:Int)::(vi v26::bs 53 [])))))))),[U [],U [.var 28 (F9 w)],U [.var 59 (a0z node)]]⟩
def f1i(w:m6)(v15:Int)(node:m4)(v26:Int):Unit->KS:=λ_=>⟨a1Y.k 9 [W,Y,Y,W],bs 1 (.ptr 1 0 0::bs 2 (.ptr 2 0 0::bs 8 (n7 27 B3 w.b9::(vi (O w.b9:Int)::(vi v15::bs 8 (n7 27 B3 ((w.b9.drop (s6 (v15+1)).toNat).take ((O w.b9)-(s6 (v15+1)).toNat))::(vi (((w.b9.drop (s6 (v15+1)).toNat).take ((O w.b9)-(s6 (v15+1)).toNat)).length:Int)::(vi v26::bs 53 [])))))))),[U [],U [.var 28 (F9 w)],U [.var 59 (a0z node)]]⟩
def c6G(v26:Int):Option (n6 Bool Int Unit):=
 U (n6.nxt (s6 (v26+1)))
def f4Q(w v15 node v26)(lc:J2 a1Y (c6m w v15 node) (d7H w v15 node)):NL lc (f1i w v15 node v26) (λs=>c6G v26):=λ_ h=>PK<|rg<|(lc.nx h λhI=>sk [] [1,4,13,14,15,24,25,26] [(1,0),(2,0)] hI)
def b32(w:m6)(v15:Int)(node:m4)(v26:Int):Option (n6 Bool Int Unit):=
 (bif decide (v26<(((w.b9.drop (s6 (v15+1)).toNat).take ((O w.b9)-(s6 (v15+1)).toNat)).length:Int))then(idx ((w.b9.drop (s6 (v15+1)).toNat).take ((O w.b9)-(s6 (v15+1)).toNat)) v26).bind λnode1=>((bif(node.b5 != 0)then bif(node.b5==node1.b5)then U (r9.ret (n6.ret W))else U (r9.brk ())else U (r9.brk ())):Option (r9 (n6 Bool Int Unit) Unit)).bind λx=>x.go U λj=>c6G v26 else U (n6.brk ()))
def e7p(w v15 node):LQ a1Y (c6m w v15 node) (d7H w v15 node) (λs=>b32 w v15 node s):=λlc v26 h=>PK<|rg<|l9 0 h (λh=>rg<|A3 B3 0 h λnode1 a2P h=>D5 h (f4Q w v15 node v26 lc) λx3 h hc3=>rg<|l9 3 h (λh=>l9 9 h (λh=>rg<|(E3 h hc3 λh=>fL lc h)) (λh=>u6 h hc3 λhI=>sk [] [1,4,13,14,15,24,25,26] jy hI)) (λh=>u6 h hc3 λhI=>sk [] [1,4,13,14,15,24,25,26] jy hI)) (λh=>lc.bk h λhI=>sk [] [1,4,13,14,15] jy hI)
def c1z(w:m6)(v15:Int):Option (n6 Bool Int Unit):=
 (bif decide (v15<(O w.b9:Int))then(idx w.b9 v15).bind λnode=>z5 ((0:Int)<=s6 (v15+1)/\s6 (v15+1)<=(O w.b9:Int)) (((u5 (λs:Int=>b32 w v15 node s) 0).bind λx=>x.go (λr=>U (n6.ret r)) λs=>c2C v15 node))else U (n6.brk ()))
def e3r(w):LQ a1Y b6Z (c59 w) (λs=>c1z w s):=λlc v15 h=>PK<|rg<|l9 0 h (λh=>rg<|A3 B3 1 h λnode hnode h=>rg<|z9 h λe1 h=>om (V.sl 27 ((O w.b9)-(s6 (v15+1)).toNat) (((w.b9.map B3).drop (s6 (v15+1)).toNat).take ((O w.b9)-(s6 (v15+1)).toNat))=n7 27 B3 ((w.b9.drop (s6 (v15+1)).toNat).take ((O w.b9)-(s6 (v15+1)).toNat))) (b5i e1)<|ob e1.1<|ob e1.2<|tl (4,{v:=U (n7 27 B3 ((w.b9.drop (s6 (v15+1)).toNat).take ((O w.b9)-(s6 (v15+1)).toNat)))})<|lp (e7p w v15 node) h (λ_ h=>lc.rt h) (f1U w v15 node lc) λhI=>sk [] [1,4,13,14,15,24,25,26] [(1,0),(6,0)] hI) (λh=>lc.bk h λhI=>sk [] [] [] hI)
def b5J(w:m6):Option Bool:=
 ((a1X w).bind λC8=>bif(!C8)then U W else(u5 (λs:Int=>c1z w s) 0).bind λx=>x.go (λr=>U r) λs=>d10)
def g0a{w}:OK a1Y [.agg (N0 w)] (b5J w):=
 t9 _ λr h=>t5<|n9 P3 a3Z 1 h λC8 h=>l9 2 h (λh=>rg<|fE h) (λh=>rg<|lp (e3r w) h (λ_ h=>a1Y.rt h) (f3c r) λhI=>sk [] [1,13,14,15] jv hI)
def c31:FS (E u0):=⟨137,Tryz.f137,[.val [U 2] [U 44]],[Z],[.val [U 2] []],λr=>A5 44 2 N8 r,λ_=>[Z],Tryz.func137⟩
def b8R(list:E u0):Option (E u0):=
 (bif((O list:Int)==0)then U []else z5 (0<=(O list:Int)/\(O list:Int)*16<=140737488355328) (z5 ((O list)=(g00 (O list:Int).toNat (u0.mk 0 0)).length) (U list)))
def e8Y{list}:OK c31 [n7 2 N8 list] (b8R list):=
 t9 _ λr h=>t5<|l9 2 h (λh=>rg<|fE h) (λh=>rg<|z9 h λe1 h=>Z0 2 7 44 2 16 N8 (u0.mk 0 0) c5X (.none) e1 (by decide) (by rfl)<|rg<|z9 h λe2 h=>om (x8.row 44 2 (g00 (O list:Int).toNat (u0.mk 0 0)).length (list.map N8)=s5 44 2 N8 list) (a2s e2)<|z0 (g00 (O list:Int).toNat (u0.mk 0 0))<|ob e2<|tl (2,{e:=U (s5 44 2 N8 list)})<|rg<|om ((g00 (O list:Int).toNat (u0.mk 0 0)).length=(O list)) (by simp)<|fE h)
def a5V:FS (E u0):=⟨86,Tryz.f86,[.val [U 2] []],[Z],[.val [U 7] []],λr=>n7 2 N8 r,λ_=>[Z],Tryz.func86⟩
def c8A:(E u0)->KS:=λout1=>⟨a5V.k 6 [W,W],bs 5 (.own 1 0 2 0 (O out1)::bs 30 []),[U [],U [s5 44 2 N8 out1]]⟩
def c5p(out1:E u0):Option (E u0):=
 ((b8R out1).bind λreq=>U req)
def e6b(r):NF a5V r c8A (λs=>c5p s):=λout1 h=>PK<|rg<|cbS c31 e8Y 1 (λ_=>(by simp[c31,Q9,Y3,U6,V.simple,vi,A5,eI,N8])) (λ_=>W1 1) h λreq h=>G6 out1 req<|fE h
def d1y(list:E p9)(w9:A4×E Int):((E u0)×Int)->KS:=λ(out,v18)=>⟨a5V.k 5 [W],bs 4 (.own 1 0 1 0 (O w9.2)::(.own 2 0 2 0 (O out)::bs 10 (n7 7 x9 list::(vi (O list:Int)::(vi v18::bs 17 []))))),[U [],U [s5 3 1 eI w9.2],U [s5 44 2 N8 out]]⟩
def e3i(list:E p9)(w9:A4×E Int)(v18:Int):(E u0)->KS:=λout2=>⟨a5V.k 9 [W,Y,Y],bs 4 (.own 1 0 1 0 (O w9.2)::(.own 2 0 2 0 (O out2)::bs 10 (n7 7 x9 list::(vi (O list:Int)::(vi v18::bs 17 []))))),[U [],U [s5 3 1 eI w9.2],U [s5 44 2 N8 out2]]⟩
def c37(v18:Int)(out2:E u0):Option (n6 (E u0) ((E u0)×Int) (E u0)):=
 U (n6.nxt (out2,s6 (v18+1)))
def e5F(list w9 v18)(lc:J2 a5V c8A (d1y list w9)):NL lc (e3i list w9 v18) (λs=>c37 v18 s):=λout2 h=>PK<|rg<|(lc.nx h λhI=>sk [] [4,5,16,17,18] [(1,0),(2,0)] hI)
def b1b(list:E p9)(w9:A4×E Int)(out:E u0)(v18:Int):Option (n6 (E u0) ((E u0)×Int) (E u0)):=
 (bif decide (v18<(O list:Int))then(idx list v18).bind λentry=>(((idx w9.2 v18).bind λy=>bif(y==0)then z5 (((O out)+1)*16<=140737488355328) (U (r9.brk (out++[entry.b6])))else U (r9.brk out)):Option (r9 (n6 (E u0) ((E u0)×Int) (E u0)) (E u0))).bind λx=>x.go U λj=>c37 v18 j else U (n6.brk out))
def f6s(list w9):LQ a5V c8A (d1y list w9) (λs=>b1b list w9 s.1 s.2):=λlc (out,v18) h=>PK<|rg<|l9 0 h (λh=>rg<|A3 x9 1 h λentry K6 h=>D5 h (e5F list w9 v18 lc) λx2 h hc2=>rg<|D6 h λy hy h=>E2 hy<|M4 eI 3 hy<|l9 4 h (λh=>rg<|tk 3 []<|z9 h λe1 h=>J4 4 19 44 2 16 N8 out entry.b6 e1<|I2 entry.b6<|(u6 h hc2 λhI=>sk [] [4,5,16,17,18] [(1,0),(19,0)] hI)) (λh=>u6 h hc2 λhI=>sk [] [4,5,16,17,18] jy hI)) (λh=>lc.bk h λhI=>sk [] [5] Jv hI)
def b7Z(list:E p9):Option (E u0):=
 ((b0W list).bind λK1=>bif(!K1)then U []else(a9c list).bind λw9=>(u5 (λs:(E u0)×Int=>b1b list w9 s.1 s.2) ([],0)).bind λx=>x.go (λr=>U r) λs=>c5p s)
def e7x{list}:OK a5V [n7 7 x9 list] (b7Z list):=
 t9 _ λr h=>t5<|n9 a6P c7Y 1 h λK1 h=>l9 2 h (λh=>rg<|fE h) (λh=>rg<|n9 a4w b66 1 h λw9 h=>t5<|lp (f6s list w9) h (λ_ h=>a5V.rt h) (e6b r) λhI=>sk [.own (.tmp 5) 44 2] [4,5,16,17,18] [(6,2),(17,0)] hI)
def b0G:FS ((E t8)×Bool):=⟨87,Tryz.f87,[.val [U 4] [U 88],.val [] []],[Z,Z],[.val F4 [],.val [] []],λr=>.tup [A5 88 4 C2 r.1,.b r.2],λ_=>[Z,Z],Tryz.func87⟩
def d4d:Unit->KS:=λ_=>⟨b0G.k 3 [W],bs 23 [],[U []]⟩
def d8a:Option ((E t8)×Bool):=
 U ([],W)
def e38(r):NF b0G r d4d (λs=>d8a):=λ_ h=>PK<|rg<|fE h
def e2Y(w:m6)(q:u0):Int->KS:=λv11=>⟨b0G.k 2 [],bs 3 (.ptr 1 0 0::bs 5 (n7 3 C9 w.i4::(vi (O w.i4:Int)::(vi v11::bs 11 [])))),[U [],U [.var 44 [vi q.i0,vi q.Seq]]]⟩
def b74(w:m6)(q:u0)(v11:Int):Option (n6 ((E t8)×Bool) Int Unit):=
 (bif decide (v11<(O w.i4:Int))then(idx w.i4 v11).bind λasked=>bif(([asked.b6.i0,asked.b6.Seq]:E Int)==[q.i0,q.Seq])then(a9a asked.j8).bind λins=>U (n6.ret (ins,Y))else U (n6.nxt (s6 (v11+1)))else U (n6.brk ()))
def e5y(w q):LQ b0G d4d (e2Y w q) (λs=>b74 w q s):=λlc v11 h=>PK<|rg<|l9 0 h (λh=>rg<|A3 C9 0 h λasked a9n h=>rg<|l9 3 h (λh=>rg<|n9 b7v c40 2 h λins h=>z0 ins<|fL lc h) (λh=>rg<|(lc.nx h λhI=>sk [] [3,9,10,11] jv hI))) (λh=>lc.bk h λhI=>sk [] [] [] hI)
def b8F(w:m6)(q:u0):Option ((E t8)×Bool):=
 ((u5 (λs:Int=>b74 w q s) 0).bind λx=>x.go (λr=>U r) λs=>d8a)
def e5C{w q}:OK b0G [.agg (N0 w),.agg (N8 q)] (b8F w q):=
 t9 _ λr h=>t5<|lp (e5y w q) h (λ_ h=>b0G.rt h) (e38 r) λhI=>sk [] [3,9,10,11] Jv hI
def c9N:FS ((E t7)×Int×Int):=⟨140,Tryz.f140,[.val [U 2] [],.val [] [],.val [] []],[Z,Z],[.val [U 2] [],.val [U 4] []],λr=>.tup [n7 2 B9 r.1,vi r.2.1,vi r.2.2],λ_=>[Z,Z],Tryz.func140⟩
def c0p(list:E t7)(prog:E t8):Option ((E t7)×Int×Int):=
 ((b6B list prog).bind λE9=>bif(E9.Code==3)then U ([],0,3)else(b4w list E9).bind λb2L=>U (b2L,E9.i8,E9.Code))
def f9X{list prog}:OK c9N [n7 2 B9 list,n7 4 C2 prog] (c0p list prog):=
 t9 _ λr h=>t5<|n9 V9 d0E 2 h λE9 h=>rg<|l9 2 h (λh=>rg<|fE h) (λh=>rg<|n9 a7Y d4i 2 h λb2L h=>z0 b2L<|fE h)
def c4b:FS (E Int):=⟨141,Tryz.f141,[.val [U 1] [U 3]],[Z],[.val [U 1] []],λr=>A5 3 1 eI r,λ_=>[Z],Tryz.func141⟩
def b7m(list:E Int):Option (E Int):=
 (bif((O list:Int)==0)then U []else z5 (0<=(O list:Int)/\(O list:Int)*8<=140737488355328) (z5 ((O list)=(g00 (O list:Int).toNat (0:Int)).length) (U list)))
def e5G{list}:OK c4b [n7 1 eI list] (b7m list):=
 t9 _ λr h=>t5<|l9 2 h (λh=>rg<|fE h) (λh=>rg<|z9 h λe1 h=>Z0 2 7 3 1 8 eI (0:Int) ti3 (.none) e1 (by decide) (by rfl)<|rg<|z9 h λe2 h=>om (x8.row 3 1 (g00 (O list:Int).toNat (0:Int)).length (list.map eI)=s5 3 1 eI list) (a2s e2)<|z0 (g00 (O list:Int).toNat (0:Int))<|ob e2<|tl (2,{e:=U (s5 3 1 eI list)})<|rg<|om ((g00 (O list:Int).toNat (0:Int)).length=(O list)) (by simp)<|fE h)
def a97:FS ((E t7)×E Int):=⟨88,Tryz.f88,[.val [U 2] [],.val [U 1] []],[Z,Z],[.val [U 2] [],.val [U 1] []],λr=>.tup [n7 2 B9 r.1,n7 1 eI r.2],λ_=>[Z,Z],Tryz.func88⟩
def d4b:((E Int)×E t7)->KS:=λ(vals1,now1)=>⟨a97.k 6 [W,W],bs 6 (n7 2 B9 now1::(.own 1 0 1 0 (O vals1)::bs 39 [])),[U [],U [s5 3 1 eI vals1]]⟩
def c2b(vals1:E Int)(now1:E t7):Option ((E t7)×E Int):=
 ((b7m vals1).bind λint=>U (now1,int))
def f6i(r):NF a97 r d4b (λs=>c2b s.1 s.2):=λ(vals1,now1) h=>PK<|rg<|cbS c4b e5G 2 (λ_=>(by simp[c4b,Q9,Y3,U6,V.simple,vi,A5,eI])) (λ_=>W1 1) h λint h=>G6 vals1 int<|fE h
def e4e(progs:E (E t8)):((E Int)×Int×E t7)->KS:=λ(vals,v25,now)=>⟨a97.k 5 [W],bs 6 (n7 2 B9 now::(.own 1 0 1 0 (O vals)::bs 15 (n7 1 b1N progs::(vi (O progs:Int)::(vi v25::bs 21 []))))),[U [],U [s5 3 1 eI vals]]⟩
def b0R(progs:E (E t8))(vals:E Int)(v25:Int)(now:E t7):Option (n6 ((E t7)×E Int) ((E Int)×Int×E t7) ((E Int)×E t7)):=
 (bif decide (v25<(O progs:Int))then(idx progs v25).bind λy=>(c0p now y).bind λT4=>bif(T4.2.2==3)then U (n6.ret ([],[]))else z5 (((O vals)+1)*8<=140737488355328) (U (n6.nxt (vals++[T4.2.1],s6 (v25+1),T4.1)))else U (n6.brk (vals,now)))
def e4z(progs):LQ a97 d4b (e4e progs) (λs=>b0R progs s.1 s.2.1 s.2.2):=λlc (vals,v25,now) h=>PK<|rg<|l9 0 h (λh=>rg<|A3 b1N 0 h λy hy h=>rg<|n9 c9N f9X 2 h λT4 h=>rg<|l9 1 h (λh=>rg<|fL lc h) (λh=>t5<|tk 2 []<|z9 h λe1 h=>J4 3 23 3 1 8 eI vals T4.2.1 e1<|I2 T4.2.1<|rg<|(lc.nx h λhI=>sk [] [6,7,23,24,25] [(23,0)] hI))) (λh=>lc.bk h λhI=>sk [] [6,7] jv hI)
def b7y(list:E t7)(progs:E (E t8)):Option ((E t7)×E Int):=
 ((a7v list).bind λa0s=>bif(!a0s)then U ([],[])else bif decide ((O progs:Int)>100)then U ([],[])else(a9G list).bind λbox=>(u5 (λs:(E Int)×Int×E t7=>b0R progs s.1 s.2.1 s.2.2) ([],0,box)).bind λx=>x.go (λr=>U r) λs=>c2b s.1 s.2)
def e8x{list progs}:OK a97 [n7 2 B9 list,n7 1 b1N progs] (b7y list progs):=
 t9 _ λr h=>t5<|n9 a4i b5f 1 h λa0s h=>l9 3 h (λh=>rg<|fE h) (λh=>l9 7 h (λh=>rg<|fE h) (λh=>rg<|n9 c1R c4Q 1 h λbox h=>t5<|lp (e4z progs) h (λ_ h=>a97.rt h) (f6i r) λhI=>z0 box<|sk [.frz (.tmp 6) (Z),.own (.tmp 7) 3 1] [6,7,23,24,25] [(18,0)] hI))
def b0w:FS (Bool):=⟨142,Tryz.f142,[.val [] []],[Z,Z],[.val [U 2] [],.val [U 2] []],λr=>.b r,λ_=>[Z,Z],Tryz.func142⟩
def d7Z:Unit->KS:=λ_=>⟨b0w.k 4 [W,W],bs 26 [],[U []]⟩
def d3o:Option Bool:=
 U Y
def f3r(r):NF b0w r d7Z (λs=>d3o):=λ_ h=>PK<|rg<|fE h
def e05(a:E t7)(b:E t7):Int->KS:=λv13=>⟨b0w.k 3 [W],n7 2 B9 a::(n7 2 B9 b::bs 10 (vi (O a:Int)::(vi v13::bs 12 []))),[U []]⟩
def b65(a:E t7)(b:E t7)(v13:Int):Option (n6 Bool Int Unit):=
 (bif decide (v13<(O a:Int))then(idx a v13).bind λbox=>(idx b v13).bind λa0j=>bif(!(([box.l8,box.i8]:E Int)==[a0j.l8,a0j.i8]))then U (n6.ret W)else U (n6.nxt (s6 (v13+1)))else U (n6.brk ()))
def e8i(a b):LQ b0w d7Z (e05 a b) (λs=>b65 a b s):=λlc v13 h=>PK<|rg<|l9 0 h (λh=>t5<|A3 B9 2 h λbox a3B h=>A3 B9 6 h λa0j b0L h=>l9 8 h (λh=>rg<|fL lc h) (λh=>rg<|(lc.nx h λhI=>sk [] [0,1,12,13] [] hI))) (λh=>lc.bk h λhI=>sk [] [] [] hI)
def c6V(a:E t7)(b:E t7):Option Bool:=
 (bif((O a:Int) != (O b:Int))then U W else(u5 (λs:Int=>b65 a b s) 0).bind λx=>x.go (λr=>U r) λs=>d3o)
def g0s{a b}:OK b0w [n7 2 B9 a,n7 2 B9 b] (c6V a b):=
 t9 _ λr h=>t5<|l9 4 h (λh=>rg<|fE h) (λh=>rg<|lp (e8i a b) h (λ_ h=>b0w.rt h) (f3r r) λhI=>sk [] [0,1,12,13] [] hI)
def d2Z:FS (Bool):=⟨90,Tryz.f90,[.val [] []],[Z,Z],[.val [U 2] [],.val [U 2] []],λr=>.b r,λ_=>[Z,Z],Tryz.func90⟩
def b8a(a:E t7)(b:E t7):Option Bool:=
 ((c6V a b).bind λbox=>U box)
def f1r{a b}:OK d2Z [n7 2 B9 a,n7 2 B9 b] (b8a a b):=
 t9 _ λr h=>t5<|n9 b0w g0s 2 h λbox h=>fE h
def a3P:FS (Bool):=⟨39,Tryz.f39,[.val [] []],[Z],[.val F4 []],λr=>.b r,λ_=>[Z],Tryz.func39⟩
def d1l(worldLog:E p9)(F5:E u0):(E (E t8))->KS:=λb1l=>⟨a3P.k 7 [W,W],bs 3 (n7 7 x9 worldLog::(n7 2 N8 F5::(.own 1 0 1 0 (O b1l)::bs 74 []))),[U [],U [s5 37 1 b1N b1l]]⟩
def d18:Unit->KS:=λ_=>⟨a3P.k 11 [W,W,W,W],bs 80 [],[U []]⟩
def e0f:Option Bool:=
 U Y
def e5n(r):NF a3P r d18 (λs=>e0f):=λ_ h=>PK<|rg<|fE h
def f6E(worldLog:E p9)(F5:E u0)(T6:(E t7)×E Int):Int->KS:=λv61=>⟨a3P.k 10 [W,W,W],bs 3 (n7 7 x9 worldLog::bs 7 (n7 1 eI T6.2::bs 47 (n7 2 N8 F5::(vi (O F5:Int)::(vi v61::bs 18 []))))),[U []]⟩
def b9h(worldLog:E p9)(F5:E u0)(T6:(E t7)×E Int)(v61:Int):Option (n6 Bool Int Unit):=
 (bif decide (v61<(O F5:Int))then(idx F5 v61).bind λreq=>(idx T6.2 v61).bind λy=>(a8m worldLog req).bind λfirst=>(idx worldLog first).bind λentry=>bif(y != entry.g8.i8)then U (n6.ret W)else U (n6.nxt (s6 (v61+1)))else U (n6.brk ()))
def e9r(worldLog F5 T6):LQ a3P d18 (f6E worldLog F5 T6) (λs=>b9h worldLog F5 T6 s):=λlc v61 h=>PK<|rg<|l9 0 h (λh=>rg<|A3 N8 1 h λreq g0P h=>rg<|A3 eI 2 h λy hy h=>n9 a3h b4x 7 h λfirst h=>A3 x9 8 h λentry K6 h=>l9 12 h (λh=>rg<|fL lc h) (λh=>rg<|(lc.nx h λhI=>sk [] [3,11,59,60,61] [] hI))) (λh=>lc.bk h λhI=>sk [] [] [] hI)
def b3G(worldLog:E p9)(F5:E u0)(b1l:E (E t8)):Option Bool:=
 ((b4L).bind λa4X=>(b7y a4X b1l).bind λT6=>(b46 worldLog).bind λa4O=>(b8a T6.1 a4O.j4).bind λd5u=>bif(!d5u)then U W else bif((O T6.2:Int) != (O F5:Int))then U W else(u5 (λs:Int=>b9h worldLog F5 T6 s) 0).bind λx=>x.go (λr=>U r) λs=>e0f)
def e2H(worldLog F5)(r):NF a3P r (d1l worldLog F5) (λs=>b3G worldLog F5 s):=λb1l h=>PK<|rg<|n9 c6P d0v 0 h λa4X h=>n9 a97 e8x 2 h λT6 h=>G6 a4X b1l<|rg<|n9 c6S d4D 2 h λa4O h=>X9 d2Z f1r 4 2 h λd5u h=>z0 a4O.j4<|l9 6 h (λh=>rg<|fE h) (λh=>l9 12 h (λh=>rg<|fE h) (λh=>rg<|lp (e9r worldLog F5 T6) h (λ_ h=>a3P.rt h) (e5n r) λhI=>sk [] [3,11,59,60,61] [] hI))
def f3X(w:m6)(worldLog:E p9)(F5:E u0):((E (E t8))×Int)->KS:=λ(progs,v23)=>⟨a3P.k 6 [W],bs 1 (.ptr 1 0 0::bs 1 (n7 7 x9 worldLog::(n7 2 N8 F5::(.own 2 0 1 0 (O progs)::bs 15 (n7 2 N8 F5::(vi (O F5:Int)::(vi v23::bs 56 []))))))),[U [],U [.var 28 (F9 w)],U [s5 37 1 b1N progs]]⟩
def a8h(w:m6)(F5:E u0)(progs:E (E t8))(v23:Int):Option (n6 Bool ((E (E t8))×Int) (E (E t8))):=
 (bif decide (v23<(O F5:Int))then(idx F5 v23).bind λd9Q=>(b8F w d9Q).bind λb11=>bif(!b11.2)then U (n6.ret W)else z5 (((O progs)+1)*24<=140737488355328) (U (n6.nxt (progs++[b11.1],s6 (v23+1))))else U (n6.brk progs))
def g0J(w worldLog F5):LQ a3P (d1l worldLog F5) (f3X w worldLog F5) (λs=>a8h w F5 s.1 s.2):=λlc (progs,v23) h=>PK<|rg<|l9 0 h (λh=>rg<|A3 N8 0 h λd9Q g0R h=>rg<|n9 b0G e5C 2 h λb11 h=>rg<|l9 1 h (λh=>rg<|fL lc h) (λh=>rg<|z0 b11.1<|tk 2 [U 4]<|z9 h λe1 h=>J4 3 21 37 1 24 b1N progs b11.1 e1<|I2 b11.1<|rg<|(lc.nx h λhI=>sk [] [1,3,4,5,21,22,23] [(1,0),(21,0)] hI))) (λh=>lc.bk h λhI=>sk [] [3,4,5] Jv hI)
def b9q(w:m6):Option Bool:=
 ((a1X w).bind λC8=>bif(!C8)then U W else(a8p w).bind λworldLog=>(b7Z worldLog).bind λF5=>(u5 (λs:(E (E t8))×Int=>a8h w F5 s.1 s.2) ([],0)).bind λx=>x.go (λr=>U r) λs=>b3G worldLog F5 s)
def f0b{w}:OK a3P [.agg (N0 w)] (b9q w):=
 t9 _ λr h=>t5<|n9 P3 a3Z 1 h λC8 h=>l9 2 h (λh=>rg<|fE h) (λh=>rg<|n9 a3S c2B 1 h λworldLog h=>rg<|n9 a5V e7x 1 h λF5 h=>t5<|lp (g0J w worldLog F5) h (λ_ h=>a3P.rt h) (e2H worldLog F5 r) λhI=>sk [.own (.tmp 5) 37 1] [1,3,4,5,21,22,23] [(1,0),(16,0)] hI)
def a55:FS (Bool):=⟨40,Tryz.f40,[.val [] []],[Z],[.val F4 []],λr=>.b r,λ_=>[Z],Tryz.func40⟩
def c6H:Unit->KS:=λ_=>⟨a55.k 6 [W,W],bs 56 [],[U []]⟩
def d2m:Option Bool:=
 U Y
def f9h(r):NF a55 r c6H (λs=>d2m):=λ_ h=>PK<|rg<|fE h
def d8z(w:m6)(worldLog:E p9)(w9:A4×E Int):Int->KS:=λv23=>⟨a55.k 5 [W],bs 3 (n7 7 x9 worldLog::bs 1 (.own 1 0 1 0 (O w9.2)::bs 15 (n7 5 B6 w.Told::(vi (O w.Told:Int)::(vi v23::bs 32 []))))),[U [],U [s5 3 1 eI w9.2]]⟩
def f3U(w:m6)(worldLog:E p9)(w9:A4×E Int)(v23:Int)(told:s8):Int->KS:=λval=>⟨a55.k 12 [W,Y,W,Y],bs 3 (n7 7 x9 worldLog::bs 1 (.own 1 0 1 0 (O w9.2)::bs 1 (.ptr 2 0 0::bs 1 (vi val::bs 11 (n7 5 B6 w.Told::(vi (O w.Told:Int)::(vi v23::bs 32 []))))))),[U [],U [s5 3 1 eI w9.2],U [.var 66 [vi told.Node,vi told.b6.i0,vi told.b6.Seq,vi told.Code,vi told.i8]]]⟩
def c8u(v23:Int)(told:s8)(val:Int):Option (n6 Bool Int Unit):=
 (bif(told.i8 != val)then U (n6.ret W)else U (n6.nxt (s6 (v23+1))))
def e9g(w worldLog w9 v23 told)(lc:J2 a55 c6H (d8z w worldLog w9)):NL lc (f3U w worldLog w9 v23 told) (λs=>c8u v23 told s):=λval h=>PK<|rg<|l9 3 h (λh=>rg<|fL lc h) (λh=>rg<|(lc.nx h λhI=>sk [] [3,5,21,22,23] [(1,0)] hI))
def c0B(w:m6)(worldLog:E p9)(w9:A4×E Int)(v23:Int):Option (n6 Bool Int Unit):=
 (bif decide (v23<(O w.Told:Int))then(idx w.Told v23).bind λtold=>(a8m worldLog told.b6).bind λfirst=>bif decide (first<0)then U (n6.ret W)else(idx w9.2 first).bind λy=>bif(y != told.Code)then U (n6.ret W)else((bif(told.Code==0)then(idx worldLog first).bind λentry=>U (r9.brk entry.g8.i8)else U (r9.brk 0)):Option (r9 (n6 Bool Int Unit) Int)).bind λx=>x.go U λj=>c8u v23 told j else U (n6.brk ()))
def e4M(w worldLog w9):LQ a55 c6H (d8z w worldLog w9) (λs=>c0B w worldLog w9 s):=λlc v23 h=>PK<|rg<|l9 0 h (λh=>rg<|A3 B6 0 h λtold a6h h=>rg<|n9 a3h b4x 3 h λfirst h=>rg<|l9 2 h (λh=>rg<|fL lc h) (λh=>D6 h λy hy h=>E2 hy<|M4 eI 6 hy<|l9 10 h (λh=>rg<|fL lc h) (λh=>rg<|D5 h (e9g w worldLog w9 v23 told lc) λx2 h hc2=>rg<|l9 2 h (λh=>rg<|A3 x9 2 h λentry K6 h=>u6 h hc2 λhI=>sk [] [3,5,7,9,21,22,23] Wq hI) (λh=>u6 h hc2 λhI=>sk [] [3,5,7,9,21,22,23] Wq hI)))) (λh=>lc.bk h λhI=>sk [] [] [] hI)
def b6u(w:m6):Option Bool:=
 ((a1X w).bind λC8=>bif(!C8)then U W else(a8p w).bind λworldLog=>(a9c worldLog).bind λw9=>(u5 (λs:Int=>c0B w worldLog w9 s) 0).bind λx=>x.go (λr=>U r) λs=>d2m)
def f6w{w}:OK a55 [.agg (N0 w)] (b6u w):=
 t9 _ λr h=>t5<|n9 P3 a3Z 1 h λC8 h=>l9 2 h (λh=>rg<|fE h) (λh=>rg<|n9 a3S c2B 1 h λworldLog h=>rg<|n9 a4w b66 1 h λw9 h=>rg<|lp (e4M w worldLog w9) h (λ_ h=>a55.rt h) (f9h r) λhI=>sk [] [3,5,21,22,23] [(10,2)] hI)
def b0m:FS (Bool):=⟨41,Tryz.f41,[.val [] []],[Z],[.val F4 []],λr=>.b r,λ_=>[Z],Tryz.func41⟩
def d7I:Unit->KS:=λ_=>⟨b0m.k 5 [W,W],bs 25 [],[U []]⟩
def d6W:Option Bool:=
 U Y
def f3G(r):NF b0m r d7I (λs=>d6W):=λ_ h=>PK<|rg<|fE h
def f3R(w:m6):((E u0)×Int)->KS:=λ(w1,v13)=>⟨b0m.k 4 [W],bs 3 (.mp 1 0::bs 7 (n7 5 B6 w.Told::(vi (O w.Told:Int)::(vi v13::bs 11 [])))),[U [],U [.map 140 2 (w1.map λx=>(L7 x,.b Y))]]⟩
def b3x(w:m6)(w1:E u0)(v13:Int):Option (n6 Bool ((E u0)×Int) Unit):=
 (bif decide (v13<(O w.Told:Int))then(idx w.Told v13).bind λtold=>bif(w1.any λx=>L7 told.b6==L7 x)then U (n6.ret W)else U (n6.nxt (a9C L7 w1 told.b6,s6 (v13+1)))else U (n6.brk ()))
def f8J(w):LQ b0m d7I (f3R w) (λs=>b3x w s.1 s.2):=λlc (w1,v13) h=>PK<|rg<|l9 0 h (λh=>rg<|A3 B6 0 h λtold a6h h=>rg<|cdT (3,{v:=U (.b (w1.any λx=>L7 told.b6==L7 x))}) h (λ_ h=>om (a4x (w1.map λx=>(L7 x,.b Y)) (L7 told.b6) (.b W)=.b (w1.any λx=>L7 told.b6==L7 x)) (c6Z L7 _ _)<|rg<|fL lc h) (λ_ h=>om (a4x (w1.map λx=>(L7 x,.b Y)) (L7 told.b6) (.b W)=.b (w1.any λx=>L7 told.b6==L7 x)) (c6Z L7 _ _)<|rg<|om (x8.map 140 2 (a3e (w1.map λx=>(L7 x,.b Y)) (L7 told.b6) (.b Y))=.map 140 2 ((a9C L7 w1 told.b6).map λx=>(L7 x,.b Y))) (congrArg (x8.map 140 2) (d56 L7 _ _))<|tl (3,{e:=U (.map 140 2 ((a9C L7 w1 told.b6).map λx=>(L7 x,.b Y)))})<|rg<|(lc.nx h λhI=>sk [] [3,11,12,13] jv hI))) (λh=>lc.bk h λhI=>sk [] [] [] hI)
def b56(w:m6):Option Bool:=
 ((a1X w).bind λC8=>bif(!C8)then U W else(u5 (λs:(E u0)×Int=>b3x w s.1 s.2) (([]:E u0),0)).bind λx=>x.go (λr=>U r) λs=>d6W)
def g0t{w}:OK b0m [.agg (N0 w)] (b56 w):=
 t9 _ λr h=>t5<|n9 P3 a3Z 1 h λC8 h=>l9 2 h (λh=>rg<|fE h) (λh=>t5<|lp (f8J w) h (λ_ h=>b0m.rt h) (f3G r) λhI=>sk [] [3,11,12,13] [(6,0)] hI)
def d22:FS (Bool):=⟨16,Tryz.f16,[.val [] []],[Z],[.val F4 []],λr=>.b r,λ_=>[Z],Tryz.func16⟩
def b9K(w:m6):Option Bool:=
 ((b6o w).bind λc9c=>bif c9c then(b4l w).bind λe0j=>bif e0j then(b4v w).bind λd2s=>bif d2s then(b5J w).bind λd9p=>bif d9p then(b9q w).bind λb0c=>bif b0c then(b6u w).bind λd1n=>bif d1n then(b56 w).bind λd1Q=>U d1Q else U W else U W else U W else U W else U W else U W)
def f5V{w}:OK d22 [.agg (N0 w)] (b9K w):=
 t9 _ λr h=>t5<|n9 a14 e34 1 h λc9c h=>l9 2 h (λh=>n9 a1g f8M 4 h λe0j h=>l9 6 h (λh=>n9 a4p f6P 8 h λd2s h=>l9 10 h (λh=>n9 a1Y g0a 12 h λd9p h=>l9 14 h (λh=>n9 a3P f0b 16 h λb0c h=>l9 18 h (λh=>n9 a55 f6w 20 h λd1n h=>l9 22 h (λh=>n9 b0m g0t 24 h λd1Q h=>fE h) (λh=>fE h)) (λh=>fE h)) (λh=>fE h)) (λh=>fE h)) (λh=>fE h)) (λh=>fE h)
def a1y:FS (Bool):=⟨3,Tryz.f3,[.val [] []],[Z],[.val [U 1] []],λr=>.b r,λ_=>[Z],Tryz.func3⟩
def d7l(worldLog:E p9):m6->KS:=λw1=>⟨a1y.k 8 [W,W,W,W],bs 3 (.ptr 1 0 0::(n7 7 x9 worldLog::bs 94 [])),[U [],U [.var 28 [n7 27 B3 w1.b9,n7 13 x7 w1.c9,n7 3 C9 w1.i4,n7 5 B6 w1.Told]]]⟩
def d9D(worldLog:E p9)(w1:m6)(calmAt:Int):m6->KS:=λx_1=>⟨a1y.k 13 [W,W,W,W,W],bs 4 (n7 7 x9 worldLog::bs 1 (vi (O w1.Told:Int)::(vi calmAt::(.ptr 1 0 0::bs 90 [])))),[U [],U [.var 28 [n7 27 B3 x_1.b9,n7 13 x7 x_1.c9,n7 3 C9 x_1.i4,n7 5 B6 x_1.Told]]]⟩
def d6x(w1:m6)(calmAt:Int)(x_1:m6):Unit->KS:=λ_=>⟨a1y.k 16 [W,W,W,W,W,W],bs 6 (vi (O w1.Told:Int)::(vi calmAt::(.ptr 1 0 0::bs 90 []))),[U [],U [.var 28 [n7 27 B3 x_1.b9,n7 13 x7 x_1.c9,n7 3 C9 x_1.i4,n7 5 B6 x_1.Told]]]⟩
def c3h(w1:m6)(calmAt:Int)(x_1:m6):Option Bool:=
 (bif decide (calmAt>=0)then(b3F x_1).bind λb2j=>bif b2j then bif((O x_1.Told:Int)==(O w1.Told:Int))then(b9K x_1).bind λd6z=>U d6z else U W else U W else U W)
def f1u(w1 calmAt x_1)(r):NF a1y r (d6x w1 calmAt x_1) (λs=>c3h w1 calmAt x_1):=λ_ h=>PK<|rg<|l9 2 h (λh=>n9 a6n d7o 4 h λb2j h=>l9 6 h (λh=>l9 13 h (λh=>n9 d22 f5V 15 h λd6z h=>fE h) (λh=>fE h)) (λh=>fE h)) (λh=>fE h)
def e2i(worldLog:E p9)(w1:m6)(calmAt:Int)(x_1:m6)(worldLog1:E p9):Int->KS:=λi2=>⟨a1y.k 15 [W,W,W,W,W],bs 4 (n7 7 x9 worldLog::bs 1 (vi (O w1.Told:Int)::(vi calmAt::(.ptr 1 0 0::bs 1 (n7 7 x9 worldLog1::(vi i2::bs 87 [])))))),[U [],U [.var 28 [n7 27 B3 x_1.b9,n7 13 x7 x_1.c9,n7 3 C9 x_1.i4,n7 5 B6 x_1.Told]]]⟩
def b8m(worldLog:E p9)(worldLog1:E p9)(i2:Int):Option (n6 Bool Int Unit):=
 (bif decide (i2<(O worldLog:Int))then bif decide (i2>=(O worldLog1:Int))then U (n6.ret W)else(idx worldLog i2).bind λentry=>(idx worldLog1 i2).bind λa4W=>(a0e entry a4W).bind λI8=>bif(!I8)then U (n6.ret W)else U (n6.nxt (s6 (i2+1)))else U (n6.brk ()))
def f0U(worldLog w1 calmAt x_1 worldLog1):LQ a1y (d6x w1 calmAt x_1) (e2i worldLog w1 calmAt x_1 worldLog1) (λs=>b8m worldLog worldLog1 s):=λlc i2 h=>PK<|rg<|l9 3 h (λh=>rg<|l9 4 h (λh=>rg<|fL lc h) (λh=>A3 x9 7 h λentry K6 h=>A3 x9 11 h λa4W b0D h=>n9 a1G a2k 13 h λI8 h=>l9 15 h (λh=>rg<|fL lc h) (λh=>rg<|(lc.nx h λhI=>sk [] [4,6,7,8,10,11] jv hI)))) (λh=>lc.bk h λhI=>sk [] [6,7,8] jv hI)
def c0W(worldLog:E p9)(w1:m6)(calmAt:Int)(x_1:m6):Option Bool:=
 ((a8p x_1).bind λworldLog1=>(u5 (λs:Int=>b8m worldLog worldLog1 s) 0).bind λx=>x.go (λr=>U r) λs=>c3h w1 calmAt x_1)
def e7f(worldLog w1 calmAt)(r):NF a1y r (d9D worldLog w1 calmAt) (λs=>c0W worldLog w1 calmAt s):=λx_1 h=>PK<|rg<|n9 a3S c2B 1 h λworldLog1 h=>rg<|lp (f0U worldLog w1 calmAt x_1 worldLog1) h (λ_ h=>a1y.rt h) (f1u w1 calmAt x_1 r) λhI=>sk [] [4,6,7,8,10,11] jv hI
def f5P(worldLog:E p9)(w1:m6)(calmAt:Int):(Int×m6)->KS:=λ(i1,x_)=>⟨a1y.k 12 [W,W,W,W],bs 4 (n7 7 x9 worldLog::bs 1 (vi (O w1.Told:Int)::(vi calmAt::(.ptr 1 0 0::(vi i1::bs 89 []))))),[U [],U [.var 28 [n7 27 B3 x_.b9,n7 13 x7 x_.c9,n7 3 C9 x_.i4,n7 5 B6 x_.Told]]]⟩
def a7Z(calmAt:Int)(i1:Int)(x_:m6):Option (n6 Bool (Int×m6) m6):=
 (bif decide (i1<calmAt)then(b7k x_ 1).bind λc8V=>U (n6.nxt (s6 (i1+1),c8V))else U (n6.brk x_))
def f9g(worldLog w1 calmAt):LQ a1y (d9D worldLog w1 calmAt) (f5P worldLog w1 calmAt) (λs=>a7Z calmAt s.1 s.2):=λlc (i1,x_) h=>PK<|rg<|l9 2 h (λh=>rg<|n9 d2Q f3f 1 h λc8V h=>rg<|(lc.nx h λhI=>sk [] [4,6,7,8,9] jv hI)) (λh=>lc.bk h λhI=>sk [] [4,6,7,8] jv hI)
def c1V(worldLog:E p9)(w1:m6):Option Bool:=
 ((b8q w1 1 4).bind λcalmAt=>(u5 (λs:Int×m6=>a7Z calmAt s.1 s.2) (0,w1)).bind λx=>x.go (λr=>U r) λs=>c0W worldLog w1 calmAt s)
def f1O(worldLog)(r):NF a1y r (d7l worldLog) (λs=>c1V worldLog s):=λw1 h=>PK<|t5<|n9 a9Z e1h 1 h λcalmAt h=>t5<|lp (f9g worldLog w1 calmAt) h (λ_ h=>a1y.rt h) (e7f worldLog w1 calmAt r) λhI=>sk [] [4,6,7,8,9] [(10,0)] hI
def e61(worldLog:E p9):(Int×m6)->KS:=λ(i,w)=>⟨a1y.k 7 [W,W,W],bs 3 (.ptr 1 0 0::(n7 7 x9 worldLog::(vi i::bs 93 []))),[U [],U [.var 28 [n7 27 B3 w.b9,n7 13 x7 w.c9,n7 3 C9 w.i4,n7 5 B6 w.Told]]]⟩
def a5o(i:Int)(w:m6):Option (n6 Bool (Int×m6) m6):=
 (bif decide (i<3)then(b99 w (v6.mk 7 i [])).bind λd2A=>U (n6.nxt (s6 (i+1),d2A))else U (n6.brk w))
def f5G(worldLog):LQ a1y (d7l worldLog) (e61 worldLog) (λs=>a5o s.1 s.2):=λlc (i,w) h=>PK<|rg<|l9 1 h (λh=>rg<|n9 d1e f3y 3 h λd2A h=>rg<|(lc.nx h λhI=>sk [] [3,4,5] jv hI)) (λh=>lc.bk h λhI=>sk [] [3,4] jv hI)
def c4T(code:E Int):Option Bool:=
 (bif decide ((O code:Int)>1048576)then U Y else(c0K).bind λb1t=>(b48 code).bind λd6k=>(b0U b1t d6k).bind λb1f=>(b3y).bind λa61=>(b48 code).bind λc6b=>(b6T a61 c6b).bind λa30=>(c2H b1f a30).bind λa9X=>bif(!a9X)then U W else bif((O b1f.b9:Int) != 3)then U W else(a8p b1f).bind λworldLog=>bif decide ((O worldLog:Int)>25)then U Y else(u5 (λs:Int×m6=>a5o s.1 s.2) (0,b1f)).bind λx=>x.go (λr=>U r) λs=>c1V worldLog s)
def g0L{code}:OK a1y [n7 1 P4 code] (c4T code):=
 t9 _ λr h=>t5<|l9 2 h (λh=>rg<|fE h) (λh=>rg<|n9 a9J e23 0 h λb1t h=>n9 c7X d9U 2 h λd6k h=>n9 a87 f9c 3 h λb1f h=>rg<|n9 a63 d91 1 h λa61 h=>n9 c7X d9U 3 h λc6b h=>D6 h λa30 e7d h=>om (a1n cx.P 8 [.agg [.sl 27 (O a61.b9) (a0R (a61.b9.map B8)),n7 13 x7 a61.c9,n7 3 C9 a61.i4,n7 5 B6 a61.Told],n7 3 L2 c6b] (a5R.R a30) (a5R.Θ a30)) (by simp only[b1w b3f];exact(e1i a30 e7d))<|D4 a61<|tl (a5R.t 4 W a30)<|D6 h λa9X f0m h=>om (a1n cx.P 7 [.agg (N0 b1f),.agg [.sl 27 (O a30.b9) (a0R (a30.b9.map B8)),n7 13 x7 a30.c9,n7 3 C9 a30.i4,n7 5 B6 a30.Told]] (a0r.R a9X) (a0r.Θ a9X)) (by simp only[b1w b3f];exact(f6r a9X f0m))<|osc a0r a9X rfl (W1 2)<|D4 a30<|tl (a0r.t 5 Y a9X)<|l9 7 h (λh=>rg<|fE h) (λh=>l9 12 h (λh=>rg<|fE h) (λh=>rg<|n9 a3S c2B 1 h λworldLog h=>rg<|l9 2 h (λh=>rg<|fE h) (λh=>rg<|lp (f5G worldLog) h (λ_ h=>a1y.rt h) (f1O worldLog r) λhI=>sk [] [3,4,5] [(9,0)] hI))))
def f6D:b1c Tryz.prog 5 P4 a7b:=f1A Tryz.underlying5
def f8q:b1c Tryz.prog 22 (λl:List Int=>[n7 1 P4 l]) (C4 1 a7b):=f2R Tryz.underlying22 f6D (by kernel_rfl) (by decide) (by kernel_rfl) (λ_=>rfl)
def F6{n:Int}(h1:-9223372036854775808<=n)(h2:n<=9223372036854775807):s6 n=n:=IntWalk.i64_in n ⟨h1,h2⟩
def z4{C:Type}(l:List C):Prop:=(O l)<=140737488351232
def J0{C:Type}{l:List C}(hl:z4 l){k:Nat}(h:k<(O l)):s6 ((k:Int)+1)=((k+1:Nat):Int):=by
 unfold z4 at hl;rw[F6 (by omega) (by omega)];omega
section
variable {R S B:Type} {body:S->Option (n6 R S B)}
def G7{s t:S}(h:body s=U (.nxt t)):u5 body s=u5 body t:=by rw[c68,h]
def F3{s:S}{b:B}(h:body s=U (.brk b)):u5 body s=U (.brk b):=by rw[c68,h]
def a0o{s:S}{r:R}(h:body s=U (.ret r)):u5 body s=U (.ret r):=by rw[c68,h]
def a0Y(st:Nat->S)(n:Nat)(h:∀k,k<n->body (st k)=U (.nxt (st (k+1)))):u5 body (st 0)=u5 body (st n):=by
 induction n with
 |zero=>rfl
 |succ n ih=>
  rw[ih λk hk=>h k (by omega)];exact G7 (h n (by omega))
def a6Z(st:Nat->S)(n:Nat)(ok:Nat->Bool)(r:Nat->R)(b:B)(h1:∀k,k<n->(∀j,j<k->ok j=Y)->body (st k)=U (bif ok k then .nxt (st (k+1))else .ret (r k)))(h2:(∀j,j<n->ok j=Y)->body (st n)=U (.brk b)) :
  (u5 body (st 0)=U (.brk b)/\∀j,j<n->ok j=Y)\/∃k,k<n/\ok k=W/\(∀j,j<k->ok j=Y)/\u5 body (st 0)=U (.ret (r k)):=by
 by_cases hall:∀j,j<n->ok j=Y
 ·left
  refine⟨?_,hall⟩;rw[a0Y st n λk hk => ?_]
  ·exact F3 (h2 hall)
  ·rw[h1 k hk λj hj=>hall j (by omega),hall k hk];rfl
 ·right
  have hex:∃k,k<n/\ok k=W:=by
   apply g2Z;intro hn;apply hall;intro j hj;cases hj':ok j with
   |true=>rfl
   |false=>exact absurd ⟨j,hj,hj'⟩ hn
  obtain⟨k,hk,ho,hb⟩:∃k,k<n/\ok k=W/\∀j,j<k->ok j=Y:=by
   obtain⟨k,hk,ho⟩:=hex;induction k using Nat.strongRecOn with
   |_ k ih=>
    by_cases hb:∀j,j<k->ok j=Y
    ·exact⟨k,hk,ho,hb⟩
    ·have:∃j,j<k/\ok j=W:=by
      apply g2Z;intro hn;apply hb;intro j hj;cases hj':ok j with
      |true=>rfl
      |false=>exact absurd ⟨j,hj,hj'⟩ hn
     obtain⟨j,hj,hjo⟩:=this;exact ih j hj (by omega) hjo
  refine⟨k,hk,ho,hb,?_⟩;rw[a0Y st k λj hj => ?_]
  ·refine a0o ?_;rw[h1 k hk hb,ho];rfl
  ·rw[h1 j (by omega) λi hi=>hb i (by omega),hb j hj];rfl
end
def c4C{R S B:Type}{body:S->Option (n6 R S B)}(I:Nat->S->Prop)(Q:r9 R B->Prop)(h:∀k s,I k s->∃st,body s=U st/\match st with | .ret r=>Q (.ret r) | .brk b=>Q (.brk b) | .nxt t => ∃k',k'<k/\I k' t):∀{k s},I k s->∃x,u5 body s=U x/\Q x:=by
 intro k;induction k using Nat.strongRecOn with
 |_ k ih=>
  intro s hs;obtain⟨st,hb,hq⟩:=h k s hs;cases st with
  |ret r=>exact⟨_,a0o hb,hq⟩
  |brk b=>exact⟨_,F3 hb,hq⟩
  |nxt t=>
   obtain⟨k',hk,ht⟩:=hq;obtain⟨x,hx,hq⟩:=ih k' hk ht;exact⟨x,by rw[G7 hb];exact hx,hq⟩
def A6{β:Type}{p:Prop}[Decidable p](h:p)(k:Option β):z5 p k=k:=if_pos h
def a66{C:Type}(l:List C)(k:Nat):idx l (k:Int)=l[k]?:=by
 unfold idx;rw[if_pos (by omega)];rfl
def z8{C:Type}{l:List C}{k:Nat}(h:k<(O l)):idx l (k:Int)=U l[k]:=by
 rw[a66,g0Y h]
def B0{C:Type}(l:List C)(k:Nat)(h:k<(O l)):decide ((k:Int)<(O l:Int))=Y:=by simpa using h
def C1{C:Type}(l:List C):decide ((O l:Int)<(O l:Int))=W:=by simp
def O5{C B:Type}{body:Int->Option (n6 Bool Int B)}(l:List C)(hl:z4 l)(ok:C->Bool)(v:Bool)(b:B)(h1:∀(k:Nat) (h:k<(O l)),body (k:Int)=U (bif ok l[k]then .nxt (s6 ((k:Int)+1))else .ret v))(h2:body (O l:Int)=U (.brk b)):u5 body 0=U (bif l.all ok then .brk b else .ret v):=by
 have h:=a6Z (body:=body) (λk=>(k:Int)) (O l) (λk=>match l[k]? with|some x=>ok x|none=>Y) (λ_=>v) b
  (λk hk _=>by
   have:=h1 k hk;rw[J0 hl hk]at this;simpa[g0Y hk]using this) (λ_=>h2)
 rcases h with⟨h,hall⟩|⟨k,hk,ho,_,h⟩
 ·have:l.all ok=Y:=by
   rw[g05];intro x hx;obtain⟨i,hi,rfl⟩:=g1E hx;have:=hall i hi;simpa[g0Y hi]using this
  rw[this];exact h
 ·have:l.all ok=W:=by
   rw[g2y];refine⟨l[k],g01 hk,?_⟩;simpa[g0Y hk]using ho
  rw[this];exact h
def a3Y{C B:Type}{body:Int->Option (n6 Bool Int B)}(l:List C)(hl:z4 l)(ok:Nat->Bool)(v:Bool)(b:B)(h1:∀(k:Nat) (h:k<(O l)),(∀j,j<k->ok j=Y)->body (k:Int)=U (bif ok k then .nxt (s6 ((k:Int)+1))else .ret v))(h2:body (O l:Int)=U (.brk b)):u5 body 0=U (bif(g09 (O l)).all ok then .brk b else .ret v):=by
 have h:=a6Z (body:=body) (λk=>(k:Int)) (O l) ok (λ_=>v) b
  (λk hk hb=>by
   have:=h1 k hk hb;rw[J0 hl hk]at this;exact this) (λ_=>h2)
 rcases h with⟨h,hall⟩|⟨k,hk,ho,_,h⟩
 ·have:(g09 (O l)).all ok=Y:=by
   rw[g05];intro x hx;exact hall x (by simpa using hx)
  rw[this];exact h
 ·have:(g09 (O l)).all ok=W:=by
   rw[g2y];exact⟨k,by simpa using hk,by simp[ho]⟩
  rw[this];exact h
def b9j{C R B:Type}{body:Int->Option (n6 R Int B)}(l:List C)(hl:z4 l)(is:C->Bool)(f:C->R)(b:B)(h1:∀(k:Nat) (h:k<(O l)),body (k:Int)=U (bif is l[k]then .ret (f l[k])else .nxt (s6 ((k:Int)+1))))(h2:body (O l:Int)=U (.brk b)):u5 body 0=U (match l.find? is with|some x=>.ret (f x)|none=>.brk b):=by
 have key:∀(m k:Nat),k+m=(O l)->u5 body (k:Int)=U (match (l.drop k).find? is with|some x=>.ret (f x)|none=>.brk b):=by
  intro m;induction m with
  |zero=>
   intro k hk;have:k=(O l):=by omega
   subst this;rw[List.drop_length];exact F3 h2
  |succ m ih=>
   intro k hk;have hlt:k<(O l):=by omega
   have hb:=h1 k hlt;rw[g1q hlt,g2w];cases hq:is l[k]with
   |true=>
    rw[hq]at hb;exact a0o hb
   |false=>
    rw[hq]at hb;rw[G7 hb,J0 hl hlt];exact ih (k+1) (by omega)
 have:=key (O l) 0 (by omega);simpa using this
def d9A{C S R B:Type}{body:S×Int->Option (n6 R (S×Int) B)}(l:List C)(hl:z4 l)(g:S->C->S)(s0:S)(b:S->B)(h1:∀(k:Nat) (h:k<(O l)),body ((l.take k).foldl g s0,(k:Int))=U (.nxt (g ((l.take k).foldl g s0) l[k],s6 ((k:Int)+1))))(h2:body (l.foldl g s0,(O l:Int))=U (.brk (b (l.foldl g s0)))):u5 body (s0,0)=U (.brk (b (l.foldl g s0))):=by
 have h:=a0Y (body:=body) (λk=>((l.take k).foldl g s0,(k:Int))) (O l) (λk hk=>by
  rw[h1 k hk,J0 hl hk,g1u hk,List.foldl_append];rfl)
 simp only[g1P,g23,g1n]at h;rw[show((0:Nat):Int)=0 from rfl]at h;rw[h];exact F3 h2
def c41(x:u0):Prop:=N5 x.i0/\N5 x.Seq
def d6A(x:w8):Prop:=N5 x.j7/\N5 x.l8
def d3g(x:u9):Prop:=N5 x.j7/\N5 x.i8
def b7w(x:s9):Prop:=(C4 16 d6A) x.d8/\(C4 16 d3g) x.f0/\N5 x.i8/\N5 x.Code
def I5(x:p9):Prop:=c41 x.b6/\b7w x.g8
def Z5(x:s7):Prop:=N5 x.b5/\I5 x.i9
def a7q(x:B4):Prop:=N5 x.i7/\(C4 96 Z5) x.b8
def b6s(x:t8):Prop:=N5 x.b7/\N5 x.A/\N5 x.B/\N5 x.N
def V8(x:m4):Prop:=N5 x.Id/\a7q x.Acc/\(C4 88 I5) x.a9/\N5 x.Seq/\N5 x.d6/\N5 x.b5/\(C4 1 okT) x.d7/\(C4 96 Z5) x.j5/\I5 x.g9/\(C4 1 okT) x.b8/\(C4 32 b6s) x.j8/\I5 x.d9/\(C4 88 I5) x.i5
def a1L(x:m9):Prop:=N5 x.b7/\N5 x.d7/\N5 x.To/\N5 x.b5/\N5 x.i6/\I5 x.i9/\(C4 96 Z5) x.b8
def d6Q(x:B2):Prop:=c41 x.b6/\(C4 32 b6s) x.j8
def d7c(x:s8):Prop:=N5 x.Node/\c41 x.b6/\N5 x.Code/\N5 x.i8
def X6(x:m6):Prop:=(C4 392 V8) x.b9/\(C4 152 a1L) x.c9/\(C4 40 d6Q) x.i4/\(C4 40 d7c) x.Told
def C4.fits{C:Type}{bytes:Nat}{ok:C->Prop}{l:List C}(h:C4 bytes ok l)(hb:0<bytes):z4 l:=by
 obtain⟨h,_⟩:=h;unfold z4;have:(O l)*1<=(O l)*bytes:=Nat.mul_le_mul_left _ hb;omega
def a3q(x:s9):Prop:=C4 16 okT x.d8/\C4 16 okT x.f0/\True
def a24(x:p9):Prop:=True/\a3q x.g8
def C4.imp{C:Type}{bytes:Nat}{ok ok':C->Prop}{l:List C}(h:C4 bytes ok l)(hi:∀x,ok x->ok' x):C4 bytes ok' l:=⟨h.1,λx hx=>hi x (h.2 x hx)⟩
def b7w.f{x:s9}(h:b7w x):a3q x:=⟨h.1.imp λ_ _=>trivial,h.2.1.imp λ_ _=>trivial,trivial⟩
def I5.f{x:p9}(h:I5 x):a24 x:=⟨trivial,h.2.f⟩
def okEntries.f{l:List p9}(h:C4 88 I5 l):C4 88 a24 l:=h.imp λ_ x=>x.f
def O3(l:List w8)(box:Int):Bool:=l.any (·.j7==box)
def P8(l:List u9)(box:Int):Bool:=l.any (·.j7==box)
def d07{l:List w8}(h:z4 l)(box:Int):b3u l box=U (O3 l box):=by
 unfold b3u;rw[O5 l h (λx => !(x.j7==box)) Y ()]
 ·unfold O3;rw[List.any_eq_not_all_not];cases l.all λx => !(x.j7==box)<;>rfl
 ·intro k hk;unfold c2A;rw[B0 l k hk,z8 hk];cases hq:l[k].j7==box<;>simp[hq]
 ·unfold c2A;rw[C1];rfl
def d4m{C B:Type}{body:Int->Option (n6 Int Int B)}(l:List C)(hl:z4 l)(is:C->Bool)(b:B)(h1:∀(k:Nat) (h:k<(O l)),body (k:Int)=U (bif is l[k]then .ret (k:Int)else .nxt (s6 ((k:Int)+1))))(h2:body (O l:Int)=U (.brk b)):(u5 body 0=U (.brk b)/\l.any is=W)\/∃k:Nat,u5 body 0=U (.ret (k:Int))/\l.any is=Y:=by
 have h:=a6Z (body:=body) (λk=>(k:Int)) (O l) (λk=>match l[k]? with|some x => !is x|none=>Y) (λk=>(k:Int)) b
  (λk hk _=>by
   have:=h1 k hk;rw[J0 hl hk]at this;rw[this];simp only[g0Y hk];cases is l[k]<;>rfl) (λ_=>h2)
 rcases h with⟨h,hall⟩|⟨k,hk,ho,_,h⟩
 ·left
  refine⟨h,?_⟩;rw[g1K];intro x hx;obtain⟨i,hi,rfl⟩:=g1E hx;have:=hall i hi;simpa[g0Y hi]using this
 ·right
  refine⟨k,h,?_⟩;rw[g2e];refine⟨l[k],g01 hk,?_⟩;simpa[g0Y hk]using ho
def e6U{l:List u9}(h:z4 l)(box:Int):∃v,a76 l box=U v/\decide (v>=0)=P8 l box:=by
 unfold a76;rcases d4m (body:=λs:Int=>a8x l box s) l h (λx=>x.j7==box) () (by
  intro k hk;unfold a8x;rw[B0 l k hk,z8 hk];cases hq:l[k].j7==box<;>simp[hq]) (by unfold a8x;rw[C1];rfl)with⟨h1,h2⟩|⟨k,h1,h2⟩
 ·rw[h1];exact⟨-1,rfl,h2.symm⟩
 ·rw[h1];refine⟨k,rfl,?_⟩;rw[show P8 l box=Y from h2];simp
def f9Z{x:s9}(h:z4 x.d8)(box:Int):∃v,b37 x box=U v/\decide (v>=0)=O3 x.d8 box:=by
 unfold b37;rcases d4m (body:=λs:Int=>b59 x box s) x.d8 h (λx=>x.j7==box) () (by
  intro k hk;unfold b59;rw[B0 x.d8 k hk,z8 hk];cases hq:x.d8[k].j7==box<;>simp[hq]) (by unfold b59;rw[C1];rfl)with⟨h1,h2⟩|⟨k,h1,h2⟩
 ·rw[h1];exact⟨-1,rfl,h2.symm⟩
 ·rw[h1];refine⟨k,rfl,?_⟩;rw[show O3 x.d8 box=Y from h2];simp
def v5(n lo hi:Int):Bool:=decide (lo<=n/\n<=hi)
def Q7(n lo hi:Int):H2 n lo hi=U (v5 n lo hi):=by
 unfold H2 v5;by_cases h:n>=lo
 ·have h':lo<=n:=h;simp[h']
 ·have h':¬lo<=n:=h;simp[h']
def a8U(n:Int):a7W n=U (v5 n (-1000000) 1000000):=Q7 n (-1000000) 1000000
def c3q(n:Int):b0j n=U (v5 n 0 3):=by
 rw[<-Q7];unfold b0j H2;have:(n<4)=(n<=3):=by apply propext;omega
 simp only[this]
def b7L(q:u0):a75 q=U (v5 q.i0 0 2&&v5 q.Seq 1 1000):=by
 unfold a75;simp only[Q7,g0X];cases v5 q.i0 0 2<;>rfl
def c3B(q:u0):b1y q=U (v5 q.i0 0 2&&v5 q.Seq 1 1000):=by
 have h3:(q.i0<3)=(q.i0<=2):=by apply propext;omega
 unfold b1y v5;simp only[h3];by_cases h1:q.i0>=0<;>by_cases h2:q.i0<=2<;>by_cases h4:q.Seq>=1<;>by_cases h5:q.Seq<=1000<;>simp[h1,h2,h4,h5]<;>omega
def a0X(l:List w8)(k:Nat):Bool:=match l[k]? with
 |some x=>v5 x.j7 0 3&&(v5 x.l8 0 1000000 && !O3 (l.take k) x.j7)
 |none=>Y
def a0S(l:List u9)(k:Nat):Bool:=match l[k]? with
 |some x=>v5 x.j7 0 3&&(v5 x.i8 (-1000000) 1000000 && !P8 (l.take k) x.j7)
 |none=>Y
def d3X{C:Type}{l:List C}(h:z4 l)(k:Nat):z4 (l.take k):=by
 unfold z4 at h⊢;rw[g1l];omega
def f2q{r:s9}(h:z4 r.d8):u5 (λs:Int=>b3J r s) 0=U (bif(g09 (O r.d8)).all (a0X r.d8)then .brk ()else .ret W):=by
 refine a3Y r.d8 h (a0X r.d8) W () ?_ ?_
 ·intro k hk _;unfold b3J a0X z5;rw[B0 _ k hk,z8 hk,g0Y hk];have hp:(0:Int)<=(k:Int)/\(k:Int)<=(O r.d8:Int):=by constructor<;>omega
  simp only[g25,g0X,if_pos hp,c3q,g1p,Nat.sub_zero,g2a,d07 (d3X h k)];cases v5 r.d8[k].j7 0 3
  ·rfl
  ·unfold v5;by_cases h1:r.d8[k].l8<0
   ·have h1':¬0<=r.d8[k].l8:=by omega
    simp[h1,h1']
   ·have h1':0<=r.d8[k].l8:=by omega
    by_cases h2:r.d8[k].l8>1000000
    ·have h2':¬r.d8[k].l8<=1000000:=by omega
     simp[h1,h1',h2,h2']
    ·have h2':r.d8[k].l8<=1000000:=by omega
     simp only[h1,h1',h2,h2',decide_false,decide_true,g04,g26,g1h,and_self];cases O3 (r.d8.take k) r.d8[k].j7<;>rfl
 ·unfold b3J;rw[C1];rfl
def e9O{r:s9}(h:z4 r.f0):u5 (λs:Int=>b5d r s) 0=U (bif(g09 (O r.f0)).all (a0S r.f0)then .brk ()else .ret W):=by
 refine a3Y r.f0 h (a0S r.f0) W () ?_ ?_
 ·intro k hk _;obtain⟨v,hv,hg⟩:=e6U (d3X h k) r.f0[k].j7;unfold b5d a0S z5;rw[B0 _ k hk,z8 hk,g0Y hk];have hp:(0:Int)<=(k:Int)/\(k:Int)<=(O r.f0:Int):=by constructor<;>omega
  simp only[g25,g0X,if_pos hp,c3q,a8U,g1p,Nat.sub_zero,g2a,hv,hg];cases v5 r.f0[k].j7 0 3
  ·rfl
  ·cases v5 r.f0[k].i8 (-1000000) 1000000
   ·rfl
   ·cases P8 (r.f0.take k) r.f0[k].j7<;>rfl
 ·unfold b5d;rw[C1];rfl
def b1P(f:Int->Bool):List Bool:=[f 0,f 1,f 2,f 3]
def c9p{f:Int->Bool}{b:Int}(h:v5 b 0 3=Y):idx (b1P f) b=U (f b)/\b<4:=by
 have h:0<=b/\b<=3:=by simpa[v5]using h
 have:b=0\/b=1\/b=2\/b=3:=by omega
 rcases this with rfl|rfl|rfl|rfl<;>exact⟨rfl,by decide⟩
def c9T{f g:Int->Bool}{b:Int}(h:v5 b 0 3=Y)(hb:g b=Y)(hne:∀c,c≠b->g c=f c):(b1P f).set b.toNat Y=b1P g:=by
 have h:0<=b/\b<=3:=by simpa[v5]using h
 have:b=0\/b=1\/b=2\/b=3:=by omega
 unfold b1P;rcases this with rfl|rfl|rfl|rfl
 all_goals
  rw[show [g 0,g 1,g 2,g 3]=_ from rfl];first
   |rw[hb,hne 1 (by decide),hne 2 (by decide),hne 3 (by decide)];rfl
   |rw[hb,hne 0 (by decide),hne 2 (by decide),hne 3 (by decide)];rfl
   |rw[hb,hne 0 (by decide),hne 1 (by decide),hne 3 (by decide)];rfl
   |rw[hb,hne 0 (by decide),hne 1 (by decide),hne 2 (by decide)];rfl
def d8G{l:List w8}{k:Nat}(hk:k<(O l))(b:Int):O3 (l.take (k+1)) b=(O3 (l.take k) b||(l[k].j7==b)):=by
 unfold O3;rw[g1u hk,List.any_append];simp
def d4I{l:List u9}{k:Nat}(hk:k<(O l))(b:Int):P8 (l.take (k+1)) b=(P8 (l.take k) b||(l[k].j7==b)):=by
 unfold P8;rw[g1u hk,List.any_append];simp
def e9l{l:List w8}{k:Nat}(hk:k<(O l))(c:Int)(hc:c≠l[k].j7):O3 (l.take (k+1)) c=O3 (l.take k) c:=by
 have:(l[k].j7==c)=W:=by simpa using λh=>hc h.symm
 rw[d8G hk,this,Bool.or_false]
def f5g{l:List u9}{k:Nat}(hk:k<(O l))(c:Int)(hc:c≠l[k].j7):P8 (l.take (k+1)) c=P8 (l.take k) c:=by
 have:(l[k].j7==c)=W:=by simpa using λh=>hc h.symm
 rw[d4I hk,this,Bool.or_false]
def d2l{R S B:Type}{x:Option (r9 R B)}{n:Nat}{ok:Nat->Bool}{r:R}{b:B}(h:(x=U (.brk b)/\∀j,j<n->ok j=Y)\/∃k,k<n/\ok k=W/\(∀j,j<k->ok j=Y)/\x=U (.ret r)):x=U (bif(g09 n).all ok then .brk b else .ret r):=by
 rcases h with⟨h,hall⟩|⟨k,hk,ho,_,h⟩
 ·have:(g09 n).all ok=Y:=by
   rw[g05];intro x hx;exact hall x (by simpa using hx)
  rw[this];exact h
 ·have:(g09 n).all ok=W:=by
   rw[g2y];exact⟨k,by simpa using hk,by simp[ho]⟩
  rw[this];exact h
def f6R{r:s9}(h:z4 r.d8):u5 (λs:List Bool×Int=>b2S r s.1 s.2) (g00 4 W,0)=U (bif(g09 (O r.d8)).all (a0X r.d8)then .brk ()else .ret W):=by
 refine d2l (S:=List Bool×Int) (a6Z (body:=λs:List Bool×Int=>b2S r s.1 s.2) (λk=>(b1P (O3 (r.d8.take k)),(k:Int))) (O r.d8) (a0X r.d8) (λ_=>W) () ?_ ?_)
 ·intro k hk _;simp only;unfold b2S a0X z5;rw[B0 _ k hk,z8 hk,g0Y hk];simp only[g25,g0X,Q7];cases hb:v5 r.d8[k].j7 0 3
  ·rfl
  ·obtain⟨h1,h2⟩:=c9p (f:=O3 (r.d8.take k)) hb;rw[h1];simp only[if_pos h2,g04,g26,g0X,g1h];cases hs:O3 (r.d8.take k) r.d8[k].j7
   ·cases v5 r.d8[k].l8 0 1000000
    ·rfl
    ·simp only[g04,g26,g1y,g1h,g25];rw[c9T (f:=O3 (r.d8.take k)) (g:=O3 (r.d8.take (k+1))) hb (by rw[d8G hk];simp) (e9l hk),J0 h hk]
   ·cases v5 r.d8[k].l8 0 1000000<;>rfl
 ·intro _;simp only;unfold b2S;rw[C1];rfl
def e3F{r:s9}(h:z4 r.f0):u5 (λs:List Bool×Int=>b2g r s.1 s.2) (g00 4 W,0)=U (bif(g09 (O r.f0)).all (a0S r.f0)then .brk ()else .ret W):=by
 refine d2l (S:=List Bool×Int) (a6Z (body:=λs:List Bool×Int=>b2g r s.1 s.2) (λk=>(b1P (P8 (r.f0.take k)),(k:Int))) (O r.f0) (a0S r.f0) (λ_=>W) () ?_ ?_)
 ·intro k hk _;simp only;unfold b2g a0S z5;rw[B0 _ k hk,z8 hk,g0Y hk];simp only[g25,g0X,Q7];cases hb:v5 r.f0[k].j7 0 3
  ·rfl
  ·obtain⟨h1,h2⟩:=c9p (f:=P8 (r.f0.take k)) hb;rw[h1];simp only[if_pos h2,g04,g26,g0X,g1h];cases hs:P8 (r.f0.take k) r.f0[k].j7
   ·cases v5 r.f0[k].i8 (-1000000) 1000000
    ·rfl
    ·simp only[g04,g26,g1y,g1h,g25];rw[c9T (f:=P8 (r.f0.take k)) (g:=P8 (r.f0.take (k+1))) hb (by rw[d4I hk];simp) (f5g hk),J0 h hk]
   ·cases v5 r.f0[k].i8 (-1000000) 1000000<;>rfl
 ·intro _;simp only;unfold b2g;rw[C1];rfl
def a0k(r:s9):Bool:=v5 r.Code 0 3&&(v5 r.i8 (-1000000) 1000000&&((r.Code==0||(r.i8==0&&(O r.f0)==0))&&((r.Code != 3||(O r.d8)==0)&&((g09 (O r.d8)).all (a0X r.d8)&&(g09 (O r.f0)).all (a0S r.f0)))))
def f7s{r:s9}(h:a3q r):b86 r=U ((g09 (O r.d8)).all (a0X r.d8)&&(g09 (O r.f0)).all (a0S r.f0)):=by
 unfold b86 c7k;rw[f2q (h.1.fits (by decide)),e9O (h.2.1.fits (by decide))];cases(g09 (O r.d8)).all (a0X r.d8)<;>cases(g09 (O r.f0)).all (a0S r.f0)<;>rfl
def f3W{r:s9}(h:a3q r):c0e r=U ((g09 (O r.d8)).all (a0X r.d8)&&(g09 (O r.f0)).all (a0S r.f0)):=by
 unfold c0e c8v;rw[f6R (h.1.fits (by decide)),e3F (h.2.1.fits (by decide))];cases(g09 (O r.d8)).all (a0X r.d8)<;>cases(g09 (O r.f0)).all (a0S r.f0)<;>rfl
def d38{C:Type}(l:List C):decide ((O l:Int)>0) = !((O l)==0):=by
 cases l<;>simp
def d03{r:s9}(h:a3q r):b3O r=U (a0k r):=by
 unfold b3O a0k;rw[f7s h];simp only[a8U,d38,g0X,r9.go];generalize ((g09 (O r.d8)).all (a0X r.d8)&&(g09 (O r.f0)).all (a0S r.f0))=z;generalize ((O r.f0)==0)=a;generalize ((O r.d8)==0)=b;generalize v5 r.i8 (-1000000) 1000000=c;have h3:v5 r.Code 0 3=(!decide (r.Code<0) && !decide (r.Code>3)):=by
  unfold v5;by_cases h1:r.Code<0<;>by_cases h2:r.Code>3<;>simp[h1,h2]<;>omega
 rw[h3];unfold bne;cases decide (r.Code<0)<;>cases decide (r.Code>3)<;>cases c<;>cases(r.Code==0)<;>cases(r.i8==0)<;>cases a<;>cases(r.Code==3)<;>cases b<;>rfl
def c8x{r:s9}(h:a3q r):b10 r=U (a0k r):=by
 unfold b10 a0k;rw[f3W h];simp only[Q7,d38,g0X,r9.go];generalize ((g09 (O r.d8)).all (a0X r.d8)&&(g09 (O r.f0)).all (a0S r.f0))=z;generalize ((O r.f0)==0)=a;generalize ((O r.d8)==0)=b;generalize v5 r.i8 (-1000000) 1000000=c;generalize v5 r.Code 0 3=d;unfold bne;cases d<;>cases c<;>cases(r.Code==0)<;>cases(r.i8==0)<;>cases a<;>cases(r.Code==3)<;>cases b<;>rfl
def a3U(a b:List w8)(k:Nat):Bool:=match a[k]?,b[k]? with
 |some x,U y=>([x.j7,x.l8]:List Int)==[y.j7,y.l8]
 |_,_=>Y
def a34(a b:List u9)(k:Nat):Bool:=match a[k]?,b[k]? with
 |some x,U y=>([x.j7,x.i8]:List Int)==[y.j7,y.i8]
 |_,_=>Y
def f4I{a b:s9}(h:z4 a.d8)(hl:(O a.d8)=(O b.d8)):u5 (λs:Int=>b3W a b s) 0=U (bif(g09 (O a.d8)).all (a3U a.d8 b.d8)then .brk ()else .ret W):=by
 refine a3Y a.d8 h (a3U a.d8 b.d8) W () ?_ ?_
 ·intro k hk _;unfold b3W a3U;rw[B0 _ k hk,z8 hk,z8 (hl▸hk),g0Y hk,g0Y (hl▸hk)];simp only[g25,g0X];cases([a.d8[k].j7,a.d8[k].l8]:List Int)==[(b.d8[k]'(hl▸hk)).j7,(b.d8[k]'(hl▸hk)).l8]<;>rfl
 ·unfold b3W;rw[C1];rfl
def f9a{a b:s9}(h:z4 a.f0)(hl:(O a.f0)=(O b.f0)):u5 (λs:Int=>b5j a b s) 0=U (bif(g09 (O a.f0)).all (a34 a.f0 b.f0)then .brk ()else .ret W):=by
 refine a3Y a.f0 h (a34 a.f0 b.f0) W () ?_ ?_
 ·intro k hk _;unfold b5j a34;rw[B0 _ k hk,z8 hk,z8 (hl▸hk),g0Y hk,g0Y (hl▸hk)];simp only[g25,g0X];cases([a.f0[k].j7,a.f0[k].i8]:List Int)==[(b.f0[k]'(hl▸hk)).j7,(b.f0[k]'(hl▸hk)).i8]<;>rfl
 ·unfold b5j;rw[C1];rfl
def f6L{a b:List w8}(h:z4 a):b8G a b=U ((O a)==(O b)&&(g09 (O a)).all (a3U a b)):=by
 unfold b8G;by_cases hl:(O a)=(O b)
 ·rw[a3Y a h (a3U a b) W ()]
  ·rw[hl];simp only[bne_self_eq_false,g26,beq_self_eq_true,g1h];cases(g09 (O b)).all (a3U a b)<;>rfl
  ·intro k hk _;unfold b7l a3U;rw[B0 _ k hk,z8 hk,z8 (hl▸hk),g0Y hk,g0Y (hl▸hk)];simp only[g25,g0X];cases([a[k].j7,a[k].l8]:List Int)==[(b[k]'(hl▸hk)).j7,(b[k]'(hl▸hk)).l8]<;>rfl
  ·unfold b7l;rw[C1];rfl
 ·have h1:((O a:Int) != (O b:Int))=Y:=by simp;omega
  have h2:((O a)==(O b))=W:=by simpa using hl
  rw[h1,h2];rfl
def e47{a b:List u9}(h:z4 a):b6U a b=U ((O a)==(O b)&&(g09 (O a)).all (a34 a b)):=by
 unfold b6U;by_cases hl:(O a)=(O b)
 ·rw[a3Y a h (a34 a b) W ()]
  ·rw[hl];simp only[bne_self_eq_false,g26,beq_self_eq_true,g1h];cases(g09 (O b)).all (a34 a b)<;>rfl
  ·intro k hk _;unfold c1C a34;rw[B0 _ k hk,z8 hk,z8 (hl▸hk),g0Y hk,g0Y (hl▸hk)];simp only[g25,g0X];cases([a[k].j7,a[k].i8]:List Int)==[(b[k]'(hl▸hk)).j7,(b[k]'(hl▸hk)).i8]<;>rfl
  ·unfold c1C;rw[C1];rfl
 ·have h1:((O a:Int) != (O b:Int))=Y:=by simp;omega
  have h2:((O a)==(O b))=W:=by simpa using hl
  rw[h1,h2];rfl
def a5v(a b:s9):Bool:=((O a.d8)==(O b.d8)&&(g09 (O a.d8)).all (a3U a.d8 b.d8))&&(((O a.f0)==(O b.f0)&&(g09 (O a.f0)).all (a34 a.f0 b.f0))&&(a.i8==b.i8&&a.Code==b.Code))
def d9n{C β:Type}(a:List C)(b:List β):((O a:Int) != (O b:Int)) = !((O a)==(O b)):=by
 unfold bne;congr 1
 by_cases h:(O a)=(O b)
 ·simp[h]
 ·have h1:((O a:Int)==(O b:Int))=W:=by simp;omega
  have h2:((O a)==(O b))=W:=by simpa using h
  rw[h1,h2]
def c75{a b:s9}(h:a3q a):b2i a b=U (a5v a b):=by
 unfold b2i a5v;rw[d9n,d9n];cases h1:(O a.d8)==(O b.d8)
 ·unfold bne;cases a.i8==b.i8<;>cases a.Code==b.Code<;>rfl
 cases h2:(O a.f0)==(O b.f0)
 ·unfold bne;cases a.i8==b.i8<;>cases a.Code==b.Code<;>simp
 unfold c8B;rw[f4I (h.1.fits (by decide)) (by simpa using h1),f9a (h.2.1.fits (by decide)) (by simpa using h2)];unfold bne;cases(g09 (O a.d8)).all (a3U a.d8 b.d8)<;>cases(g09 (O a.f0)).all (a34 a.f0 b.f0)<;>cases a.i8==b.i8<;>cases a.Code==b.Code<;>rfl
def c3T{a b:s9}(h:a3q a):c0a a b=U (a5v a b):=by
 unfold c0a a5v;rw[f6L (h.1.fits (by decide)),e47 (h.2.1.fits (by decide))];simp only[g0X];generalize ((O a.d8)==(O b.d8)&&(g09 (O a.d8)).all (a3U a.d8 b.d8))=x;generalize ((O a.f0)==(O b.f0)&&(g09 (O a.f0)).all (a34 a.f0 b.f0))=y;cases x<;>cases y<;>cases a.i8==b.i8<;>rfl
def B7(e:p9):Bool:=bif e.j9 then(([e.b6.i0,e.b6.Seq]:List Int)==[0,0])&&a5v e.g8 (s9.mk [] [] 0 0)else(v5 e.b6.i0 0 2&&v5 e.b6.Seq 1 1000)&&(a0k e.g8&&e.g8.Code != 3)
def a5F{e:p9}(h:a24 e):a2C e=U (B7 e):=by
 unfold a2C B7;simp only[c75 h.2,c3B,d03 h.2,g0X];cases e.j9
 ·simp only[g26];cases v5 e.b6.i0 0 2&&v5 e.b6.Seq 1 1000<;>cases a0k e.g8<;>rfl
 ·simp only[g25];cases([e.b6.i0,e.b6.Seq]:List Int)==[0,0]<;>rfl
def a60{e:p9}(h:a24 e):a2T e=U (B7 e):=by
 unfold a2T a0e B7;simp only[c3T h.2,b7L,c8x h.2,g0X];cases e.j9
 ·simp only[g26];cases v5 e.b6.i0 0 2&&v5 e.b6.Seq 1 1000<;>cases a0k e.g8<;>rfl
 ·simp only[g25,beq_self_eq_true];cases([e.b6.i0,e.b6.Seq]:List Int)==[0,0]<;>rfl
def K1(l:List p9):Bool:=decide ((O l)<=40)&&l.all B7
def c3e{C:Type}(l:List C)(n:Nat):decide ((O l:Int)<=(n:Int))=decide ((O l)<=n):=by
 by_cases h:(O l)<=n
 ·have:(O l:Int)<=(n:Int):=by omega
  simp[h,this]
 ·have:¬(O l:Int)<=(n:Int):=by omega
  simp[h,this]
def b2s{C:Type}(l:List C)(n:Nat):decide ((O l:Int)>(n:Int)) = !decide ((O l)<=n):=by
 by_cases h:(O l)<=n
 ·have:¬(O l:Int)>(n:Int):=by omega
  simp[h,this]
 ·have:(O l:Int)>(n:Int):=by omega
  simp[h,this]
def e24{l:List p9}(h:C4 88 a24 l):b7b l=U (K1 l):=by
 unfold b7b K1;rw[show(40:Int)=((40:Nat):Int)from rfl,b2s,O5 l (h.fits (by decide)) B7 W ()]
 ·cases decide ((O l)<=40)
  ·rfl
  ·cases l.all B7<;>rfl
 ·intro k hk;unfold b8P;rw[B0 _ k hk,z8 hk];simp only[g25,g0X,a5F (h.2 _ (g01 hk))];cases B7 l[k]<;>rfl
 ·unfold b8P;rw[C1];rfl
def c5L{l:List p9}(h:C4 88 a24 l):b0W l=U (K1 l):=by
 unfold b0W K1 c6A;rw[show(40:Int)=((40:Nat):Int)from rfl,c3e,O5 l (h.fits (by decide)) B7 W ()]
 ·cases l.all B7<;>cases decide ((O l)<=40)<;>rfl
 ·intro k hk;unfold c2E;rw[B0 _ k hk,z8 hk];simp only[g25,g0X,a60 (h.2 _ (g01 hk))];cases B7 l[k]<;>rfl
 ·unfold c2E;rw[C1];rfl
def a4t(b:t7):Bool:=v5 b.l8 0 1000000&&v5 b.i8 (-1000000) 1000000
def H1(l:List t7):Bool:=(O l)==4&&l.all a4t
def c0O{C:Type}(l:List C)(n:Nat):((O l:Int) != (n:Int)) = !((O l)==n):=by
 unfold bne;congr 1
 by_cases h:(O l)=n
 ·simp[h]
 ·have h1:((O l:Int)==(n:Int))=W:=by simp;omega
  have h2:((O l)==n)=W:=by simpa using h
  rw[h1,h2]
def e5B{C:Type}(l:List C)(n:Nat):((O l:Int)==(n:Int))=((O l)==n):=by
 have:=c0O l n;unfold bne at this;simpa using this
def d63{l:List t7}(h:z4 l):b3M l=U (H1 l):=by
 unfold b3M H1;rw[show(4:Int)=((4:Nat):Int)from rfl,c0O,O5 l h a4t W ()]
 ·cases(O l)==4
  ·rfl
  ·cases l.all a4t<;>rfl
 ·intro k hk;unfold b8d a4t;rw[B0 _ k hk,z8 hk];simp only[g25,g0X,a8U];cases hq:v5 l[k].l8 0 1000000 with
  |false=>
   by_cases h1:l[k].l8<0
   ·simp[h1]
   ·have:l[k].l8>1000000:=by
     unfold v5 at hq;simp at hq;omega
    simp[h1,this]
  |true=>
   unfold v5 at hq;simp at hq;have h1:¬l[k].l8<0:=by omega
   have h2:¬l[k].l8>1000000:=by omega
   simp only[h1,h2,decide_false,g26,g1h];cases v5 l[k].i8 (-1000000) 1000000<;>rfl
 ·unfold b8d;rw[C1];rfl
def b4O{l:List t7}(h:z4 l):a7v l=U (H1 l):=by
 unfold a7v H1 c3I;rw[show(4:Int)=((4:Nat):Int)from rfl,e5B,O5 l h a4t W ()]
 ·cases(O l)==4<;>cases l.all a4t<;>rfl
 ·intro k hk;unfold c1S a4t;rw[B0 _ k hk,z8 hk];simp only[g25,g0X,Q7];cases v5 l[k].l8 0 1000000<;>cases v5 l[k].i8 (-1000000) 1000000<;>rfl
 ·unfold c1S;rw[C1];rfl
def d6K{l:List w8}(h:(g09 (O l)).all (a0X l)=Y):∀x∈l,0<=x.j7/\x.j7<=3/\0<=x.l8/\x.l8<=1000000:=by
 intro x hx;obtain⟨i,hi,rfl⟩:=g1E hx;have:=g05.1 h i (by simpa using hi);unfold a0X at this;rw[g0Y hi]at this;simp[v5]at this;omega
def d7J{l:List u9}(h:(g09 (O l)).all (a0S l)=Y):∀x∈l,0<=x.j7/\x.j7<=3/\-1000000<=x.i8/\x.i8<=1000000:=by
 intro x hx;obtain⟨i,hi,rfl⟩:=g1E hx;have:=g05.1 h i (by simpa using hi);unfold a0S at this;rw[g0Y hi]at this;simp[v5]at this;omega
def a4r{r:s9}(h:a0k r=Y):(0<=r.Code/\r.Code<=3)/\(-1000000<=r.i8/\r.i8<=1000000)/\(r.Code=0\/(r.i8=0/\r.f0=[]))/\(∀x∈r.d8,0<=x.j7/\x.j7<=3/\0<=x.l8/\x.l8<=1000000)/\∀x∈r.f0,0<=x.j7/\x.j7<=3/\-1000000<=x.i8/\x.i8<=1000000:=by
 unfold a0k at h;simp only[g02,Bool.or_eq_true]at h;obtain⟨h1,h2,h3,_,h4,h5⟩:=h;refine⟨by simpa[v5]using h1,by simpa[v5]using h2,by simpa using h3,d6K h4,d7J h5⟩
def a18(l:List t7)(r:s9):Bool:=r.d8.all λx=>match l[x.j7.toNat]? with
 |some b=>b.l8==x.l8
 |none=>Y
def a9K{l:List t7}(h:H1 l=Y):(O l)=4:=by
 unfold H1 at h;simp only[g02,beq_iff_eq]at h;exact h.1
def a59{l:List t7}(h:H1 l=Y):z4 l:=by
 unfold z4;rw[a9K h];decide
def a6j{l:List t7}(h:H1 l=Y){b:Int}(hb:0<=b/\b<=3):∃x,idx l b=U x/\l[b.toNat]?=U x/\a4t x=Y:=by
 have hl:=a9K h;have hlt:b.toNat<(O l):=by omega
 refine⟨l[b.toNat],?_,g0Y hlt,?_⟩
 ·unfold idx;rw[if_pos hb.1,g0Y hlt]
 ·unfold H1 at h;simp only[g02]at h;exact g05.1 h.2 _ (g01 hlt)
def f9v{l:List t7}{r:s9}(hl:z4 l)(hr:a3q r):c0z l r=U (H1 l&&(a0k r&&a18 l r)):=by
 unfold c0z;rw[d63 hl,d03 hr];simp only[g0X];cases h1:H1 l
 ·rfl
 cases h2:a0k r
 ·rfl
 have hp:=a4r h2;simp only[g04,g26,g1h];rw[O5 r.d8 (hr.1.fits (by decide)) (λx=>match l[x.j7.toNat]? with|some b=>b.l8==x.l8|none=>Y) W ()]
 ·unfold a18;cases r.d8.all _<;>rfl
 ·intro k hk;have hm:=hp.2.2.2.1 _ (g01 hk);obtain⟨b,hb1,hb2,_⟩:=a6j h1 (b:=r.d8[k].j7) ⟨hm.1,hm.2.1⟩;unfold b9o;rw[B0 _ k hk,z8 hk];simp only[g25,g0X,hb1,hb2];unfold bne;cases b.l8==r.d8[k].l8<;>rfl
 ·unfold b9o;rw[C1];rfl
def e3j{l:List t7}{r:s9}(hl:z4 l)(hr:a3q r):b8f l r=U (H1 l&&(a0k r&&a18 l r)):=by
 unfold b8f;rw[b4O hl,c8x hr];simp only[g0X];cases h1:H1 l
 ·rfl
 cases h2:a0k r
 ·rfl
 have hp:=a4r h2;simp only[g04,g26,g1h];rw[O5 r.d8 (hr.1.fits (by decide)) (λx=>match l[x.j7.toNat]? with|some b=>b.l8==x.l8|none=>Y) W ()]
 ·unfold a18;cases r.d8.all _<;>rfl
 ·intro k hk;have hm:=hp.2.2.2.1 _ (g01 hk);obtain⟨b,hb1,hb2,_⟩:=a6j h1 (b:=r.d8[k].j7) ⟨hm.1,hm.2.1⟩;unfold c0h;rw[B0 _ k hk,z8 hk];simp only[g25,g0X,hb1,hb2];unfold bne;cases b.l8==r.d8[k].l8<;>rfl
 ·unfold c0h;rw[C1];rfl
def a1C(l:List t7)(p:u9):List t7:=match l[p.j7.toNat]? with
 |some b=>l.set p.j7.toNat ⟨if b.l8+1<1000000 then b.l8+1 else 1000000,p.i8⟩
 |none=>l
def a15(l:List t7)(ps:List u9):List t7:=ps.foldl a1C l
def a1F(x:u9):Prop:=0<=x.j7/\x.j7<=3/\-1000000<=x.i8/\x.i8<=1000000
def c2m{l:List t7}{p:u9}{b:t7}(h:l[p.j7.toNat]?=U b):a1C l p=l.set p.j7.toNat ⟨if b.l8+1<1000000 then b.l8+1 else 1000000,p.i8⟩:=by
 unfold a1C;rw[h]
def b3z{b:t7}:a4t b=Y↔(0<=b.l8/\b.l8<=1000000)/\(-1000000<=b.i8/\b.i8<=1000000):=by
 unfold a4t v5;simp
def f9K{l:List t7}:H1 l=Y↔(O l)=4/\∀b∈l,a4t b=Y:=by
 unfold H1;simp
def d5X{l:List t7}{p:u9}(h:H1 l=Y)(hp:a1F p):H1 (a1C l p)=Y:=by
 obtain⟨b,_,h2,h3⟩:=a6j h (b:=p.j7) ⟨hp.1,hp.2.1⟩;rw[f9K]at h⊢;unfold a1C;rw[h2];refine⟨by simpa using h.1,λx hx => ?_⟩;rcases g1F hx with hx|rfl
 ·exact h.2 x hx
 ·rw[b3z]at h3⊢;refine⟨?_,hp.2.2⟩;simp only;split<;>omega
def c0L:∀{ps:List u9} {l:List t7},H1 l=Y->(∀p∈ps,a1F p)->H1 (a15 l ps)=Y
 | [],l,h,_=>h
 |p::ps,l,h,hp=>c0L (ps:=ps) (d5X h (hp p (by simp))) λx hx=>hp x (by simp[hx])
def d6l{l:List t7}{ps:List u9}(h:H1 l=Y)(hp:∀p∈ps,a1F p)(k:Nat):H1 ((ps.take k).foldl a1C l)=Y:=
 c0L h λp hq=>hp p (g1M hq)
def e3u{l:List t7}{r:s9}(hl:H1 l=Y)(hr:a3q r)(hp:∀p∈r.f0,a1F p):b8T l r=U (a15 l r.f0):=by
 unfold b8T;rw[d9A r.f0 (hr.2.1.fits (by decide)) a1C l id]
 ·rfl
 ·intro k hk;have hq:=hp _ (g01 hk);obtain⟨b,h1,h2,h3⟩:=a6j (d6l hl hp k) (b:=r.f0[k].j7) ⟨hq.1,hq.2.1⟩;rw[b3z]at h3;unfold b69;rw[B0 _ k hk,z8 hk];simp only[g25,g0X,h1];unfold c5N;rw[c2m h2,F6 (n:=b.l8+1) (by omega) (by omega)];by_cases hv:b.l8+1<1000000
  ·have:¬(1000000:Int)<b.l8+1:=by omega
   simp[hv,this]
  ·by_cases hv2:(1000000:Int)<b.l8+1
   ·simp[hv,hv2]
   ·have:b.l8+1=1000000:=by omega
    simp[hv,hv2,this]
 ·unfold b69;rw[C1];rfl
def c4B{l:List t7}(h:(O l)*16<=140737488351232):a9G l=U l:=by
 unfold a9G z5;cases l with
 |nil=>rfl
 |cons x l=>
  have h1:(((x::l).length:Int)==0)=W:=by simp;omega
  rw[h1,g26,if_pos (by constructor<;>omega),if_pos (by simp)]
def d8g{l:List x6}(h:(O l)*32<=140737488351232):a8z l=U l:=by
 unfold a8z z5;cases l with
 |nil=>rfl
 |cons x l=>
  have h1:(((x::l).length:Int)==0)=W:=by simp;omega
  rw[h1,g26,if_pos (by constructor<;>omega),if_pos (by simp)]
def d3M{l:List t7}{r:s9}(hl:H1 l=Y)(hr:a3q r)(hok:a0k r=Y):b4w l r=U (a15 l r.f0):=by
 have hp:∀p∈r.f0,a1F p:=(a4r hok).2.2.2.2
 unfold b4w;rw[b4O (a59 hl),c8x hr,hl,hok];simp only[g0X,g04,g26];rw[c4B (by rw[a9K hl];decide),g0X,d9A r.f0 (hr.2.1.fits (by decide)) a1C l id]
 ·rfl
 ·intro k hk;have hq:=hp _ (g01 hk);obtain⟨b,h1,h2,h3⟩:=a6j (d6l hl hp k) (b:=r.f0[k].j7) ⟨hq.1,hq.2.1⟩;rw[b3z]at h3;unfold b9d;rw[B0 _ k hk,z8 hk];simp only[g25,g0X,h1];rw[c2m h2,F6 (n:=b.l8+1) (by omega) (by omega)]
 ·unfold b9d;rw[C1];rfl
def b0K(d:x6):Bool:=(v5 d.b6.i0 0 2&&v5 d.b6.Seq 1 1000)&&(v5 d.Code 0 2&&(v5 d.i8 (-1000000) 1000000&&(d.Code==0||d.i8==0)))
def a4U(l:List x6):Prop:=l.Pairwise λa b=>a.b6.i0<b.b6.i0
def R2(d:x6)(st:List x6×Bool)(x:x6):List x6×Bool:=
 bif !st.2&&decide (x.b6.i0>=d.b6.i0)then(bif x.b6.i0 != d.b6.i0 then(st.1++[d])++[x]else st.1++[d],Y)else(bif x.b6.i0 != d.b6.i0 then st.1++[x]else st.1,st.2)
def a1K(l:List x6)(d:x6):List x6:=
 let r:=l.foldl (R2 d) ([],W);bif !r.2 then r.1++[d]else r.1
def e2z(d:x6)(st:List x6×Bool)(x:x6):(R2 d st x).1.length<=(O st.1)+2:=by
 unfold R2;cases !st.2&&decide (x.b6.i0>=d.b6.i0)<;>cases x.b6.i0 != d.b6.i0<;>simp
def c5u(d:x6):∀(l:List x6) (st:List x6×Bool),(l.foldl (R2 d) st).1.length<=(O st.1)+2*(O l)
 | [],st=>by simp
 |x::l,st=>by
  have h1:=c5u d l (R2 d st x);have h2:=e2z d st x;simp only[g2L,g1G];omega
def c4O(d:x6):∀{l:List x6} {o:List x6},(∀x∈l,d.b6.i0<x.b6.i0)->l.foldl (R2 d) (o,Y)=(o++l,Y)
 | [],o,_=>by simp
 |x::l,o,h=>by
  have hx:=h x (by simp);have hne:(x.b6.i0 != d.b6.i0)=Y:=by simp;omega
  rw[g2L,show R2 d (o,Y) x=(o++[x],Y)from by unfold R2;simp[hne],c4O d λy hy=>h y (by simp[hy])];simp
def d85(d:x6):∀{l o:List x6},a4U l->
  (let r:=l.foldl (R2 d) (o,W);bif !r.2 then r.1++[d]else r.1)=o++(l.filter (λx=>decide (x.b6.i0<d.b6.i0))++d::l.filter (λx=>decide (d.b6.i0<x.b6.i0)))
 | [],o,_=>by simp
 |x::l,o,h=>by
  obtain⟨h1,h2⟩:=g2f.1 h;rw[g2L];by_cases hlt:x.b6.i0<d.b6.i0
  ·have hge:¬x.b6.i0>=d.b6.i0:=by omega
   have hne:(x.b6.i0 != d.b6.i0)=Y:=by simp;omega
   have hngt:¬d.b6.i0<x.b6.i0:=by omega
   rw[show R2 d (o,W) x=(o++[x],W)from by unfold R2;simp[hge,hne],d85 d h2];simp[hlt,hngt]
  ·have hge:x.b6.i0>=d.b6.i0:=by omega
   have hall:∀y∈l,d.b6.i0<y.b6.i0:=λy hy=>by have:=h1 y hy;omega
   have hf1:l.filter (λx=>decide (x.b6.i0<d.b6.i0))=[]:=by
    rw[List.filter_eq_nil_iff];intro y hy;have:=hall y hy;simp;omega
   have hf2:l.filter (λx=>decide (d.b6.i0<x.b6.i0))=l:=by
    rw[List.filter_eq_self];intro y hy;simpa using hall y hy
   by_cases heq:x.b6.i0=d.b6.i0
   ·have hngt:¬d.b6.i0<x.b6.i0:=by omega
    rw[show R2 d (o,W) x=(o++[d],Y)from by unfold R2;simp[hge,heq],c4O d hall];simp[hlt,hngt,hf1,hf2]
   ·have hgt:d.b6.i0<x.b6.i0:=by omega
    have hne:(x.b6.i0 != d.b6.i0)=Y:=by simpa using heq
    rw[show R2 d (o,W) x=((o++[d])++[x],Y)from by unfold R2;simp[hge,hne],c4O d hall];simp[hlt,hgt,hf1,hf2]
def c1x{l:List x6}(d:x6)(h:a4U l):a1K l d=l.filter (λx=>decide (x.b6.i0<d.b6.i0))++d::l.filter (λx=>decide (d.b6.i0<x.b6.i0)):=by
 have:=d85 d (o:=[]) h;simpa[a1K]using this
def f2D{l:List x6}(d:x6)(h:a4U l):a4U (a1K l d):=by
 rw[c1x d h];unfold a4U;rw[g2B,g2f];refine⟨h.filter _,⟨λy hy=>by simpa using(g12.1 hy).2,h.filter _⟩,λa ha b hb => ?_⟩;have h1:a.b6.i0<d.b6.i0:=by simpa using(g12.1 ha).2
 rcases g1a.1 hb with rfl|hb
 ·exact h1
 ·have h2:d.b6.i0<b.b6.i0:=by simpa using(g12.1 hb).2
  omega
def f8u{l:List x6}{d x:x6}(h:a4U l)(hx:x∈a1K l d):x∈l\/x=d:=by
 rw[c1x d h]at hx;rcases g0Z.1 hx with hx|hx
 ·exact .inl (g12.1 hx).1
 ·rcases g1a.1 hx with rfl|hx
  ·exact .inr rfl
  ·exact .inl (g12.1 hx).1
def c9o{l:List x6}(d:x6)(h:a4U l):(a1K l d).length<=(O l)+1:=by
 rw[c1x d h];have:(l.filter λx=>decide (x.b6.i0<d.b6.i0)).length+(l.filter λx=>decide (d.b6.i0<x.b6.i0)).length<=(O l):=by
  clear h;induction l with
  |nil=>simp
  |cons x l ih=>
   by_cases h1:x.b6.i0<d.b6.i0
   ·have h2:¬d.b6.i0<x.b6.i0:=by omega
    simp[h1,h2];omega
   ·by_cases h2:d.b6.i0<x.b6.i0
    ·simp[h1,h2];omega
    ·simp[h1,h2];omega
 simp only[g08,g1G];omega
structure Inv(s:A4)(k:Nat):Prop where
 at_:s.At=(k:Int)
 le:k<=40
 boxes:H1 s.j4=Y
 sorted:a4U s.l7
 dones:∀d∈s.l7,b0K d=Y
 len:(O s.l7)<=k
def Inv.fits{s:A4}{k:Nat}(h:Inv s k):z4 s.l7:=by
 have:=h.len;have:=h.le;unfold z4;omega
def d4z{C:Type}{o:List C}{d:C}(h:(O o)<=80):((o++[d]).length+1)*32<=140737488355328:=by
 rw[show(o++[d]).length=(O o)+1 from by simp];omega
def f1P{l:List x6}{d:x6}(hl:(O l)<=40):c2I l d=U (a1K l d):=by
 have hf:z4 l:=by unfold z4;omega
 have hlen:∀k,k<=(O l)->((l.take k).foldl (R2 d) ([],W)).1.length<=80:=by
  intro k hk;have:=c5u d (l.take k) ([],W);simp only[g2i,g1l]at this;omega
 unfold c2I;have hloop:=a0Y (body:=λs:(List x6)×Bool×Int=>b3p l d s.1 s.2.1 s.2.2) (λk=>(((l.take k).foldl (R2 d) ([],W)).1,((l.take k).foldl (R2 d) ([],W)).2,(k:Int))) (O l) (by
  intro k hk;have hb:=hlen k (by omega);rw[g1u hk,List.foldl_append];generalize (l.take k).foldl (R2 d) ([],W)=st at hb;obtain⟨o,i⟩:=st;simp only at hb;simp only[g2L,g23];unfold b3p c5Z c4k R2;rw[B0 _ k hk,z8 hk,J0 hf hk];have n1:((O o)+1)*32<=140737488355328:=by omega
  have n2:((o++[d]).length+1)*32<=140737488355328:=d4z (by omega);cases i<;>cases h1:decide (l[k].b6.i0>=d.b6.i0)<;>cases h2:l[k].b6.i0 != d.b6.i0<;>simp only[h1,h2,A6 n1,A6 n2,g25,g26,g0X,r9.go,g04,g1y,g1h,g24])
 simp only[g1P,g23,g1n]at hloop;rw[show((0:Nat):Int)=0 from rfl]at hloop;rw[hloop,F3 (b:=l.foldl (R2 d) ([],W))]
 ·have hb:=hlen (O l) (g07 _);rw[g1n]at hb;unfold c3v c4o a1K;generalize l.foldl (R2 d) ([],W)=st at hb;obtain⟨o,i⟩:=st;have n1:((O o)+1)*32<=140737488355328:=by simp only at hb;omega
  cases i<;>simp only[A6 n1,g25,g26,g0X,r9.go,g04,g1y]
 ·unfold b3p;rw[C1];rfl
def T5(s:A4)(e:p9):A4×Int:=
 bif a18 s.j4 e.g8 then
  (bif e.g8.Code==0 then(⟨s.At+1,a15 s.j4 e.g8.f0,a1K s.l7 ⟨e.b6,0,e.g8.i8⟩⟩,0)
  else(⟨s.At+1,s.j4,a1K s.l7 ⟨e.b6,2,0⟩⟩,2))
 else(⟨s.At+1,s.j4,a1K s.l7 ⟨e.b6,1,0⟩⟩,1)
def apply(s:A4)(e:p9):A4×Int:=
 bif e.j9 then(⟨s.At+1,s.j4,s.l7⟩,5)else
 match s.l7.find? (λd=>d.b6.i0==e.b6.i0)with
 |some d=>bif d.b6.Seq==e.b6.Seq then(⟨s.At+1,s.j4,s.l7⟩,3)else bif decide (d.b6.Seq>e.b6.Seq)then(⟨s.At+1,s.j4,s.l7⟩,4)else T5 s e
 |none=>T5 s e
def a42{e:p9}(h:B7 e=Y)(hn:e.j9=W):(0<=e.b6.i0/\e.b6.i0<=2)/\(1<=e.b6.Seq/\e.b6.Seq<=1000)/\a0k e.g8=Y/\e.g8.Code≠3:=by
 unfold B7 at h;rw[hn]at h;simp[v5]at h;exact⟨h.1.1,h.1.2,h.2.1,h.2.2⟩
def e5A{s:A4}(h:z4 s.l7)(who:Int):b8u s who=U (match s.l7.find? (λd=>d.b6.i0==who)with|some d=>(d,Y)|none=>(⟨⟨0,0⟩,0,0⟩,W)):=by
 unfold b8u;rw[b9j s.l7 h (λd=>d.b6.i0==who) (λd=>(d,Y)) ()]
 ·cases s.l7.find? λd=>d.b6.i0==who<;>rfl
 ·intro k hk;unfold b68;rw[B0 _ k hk,z8 hk];simp only[g25,g0X];cases s.l7[k].b6.i0==who<;>rfl
 ·unfold b68;rw[C1];rfl
def d8v{s:A4}{k:Nat}{e:p9}(hs:Inv s k)(hk:k<40)(he:B7 e=Y)(hf:a24 e):b4N s e=U (apply s e):=by
 have hw:s6 (s.At+1)=s.At+1:=by rw[hs.at_];exact F6 (by omega) (by omega)
 unfold b4N apply;rw[hw,e5A (s:=⟨s.At+1,s.j4,s.l7⟩) hs.fits];cases hn:e.j9;case true=>rfl
 obtain⟨_,_,hr,hc3⟩:=a42 he hn;have hp:∀p∈e.g8.f0,a1F p:=(a4r hr).2.2.2.2
 have hfr:b8r s e=U (T5 s e):=by
  unfold b8r c8t c5i T5;simp only[f9v (a59 hs.boxes) hf.2,hs.boxes,hr,g1h,g0X,hw,f1P (g1C hs.len (by omega)),e3u hs.boxes hf.2 hp];cases a18 s.j4 e.g8
  ·rfl
  ·cases e.g8.Code==0<;>rfl
 simp only[g26,g0X,hfr];cases hfd:s.l7.find? λd=>d.b6.i0==e.b6.i0 with
 |none=>rfl
 |some d=>
  have hwho:d.b6.i0=e.b6.i0:=by simpa using List.find?_some hfd
  have hq:(([d.b6.i0,d.b6.Seq]:List Int)==[e.b6.i0,e.b6.Seq])=(d.b6.Seq==e.b6.Seq):=by
   rw[hwho];simp
  simp only[hq,g25];cases d.b6.Seq==e.b6.Seq
  ·cases decide (d.b6.Seq>e.b6.Seq)<;>rfl
  ·rfl
def e5H{l:List x6}(h:a4U l)(who seq:Int):l.find? (λd=>d.b6.i0==who&&decide (d.b6.Seq>=seq))=match l.find? (λd=>d.b6.i0==who)with
  |some d=>bif decide (d.b6.Seq>=seq)then U d else Z
  |none=>Z:=by
 induction l with
 |nil=>rfl
 |cons x l ih=>
  obtain⟨h1,h2⟩:=g2f.1 h;rw[g2w,g2w];cases hx:x.b6.i0==who with
  |false=>simpa using ih h2
  |true=>
   cases hs:decide (x.b6.Seq>=seq)with
   |true=>simp[hs]
   |false=>
    simp only[Bool.and_false,hs,g26];rw[g21];intro y hy;have:=h1 y hy;have hx':x.b6.i0=who:=by simpa using hx
    simp;intro hyw;omega
def e6r{s:A4}{k:Nat}(hs:Inv s k):b9J s=U Y:=by
 unfold b9J;have hloop:=a0Y (body:=λv:Int=>b5Y s v) (λj=>(j:Int)) (O s.l7) (by
  intro j hj;have hd:=hs.dones _ (g01 hj);unfold b0K at hd;simp only[g02,Bool.or_eq_true]at hd;obtain⟨⟨d1,d2⟩,d3,d4,d5⟩:=hd;unfold b5Y c8w;rw[B0 _ j hj,z8 hj,J0 hs.fits hj];simp only[g25,g0X,b7L,Q7,d1,d2,d3,d4,g2g,g04,g26];cases j with
  |zero=>
   rw[show decide (((0:Nat):Int)>0)=W from by decide];simp only[g26];unfold bne;rcases d5 with d5|d5<;>simp[d5,r9.go,Option.bind]
  |succ j=>
   have hlt:(s.l7[j]'(by omega)).b6.i0<s.l7[j+1].b6.i0:=g1R.1 hs.sorted j (j+1) (by omega) hj (by omega);have hge:¬(s.l7[j]'(by omega)).b6.i0>=s.l7[j+1].b6.i0:=by omega
   have hle:=hs.fits;unfold z4 at hle;rw[show s6 (((j+1:Nat):Int)-1)=(j:Int)from by rw[F6 (by omega) (by omega)];omega,z8 (show j<(O s.l7) by omega)];have hpos:decide (((j+1:Nat):Int)>0)=Y:=by simp
   simp only[hpos,g25,g0X,hge,decide_false,g26];unfold bne;rcases d5 with d5|d5<;>simp[d5,r9.go,Option.bind])
 rw[show((0:Nat):Int)=0 from rfl]at hloop;rw[hloop,F3 (b:=())]
 ·unfold c76;have:=hs.le;have ha:v5 s.At 0 40=Y:=by rw[hs.at_];simp[v5];omega
  simp[r9.go,Q7,ha,b4O (a59 hs.boxes),hs.boxes]
 ·unfold b5Y;rw[C1];rfl
def c3L{s:A4}{own:x6}{bx:List t7}(hl:(O s.l7)<=40)(hw:s6 (s.At+1)=s.At+1)(hd:a4U s.l7):c1D s own bx=U (⟨s.At+1,bx,a1K s.l7 own⟩,own.Code):=by
 have hf:z4 s.l7:=by unfold z4;omega
 have hlen:∀k,k<=(O s.l7)->((s.l7.take k).foldl (R2 own) ([],W)).1.length<=80:=by
  intro k hk;have:=c5u own (s.l7.take k) ([],W);simp only[g2i,g1l]at this;omega
 unfold c1D;have hloop:=a0Y (body:=λx:(List x6)×Int×Bool=>b6x s own x.1 x.2.1 x.2.2) (λk=>(((s.l7.take k).foldl (R2 own) ([],W)).1,(k:Int),((s.l7.take k).foldl (R2 own) ([],W)).2)) (O s.l7) (by
  intro k hk;have hb:=hlen k (by omega);rw[g1u hk,List.foldl_append];generalize (s.l7.take k).foldl (R2 own) ([],W)=st at hb;obtain⟨o,i⟩:=st;simp only at hb;simp only[g2L,g23];unfold b6x c8g c4M R2;rw[B0 _ k hk,z8 hk,J0 hf hk];have n1:((O o)+1)*32<=140737488355328:=by omega
  have n2:((o++[own]).length+1)*32<=140737488355328:=d4z (by omega);cases i<;>cases h1:decide (s.l7[k].b6.i0>=own.b6.i0)<;>cases h2:s.l7[k].b6.i0 != own.b6.i0<;>simp only[h1,h2,A6 n1,A6 n2,g25,g26,g0X,r9.go,g04,g1y,g1h,g24])
 simp only[g1P,g23,g1n]at hloop;rw[show((0:Nat):Int)=0 from rfl]at hloop;rw[hloop,F3 (b:=s.l7.foldl (R2 own) ([],W))]
 ·have hb:=hlen (O s.l7) (g07 _);rw[g1n]at hb;have hpl:=c9o own hd;have hcp:a8z (a1K s.l7 own)=U (a1K s.l7 own):=d8g (by omega);unfold c3G c74;unfold a1K at hcp⊢;generalize s.l7.foldl (R2 own) ([],W)=st at hb hcp;obtain⟨o,i⟩:=st;have n1:((O o)+1)*32<=140737488355328:=by simp only at hb;omega
  cases i<;>simp only[A6 n1,g25,g26,g0X,r9.go,g04,g1y,hw]at hcp⊢ <;>rw[hcp]<;>rfl
 ·unfold b6x;rw[C1];rfl
def c4S{s:A4}{k:Nat}{e:p9}(hs:Inv s k)(hk:k<40)(he:B7 e=Y)(hf:a24 e):c1y s e=U (apply s e):=by
 have hw:s6 (s.At+1)=s.At+1:=by rw[hs.at_];exact F6 (by omega) (by omega)
 have hl:=hs.len;have hcd:a8z s.l7=U s.l7:=d8g (by omega);have hcb:a9G s.j4=U s.j4:=c4B (by rw[a9K hs.boxes];decide);have hat:(s.At==40)=W:=by rw[hs.at_];simp;omega
 unfold c1y apply;rw[e6r hs,a60 hf,he];simp only[g0X,g04,g26,hat,hcb,hcd,hw];cases hn:e.j9;case true=>rfl
 obtain⟨_,_,hr,hc3⟩:=a42 he hn;have hfr:c2z s e s.j4=U (T5 s e):=by
  unfold c2z T5;simp only[e3j (a59 hs.boxes) hf.2,hs.boxes,hr,g1h,g0X,d3M hs.boxes hf.2 hr];cases a18 s.j4 e.g8
  ·simp only[g1y,g25,g26,g0X,r9.go];exact c3L (by omega) hw hs.sorted
  ·unfold bne;cases e.g8.Code==0
   ·simp only[g1y,g04,g25,g26,g0X,r9.go];exact c3L (by omega) hw hs.sorted
   ·simp only[g04,g25,g26,g0X,r9.go];exact c3L (by omega) hw hs.sorted
 simp only[g26];rw[b9j s.l7 hs.fits (λd=>d.b6.i0==e.b6.i0&&decide (d.b6.Seq>=e.b6.Seq)) (λd=>(⟨s.At+1,s.j4,s.l7⟩,bif d.b6.Seq==e.b6.Seq then 3 else 4)) ()]
 ·rw[e5H hs.sorted];cases s.l7.find? λd=>d.b6.i0==e.b6.i0 with
  |none=>simp only[g0X,r9.go,hfr]
  |some d=>
   cases hq:d.b6.Seq==e.b6.Seq with
   |true=>
    have:d.b6.Seq>=e.b6.Seq:=by
     have:d.b6.Seq=e.b6.Seq:=by simpa using hq
     omega
    simp[this,r9.go,hq]
   |false=>
    have hne:d.b6.Seq≠e.b6.Seq:=by simpa using hq
    by_cases hg:d.b6.Seq>e.b6.Seq
    ·have:d.b6.Seq>=e.b6.Seq:=by omega
     simp[this,r9.go,hg,hq]
    ·have:¬d.b6.Seq>=e.b6.Seq:=by omega
     simp[this,r9.go,hg,hfr,hq]
 ·intro j hj;unfold c0M c6B;rw[B0 _ j hj,z8 hj];simp only[g25,g0X,hcd,hw];cases h1:s.l7[j].b6.i0==e.b6.i0<;>cases h2:decide (s.l7[j].b6.Seq>=e.b6.Seq)<;>cases h3:s.l7[j].b6.Seq==e.b6.Seq<;>simp only[g25,g26,g0X,r9.go,g1h,g24,g2g,Bool.and_false]
 ·unfold c0M;rw[C1];rfl
def f2m{s:A4}{k:Nat}{e:p9}(hs:Inv s k)(hk:k<40)(he:B7 e=Y)(hn:e.j9=W):Inv (T5 s e).1 (k+1)/\0<=(T5 s e).2/\(T5 s e).2<=5:=by
  obtain⟨h1,h2,hr,hc3⟩:=a42 he hn;have hp:=a4r hr;have hat:s.At+1=((k+1:Nat):Int):=by rw[hs.at_];rfl
  have key:∀(bx:List t7) (d:x6),H1 bx=Y->b0K d=Y->Inv ⟨s.At+1,bx,a1K s.l7 d⟩ (k+1):=λbx d hb hd=>
    { at_:=hat,le:=by omega,boxes:=hb,sorted:=f2D d hs.sorted
      dones:=λx hx=>by
        rcases f8u hs.sorted hx with hx|rfl
        . exact hs.dones x hx
        . exact hd
      len:=by
        have:=c9o d hs.sorted;have:=hs.len;simp only;omega}
  have hd0:∀c:Int,0<=c->c<=2->b0K ⟨e.b6,c,0⟩=Y:=by
    intro c c1 c2;unfold b0K v5;simp;omega
  have hd1:b0K ⟨e.b6,0,e.g8.i8⟩=Y:=by
    unfold b0K v5;simp;omega
  unfold T5;cases a18 s.j4 e.g8
  . exact⟨key _ _ hs.boxes (hd0 1 (by decide) (by decide)),show(0:Int)<=1 from by decide,show(1:Int)<=5 from by decide⟩
  . cases e.g8.Code==0
    . exact⟨key _ _ hs.boxes (hd0 2 (by decide) (by decide)),show(0:Int)<=2 from by decide,show(2:Int)<=5 from by decide⟩
    . exact⟨key _ _ (c0L hs.boxes hp.2.2.2.2) hd1,show(0:Int)<=0 from by decide,show(0:Int)<=5 from by decide⟩
def e3U{s:A4}{k:Nat}{e:p9}(hs:Inv s k)(hk:k<40)(he:B7 e=Y):Inv (apply s e).1 (k+1)/\0<=(apply s e).2/\(apply s e).2<=5:=by
 have hat:s.At+1=((k+1:Nat):Int):=by rw[hs.at_];rfl
 have key:Inv ⟨s.At+1,s.j4,s.l7⟩ (k+1):={at_:=hat,le:=by omega,boxes:=hs.boxes,sorted:=hs.sorted,dones:=hs.dones,len:=Nat.le_succ_of_le hs.len}
 unfold apply;cases hn:e.j9
 ·have hfr:=f2m hs hk he hn;simp only[g26];cases s.l7.find? λd=>d.b6.i0==e.b6.i0 with
  |none=>exact hfr
  |some d=>
   simp only;cases d.b6.Seq==e.b6.Seq
   ·cases decide (d.b6.Seq>e.b6.Seq)
    ·exact hfr
    ·exact⟨key,show(0:Int)<=4 from by decide,show(4:Int)<=5 from by decide⟩
   ·exact⟨key,show(0:Int)<=3 from by decide,show(3:Int)<=5 from by decide⟩
 ·exact⟨key,show(0:Int)<=5 from by decide,show(5:Int)<=5 from by decide⟩
def a0D:A4:=⟨0,g00 4 ⟨0,0⟩,[]⟩
def g0C:Inv a0D 0:={at_:=rfl,le:=by omega,boxes:=by decide,sorted:=.nil,dones:=by simp[a0D],len:=by simp[a0D]}
def d1J:b6O=U a0D:=by
 unfold b6O c20;rw[A6 (by decide)];rfl
def e0F:c2x=U a0D:=by
 unfold c2x b4L;rw[A6 (by decide)];rfl
def b2v(st:A4×List Int)(e:p9):A4×List Int:=((apply st.1 e).1,st.2++[(apply st.1 e).2])
def w9(l:List p9):A4×List Int:=l.foldl b2v (a0D,[])
def a3r{l:List p9}{k:Nat}(hk:k<(O l)):w9 (l.take (k+1))=b2v (w9 (l.take k)) l[k]:=by
 unfold w9;rw[g1u hk,List.foldl_append];rfl
def Z6{l:List p9}(hl:(O l)<=40)(he:l.all B7=Y):∀k,k<=(O l)->Inv (w9 (l.take k)).1 k/\(w9 (l.take k)).2.length=k/\∀c∈(w9 (l.take k)).2,0<=c/\c<=5
 | 0,_=>by
  rw[g1P];exact⟨g0C,rfl,by simp[w9]⟩
 |k+1,hk=>by
  obtain⟨h1,h2,h3⟩:=Z6 hl he k (by omega);have ha:=e3U h1 (by omega) (g05.1 he _ (g01 (show k<(O l) by omega)));rw[a3r (show k<(O l) by omega)];refine⟨ha.1,by simp[b2v,h2],λc hc => ?_⟩;unfold b2v at hc;rcases g0Z.1 hc with hc|hc
  ·exact h3 c hc
  ·rw[g03]at hc;rw[hc];exact ha.2
def a2f{l:List p9}(h:K1 l=Y):(O l)<=40/\l.all B7=Y:=by
 unfold K1 at h;simpa using h
def b85{l:List p9}(h:C4 88 a24 l)(hl:(O l)<=40)(he:l.all B7=Y):a9c l=U (w9 l):=by
  have hf:z4 l:=h.fits (by decide);unfold a9c;rw[e0F,g0X];first
  | (have hloop:=a0Y (body:=λs:(List t7)×(List x6)×(List Int)×Int×Int=>a2w l s.1 s.2.1 s.2.2.1 s.2.2.2.1 s.2.2.2.2) (λk=>((w9 (l.take k)).1.j4,(w9 (l.take k)).1.l7,(w9 (l.take k)).2,(k:Int),(w9 (l.take k)).1.At)) (O l) (by
       intro k hk;obtain⟨h1,h2,h3⟩:=Z6 hl he k (by omega);have n1:((w9 (l.take k)).2.length+1)*8<=140737488355328:=by rw[h2];omega
       rw[a3r hk];unfold a2w;rw[B0 _ k hk,z8 hk,J0 hf hk];simp only[g25,g0X];rw[c4S h1 (by omega) (g05.1 he _ (g01 hk)) (h.2 _ (g01 hk)),g0X,A6 n1];rfl)
     rw[g1P,g1n]at hloop;rw[show((0:Nat):Int)=0 from rfl]at hloop;rw[show u5 (λs:(List t7)×(List x6)×(List Int)×Int×Int=>a2w l s.1 s.2.1 s.2.2.1 s.2.2.2.1 s.2.2.2.2) (a0D.j4,a0D.l7,([]:List Int),0,a0D.At)=_ from hloop,F3 (b:=((w9 l).1.j4,(w9 l).1.l7,(w9 l).2,(w9 l).1.At))]
     . rfl
     . unfold a2w;rw[C1];rfl
     done)
  | (have hloop:=a0Y (body:=λs:A4×(List Int)×Int=>a2w l s.1 s.2.1 s.2.2) (λk=>((w9 (l.take k)).1,(w9 (l.take k)).2,(k:Int))) (O l) (by
       intro k hk;obtain⟨h1,h2,h3⟩:=Z6 hl he k (by omega);have n1:((w9 (l.take k)).2.length+1)*8<=140737488355328:=by rw[h2];omega
       rw[a3r hk];unfold a2w;rw[B0 _ k hk,z8 hk,J0 hf hk];simp only[g25,g0X];rw[c4S h1 (by omega) (g05.1 he _ (g01 hk)) (h.2 _ (g01 hk)),g0X,A6 n1];rfl)
     rw[g1P,g1n]at hloop;rw[show((0:Nat):Int)=0 from rfl]at hloop;rw[show u5 (λs:A4×(List Int)×Int=>a2w l s.1 s.2.1 s.2.2) (a0D,[],0)=_ from hloop,F3 (b:=w9 l)]
     . rfl
     . unfold a2w;rw[C1];rfl
     done)
  | (have hloop:=a0Y (body:=λs:(List t7)×(List Int)×Int×Int×List x6=>a2w l s.1 s.2.1 s.2.2.1 s.2.2.2.1 s.2.2.2.2) (λk=>((w9 (l.take k)).1.j4,(w9 (l.take k)).2,(k:Int),(w9 (l.take k)).1.At,(w9 (l.take k)).1.l7)) (O l) (by
       intro k hk;obtain⟨h1,h2,h3⟩:=Z6 hl he k (by omega);have n1:((w9 (l.take k)).2.length+1)*8<=140737488355328:=by rw[h2];omega
       rw[a3r hk];unfold a2w;rw[B0 _ k hk,z8 hk,J0 hf hk];simp only[g25,g0X];rw[show(⟨(w9 (l.take k)).1.At,(w9 (l.take k)).1.j4,(w9 (l.take k)).1.l7⟩:A4)=(w9 (l.take k)).1 from rfl,c4S h1 (by omega) (g05.1 he _ (g01 hk)) (h.2 _ (g01 hk)),g0X,A6 n1];rfl)
     rw[g1P,g1n]at hloop;rw[show((0:Nat):Int)=0 from rfl]at hloop;rw[show u5 (λs:(List t7)×(List Int)×Int×Int×List x6=>a2w l s.1 s.2.1 s.2.2.1 s.2.2.2.1 s.2.2.2.2) (a0D.j4,[],0,a0D.At,a0D.l7)=_ from hloop,F3 (b:=((w9 l).1.j4,(w9 l).2,(w9 l).1.At,(w9 l).1.l7))]
     . rfl
     . unfold a2w;rw[C1];rfl
     done)
def Rd(r:z7)(m:Nat):Prop:=(∀x∈r.b,a7b x)/\(O r.b)<=2000/\0<=r.p/\r.p<=(m:Int)
def Rd.mono{r:z7}{m n:Nat}(h:Rd r m)(hn:m<=n):Rd r n:=⟨h.1,h.2.1,h.2.2.1,by have:=h.2.2.2;omega⟩
def e2p{x y:Int}(hx:0<=x)(hx2:x<4611686018427387904)(hy:0<=y)(hy2:y<4611686018427387904):0<=a7Q .i64 x y/\a7Q .i64 x y<4611686018427387904:=by
 obtain⟨a,rfl⟩:∃a:Nat,x=(a:Int):=⟨x.toNat,by omega⟩
 obtain⟨b,rfl⟩:∃b:Nat,y=(b:Int):=⟨y.toNat,by omega⟩
 have hxor:a ^^^ b<2 ^ 62:=Nat.xor_lt_two_pow (by omega) (by omega);have h:a7Q .i64 (a:Int) (b:Int)=((a ^^^ b:Nat):Int):=by
  unfold a7Q;rw[BitVec.toNat_xor];have e1:(BitVec.ofInt IntKind.i64.bits (a:Int)).toNat=a:=by
   show(BitVec.ofInt 64 (a:Int)).toNat=a
   rw[BitVec.toNat_ofInt];omega
  have e2:(BitVec.ofInt IntKind.i64.bits (b:Int)).toNat=b:=by
   show(BitVec.ofInt 64 (b:Int)).toNat=b
   rw[BitVec.toNat_ofInt];omega
  rw[e1,e2];exact IntWalk.i64_in _ ⟨by omega,by omega⟩
 rw[h];omega
def c5T{l:List Int}(h:∀x∈l,a7b x){i:Int}(h0:0<=i)(h1:i<(O l)):∃y,idx l i=U y/\0<=y/\y<=255:=by
 have hlt:i.toNat<(O l):=by omega
 refine⟨l[i.toNat],?_,h _ (g01 hlt)⟩;unfold idx;rw[if_pos h0,g0Y hlt]
def c0E{x n:Int}(hx:0<=x)(hn:1<=n):0<=g1w x n/\g1w x n<n:=by
 rw[g2k hx];exact⟨Int.emod_nonneg _ (by omega),Int.emod_lt_of_pos _ (by omega)⟩
def d0i{x n:Int}(hx:0<=x)(hn:1<=n):0<=g2V x n/\g2V x n<=x:=by
 rw[Int.tdiv_eq_ediv_of_nonneg hx];exact⟨Int.ediv_nonneg hx (by omega),Int.ediv_le_self _ hx⟩
def N2{r:z7}{m:Nat}(h:Rd r m)(hm:m<=1000000000)(n:Int):∃v r',I7 r n=U (v,r')/\Rd r' (m+1)/\0<=v/\(v<n\/v=0):=by
 obtain⟨hb,hbl,hp0,hp1⟩:=h;have hw:s6 (r.p+1)=r.p+1:=F6 (by omega) (by omega);have hw2:s6 (r.p+1-1)=r.p:=by rw[F6 (by omega) (by omega)];omega
 have hr:Rd ⟨r.b,r.p+1⟩ (m+1):=⟨hb,hbl,by simp only;omega,by simp only;omega⟩
 unfold I7;simp only[hw,hw2];by_cases hn:n<1
 ·simp only[hn,decide_true,g25];exact⟨0,_,rfl,hr,by omega,.inr rfl⟩
 simp only[hn,decide_false,g26];cases he:((O r.b:Int)==0);case true=>exact⟨0,_,rfl,hr,by omega,.inr rfl⟩
 have hpos:0<(O r.b):=by
  have:¬(O r.b:Int)=0:=by simpa using he
  omega
 have hne:(O r.b:Int)≠0:=by omega
 have hnn:n≠0:=by omega
 simp only[g26];by_cases hlt:r.p<(O r.b:Int)
 ·obtain⟨y,h1,h2,h3⟩:=c5T hb hp0 hlt;simp only[hlt,decide_true,g25,h1,g0X,A6 hnn];rw[F6 (n:=y) (by omega) (by omega)];have:=c0E h2 (show 1<=n by omega);exact⟨_,_,rfl,hr,this.1,.inl this.2⟩
 ·simp only[hlt,decide_false,g26,A6 hne,A6 hnn];have t1:=c0E hp0 (show(1:Int)<=(O r.b:Int) by omega);obtain⟨y1,a1,a2,a3⟩:=c5T hb t1.1 t1.2;have w7:s6 (r.p*7)=r.p*7:=F6 (by omega) (by omega);have w73:s6 (r.p*7+3)=r.p*7+3:=F6 (by omega) (by omega);have t2:=c0E (show 0<=r.p*7+3 by omega) (show(1:Int)<=(O r.b:Int) by omega);obtain⟨y2,b1,b2,b3⟩:=c5T hb t2.1 t2.2;simp only[a1,w7,w73,b1,g0X];have td:=d0i hp0 (show(1:Int)<=(O r.b:Int) by omega);have c1:s6 (s6 y1*131)=y1*131:=by rw[F6 (n:=y1) (by omega) (by omega),F6 (by omega) (by omega)]
  have c2:s6 (s6 y2*1117)=y2*1117:=by rw[F6 (n:=y2) (by omega) (by omega),F6 (by omega) (by omega)]
  have c3:s6 (r.p*29)=r.p*29:=F6 (by omega) (by omega);have c4:s6 (s6 (g2V r.p (O r.b:Int))*53)=g2V r.p (O r.b:Int)*53:=by rw[F6 (n:=g2V r.p (O r.b:Int)) (by omega) (by omega),F6 (by omega) (by omega)]
  simp only[c1,c2,c3,c4];generalize g2V r.p (O r.b:Int)=q at td;rw[F6 (n:=y1*131+y2*1117) (by omega) (by omega),F6 (n:=y1*131+y2*1117+r.p*29) (by omega) (by omega),F6 (n:=y1*131+y2*1117+r.p*29+q*53) (by omega) (by omega)];have hA0:0<=y1*131+y2*1117+r.p*29+q*53:=by omega
  have hA1:y1*131+y2*1117+r.p*29+q*53<1000000000000:=by omega
  generalize y1*131+y2*1117+r.p*29+q*53=A at hA0 hA1;have t3:=d0i hA0 (show(1:Int)<=64 by omega);rw[F6 (n:=g2V A 64) (by omega) (by omega)];have hx:=e2p hA0 (by omega) t3.1 (by omega);have t4:=c0E hx.1 (show 1<=n by omega);exact⟨_,_,rfl,hr,t4.1,.inl t4.2⟩
def b4X{r:z7}{m:Nat}(h:Rd r m)(hm:m<=1000000000)(l:List Int)(hl:0<(O l))(hl2:(O l)<=1000):∃v r',a71 r l=U (v,r')/\Rd r' (m+1)/\v∈l:=by
 obtain⟨v,r',h1,h2,h3,h4⟩:=N2 h hm (O l:Int);unfold a71;rw[h1,g0X];have hlt:v.toNat<(O l):=by omega
 refine⟨l[v.toNat],r',?_,h2,g01 hlt⟩;unfold idx;simp only[if_pos h3,g0Y hlt,g0X]
def e2j{code:List Int}(h:∀x∈code,a7b x):∃r,b9R code=U r/\Rd r 0:=by
 unfold b9R c3X;by_cases hl:(O code:Int)>2000
 ·simp only[hl,decide_true,g25];rw[A6 ⟨by omega,by omega⟩];refine⟨_,rfl,?_,?_,by simp,by simp⟩
  ·intro x hx;simp only[g2a]at hx;exact h x (g1M hx)
  ·simp only[g1l];have:(2000:Int).toNat-0=2000:=by decide
   omega
 ·simp only[hl,decide_false,g26];exact⟨_,rfl,h,by simp only;omega,by simp,by simp⟩
def U9(i:t8):Bool:=
 bif i.b7==1 then v5 i.A 0 3&&(v5 i.B 0 3&&i.N==0)else
 bif i.b7==2 then v5 i.A 0 3&&(v5 i.B 0 3&&i.N==0)else
 bif i.b7==3 then v5 i.A 0 3&&(i.B==0&&v5 i.N (-1000000) 1000000)else
 bif i.b7==4 then v5 i.A 0 3&&(v5 i.B 0 3&&i.N==0)else
 bif i.b7==5 then v5 i.A 0 3&&(v5 i.B 0 3&&i.N==0)else
 bif i.b7==6 then v5 i.A 0 3&&(v5 i.B 0 3&&v5 i.N 1 10)else
 bif i.b7==7 then i.A==0&&(i.B==0&&i.N==0)else W
def f2j(n:Int):a3N n=U (v5 n 0 3):=by
 rw[<-Q7];unfold a3N H2;have:(n<4)=(n<=3):=by apply propext;omega
 simp only[this]
def e5t(i:t8):b78 i=U (U9 i):=by
 unfold b78 U9;have h6:(bif decide (i.N>=1)then U (decide (i.N<=10))else U W)=U (v5 i.N 1 10):=by
  unfold v5;by_cases h1:i.N>=1<;>by_cases h2:i.N<=10<;>simp[h1,h2]<;>omega
 simp only[f2j,c3q,a8U,g0X,h6];cases i.b7==1<;>cases i.b7==2<;>cases i.b7==3<;>cases i.b7==4<;>cases i.b7==5<;>cases i.b7==6<;>cases i.b7==7<;>cases v5 i.A 0 3<;>cases v5 i.B 0 3<;>cases i.A==0<;>cases i.B==0<;>rfl
def H8(l:List t8):Bool:=decide ((O l)<=10)&&l.all U9
def c5l{l:List t8}(h:z4 l):b0Q l=U (H8 l):=by
 unfold b0Q H8;rw[show(10:Int)=((10:Nat):Int)from rfl,b2s,O5 l h U9 W ()]
 ·cases decide ((O l)<=10)
  ·rfl
  ·cases l.all U9<;>rfl
 ·intro k hk;unfold b8E;rw[B0 _ k hk,z8 hk];simp only[g25,g0X,e5t];cases U9 l[k]<;>rfl
 ·unfold b8E;rw[C1];rfl
def b5y{i:t8}(h:U9 i=Y):(i.b7=1/\(0<=i.A/\i.A<=3)/\(0<=i.B/\i.B<=3))\/(i.b7=2/\(0<=i.A/\i.A<=3)/\(0<=i.B/\i.B<=3))\/(i.b7=3/\(0<=i.A/\i.A<=3)/\(-1000000<=i.N/\i.N<=1000000))\/
  (i.b7=4/\(0<=i.A/\i.A<=3)/\(0<=i.B/\i.B<=3))\/(i.b7=5/\(0<=i.A/\i.A<=3)/\(0<=i.B/\i.B<=3))\/(i.b7=6/\(0<=i.A/\i.A<=3)/\(0<=i.B/\i.B<=3)/\(1<=i.N/\i.N<=10))\/(i.b7=7/\i.A=0):=by
 unfold U9 v5 at h;by_cases h1:i.b7=1
 ·simp[h1]at h;exact .inl ⟨h1,h.1,h.2.1⟩
 by_cases h2:i.b7=2
 ·simp[h2]at h;exact .inr (.inl ⟨h2,h.1,h.2.1⟩)
 by_cases h3:i.b7=3
 ·simp[h3]at h;exact .inr (.inr (.inl ⟨h3,h.1,h.2.2⟩))
 by_cases h4:i.b7=4
 ·simp[h4]at h;exact .inr (.inr (.inr (.inl ⟨h4,h.1,h.2.1⟩)))
 by_cases h5:i.b7=5
 ·simp[h5]at h;exact .inr (.inr (.inr (.inr (.inl ⟨h5,h.1,h.2.1⟩))))
 by_cases h6:i.b7=6
 ·simp[h6]at h;exact .inr (.inr (.inr (.inr (.inr (.inl ⟨h6,h.1,h.2.1,h.2.2⟩)))))
 by_cases h7:i.b7=7
 ·simp[h7]at h;exact .inr (.inr (.inr (.inr (.inr (.inr ⟨h7,h.1⟩)))))
 ·have e1:(i.b7==1)=W:=by simpa using h1
  have e2:(i.b7==2)=W:=by simpa using h2
  have e3:(i.b7==3)=W:=by simpa using h3
  have e4:(i.b7==4)=W:=by simpa using h4
  have e5:(i.b7==5)=W:=by simpa using h5
  have e6:(i.b7==6)=W:=by simpa using h6
  have e7:(i.b7==7)=W:=by simpa using h7
  rw[e1,e2,e3,e4,e5,e6,e7]at h;cases h
def a5m(l:List w8):Bool:=(g09 (O l)).all (a0X l)
def a3i(l:List u9):Bool:=(g09 (O l)).all (a0S l)
def c2L(x:w8):Prop:=0<=x.j7/\x.j7<=3/\0<=x.l8/\x.l8<=1000000
def d53{l:List w8}:a5m l=Y↔(∀x∈l,c2L x)/\l.Pairwise λa b=>a.j7≠b.j7:=by
 unfold a5m;constructor
 ·intro h;refine⟨d6K h,?_⟩;rw[g1R];intro i j hi hj hij heq;have:=g05.1 h j (by simpa using hj);unfold a0X at this;rw[g0Y hj]at this;simp only[g02,g1D]at this;have hs:=this.2.2;unfold O3 at hs;rw[g1K]at hs;refine hs l[i] ?_ (by simpa using heq);rw[g11];exact⟨i,by omega,rfl⟩
 ·rintro⟨h1,h2⟩
  rw[g05];intro k hk;have hk:k<(O l):=by simpa using hk
  unfold a0X;rw[g0Y hk];have hf:=h1 _ (g01 hk);have hs:O3 (l.take k) l[k].j7=W:=by
   unfold O3;rw[g1K];intro x hx;obtain⟨i,hi,rfl⟩:=g11.1 hx;have:=g1R.1 h2 i k (by omega) hk (by omega);simpa using this
  simp only[hs,g1y,g2g,g02];unfold c2L at hf;exact⟨by simp[v5];omega,by simp[v5];omega⟩
def b5w{l:List u9}:a3i l=Y↔(∀x∈l,a1F x)/\l.Pairwise λa b=>a.j7≠b.j7:=by
 unfold a3i;constructor
 ·intro h;refine⟨d7J h,?_⟩;rw[g1R];intro i j hi hj hij heq;have:=g05.1 h j (by simpa using hj);unfold a0S at this;rw[g0Y hj]at this;simp only[g02,g1D]at this;have hs:=this.2.2;unfold P8 at hs;rw[g1K]at hs;refine hs l[i] ?_ (by simpa using heq);rw[g11];exact⟨i,by omega,rfl⟩
 ·rintro⟨h1,h2⟩
  rw[g05];intro k hk;have hk:k<(O l):=by simpa using hk
  unfold a0S;rw[g0Y hk];have hf:=h1 _ (g01 hk);have hs:P8 (l.take k) l[k].j7=W:=by
   unfold P8;rw[g1K];intro x hx;obtain⟨i,hi,rfl⟩:=g11.1 hx;have:=g1R.1 h2 i k (by omega) hk (by omega);simpa using this
  simp only[hs,g1y,g2g,g02];unfold a1F at hf;exact⟨by simp[v5];omega,by simp[v5];omega⟩
def e4P{l:List w8}{x:w8}(h:a5m l=Y)(hx:c2L x)(hs:O3 l x.j7=W):a5m (l++[x])=Y:=by
 rw[d53]at h⊢;refine⟨λy hy => ?_,?_⟩
 ·rcases g0Z.1 hy with hy|hy
  ·exact h.1 y hy
  ·rw[g03.1 hy];exact hx
 ·rw[g2B];refine⟨h.2,by simp,λa ha b hb => ?_⟩;rw[g03.1 hb];unfold O3 at hs;rw[g1K]at hs;simpa using hs a ha
def e54{l:List u9}{x:u9}(h:a3i l=Y)(hx:a1F x)(hs:P8 l x.j7=W):a3i (l++[x])=Y:=by
 rw[b5w]at h⊢;refine⟨λy hy => ?_,?_⟩
 ·rcases g0Z.1 hy with hy|hy
  ·exact h.1 y hy
  ·rw[g03.1 hy];exact hx
 ·rw[g2B];refine⟨h.2,by simp,λa ha b hb => ?_⟩;rw[g03.1 hb];unfold P8 at hs;rw[g1K]at hs;simpa using hs a ha
def e41{l:List u9}{k:Nat}{v:Int}(h:a3i l=Y)(hk:k<(O l))(hv:-1000000<=v/\v<=1000000):a3i (l.set k ⟨l[k].j7,v⟩)=Y:=by
 rw[b5w]at h⊢;refine⟨λy hy => ?_,?_⟩
 ·rcases g1F hy with hy|rfl
  ·exact h.1 y hy
  ·have:=h.1 _ (g01 hk);exact⟨this.1,this.2.1,hv⟩
 ·rw[g1R];intro i j hi hj hij;have hi':i<(O l):=by simpa using hi
  have hj':j<(O l):=by simpa using hj
  have hne:=g1R.1 h.2 i j hi' hj' hij;rw[List.getElem_set,List.getElem_set];split<;>split<;>simp_all
def b2Q(r:s9):a0k r=(v5 r.Code 0 3&&(v5 r.i8 (-1000000) 1000000&&((r.Code==0||(r.i8==0&&(O r.f0)==0))&&((r.Code != 3||(O r.d8)==0)&&(a5m r.d8&&a3i r.f0))))):=rfl
def inV(v:Int):Prop := -1000000<=v/\v<=1000000
structure Way(r:s9)(n:Nat):Prop where
 val:r.i8=0
 reads:a5m r.d8=Y
 puts:a3i r.f0=Y
 rlen:(O r.d8)<=n
 plen:(O r.f0)<=n
structure Ran(r:s9):Prop where
 ok:a0k r=Y
 rlen:(O r.d8)<=40
 plen:(O r.f0)<=40
def c07{r:s9}{n:Nat}(h:Way r n)(hn:n<=40)(hc:r.Code=0\/r.Code=1\/r.Code=2){v:Int}(hv:r.Code=0->inV v):Ran ⟨r.d8,bif r.Code != 0 then []else r.f0,bif r.Code != 0 then r.i8 else v,r.Code⟩:=by
 have h1:=h.rlen;have h2:=h.plen;have hR:=h.reads;have hP:=h.puts;have hP0:a3i []=Y:=rfl;rcases hc with hc|hc|hc
 ·have hv:=hv hc;unfold inV at hv;refine⟨?_,by simp only;omega,by simp only[hc];simp;omega⟩;rw[b2Q];simp[hc,hR,hP,v5,hv]
 ·refine⟨?_,by simp only;omega,by simp[hc]⟩;rw[b2Q];simp[hc,hR,hP0,v5,h.val]
 ·refine⟨?_,by simp only;omega,by simp[hc]⟩;rw[b2Q];simp[hc,hR,hP0,v5,h.val]
def f4D{r:z7}{m:Nat}(h:Rd r m)(hm:m<=100000000):∃i r',c2o r=U (i,r')/\Rd r' (m+10):=by
 obtain⟨k,r1,a1,a2,a3⟩:=b4X h (by omega) [1,1,2,2,3,4,4,5,6,7] (by decide) (by decide);obtain⟨p1,r2,b1,b2,b3,b4⟩:=N2 a2 (by omega) 3;obtain⟨p2,r3,c1,c2,c3,c4⟩:=N2 b2 (by omega) 3;unfold c2o;simp only[a1,b1,c1,g0X];cases h3:k==3
 ·cases h6:k==6
  ·cases h7:k==7
   ·exact⟨_,_,rfl,c2.mono (by omega)⟩
   ·obtain⟨p3,r4,d1,d2,d3,d4⟩:=N2 c2 (by omega) 3;simp only[g25,g26,d1,g0X];cases decide (p3>0)
    ·exact⟨_,_,rfl,d2.mono (by omega)⟩
    ·obtain⟨p4,r5,e1,e2,e3,e4⟩:=N2 d2 (by omega) 4;obtain⟨p5,r6,f1,f2,f3,f4⟩:=N2 e2 (by omega) 4;simp only[g25,e1,f1,g0X];exact⟨_,_,rfl,f2.mono (by omega)⟩
  ·obtain⟨p3,r4,d1,d2,d3,d4⟩:=N2 c2 (by omega) 3;simp only[g25,g26,d1,g0X];exact⟨_,_,rfl,d2.mono (by omega)⟩
 ·obtain⟨n1,r4,d1,d2,d3⟩:=b4X c2 (by omega) [0,1,5,-2,100,1000000] (by decide) (by decide);simp only[g25,d1,g0X];exact⟨_,_,rfl,d2.mono (by omega)⟩
def c4j{r:z7}{m:Nat}(h:Rd r m)(hm:m<=50000000):∃p r',a6N r=U (p,r')/\Rd r' (m+200)/\(O p)<=10:=by
 obtain⟨v,r1,a1,a2,a3,a4⟩:=N2 h (by omega) 3;unfold a6N;simp only[a1,g0X];cases v==0
 ·obtain⟨k,r2,b1,b2,b3,b4⟩:=N2 a2 (by omega) 8;simp only[g26,b1,g0X];obtain⟨x,hx,hq⟩:=c4C (body:=λs:z7×(List t8)×Int=>c0o s.1 s.2.1 s.2.2)
   (λj s=>s.2.2=(j:Int)/\j<=8/\Rd s.1 (m+2+10*(8-j))/\(O s.2.1)+j<=8)
   (λx=>match x with
    | .ret _=>False
    | .brk b=>Rd b.1 (m+200)/\(O b.2)<=10)
   (by
    rintro j ⟨r,out,i⟩ ⟨q1,q2,q3,q4⟩
    simp only at q1 q3 q4⊢;subst q1;unfold c0o;cases j with
    |zero=>exact⟨_,rfl,q3.mono (by omega),by simp only;omega⟩
    |succ j=>
     obtain⟨i,r',d1,d2⟩:=f4D q3 (by omega);have hpos:decide (((j+1:Nat):Int)>0)=Y:=by simp
     have n1:((O out)+1)*32<=140737488355328:=by omega
     rw[hpos,g25,d1,g0X,A6 n1,F6 (by omega) (by omega)];exact⟨_,rfl,j,by omega,by simp only;omega,by omega,d2.mono (by omega),by simp;omega⟩) (k:=k.toNat) (s:=(r2,[],k)) ⟨by simp only;omega,by omega,b2.mono (by omega),by simp;omega⟩
  rw[hx,g0X];cases x with
  |ret r=>cases hq
  |brk b=>exact⟨_,_,rfl,hq.1,hq.2⟩
 ·obtain⟨p1,r2,b1,b2,b3,b4⟩:=N2 a2 (by omega) 3;obtain⟨p2,r3,c1,c2,c3,c4⟩:=N2 b2 (by omega) 3;obtain⟨p3,r4,d1,d2,d3,d4⟩:=N2 c2 (by omega) 3;simp only[g25,b1,c1,d1,g0X];exact⟨_,_,rfl,d2.mono (by omega),by simp⟩
def f04(e:p9):Prop:=(O e.g8.d8)<=40/\(O e.g8.f0)<=40
def drawn(l:List p9):Prop:=(O l)<=41/\∀e∈l,f04 e
def e0l{l:List p9}(h:C4 88 a24 l):b46 l=U (bif K1 l then(w9 l).1 else⟨0,[],[]⟩):=by
 unfold b46;rw[c5L h,g0X];cases hok:K1 l
 ·rfl
 ·obtain⟨hl,he⟩:=a2f hok;rw[g04,g26,b85 h hl he];rfl
def f0N{l:List p9}(h:C4 88 a24 l)(hok:K1 l=Y):c0U l=U (w9 l).1:=by
 obtain⟨hl,he⟩:=a2f hok;have hf:z4 l:=h.fits (by decide);unfold c0U;rw[d1J,g0X,show(40:Int)=((40:Nat):Int)from rfl,b2s,decide_eq_true hl,g04,g26];have hloop:=a0Y (body:=λs:(List t7)×Int×Int×List x6=>b1R l s.1 s.2.1 s.2.2.1 s.2.2.2) (λk=>((w9 (l.take k)).1.j4,(k:Int),(w9 (l.take k)).1.At,(w9 (l.take k)).1.l7)) (O l) (by
  intro k hk;obtain⟨h1,h2,h3⟩:=Z6 hl he k (by omega);have hek:=g05.1 he _ (g01 hk);have hfk:=h.2 _ (g01 hk);rw[a3r hk];unfold b1R;rw[B0 _ k hk,z8 hk,J0 hf hk];simp only[g25,g0X,a5F hfk,hek,g04,g26];rw[show(⟨(w9 (l.take k)).1.At,(w9 (l.take k)).1.j4,(w9 (l.take k)).1.l7⟩:A4)=(w9 (l.take k)).1 from rfl,d8v h1 (by omega) hek hfk,g0X];rfl)
 rw[g1P,g1n]at hloop;rw[show((0:Nat):Int)=0 from rfl]at hloop;rw[show u5 (λs:(List t7)×Int×Int×List x6=>b1R l s.1 s.2.1 s.2.2.1 s.2.2.2) (a0D.j4,0,a0D.At,a0D.l7)=_ from hloop,F3 (b:=((w9 l).1.j4,(w9 l).1.At,(w9 l).1.l7))]
 ·rfl
 ·unfold b1R;rw[C1];rfl
def a0G(a b:List t7):Prop:=(O a)=(O b)/\∀(i:Nat) (x y:t7),a[i]?=U x->b[i]?=U y->x.l8<=y.l8
def a0G.refl(a:List t7):a0G a a:=⟨rfl,λi x y h1 h2=>by rw[h1]at h2;injection h2 with h2;rw[h2];exact g1g _⟩
def a0G.trans{a b c:List t7}(h:a0G a b)(k:a0G b c):a0G a c:=by
 refine⟨h.1.trans k.1,λi x z hx hz => ?_⟩;have hi:i<(O b):=by
  have:=(g06.1 hx).1;have:=h.1;omega
 have h1:=h.2 i x _ hx (g0Y hi);have h2:=k.2 i _ z (g0Y hi) hz;omega
def e98{l:List t7}{p:u9}(h:H1 l=Y)(hp:a1F p):a0G l (a1C l p):=by
 obtain⟨b,_,h2,h3⟩:=a6j h (b:=p.j7) ⟨hp.1,hp.2.1⟩;rw[b3z]at h3;rw[c2m h2];refine⟨by simp,λi x y hx hy => ?_⟩;rw[g2q]at hy;split at hy
 ·rename_i he;split at hy
  ·injection hy with hy;subst hy;rw[<-he,h2]at hx;injection hx with hx;subst hx;simp only;split<;>omega
  ·cases hy
 ·rw[hx]at hy;injection hy with hy;rw[hy];exact g1g _
def c9f:∀{ps:List u9} {l:List t7},H1 l=Y->(∀p∈ps,a1F p)->a0G l (a15 l ps)
 | [],l,_,_=>a0G.refl _
 |p::ps,l,h,hp=>(e98 h (hp p (by simp))).trans (c9f (ps:=ps) (d5X h (hp p (by simp))) λx hx=>hp x (by simp[hx]))
def e6e{s:A4}{k:Nat}{e:p9}(hs:Inv s k)(he:B7 e=Y):a0G s.j4 (apply s e).1.j4:=by
 have hfr:e.j9=W->a0G s.j4 (T5 s e).1.j4:=by
  intro hn;obtain⟨_,_,hr,_⟩:=a42 he hn;unfold T5;cases a18 s.j4 e.g8
  ·exact a0G.refl _
  ·cases e.g8.Code==0
   ·exact a0G.refl _
   ·exact c9f hs.boxes (a4r hr).2.2.2.2
 unfold apply;cases hn:e.j9
 ·simp only[g26];cases s.l7.find? λd=>d.b6.i0==e.b6.i0 with
  |none=>exact hfr hn
  |some d=>
   simp only;cases d.b6.Seq==e.b6.Seq
   ·cases decide (d.b6.Seq>e.b6.Seq)
    ·exact hfr hn
    ·exact a0G.refl _
   ·exact a0G.refl _
 ·exact a0G.refl _
def c8Z{l:List p9}(hl:(O l)<=40)(he:l.all B7=Y){j k:Nat}(hjk:j<=k)(hk:k<=(O l)):a0G (w9 (l.take j)).1.j4 (w9 (l.take k)).1.j4:=by
 induction k with
 |zero=>
  have:j=0:=by omega
  subst this;exact a0G.refl _
 |succ k ih=>
  by_cases hq:j=k+1
  ·subst hq;exact a0G.refl _
  ·refine(ih (by omega) (by omega)).trans ?_;rw[a3r (show k<(O l) by omega)];exact e6e (Z6 hl he k (by omega)).1 (g05.1 he _ (g01 _))
def a67(l:List p9)(codes:List Int)(box:Int)(i:Nat):Bool:=match codes[i]?,l[i]? with
 |some c,U e=>c==0&&P8 e.g8.f0 box
 |_,_=>W
def d9c{l:List t7}{p:u9}{i:Nat}(h:p.j7.toNat≠i):(a1C l p)[i]?=l[i]?:=by
 unfold a1C;cases l[p.j7.toNat]? with
 |none=>rfl
 |some b=>simp only;rw[g1k h]
def e2U{l:List t7}{p:u9}{x:t7}(hx:l[p.j7.toNat]?=U x):(a1C l p)[p.j7.toNat]?=U ⟨if x.l8+1<1000000 then x.l8+1 else 1000000,p.i8⟩:=by
 rw[c2m hx,g18 (g06.1 hx).1]
def f9Q{ps:List u9}{b:Int}(h:P8 ps b=W):∀p∈ps,p.j7≠b:=by
 unfold P8 at h;rw[g1K]at h;intro p hp;simpa using h p hp
def c8n:∀{ps:List u9} {l:List t7} {b:Int},0<=b->(∀p∈ps,a1F p)->P8 ps b=W->(a15 l ps)[b.toNat]?=l[b.toNat]?
 | [],l,b,_,_,_=>rfl
 |p::ps,l,b,hb,hp,hs=>by
  have h1:=f9Q hs;have hf:=hp p (by simp);have hne:p.j7.toNat≠b.toNat:=by
   have:=h1 p (by simp);have:=hf.1;omega
  have hs2:P8 ps b=W:=by
   unfold P8;rw[g1K];intro x hx;have:=h1 x (by simp[hx]);simpa using this
  show(a15 (a1C l p) ps)[b.toNat]?=_
  rw[c8n (l:=a1C l p) hb (λx hx=>hp x (by simp[hx])) hs2,d9c hne]
def d6D:∀{ps:List u9} {l:List t7} {b:Int} {x:t7},0<=b->(∀p∈ps,a1F p)->ps.Pairwise (λp q=>p.j7≠q.j7)->P8 ps b=Y->l[b.toNat]?=U x->
  ∃v,(a15 l ps)[b.toNat]?=U ⟨if x.l8+1<1000000 then x.l8+1 else 1000000,v⟩
 | [],l,b,x,_,_,_,hs,_=>by cases hs
 |p::ps,l,b,x,hb,hp,hd,hs,hx=>by
  have hf:=hp p (by simp);obtain⟨hd1,hd2⟩:=g2f.1 hd;by_cases he:p.j7=b
  ·have hs2:P8 ps b=W:=by
    unfold P8;rw[g1K];intro q hq;have:=hd1 q hq;simp only[beq_iff_eq];intro h;exact this (he.trans h.symm)
   refine⟨p.i8,?_⟩;show(a15 (a1C l p) ps)[b.toNat]?=_
   rw[c8n hb (λq hq=>hp q (by simp[hq])) hs2,<-he,e2U (by rw[he];exact hx)]
  ·have hne:p.j7.toNat≠b.toNat:=by
    have:=hf.1;omega
   have hs2:P8 ps b=Y:=by
    unfold P8 at hs⊢;rw[g2X]at hs;have:(p.j7==b)=W:=by simpa using he
    rwa[this,g1I]at hs
   exact d6D (l:=a1C l p) hb (λq hq=>hp q (by simp[hq])) hd2 hs2 (by rw[d9c hne];exact hx)
def d0s{r:s9}(h:a0k r=Y):a3i r.f0=Y:=by
 rw[b2Q]at h;simp only[g02]at h;exact h.2.2.2.2.2
def c7L{s:A4}{k:Nat}{e:p9}(hs:Inv s k)(he:B7 e=Y):((apply s e).2=0/\e.j9=W/\(apply s e).1.j4=a15 s.j4 e.g8.f0)\/((apply s e).2≠0/\(apply s e).1.j4=s.j4):=by
 have hfr:e.j9=W->((T5 s e).2=0/\e.j9=W/\(T5 s e).1.j4=a15 s.j4 e.g8.f0)\/((T5 s e).2≠0/\(T5 s e).1.j4=s.j4):=by
  intro hn;unfold T5;cases a18 s.j4 e.g8
  ·exact .inr ⟨show(1:Int)≠0 from by decide,rfl⟩
  ·cases e.g8.Code==0
   ·exact .inr ⟨show(2:Int)≠0 from by decide,rfl⟩
   ·exact .inl ⟨rfl,hn,rfl⟩
 unfold apply;cases hn:e.j9
 ·simp only[g26];cases s.l7.find? λd=>d.b6.i0==e.b6.i0 with
  |none=>
   rcases hfr hn with⟨a,_,c⟩|h
   ·exact .inl ⟨a,by simp,c⟩
   ·exact .inr h
  |some d=>
   simp only;cases d.b6.Seq==e.b6.Seq
   ·cases decide (d.b6.Seq>e.b6.Seq)
    ·rcases hfr hn with⟨a,_,c⟩|h
     ·exact .inl ⟨a,by simp,c⟩
     ·exact .inr h
    ·exact .inr ⟨show(4:Int)≠0 from by decide,rfl⟩
   ·exact .inr ⟨show(3:Int)≠0 from by decide,rfl⟩
 ·exact .inr ⟨show(5:Int)≠0 from by decide,rfl⟩
def b6C{l:List p9}(hl:(O l)<=40)(he:l.all B7=Y){k:Nat}(hk:k<(O l)):(w9 l).2[k]?=U (apply (w9 (l.take k)).1 l[k]).2:=by
 have key:∀n,k<n->n<=(O l)->(w9 (l.take n)).2[k]?=U (apply (w9 (l.take k)).1 l[k]).2:=by
  intro n;induction n with
  |zero=>intro h;omega
  |succ n ih=>
   intro h1 h2;have hlen:=(Z6 hl he n (by omega)).2.1;rw[a3r (show n<(O l) by omega)];unfold b2v;by_cases hq:k=n
   ·subst hq;simp only;rw[g1j (by omega),hlen,Nat.sub_self];rfl
   ·simp only;rw[g1o (by omega)];exact ih (by omega) (by omega)
 have:=key (O l) hk (g07 _);rwa[g1n]at this
def d2j{l:List p9}(hl:(O l)<=40)(he:l.all B7=Y){k:Nat}(hk:k<(O l)){b:Int}(h0:0<=b)(h:a67 l (w9 l).2 b k=W):(w9 (l.take (k+1))).1.j4[b.toNat]?=(w9 (l.take k)).1.j4[b.toNat]?:=by
 have hek:=g05.1 he _ (g01 hk);have hin:=(Z6 hl he k (by omega)).1;rw[a3r hk];show(apply (w9 (l.take k)).1 l[k]).1.j4[b.toNat]?=_
 rcases c7L hin hek with⟨h1,h2,h3⟩|⟨h1,h2⟩
 ·rw[h3];obtain⟨_,_,hr,_⟩:=a42 hek h2;refine c8n h0 (a4r hr).2.2.2.2 ?_;unfold a67 at h;rw[b6C hl he hk,g0Y hk,h1]at h;simpa using h
 ·rw[h2]
def d0B{l:List p9}(hl:(O l)<=40)(he:l.all B7=Y){k:Nat}(hk:k<(O l)){b:Int}(h:a67 l (w9 l).2 b k=Y):(0<=b/\b<=3)/\∀x,(w9 (l.take k)).1.j4[b.toNat]?=U x->
  ∃v,(w9 (l.take (k+1))).1.j4[b.toNat]?=U ⟨if x.l8+1<1000000 then x.l8+1 else 1000000,v⟩:=by
 have hek:=g05.1 he _ (g01 hk);have hin:=(Z6 hl he k (by omega)).1;unfold a67 at h;rw[b6C hl he hk,g0Y hk]at h;simp only[g02,beq_iff_eq]at h;rcases c7L hin hek with⟨h1,h2,h3⟩|⟨h1,h2⟩
 ·obtain⟨_,_,hr,_⟩:=a42 hek h2;have hp:=(a4r hr).2.2.2.2;have hb:0<=b/\b<=3:=by
   have:=h.2;unfold P8 at this;rw[g2e]at this;obtain⟨p,hp1,hp2⟩:=this;have hpb:p.j7=b:=by simpa using hp2
   have:=hp p hp1;omega
  refine⟨hb,λx hx => ?_⟩;rw[a3r hk];show ∃v,(apply (w9 (l.take k)).1 l[k]).1.j4[b.toNat]?=_
  rw[h3];exact d6D hb.1 hp (b5w.1 (d0s hr)).2 h.2 hx
 ·exact absurd h.1 h1
def c5o{l:List p9}(hl:(O l)<=40)(he:l.all B7=Y){b:Int}(hb:0<=b/\b<=3):∀k,k<=(O l)->∃x,(w9 (l.take k)).1.j4[b.toNat]?=U x/\0<=x.l8/\x.l8<=(k:Int)
 | 0,_=>by
  rw[g1P];have:b=0\/b=1\/b=2\/b=3:=by omega
  rcases this with rfl|rfl|rfl|rfl<;>exact⟨⟨0,0⟩,rfl,by decide,by decide⟩
 |k+1,hk=>by
  obtain⟨x,h1,h2,h3⟩:=c5o hl he hb k (by omega);cases hp:a67 l (w9 l).2 b k
  ·rw[d2j hl he (by omega) hb.1 hp];exact⟨x,h1,h2,by omega⟩
  ·obtain⟨_,hq⟩:=d0B hl he (show k<(O l) by omega) hp;obtain⟨v,hv⟩:=hq x h1;refine⟨_,hv,?_,?_⟩
   ·simp only;split<;>omega
   ·simp only;split<;>omega
def d8h{l:List p9}(hl:(O l)<=40)(he:l.all B7=Y){b:Int}(h0:0<=b){j:Nat}:∀k,j<=k->k<=(O l)->(∀i,j<=i->i<k->a67 l (w9 l).2 b i=W)->(w9 (l.take k)).1.j4[b.toNat]?=(w9 (l.take j)).1.j4[b.toNat]?
 | 0,hj,_,_=>by
  have:j=0:=by omega
  rw[this]
 |k+1,hj,hk,h=>by
  by_cases hq:j=k+1
  ·rw[hq]
  ·rw[d2j hl he (by omega) h0 (h k (by omega) (by omega))];exact d8h hl he h0 k (by omega) (by omega) λi h1 h2=>h i h1 (by omega)
def cnt(cs:List Int)(c:Int):Int:=((cs.filter λx=>x==c).length:Int)
def f4S(cs:List Int)(c d:Int):cnt (cs++[c]) d=cnt cs d+(if c=d then 1 else 0):=by
 unfold cnt;rw[List.filter_append];by_cases h:c=d<;>simp[h]
def c7g(cs:List Int)(c:Int):0<=cnt cs c/\cnt cs c<=(O cs):=by
 unfold cnt;have:=List.length_filter_le (λx=>x==c) cs;omega
def c0x(l:List p9)(cs:List Int)(k:Nat):List u0:=match cs[k]?,l[k]? with
 |some c,U e=>bif c==0 then [e.b6]else []
 |_,_=>[]
def told(l:List p9)(cs:List Int):Nat->List u0
 | 0=>[]
 |k+1=>told l cs k++c0x l cs k
def c0Z{l:List p9}{cs:List Int}{k:Nat}(h1:k<(O l))(h2:k<(O cs)):c0x l cs k=bif cs[k]==0 then [l[k].b6]else []:=by
 unfold c0x;rw[g0Y h1,g0Y h2]
def c0f{l:List p9}{cs:List Int}(hc:(O cs)=(O l)):∀k,k<=(O l)->((told l cs k).length:Int)=cnt (cs.take k) 0
 | 0,_=>rfl
 |k+1,hk=>by
  have h1:k<(O cs):=by omega
  have ih:=c0f hc k (by omega);unfold told;rw[g1u h1,f4S,c0Z (show k<(O l) by omega) h1,<-ih];by_cases hq:cs[k]=0
  ·simp[hq]
  ·have hq':(cs[k]==0)=W:=by simpa using hq
   simp[hq,hq']
def F5(l:List p9):List u0:=bif K1 l then told l (w9 l).2 (O l)else []
def e1g{l:List u0}(h:(O l)*16<=140737488351232):b8R l=U l:=by
 unfold b8R z5;cases l with
 |nil=>rfl
 |cons x l=>
  have h1:(((x::l).length:Int)==0)=W:=by simp;omega
  rw[h1,g26,if_pos (by constructor<;>omega),if_pos (by simp)]
def f3t{l:List p9}(h:C4 88 a24 l):b7Z l=U (F5 l):=by
 unfold b7Z F5;rw[c5L h,g0X];cases hok:K1 l
 ·rfl
 have hf:z4 l:=h.fits (by decide);obtain⟨hl,he⟩:=a2f hok;obtain⟨_,hlen,hc⟩:=Z6 hl he (O l) (g07 _);rw[g1n]at hlen hc;rw[g04,g26,g25,b85 h hl he,g0X];have hsm:∀k,k<=(O l)->(told l (w9 l).2 k).length<=40:=by
  intro k hk;have h1:=c0f hlen k hk;have h2:=c7g ((w9 l).2.take k) 0;rw[g1l]at h2;omega
 have hloop:=a0Y (body:=λs:(List u0)×Int=>b1b l (w9 l) s.1 s.2) (λk=>(told l (w9 l).2 k,(k:Int))) (O l) (by
  intro k hk;have hk2:k<(w9 l).2.length:=by omega
  have hs:=hsm k (by omega);have n1:((told l (w9 l).2 k).length+1)*16<=140737488355328:=by omega
  show b1b l (w9 l) (told l (w9 l).2 k) (k:Int)=U (.nxt (told l (w9 l).2 k++c0x l (w9 l).2 k,((k+1:Nat):Int)))
  rw[c0Z hk hk2];unfold b1b c37;rw[B0 _ k hk,z8 hk,z8 hk2,J0 hf hk];simp only[g25,g0X,A6 n1];cases(w9 l).2[k]==0
  ·simp only[g26,g0X,r9.go,g1i]
  ·rfl)
 rw[show told l (w9 l).2 0=[]from rfl,show((0:Nat):Int)=0 from rfl]at hloop;rw[hloop,F3 (b:=told l (w9 l).2 (O l))]
 ·simp only[g0X,r9.go];unfold c5p;rw[e1g (by have:=hsm (O l) (g07 _);omega)];rfl
 ·unfold b1b;rw[C1];rfl
def a7P{ps:List u9}(h:ps.Pairwise λp q=>p.j7≠q.j7)(b:Int):(ps.filter λp=>p.j7==b).length<=1:=by
 have h2:=h.filter (λp=>p.j7==b);cases hq:ps.filter λp=>p.j7==b with
 |nil=>simp
 |cons x r=>
  cases r with
  |nil=>simp
  |cons y r=>
   rw[hq]at h2;have hne:=(g2f.1 h2).1 y (by simp);have hx:x∈ps.filter λp=>p.j7==b:=by rw[hq];simp
   have hy:y∈ps.filter λp=>p.j7==b:=by rw[hq];simp
   have hx:=(g12.1 hx).2;have hy:=(g12.1 hy).2;simp only[beq_iff_eq]at hx hy;omega
def c3u:∀{ps:List u9},(∀p∈ps,a1F p)->(O ps)=(ps.filter λp=>p.j7==0).length+(ps.filter λp=>p.j7==1).length+(ps.filter λp=>p.j7==2).length+(ps.filter λp=>p.j7==3).length
 | [],_=>rfl
 |p::ps,h=>by
  have ih:=c3u (ps:=ps) λx hx=>h x (by simp[hx])
  have hp:=h p (by simp);have:p.j7=0\/p.j7=1\/p.j7=2\/p.j7=3:=by
   have:=hp.1;have:=hp.2.1;omega
  simp only[List.filter_cons,g1G];rcases this with q|q|q|q<;>simp[q]<;>omega
def e8X{r:s9}(h:a0k r=Y):(O r.f0)<=4:=by
 have h1:=(b5w.1 (d0s h))
 have h2:=c3u h1.1;have a:=a7P h1.2 0;have b:=a7P h1.2 1;have c:=a7P h1.2 2;have d:=a7P h1.2 3;omega
def okEntries.s{l:List p9}(h:C4 88 I5 l):C4 88 a24 l:=h.imp λ_ x=>x.f
def a5L(c x:Bool):(bif c then U x else U W)=U (c&&x):=by cases c<;>rfl
def b6S(c x:Bool):(bif c then U W else U x)=U (!c&&x):=by cases c<;>rfl
def f0L(n lo hi:Int):v5 n lo hi=(!decide (n<lo) && !decide (n>hi)):=by
 unfold v5;by_cases h1:n<lo<;>by_cases h2:n>hi<;>simp[h1,h2]<;>omega
def rng{C:Type}(n lo hi:Int)(X Ψ:C):(bif decide (n<lo)then Ψ else bif decide (n>hi)then Ψ else X)=bif v5 n lo hi then X else Ψ:=by
 rw[f0L];cases decide (n<lo)<;>cases decide (n>hi)<;>rfl
def c8q{C:Type}(n lo:Int)(X Ψ:C):(bif decide (n<lo)then Ψ else bif decide (n>=3)then Ψ else X)=bif v5 n lo 2 then X else Ψ:=by
 have e:decide (n>=3)=decide (n>2):=by
  by_cases h:n>2
  ·rw[decide_eq_true h,decide_eq_true (by omega)]
  ·rw[decide_eq_false h,decide_eq_false (by omega)]
 rw[<-rng,e]
def a6z(a b:Int):(!decide (a>b))=decide (a<=b):=by
 by_cases h:a<=b
 ·simp[h]
 ·simp[h];omega
def c8T{C:Type}(l:List C):decide ((O l:Int)>0) = !((O l:Int)==0):=by
 by_cases hp:(O l)=0
 ·rw[decide_eq_false (by omega),show((O l:Int)==0)=Y from by rw[hp];rfl];rfl
 ·rw[decide_eq_true (by omega),show((O l:Int)==0)=W from by rw[<-g2W,beq_iff_eq];omega];rfl
def b43{C:Type}[BEq C](a b:C):(!(a != b))=(a==b):=by simp[bne]
abbrev zE:p9:=⟨W,⟨0,0⟩,⟨[],[],0,0⟩⟩
def S9(a b:p9):Bool:=(a.j9==b.j9)&&((([a.b6.i0,a.b6.Seq]:List Int)==[b.b6.i0,b.b6.Seq])&&a5v a.g8 b.g8)
def a72{a b:p9}(h:I5 a):a0e a b=U (S9 a b):=by
 unfold a0e S9;simp only[c3T h.f.2,g0X,a5L]
def c7N{e:p9}(h:I5 e):a6s e=U (S9 e zE):=by
 unfold a6s S9;simp only[c75 h.f.2,g0X,a5L];cases e.j9<;>rfl
def b0Y(n:Int):a2O n=U (v5 n 1 3000):=Q7 n 1 3000
def a1t(v:s7):Bool:=bif v.b5==0 then S9 v.i9 zE else v5 v.b5 1 3000&&B7 v.i9
def e7H{v:s7}(h:Z5 v):b7o v=U (a1t v):=by
 unfold b7o a1t;simp only[a72 h.2,Q7,a60 h.2.f,g0X,a5L];cases v.b5==0<;>rfl
def e9T{v:s7}(h:Z5 v):c2v v=U (a1t v):=by
 unfold c2v a1t S9;simp only[c75 h.2.f.2,b0Y,a5F h.2.f,g0X,a5L];cases v.b5==0<;>cases v.i9.j9<;>rfl
def R8(l:List s7):Bool:=decide ((O l)<=40)&&l.all a1t
def c4w{l:List s7}(h:C4 96 Z5 l):a7M l=U (R8 l):=by
 unfold a7M R8;rw[show(40:Int)=((40:Nat):Int)from rfl,b2s,O5 l (h.fits (by decide)) a1t W ()]
 ·cases decide ((O l)<=40)
  ·rfl
  ·cases l.all a1t<;>rfl
 ·intro k hk;unfold b7E;rw[B0 _ k hk,z8 hk];simp only[g25,g0X,e9T (h.2 _ (g01 hk))];cases a1t l[k]<;>rfl
 ·unfold b7E;rw[C1];rfl
def b5M{l:List s7}(h:C4 96 Z5 l):a7U l=U (R8 l):=by
 unfold a7U R8 c5e;rw[show(40:Int)=((40:Nat):Int)from rfl,c3e,O5 l (h.fits (by decide)) a1t W ()]
 ·cases l.all a1t<;>cases decide ((O l)<=40)<;>rfl
 ·intro k hk;unfold b8l;rw[B0 _ k hk,z8 hk];simp only[g25,g0X,e7H (h.2 _ (g01 hk))];cases a1t l[k]<;>rfl
 ·unfold b8l;rw[C1];rfl
def V0(a:B4):Bool:=v5 a.i7 0 3000&&(R8 a.b8&&a.b8.all λv => !decide (v.b5>a.i7))
def f3p{a:B4}(h:a7q a):c02 a=U (V0 a):=by
 unfold c02 V0;rw[rng,c4w h.2,O5 a.b8 (h.2.fits (by decide)) (λv => !decide (v.b5>a.i7)) W ()]
 ·simp only[g0X];cases v5 a.i7 0 3000<;>cases R8 a.b8<;>cases a.b8.all (λv => !decide (v.b5>a.i7))<;>rfl
 ·intro k hk;unfold c0c;rw[B0 _ k hk,z8 hk];simp only[g25,g0X];cases decide (a.b8[k].b5>a.i7)<;>rfl
 ·unfold c0c;rw[C1];rfl
def d4N{a:B4}(h:a7q a):b1T a=U (V0 a):=by
 unfold b1T V0;rw[O5 a.b8 (h.2.fits (by decide)) (λv => !decide (v.b5>a.i7)) W ()]
 ·unfold c5K;simp only[Q7,b5M h.2,g0X];cases v5 a.i7 0 3000<;>cases R8 a.b8<;>cases a.b8.all (λv => !decide (v.b5>a.i7))<;>rfl
 ·intro k hk;unfold c04;rw[B0 _ k hk,z8 hk];simp only[g25,g0X];cases decide (a.b8[k].b5>a.i7)<;>rfl
 ·unfold c04;rw[C1];rfl
def f2A(i:t8):b7P i=U (U9 i):=by
 unfold b7P U9 a4u b9n;simp only[Q7,g0X];cases i.b7==1<;>cases i.b7==2<;>cases i.b7==3<;>cases i.b7==4<;>cases i.b7==5<;>cases i.b7==6<;>cases i.b7==7<;>cases v5 i.A 0 3<;>cases v5 i.B 0 3<;>cases i.A==0<;>cases i.B==0<;>rfl
def b8I{l:List t8}(h:z4 l):b0o l=U (H8 l):=by
 unfold b0o H8 c5s;rw[show(10:Int)=((10:Nat):Int)from rfl,c3e,O5 l h U9 W ()]
 ·cases l.all U9<;>cases decide ((O l)<=10)<;>rfl
 ·intro k hk;unfold b76;rw[B0 _ k hk,z8 hk];simp only[g25,g0X,f2A];cases U9 l[k]<;>rfl
 ·unfold b76;rw[C1];rfl
def a1l(b:Int):Int:=bif v5 b 1 3000 then g1w b 3 else -1
def e7M(b:Int):b1M b=U (a1l b):=by
 unfold b1M a1l;rw[b0Y,g0X];cases v5 b 1 3000<;>rfl
def d60(b:Int):b5V b=U (a1l b):=by
 unfold b5V a1l;rw[Q7,g0X];cases v5 b 1 3000<;>rfl
def c2y(l:List Bool)(id:Int):Bool:=(idx l id).getD W
def a6i(l:List Bool)(id:Int):Bool:=((O l:Int)==3)&&c2y l id
def d3K{l:List Bool}{id:Int}(h:v5 id 0 2=Y)(hl:((O l:Int)==3)=Y):idx l id=U (c2y l id):=by
 unfold v5 at h;simp only[decide_eq_true_eq]at h;simp only[beq_iff_eq]at hl;unfold c2y idx;rw[if_pos h.1,g0Y (by omega)];rfl
def e0C{l:List Bool}{id:Int}(h:v5 id 0 2=Y)(x:Bool):(bif((O l:Int)==3)then(idx l id).bind λy=>U (y&&x)else U W)=U (a6i l id&&x):=by
 unfold a6i;cases hl:((O l:Int)==3)
 ·rfl
 ·rw[d3K h hl];rfl
def f3l{l:List Bool}{id:Int}(h:v5 id 0 2=Y):b6I l id=U (a6i l id):=by
 unfold b6I a6i;cases hl:((O l:Int)==3)
 ·rfl
 ·rw[d3K h hl];rfl
def a5r(n:m4):Bool:=S9 n.g9 zE&&((O n.b8:Int)==0)
def a1P(n:m4):Bool:=
  bif n.d6==0 then(n.b5==0)&&(((O n.d7:Int)==0)&&(((O n.j5:Int)==0)&&a5r n))else
  (a1l n.b5==n.Id)&&(decide (n.b5<=n.Acc.i7)&&(R8 n.j5 &&
    (bif n.d6==1 then a6i n.d7 n.Id&&a5r n else
     bif n.d6==2 then((O n.d7:Int)==0)&&a5r n else
     bif n.d6==3 then((O n.d7:Int)==0)&&(B7 n.g9&&(a6i n.b8 n.Id&&decide ((O n.a9:Int)<40)))else W)))
def c55{n:m4}(h:v5 n.Id 0 2=Y)(ho:(a1l n.b5==n.Id)=Y):v5 n.b5 1 3000=Y:=by
 cases hb:v5 n.b5 1 3000
 ·unfold a1l at ho;rw[hb]at ho;unfold v5 at h;simp only[decide_eq_true_eq,g26,beq_iff_eq]at h ho;omega
 ·rfl
def f6j{n:m4}(h:V8 n)(hId:v5 n.Id 0 2=Y):b4E n=U (a1P n):=by
 have hj:b4E n=c1q n (a5r n):=by
  unfold b4E a5r;simp only[a72 h.2.2.2.2.2.2.2.2.1,g0X];cases S9 n.g9 zE<;>rfl
 rw[hj];unfold c1q a1P;simp only[d60,b5M h.2.2.2.2.2.2.2.1,f3l hId,a60 h.2.2.2.2.2.2.2.2.1.f,g0X,a5L];cases n.d6==0
 ·simp only[g26];cases n.d6==1<;>cases n.d6==2<;>cases n.d6==3<;>simp only[g25,g26,b6S,b43,a6z,g22]<;>(cases a1l n.b5==n.Id<;>cases decide (n.b5<=n.Acc.i7)<;>cases R8 n.j5<;>rfl)
 ·rfl
def e4t{n:m4}(h:V8 n)(hId:v5 n.Id 0 2=Y):b9Z n=U (a1P n):=by
 unfold b9Z a1P;simp only[e7M,b0Y,c7N h.2.2.2.2.2.2.2.2.1,c4w h.2.2.2.2.2.2.2.1,a5F h.2.2.2.2.2.2.2.2.1.f,g0X,a5L,b6S,e0C hId,b43,a6z,g22];have hb:=c55 (n:=n) hId;cases h0:n.d6==0
 ·cases h1:n.d6==1
  ·cases h2:n.d6==2
   ·cases h3:n.d6==3
    ·simp only[g26,Bool.and_false]
    ·simp only[g26,g25,b6S,b43,a6z,g22];cases ho:a1l n.b5==n.Id
     ·simp
     ·rw[hb ho];cases decide (n.b5<=n.Acc.i7)<;>cases R8 n.j5<;>cases((O n.d7:Int)==0)<;>rfl
   ·simp only[g26,g25,b6S,b43,a6z,g22];cases ho:a1l n.b5==n.Id
    ·simp
    ·rw[hb ho];unfold a5r;cases decide (n.b5<=n.Acc.i7)<;>cases R8 n.j5<;>cases((O n.d7:Int)==0)<;>rfl
  ·simp only[g26,g25,b6S,b43,a6z,g22];cases ho:a1l n.b5==n.Id
   ·simp
   ·rw[hb ho];unfold a5r;cases decide (n.b5<=n.Acc.i7)<;>cases R8 n.j5<;>cases a6i n.d7 n.Id<;>rfl
 ·unfold a5r;simp only[g25]
def a5B(n:m4):Bool:=
 bif n.j6 then H8 n.j8&&(B7 n.d9&&(!n.d9.j9&&(([n.d9.b6.i0,n.d9.b6.Seq]:List Int)==[n.Id,n.Seq])))else((O n.j8:Int)==0)&&S9 n.d9 zE
def f4e{n:m4}(h:V8 n):b7X n=U (a5B n):=by
 unfold b7X a5B;have hw:=h.2.2.2.2.2.2.2.2.2.2.2.1;simp only[c7N hw,c5l (h.2.2.2.2.2.2.2.2.2.2.1.fits (by decide)),a5F hw.f,g0X,a5L];cases n.j6<;>rfl
def b96(l:List p9):Bool:=l.all λe=>B7 e && !e.j9
def H4(n:m4):Bool:=v5 n.Id 0 2&&(V0 n.Acc&&(K1 n.a9&&(v5 n.Seq 0 1000&&(decide ((O n.i5:Int)<=4)&&(a1P n&&(a5B n&&b96 n.i5))))))
def b2X{n:m4}(h:V8 n):a5S n=U (H4 n):=by
 unfold a5S H4;rw[c8q];cases hId:v5 n.Id 0 2
 ·rfl
 ·rw[rng,f3p h.2.1,e24 (okEntries.s h.2.2.1),e4t h hId,f4e h,O5 n.i5 (h.2.2.2.2.2.2.2.2.2.2.2.2.fits (by decide)) (λe=>B7 e && !e.j9) W ()]
  ·unfold b96 c6R;rw[<-a6z];simp only[g0X,g25];cases V0 n.Acc<;>cases K1 n.a9<;>cases v5 n.Seq 0 1000<;>cases decide ((O n.i5:Int)>4)<;>cases a1P n<;>cases a5B n<;>cases n.i5.all (λe=>B7 e && !e.j9)<;>rfl
  ·intro k hk;unfold c0r;rw[B0 _ k hk,z8 hk];simp only[g25,g0X,a5F ((h.2.2.2.2.2.2.2.2.2.2.2.2).2 _ (g01 hk)).f];cases B7 n.i5[k]<;>cases n.i5[k].j9<;>rfl
  ·unfold c0r;rw[C1];rfl
def b0a{n:m4}(h:V8 n):a43 n=U (H4 n):=by
 unfold a43 H4;rw[Q7,g0X];cases hId:v5 n.Id 0 2
 ·rfl
 ·have hw:=h.2.2.2.2.2.2.2.2.2.2.2.1;have hk3:b84 n=U (a5B n&&a1P n):=by
   unfold b84 c3i a5B;simp only[b8I (h.2.2.2.2.2.2.2.2.2.2.1.fits (by decide)),a60 hw.f,a72 hw,f6j h hId,g0X];cases n.j6
   ·rw[c8T];cases((O n.j8:Int)==0)<;>cases S9 n.d9 zE<;>rfl
   ·cases H8 n.j8<;>cases B7 n.d9<;>cases n.d9.j9<;>cases(([n.d9.b6.i0,n.d9.b6.Seq]:List Int)==[n.Id,n.Seq])<;>rfl
  rw[d4N h.2.1,c5L (okEntries.s h.2.2.1),Q7,hk3,O5 n.i5 (h.2.2.2.2.2.2.2.2.2.2.2.2.fits (by decide)) (λe=>B7 e && !e.j9) W ()]
  ·unfold b96;rw[<-a6z];simp only[g0X,g04,g26];cases V0 n.Acc<;>cases K1 n.a9<;>cases v5 n.Seq 0 1000<;>cases decide ((O n.i5:Int)>4)<;>cases a1P n<;>cases a5B n<;>cases n.i5.all (λe=>B7 e && !e.j9)<;>rfl
  ·intro k hk;unfold b67;rw[B0 _ k hk,z8 hk];simp only[g25,g0X,a60 ((h.2.2.2.2.2.2.2.2.2.2.2.2).2 _ (g01 hk)).f];cases B7 n.i5[k]<;>cases n.i5[k].j9<;>rfl
  ·unfold b67;rw[C1];rfl
def a7j(m:m9):Bool:=
 let bal:=v5 m.b5 1 3000;let non:=S9 m.i9 zE;let nv:=(O m.b8:Int)==0;bif m.b7==1 then bal&&(non&&nv)else
 bif m.b7==4 then bal&&(non&&nv)else
 bif m.b7==2 then bal&&(non&&(R8 m.b8&&decide (s6 (m.i6+(O m.b8:Int))<=40)))else
 bif m.b7==3 then bal&&(decide (m.i6<40)&&(B7 m.i9&&nv))else
 bif m.b7==5 then(m.b5==0)&&(decide (m.i6<40)&&(B7 m.i9&&nv))else
 bif m.b7==6 then bal&&((m.i6==0)&&(non&&nv))else
 bif m.b7==7 then(m.b5==0)&&((m.i6==0)&&(B7 m.i9&&(!m.i9.j9&&nv)))else
 bif m.b7==8 then(m.b5==0)&&(non&&nv)else W
def W4(m:m9):Bool:=v5 m.d7 0 2&&(v5 m.To 0 2&&(!(m.d7==m.To)&&(v5 m.i6 0 40&&a7j m)))
def d1v{m:m9}(h:a1L m):b3C m=U (W4 m):=by
 unfold b3C W4 a7j;have he:=h.2.2.2.2.2.1;simp only[Q7,a72 he,a60 he.f,b5M h.2.2.2.2.2.2,g0X,a5L];cases v5 m.d7 0 2
 ·rfl
 cases v5 m.To 0 2
 ·rfl
 cases m.d7==m.To;case true=>rfl
 cases v5 m.i6 0 40
 ·rfl
 cases m.b7==1<;>cases m.b7==4<;>cases m.b7==2<;>cases m.b7==3<;>cases m.b7==5<;>cases m.b7==6<;>cases m.b7==7<;>cases m.b7==8<;>rfl
def f0e{m:m9}(h:a1L m):c0C m=U (W4 m):=by
 unfold c0C W4;have he:=h.2.2.2.2.2.1;have hj2:b63 m=b5N m (S9 m.i9 zE) (B7 m.i9&&decide (m.i6<40)):=by
  unfold b63;simp only[c7N he,a5F he.f,g0X];cases B7 m.i9<;>rfl
 have hj:∀nv:Bool,nv=((O m.b8:Int)==0)->(m.b7==2||nv)=Y->b5N m (S9 m.i9 zE) (B7 m.i9&&decide (m.i6<40))=U (a7j m):=by
  intro nv hnv hk;unfold b5N a7j;simp only[b0Y,c4w h.2.2.2.2.2.2,a5F he.f,g0X,a5L];rw[<-hnv];cases h1:m.b7==1;case true=>
   have:(m.b7==2)=W:=by
    simp only[beq_iff_eq]at h1;rw[h1];rfl
   rw[this,g1I]at hk;simp only[g25,hk,g2g]
  cases h2:m.b7==2;case true=>
   cases h4:m.b7==4
   ·rfl
   ·simp only[beq_iff_eq]at h2 h4;omega
  rw[h2,g1I]at hk;subst hk;cases h3:m.b7==3;case true=>
   cases h4:m.b7==4
   ·simp only[g25,g26,g2g];cases v5 m.b5 1 3000<;>cases B7 m.i9<;>cases decide (m.i6<40)<;>rfl
   ·simp only[beq_iff_eq]at h3 h4;omega
  cases h4:m.b7==4;case true=>simp only[g25,g26,g2g]
  simp only[g26];cases m.b7==5;case true=>
   simp only[g25,g2g];cases m.b5==0<;>cases B7 m.i9<;>cases decide (m.i6<40)<;>rfl
  simp only[g26];cases m.b7==6;case true=>
   simp only[g25,g2g];cases v5 m.b5 1 3000<;>cases S9 m.i9 zE<;>cases m.i6==0<;>rfl
  cases m.b7==7<;>cases m.b7==8<;>simp only[g25,g26,g2g,g1h,g24]
 rw[hj2,c8q];cases v5 m.d7 0 2
 ·rfl
 simp only[g25,g1h];rw[c8q];cases v5 m.To 0 2
 ·rfl
 simp only[g25,g1h];cases m.d7==m.To;case true=>rfl
 simp only[g26,g1y,g1h];rw[rng];cases v5 m.i6 0 40
 ·rfl
 simp only[g25,g1h];rw[c8T];cases h2:m.b7==2
 ·rw[show(m.b7 != 2)=Y from by rw[bne,h2];rfl];cases hv:((O m.b8:Int)==0)
  ·show U W=_
   have:a7j m=W:=by
    unfold a7j;rw[h2,hv];simp
   rw[this]
  ·exact hj Y hv.symm (by simp)
 ·rw[show(m.b7 != 2)=W from by rw[bne,h2];rfl];exact hj _ rfl (by rw[h2];rfl)
def Z8(t:s8):Bool:=v5 t.Node 0 2&&((v5 t.b6.i0 0 2&&v5 t.b6.Seq 1 1000)&&((t.b6.i0==t.Node)&&(v5 t.Code 0 4&&v5 t.i8 (-1000000) 1000000)))
def f8T(t:s8):c2J t=U (Z8 t):=by
 unfold c2J Z8;simp only[c3B,a8U,g0X,a5L];have e1:v5 t.Node 0 2=(decide (t.Node>=0)&&decide (t.Node<3)):=by
  unfold v5;by_cases h1:t.Node>=0<;>by_cases h2:t.Node<3<;>simp[h1,h2]<;>omega
 have e2:v5 t.Code 0 4=(decide (t.Code>=0)&&decide (t.Code<=4)):=by
  unfold v5;by_cases h1:t.Code>=0<;>by_cases h2:t.Code<=4<;>simp[h1,h2]<;>omega
 rw[e1,e2];simp only[g2G]
def a06(x:B2):Bool:=(v5 x.b6.i0 0 2&&v5 x.b6.Seq 1 1000)&&H8 x.j8
def a5q(w:m6)(k:Nat):Bool:=match w.b9[k]? with
 |some n=>(n.Id==(k:Int))&&H4 n
 |none=>Y
def C8(w:m6):Bool:=((O w.b9:Int)==3)&&(decide ((O w.c9:Int)<=40)&&(decide ((O w.i4:Int)<=60)&&(decide ((O w.Told:Int)<=60)&&((g09 (O w.b9)).all (a5q w)&&(w.c9.all W4&&(w.i4.all a06&&w.Told.all Z8))))))
def d44{w:m6}(h:X6 w):b3L w=U (C8 w):=by
 have k7:c1Q w=U (w.Told.all Z8):=by
  unfold c1Q;rw[O5 w.Told (h.2.2.2.fits (by decide)) Z8 W ()]
  ·cases w.Told.all Z8<;>rfl
  ·intro k hk;unfold b8z;rw[B0 _ k hk,z8 hk];simp only[g25,g0X,f8T];cases Z8 w.Told[k]<;>rfl
  ·unfold b8z;rw[C1];rfl
 have k9:b9p w=U (w.i4.all a06&&w.Told.all Z8):=by
  unfold b9p;rw[O5 w.i4 (h.2.2.1.fits (by decide)) a06 W ()]
  ·rw[k7];cases w.i4.all a06<;>rfl
  ·intro k hk;unfold b8Y;rw[B0 _ k hk,z8 hk];simp only[g25,g0X,c3B,c5l ((h.2.2.1.2 _ (g01 hk)).2.fits (by decide))];unfold a06;cases v5 w.i4[k].b6.i0 0 2&&v5 w.i4[k].b6.Seq 1 1000<;>cases H8 w.i4[k].j8<;>rfl
  ·unfold b8Y;rw[C1];rfl
 have k11:c1k w=U (w.c9.all W4&&(w.i4.all a06&&w.Told.all Z8)):=by
  unfold c1k;rw[O5 w.c9 (h.2.1.fits (by decide)) W4 W ()]
  ·rw[k9];cases w.c9.all W4<;>rfl
  ·intro k hk;unfold c1H;rw[B0 _ k hk,z8 hk];simp only[g25,g0X,f0e (h.2.1.2 _ (g01 hk))];cases W4 w.c9[k]<;>rfl
  ·unfold c1H;rw[C1];rfl
 unfold b3L C8;rw[a3Y w.b9 (h.1.fits (by decide)) (a5q w) W ()]
 ·rw[k11];simp only[<-a6z];rw[show((O w.b9:Int)==3) = !((O w.b9:Int) != 3)from by simp[bne]];cases((O w.b9:Int) != 3)<;>cases decide ((O w.c9:Int)>40)<;>cases decide ((O w.i4:Int)>60)<;>cases decide ((O w.Told:Int)>60)<;>cases(g09 (O w.b9)).all (a5q w)<;>rfl
 ·intro k hk _;unfold c2k;rw[B0 _ k hk,z8 hk];simp only[g25,g0X,b2X (h.1.2 _ (g01 hk)),a5q,g0Y hk,bne];cases w.b9[k].Id==(k:Int)<;>cases H4 w.b9[k]<;>rfl
 ·unfold c2k;rw[C1];rfl
def a31{w:m6}(h:X6 w):a1X w=U (C8 w):=by
 have k7:b9D w=U (w.Told.all Z8):=by
  unfold b9D;rw[O5 w.Told (h.2.2.2.fits (by decide)) Z8 W ()]
  ·cases w.Told.all Z8<;>rfl
  ·intro k hk;unfold b9Y;rw[B0 _ k hk,z8 hk];simp only[g25,g0X,Q7,b7L];unfold Z8;rw[show(w.Told[k].b6.i0==w.Told[k].Node) = !(w.Told[k].b6.i0 != w.Told[k].Node)from by simp[bne]];cases v5 w.Told[k].Node 0 2<;>cases v5 w.Told[k].b6.i0 0 2&&v5 w.Told[k].b6.Seq 1 1000<;>cases(w.Told[k].b6.i0 != w.Told[k].Node)<;>cases v5 w.Told[k].Code 0 4<;>cases v5 w.Told[k].i8 (-1000000) 1000000<;>rfl
  ·unfold b9Y;rw[C1];rfl
 have k9:b7M w=U (w.i4.all a06&&w.Told.all Z8):=by
  unfold b7M;rw[O5 w.i4 (h.2.2.1.fits (by decide)) a06 W ()]
  ·rw[k7];cases w.i4.all a06<;>rfl
  ·intro k hk;unfold b9O;rw[B0 _ k hk,z8 hk];simp only[g25,g0X,b7L,b8I ((h.2.2.1.2 _ (g01 hk)).2.fits (by decide))];unfold a06;cases v5 w.i4[k].b6.i0 0 2&&v5 w.i4[k].b6.Seq 1 1000<;>cases H8 w.i4[k].j8<;>rfl
  ·unfold b9O;rw[C1];rfl
 have k11:c1i w=U (w.c9.all W4&&(w.i4.all a06&&w.Told.all Z8)):=by
  unfold c1i;rw[O5 w.c9 (h.2.1.fits (by decide)) W4 W ()]
  ·rw[k9];cases w.c9.all W4<;>rfl
  ·intro k hk;unfold b8h;rw[B0 _ k hk,z8 hk];simp only[g25,g0X,d1v (h.2.1.2 _ (g01 hk))];cases W4 w.c9[k]<;>rfl
  ·unfold b8h;rw[C1];rfl
 unfold a1X C8;rw[a3Y w.b9 (h.1.fits (by decide)) (a5q w) W ()]
 ·rw[k11];simp only[<-a6z];rw[show((O w.b9:Int)==3) = !((O w.b9:Int) != 3)from by simp[bne]];cases((O w.b9:Int) != 3)<;>cases decide ((O w.c9:Int)>40)<;>cases decide ((O w.i4:Int)>60)<;>cases decide ((O w.Told:Int)>60)<;>cases(g09 (O w.b9)).all (a5q w)<;>rfl
 ·intro k hk _;unfold b7O;rw[B0 _ k hk,z8 hk];simp only[g25,g0X,b0a (h.1.2 _ (g01 hk)),a5q,g0Y hk,bne];cases w.b9[k].Id==(k:Int)<;>cases H4 w.b9[k]<;>rfl
 ·unfold b7O;rw[C1];rfl
def c95{C:Type}{p:List C->List C->Nat->Bool}(hp:∀(a b:List C) (k:Nat) (x y:C),a[k]?=U x->b[k]?=U y->(p a b k=Y↔x=y))(a b:List C):((O a)==(O b)&&(g09 (O a)).all (p a b))=Y↔a=b:=by
 constructor
 ·intro h;simp only[g02,beq_iff_eq,g05,g1X]at h;refine List.ext_getElem h.1 λi h1 h2 => ?_
  exact(hp a b i _ _ (g0Y h1) (g0Y h2)).1 (h.2 i h1)
 ·rintro rfl
  simp only[g02,beq_iff_eq,g05,g1X,true_and];intro k hk;exact(hp a a k _ _ (g0Y hk) (g0Y hk)).2 rfl
def c7F(a b:s9):a5v a b=Y↔a=b:=by
 have h1:=c95 (p:=a3U) (λa b k x y hx hy=>by
  unfold a3U;rw[hx,hy];cases x;cases y;simp) a.d8 b.d8
 have h2:=c95 (p:=a34) (λa b k x y hx hy=>by
  unfold a34;rw[hx,hy];cases x;cases y;simp) a.f0 b.f0
 unfold a5v;rw[g02,h1,g02,h2,g02,beq_iff_eq,beq_iff_eq];cases a;cases b;simp
def a2I(a b:p9):S9 a b=Y↔a=b:=by
 unfold S9;rw[g02,g02,c7F];obtain⟨n,⟨q1,q2⟩,r⟩:=a;obtain⟨n',⟨q1',q2'⟩,r'⟩:=b;simp[and_assoc]
def I1{n lo hi:Int}:v5 n lo hi=Y↔lo<=n/\n<=hi:=by unfold v5;simp
def d7W{w:m6}(h:C8 w=Y):(O w.b9)=3/\∀n∈w.b9,H4 n=Y:=by
 unfold C8 at h;simp only[g02,beq_iff_eq,g05,g1X]at h;refine⟨by omega,λn hn => ?_⟩;obtain⟨i,hi,rfl⟩:=g1E hn;have:=h.2.2.2.2.1 i hi;unfold a5q at this;rw[g0Y hi]at this;simp only[g02]at this;exact this.2
def b3Q{n:m4}(h:H4 n=Y):v5 n.Id 0 2=Y/\V0 n.Acc=Y/\K1 n.a9=Y/\a1P n=Y/\a5B n=Y:=by
 unfold H4 at h;simp only[g02]at h;exact⟨h.1,h.2.1,h.2.2.1,h.2.2.2.2.2.1,h.2.2.2.2.2.2.1⟩
def d4B{n:m4}(hId:v5 n.Id 0 2=Y)(h:a1P n=Y):0<=n.b5/\(n.d6=3->1<=n.b5):=by
 unfold a1P at h;cases h0:n.d6==0
 ·rw[h0]at h;simp only[g26,g02]at h;have:=I1.1 (c55 hId h.1);omega
 ·rw[h0]at h;simp only[g25,g02,beq_iff_eq]at h h0;omega
def g0j{l:List w8}(h:C4 16 d6A l):a4q l=U l:=by
 have hb:=h.1;unfold a4q;cases hl:((O l:Int)==0)
 ·rw[g26,A6 (by constructor<;>omega),A6 (by simp)]
 ·simp only[beq_iff_eq]at hl;have:l=[]:=g1c (by omega);rw[this];rfl
def f7Q{l:List u9}(h:C4 16 d3g l):b0i l=U l:=by
 have hb:=h.1;unfold b0i;cases hl:((O l:Int)==0)
 ·rw[g26,A6 (by constructor<;>omega),A6 (by simp)]
 ·simp only[beq_iff_eq]at hl;have:l=[]:=g1c (by omega);rw[this];rfl
def b3A{e:p9}(h:I5 e):a7a e=U e:=by
 unfold a7a c54;rw[g0j h.2.1,g0X,f7Q h.2.2.1];rfl
def a2n{e:p9}(h:I5 e):a03 e=U e:=by
 have h1:=h.2.1.1;have h2:=h.2.2.1.1;unfold a03 c2O;rw[A6 (by simp;omega),A6 (by simp;omega)];rfl
def e8g{l:List p9}(h:C4 88 I5 l):c1K l=U l:=by
 have hb:=h.1;unfold c1K;cases hl:((O l:Int)==0)
 ·rw[g26,A6 (by constructor<;>omega),A6 (by simp)]
 ·simp only[beq_iff_eq]at hl;have:l=[]:=g1c (by omega);rw[this];rfl
def c50{l:List p9}(h:C4 88 I5 l):b21 l=U l:=by
 have hf:z4 l:=h.fits (by decide);unfold b21;rw[e8g h,g0X];have hl:=a0Y (body:=λs:(List p9)×Int=>b6j l s.1 s.2) (λk=>(l,(k:Int))) (O l) (by
  intro k hk;unfold b6j;rw[B0 _ k hk,z8 hk];simp only[g25,g0X,b3A (h.2 _ (g01 hk)),J0 hf hk,g1p,g2S])
 rw[show((0:Nat):Int)=0 from rfl]at hl;rw[hl,F3 (b:=l)]
 ·rfl
 ·unfold b6j;rw[C1];rfl
def d9Z{l:List p9}(h:C4 88 I5 l):b39 l=U l:=by
 have hf:z4 l:=h.fits (by decide);have hb:=h.1;unfold b39;have hl:=a0Y (body:=λs:(List p9)×Int=>b58 l s.1 s.2) (λk=>(l.take k,(k:Int))) (O l) (by
  intro k hk;unfold b58;rw[B0 _ k hk,z8 hk];simp only[g25,g0X,a2n (h.2 _ (g01 hk)),J0 hf hk];rw[A6 (by rw[g1l];omega),g1u hk])
 rw[show((0:Nat):Int)=0 from rfl,g1P]at hl;rw[hl,g1n,F3 (b:=l)]
 ·rfl
 ·unfold b58;rw[C1];rfl
def best(w:m6):Nat->Nat
 | 0=>0
 |k+1=>match w.b9[k]?,w.b9[best w k]? with
  |some a,U b=>bif decide ((O a.a9:Int)>(O b.a9:Int))then k else best w k
  |_,_=>best w k
def b2x(w:m6):∀k,0<(O w.b9)->k<=(O w.b9)->best w k<(O w.b9)
 | 0,h,_=>h
 |k+1,h,hk=>by
  have hb:=b2x w k h (by omega);unfold best;rw[g0Y (show k<(O w.b9) by omega),g0Y hb];simp only;cases decide ((w.b9[k].a9.length:Int)>(w.b9[best w k].a9.length:Int))
  ·exact hb
  ·exact hk
def d0X{w:m6}{k:Nat}(h:0<(O w.b9))(hk:k<(O w.b9)):best w (k+1)=bif decide ((w.b9[k].a9.length:Int)>((w.b9[best w k]'(b2x w k h (by omega))).a9.length:Int))then k else best w k:=by
 conv=>lhs;unfold best
 rw[g0Y hk,g0Y (b2x w k h (by omega))]
def ist(w:m6):Nat->Int×Int
 | 0=>(-1,0)
 |k+1=>((best w (k+1):Int),((k+1:Nat):Int))
def A9(w:m6):List p9:=match w.b9[best w (O w.b9)]? with
 |some n=>n.a9
 |none=>[]
def c1T{w:m6}(h:X6 w)(hn:0<(O w.b9)):a8p w=U (A9 w):=by
 have hf:z4 w.b9:=h.1.fits (by decide);unfold a8p;have hl:=a0Y (body:=λs:Int×Int=>a6t w s.1 s.2) (ist w) (O w.b9) (by
  intro k hk;cases k with
  |zero=>
   show a6t w (-1) 0=U (.nxt ((best w (0+1):Int),((0+1:Nat):Int)))
   unfold a6t b7j;rw[show decide ((0:Int)<(O w.b9:Int))=Y from by simpa using hk,show idx w.b9 0=U w.b9[0]from z8 hk,show best w (0+1)=0 from by rw[d0X hn hk];cases decide ((w.b9[0].a9.length:Int)>(w.b9[best w 0].a9.length:Int))<;>rfl];simp only[g25,g0X];have:s6 ((0:Int)+1)=((0+1:Nat):Int):=J0 hf hk;rw[this];rfl
  |succ k=>
   have hb:=b2x w (k+1) hn (by omega);show a6t w (best w (k+1):Int) ((k+1:Nat):Int)=U (.nxt ((best w (k+1+1):Int),((k+1+1:Nat):Int)))
   unfold a6t b7j;rw[B0 _ (k+1) hk,z8 hk,z8 hb,d0X hn hk,show decide ((best w (k+1):Int)<0)=W from by simp];simp only[g25,g26,g0X,J0 hf hk];cases decide ((w.b9[k+1].a9.length:Int)>(w.b9[best w (k+1)].a9.length:Int))<;>rfl)
 have hbn:=b2x w (O w.b9) hn (g07 _);obtain⟨m,hm⟩:∃m,(O w.b9)=m+1:=⟨(O w.b9)-1,by omega⟩
 rw[show ist w (O w.b9)=((best w (O w.b9):Int),(O w.b9:Int))from by rw[hm];rfl]at hl;rw[show u5 (λs:Int×Int=>a6t w s.1 s.2) ((-1:Int),(0:Int))=_ from hl,F3 (b:=(best w (O w.b9):Int))]
 ·simp only[g0X,r9.go];unfold c4t A9;rw[show decide ((best w (O w.b9):Int)<0)=W from by simp,z8 hbn,g0Y hbn];simp only[g26,g0X,c50 (h.1.2 _ (g01 hbn)).2.2.1]
 ·unfold a6t;rw[C1];rfl
def c3n{w:m6}(h:X6 w)(hw:C8 w=Y):0<(O w.b9)/\C4 88 I5 (A9 w)/\K1 (A9 w)=Y:=by
 obtain⟨h3,hn⟩:=d7W hw;have h0:0<(O w.b9):=by omega
 have hb:=b2x w (O w.b9) h0 (g07 _);refine⟨h0,?_,?_⟩
 ·unfold A9;rw[g0Y hb];exact(h.1.2 _ (g01 hb)).2.2.1
 ·unfold A9;rw[g0Y hb];exact(b3Q (hn _ (g01 hb))).2.2.1
def I9(q:u0)(e:p9):Bool := !e.j9&&(([e.b6.i0,e.b6.Seq]:List Int)==[q.i0,q.Seq])
def c1M{C R S B:Type}{body:S->Option (n6 R S B)}(st:Nat->S)(l:List C)(is:C->Bool)(r:Nat->R)(b:B)(h1:∀(k:Nat) (h:k<(O l)),body (st k)=U (bif is l[k]then .ret (r k)else .nxt (st (k+1))))(h2:body (st (O l))=U (.brk b)) :
  u5 body (st 0)=U (match l.findIdx? is with|some k=>.ret (r k)|none=>.brk b):=by
 rcases a6Z (body:=body) st (O l) (λk=>match l[k]? with|some x => !is x|none=>Y) r b
  (λk hk _=>by
   rw[h1 k hk,g0Y hk];simp only;cases is l[k]<;>rfl) (λ_=>h2)with⟨h,hall⟩|⟨k,hk,ho,hb,h⟩
 ·have:l.findIdx? is=Z:=by
   rw[g2C];intro x hx;obtain⟨i,hi,rfl⟩:=g1E hx;have:=hall i hi;rw[g0Y hi]at this;simpa using this
  rw[this];exact h
 ·have:l.findIdx? is=U k:=by
   rw[g1T];refine⟨hk,?_,λj hj => ?_⟩
   ·rw[g0Y hk]at ho;simpa using ho
   ·have:=hb j hj;rw[g0Y (show j<(O l) by omega)]at this;simpa using this
  rw[this];exact h
def b5x{l:List p9}(h:z4 l)(q:u0):a8m l q=U (match l.findIdx? (I9 q)with|some k=>(k:Int)|none => -1):=by
  unfold a8m;rw[show u5 (λs:Int=>b2f l q s) 0=_ from c1M (body:=λs:Int=>b2f l q s) (λk=>(k:Int)) l (I9 q) (λk=>(k:Int)) () (by
      intro k hk;unfold b2f c5E I9;rw[B0 _ k hk,z8 hk,<-J0 h hk];simp only[g25,g0X];cases l[k].j9<;>cases(([l[k].b6.i0,l[k].b6.Seq]:List Int)==[q.i0,q.Seq])<;>rfl) (by
      unfold b2f;rw[C1];rfl)]
  cases l.findIdx? (I9 q)<;>rfl
def d7X{l:List p9}(hl:(O l)<=40)(he:l.all B7=Y){k:Nat}(hk:k<(O l)):(w9 l).2[k]?=U (apply (w9 (l.take k)).1 l[k]).2:=by
 have key:∀m,k<m->m<=(O l)->(w9 (l.take m)).2[k]?=U (apply (w9 (l.take k)).1 l[k]).2:=by
  intro m;induction m with
  |zero=>omega
  |succ m ih=>
   intro h1 h2;have hlen:=(Z6 hl he m (by omega)).2.1;rw[a3r (show m<(O l) by omega)];unfold b2v;simp only;by_cases q:k<m
   ·rw[g1o (by omega)];exact ih q (by omega)
   ·have:k=m:=by omega
    subst this;rw[g1j (by omega),hlen];simp
 have:=key (O l) hk (g07 _);rwa[g1n]at this
def W0(l:List p9)(k:Nat):Int:=(w9 l).2[k]?.getD 0
def b2H(l:List p9)(t:s8):Bool:=match l.findIdx? (I9 t.b6)with
 |some k=>(W0 l k==t.Code)&&((bif t.Code==0 then(match l[k]? with|some e=>e.g8.i8|none=>0)else 0)==t.i8)
 |none=>W
def e4j{w:m6}(h:X6 w)(hw:C8 w=Y):b6u w=U (w.Told.all (b2H (A9 w))):=by
 unfold b6u;rw[a31 h,g0X,hw];obtain⟨h0,hlo,hok⟩:=c3n h hw;obtain⟨hl,he⟩:=a2f hok;have hf:z4 w.Told:=h.2.2.2.fits (by decide);have hfl:z4 (A9 w):=hlo.fits (by decide);have hcl:(w9 (A9 w)).2.length=(A9 w).length:=by
  have:=(Z6 hl he (A9 w).length (g07 _)).2.1;rwa[g1n]at this
 simp only[g04,g26];rw[c1T h h0,g0X,b85 (okEntries.s hlo) hl he,g0X];rw[O5 w.Told hf (b2H (A9 w)) W ()]
 ·cases w.Told.all (b2H (A9 w))<;>rfl
 ·intro k hk;unfold c0B c8u b2H;rw[B0 _ k hk,z8 hk];simp only[g25,g0X,b5x hfl];cases hfi:(A9 w).findIdx? (I9 w.Told[k].b6)with
  |none=>rfl
  |some i=>
   obtain⟨hi,_⟩:=g1T.1 hfi;simp only;rw[show decide ((i:Int)<0)=W from by simp,z8 (show i<(w9 (A9 w)).2.length by omega),z8 hi,g0Y hi];have hco:W0 (A9 w) i=(w9 (A9 w)).2[i]'(by omega):=by unfold W0;rw[g0Y (by omega)];rfl
   rw[hco];simp only[g26,g0X];cases hc:(w9 (A9 w)).2[i]'(by omega)==w.Told[k].Code
   ·rw[show((w9 (A9 w)).2[i]'(by omega) != w.Told[k].Code)=Y from by rw[bne,hc];rfl];rfl
   ·rw[show((w9 (A9 w)).2[i]'(by omega) != w.Told[k].Code)=W from by rw[bne,hc];rfl];have hcomm:∀x:Int,(w.Told[k].i8==x)=(x==w.Told[k].i8):=λx=>by
     rw[g2j,beq_iff_eq,beq_iff_eq];exact eq_comm
    cases w.Told[k].Code==0<;>simp only[g25,g26,g0X,r9.go,bne,g1h,g04,hcomm]<;>(cases(_:Int)==w.Told[k].i8<;>rfl)
 ·unfold c0B;rw[C1];rfl
def c26{C B R:Type}{body:Int->Option (n6 R Int B)}(l:List C)(hl:z4 l)(ok:C->Bool)(v:R)(b:B)(h1:∀(k:Nat) (h:k<(O l)),body (k:Int)=U (bif ok l[k]then .nxt (s6 ((k:Int)+1))else .ret v))(h2:body (O l:Int)=U (.brk b)):u5 body 0=U (bif l.all ok then .brk b else .ret v):=by
 have h:=a6Z (body:=body) (λk=>(k:Int)) (O l) (λk=>match l[k]? with|some x=>ok x|none=>Y) (λ_=>v) b
  (λk hk _=>by
   have:=h1 k hk;rw[J0 hl hk]at this;simpa[g0Y hk]using this) (λ_=>h2)
 rcases h with⟨h,hall⟩|⟨k,hk,ho,_,h⟩
 ·have:l.all ok=Y:=by
   rw[g05];intro x hx;obtain⟨i,hi,rfl⟩:=g1E hx;have:=hall i hi;simpa[g0Y hi]using this
  rw[this];exact h
 ·have:l.all ok=W:=by
   rw[g2y];refine⟨l[k],g01 hk,?_⟩;simpa[g0Y hk]using ho
  rw[this];exact h
def b5E{l:List w8}(h:(O l)<=1000):a4q l=U l:=by
 unfold a4q;cases hl:((O l:Int)==0)
 ·rw[g26,A6 (by constructor<;>omega),A6 (by simp)]
 ·simp only[beq_iff_eq]at hl;have:l=[]:=g1c (by omega);rw[this];rfl
def f6Q{l:List u9}(h:(O l)<=1000):b0i l=U l:=by
 unfold b0i;cases hl:((O l:Int)==0)
 ·rw[g26,A6 (by constructor<;>omega),A6 (by simp)]
 ·simp only[beq_iff_eq]at hl;have:l=[]:=g1c (by omega);rw[this];rfl
def a0A(ps:List u9)(b:Int):Option Nat:=ps.findIdx? (·.j7==b)
def atI:Option Nat->Int
 |some k=>(k:Int)
 |none => -1
def d4v{l:List u9}(h:z4 l)(b:Int):a76 l b=U (atI (a0A l b)):=by
 unfold a76;rw[show(0:Int)=((0:Nat):Int)from rfl,c1M (body:=λs:Int=>a8x l b s) (λk=>(k:Int)) l (·.j7==b) (λk=>(k:Int)) ()]
 ·unfold a0A;cases l.findIdx? (·.j7==b)<;>rfl
 ·intro k hk;unfold a8x;rw[B0 _ k hk,z8 hk,J0 h hk];simp only[g25,g0X];cases l[k].j7==b<;>rfl
 ·unfold a8x;rw[C1];rfl
def d6q{x:s9}(h:z4 x.f0)(b:Int):b54 x b=U (atI (a0A x.f0 b)):=by
 unfold b54;rw[show(0:Int)=((0:Nat):Int)from rfl,c1M (body:=λs:Int=>b6F x b s) (λk=>(k:Int)) x.f0 (·.j7==b) (λk=>(k:Int)) ()]
 ·unfold a0A;cases x.f0.findIdx? (·.j7==b)<;>rfl
 ·intro k hk;unfold b6F;rw[B0 _ k hk,z8 hk,J0 h hk];simp only[g25,g0X];cases x.f0[k].j7==b<;>rfl
 ·unfold b6F;rw[C1];rfl
def b4j{ps:List u9}{b:Int}{k:Nat}(h:a0A ps b=U k):k<(O ps):=by
 obtain⟨hk,_⟩:=g1T.1 h;exact hk
def b88(k:Nat):decide (atI (U k)>=0)=Y:=by simp[atI]
def b9P:decide (atI Z>=0)=W:=by simp[atI]
def e2g{x:s9}(h:z4 x.d8)(b:Int):∃v,b37 x b=U v/\decide (v<0) = !(O3 x.d8 b):=by
 obtain⟨v,h1,h2⟩:=f9Z h b;refine⟨v,h1,?_⟩;rw[<-h2];by_cases q:v>=0
 ·have:¬v<0:=by omega
  simp[q,this]
 ·have:v<0:=by omega
  simp[q,this]
def K9(v:Int):Bool:=v5 v (-1000000) 1000000
def Q1(regs:List Int)(a:Int):Int:=regs.getD a.toNat 0
def R1{regs:List Int}(h:(O regs)=4){a:Int}(ha:0<=a/\a<=3):idx regs a=U (Q1 regs a):=by
 obtain⟨k,rfl⟩:=Int.eq_ofNat_of_zero_le ha.1;have hk:k<(O regs):=by omega
 rw[z8 hk];unfold Q1;simp[hk]
def e93{regs:List Int}(h:(O regs)=4){a v:Int}(ha:0<=a/\a<=3):Q1 (regs.set a.toNat v) a=v:=by
 unfold Q1;have:a.toNat<(O regs):=by omega
 simp[this]
def e6B{regs:List Int}(h:(O regs)=4)(hr:regs.all K9=Y){a v:Int}(ha:0<=a/\a<=3):(regs.set a.toNat v).all K9=K9 v:=by
 cases hv:K9 v
 ·rw[g2y];exact⟨v,g1e (i:=a.toNat) (by rw[g18 (by omega)]),by simp[hv]⟩
 ·rw[g05]at hr⊢;intro x hx;rcases g1F hx with hx|rfl
  ·exact hr x hx
  ·exact hv
def a3I{regs:List Int}(h:(O regs)=4)(hr:regs.all K9=Y){a:Int}(ha:0<=a/\a<=3):-1000000<=Q1 regs a/\Q1 regs a<=1000000:=by
 have hi:=R1 h ha;have hm:Q1 regs a∈regs:=g1e (c0u hi).2.2;have:=g05.1 hr _ hm;simpa[K9,v5]using this
structure EI(regs:List Int)(rs:List w8)(ps:List u9)(k:Nat):Prop where
 len:(O regs)=4
 rng:regs.all K9=Y
 rl:(O rs)<=k
 pl:(O ps)<=k
def EI.fr{regs:List Int}{rs:List w8}{ps:List u9}{k:Nat}(h:EI regs rs ps k)(hk:k<=100):z4 rs:=by
 have:=h.rl;unfold z4;omega
def EI.fp{regs:List Int}{rs:List w8}{ps:List u9}{k:Nat}(h:EI regs rs ps k)(hk:k<=100):z4 ps:=by
 have:=h.pl;unfold z4;omega
def H3(l:List t7)(i:t8)(regs:List Int)(rs:List w8)(ps:List u9):List Int×List w8×List u9:=
 bif i.b7==1 then(match a0A ps i.B with
  |some k=>(match ps[k]? with
   |some p=>(regs.set i.A.toNat p.i8,rs,ps)
   |none=>(regs,rs,ps))
  |none=>match l[i.B.toNat]? with
   |some b=>(regs.set i.A.toNat b.i8,bif O3 rs i.B then rs else rs++[⟨i.B,b.l8⟩],ps)
   |none=>(regs,rs,ps))
 else bif i.b7==2 then(regs,rs,match a0A ps i.A with
  |some k=>(match ps[k]? with
   |some p=>ps.set k ⟨p.j7,Q1 regs i.B⟩
   |none=>ps)
  |none=>ps++[⟨i.A,Q1 regs i.B⟩])
 else bif i.b7==3 then(regs.set i.A.toNat i.N,rs,ps)
 else bif i.b7==4 then(regs.set i.A.toNat (Q1 regs i.A+Q1 regs i.B),rs,ps)
 else bif i.b7==5 then(regs.set i.A.toNat (Q1 regs i.A-Q1 regs i.B),rs,ps)
 else(regs,rs,ps)
def Z9(l:List t7)(prog:List t8):Nat->Nat->List Int->List w8->List u9->s9
 | 0,_,regs,rs,ps=>⟨rs,ps,Q1 regs 0,0⟩
 |f+1,k,regs,rs,ps=>match prog[k]? with
  |none=>⟨rs,ps,Q1 regs 0,0⟩
  |some i=>bif i.b7==6 then Z9 l prog f (bif decide (Q1 regs i.A<Q1 regs i.B)then k+i.N.toNat+1 else k+1) regs rs ps
   else bif i.b7==7 then⟨rs,[],0,1⟩
   else bif(H3 l i regs rs ps).1.all K9 then Z9 l prog f (k+1) (H3 l i regs rs ps).1 (H3 l i regs rs ps).2.1 (H3 l i regs rs ps).2.2
   else⟨(H3 l i regs rs ps).2.1,[],0,2⟩
def E9(l:List t7)(prog:List t8):s9:=bif H1 l&&H8 prog then Z9 l prog ((O prog)+1) 0 [0,0,0,0] [] []else⟨[],[],0,3⟩
section
variable {l:List t7} {regs:List Int} {rs:List w8} {ps:List u9} {k:Nat} {i:t8}
def c3H(h:(O regs)=4):(H3 l i regs rs ps).1.length=4:=by
 unfold H3;cases i.b7==1<;>cases i.b7==2<;>cases i.b7==3<;>cases i.b7==4<;>cases i.b7==5<;>simp only[g25,g26,g2b,h]
 all_goals
  split
  ·split<;>simp[h]
  ·split<;>simp[h]
def c8O(h:(O rs)<=k):(H3 l i regs rs ps).2.1.length<=k+1:=by
 unfold H3;cases i.b7==1<;>cases i.b7==2<;>cases i.b7==3<;>cases i.b7==4<;>cases i.b7==5<;>simp only[g25,g26]<;>try omega
 all_goals
  split
  ·split<;>(simp only;omega)
  ·split
   ·cases O3 rs i.B<;>simp only[g25,g26,g08,g1Q]<;>omega
   ·simp only;omega
def d6H(h:(O ps)<=k):(H3 l i regs rs ps).2.2.length<=k+1:=by
 unfold H3;cases i.b7==1<;>cases i.b7==2<;>cases i.b7==3<;>cases i.b7==4<;>cases i.b7==5<;>simp only[g25,g26]<;>try omega
 all_goals (repeat' split)
 all_goals (try simp only[g2b,g08,g1Q])
 all_goals omega
def EI.next(h:EI regs rs ps k)(ha:(H3 l i regs rs ps).1.all K9=Y):EI (H3 l i regs rs ps).1 (H3 l i regs rs ps).2.1 (H3 l i regs rs ps).2.2 (k+1):=
 ⟨c3H h.len,ha,c8O h.rl,d6H h.pl⟩
def c1f{x:Int}(h:-1000000<=x/\x<=1000000){y:Int}(h':-1000000<=y/\y<=1000000):s6 (x+y)=x+y/\s6 (x-y)=x-y:=⟨F6 (by omega) (by omega),F6 (by omega) (by omega)⟩
def e82(hl:H1 l=Y)(he:EI regs rs ps k)(hk:k<=100)(hi:U9 i=Y)(h6:i.b7≠6)(h7:i.b7≠7) :
  b2O l ⟨rs,ps,0,0⟩ regs i=U (⟨(H3 l i regs rs ps).2.1,(H3 l i regs rs ps).2.2,0,bif(H3 l i regs rs ps).1.all K9 then 0 else 2⟩,(H3 l i regs rs ps).1):=by
 have hfr:=he.fr hk;have hfp:=he.fp hk;have hrl:=he.rl;have hpl:=he.pl;have n1:((O rs)+1)*16<=140737488355328:=by omega
 have n2:((O ps)+1)*16<=140737488355328:=by omega
 have fin:∀(a v:Int) (rs':List w8) (ps':List u9),0<=a/\a<=3->i.b7≠2->i.A=a->b0n i (regs.set a.toNat v) rs' ps' 0 0=U (⟨rs',ps',0,bif(regs.set a.toNat v).all K9 then 0 else 2⟩,regs.set a.toNat v):=by
  intro a v rs' ps' ha h2 hia;unfold b0n b55;rw[show(i.b7 != 2)=Y from by simpa using h2,g25,hia,R1 (by simpa using he.len) ha,g0X,a8U,g0X,e93 he.len ha,e6B he.len he.rng ha];unfold K9;cases v5 v (-1000000) 1000000<;>rfl
 unfold b2O H3;rcases b5y hi with⟨h,ha,hb⟩|⟨h,ha,hb⟩|⟨h,ha,hn⟩|⟨h,ha,hb⟩|⟨h,ha,hb⟩|⟨h,_⟩|⟨h,_⟩
 ·simp only[h,show((1:Int)==1)=Y from rfl,g25];unfold c4z c3K;rw[d4v hfp,g0X];cases hp:a0A ps i.B with
  |some j=>
   have hj:=b4j hp;simp only[b88,g25,g0Y hj];simp only[atI,z8 hj,g0X,R1 he.len ha,r9.go];exact fin i.A _ rs ps ha (by omega) rfl
  |none=>
   obtain⟨b,hb1,hb2,_⟩:=a6j hl hb;simp only[b9P,g26,d07 hfr,g0X,hb1,hb2,A6 n1];cases hs:O3 rs i.B
   ·simp only[g1y,g25,g26,g0X,r9.go,hb1,R1 he.len ha];exact fin i.A _ _ _ ha (by omega) rfl
   ·simp only[g04,g25,g26,g0X,r9.go,hb1,R1 he.len ha];exact fin i.A _ _ _ ha (by omega) rfl
 ·simp only[h,show((2:Int)==1)=W from rfl,show((2:Int)==2)=Y from rfl,g25,g26,R1 he.len hb,g0X];unfold c5P;rw[d4v hfp,g0X];have fin2:∀ps':List u9,b0n i regs rs ps' 0 0=U (⟨rs,ps',0,bif regs.all K9 then 0 else 2⟩,regs):=by
   intro ps';unfold b0n b55;rw[he.rng,h];rfl
  cases hp:a0A ps i.A with
  |some j=>
   have hj:=b4j hp;simp only[b88,g25,g0Y hj];simp only[atI,z8 hj,g0X,r9.go,g1p];exact fin2 _
  |none=>
   simp only[b9P,g26,A6 n2,g0X,r9.go];exact fin2 _
 ·simp only[h,show((3:Int)==1)=W from rfl,show((3:Int)==2)=W from rfl,show((3:Int)==3)=Y from rfl,g25,g26,R1 he.len ha,g0X,r9.go];exact fin i.A _ _ _ ha (by omega) rfl
 ·simp only[h,show((4:Int)==1)=W from rfl,show((4:Int)==2)=W from rfl,show((4:Int)==3)=W from rfl,show((4:Int)==4)=Y from rfl,g25,g26,R1 he.len ha,R1 he.len hb,g0X,r9.go,(c1f (a3I he.len he.rng ha) (a3I he.len he.rng hb)).1];exact fin i.A _ _ _ ha (by omega) rfl
 ·simp only[h,show((5:Int)==1)=W from rfl,show((5:Int)==2)=W from rfl,show((5:Int)==3)=W from rfl,show((5:Int)==4)=W from rfl,show((5:Int)==5)=Y from rfl,g25,g26,R1 he.len ha,R1 he.len hb,g0X,r9.go,(c1f (a3I he.len he.rng ha) (a3I he.len he.rng hb)).2];exact fin i.A _ _ _ ha (by omega) rfl
 ·exact absurd h h6
 ·exact absurd h h7
def f2J(hi:i.b7=7)(ha:i.A=0)(he:EI regs rs ps k):b2O l ⟨rs,ps,0,0⟩ regs i=U (⟨rs,ps,0,1⟩,regs):=by
 have hin:=a3I he.len he.rng (a:=0) (by omega);unfold b2O b0n b55;simp only[hi,ha,show((7:Int)==1)=W from rfl,show((7:Int)==2)=W from rfl,show((7:Int)==3)=W from rfl,show((7:Int)==4)=W from rfl,show((7:Int)==5)=W from rfl,show((7:Int)==7)=Y from rfl,show((7:Int) != 2)=Y from rfl,g25,g26,g0X,r9.go,R1 he.len (a:=0) (by omega),a8U];rw[show v5 (Q1 regs 0) (-1000000) 1000000=Y from by simp[v5];exact hin];rfl
def d61(l:List t7){prog:List t8}{f k:Nat}{regs:List Int}{rs:List w8}{ps:List u9}(h:(O prog)<=k):Z9 l prog f k regs rs ps=⟨rs,ps,Q1 regs 0,0⟩:=by
 cases f with
 |zero=>rfl
 |succ f=>
  unfold Z9;rw[g1s h]
def c6l{prog:List t8}(hp:H8 prog=Y):(O prog)<=10/\∀i∈prog,U9 i=Y:=by
 unfold H8 at hp;simpa using hp
def d3L(l:List t7)(prog:List t8)(regs:List Int)(rs:List w8)(ps:List u9)(k c:Int)(hc:(c==0)=W) :
  ((u5 (λs:(List Int)×(List w8)×(List u9)×Int×Int×Int=>a23 l prog s.1 s.2.1 s.2.2.1 s.2.2.2.1 s.2.2.2.2.1 s.2.2.2.2.2) (regs,rs,ps,k,0,c)).bind λx=>x.go (λr=>U r) λs=>a9v s.1 s.2.1 s.2.2.1 s.2.2.2.1 s.2.2.2.2)=U ⟨rs,[],0,c⟩:=by
 rw[F3 (b:=(rs,ps,regs,0,c))]
 ·simp only[g0X,r9.go];unfold a9v;rw[bne,hc];rfl
 ·unfold a23;simp only[hc,g26];cases decide (k<(O prog:Int))<;>rfl
def e4x(hl:H1 l=Y){prog:List t8}(hp:H8 prog=Y):∀(f k:Nat) (regs:List Int) (rs:List w8) (ps:List u9),EI regs rs ps k->(O prog)<k+f->k<=(O prog)+10->
  ((u5 (λs:(List Int)×(List w8)×(List u9)×Int×Int×Int=>a23 l prog s.1 s.2.1 s.2.2.1 s.2.2.2.1 s.2.2.2.2.1 s.2.2.2.2.2) (regs,rs,ps,(k:Int),0,0)).bind λx=>x.go (λr=>U r) λs=>a9v s.1 s.2.1 s.2.2.1 s.2.2.2.1 s.2.2.2.2)=U (Z9 l prog f k regs rs ps):=by
 obtain⟨hlen,hins⟩:=c6l hp;intro f;induction f with
 |zero=>
  intro k regs rs ps he hf hk;rw[F3 (b:=(rs,ps,regs,0,0))]
  ·simp only[g0X,r9.go];unfold a9v;rw[show((0:Int) != 0)=W from rfl,g26,R1 he.len (a:=0) (by omega)];rfl
  ·unfold a23;rw[show decide ((k:Int)<(O prog:Int))=W from by simp;omega];rfl
 |succ f ih=>
  intro k regs rs ps he hf hk;by_cases hlt:k<(O prog)
  ·have hi:=hins _ (g01 hlt);unfold Z9;rw[g0Y hlt];simp only;by_cases h6:prog[k].b7=6
   ·obtain⟨ha,hb,hn⟩:(0<=prog[k].A/\prog[k].A<=3)/\(0<=prog[k].B/\prog[k].B<=3)/\1<=prog[k].N/\prog[k].N<=10:=by
     rcases b5y hi with⟨h,_⟩|⟨h,_⟩|⟨h,_⟩|⟨h,_⟩|⟨h,_⟩|⟨h,x⟩|⟨h,_⟩
     all_goals first|(exact x)|(exfalso;omega)
    have hb1:a23 l prog regs rs ps (k:Int) 0 0=U (.nxt (regs,rs,ps,((bif decide (Q1 regs prog[k].A<Q1 regs prog[k].B)then k+prog[k].N.toNat+1 else k+1:Nat):Int),0,0)):=by
     unfold a23 c7q;rw[B0 _ k hlt,z8 hlt];simp only[g25,g0X,h6,show((6:Int)==6)=Y from rfl,show((0:Int)==0)=Y from rfl,R1 he.len ha,R1 he.len hb];cases decide (Q1 regs prog[k].A<Q1 regs prog[k].B)
     ·simp only[g26,g0X,r9.go];rw[F6 (by omega) (by omega)];rfl
     ·simp only[g25,g0X,r9.go];rw[F6 (n:=(k:Int)+prog[k].N) (by omega) (by omega),F6 (by omega) (by omega),show((k+prog[k].N.toNat+1:Nat):Int)=(k:Int)+prog[k].N+1 from by omega]
    rw[G7 hb1,h6];simp only[show((6:Int)==6)=Y from rfl,g25];refine ih _ _ _ _ ⟨he.len,he.rng,?_,?_⟩ ?_ ?_;all_goals
     have h1:=he.rl;have h2:=he.pl;cases decide (Q1 regs prog[k].A<Q1 regs prog[k].B)<;>simp only[g25,g26]<;>omega
   by_cases h7:prog[k].b7=7
   ·have ha:prog[k].A=0:=by
     rcases b5y hi with⟨h,_⟩|⟨h,_⟩|⟨h,_⟩|⟨h,_⟩|⟨h,_⟩|⟨h,_⟩|⟨h,x⟩
     all_goals first|(exact x)|(exfalso;omega)
    have hb1:a23 l prog regs rs ps (k:Int) 0 0=U (.nxt (regs,rs,ps,s6 ((k:Int)+1),0,1)):=by
     unfold a23;rw[B0 _ k hlt,z8 hlt];simp only[g25,g0X,show((0:Int)==0)=Y from rfl,f2J h7 ha he,h7,show((7:Int)==6)=W from rfl,g26];rw[A6 trivial]
    rw[G7 hb1,d3L _ _ _ _ _ _ _ rfl,h7];rfl
   ·have hs:=e82 hl he (by omega) hi h6 h7;have hb1:a23 l prog regs rs ps (k:Int) 0 0=U (.nxt ((H3 l prog[k] regs rs ps).1,(H3 l prog[k] regs rs ps).2.1,(H3 l prog[k] regs rs ps).2.2,((k+1:Nat):Int),0,bif(H3 l prog[k] regs rs ps).1.all K9 then 0 else 2)):=by
     unfold a23;rw[B0 _ k hlt,z8 hlt];simp only[g25,g0X,show((0:Int)==0)=Y from rfl,hs,show(prog[k].b7==6)=W from by simpa using h6,g26];rw[A6 (by rw[c3H he.len];exact he.len),F6 (by omega) (by omega)];rfl
    rw[G7 hb1,show(prog[k].b7==6)=W from by simpa using h6,show(prog[k].b7==7)=W from by simpa using h7,g26,g26];cases hall:(H3 l prog[k] regs rs ps).1.all K9
    ·rw[g26,g26,d3L _ _ _ _ _ _ _ rfl]
    ·rw[g25,g25];exact ih _ _ _ _ (he.next hall) (by omega) (by omega)
  ·rw[d61 l (by omega),F3 (b:=(rs,ps,regs,0,0))]
   ·simp only[g0X,r9.go];unfold a9v;rw[show((0:Int) != 0)=W from rfl,g26,R1 he.len (a:=0) (by omega)];rfl
   ·unfold a23;rw[show decide ((k:Int)<(O prog:Int))=W from by simp;omega];rfl
def ei0:EI [0,0,0,0] [] [] 0:=⟨rfl,by decide,by simp,by simp⟩
def e8B{l:List t7}{prog:List t8}(hl:z4 l)(hp:z4 prog):b8c l prog=U (E9 l prog):=by
 unfold b8c E9;rw[d63 hl,g0X,c5l hp,g0X];cases hb:H1 l
 ·rfl
 cases ho:H8 prog
 ·rfl
 rw[g04,g26,g26,A6 (by decide)];have:=e4x hb ho ((O prog)+1) 0 [0,0,0,0] [] [] ei0 (by omega) (by omega);exact this
def f1Y{regs:List Int}{Reads1:List w8}{ins:t8}{put1:u9}(h:(O regs)=4)(hr:(O Reads1)<=1000):u5 (λs:Int=>b6J regs Reads1 ins put1 s) 0=U (bif(regs.set ins.A.toNat put1.i8).all K9 then .brk ()else .ret ⟨Reads1,[],0,2⟩):=by
 have hl:(regs.set ins.A.toNat put1.i8).length=4:=by simpa using h
 refine c26 (regs.set ins.A.toNat put1.i8) (by unfold z4;omega) K9 _ () (λk hk => ?_) ?_
 ·have hk4:(k:Int)<4:=by omega
  unfold b6J;rw[decide_eq_true hk4,z8 hk,g25,g0X,A6 hk4,Q7,g0X,b5E hr];unfold K9;cases v5 (regs.set ins.A.toNat put1.i8)[k] (-1000000) 1000000<;>rfl
 ·unfold b6J;rw[hl];rfl
def d3T{regs:List Int}{Reads1:List w8}{ins:t8}{box:t7}(h:(O regs)=4)(hr:(O Reads1)<=1000):u5 (λs:Int=>b5p regs ins Reads1 box s) 0=U (bif(regs.set ins.A.toNat box.i8).all K9 then .brk ()else .ret ⟨Reads1,[],0,2⟩):=by
 have hl:(regs.set ins.A.toNat box.i8).length=4:=by simpa using h
 refine c26 (regs.set ins.A.toNat box.i8) (by unfold z4;omega) K9 _ () (λk hk => ?_) ?_
 ·have hk4:(k:Int)<4:=by omega
  unfold b5p;rw[decide_eq_true hk4,z8 hk,g25,g0X,A6 hk4,Q7,g0X,b5E hr];unfold K9;cases v5 (regs.set ins.A.toNat box.i8)[k] (-1000000) 1000000<;>rfl
 ·unfold b5p;rw[hl];rfl
def c6M{regs:List Int}{Reads1:List w8}(h:(O regs)=4)(hr:(O Reads1)<=1000):u5 (λs:Int=>b36 Reads1 regs s) 0=U (bif regs.all K9 then .brk ()else .ret ⟨Reads1,[],0,2⟩):=by
 refine c26 regs (by unfold z4;omega) K9 _ () (λk hk => ?_) ?_
 ·have hk4:(k:Int)<4:=by omega
  unfold b36;rw[decide_eq_true hk4,z8 hk,g25,g0X,A6 hk4,Q7,g0X,b5E hr];unfold K9;cases v5 regs[k] (-1000000) 1000000<;>rfl
 ·unfold b36;rw[h];rfl
def e3f(hl:H1 l=Y)(he:EI regs rs ps k)(hk:k<=100){prog:List t8}(hkl:k<(O prog))(hpl:(O prog)<=10)(R:List w8)(P:List u9)(hi:U9 prog[k]=Y)(h6:prog[k].b7≠6)(h7:prog[k].b7≠7) :
  a36 l prog regs R P rs ps (k:Int)=U (bif(H3 l prog[k] regs rs ps).1.all K9 then .nxt ((H3 l prog[k] regs rs ps).1,R,P,(H3 l prog[k] regs rs ps).2.1,(H3 l prog[k] regs rs ps).2.2,((k+1:Nat):Int))else .ret ⟨(H3 l prog[k] regs rs ps).2.1,[],0,2⟩):=by
 have hfr:=he.fr hk;have hfp:=he.fp hk;have hrl:=he.rl;have hpl:=he.pl;have n1:((O rs)+1)*16<=140737488355328:=by omega
 have n2:((O ps)+1)*16<=140737488355328:=by omega
 have hw:s6 ((k:Int)+1)=((k+1:Nat):Int):=by rw[F6 (by omega) (by omega)];rfl
 have fin:∀(regs':List Int) (ps':List u9),(O regs')=4->b1O R P rs regs' ps' (k:Int)=U (bif regs'.all K9 then .nxt (regs',R,P,rs,ps',((k+1:Nat):Int))else .ret ⟨rs,[],0,2⟩):=by
  intro regs' ps' h;unfold b1O b6k;rw[c6M h (by omega),hw];cases regs'.all K9<;>rfl
 have hset:∀(a:Nat) (v:Int),(regs.set a v).length=4:=λa v=>by simpa using he.len
 unfold a36 H3;generalize hin:prog[k]=i at hi h6 h7;rw[B0 _ k hkl,z8 hkl,hin,g25,g0X];rcases b5y hi with⟨h,ha,hb⟩|⟨h,ha,hb⟩|⟨h,ha,hn⟩|⟨h,ha,hb⟩|⟨h,ha,hb⟩|⟨h,_⟩|⟨h,_⟩
 ·have na:i.A<4:=by omega
  simp only[h,show((1:Int)==1)=Y from rfl,g25];rw[d6q (x:=⟨rs,ps,0,0⟩) hfp,g0X];simp only;cases hp:a0A ps i.B with
  |some j=>
   have hj:=b4j hp;simp only[b88,g25,g0Y hj];simp only[atI,z8 hj,g0X,R1 he.len ha];rw[A6 na,f1Y he.len (by omega)];unfold c7H;rw[hw];cases(regs.set i.A.toNat ps[j].i8).all K9<;>rfl
  |none=>
   obtain⟨b,hb1,hb2,_⟩:=a6j hl hb;obtain⟨v,hv1,hv2⟩:=e2g (x:=⟨rs,ps,0,0⟩) hfr i.B;simp only[b9P,g26,hv1,hv2,g0X,hb1,hb2,A6 n1];cases hs:O3 rs i.B
   ·simp only[g1y,g25,g26,g0X,r9.go];unfold c1E c1o;rw[hb1,g0X,R1 he.len ha,g0X,A6 na,d3T he.len (by simp;omega),hw];cases(regs.set i.A.toNat b.i8).all K9<;>rfl
   ·simp only[g04,g25,g26,g0X,r9.go];unfold c1E c1o;rw[hb1,g0X,R1 he.len ha,g0X,A6 na,d3T he.len (by omega),hw];cases(regs.set i.A.toNat b.i8).all K9<;>rfl
 ·have nb:i.B<4:=by omega
  simp only[h,show((2:Int)==1)=W from rfl,show((2:Int)==2)=Y from rfl,g25,g26];rw[d6q (x:=⟨rs,ps,0,0⟩) hfp,g0X];simp only;cases hp:a0A ps i.A with
  |some j=>
   have hj:=b4j hp;simp only[b88,g25,g0Y hj];simp only[atI,z8 hj,g0X,R1 he.len hb,g1p];rw[A6 nb];simp only[g0X,r9.go];exact fin _ _ he.len
  |none=>
   simp only[b9P,g26,g0X,R1 he.len hb];rw[A6 nb,A6 n2];simp only[g0X,r9.go];exact fin _ _ he.len
 ·have na:i.A<4:=by omega
  simp only[h,show((3:Int)==1)=W from rfl,show((3:Int)==2)=W from rfl,show((3:Int)==3)=Y from rfl,g25,g26,R1 he.len ha,g0X];rw[A6 na];simp only[g0X,r9.go];exact fin _ _ (hset _ _)
 ·have na:i.A<4:=by omega
  have nb:i.B<4:=by omega
  simp only[h,show((4:Int)==1)=W from rfl,show((4:Int)==2)=W from rfl,show((4:Int)==3)=W from rfl,show((4:Int)==4)=Y from rfl,g25,g26,R1 he.len ha,R1 he.len hb,g0X,(c1f (a3I he.len he.rng ha) (a3I he.len he.rng hb)).1,A6 na,A6 nb,r9.go];exact fin _ _ (hset _ _)
 ·have na:i.A<4:=by omega
  have nb:i.B<4:=by omega
  simp only[h,show((5:Int)==1)=W from rfl,show((5:Int)==2)=W from rfl,show((5:Int)==3)=W from rfl,show((5:Int)==4)=W from rfl,show((5:Int)==5)=Y from rfl,g25,g26,R1 he.len ha,R1 he.len hb,g0X,(c1f (a3I he.len he.rng ha) (a3I he.len he.rng hb)).2,A6 na,A6 nb,r9.go];exact fin _ _ (hset _ _)
 ·exact absurd h h6
 ·exact absurd h h7
def e7I(hl:H1 l=Y){prog:List t8}(hp:H8 prog=Y)(R:List w8)(P:List u9):∀(f k:Nat) (regs:List Int) (rs:List w8) (ps:List u9),EI regs rs ps k->(O prog)<k+f->k<=(O prog)+10->
  ((u5 (λs:(List Int)×(List w8)×(List u9)×(List w8)×(List u9)×Int=>a36 l prog s.1 s.2.1 s.2.2.1 s.2.2.2.1 s.2.2.2.2.1 s.2.2.2.2.2) (regs,R,P,rs,ps,(k:Int))).bind λx=>x.go (λr=>U r) λs=>b4Y s.1 s.2.1 s.2.2.1 s.2.2.2.1 s.2.2.2.2)=U (Z9 l prog f k regs rs ps):=by
 obtain⟨hlen,hins⟩:=c6l hp;have stop:∀(k:Nat) (regs:List Int) (rs:List w8) (ps:List u9),EI regs rs ps k->(O prog)<=k->k<=(O prog)+10->((u5 (λs:(List Int)×(List w8)×(List u9)×(List w8)×(List u9)×Int=>a36 l prog s.1 s.2.1 s.2.2.1 s.2.2.2.1 s.2.2.2.2.1 s.2.2.2.2.2) (regs,R,P,rs,ps,(k:Int))).bind λx=>x.go (λr=>U r) λs=>b4Y s.1 s.2.1 s.2.2.1 s.2.2.2.1 s.2.2.2.2)=U ⟨rs,ps,Q1 regs 0,0⟩:=by
  intro k regs rs ps he h1 h2;have h3:=he.rl;have h4:=he.pl;rw[F3 (b:=(R,P,regs,rs,ps))]
  ·simp only[g0X,r9.go];unfold b4Y;rw[b5E (by omega),g0X,f6Q (by omega),g0X,R1 he.len (a:=0) (by omega),g0X,A6 (by decide)]
  ·unfold a36;rw[show decide ((k:Int)<(O prog:Int))=W from by simp;omega];rfl
 intro f;induction f with
 |zero=>
  intro k regs rs ps he hf hk;exact stop k regs rs ps he (by omega) hk
 |succ f ih=>
  intro k regs rs ps he hf hk;by_cases hlt:k<(O prog)
  ·have hi:=hins _ (g01 hlt);unfold Z9;rw[g0Y hlt];simp only;by_cases h6:prog[k].b7=6
   ·obtain⟨ha,hb,hn⟩:(0<=prog[k].A/\prog[k].A<=3)/\(0<=prog[k].B/\prog[k].B<=3)/\1<=prog[k].N/\prog[k].N<=10:=by
     rcases b5y hi with⟨h,_⟩|⟨h,_⟩|⟨h,_⟩|⟨h,_⟩|⟨h,_⟩|⟨h,x⟩|⟨h,_⟩
     all_goals first|(exact x)|(exfalso;omega)
    have hrl:=he.rl;have hb1:a36 l prog regs R P rs ps (k:Int)=U (.nxt (regs,R,P,rs,ps,((bif decide (Q1 regs prog[k].A<Q1 regs prog[k].B)then k+prog[k].N.toNat+1 else k+1:Nat):Int))):=by
     have na:prog[k].A<4:=by omega
     have nb:prog[k].B<4:=by omega
     unfold a36;rw[B0 _ k hlt,z8 hlt];simp only[g25,g0X,h6,show((6:Int)==1)=W from rfl,show((6:Int)==2)=W from rfl,show((6:Int)==3)=W from rfl,show((6:Int)==4)=W from rfl,show((6:Int)==5)=W from rfl,show((6:Int)==6)=Y from rfl,g26,R1 he.len ha,R1 he.len hb,A6 na,A6 nb];cases decide (Q1 regs prog[k].A<Q1 regs prog[k].B)
     ·simp only[g26,g0X,r9.go];unfold b1O b6k;rw[c6M he.len (by omega),he.rng,F6 (by omega) (by omega)];rfl
     ·simp only[g25,g0X,r9.go];unfold b1O b6k;rw[c6M he.len (by omega),he.rng,F6 (n:=(k:Int)+prog[k].N) (by omega) (by omega),F6 (by omega) (by omega),show((k+prog[k].N.toNat+1:Nat):Int)=(k:Int)+prog[k].N+1 from by omega];rfl
    rw[G7 hb1,h6];simp only[show((6:Int)==6)=Y from rfl,g25];refine ih _ _ _ _ ⟨he.len,he.rng,?_,?_⟩ ?_ ?_;all_goals
     have h1:=he.rl;have h2:=he.pl;cases decide (Q1 regs prog[k].A<Q1 regs prog[k].B)<;>simp only[g25,g26]<;>omega
   by_cases h7:prog[k].b7=7
   ·have hrl:=he.rl;have hb1:a36 l prog regs R P rs ps (k:Int)=U (.ret ⟨rs,[],0,1⟩):=by
     unfold a36;rw[B0 _ k hlt,z8 hlt];simp only[g25,g0X,h7,show((7:Int)==1)=W from rfl,show((7:Int)==2)=W from rfl,show((7:Int)==3)=W from rfl,show((7:Int)==4)=W from rfl,show((7:Int)==5)=W from rfl,show((7:Int)==6)=W from rfl,show((7:Int)==7)=Y from rfl,g26];rw[b5E (by omega)];rfl
    rw[a0o hb1,h7];rfl
   ·have hb1:=e3f hl he (by omega) hlt hlen R P hi h6 h7;rw[show(prog[k].b7==6)=W from by simpa using h6,show(prog[k].b7==7)=W from by simpa using h7,g26,g26];cases hall:(H3 l prog[k] regs rs ps).1.all K9
    ·rw[hall,g26]at hb1;rw[a0o hb1];rfl
    ·rw[hall,g25]at hb1;rw[G7 hb1,g25];exact ih _ _ _ _ (he.next hall) (by omega) (by omega)
  ·rw[d61 l (by omega)];exact stop k regs rs ps he (by omega) hk
def c9e{l:List t7}{prog:List t8}(hl:z4 l)(hp:z4 prog):b6B l prog=U (E9 l prog):=by
 unfold b6B E9;rw[b4O hl,g0X,b8I hp,g0X];cases hb:H1 l
 ·rfl
 cases ho:H8 prog
 ·rfl
 rw[g04,g26,g26];exact e7I hb ho [] [] ((O prog)+1) 0 [0,0,0,0] [] [] ei0 (by omega) (by omega)
end
def d5T{l:List p9}(hl:(O l)<=40)(he:l.all B7=Y){k:Nat}(hk:k<=(O l)):(told l (w9 l).2 k).length<=40:=by
 obtain⟨_,hlen,hc⟩:=Z6 hl he (O l) (g07 _);rw[g1n]at hlen hc;have h1:=c0f hlen k hk;have h2:=c7g ((w9 l).2.take k) 0;rw[g1l]at h2;omega
def e3J(l:List p9):z4 (F5 l):=by
 unfold F5;cases hok:K1 l
 ·simp[z4]
 ·obtain⟨hl,he⟩:=a2f hok;have:=d5T hl he (g07 _);show z4 (told l (w9 l).2 (O l))
  unfold z4;omega
def T4(l:List t7)(p:List t8):List t7×Int×Int:=bif(E9 l p).Code==3 then([],0,3)else(a15 l (E9 l p).f0,(E9 l p).i8,(E9 l p).Code)
def e5T{l:List t7}{i:t8}{regs:List Int}{rs:List w8}{ps:List u9}(hl:H1 l=Y)(h4:(O regs)=4)(hr:regs.all K9=Y)(hi:U9 i=Y)(h1:a5m rs=Y)(h2:a3i ps=Y):a5m (H3 l i regs rs ps).2.1=Y/\a3i (H3 l i regs rs ps).2.2=Y:=by
 unfold H3;cases k1:i.b7==1
 ·simp only[g26];cases k2:i.b7==2
  ·simp only[g26];cases i.b7==3
   ·cases i.b7==4
    ·cases i.b7==5<;>exact⟨h1,h2⟩
    ·exact⟨h1,h2⟩
   ·exact⟨h1,h2⟩
  ·simp only[g25];unfold U9 at hi;rw[k1,k2]at hi;simp only[g25,g26,g02,I1]at hi;have hv:=a3I h4 hr hi.2.1;refine⟨h1,?_⟩;cases hp:a0A ps i.A with
   |some k=>
    have hk:=b4j hp;simp only[g0Y hk];exact e41 h2 hk hv
   |none=>
    simp only;refine e54 h2 ⟨hi.1.1,hi.1.2,hv⟩ ?_;unfold P8;rw[g1K];intro x hx;have:=g2C.1 hp x hx;simpa using this
 ·simp only[g25];unfold U9 at hi;rw[k1]at hi;simp only[g25,g02,I1]at hi;cases a0A ps i.B with
  |some k=>
   simp only;cases ps[k]?<;>exact⟨h1,h2⟩
  |none=>
   simp only;cases hb:l[i.B.toNat]? with
   |none=>exact⟨h1,h2⟩
   |some b=>
    simp only;cases hs:O3 rs i.B
    ·obtain⟨b',b1,_,b3⟩:=a6j hl hi.2.1;unfold idx at b1;rw[if_pos hi.2.1.1,hb]at b1;injection b1 with b1;subst b1;rw[b3z]at b3;exact⟨e4P h1 ⟨hi.2.1.1,hi.2.1.2,b3.1⟩ hs,h2⟩
    ·exact⟨h1,h2⟩
def c65{l:List t7}(hl:H1 l=Y){prog:List t8}(hi:∀i∈prog,U9 i=Y):∀(f k c:Nat) (regs:List Int) (rs:List w8) (ps:List u9),(O regs)=4->regs.all K9=Y->a5m rs=Y->a3i ps=Y->(O rs)<=c->(O ps)<=c->c+f<=40->Ran (Z9 l prog f k regs rs ps)
 | 0,k,c,regs,rs,ps,h4,hr,h1,h2,h5,h6,h7=>by
  have w:Way ⟨rs,ps,0,0⟩ 40:=⟨rfl,h1,h2,by simp only;omega,by simp only;omega⟩
  exact c07 w (by omega) (.inl rfl) (λ_=>a3I h4 hr (a:=0) ⟨by omega,by omega⟩)
 |f+1,k,c,regs,rs,ps,h4,hr,h1,h2,h5,h6,h7=>by
  have w:∀c,Way ⟨rs,ps,0,c⟩ 40:=λc=>⟨rfl,h1,h2,by simp only;omega,by simp only;omega⟩
  unfold Z9;cases hk:prog[k]? with
  |none=>exact c07 (w 0) (by omega) (.inl rfl) (λ_=>a3I h4 hr (a:=0) ⟨by omega,by omega⟩)
  |some i=>
   have hin:=hi i (g1e hk);simp only;cases i.b7==6
   ·cases i.b7==7
    ·obtain⟨a1,a2⟩:=e5T hl h4 hr hin h1 h2;have l4:=c3H (l:=l) (i:=i) (rs:=rs) (ps:=ps) h4;have lr:=c8O (l:=l) (i:=i) (regs:=regs) (ps:=ps) h5;have lp:=d6H (l:=l) (i:=i) (regs:=regs) (rs:=rs) h6;simp only[g26];cases ha:(H3 l i regs rs ps).1.all K9
     ·have w2:Way ⟨(H3 l i regs rs ps).2.1,(H3 l i regs rs ps).2.2,0,2⟩ 40:=⟨rfl,a1,a2,by simp only;omega,by simp only;omega⟩
      exact c07 w2 (by omega) (.inr (.inr rfl)) (v:=0) (λq=>absurd (show(2:Int)=0 from q) (by decide))
     ·exact c65 hl hi f (k+1) (c+1) _ _ _ l4 ha a1 a2 lr lp (by omega)
    ·exact c07 (w 1) (by omega) (.inr (.inl rfl)) (v:=0) (λq=>absurd (show(1:Int)=0 from q) (by decide))
   ·exact c65 hl hi f _ c _ _ _ h4 hr h1 h2 h5 h6 (by omega)
def c4m{l:List t7}{p:List t8}(hl:H1 l=Y)(hp:z4 p):Ran (E9 l p):=by
 unfold E9;rw[hl,g1h];cases hpo:H8 p
 ·exact(⟨by decide,by simp,by simp⟩:Ran ⟨[],[],0,3⟩)
 unfold H8 at hpo;simp only[g02,decide_eq_true_eq]at hpo;exact c65 hl (g05.1 hpo.2) _ 0 0 _ [] [] rfl (by decide) rfl rfl (by simp) (by simp) (by omega)
def Ran.f{r:s9}(h:Ran r):a3q r:=by
 have h1:=h.rlen;have h2:=h.plen;exact⟨⟨by omega,λ_ _=>trivial⟩,⟨by omega,λ_ _=>trivial⟩,trivial⟩
def Ran.puts{r:s9}(h:Ran r):∀p∈r.f0,a1F p:=by
 have:=h.ok;rw[b2Q]at this;simp only[g02]at this;exact(b5w.1 this.2.2.2.2.2).1
def e9v{l:List t7}{p:List t8}(hl:H1 l=W):(E9 l p).Code=3:=by
 unfold E9;rw[hl];rfl
def e5z{l:List t7}{p:List t8}(hl:z4 l)(hp:z4 p):c0p l p=U (T4 l p):=by
 unfold c0p T4;rw[c9e hl hp,g0X];cases hc:(E9 l p).Code==3
 ·have hb:H1 l=Y:=by
   cases hb:H1 l
   ·rw[e9v hb]at hc;cases hc
   ·rfl
  have hr:=c4m hb hp;simp only[g26,g0X,d3M hb hr.f hr.ok]
 ·rfl
def d6y{l:List t7}{p:List t8}(hl:H1 l=Y)(hp:z4 p)(h:((T4 l p).2.2==3)=W):H1 (T4 l p).1=Y:=by
 have hr:=c4m hl hp;unfold T4 at h⊢;cases hc:(E9 l p).Code==3
 ·rw[g26];exact c0L hl hr.puts
 ·rw[hc,g25]at h;cases h
def a4o:List (List t8)->List t7->List Int->List t7×List Int
 | [],b,vs=>(b,vs)
 |p::ps,b,vs=>bif(T4 b p).2.2==3 then([],[])else a4o ps (T4 b p).1 (vs++[(T4 b p).2.1])
def T6(l:List t7)(progs:List (List t8)):List t7×List Int:=bif H1 l&&decide ((O progs)<=100)then a4o progs l []else([],[])
def f7G{l:List Int}(h:(O l)<=1000):b7m l=U l:=by
 unfold b7m;cases hl:((O l:Int)==0)
 ·rw[g26,A6 (by constructor<;>omega),A6 (by simp)]
 ·simp only[beq_iff_eq]at hl;have:l=[]:=g1c (by omega);rw[this];rfl
def e84{progs:List (List t8)}(hp:∀p∈progs,z4 p)(hn:(O progs)<=100):∀(m k:Nat) (b:List t7) (vs:List Int),k+m=(O progs)->H1 b=Y->(O vs)=k->
  ((u5 (λs:(List Int)×Int×List t7=>b0R progs s.1 s.2.1 s.2.2) (vs,(k:Int),b)).bind λx=>x.go (λr=>U r) λs=>c2b s.1 s.2)=U (a4o (progs.drop k) b vs):=by
 intro m;induction m with
 |zero=>
  intro k b vs hk hb hv;have:k=(O progs):=by omega
  subst this;rw[List.drop_length,F3 (b:=(vs,b))]
  ·simp only[g0X,r9.go];unfold c2b;rw[f7G (by omega)];rfl
  ·unfold b0R;simp only[C1];rfl
 |succ m ih=>
  intro k b vs hk hb hv;have hlt:k<(O progs):=by omega
  have hpk:=hp _ (g01 hlt);have n1:((O vs)+1)*8<=140737488355328:=by omega
  have hw:s6 ((k:Int)+1)=((k+1:Nat):Int):=by rw[F6 (by omega) (by omega)];rfl
  have hb1:b0R progs vs (k:Int) b=U (bif(T4 b progs[k]).2.2==3 then .ret ([],[])else .nxt (vs++[(T4 b progs[k]).2.1],((k+1:Nat):Int),(T4 b progs[k]).1)):=by
   unfold b0R;simp only[B0 _ k hlt,z8 hlt,g25,g0X,e5z (a59 hb) hpk,A6 n1,hw];cases(T4 b progs[k]).2.2==3<;>rfl
  rw[g1q hlt];unfold a4o;cases hc:(T4 b progs[k]).2.2==3
  ·rw[hc,g26]at hb1;rw[G7 hb1,g26];exact ih (k+1) _ _ (by omega) (d6y hb hpk hc) (by simp;omega)
  ·rw[hc,g25]at hb1;rw[a0o hb1];rfl
def e7B{l:List t7}{progs:List (List t8)}(hl:z4 l)(hp:∀p∈progs,z4 p):b7y l progs=U (T6 l progs):=by
 unfold b7y T6;rw[b4O hl,g0X];cases hb:H1 l
 ·rfl
 rw[g04,g26,g1h];by_cases hn:(O progs)<=100
 ·have h1:¬((O progs:Int)>100):=by omega
  rw[decide_eq_false h1,g26,decide_eq_true hn,g25,c4B (by rw[a9K hb];decide),g0X];have:=e84 hp hn (O progs) 0 l [] (by omega) hb rfl;rwa[g2a]at this
 ·have h1:(O progs:Int)>100:=by omega
  rw[decide_eq_true h1,decide_eq_false hn];rfl
def b9w(w:m6)(q:u0):Option B2:=w.i4.find? λa=>(([a.b6.i0,a.b6.Seq]:List Int)==[q.i0,q.Seq])
def a1b(w:m6)(q:u0):List t8×Bool:=match b9w w q with
 |some a=>(a.j8,Y)
 |none=>([],W)
def f0Q{l:List t8}(h:(O l)*32<=140737488351232):a9a l=U l:=by
 unfold a9a;cases hl:((O l:Int)==0)
 ·rw[g26,A6 (by constructor<;>omega),A6 (by simp)]
 ·simp only[beq_iff_eq]at hl;have:l=[]:=g1c (by omega);rw[this];rfl
def d4T{w:m6}(h:X6 w){a:B2}(ha:a∈w.i4):(O a.j8)*32<=140737488351232:=(h.2.2.1.2 a ha).2.1
def e6m{w:m6}(h:X6 w)(q:u0):b8F w q=U (a1b w q):=by
 have hf:z4 w.i4:=h.2.2.1.fits (by decide);unfold b8F a1b b9w;rw[b9j w.i4 hf (λa=>([a.b6.i0,a.b6.Seq]:List Int)==[q.i0,q.Seq]) (λa=>(a.j8,Y)) ()]
 ·cases w.i4.find? (λa=>([a.b6.i0,a.b6.Seq]:List Int)==[q.i0,q.Seq])<;>rfl
 ·intro k hk;have:=d4T h (g01 hk);unfold b74;rw[B0 _ k hk,z8 hk];simp only[g25,g0X,f0Q this];cases(([w.i4[k].b6.i0,w.i4[k].b6.Seq]:List Int)==[q.i0,q.Seq])<;>rfl
 ·unfold b74;rw[C1];rfl
def e25{w:m6}(h:X6 w)(q:u0):z4 (a1b w q).1:=by
 unfold a1b b9w;cases hf:w.i4.find? (λa=>([a.b6.i0,a.b6.Seq]:List Int)==[q.i0,q.Seq])with
 |none=>simp[z4]
 |some a=>
  have:=d4T h (g20 hf);show(O a.j8)<=_
  omega
def a5E(w:m6):List u0->List (List t8)->Option (List (List t8))
 | [],o=>U o
 |q::qs,o=>bif(a1b w q).2 then a5E w qs (o++[(a1b w q).1])else Z
def d26{w:m6}(h:X6 w):∀{qs:List u0} {o ps:List (List t8)},a5E w qs o=U ps->(∀p∈o,z4 p)->∀p∈ps,z4 p
 | [],o,ps,hs,ho=>by
  injection hs with hs;subst hs;exact ho
 |q::qs,o,ps,hs,ho=>by
  unfold a5E at hs;cases hq:(a1b w q).2
  ·rw[hq]at hs;cases hs
  ·rw[hq,g25]at hs;refine d26 h hs λp hp => ?_
   rcases g0Z.1 hp with hp|hp
   ·exact ho p hp
   ·rw[g03.1 hp];exact e25 h q
def b1C(a b:List t7):Bool:=((O a)==(O b))&&(g09 (O a)).all λk=>match a[k]?,b[k]? with
 |some x,U y=>(([x.l8,x.i8]:List Int)==[y.l8,y.i8])
 |_,_=>W
def e8M{a b:List t7}(h:z4 a):b8a a b=U (b1C a b):=by
 unfold b8a c6V b1C;rw[c0O];cases hl:(O a)==(O b)
 ·rfl
 have hl:(O a)=(O b):=by simpa using hl
 rw[g04,g26,g1h,a3Y a h (λk=>match a[k]?,b[k]? with|some x,U y=>(([x.l8,x.i8]:List Int)==[y.l8,y.i8])|_,_=>W) W ()]
 ·cases(g09 (O a)).all _<;>rfl
 ·intro k hk _;unfold b65;rw[B0 _ k hk,z8 hk,z8 (hl▸hk),g0Y hk,g0Y (hl▸hk)];simp only[g25,g0X];cases(([a[k].l8,a[k].i8]:List Int)==[(b[k]'(hl▸hk)).l8,(b[k]'(hl▸hk)).i8])<;>rfl
 ·unfold b65;rw[C1];rfl
def f7z{s:A4}{e:p9}(h:e.j9=Y):(apply s e).2=5:=by
 unfold apply;rw[h];rfl
def d6E{l:List p9}(hl:(O l)<=40)(he:l.all B7=Y):∀k,k<=(O l)->∀q∈told l (w9 l).2 k,∃e∈l,I9 q e=Y
 | 0,_,q,hq=>by cases hq
 |k+1,hk,q,hq=>by
  have h1:k<(O l):=by omega
  have hlen:=(Z6 hl he (O l) (g07 _)).2.1;rw[g1n]at hlen;have h2:k<(w9 l).2.length:=by omega
  unfold told at hq;rcases g0Z.1 hq with hq|hq
  ·exact d6E hl he k (by omega) q hq
  ·rw[c0Z h1 h2]at hq;cases hc:(w9 l).2[k]==0
   ·rw[hc]at hq;cases hq
   ·rw[hc,g25,g03]at hq;refine⟨l[k],g01 h1,?_⟩;have hco:=b6C hl he h1;rw[g0Y h2]at hco;have hco:=g1Y hco;rw[hq];unfold I9;cases hn:l[k].j9
    ·simp
    ·rw[f7z hn]at hco;rw[hco]at hc;cases hc
def f1w{l:List p9}{q:u0}(hq:q∈F5 l):∃i,∃h:i<(O l),l.findIdx? (I9 q)=U i:=by
 unfold F5 at hq;cases hok:K1 l
 ·rw[hok]at hq;cases hq
 ·rw[hok,g25]at hq;obtain⟨hl,he⟩:=a2f hok;obtain⟨e,h1,h2⟩:=d6E hl he _ (g07 _) q hq;cases hf:l.findIdx? (I9 q)with
  |none=>
   have:=(g2C.1 hf) e h1;rw[h2]at this;cases this
  |some i=>exact⟨i,(g1T.1 hf).1,rfl⟩
def a0a(l:List p9)(q:u0):Int:=match l.findIdx? (I9 q)with
 |some k=>(match l[k]? with|some e=>e.g8.i8|none=>0)
 |none=>0
def c8o(l:List p9)(done:List u0)(vals:List Int):Bool:=(g09 (O done)).all λi=>match vals[i]?,done[i]? with
 |some v,U q=>v==a0a l q
 |_,_=>W
def a2t:List t7:=g00 4 ⟨0,0⟩
def c2R(l:List p9)(ps:List (List t8)):Bool:=
 ((T6 a2t ps).2.length==(F5 l).length)&&(b1C (T6 a2t ps).1 (w9 l).1.j4&&c8o l (F5 l) (T6 a2t ps).2)
def b0c(w:m6):Bool:=C8 w&&match a5E w (F5 (A9 w)) []with
 |some ps=>c2R (A9 w) ps
 |none=>W
def c4V:H1 a2t=Y:=by decide
def d6j:∀{ps:List (List t8)} {b:List t7} {vs:List Int},H1 b=Y->(∀p∈ps,z4 p)->z4 (a4o ps b vs).1
 | [],b,vs,hb,_=>a59 hb
 |p::ps,b,vs,hb,hp=>by
  unfold a4o;cases hc:(T4 b p).2.2==3
  ·rw[g26];exact d6j (d6y hb (hp p (by simp)) hc) λq hq=>hp q (by simp[hq])
  ·simp[z4]
def e86{ps:List (List t8)}(hp:∀p∈ps,z4 p):z4 (T6 a2t ps).1:=by
 unfold T6;cases(H1 a2t&&decide ((O ps)<=100))
 ·simp[z4]
 ·exact d6j c4V hp
def f8a{w:m6}(h:X6 w){lg:List p9}{l:List u0}(hl:(O l)<=1000):∀(m k:Nat) (o:List (List t8)),k+m=(O l)->(O o)=k->
  ((u5 (λs:(List (List t8))×Int=>a8h w l s.1 s.2) (o,(k:Int))).bind λx=>x.go (λr=>U r) λs=>b3G lg l s)=(match a5E w (l.drop k) o with|some ps=>b3G lg l ps|none=>U W):=by
 intro m;induction m with
 |zero=>
  intro k o hk ho;have:k=(O l):=by omega
  subst this;rw[List.drop_length,F3 (b:=o)]
  ·rfl
  ·unfold a8h;simp only[C1];rfl
 |succ m ih=>
  intro k o hk ho;have hlt:k<(O l):=by omega
  have n1:((O o)+1)*24<=140737488355328:=by omega
  have hw:s6 ((k:Int)+1)=((k+1:Nat):Int):=by rw[F6 (by omega) (by omega)];rfl
  have hb1:a8h w l o (k:Int)=U (bif(a1b w l[k]).2 then .nxt (o++[(a1b w l[k]).1],((k+1:Nat):Int))else .ret W):=by
   unfold a8h;simp only[B0 _ k hlt,z8 hlt,g25,g0X,e6m h,A6 n1,hw];cases(a1b w l[k]).2<;>rfl
  rw[g1q hlt];unfold a5E;cases hc:(a1b w l[k]).2
  ·rw[hc,g26]at hb1;rw[a0o hb1];rfl
  ·rw[hc,g25]at hb1;rw[G7 hb1,g25];exact ih (k+1) _ (by omega) (by simp;omega)
def f8B:b4L=U a2t:=rfl
def f4w{w:m6}(h:X6 w):b9q w=U (b0c w):=by
 unfold b9q b0c;rw[a31 h,g0X];cases hw:C8 w
 ·rfl
 obtain⟨h0,hlo,hok⟩:=c3n h hw;have hi:=c1T h h0;obtain⟨hl,he⟩:=a2f hok;have hf:=okEntries.f hlo;have hfl:z4 (A9 w):=hlo.fits (by decide);have hd:(F5 (A9 w)).length<=40:=by
  unfold F5;rw[hok];exact d5T hl he (g07 _)
 have hdf:z4 (F5 (A9 w)):=e3J _;simp only[g04,g26,hi,g0X,f3t hf,g1h];have hpg:=f8a h (lg:=A9 w) (l:=F5 (A9 w)) (by omega) (F5 (A9 w)).length 0 [] (by omega) rfl;rw[g2a]at hpg;rw[show u5 (λs:(List (List t8))×Int=>a8h w (F5 (A9 w)) s.1 s.2) ([],0)=u5 (λs:(List (List t8))×Int=>a8h w (F5 (A9 w)) s.1 s.2) ([],((0:Nat):Int))from rfl,hpg];cases hps:a5E w (F5 (A9 w)) []with
 |none=>rfl
 |some ps=>
  have hpf:=d26 h hps (by simp);simp only;unfold b3G;simp only[f8B,g0X,e7B (a59 c4V) hpf,e0l hf,hok,g25,e8M (e86 hpf),c0O];unfold c2R;cases b1C (T6 a2t ps).1 (w9 (A9 w)).1.j4
  ·simp
  cases hle:(T6 a2t ps).2.length==(F5 (A9 w)).length
  ·rfl
  have hle:(T6 a2t ps).2.length=(F5 (A9 w)).length:=by simpa using hle
  simp only[g04,g26,g1h];unfold c8o;rw[a3Y (F5 (A9 w)) hdf (λi=>match (T6 a2t ps).2[i]?,(F5 (A9 w))[i]? with|some v,U q=>v==a0a (A9 w) q|_,_=>W) W ()]
  ·cases(g09 (F5 (A9 w)).length).all _<;>rfl
  ·intro k hk _;obtain⟨i,hi,hfi⟩:=f1w (g01 hk);unfold b9h a0a;rw[B0 _ k hk,z8 hk,z8 (hle▸hk),g0Y hk,g0Y (hle▸hk)];simp only[g25,g0X,b5x hfl,hfi,z8 hi,g0Y hi];rw[bne];cases((T6 a2t ps).2[k]'(hle▸hk))==(A9 w)[i].g8.i8<;>rfl
  ·unfold b9h;rw[C1];rfl
def d24{C β:Type}{a:List C}{b:List β}(h:z4 a):z4 (a.zip b):=by
 unfold z4 at h⊢;rw[List.length_zip];omega
def b92{C β:Type}{a:List C}{b:List β}{k:Nat}(hk:k<(a.zip b).length):∃ (h1:k<(O a)) (h2:k<(O b)),(a.zip b)[k]=(a[k],b[k]):=by
 rw[List.length_zip]at hk;exact⟨by omega,by omega,by simp⟩
def f9U{C β:Type}(a:List C)(b:List β):decide (((a.zip b).length:Int)<(O a:Int))=Y->decide (((a.zip b).length:Int)<(O b:Int))=W:=by
 rw[List.length_zip];simp only[decide_eq_true_eq,decide_eq_false_iff_not];omega
def c80{C β R S:Type}(a:List C)(b:List β)(X:Option (n6 R S Unit)):(bif decide (((a.zip b).length:Int)<(O a:Int))then bif decide (((a.zip b).length:Int)<(O b:Int))then X else U (.brk ())else U (.brk ()))=U (.brk ()):=by
 cases h:decide (((a.zip b).length:Int)<(O a:Int))
 ·rfl
 ·rw[f9U a b h];rfl
def beg(a b:List p9):Bool:=(a.zip b).all λp=>S9 p.1 p.2
def f9r{x y:m4}(ha:C4 88 I5 x.a9):u5 (λs:Int=>b3E x y s) 0=U (bif beg x.a9 y.a9 then .brk ()else .ret W):=by
 rw[O5 (x.a9.zip y.a9) (d24 (ha.fits (by decide))) (λp=>S9 p.1 p.2) W ()]
 ·rfl
 ·intro k hk;obtain⟨h1,h2,e⟩:=b92 hk;unfold b3E;rw[B0 _ k h1,B0 _ k h2,z8 h1,z8 h2,e];simp only[g25,g0X,a72 (ha.2 _ (g01 h1))];cases S9 x.a9[k] y.a9[k]<;>rfl
 ·unfold b3E;exact c80 _ _ _
def e85{w:m6}(h:X6 w):b6o w=U (C8 w&&w.b9.all λa=>w.b9.all λb=>beg a.a9 b.a9):=by
 have hf:z4 w.b9:=h.1.fits (by decide);have hin:∀a:m4,V8 a->u5 (λs:Int=>b4H w a s) 0=U (bif w.b9.all (λb=>beg a.a9 b.a9)then .brk ()else .ret W):=by
  intro a ha;refine O5 w.b9 hf (λb=>beg a.a9 b.a9) W () ?_ ?_
  ·intro k hk;unfold b4H;rw[B0 _ k hk,z8 hk];simp only[g25,g0X];rw[f9r ha.2.2.1];cases beg a.a9 w.b9[k].a9<;>rfl
  ·unfold b4H;rw[C1];rfl
 unfold b6o;rw[a31 h,g0X];cases C8 w
 ·rfl
 ·simp only[g04,g26,g1h];rw[O5 w.b9 hf (λa=>w.b9.all λb=>beg a.a9 b.a9) W ()]
  ·cases w.b9.all (λa=>w.b9.all λb=>beg a.a9 b.a9)<;>rfl
  ·intro k hk;unfold c2u;rw[B0 _ k hk,z8 hk];simp only[g25,g0X];rw[hin _ (h.1.2 _ (g01 hk))];cases w.b9.all (λb=>beg w.b9[k].a9 b.a9)<;>rfl
  ·unfold c2u;rw[C1];rfl
def f5b{a b:List p9}:beg a b=Y ↔ ∀(i:Nat) (h1:i<(O a)) (h2:i<(O b)),a[i]=b[i]:=by
 unfold beg;rw[g05];constructor
 ·intro h i h1 h2;have:=h (a[i],b[i]) (List.mem_iff_getElem.2 ⟨i,by rw[List.length_zip];omega,by simp⟩);exact(a2I _ _).1 this
 ·intro h p hp;obtain⟨i,hi,rfl⟩:=g1E hp;obtain⟨h1,h2,e⟩:=b92 hi;rw[e];exact(a2I _ _).2 (h i h1 h2)
abbrev zV:s7:=⟨0,zE⟩
def Y1(n:m4)(k:Nat):s7:=n.Acc.b8[k]?.getD zV
def g0O(a b:s7):Bool := !(decide (a.b5>0)&&((a.b5==b.b5) && !S9 a.i9 b.i9))
def a3f(a b:s7):Bool := !((a.b5 != 0)&&((a.b5==b.b5) && !S9 a.i9 b.i9))
def e1f{w:m6}(h:X6 w):b4l w=U (C8 w&&w.b9.all λa=>w.b9.all λb=>(a.Acc.b8.zip b.Acc.b8).all λp=>a3f p.1 p.2):=by
 have hf:z4 w.b9:=h.1.fits (by decide);have hv:∀x y:m4,V8 x->u5 (λs:Int=>b5r x y s) 0=U (bif(x.Acc.b8.zip y.Acc.b8).all (λp=>a3f p.1 p.2)then .brk ()else .ret W):=by
  intro x y hx;refine O5 (x.Acc.b8.zip y.Acc.b8) (d24 (hx.2.1.2.fits (by decide))) (λp=>a3f p.1 p.2) W () ?_ ?_
  ·intro k hk;obtain⟨h1,h2,e⟩:=b92 hk;unfold b5r c8D;rw[B0 _ k h1,B0 _ k h2,z8 h1,z8 h2,e];simp only[g25,g0X,a72 (hx.2.1.2.2 _ (g01 h1)).2];unfold a3f;cases(x.Acc.b8[k].b5 != 0)<;>cases(x.Acc.b8[k].b5==y.Acc.b8[k].b5)<;>cases S9 x.Acc.b8[k].i9 y.Acc.b8[k].i9<;>rfl
  ·unfold b5r;exact c80 _ _ _
 have hin:∀a:m4,V8 a->u5 (λs:Int=>b3k w a s) 0=U (bif w.b9.all (λb=>(a.Acc.b8.zip b.Acc.b8).all λp=>a3f p.1 p.2)then .brk ()else .ret W):=by
  intro a ha;refine O5 w.b9 hf (λb=>(a.Acc.b8.zip b.Acc.b8).all λp=>a3f p.1 p.2) W () ?_ ?_
  ·intro k hk;unfold b3k c3z;rw[B0 _ k hk,z8 hk];simp only[g25,g0X];rw[hv a _ ha];cases(a.Acc.b8.zip w.b9[k].Acc.b8).all (λp=>a3f p.1 p.2)<;>rfl
  ·unfold b3k;rw[C1];rfl
 unfold b4l;rw[a31 h,g0X];cases C8 w
 ·rfl
 ·simp only[g04,g26,g1h];rw[O5 w.b9 hf (λa=>w.b9.all λb=>(a.Acc.b8.zip b.Acc.b8).all λp=>a3f p.1 p.2) W ()]
  ·cases w.b9.all (λa=>w.b9.all λb=>(a.Acc.b8.zip b.Acc.b8).all λp=>a3f p.1 p.2)<;>rfl
  ·intro k hk;unfold b9E c8y;rw[B0 _ k hk,z8 hk];simp only[g25,g0X];rw[hin _ (h.1.2 _ (g01 hk))];cases w.b9.all (λb=>(w.b9[k].Acc.b8.zip b.Acc.b8).all λp=>a3f p.1 p.2)<;>rfl
  ·unfold b9E;rw[C1];rfl
def e3H{a b:s7}:a3f a b=Y↔(a.b5≠0->a.b5=b.b5->a.i9=b.i9):=by
 unfold a3f;rw[g1D,<-g2W,g02,g02,g1D,<-g2W,a2I,bne_iff_ne,beq_iff_eq];constructor
 ·intro h h1 h2;exact g2Z λq=>h ⟨h1,h2,q⟩
 ·rintro h ⟨h1,h2,h3⟩
  exact h3 (h h1 h2)
def L6(n:m4):Bool:=bif n.d6 != 3 then Y else decide ((Y1 n (O n.a9)).b5>=n.b5)&&(decide ((Y1 n (O n.a9)).b5>n.b5)||S9 (Y1 n (O n.a9)).i9 n.g9)
def other(a b:m4):Bool := !(decide (a.b5>0)&&(a.b5==b.b5))
def b0l(a b:m4):Bool := !((a.b5 != 0)&&(a.b5==b.b5))
def b2P(w:m6)(i:Nat):Bool:=match w.b9[i]? with
 |some n=>L6 n&&(w.b9.take i).all (other n)
 |none=>Y
def b2z(n:m4):Bool:=bif n.d6 != 3 then Y else bif decide ((O n.a9:Int)>=(O n.Acc.b8:Int))then W else
 !decide ((Y1 n (O n.a9)).b5<n.b5) && !(((Y1 n (O n.a9)).b5==n.b5) && !S9 (Y1 n (O n.a9)).i9 n.g9)
def a8d(w:m6)(i:Nat):Bool:=match w.b9[i]? with
 |some n=>(w.b9.drop (i+1)).all (b0l n)&&b2z n
 |none=>Y
def e6M{w:m6}(h:X6 w):b5J w=U (C8 w&&(g09 (O w.b9)).all (a8d w)):=by
 have hf:z4 w.b9:=h.1.fits (by decide);have hin:∀(i:Nat) (hi:i<(O w.b9)) (a:m4),u5 (λt:Int=>b32 w (i:Int) a t) 0=U (bif(w.b9.drop (i+1)).all (b0l a)then .brk ()else .ret W):=by
  intro i hi a;have e:(s6 ((i:Int)+1)).toNat=i+1:=by rw[J0 hf hi];rfl
  have e2:((w.b9.drop (i+1)).take ((O w.b9)-(i+1)))=w.b9.drop (i+1):=by rw[<-g2H,g1n]
  have hfd:z4 (w.b9.drop (i+1)):=by
   unfold z4 at hf⊢;rw[g2H];omega
  refine O5 (w.b9.drop (i+1)) hfd (b0l a) W () ?_ ?_
  ·intro k hk;unfold b32 c6G;rw[e,e2,B0 _ k hk,z8 hk];simp only[g25,g0X];unfold b0l;cases(a.b5 != 0)<;>cases(a.b5==(w.b9.drop (i+1))[k].b5)<;>rfl
  ·unfold b32;rw[e,e2,C1];rfl
 unfold b5J;rw[a31 h,g0X];cases C8 w
 ·rfl
 ·simp only[g04,g26,g1h];rw[a3Y w.b9 hf (a8d w) W ()]
  ·cases(g09 (O w.b9)).all (a8d w)<;>rfl
  ·intro k hk _;have hok:=h.1.2 _ (g01 hk);have hk6:c2C (k:Int) w.b9[k]=U (bif b2z w.b9[k]then .nxt (s6 ((k:Int)+1))else .ret W):=by
    unfold c2C c45 b2z;cases(w.b9[k].d6 != 3)
    ·simp only[g26];by_cases hl:w.b9[k].a9.length<w.b9[k].Acc.b8.length
     ·rw[show decide ((w.b9[k].a9.length:Int)>=(w.b9[k].Acc.b8.length:Int))=W from by simpa using hl,z8 hl];have ev:Y1 w.b9[k] w.b9[k].a9.length=w.b9[k].Acc.b8[w.b9[k].a9.length]:=by unfold Y1;rw[g0Y hl];rfl
      rw[ev];simp only[g26,g0X,a72 (hok.2.1.2.2 _ (g01 hl)).2];cases decide (w.b9[k].Acc.b8[w.b9[k].a9.length].b5<w.b9[k].b5)<;>cases(w.b9[k].Acc.b8[w.b9[k].a9.length].b5==w.b9[k].b5)<;>cases S9 w.b9[k].Acc.b8[w.b9[k].a9.length].i9 w.b9[k].g9<;>rfl
     ·rw[show decide ((w.b9[k].a9.length:Int)>=(w.b9[k].Acc.b8.length:Int))=Y from by simp;omega];rfl
    ·rfl
   unfold c1z a8d;rw[B0 _ k hk,z8 hk,g0Y hk];simp only[g25,g0X];rw[A6 (by rw[J0 hf hk];omega),hin k hk,hk6];cases(w.b9.drop (k+1)).all (b0l w.b9[k])<;>cases b2z w.b9[k]<;>rfl
  ·unfold c1z;rw[C1];rfl
def c7v{a b:m4}:other a b=Y ↔ ¬(0<a.b5/\a.b5=b.b5):=by
 unfold other;rw[g1D,<-g2W,g02,decide_eq_true_eq,beq_iff_eq]
def d4o{a b:m4}:b0l a b=Y ↔ ¬(a.b5≠0/\a.b5=b.b5):=by
 unfold b0l;rw[g1D,<-g2W,g02,bne_iff_ne,beq_iff_eq]
def d3y{n:m4}(h:H4 n=Y):b2z n=L6 n:=by
 unfold L6 b2z;cases hp:(n.d6 != 3)
 ·simp only[g26];have hb:=(d4B (b3Q h).1 (b3Q h).2.2.2.1).2 (by simpa[bne]using hp);by_cases hl:(O n.a9)<(O n.Acc.b8)
  ·rw[show decide ((O n.a9:Int)>=(O n.Acc.b8:Int))=W from by simpa using hl,g26];rw[g2j];generalize Y1 n (O n.a9)=v;cases S9 v.i9 n.g9
   ·simp<;>omega
   ·simp<;>omega
  ·rw[show decide ((O n.a9:Int)>=(O n.Acc.b8:Int))=Y from by simp;omega,g25];have:Y1 n (O n.a9)=zV:=by unfold Y1;rw[g1s (by omega)];rfl
   rw[this,show decide ((zV.b5)>=n.b5)=W from by simp;omega];try rfl
 ·rfl
def f7D{w:m6}(hw:C8 w=Y):((g09 (O w.b9)).all (a8d w))=((g09 (O w.b9)).all (b2P w)):=by
 rw[g2j];have hn:=(d7W hw).2;have hb:∀n∈w.b9,0<=n.b5:=λn hm=>(d4B (b3Q (hn n hm)).1 (b3Q (hn n hm)).2.2.2.1).1
 simp only[g05,g1X];constructor
 ·intro q i hi;have qi:=q i hi;unfold a8d at qi;unfold b2P;rw[g0Y hi]at qi⊢;simp only[g02]at qi⊢;refine⟨by rw[<-d3y (hn _ (g01 hi))];exact qi.2,?_⟩;rw[g05];intro m hm;obtain⟨k,hk,rfl⟩:=g1E hm;rw[g1l]at hk;rw[List.getElem_take,c7v];have hkl:k<(O w.b9):=by omega
  have qk:=q k hkl;unfold a8d at qk;rw[g0Y hkl]at qk;simp only[g02]at qk;have:=d4o.1 (g05.1 qk.1 w.b9[i] (List.mem_iff_getElem.2 ⟨i-(k+1),by rw[g2H];omega,by simp only[List.getElem_drop];congr 1;omega⟩));rintro⟨h1,h2⟩
  exact this ⟨by omega,h2.symm⟩
 ·intro q i hi;have qi:=q i hi;unfold b2P at qi;unfold a8d;rw[g0Y hi]at qi⊢;simp only[g02]at qi⊢;refine⟨?_,by rw[d3y (hn _ (g01 hi))];exact qi.1⟩;rw[g05];intro m hm;obtain⟨k,hk,rfl⟩:=g1E hm;rw[g2H]at hk;rw[List.getElem_drop,d4o];have hkl:i+1+k<(O w.b9):=by omega
  have qk:=q (i+1+k) hkl;unfold b2P at qk;rw[g0Y hkl]at qk;simp only[g02]at qk;have:=c7v.1 (g05.1 qk.2 w.b9[i] (List.mem_iff_getElem.2 ⟨i,by rw[g1l];omega,by simp⟩));rintro⟨h1,h2⟩
  have:=hb _ (g01 hi);omega
def e3S(a b:u0):(([a.i0,a.Seq]:List Int)==[b.i0,b.Seq])=(L7 a==L7 b):=rfl
def a8k(l:List s8)(i:Nat):Bool:=match l[i]? with
 |some t=>(g09 i).all λk=>match l[k]? with
  |some s => !(L7 s.b6==L7 t.b6)
  |none=>Y
 |none=>Y
def d9T{l:List s8}{i:Nat}(h:i<(O l)):a8k l i = !((l.take i).any λs=>L7 s.b6==L7 l[i].b6):=by
 unfold a8k;rw[g0Y h];simp only;rw[g2j,g05,g1D,g1K];constructor
 ·intro hh s hs;obtain⟨k,hk,rfl⟩:=g1E hs;rw[g1l]at hk;have:=hh k (by simp;omega);rw[g0Y (by omega)]at this;simpa using this
 ·intro hh k hk;have hk:k<i:=by simpa using hk
  rw[g0Y (show k<(O l) by omega)];have:=hh l[k] (g11.2 ⟨k,by omega,rfl⟩);simpa using this
def c0S(l:List s8):Bool:=(g09 (O l)).all (a8k l)
def f1X{l:List u0}{y:u0}(h:(l.any λx=>L7 y==L7 x)=W):a9C L7 l y=l++[y]:=by
 unfold a9C;rw[if_neg (by rw[h];simp)]
def f1V{w:m6}(h:X6 w):b56 w=U (C8 w&&c0S w.Told):=by
 have hf:z4 w.Told:=h.2.2.2.fits (by decide);unfold b56;rw[a31 h,g0X];cases C8 w
 ·rfl
 rw[g04,g26,g1h];have hc:=a6Z (body:=λs:(List u0)×Int=>b3x w s.1 s.2) (λk=>((w.Told.take k).map (·.b6),(k:Int))) (O w.Told) (a8k w.Told) (λ_=>W) () (by
  intro k hk _;unfold b3x;simp only[B0 _ k hk,g25,z8 hk,g0X,J0 hf hk];have he:(((w.Told.take k).map (·.b6)).any λx=>L7 w.Told[k].b6==L7 x) = !a8k w.Told k:=by
   rw[d9T hk,g22,List.any_map];congr 1
   funext s
   show(L7 w.Told[k].b6==L7 s.b6)=_
   rw[g2j,beq_iff_eq,beq_iff_eq];exact eq_comm
  rw[he];cases ho:a8k w.Told k
  ·rfl
  ·rw[ho]at he;rw[f1X he,g1u hk,g1W];rfl) (by
  intro _;unfold b3x;simp only[C1];rfl)
 rw[g1P,List.map_nil,show((0:Nat):Int)=0 from rfl]at hc;unfold c0S;rcases hc with⟨hc,hall⟩|⟨k,hk,ho,_,hc⟩
 ·rw[hc,show(g09 (O w.Told)).all (a8k w.Told)=Y from g05.2 λk hk=>hall k (by simpa using hk)];rfl
 ·rw[hc,show(g09 (O w.Told)).all (a8k w.Told)=W from g2y.2 ⟨k,by simpa using hk,by rw[ho];simp⟩];rfl
def b64{C:Type}{p q:C->Bool}(h:∀x,p x=Y->q x=Y):∀l:List C,(l.filter q).find? p=l.find? p
 | []=>rfl
 |x::l=>by
  cases hq:q x with
  |true=>
   rw[List.filter_cons_of_pos hq,g2w,g2w,b64 h l]
  |false=>
   have hp:p x=W:=by
    cases hp:p x with
    |false=>rfl
    |true=>rw[h x hp]at hq;cases hq
   rw[List.filter_cons_of_neg (by simp[hq]),g2w,hp,b64 h l]
def c5d{C:Type}{p q:C->Bool}(h:∀x,p x=Y->q x=W)(l:List C):(l.filter q).find? p=Z:=by
 rw[g21];intro x hx;have hq:=(g12.1 hx).2;intro hp;rw[h x hp]at hq;cases hq
def c7J{l:List x6}(h:a4U l)(d:x6)(w:Int):(a1K l d).find? (λx=>x.b6.i0==w)=bif d.b6.i0==w then U d else l.find? (λx=>x.b6.i0==w):=by
 rw[c1x d h,List.find?_append,g2w];by_cases hw:d.b6.i0=w
 ·subst hw;rw[c5d (by intro x hx;simp at hx;simp;omega)];simp
 ·have hne:(d.b6.i0==w)=W:=by simpa using hw
  rw[hne];simp only[g26];by_cases hlt:w<d.b6.i0
  ·rw[b64 (by intro x hx;simp at hx;simp;omega),c5d (by intro x hx;simp at hx;simp;omega),Option.or_none]
  ·rw[c5d (by intro x hx;simp at hx;simp;omega),b64 (by intro x hx;simp at hx;simp;omega),Option.none_or]
def a1u(s:A4)(w:Int):Option x6:=s.l7.find? (λx=>x.b6.i0==w)
def d2r{s:A4}{k:Nat}{e:p9}(hs:Inv s k)(w:Int):∃d,d.b6=e.b6/\a1u (T5 s e).1 w=bif e.b6.i0==w then U d else a1u s w:=by
 unfold T5 a1u;cases a18 s.j4 e.g8
 ·exact⟨⟨e.b6,1,0⟩,rfl,c7J hs.sorted _ w⟩
 ·cases e.g8.Code==0
  ·exact⟨⟨e.b6,2,0⟩,rfl,c7J hs.sorted _ w⟩
  ·exact⟨⟨e.b6,0,e.g8.i8⟩,rfl,c7J hs.sorted _ w⟩
def e95{s:A4}{k:Nat}{e:p9}(hs:Inv s k)(hn:e.j9=W):∃d,a1u (apply s e).1 e.b6.i0=U d/\e.b6.Seq<=d.b6.Seq:=by
  obtain⟨d,h1,h2⟩:=d2r (e:=e) hs e.b6.i0;rw[beq_self_eq_true,g25]at h2;have hfr:∃d,a1u (T5 s e).1 e.b6.i0=U d/\e.b6.Seq<=d.b6.Seq:=⟨d,h2,by rw[h1];exact g1g _⟩
  unfold apply;rw[hn,g26];cases hf:s.l7.find? λd=>d.b6.i0==e.b6.i0 with
  |none=>exact hfr
  | some d=>
    simp only;cases h3:d.b6.Seq==e.b6.Seq
    . by_cases h4:d.b6.Seq>e.b6.Seq
      . simp only[h4,decide_true,g25,g26];exact⟨d,hf,by omega⟩
      . simp only[h4,decide_false,g26];exact hfr
    . exact ⟨d, hf, by have:d.b6.Seq=e.b6.Seq:=by simpa using h3
                       omega⟩
def f7k{s:A4}{k:Nat}{e:p9}(hs:Inv s k){w:Int}{d:x6}(hd:a1u s w=U d):∃d',a1u (apply s e).1 w=U d'/\d.b6.Seq<=d'.b6.Seq:=by
 have same:∃d',a1u s w=U d'/\d.b6.Seq<=d'.b6.Seq:=⟨d,hd,g1g _⟩
 have hfr:(∀d',a1u s e.b6.i0=U d'->d'.b6.Seq<=e.b6.Seq)->∃d',a1u (T5 s e).1 w=U d'/\d.b6.Seq<=d'.b6.Seq:=by
  intro hle;obtain⟨d2,h1,h2⟩:=d2r (e:=e) hs w;by_cases hw:e.b6.i0=w
  ·subst hw;rw[beq_self_eq_true,g25]at h2;exact⟨d2,h2,by rw[h1];exact hle d hd⟩
  ·have:(e.b6.i0==w)=W:=by simpa using hw
   rw[this,g26]at h2;exact⟨d,h2.trans hd,g1g _⟩
 unfold apply;cases hn:e.j9
 ·simp only[g26];cases hf:s.l7.find? λd=>d.b6.i0==e.b6.i0 with
  |none=>exact hfr λd' h=>by unfold a1u at h;rw[hf]at h;cases h
  |some d0=>
   simp only;cases h3:d0.b6.Seq==e.b6.Seq
   ·by_cases h4:d0.b6.Seq>e.b6.Seq
    ·simp only[h4,decide_true,g25,g26];exact same
    ·simp only[h4,decide_false,g26];refine hfr λd' h => ?_
     unfold a1u at h;rw[hf]at h;injection h with h;subst h;omega
   ·exact same
 ·exact same
def e9m{s:A4}{e:p9}{d:x6}(hd:a1u s e.b6.i0=U d)(h:e.b6.Seq<=d.b6.Seq):(apply s e).2≠0:=by
 unfold a1u at hd;unfold apply;cases hn:e.j9
 ·simp only[g26,hd];cases h3:d.b6.Seq==e.b6.Seq
  ·have hne:d.b6.Seq≠e.b6.Seq:=by simpa using h3
   have hgt:d.b6.Seq>e.b6.Seq:=by omega
   simp only[hgt,decide_true,g25,g26];decide
  ·exact show(3:Int)≠0 from by decide
 ·exact show(5:Int)≠0 from by decide
def f0s{l:List p9}(hl:(O l)<=40)(he:l.all B7=Y){i m:Nat}(him:i<m)(hm:m<(O l))(hn:(l[i]'(by omega)).j9=W)(hq:l[m].b6=(l[i]'(by omega)).b6):(w9 l).2[m]?≠U 0:=by
 have hi:i<(O l):=by omega
 have key:∀n,i<n->n<=(O l)->∃d,a1u (w9 (l.take n)).1 l[i].b6.i0=U d/\l[i].b6.Seq<=d.b6.Seq:=by
  intro n;induction n with
  |zero=>intro h;omega
  |succ n ih=>
   intro h1 h2;have hin:=(Z6 hl he n (by omega)).1;rw[a3r (show n<(O l) by omega)];show ∃d,a1u (apply (w9 (l.take n)).1 l[n]).1 l[i].b6.i0=U d/\_
   by_cases hq:i=n
   ·subst hq;exact e95 hin hn
   ·obtain⟨d,h3,h4⟩:=ih (by omega) (by omega);obtain⟨d',h5,h6⟩:=f7k (e:=l[n]) hin h3;exact⟨d',h5,by omega⟩
 obtain⟨d,h1,h2⟩:=key m him (by omega);rw[b6C hl he hm];intro h;injection h with h;exact e9m (e:=l[m]) (by rw[hq];exact h1) (by rw[hq];exact h2) h
def eN:p9:=⟨Y,⟨0,0⟩,⟨[],[],0,0⟩⟩
def v0:s7:=⟨0,zE⟩
def a95(b:Int):Bool:=v5 b 1 3000
def J6(a:B4)(b:Int):Option B4:=bif a95 b&&decide (a.i7<=b)then U ⟨b,a.b8⟩else Z
def W9(vs:List s7)(n:Nat):List s7:=vs++g00 (n-(O vs)) v0
def N7(a:B4)(b slot:Int)(e:p9):Option B4:=
 bif v5 slot 0 39&&B7 e then(J6 a b).map λx=>⟨x.i7,(W9 x.b8 (slot.toNat+1)).set slot.toNat ⟨b,e⟩⟩else Z
def G2:List s7->List s7->List s7
 | [],b=>b
 |a,[]=>a
 |x::a,y::b=>(bif decide (y.b5>x.b5)then y else x)::G2 a b
def M5(b who:Int):Int:=
 bif decide (b+1<=3000)&&(g1w (b+1) 3==who)then b+1 else
 bif decide (b+2<=3000)&&(g1w (b+2) 3==who)then b+2 else
 bif decide (b+3<=3000)&&(g1w (b+3) 3==who)then b+3 else -1
def a0E(n:m4):m4:={n with d6:=0,b5:=0,d7:=[],j5:=[],g9:=zE,b8:=[]}
def a8N(n:m4):m4:={n with j6:=W,j8:=[],d9:=zE}
def N3(l:List p9)(q:u0):Bool:=l.any (I9 q)
def a0u(id:Int):List Bool:=(g00 3 W).set id.toNat Y
def L1(l:List Bool):Bool:=decide (2<=(l.filter (· == Y)).length)
def G4(id:Int)(m:m9):List m9:=(([0,1,2]:List Int).filter (· != id)).map λt=>{m with d7:=id,To:=t}
def H7(m out:m9):m9:={out with d7:=m.To,To:=m.d7}
def L3(n:m4)(b:Int):m4:=bif n.d6 != 0&&decide (b>n.b5)then a0E n else n
def V6(known:List p9):List p9->List p9×Option p9
 | []=>([],Z)
 |e::q=>bif N3 known e.b6 then V6 known q else(q,U e)
def a4B(n:m4):m4×Option p9:=
 bif(n.j5.drop (O n.a9)).any (λv=>decide (v.b5>0))then(n,U eN)
 else bif n.j6 && !N3 n.a9 n.d9.b6 then(n,U n.d9)
 else({n with i5:=(V6 n.a9 n.i5).1},(V6 n.a9 n.i5).2)
def a0q(n:m4):m4×Option p9:=match n.j5[n.a9.length]? with
 |some v=>bif decide (v.b5>0)then(n,U v.i9)else a4B n
 |none=>a4B n
def a4k(x:m4)(e:p9):m4×List m9:=match N7 x.Acc x.b5 (O x.a9:Int) e with
 |some a=>({x with Acc:=a,d6:=3,g9:=e,b8:=a0u x.Id},G4 x.Id ⟨3,0,0,x.b5,(O x.a9:Int),e,[]⟩)
 |none=>(a0E x,[])
def F8(n:m4):m4×List m9:=
 bif n.d6 != 2||decide (40<=(O n.a9))then(n,[])else match a0q n with
  | (x,U e)=>a4k x e
  | (x,Z)=>(x,[])
def K7(n:m4):m4×List s8:=
 bif n.j6 then(match n.a9.findIdx? (I9 n.d9.b6)with
  |some k=>(a8N n,[⟨n.Id,n.d9.b6,W0 n.a9 k,bif W0 n.a9 k==0 then a0a n.a9 n.d9.b6 else 0⟩])
  |none=>(n,[]))
 else(n,[])
def C6(n:m4)(e:p9):m4:=
 bif n.d6==3 then {n with a9:=n.a9++[e],d6:=2,g9:=zE,b8:=[]}else {n with a9:=n.a9++[e]}
def V5(n:m4)(e:p9):m4×List m9×List s8:=
 ((F8 (K7 (C6 n e)).1).1,(F8 (K7 (C6 n e)).1).2,(K7 (C6 n e)).2)
def a0N(n:m4)(m:m9):m4×List m9:=match J6 n.Acc m.b5 with
 |some a=>(L3 {n with Acc:=a} m.b5,[H7 m ⟨2,0,0,m.b5,m.i6,zE,a.b8.drop m.i6.toNat⟩])
 |none=>(n,[H7 m ⟨6,0,0,n.Acc.i7,0,zE,[]⟩])
def a0H(n:m4)(m:m9):m4×List m9:=match N7 n.Acc m.b5 m.i6 m.i9 with
 |some a=>(L3 {n with Acc:=a} m.b5,[H7 m ⟨4,0,0,m.b5,m.i6,zE,[]⟩])
 |none=>(n,[H7 m ⟨6,0,0,n.Acc.i7,0,zE,[]⟩])
def Y8(n:m4)(m:m9):m4×List m9:=
 bif n.d6 != 1||m.b5 != n.b5 then(n,[])else
 bif L1 (n.d7.set m.d7.toNat Y)then
  F8 {n with d7:=[],j5:=G2 n.j5 (g00 m.i6.toNat v0++m.b8),d6:=2}
 else({n with d7:=n.d7.set m.d7.toNat Y,j5:=G2 n.j5 (g00 m.i6.toNat v0++m.b8)},[])
def a0J(n:m4)(m:m9):m4×List m9×List s8:=
 bif n.d6 != 3||(m.b5 != n.b5||m.i6 != (O n.a9:Int))then(n,[],[])else
 bif L1 (n.b8.set m.d7.toNat Y)then
  ((V5 {n with b8:=n.b8.set m.d7.toNat Y} n.g9).1,G4 n.Id ⟨5,0,0,0,(O n.a9:Int),n.g9,[]⟩++(V5 {n with b8:=n.b8.set m.d7.toNat Y} n.g9).2.1,(V5 {n with b8:=n.b8.set m.d7.toNat Y} n.g9).2.2)
 else({n with b8:=n.b8.set m.d7.toNat Y},[],[])
def a0K(n:m4)(m:m9):m4×List m9×List s8:=
 bif decide (m.i6<(O n.a9:Int))then(n,[],[])else
 bif decide (m.i6>(O n.a9:Int))then(n,[H7 m ⟨8,0,0,0,(O n.a9:Int),zE,[]⟩],[])
 else V5 n m.i9
def Y9(n:m4)(m:m9):m4×List m9:=
 bif n.d6==0||(decide (4<=(O n.i5))||N3 n.a9 m.i9.b6)then(n,[])else F8 {n with i5:=n.i5++[m.i9]}
def T0(n:m4)(m:m9)(s:Nat):List m9:=match n.a9[s]? with
 |some e=>[H7 m ⟨5,0,0,0,(s:Int),e,[]⟩]
 |none=>[]
def W2(n:m4)(m:m9):List m9:=((g09 ((O n.a9)-m.i6.toNat)).map λj=>T0 n m (m.i6.toNat+j)).flatten
def D8(n:m4)(m:m9):m4×List m9×List s8:=
 bif m.b7==1 then((a0N n m).1,(a0N n m).2,[])else
 bif m.b7==2 then((Y8 n m).1,(Y8 n m).2,[])else
 bif m.b7==3 then((a0H n m).1,(a0H n m).2,[])else
 bif m.b7==4 then a0J n m else
 bif m.b7==5 then a0K n m else
 bif m.b7==6 then(L3 {n with Acc:=(J6 n.Acc m.b5).getD n.Acc} m.b5,[],[])else
 bif m.b7==7 then((Y9 n m).1,(Y9 n m).2,[])else
 bif m.b7==8 then(n,W2 n m,[])else(n,[],[])
def N4(n:m4)(prog:List t8):m4×List m9:=
 bif n.j6||(n.Seq==1000||(E9 (w9 n.a9).1.j4 prog).Code==3)then(n,[])else
 bif n.d6==2 then F8 {n with Seq:=n.Seq+1,j6:=Y,j8:=prog,d9:=⟨W,⟨n.Id,n.Seq+1⟩,E9 (w9 n.a9).1.j4 prog⟩}
 else({n with Seq:=n.Seq+1,j6:=Y,j8:=prog,d9:=⟨W,⟨n.Id,n.Seq+1⟩,E9 (w9 n.a9).1.j4 prog⟩},
  bif n.d6==0 then G4 n.Id ⟨7,0,0,0,0,⟨W,⟨n.Id,n.Seq+1⟩,E9 (w9 n.a9).1.j4 prog⟩,[]⟩else [])
def P9(n:m4):m4×List m9:=
 bif decide (M5 n.Acc.i7 n.Id<0)then(n,[])else
 ({a0E n with Acc:=⟨M5 n.Acc.i7 n.Id,n.Acc.b8⟩,d6:=1,b5:=M5 n.Acc.i7 n.Id,d7:=a0u n.Id,j5:=n.Acc.b8},
  G4 n.Id ⟨1,0,0,M5 n.Acc.i7 n.Id,(O n.a9:Int),zE,[]⟩)
def K5(n:m4):m4×List m9:=
 bif n.d6==1 then(n,G4 n.Id ⟨8,0,0,0,(O n.a9:Int),zE,[]⟩++G4 n.Id ⟨1,0,0,n.b5,(O n.a9:Int),zE,[]⟩)else
 bif n.d6==2 then((F8 n).1,G4 n.Id ⟨8,0,0,0,(O n.a9:Int),zE,[]⟩++(F8 n).2)else
 bif n.d6==3 then(n,G4 n.Id ⟨8,0,0,0,(O n.a9:Int),zE,[]⟩++G4 n.Id ⟨3,0,0,n.b5,(O n.a9:Int),n.g9,[]⟩)else
 bif n.j6 then(n,G4 n.Id ⟨8,0,0,0,(O n.a9:Int),zE,[]⟩++G4 n.Id ⟨7,0,0,0,0,n.d9,[]⟩)else
 (n,G4 n.Id ⟨8,0,0,0,(O n.a9:Int),zE,[]⟩)
def E6(id:Int):m4:=⟨id,⟨0,[]⟩,[],0,0,0,[],[],zE,[],W,[],zE,[]⟩
def U5(n:m4):m4:={E6 n.Id with Acc:=n.Acc,a9:=n.a9,Seq:=n.Seq}
def O7:m6:=⟨[E6 0,E6 1,E6 2],[],[],[]⟩
def U3(w:m6)(l:List m9):m6:={w with c9:=w.c9++l.take (40-(O w.c9))}
def a6x(w:m6)(l:List s8):m6:={w with Told:=w.Told++l.take (60-(O w.Told))}
def J9(w:m6)(i:Int)(n:m4):m6:={w with b9:=w.b9.set i.toNat n}
def a2H(w:m6)(i:Int):m6:={w with c9:=w.c9.take i.toNat++w.c9.drop (i.toNat+1)}
def E8(w:m6)(i:Int):m4:=w.b9.getD i.toNat (E6 0)
def a4J(w:m6)(i:Int)(prog:List t8):m6:=
 bif decide (60<=(O w.i4))then w else
 U3 (J9 (bif decide ((N4 (E8 w i) prog).1.Seq>(E8 w i).Seq)then {w with i4:=w.i4++[⟨(N4 (E8 w i) prog).1.d9.b6,prog⟩]}else w) i (N4 (E8 w i) prog).1) (N4 (E8 w i) prog).2
def a0P(w:m6)(e:v6):m6:=bif decide (0<=e.A)then(match w.c9[e.A.toNat]? with
 |some m=>bif e.b7==4 then U3 w [m]else bif e.b7==3 then a2H w e.A else
  a6x (U3 (J9 (a2H w e.A) m.To (D8 (E8 w m.To) m).1) (D8 (E8 w m.To) m).2.1) (D8 (E8 w m.To) m).2.2
 |none=>w)else w
def t6(w:m6)(e:v6):m6:=
 bif e.b7==2||(e.b7==3||e.b7==4)then a0P w e else
 bif !v5 e.A 0 2 then w else
 bif e.b7==1 then a4J w e.A e.j8 else
 bif e.b7==5 then U3 (J9 w e.A (P9 (E8 w e.A)).1) (P9 (E8 w e.A)).2 else
 bif e.b7==6 then U3 (J9 w e.A (K5 (E8 w e.A)).1) (K5 (E8 w e.A)).2 else
 bif e.b7==7 then J9 w e.A (U5 (E8 w e.A))else w
def a1x(w:m6)(l:List v6):m6:=l.foldl t6 w
def a1N:N5 0:=⟨by decide,by decide⟩
def a0b{C:Type}{b:Nat}{ok:C->Prop}:C4 b ok ([]:List C):=⟨by simp,λx hx=>by cases hx⟩
def a2J:I5 zE:=⟨⟨a1N,a1N⟩,a0b,a0b,a1N,a1N⟩
def e0m:I5 eN:=⟨⟨a1N,a1N⟩,a0b,a0b,a1N,a1N⟩
def d8y:Z5 v0:=⟨a1N,a2J⟩
def a8r{C R B:Type}{body:List C×Int->Option (n6 R (List C×Int) B)}(l:List C)(hl:z4 l)(f:List C->B)(h1:∀(k:Nat) (h:k<(O l)),body (l.take k,(k:Int))=U (.nxt (l.take k++[l[k]],s6 ((k:Int)+1))))(h2:body (l,(O l:Int))=U (.brk (f l))):u5 body ([],0)=U (.brk (f l)):=by
 have h:=a0Y (body:=body) (λk=>(l.take k,(k:Int))) (O l) (by
  intro k hk;rw[h1 k hk,J0 hl hk,g1u hk])
 rw[show((0:Nat):Int)=0 from rfl,g1P]at h;rw[h,g1n];exact F3 h2
def b8y{l:List s7}(h:C4 96 Z5 l):a9k l=U l:=by
 have hf:z4 l:=h.fits (by decide);have hb:=h.1;unfold a9k;rw[a8r (body:=λs:(List s7)×Int=>b3X l s.1 s.2) l hf (λl=>l) (by
  intro k hk;unfold b3X;rw[B0 _ k hk,z8 hk];simp only[g25,g0X,a2n (h.2 _ (g01 hk)).2];rw[A6 (by rw[g1l];omega)]) (by
  unfold b3X;rw[C1];rfl)]
 rfl
def e0I{l:List s7}(h:C4 96 Z5 l):c1P l=U (l,l):=by
 have hf:z4 l:=h.fits (by decide);have hb:=h.1;unfold c1P;rw[a8r (body:=λs:(List s7)×Int=>b5k l s.1 s.2) l hf (λl=>l) (by
  intro k hk;unfold b5k;rw[B0 _ k hk,z8 hk];simp only[g25,g0X,a2n (h.2 _ (g01 hk)).2];rw[A6 (by rw[g1l];omega)]) (by
  unfold b5k;rw[C1];rfl)]
 rfl
def f1y{e:p9}(h:I5 e):b80 e=U e:=by
 have h1:=h.2.1.1;have h2:=h.2.2.1.1;unfold b80 c3A;rw[A6 (by simp;omega),A6 (by simp;omega)];rfl
def f7c{l:List s7}(h:C4 96 Z5 l):b9W l=U l:=by
 have hf:z4 l:=h.fits (by decide);have hb:=h.1;unfold b9W;rw[a8r (body:=λs:(List s7)×Int=>b38 l s.1 s.2) l hf (λl=>l) (by
  intro k hk;unfold b38;rw[B0 _ k hk,z8 hk];simp only[g25,g0X,f1y (h.2 _ (g01 hk)).2];rw[A6 (by rw[g1l];omega)]) (by
  unfold b38;rw[C1];rfl)]
 rfl
def c1h{m:m9}(h:a1L m):a9P m=U m:=by
 unfold a9P;rw[a2n h.2.2.2.2.2.1,g0X,b8y h.2.2.2.2.2.2];rfl
def b5q{C:Type}{b:Nat}{ok:C->Prop}{l:List C}(h:C4 b ok l):(([]:List C).length+(O l))*b<=140737488355328:=by
 have:=h.1;simp only[g2i,g1U];omega
def b3m{n:m4}(h:V8 n):a7C n=U n:=by
 obtain⟨h1,h2,h3,h4,h5,h6,h7,h8,h9,h10,h11,h12,h13⟩:=h;unfold a7C c8h;rw[b8y h2.2,g0X,g0X,d9Z h3,g0X,A6 (b5q h7),b8y h8,g0X,a2n h9,g0X,A6 (b5q h10),A6 (b5q h11),a2n h12,g0X,d9Z h13];rfl
def c3a{a:B4}{b:Int}:b2q a b=match J6 a b with|some _=>Z|none=>U (a,W):=by
 unfold b2q J6 a95;rw[b0Y,g0X];cases v5 b 1 3000
 ·rfl
 ·by_cases h:b<a.i7
  ·simp[h,show ¬a.i7<=b by omega]
  ·simp[h,show a.i7<=b by omega]
def b9H{a:B4}{b:Int}:a90 a b=U (match J6 a b with|some x=>(x,Y)|none=>(a,W)):=by
 unfold a90 J6 a95;rw[b0Y,g0X];cases v5 b 1 3000
 ·rfl
 ·by_cases h:b<a.i7
  ·simp[h,show ¬a.i7<=b by omega]
  ·simp[h,show a.i7<=b by omega]
def d6r{a:B4}{b s:Int}{e:p9}(he:I5 e):b5v a b s e=match N7 a b s e with|some _=>Z|none=>U (a,W):=by
 unfold b5v N7;rw[a5F he.f,g0X,c3a];by_cases h1:s<0
 ·simp[h1,v5,show ¬(0<=s/\s<=39) by omega]
 ·by_cases h2:s>=40
  ·simp[h1,h2,v5,show ¬(0<=s/\s<=39) by omega]
  ·simp only[h1,h2,decide_false,g26,v5,show(0<=s/\s<=39) by omega,and_self,decide_true,g1h];cases B7 e
   ·rfl
   ·simp only[g04,g26,g25];cases J6 a b<;>rfl
def d7s(slot:Nat)(hs:slot<40):∀(m:Nat) (vs:List s7),slot+1-(O vs)=m->u5 (λs:List s7=>a81 (slot:Int) s) vs=U (.brk (W9 vs (slot+1)))
 | 0,vs,h=>by
  refine F3 ?_;unfold a81 W9;rw[h,show decide ((O vs:Int)<=(slot:Int))=W by simp;omega];simp
 |m+1,vs,h=>by
  have hb:a81 (slot:Int) vs=U (.nxt (vs++[v0])):=by
   unfold a81;rw[show decide ((O vs:Int)<=(slot:Int))=Y by simp;omega,g25,A6 (by omega)];rfl
  rw[G7 (body:=λs:List s7=>a81 (slot:Int) s) hb,d7s slot hs m (vs++[v0]) (by simp;omega)];congr 2
  unfold W9;rw[h,g08,show slot+1-((O vs)+[v0].length)=m by simp;omega,g1d];rfl
def b6l(vs:List s7)(n:Nat):(W9 vs n).length=max (O vs) n:=by
 unfold W9;simp;omega
def d7n{a:B4}{b s:Int}{e:p9}(he:I5 e):b6q a b s e=U (match N7 a b s e with|some x=>(x,Y)|none=>(a,W)):=by
 unfold b6q N7;rw[a5F he.f,g0X,c3a,b9H,g0X];by_cases h1:s<0
 ·simp[h1,v5,show ¬(0<=s/\s<=39) by omega]
 ·by_cases h2:s>=40
  ·simp[h1,h2,v5,show ¬(0<=s/\s<=39) by omega]
  ·simp only[h1,h2,decide_false,g26,v5,show(0<=s/\s<=39) by omega,and_self,decide_true,g1h];cases B7 e
   ·rfl
   ·simp only[g04,g26,g25];cases J6 a b with
    |none=>rfl
    |some x=>
     obtain⟨k,rfl⟩:∃k:Nat,s=(k:Int):=⟨s.toNat,by omega⟩
     have hk:k<(W9 x.b8 (k+1)).length:=by rw[b6l];omega
     simp only[a6J,g04,g26,d7s k (by omega) _ _ rfl,g0X,r9.go,c4J,a2n he,z8 hk,g2c,g1p]
def b70{n:m4}{q:u0}(h:z4 n.a9):a8R n q=U (N3 n.a9 q):=by
  unfold a8R;rw[show u5 (λs:Int=>b2r n q s) 0=_ from b9j (body:=λs:Int=>b2r n q s) n.a9 h (I9 q) (λ_=>Y) () (by
      intro k hk;unfold b2r c7h I9;rw[B0 _ k hk,z8 hk];simp only[g25,g0X];cases n.a9[k].j9<;>cases(([n.a9[k].b6.i0,n.a9[k].b6.Seq]:List Int)==[q.i0,q.Seq])<;>rfl) (by
      unfold b2r;rw[C1];rfl)]
  unfold N3;cases hf:n.a9.find? (I9 q)with
  | none=>
    have:n.a9.any (I9 q)=W:=by
      rw[g1K];intro x hx;exact g21.1 hf x hx
    rw[this];rfl
  | some x=>
    have:n.a9.any (I9 q)=Y:=g2e.2 ⟨x,g20 hf,List.find?_some hf⟩;rw[this];rfl
def a2B(id:Int)(m:m9)(o:List m9)(t:Int):List m9:=bif t != id then o++[{m with d7:=id,To:=t}]else o
def d2J(id:Int)(m:m9)(o:List m9)(t:Int):(a2B id m o t).length<=(O o)+1:=by
 unfold a2B;cases t != id<;>simp
def a8b{id:Int}(hid:0<=id/\id<=2){m:m9}(h:a1L m):a4a id m=U (G4 id m):=by
 have e:∀(o:List m9) (t:Int),(O o)<=3->0<=t->t<3->a6p id m o t=U (.nxt (a2B id m o t,t+1)):=by
  intro o t ho ht0 ht;unfold a6p c67 a2B;rw[show decide (t<3)=Y by simpa using ht,g25,c1h h,g0X,A6 (by omega),F6 (by omega) (by omega)];cases t != id<;>rfl
 have l1:=d2J id m [] 0;have l2:=d2J id m (a2B id m [] 0) (0+1);have h0:=G7 (body:=λs:(List m9)×Int=>a6p id m s.1 s.2) (s:=([],0)) (e [] 0 (by simp) (by omega) (by omega));have h1:=G7 (body:=λs:(List m9)×Int=>a6p id m s.1 s.2) (s:=(a2B id m [] 0,0+1)) (e (a2B id m [] 0) (0+1) (by simp at l1;omega) (by omega) (by omega));have h2:=G7 (body:=λs:(List m9)×Int=>a6p id m s.1 s.2) (s:=(a2B id m (a2B id m [] 0) (0+1),0+1+1)) (e (a2B id m (a2B id m [] 0) (0+1)) (0+1+1) (by simp at l1;omega) (by omega) (by omega));have h3:=F3 (body:=λs:(List m9)×Int=>a6p id m s.1 s.2) (s:=(a2B id m (a2B id m (a2B id m [] 0) (0+1)) (0+1+1),0+1+1+1)) (show a6p id m _ (0+1+1+1)=_ from rfl);unfold a4a;rw[h0,h1,h2,h3];obtain rfl|rfl|rfl:id=0\/id=1\/id=2:=by omega
 all_goals rfl
def d20:∀(l:List Bool) (hl:z4 l) (m k:Nat) (c:Int),k+m=(O l)->0<=c->c<=k->u5 (λs:Int×Int=>a5W l s.1 s.2) (c,(k:Int))=U (.brk (c+(((l.drop k).filter (· == Y)).length:Int)))
 |l,hl,0,k,c,hk,h0,h1=>by
  have:k=(O l):=by omega
  subst this;refine F3 ?_;show a5W l c (O l:Int)=_
  unfold a5W;rw[C1];simp
 |l,hl,m+1,k,c,hk,h0,h1=>by
  have hlt:k<(O l):=by omega
  have hfl:(O l:Int)<=140737488351232:=by have:=hl;unfold z4 at this;omega
  have hb:a5W l c (k:Int)=U (.nxt (c+(bif l[k]then 1 else 0),((k+1:Nat):Int))):=by
   unfold a5W c6k;rw[B0 _ k hlt,z8 hlt,g25,g0X,J0 hl hlt];cases l[k]<;>simp only[g25,g26,g0X]<;>rw[F6 (by omega) (by omega)]
  rw[G7 (body:=λs:Int×Int=>a5W l s.1 s.2) hb,d20 l hl m (k+1) _ (by omega) (by cases l[k]<;>simp<;>omega) (by cases l[k]<;>simp<;>omega),g1q hlt];cases l[k]<;>simp
  omega
def d8J{l:List Bool}(h:z4 l):b6g l=U (L1 l):=by
 unfold b6g;rw[show u5 (λs:Int×Int=>a5W l s.1 s.2) (0,0)=_ from d20 l h (O l) 0 0 (by omega) (by omega) (by omega)];simp only[g0X,r9.go,c5V,L1,g2a];congr 1
 simp;omega
def e97{l:List s7}{s:Int}(h:C4 96 Z5 l)(hl:(O l)<=40)(hs:0<=s/\s<=40):b8N l s=U (g00 s.toNat v0++l):=by
 unfold b8N;rw[A6 (by omega),b8y h,g0X,A6 (by simp;omega)];rfl
def a7y:∀a b:List s7,(G2 a b).length=max (O a) (O b)
 | [],b=>by simp[G2]
 |x::a,[]=>by simp[G2]
 |x::a,y::b=>by simp only[G2,g1G,a7y a b];omega
def b2w:∀(a b:List s7) (k:Nat),(G2 a b)[k]?=match a[k]?,b[k]? with
  |some x,U y=>U (bif decide (y.b5>x.b5)then y else x)
  |some x,Z=>U x
  |none,U y=>U y
  |none,Z=>Z
 | [],b,k=>by simp[G2];cases b[k]?<;>rfl
 |x::a,[],k=>by simp[G2];cases(x::a)[k]?<;>rfl
 |x::a,y::b,0=>by simp[G2]
 |x::a,y::b,k+1=>by simp only[G2,g19];exact b2w a b k
def a8P{a b:List s7}{v:s7}(h:v∈G2 a b):v∈a\/v∈b:=by
 obtain⟨k,hk⟩:=g2A h;rw[b2w]at hk;cases ha:a[k]? with
 |none=>
  cases hb:b[k]? with
  |none=>rw[ha,hb]at hk;cases hk
  |some y=>rw[ha,hb]at hk;injection hk with hk;subst hk;exact .inr (g1e hb)
 |some x=>
  cases hb:b[k]? with
  |none=>rw[ha,hb]at hk;injection hk with hk;subst hk;exact .inl (g1e ha)
  |some y=>
   rw[ha,hb]at hk;simp only at hk;cases hd:decide (y.b5>x.b5)
   ·rw[hd]at hk;injection hk with hk;subst hk;exact .inl (g1e ha)
   ·rw[hd]at hk;injection hk with hk;subst hk;exact .inr (g1e hb)
def e59{a b:List s7}(ha:C4 96 Z5 a)(hb:C4 96 Z5 b)(hla:(O a)<=80)(hlb:(O b)<=80)(hz:∀v∈b,v.b5<=0->v=v0):b60 a b=U (G2 a b):=by
 have hlen:=a7y a b;unfold b60;rw[a8r (body:=λs:(List s7)×Int=>a7R a b s.1 s.2) (G2 a b) (by unfold z4;omega) (λl=>l) (by
  intro k hk;have hget:=b2w a b k;rw[g0Y hk]at hget;have hent:∀v,v∈a\/v∈b->I5 v.i9:=λv hv=>hv.elim (λq=>(ha.2 v q).2) (λq=>(hb.2 v q).2)
  have hj1:∀v:s7,I5 v.i9->c1w ((G2 a b).take k) (k:Int) v=U (.nxt ((G2 a b).take k++[v],s6 ((k:Int)+1))):=by
   intro v hv;unfold c1w;rw[a2n hv,g0X,A6 (by rw[g1l];omega)]
  show a7R a b ((G2 a b).take k) (k:Int)=_
  have hkk:k<(O a)\/k<(O b):=by omega
  have hstart:a7R a b ((G2 a b).take k) (k:Int)=b7Q a b ((G2 a b).take k) (k:Int):=by
   unfold a7R;by_cases h1:k<(O a)
   ·rw[B0 _ k h1];rfl
   ·rw[show decide ((k:Int)<(O a:Int))=W by simp;omega,B0 _ k (by omega)];rfl
  rw[hstart];unfold b7Q;by_cases h1:k<(O a)
  ·rw[B0 _ k h1,z8 h1];simp only[g25,g0X,r9.go];unfold c1a;rw[g0Y h1]at hget;by_cases h2:k<(O b)
   ·rw[B0 _ k h2,z8 h2];rw[g0Y h2]at hget;simp only[g25,g0X];injection hget with hget;rw[hget];cases decide (b[k].b5>a[k].b5)
    ·simp only[g26,g0X,r9.go];exact hj1 _ (hent _ (.inl (g01 h1)))
    ·simp only[g25,g0X,r9.go];exact hj1 _ (hent _ (.inr (g01 h2)))
   ·rw[show decide ((k:Int)<(O b:Int))=W by simp;omega];rw[g1s (by omega)]at hget;injection hget with hget;rw[hget];simp only[g26,g0X,r9.go];exact hj1 _ (hent _ (.inl (g01 h1)))
  ·have h2:k<(O b):=by omega
   rw[show decide ((k:Int)<(O a:Int))=W by simp;omega];simp only[g26,g0X,r9.go];unfold c1a;rw[B0 _ k h2,z8 h2];rw[g1s (by omega),g0Y h2]at hget;injection hget with hget;rw[hget];simp only[g25,g0X];by_cases h3:b[k].b5>0
   ·rw[show decide (b[k].b5>0)=Y by simpa using h3];simp only[g25,g0X,r9.go];exact hj1 _ (hent _ (.inr (g01 h2)))
   ·have hv:=hz _ (g01 h2) (by omega);rw[show decide (b[k].b5>0)=W by simpa using h3];simp only[g26,g0X,r9.go];rw[hv];exact hj1 v0 a2J) (by
  show a7R a b (G2 a b) ((G2 a b).length:Int)=_
  unfold a7R;rw[show decide (((G2 a b).length:Int)<(O a:Int))=W by simp;omega,show decide (((G2 a b).length:Int)<(O b:Int))=W by simp;omega];rfl)]
 rfl
def e5v{b who:Int}(hb:0<=b/\b<=3000)(hw:0<=who/\who<=2):b8Q b who=U (M5 b who):=by
 have e:∀i:Int,1<=i->i<=3->a41 b who (b+i)=U (bif decide (b+i<=3000)then bif g1w (b+i) 3==who then .ret (b+i)else .nxt (b+(i+1))else .brk ()):=by
  intro i h1 h3;unfold a41;rw[F6 (by omega) (by omega),show decide (b+i<=b+3)=Y by simp;omega,g25,F6 (by omega) (by omega),Int.add_assoc];cases decide (b+i<=3000)
  ·rfl
  ·cases g1w (b+i) 3==who<;>rfl
 have e4:a41 b who (b+4)=U (.brk ()):=by
  unfold a41;rw[F6 (by omega) (by omega),show decide (b+4<=b+3)=W by simp];rfl
 have e1:=e 1 (by omega) (by omega);have e2:=e 2 (by omega) (by omega);have e3:=e 3 (by omega) (by omega);unfold b8Q M5;rw[show decide (b<0)=W by simp;omega,show decide (b>3000)=W by simp;omega,show decide (who<0)=W by simp;omega,show decide (who>=3)=W by simp;omega,F6 (by omega) (by omega)];simp only[g26];have hb4:u5 (λs:Int=>a41 b who s) (b+4)=U (.brk ()):=F3 e4;have h3:u5 (λs:Int=>a41 b who s) (b+3)=U (bif decide (b+3<=3000)&&(g1w (b+3) 3==who)then .ret (b+3)else .brk ()):=by
  cases q:decide (b+3<=3000)
  ·rw[q]at e3;exact F3 e3
  ·rw[q]at e3;cases t:g1w (b+3) 3==who
   ·rw[t]at e3;rw[G7 e3];exact hb4
   ·rw[t]at e3;exact a0o e3
 have h2:u5 (λs:Int=>a41 b who s) (b+2)=U (bif decide (b+2<=3000)&&(g1w (b+2) 3==who)then .ret (b+2)else bif decide (b+3<=3000)&&(g1w (b+3) 3==who)then .ret (b+3)else .brk ()):=by
  cases q:decide (b+2<=3000)
  ·rw[q]at e2;rw[show decide (b+3<=3000)=W by simp at q⊢;omega];exact F3 e2
  ·rw[q]at e2;cases t:g1w (b+2) 3==who
   ·rw[t]at e2;rw[G7 e2];exact h3
   ·rw[t]at e2;exact a0o e2
 have h1:u5 (λs:Int=>a41 b who s) (b+1)=U (bif decide (b+1<=3000)&&(g1w (b+1) 3==who)then .ret (b+1)else bif decide (b+2<=3000)&&(g1w (b+2) 3==who)then .ret (b+2)else bif decide (b+3<=3000)&&(g1w (b+3) 3==who)then .ret (b+3)else .brk ()):=by
  cases q:decide (b+1<=3000)
  ·rw[q]at e1;rw[show decide (b+2<=3000)=W by simp at q⊢;omega,show decide (b+3<=3000)=W by simp at q⊢;omega];exact F3 e1
  ·rw[q]at e1;cases t:g1w (b+1) 3==who
   ·rw[t]at e1;rw[G7 e1];exact h2
   ·rw[t]at e1;exact a0o e1
 rw[h1];cases decide (b+1<=3000)&&(g1w (b+1) 3==who)<;>cases decide (b+2<=3000)&&(g1w (b+2) 3==who)<;>cases decide (b+3<=3000)&&(g1w (b+3) 3==who)<;>rfl
def C3{n:Int}(h:-1000000000<=n/\n<=1000000000):N5 n:=⟨by omega,by omega⟩
def a1J{C:Type}{b:Nat}{ok:C->Prop}{l:List C}(hl:(O l)*b<=1000000000)(h:∀x∈l,ok x):C4 b ok l:=⟨by omega,h⟩
def f4x{C:Type}{b:Nat}{ok:C->Prop}{l l':List C}(h:C4 b ok l)(hl:(O l')<=(O l))(hs:∀x∈l',x∈l):C4 b ok l':=
 ⟨g1C (g1x _ hl) h.1,λx hx=>h.2 x (hs x hx)⟩
def c7K{l:List p9}{q:u0}:N3 l q=(l.findIdx? (I9 q)).isSome:=by
 unfold N3;cases h:l.findIdx? (I9 q)with
 |none=>
  rw[g2C]at h;rw[Option.isSome_none,g1K];intro x hx;rw[h x hx];simp
 |some k=>
  rw[g1T]at h;obtain⟨hk,h1,_⟩:=h;rw[Option.isSome_some];exact g2e.2 ⟨l[k],g01 hk,h1⟩
def e5k{n:m4}(h:C4 88 I5 n.a9)(hok:K1 n.a9=Y):b8B n=U (K7 n):=by
 obtain⟨hl,he⟩:=a2f hok;have hf:z4 n.a9:=h.fits (by decide);unfold b8B K7;rw[b70 hf,g0X,c7K];cases n.j6
 ·rfl
 simp only[g04,g26,g25];cases hfi:n.a9.findIdx? (I9 n.d9.b6)with
 |none=>rfl
 |some kk=>
 simp only[Option.isSome_some,g04,g26,d1J,g0X];have:=c1M (body:=λs:(List t7)×Int×Int×List x6=>b2c n s.1 s.2.1 s.2.2.1 s.2.2.2) (λk=>((w9 (n.a9.take k)).1.j4,(k:Int),(w9 (n.a9.take k)).1.At,(w9 (n.a9.take k)).1.l7)) n.a9 (I9 n.d9.b6) (λk=>(a8N n,[⟨n.Id,n.d9.b6,W0 n.a9 k,bif W0 n.a9 k==0 then(match n.a9[k]? with|some e=>e.g8.i8|none=>0)else 0⟩])) () (by
   intro k hk;obtain⟨h1,h2,h3⟩:=Z6 hl he k (by omega);unfold b2c c3P I9 W0;rw[B0 _ k hk,z8 hk,d7X hl he hk,a3r hk,<-J0 hf hk,g0Y hk];simp only[g25,g0X];rw[show(⟨(w9 (n.a9.take k)).1.At,(w9 (n.a9.take k)).1.j4,(w9 (n.a9.take k)).1.l7⟩:A4)=(w9 (n.a9.take k)).1 from rfl,d8v h1 (by omega) (g05.1 he _ (g01 hk)) (h.2 _ (g01 hk)).f,g0X];cases n.a9[k].j9<;>cases(([n.a9[k].b6.i0,n.a9[k].b6.Seq]:List Int)==[n.d9.b6.i0,n.d9.b6.Seq])<;>first|rfl|skip
   simp only[g26,g04,g1y,g1h,g25,g13];cases((apply (w9 (n.a9.take k)).1 n.a9[k]).2==0)<;>rfl) (by
   unfold b2c;rw[C1];rfl)
 rw[g1P,hfi]at this;rw[show u5 (λs:(List t7)×Int×Int×List x6=>b2c n s.1 s.2.1 s.2.2.1 s.2.2.2) (a0D.j4,0,a0D.At,a0D.l7)=_ from this];simp only[g0X,r9.go,a0a,hfi];all_goals rfl
def e3x{l:List s7}(hf:z4 l)(k:Nat):b7K l (k:Int)=U ((l.drop k).any λv=>decide (v.b5>0)):=by
 have key:∀(m k:Nat),(O l)-k=m->u5 (λs:Int=>b0A l s) (k:Int)=U (bif(l.drop k).any (λv=>decide (v.b5>0))then .ret Y else .brk ()):=by
  intro m;induction m with
  |zero=>
   intro k hk;rw[g1r (by omega)];refine F3 ?_;unfold b0A;rw[show decide ((k:Int)<(O l:Int))=W by simp;omega];rfl
  |succ m ih=>
   intro k hk;have hlt:k<(O l):=by omega
   rw[g1q hlt,g2X];cases hd:decide (l[k].b5>0)
   ·rw[G7 (body:=λs:Int=>b0A l s) (t:=((k+1:Nat):Int)) (by
     unfold b0A;rw[B0 _ k hlt,z8 hlt,g25,g0X,hd,J0 hf hlt];rfl),ih (k+1) (by omega),g1I]
   ·refine a0o ?_;unfold b0A;rw[B0 _ k hlt,z8 hlt,g25,g0X,hd];rfl
 unfold b7K;rw[key _ k rfl];cases(l.drop k).any λv=>decide (v.b5>0)<;>rfl
def d5o(n:m4)(hk:z4 n.a9):∀(q:List p9),C4 88 I5 q->u5 (λs:List p9=>b2F n s) q=U (match V6 n.a9 q with
  | (q',U e)=>.ret ({n with i5:=q'},e,Y)
  | (q',Z)=>.brk q')
 | [],h=>F3 rfl
 |e::q,h=>by
  have hb:=h.1;rw[g1G,g15]at hb;have h':C4 88 I5 q:=⟨by omega,λx hx=>h.2 x (g16 _ hx)⟩
  have ht:(([]:List p9)++((e::q).drop (0+(1:Int).toNat)).take ((e::q).length-(1:Int).toNat))=q:=by
   simp
  have hs:b2F n (e::q)=U (bif N3 n.a9 e.b6 then .nxt q else .ret ({n with i5:=q},e,Y)):=by
   unfold b2F;rw[show decide (((e::q).length:Int)>0)=Y by simp,g25,show idx (e::q) 0=U e from rfl,g0X,A6 (by simp;omega),A6 (by simp;omega),ht,b70 (n:={n with i5:=q}) hk,g0X];cases N3 n.a9 e.b6<;>rfl
  unfold V6;cases hd:N3 n.a9 e.b6
  ·rw[hd]at hs;exact a0o hs
  ·rw[hd]at hs;rw[G7 (body:=λs:List p9=>b2F n s) hs];exact d5o n hk q h'
def c1l(x:m4×Option p9):m4×p9×Bool:=match x with
 | (n,U e)=>(n,e,Y)
 | (n,Z)=>(n,zE,W)
def f9o{n:m4}(h:V8 n):c2f n=U (c1l (a0q n)):=by
 obtain⟨h1,h2,h3,h4,h5,h6,h7,h8,h9,h10,h11,h12,h13⟩:=h;have hk:z4 n.a9:=h3.fits (by decide);have j1:c2D n=U (c1l ({n with i5:=(V6 n.a9 n.i5).1},(V6 n.a9 n.i5).2)):=by
  unfold c2D;rw[d5o n hk _ h13];obtain⟨q,o⟩:=V6 n.a9 n.i5;cases o<;>rfl
 have j2:c0N n=U (c1l (a4B n)):=by
  unfold c0N a4B;rw[e3x (h8.fits (by decide)),g0X,b70 hk,a2n h12];generalize (({n with i5:=(V6 n.a9 n.i5).1},(V6 n.a9 n.i5).2):m4×Option p9)=X at j1⊢;cases(n.j5.drop (O n.a9)).any λv=>decide (v.b5>0)
  ·simp only[g26];cases n.j6
   ·exact j1
   ·cases N3 n.a9 n.d9.b6
    ·rfl
    ·exact j1
  ·rfl
 unfold c2f a0q;by_cases hl:(O n.a9)<(O n.j5)
 ·rw[B0 _ _ hl,z8 hl,g0Y hl];simp only[g25,g0X];cases decide (n.j5[n.a9.length].b5>0)
  ·exact j2
  ·simp only[g25,a2n (h8.2 _ (g01 hl)).2,g0X,r9.go];rfl
 ·rw[show decide ((O n.a9:Int)<(O n.j5:Int))=W by simp;omega,g1s (by omega)];exact j2
def d8L(known:List p9):∀(q:List p9),(V6 known q).1.length<=(O q)/\(∀x∈(V6 known q).1,x∈q)/\∀e,(V6 known q).2=U e->e∈q/\N3 known e.b6=W/\(V6 known q).1.length<(O q)
 | []=>⟨g07 _,λx hx=>hx,λe he=>by cases he⟩
 |e::q=>by
  unfold V6;cases hk:N3 known e.b6
  ·refine⟨by simp,λx hx=>by simpa using .inr hx,λe' he => ?_⟩;injection he with he;subst he;exact⟨by simp,hk,by simp⟩
  ·obtain⟨a,b,c⟩:=d8L known q;refine⟨by simp only[g25,g1G];omega,λx hx=>g16 _ (b x hx),λe' he => ?_⟩;obtain⟨x,y,z⟩:=c e' he;exact⟨g16 _ x,y,by simp only[g25,g1G];omega⟩
inductive a3F (n:m4):p9->Prop
 |best (v) (h:n.j5[n.a9.length]?=U v) (hb:v.b5>0):a3F n v.i9
 |gap (v) (h:v∈n.j5.drop (O n.a9)) (hb:v.b5>0) (hn:∀v,n.j5[n.a9.length]?=U v->¬v.b5>0):a3F n eN
 |want (h:n.j6=Y) (hk:N3 n.a9 n.d9.b6=W) (hn:∀v∈n.j5.drop (O n.a9),¬v.b5>0):a3F n n.d9
 |queue (e) (h:e∈n.i5) (hk:N3 n.a9 e.b6=W) (hn:∀v∈n.j5.drop (O n.a9),¬v.b5>0):a3F n e
def a78(n:m4):∃q:List p9,(a0q n).1={n with i5:=q}/\(O q)<=(O n.i5)/\(∀x∈q,x∈n.i5)/\∀e,(a0q n).2=U e->a3F n e:=by
 have rest:(∀v,n.j5[n.a9.length]?=U v->¬v.b5>0)->∃q:List p9,(a4B n).1={n with i5:=q}/\(O q)<=(O n.i5)/\(∀x∈q,x∈n.i5)/\∀e,(a4B n).2=U e->a3F n e:=by
  intro hn;unfold a4B;cases ha:(n.j5.drop (O n.a9)).any λv=>decide (v.b5>0)
  ·have hnv:∀v∈n.j5.drop (O n.a9),¬v.b5>0:=λv hv=>by simpa using g1K.1 ha v hv
   cases hb:n.j6 && !N3 n.a9 n.d9.b6
   ·obtain⟨a,b,c⟩:=d8L n.a9 n.i5;exact⟨_,rfl,a,b,λe he=>.queue e (c e he).1 (c e he).2.1 hnv⟩
   ·simp only[g02,g1D]at hb;refine⟨n.i5,rfl,g07 _,λ_ h=>h,λe he => ?_⟩;injection he with he;subst he;exact .want hb.1 hb.2 hnv
  ·obtain⟨v,hv,hb⟩:=g2e.1 ha;refine⟨n.i5,rfl,g07 _,λ_ h=>h,λe he => ?_⟩;injection he with he;subst he;exact .gap v hv (by simpa using hb) hn
 unfold a0q;cases hg:n.j5[n.a9.length]? with
 |none=>exact rest (by rw[hg];simp)
 |some v=>
  simp only;cases hb:decide (v.b5>0)
  ·exact rest (by rw[hg];intro w hw;injection hw with hw;subst hw;simpa using hb)
  ·refine⟨n.i5,rfl,g07 _,λ_ h=>h,λe he => ?_⟩;injection he with he;subst he;exact .best v hg (by simpa using hb)
def a3F.ok{n:m4}(h:V8 n){e:p9}(hn:a3F n e):I5 e:=by
 cases hn with
 |best v hv hb=>exact(h.2.2.2.2.2.2.2.1.2 v (g1e hv)).2
 |gap=>exact e0m
 |want=>exact h.2.2.2.2.2.2.2.2.2.2.2.1
 |queue e hq=>exact h.2.2.2.2.2.2.2.2.2.2.2.2.2 e hq
def a9w{k b s:Int}{e:p9}{vs:List s7}(hk:N5 k)(hb:N5 b)(hs:N5 s)(he:I5 e)(hv:C4 96 Z5 vs):a1L ⟨k,0,0,b,s,e,vs⟩:=⟨hk,a1N,a1N,hb,hs,he,hv⟩
def c7P{id:Int}(h:0<=id/\id<=2):∃y,idx (g00 (3:Int).toNat W) id=U y:=by
 obtain rfl|rfl|rfl:id=0\/id=1\/id=2:=by omega
 all_goals exact⟨W,rfl⟩
def b4D{n:m4}(h:V8 n)(hid:0<=n.Id/\n.Id<=2):a7p n=U (F8 n):=by
 unfold a7p F8;rw[show decide ((O n.a9:Int)>=40)=decide (40<=(O n.a9)) by simp;omega];cases n.d6 != 2
 ·simp only[g26,g1I];cases hlt:decide (40<=(O n.a9))
  ·simp only[g26,f9o h,g0X];obtain⟨q,hq,hql,hqm,hqe⟩:=a78 n;cases hx:a0q n with
   |mk x o=>
   rw[hx]at hq hqe;have hq:x={n with i5:=q}:=hq;cases o with
   |none=>rfl
   |some e=>
    have he:=(hqe e rfl).ok h;have hlen:(O n.a9)<40:=by simpa using hlt
    subst hq;simp only[c1l,g04,g26,d6r he,d7n he,a4k];cases N7 n.Acc n.b5 (O n.a9:Int) e with
    |none=>rfl
    |some a=>
     obtain⟨y,hy⟩:=c7P hid;simp only[a6J,g0X,g04,g26,a2n he,hy];rw[A6 (by omega),a8b hid (a9w (C3 (by omega)) h.2.2.2.2.2.1 (C3 (by omega)) he a0b)];rfl
  ·rfl
 ·rfl
def f1S{n:m4}(h:V8 n):V8 (a8N n):=by
 obtain⟨h1,h2,h3,h4,h5,h6,h7,h8,h9,h10,h11,h12,h13⟩:=h;exact⟨h1,h2,h3,h4,h5,h6,h7,h8,h9,h10,a0b,a2J,h13⟩
def e9F{n:m4}(h:V8 n){e:p9}(he:I5 e)(hl:(O n.a9)<=40):V8 (C6 n e):=by
 obtain⟨h1,h2,h3,h4,h5,h6,h7,h8,h9,h10,h11,h12,h13⟩:=h;have hk:C4 88 I5 (n.a9++[e]):=a1J (by simp;omega) (by
  intro x hx;rcases g0Z.1 hx with q|q
  ·exact h3.2 x q
  ·rw[g03.1 q];exact he)
 unfold C6;cases n.d6==3
 ·exact⟨h1,h2,hk,h4,h5,h6,h7,h8,h9,h10,h11,h12,h13⟩
 ·exact⟨h1,h2,hk,h4,C3 (n:=2) (by omega),h6,h7,h8,a2J,a0b,h11,h12,h13⟩
def b02(n:m4):(K7 n=(n,[]))\/∃k,n.j6=Y/\n.a9.findIdx? (I9 n.d9.b6)=U k/\K7 n=(a8N n,[⟨n.Id,n.d9.b6,W0 n.a9 k,bif W0 n.a9 k==0 then a0a n.a9 n.d9.b6 else 0⟩]):=by
 unfold K7;cases n.j6
 ·exact .inl rfl
 ·cases h:n.a9.findIdx? (I9 n.d9.b6)with
  |none=>exact .inl rfl
  |some k=>exact .inr ⟨k,rfl,rfl,rfl⟩
def e3T{n:m4}(h:V8 n):V8 (K7 n).1:=by
 rcases b02 n with q|⟨k,_,_,q⟩<;>rw[q]
 ·exact h
 ·exact f1S h
def d8j(n:m4):(K7 n).1.Id=n.Id:=by
 rcases b02 n with q|⟨k,_,_,q⟩<;>rw[q];rfl
def c2G(n:m4)(e:p9):(C6 n e).Id=n.Id:=by
 unfold C6;cases n.d6==3<;>rfl
def b9B(n:m4)(e:p9):(C6 n e).a9=n.a9++[e]:=by
 unfold C6;cases n.d6==3<;>rfl
def d5p{n:m4}(h:V8 n)(hid:0<=n.Id/\n.Id<=2)(hk:K1 n.a9=Y)(hl:(O n.a9)<40){e:p9}(he:I5 e)(hok:B7 e=Y):b4s n e=U (V5 n e):=by
 have hkn:=e9F h he (by omega);have hko:K1 (C6 n e).a9=Y:=by
  rw[b9B];obtain⟨a,b⟩:=a2f hk;unfold K1;simp only[g08,g1Q,List.all_append,List.all_cons,List.all_nil,b,hok,g2g,Bool.and_self,decide_eq_true_eq];omega
 have hj:∀(p:Int) (c:p9) (vs:List Bool),(⟨n.Id,n.Acc,n.a9++[e],n.Seq,p,n.b5,n.d7,n.j5,c,vs,n.j6,n.j8,n.d9,n.i5⟩:m4)=C6 n e->c1b n e vs c.b6.i0 c.b6.Seq c.g8.d8 c.g8.f0 c.g8.i8 c.g8.Code p c.j9=U (V5 n e):=by
  intro p c vs hq;unfold c1b;rw[show(m4.mk n.Id n.Acc (n.a9++[e]) n.Seq p n.b5 n.d7 n.j5 (p9.mk c.j9 (u0.mk c.b6.i0 c.b6.Seq) (s9.mk c.g8.d8 c.g8.f0 c.g8.i8 c.g8.Code)) vs n.j6 n.j8 n.d9 n.i5)=C6 n e from hq,e5k hkn.2.2.1 hko,g0X,b4D (e3T hkn) (by rw[d8j,c2G];exact hid),g0X];rfl
 unfold b4s;rw[a2n he,g0X,A6 (by omega)];cases hp:n.d6==3
 ·exact hj n.d6 n.g9 n.b8 (by unfold C6;rw[hp];rfl)
 ·exact hj 2 zE [] (by unfold C6;rw[hp];rfl)
def e0B{r:s9}(h:a0k r=Y):(O r.d8)<=4:=by
 have h0:a5m r.d8=Y:=by
  rw[b2Q]at h;simp only[g02]at h;exact h.2.2.2.2.1
 obtain⟨h1,h2⟩:=d53.1 h0;let ps:List u9:=r.d8.map λx=>⟨x.j7,0⟩
 have hp:∀p∈ps,a1F p:=by
  intro p hp;obtain⟨x,hx,rfl⟩:=g1m.1 hp;exact⟨(h1 x hx).1,(h1 x hx).2.1,by simp,by simp⟩
 have hpw:ps.Pairwise λp q=>p.j7≠q.j7:=List.pairwise_map.2 h2
 have hl:=c3u hp;have a:=a7P hpw 0;have b:=a7P hpw 1;have c:=a7P hpw 2;have d:=a7P hpw 3;have:(O ps)=(O r.d8):=g1J ..;omega
def f3g{r:s9}(h:a5v r ⟨[],[],0,0⟩=Y):r=⟨[],[],0,0⟩:=(c7F _ _).1 h
def e4Q{e:p9}(h:B7 e=Y)(hn:e.j9=Y):e=eN:=by
 unfold B7 at h;rw[hn]at h;simp only[g25,g02,beq_iff_eq,List.cons.injEq,and_true]at h;obtain⟨⟨h1,h2⟩,h3⟩:=h;have h4:=f3g h3;clear h3;obtain⟨n,⟨a,b⟩,r⟩:=e;simp only at hn h1 h2 h4;subst hn h1 h2 h4;rfl
def f3B{r:s9}(h:a0k r=Y):b7w r:=by
 obtain⟨h1,h2,_,h4,h5⟩:=a4r h;have r4:=e0B h;have p4:=e8X h;exact⟨a1J (by omega) λx hx=>by have:=h4 x hx;exact⟨C3 (by omega),C3 (by omega)⟩,
  a1J (by omega) λx hx=>by have:=h5 x hx;exact⟨C3 (by omega),C3 (by omega)⟩,C3 (by omega),C3 (by omega)⟩
def a4G{e:p9}(h:B7 e=Y):I5 e:=by
 cases hn:e.j9 with
 |true=>rw[e4Q h hn];exact e0m
 |false=>
  obtain⟨h1,h2,h3,_⟩:=a42 h hn;exact⟨⟨C3 (by omega),C3 (by omega)⟩,f3B h3⟩
def d8N{l:List p9}(hl:(O l)<=1000)(h:∀e∈l,B7 e=Y):C4 88 I5 l:=a1J (by omega) λe he=>a4G (h e he)
def VI(v:s7):Prop:=v=v0\/(1<=v.b5/\v.b5<=3000/\B7 v.i9=Y)
def f9d{v:s7}:a1t v=Y↔VI v:=by
 unfold a1t VI;by_cases hb:v.b5=0
 ·simp only[hb,beq_self_eq_true,g25,a2I];constructor
  ·intro h;left;obtain⟨b,e⟩:=v;simp only at hb h;subst hb h;rfl
  ·rintro(h|h)
   ·rw[h];rfl
   ·omega
 ·have:(v.b5==0)=W:=by simpa using hb
  simp only[this,g26,g02,I1];constructor
  ·intro h;exact .inr ⟨h.1.1,h.1.2,h.2⟩
  ·rintro(h|h)
   ·rw[h]at hb;exact absurd rfl hb
   ·exact⟨⟨h.1,h.2.1⟩,h.2.2⟩
def VI.ok{v:s7}(h:VI v):Z5 v:=by
 rcases h with rfl|⟨h1,h2,h3⟩
 ·exact d8y
 ·exact⟨C3 (by omega),a4G h3⟩
def VI.bal{v:s7}(h:VI v):0<=v.b5/\v.b5<=3000:=by
 rcases h with rfl|⟨h1,h2,h3⟩
 ·exact⟨by decide,by decide⟩
 ·exact⟨by omega,h2⟩
def VI.zero{v:s7}(h:VI v)(hb:v.b5<=0):v=v0:=by
 rcases h with rfl|⟨h1,_⟩
 ·rfl
 ·omega
def VI.pos{v:s7}(h:VI v)(hb:v.b5>0):B7 v.i9=Y:=by
 rcases h with rfl|⟨_,_,h⟩
 ·exact absurd hb (by decide)
 ·exact h
def a44{l:List s7}(hl:(O l)<=1000)(h:∀v∈l,VI v):C4 96 Z5 l:=a1J (by omega) λv hv=>(h v hv).ok
def a9o{l:List s7}:R8 l=Y↔(O l)<=40/\∀v∈l,VI v:=by
 unfold R8;simp only[g02,decide_eq_true_eq,g05,f9d]
structure f6W(id bal pr:Int)(best:List s7):Prop where
 b1:1<=bal
 b2:bal<=3000
 mod:g1w bal 3=id
 pr:bal<=pr
 bl:(O best)<=40
 bs:∀v∈best,VI v
abbrev Own(n:m4):Prop:=f6W n.Id n.b5 n.Acc.i7 n.j5
def a2a(n:m4):Prop:=
 (n.d6=0/\n.b5=0/\n.d7=[]/\n.j5=[]/\n.g9=zE/\n.b8=[])\/
 (n.d6=1/\Own n/\(O n.d7)=3/\n.d7[n.Id.toNat]?=U Y/\n.g9=zE/\n.b8=[])\/
 (n.d6=2/\Own n/\n.d7=[]/\n.g9=zE/\n.b8=[])\/
 (n.d6=3/\Own n/\n.d7=[]/\B7 n.g9=Y/\(O n.b8)=3/\n.b8[n.Id.toNat]?=U Y/\(O n.a9)<40)
def c7w(n:m4):Prop:=
 (n.j6=Y/\H8 n.j8=Y/\B7 n.d9=Y/\n.d9.j9=W/\n.d9.b6=⟨n.Id,n.Seq⟩)\/(n.j6=W/\n.j8=[]/\n.d9=zE)
structure NI(n:m4):Prop where
 id:0<=n.Id/\n.Id<=2
 pr:0<=n.Acc.i7/\n.Acc.i7<=3000
 vl:(O n.Acc.b8)<=40
 vs:∀v∈n.Acc.b8,VI v/\v.b5<=n.Acc.i7
 kl:(O n.a9)<=40
 ks:∀e∈n.a9,B7 e=Y
 sq:0<=n.Seq/\n.Seq<=1000
 ql:(O n.i5)<=4
 qs:∀e∈n.i5,B7 e=Y/\e.j9=W
 ld:a2a n
 wt:c7w n
def b52{C:Type}{l:List C}:((O l:Int)==0)=Y↔l=[]:=by
 rw[beq_iff_eq];constructor
 ·intro h;exact g1c (by omega)
 ·rintro rfl;rfl
def e3n{C:Type}{l:List C}:((O l:Int)=0)↔l=[]:=by rw[<-b52,beq_iff_eq]
def d4r{l:List Bool}{id:Int}(h:0<=id/\id<=2):a6i l id=Y↔(O l)=3/\l[id.toNat]?=U Y:=by
 unfold a6i c2y;have e:idx l id=l[id.toNat]?:=by unfold idx;rw[if_pos h.1]
 rw[e,g02,beq_iff_eq];constructor
 ·rintro⟨h1,h2⟩
  refine⟨by omega,?_⟩;cases hq:l[id.toNat]? with
  |none=>rw[hq]at h2;cases h2
  |some b=>rw[hq]at h2;simp at h2;rw[h2]
 ·rintro⟨h1,h2⟩
  exact⟨by omega,by rw[h2];rfl⟩
def c5I{n:m4}:a5r n=Y↔n.g9=zE/\n.b8=[]:=by
 unfold a5r;rw[g02,a2I,b52]
def d8w{n:m4}(hid:0<=n.Id/\n.Id<=2):a1P n=Y↔a2a n:=by
 have hown:(a1l n.b5==n.Id)=Y/\n.b5<=n.Acc.i7/\R8 n.j5=Y↔Own n:=by
  rw[a9o];constructor
  ·rintro⟨h1,h2,h3⟩
   have hb:=I1.1 (c55 (I1.2 hid) h1);unfold a1l at h1;rw[I1.2 hb]at h1;exact⟨hb.1,hb.2,by simpa using h1,h2,h3.1,h3.2⟩
  ·intro h;refine⟨?_,h.pr,h.bl,h.bs⟩;unfold a1l;rw[I1.2 ⟨h.b1,h.b2⟩];simpa using h.mod
 unfold a1P a2a;by_cases p0:n.d6=0
 ·simp only[p0,beq_self_eq_true,g25,g02,c5I,beq_iff_eq,e3n];constructor
  ·rintro⟨a,b,c,d,e⟩;exact .inl ⟨trivial,a,b,c,d,e⟩
  ·rintro(h|h|h|h)
   ·exact⟨h.2.1,h.2.2.1,h.2.2.2.1,h.2.2.2.2.1,h.2.2.2.2.2⟩
   all_goals exact absurd h.1 (by omega)
 ·have q0:(n.d6==0)=W:=by simpa using p0
  simp only[q0,g26,g02,decide_eq_true_eq];rw[<-and_assoc,<-and_assoc,and_assoc (a:=(a1l n.b5==n.Id)=Y),hown];by_cases p1:n.d6=1
  ·simp only[p1,beq_self_eq_true,g25,g02,d4r hid,c5I];constructor
   ·rintro⟨a,⟨b,c⟩,d,e⟩;exact .inr (.inl ⟨trivial,a,b,c,d,e⟩)
   ·rintro(h|h|h|h)
    ·exact absurd h.1 (by omega)
    ·exact⟨h.2.1,⟨h.2.2.1,h.2.2.2.1⟩,h.2.2.2.2.1,h.2.2.2.2.2⟩
    all_goals exact absurd h.1 (by omega)
  ·have q1:(n.d6==1)=W:=by simpa using p1
   by_cases p2:n.d6=2
   ·have q2:(n.d6==2)=Y:=by simpa using p2
    simp only[q1,q2,g25,g26,g02,b52,c5I];constructor
    ·rintro⟨a,b,c,d⟩;exact .inr (.inr (.inl ⟨p2,a,b,c,d⟩))
    ·rintro(h|h|h|h)
     ·exact absurd h.1 (by omega)
     ·exact absurd h.1 (by omega)
     ·exact⟨h.2.1,h.2.2.1,h.2.2.2.1,h.2.2.2.2⟩
     ·exact absurd h.1 (by omega)
   ·have q2:(n.d6==2)=W:=by simpa using p2
    by_cases p3:n.d6=3
    ·have q3:(n.d6==3)=Y:=by simpa using p3
     simp only[q1,q2,q3,g25,g26,g02,b52,d4r hid,decide_eq_true_eq];constructor
     ·rintro⟨a,b,c,⟨d,e⟩,f⟩;exact .inr (.inr (.inr ⟨p3,a,b,c,d,e,by omega⟩))
     ·rintro(h|h|h|h)
      ·exact absurd h.1 (by omega)
      ·exact absurd h.1 (by omega)
      ·exact absurd h.1 (by omega)
      ·exact⟨h.2.1,h.2.2.1,h.2.2.2.1,⟨h.2.2.2.2.1,h.2.2.2.2.2.1⟩,by omega⟩
    ·have q3:(n.d6==3)=W:=by simpa using p3
     simp only[q1,q2,q3,g26,g2d,and_false,false_iff];rintro(h|h|h|h)<;>omega
def b1n{a b:u0}:(([a.i0,a.Seq]:List Int)==[b.i0,b.Seq])=Y↔a=b:=by
 obtain⟨a1,a2⟩:=a;obtain⟨b1,b2⟩:=b;simp
def c9L{n:m4}:a5B n=Y↔c7w n:=by
 unfold a5B c7w;cases n.j6
 ·simp only[g26,g02,b52,a2I,g2d,false_and,false_or,true_and]
 ·simp only[g25,g02,g1D,Bool.true_eq_false,false_and,or_false,true_and];rw[show(([n.d9.b6.i0,n.d9.b6.Seq]:List Int)==[n.Id,n.Seq])=Y↔n.d9.b6=⟨n.Id,n.Seq⟩from b1n (b:=⟨n.Id,n.Seq⟩)]
def a2y{n:m4}:H4 n=Y↔NI n:=by
 unfold H4 V0 K1 b96;simp only[g02,I1,a9o,g05,decide_eq_true_eq,g1D,decide_eq_false_iff_not];constructor
 ·rintro⟨h1,⟨h2,h3,h4⟩,⟨h5,h6⟩,h7,h8,h9,h10,h11⟩
  exact⟨h1,h2,h3.1,λv hv=>⟨h3.2 v hv,by have:=h4 v hv;omega⟩,h5,h6,h7,by omega,h11,(d8w h1).1 h9,c9L.1 h10⟩
 ·intro h;exact⟨h.id,⟨h.pr,⟨h.vl,λv hv=>(h.vs v hv).1⟩,λv hv=>by have:=(h.vs v hv).2;omega⟩,⟨h.kl,h.ks⟩,h.sq,by have:=h.ql;omega,(d8w h.id).2 h.ld,c9L.2 h.wt,h.qs⟩
def e2D{i:t8}(h:U9 i=Y):b6s i:=by
 unfold U9 at h;by_cases k1:i.b7=1
 ·simp[k1,v5]at h;exact⟨C3 (by omega),C3 (by omega),C3 (by omega),C3 (by omega)⟩
 by_cases k2:i.b7=2
 ·simp[k2,v5]at h;exact⟨C3 (by omega),C3 (by omega),C3 (by omega),C3 (by omega)⟩
 by_cases k3:i.b7=3
 ·simp[k3,v5]at h;exact⟨C3 (by omega),C3 (by omega),C3 (by omega),C3 (by omega)⟩
 by_cases k4:i.b7=4
 ·simp[k4,v5]at h;exact⟨C3 (by omega),C3 (by omega),C3 (by omega),C3 (by omega)⟩
 by_cases k5:i.b7=5
 ·simp[k5,v5]at h;exact⟨C3 (by omega),C3 (by omega),C3 (by omega),C3 (by omega)⟩
 by_cases k6:i.b7=6
 ·simp[k6,v5]at h;exact⟨C3 (by omega),C3 (by omega),C3 (by omega),C3 (by omega)⟩
 by_cases k7:i.b7=7
 ·simp[k7]at h;exact⟨C3 (by omega),C3 (by omega),C3 (by omega),C3 (by omega)⟩
 ·simp[k1,k2,k3,k4,k5,k6,k7]at h
def d9u{l:List t8}(h:H8 l=Y):C4 32 b6s l:=by
 obtain⟨h1,h2⟩:=c6l h;exact a1J (by omega) λi hi=>e2D (h2 i hi)
def a2a.phase{n:m4}(h:a2a n):0<=n.d6/\n.d6<=3:=by
 rcases h with h|h|h|h<;>omega
def a2a.bal{n:m4}(h:a2a n):0<=n.b5/\n.b5<=3000:=by
 rcases h with h|h|h|h
 ·omega
 all_goals exact⟨by have:=h.2.1.b1;omega,h.2.1.b2⟩
def a2a.best{n:m4}(h:a2a n):(O n.j5)<=40/\∀v∈n.j5,VI v:=by
 rcases h with h|h|h|h
 ·rw[h.2.2.2.1];exact⟨by simp,by simp⟩
 all_goals exact⟨h.2.1.bl,h.2.1.bs⟩
def a2a.from3{n:m4}(h:a2a n):(O n.d7)<=3/\(O n.b8)<=3/\I5 n.g9:=by
 rcases h with h|h|h|h
 ·rw[h.2.2.1,h.2.2.2.2.2,h.2.2.2.2.1];exact⟨by simp,by simp,a2J⟩
 ·rw[h.2.2.2.2.2,h.2.2.2.2.1];exact⟨by omega,by simp,a2J⟩
 ·rw[h.2.2.1,h.2.2.2.1,h.2.2.2.2];exact⟨by simp,by simp,a2J⟩
 ·rw[h.2.2.1];exact⟨by simp,by omega,a4G h.2.2.2.1⟩
def NI.ok{n:m4}(h:NI n):V8 n:=by
 have hf:=h.ld.from3;have hb:=h.ld.best;have hw:I5 n.d9/\C4 32 b6s n.j8:=by
  rcases h.wt with q|q
  ·exact⟨a4G q.2.2.1,d9u q.2.1⟩
  ·rw[q.2.1,q.2.2];exact⟨a2J,a0b⟩
 have hph:=h.ld.phase;have hbl:=h.ld.bal;have h1:=h.id;have h2:=h.pr;have h3:=h.sq;have h4:=h.vl;have h5:=h.kl;have h6:=h.ql;exact⟨C3 (by omega),⟨C3 (by omega),a44 (by omega) λv hv=>(h.vs v hv).1⟩,d8N (by omega) h.ks,C3 (by omega),C3 (by omega),C3 (by omega),
  a1J (by omega) (λ_ _=>trivial),a44 (by omega) hb.2,hf.2.2,a1J (by omega) (λ_ _=>trivial),hw.2,hw.1,d8N (by omega) λe he=>(h.qs e he).1⟩
def NI.list{n:m4}(h:NI n):K1 n.a9=Y:=by
 unfold K1;simp only[g02,decide_eq_true_eq,g05];exact⟨h.kl,h.ks⟩
def a0m(m:m9):Prop:=
 ((m.b7=1\/m.b7=4)/\(1<=m.b5/\m.b5<=3000)/\m.i9=zE/\m.b8=[])\/
 (m.b7=2/\(1<=m.b5/\m.b5<=3000)/\m.i9=zE/\((O m.b8)<=40/\∀v∈m.b8,VI v)/\m.i6+(O m.b8)<=40)\/
 (m.b7=3/\(1<=m.b5/\m.b5<=3000)/\m.i6<40/\B7 m.i9=Y/\m.b8=[])\/
 (m.b7=5/\m.b5=0/\m.i6<40/\B7 m.i9=Y/\m.b8=[])\/
 (m.b7=6/\(1<=m.b5/\m.b5<=3000)/\m.i6=0/\m.i9=zE/\m.b8=[])\/
 (m.b7=7/\m.b5=0/\m.i6=0/\B7 m.i9=Y/\m.i9.j9=W/\m.b8=[])\/
 (m.b7=8/\m.b5=0/\m.i9=zE/\m.b8=[])
structure MI(m:m9):Prop where
 fr:0<=m.d7/\m.d7<=2
 to:0<=m.To/\m.To<=2
 ne:m.d7≠m.To
 sl:0<=m.i6/\m.i6<=40
 kd:a0m m
def c9x{m:m9}:W4 m=Y↔MI m:=by
 have hk:(0<=m.i6/\m.i6<=40)->(a7j m=Y↔a0m m):=by
  intro hs;have hw:R8 m.b8=Y->s6 (m.i6+(O m.b8:Int))=m.i6+(O m.b8:Int):=by
   intro hv;have:=(a9o.1 hv).1;exact F6 (by omega) (by omega)
  unfold a7j a0m;simp only[Bool.cond_eq_ite];by_cases k1:m.b7=1
  ·simp[k1,I1,a2I]
  by_cases k4:m.b7=4
  ·simp[k4,I1,a2I]
  by_cases k2:m.b7=2
  ·simp only[k2,I1,a2I,beq_self_eq_true,if_true,g02,decide_eq_true_eq];simp only[show((2:Int)==1)=W from rfl,show((2:Int)==4)=W from rfl,g2d,if_false,g02,I1,a2I,decide_eq_true_eq];constructor
   ·rintro⟨a,b,c,d⟩
    rw[hw c]at d;exact .inr (.inl ⟨trivial,a,b,a9o.1 c,d⟩)
   ·rintro(h|h|h|h|h|h|h)
    ·omega
    ·have c:=a9o.2 h.2.2.2.1;exact⟨h.2.1,h.2.2.1,c,by rw[hw c];exact h.2.2.2.2⟩
    all_goals exact absurd h.1 (by omega)
  by_cases k3:m.b7=3
  ·simp[k3,I1]
  by_cases k5:m.b7=5
  ·simp[k5]
  by_cases k6:m.b7=6
  ·simp[k6,I1,a2I]
  by_cases k7:m.b7=7
  ·simp[k7]
  by_cases k8:m.b7=8
  ·simp[k8,a2I]
  ·simp[k1,k2,k3,k4,k5,k6,k7,k8]
 unfold W4;simp only[g02,I1,g1D,beq_eq_false_iff_ne];constructor
 ·rintro⟨a,b,c,d,e⟩;exact⟨a,b,c,d,(hk d).1 e⟩
 ·intro h;exact⟨h.fr,h.to,h.ne,h.sl,(hk h.sl).2 h.kd⟩
def MI.ok{m:m9}(h:MI m):a1L m:=by
 have hf:=h.fr;have ht:=h.to;have hs:=h.sl;have hk:N5 m.b7/\N5 m.b5/\I5 m.i9/\C4 96 Z5 m.b8:=by
  rcases h.kd with q|q|q|q|q|q|q
  ·rw[q.2.2.1,q.2.2.2];exact⟨C3 (by omega),C3 (by omega),a2J,a0b⟩
  ·rw[q.2.2.1];exact⟨C3 (by omega),C3 (by omega),a2J,a44 (by omega) q.2.2.2.1.2⟩
  ·rw[q.2.2.2.2];exact⟨C3 (by omega),C3 (by omega),a4G q.2.2.2.1,a0b⟩
  ·rw[q.2.2.2.2];exact⟨C3 (by omega),C3 (by omega),a4G q.2.2.2.1,a0b⟩
  ·rw[q.2.2.2.2,q.2.2.2.1];exact⟨C3 (by omega),C3 (by omega),a2J,a0b⟩
  ·rw[q.2.2.2.2.2];exact⟨C3 (by omega),C3 (by omega),a4G q.2.2.2.1,a0b⟩
  ·rw[q.2.2.1,q.2.2.2];exact⟨C3 (by omega),C3 (by omega),a2J,a0b⟩
 exact⟨hk.1,C3 (by omega),C3 (by omega),hk.2.1,C3 (by omega),hk.2.2.1,hk.2.2.2⟩
structure WI(w:m6):Prop where
 nl:(O w.b9)=3
 ns:∀(i:Nat) (n:m4),w.b9[i]?=U n->n.Id=(i:Int)/\NI n
 ml:(O w.c9)<=40
 ms:∀m∈w.c9,MI m
 al:(O w.i4)<=60
 aq:∀a∈w.i4,a06 a=Y
 tl:(O w.Told)<=60
 ts:∀t∈w.Told,Z8 t=Y
def a0t{w:m6}:C8 w=Y↔WI w:=by
 unfold C8;simp only[g02,beq_iff_eq,decide_eq_true_eq,g05,g1X,c9x];constructor
 ·rintro⟨h1,h2,h3,h4,h5,h6,h7,h8⟩
  refine⟨by omega,?_,by omega,h6,by omega,h7,by omega,h8⟩;intro i n hn;have hi:=(g06.1 hn).1;have:=h5 i hi;unfold a5q at this;rw[hn]at this;simp only[g02,beq_iff_eq,a2y]at this;exact this
 ·intro h;have h2:=h.ml;have h3:=h.al;have h4:=h.tl;refine⟨by have:=h.nl;omega,by omega,by omega,by omega,?_,h.ms,h.aq,h.ts⟩;intro i hi;unfold a5q;rw[g0Y hi];simp only[g02,beq_iff_eq,a2y];exact h.ns i _ (g0Y hi)
def f9J{a:B2}(h:a06 a=Y):d6Q a:=by
 unfold a06 at h;simp only[g02,I1]at h;exact⟨⟨C3 (by omega),C3 (by omega)⟩,d9u h.2⟩
def g0u{t:s8}(h:Z8 t=Y):d7c t:=by
 unfold Z8 at h;simp only[g02,I1]at h;exact⟨C3 (by omega),⟨C3 (by omega),C3 (by omega)⟩,C3 (by omega),C3 (by omega)⟩
def WI.ok{w:m6}(h:WI w):X6 w:=by
 have h1:=h.nl;have h2:=h.ml;have h3:=h.al;have h4:=h.tl;refine⟨a1J (by omega) ?_,a1J (by omega) λm hm=>(h.ms m hm).ok,a1J (by omega) λa ha=>f9J (h.aq a ha),a1J (by omega) λt ht=>g0u (h.ts t ht)⟩;intro n hn;obtain⟨i,hi⟩:=g2A hn;exact(h.ns i n hi).2.ok
def b8L(m o:m9):a6O m o=U [H7 m o]:=rfl
def d6B(n:m4)(b:Int):b5n n b=U (L3 n b):=by
 unfold b5n L3;cases n.d6 != 0
 ·rfl
 ·simp only[g25,g1h];cases decide (b>n.b5)<;>rfl
def f8P(n:m4)(b:Int):b3I n b=U (L3 n b):=by
 unfold b3I L3;cases n.d6 != 0
 ·rfl
 ·simp only[g25,g1h];cases decide (b>n.b5)<;>rfl
def d4s(n:m4)(b:Int):(L3 n b).Acc=n.Acc:=by
 unfold L3;cases n.d6 != 0&&decide (b>n.b5)<;>rfl
def a2K{a x:B4}{b:Int}(h:J6 a b=U x):x=⟨b,a.b8⟩/\1<=b/\b<=3000/\a.i7<=b:=by
 unfold J6 a95 at h;cases hq:v5 b 1 3000&&decide (a.i7<=b)
 ·rw[hq]at h;cases h
 ·rw[hq]at h;simp only[g02,I1,decide_eq_true_eq]at hq;injection h with h;exact⟨h.symm,hq.1.1,hq.1.2,hq.2⟩
def c6C{C:Type}(l:List C)(k:Nat):(l.drop k).take ((O l)-k)=l.drop k:=by
 rw[g1A];simp
def e4u{n:m4}(h:V8 n){m:m9}(hs:0<=m.i6):b8w n m=U (a0N n m):=by
 unfold b8w a0N;rw[c3a,b9H];cases hp:J6 n.Acc m.b5 with
 |none=>rfl
 |some a=>
  obtain⟨rfl,_⟩:=a2K hp;simp only[a6J,g0X,g04,g26,f8P];have ha:=d4s {n with Acc:=⟨m.b5,n.Acc.b8⟩} m.b5;have hy:∀y:m4,y.Acc=⟨m.b5,n.Acc.b8⟩->(m4.mk y.Id (B4.mk y.Acc.i7 n.Acc.b8) y.a9 y.Seq y.d6 y.b5 y.d7 y.j5 y.g9 y.b8 y.j6 y.j8 y.d9 y.i5)=y:=by
   intro y hy;obtain⟨y1,y2,y3,y4,y5,y6,y7,y8,y9,y10,y11,y12,y13,y14⟩:=y;simp only at hy;subst hy;rfl
  rw[hy _ ha];obtain⟨k,hk⟩:∃k:Nat,m.i6=(k:Int):=⟨m.i6.toNat,by omega⟩
  rw[hk,g1p,c6C];cases hd:decide ((k:Int)<(O n.Acc.b8:Int))
  ·simp only[g26,b8L,g0X];rw[g1r (by simp at hd;omega)]
  ·simp only[g25];rw[A6 (by simp at hd;omega),f7c (f4x h.2.1.2 (by simp) λx hx=>g10 hx),g0X,b8L,g0X]
def e6P{n:m4}{m:m9}(hm:a1L m):b7U n m=U (a0H n m):=by
 have he:I5 m.i9:=hm.2.2.2.2.2.1;unfold b7U a0H;rw[d6r he,d7n he];cases N7 n.Acc m.b5 m.i6 m.i9 with
 |none=>rfl
 |some a=>simp only[a6J,g0X,g04,g26,d6B,b8L]
def c1s{l:List Bool}(h:(O l)<=3):z4 l:=by unfold z4;omega
end
end Go.Proofs.YtffneplcebhckaaGreat
