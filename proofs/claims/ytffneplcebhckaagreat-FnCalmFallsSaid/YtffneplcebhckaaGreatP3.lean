/- What the law leans on, part 3. -/
import Derived.Test.YtffneplcebhckaaGreatP2
set_option linter.unusedVariables false
set_option linter.unusedSimpArgs false
set_option linter.unnecessarySimpa false
set_option linter.defProp false
namespace Go.Proofs.YtffneplcebhckaaGreat
open Go
open List renaming replicate->g00,length_append->g08
open Int renaming tmod->g1w
open Option renaming some->U,none->Z
open Bool renaming false->W,true->Y
open List renaming length->O
noncomputable section
def a6r:FS (Int):=⟨205,Tryz.f205,[.val [] []],[Z,Z],[.val [U 2] [],.val [] []],λr=>vi r,λ_=>[Z,Z],Tryz.func205⟩
def d7q:Unit->KS:=λ_=>⟨a6r.k 3 [W],bs 20 [],[U []]⟩
def d9e:Option Int:=
 U (-1)
def f5f(r):NF a6r r d7q (λs=>d9e):=λ_ h=>PK<|rg<|fE h
def e3b(list:E u9)(box:Int):Int->KS:=λi=>⟨a6r.k 2 [],n7 2 A8 list::(vi box::bs 3 (vi i::bs 14 [])),[U []]⟩
def a8x(list:E u9)(box:Int)(i:Int):Option (n6 Int Int Unit):=
 (bif decide (i<(O list:Int))then(idx list i).bind λput=>bif(put.j7==box)then U (n6.ret i)else U (n6.nxt (s6 (i+1)))else U (n6.brk ()))
def e36(list box):LQ a6r d7q (e3b list box) (λs=>a8x list box s):=λlc i h=>PK<|rg<|l9 3 h (λh=>rg<|A3 A8 2 h λput hput h=>l9 6 h (λh=>rg<|fL lc h) (λh=>rg<|(lc.nx h λhI=>sk [] [0,1,5] [] hI))) (λh=>lc.bk h λhI=>sk [] [] [] hI)
def a76(list:E u9)(box:Int):Option Int:=
 ((u5 (λs:Int=>a8x list box s) 0).bind λx=>x.go (λr=>U r) λs=>d9e)
def c7R{list box}:OK a6r [n7 2 A8 list,vi box] (a76 list box):=
 t9 _ λr h=>t5<|lp (e36 list box) h (λ_ h=>a6r.rt h) (f5f r) λhI=>sk [] [0,1,5] [] hI
def a1S:FS (Bool):=⟨173,Tryz.f173,[.val [] []],[Z],[.val U4 []],λr=>.b r,λ_=>[Z],Tryz.func173⟩
def f4B(r_:s9):Unit->KS:=λ_=>⟨a1S.k 2 [W],bs 1 (.ptr 1 0 0::bs 129 []),[U [],U [.var 48 (a1R r_)]]⟩
def d9y(r_:s9):Unit->KS:=λ_=>⟨a1S.k 4 [W,W],bs 1 (.ptr 1 0 0::bs 129 []),[U [],U [.var 48 (a1R r_)]]⟩
def d5O:Unit->KS:=λ_=>⟨a1S.k 6 [W,W,W],bs 131 [],[U []]⟩
def d1t:Option Bool:=
 U Y
def e35(r):NF a1S r d5O (λs=>d1t):=λ_ h=>PK<|rg<|fE h
def e8m(r_:s9):Int->KS:=λi1=>⟨a1S.k 5 [W,W],bs 1 (.ptr 1 0 0::bs 2 (vi i1::bs 126 [])),[U [],U [.var 48 (a1R r_)]]⟩
def b5d(r_:s9)(i1:Int):Option (n6 Bool Int Unit):=
 (bif decide (i1<(O r_.f0:Int))then(idx r_.f0 i1).bind λput=>(b0j put.j7).bind λb4B=>bif(!b4B)then U (n6.ret W)else(a7W put.i8).bind λa2L=>bif(!a2L)then U (n6.ret W)else z5 ((0:Int)<=i1/\i1<=(O r_.f0:Int)) (((a76 ((r_.f0.drop 0).take (i1.toNat-0)) put.j7).bind λa3v=>bif decide (a3v>=0)then U (n6.ret W)else U (n6.nxt (s6 (i1+1)))))else U (n6.brk ()))
def e2F(r_):LQ a1S d5O (e8m r_) (λs=>b5d r_ s):=λlc i1 h=>PK<|rg<|l9 4 h (λh=>rg<|A3 A8 3 h λput hput h=>n9 b5Z b9G 6 h λb4B h=>l9 8 h (λh=>rg<|fL lc h) (λh=>P7 A8 12 hput<|n9 a9m b25 15 h λa2L h=>l9 18 h (λh=>rg<|fL lc h) (λh=>z9 h λe1 h=>om (V.sl 2 (i1.toNat-0) (((r_.f0.map A8).drop 0).take (i1.toNat-0))=n7 2 A8 ((r_.f0.drop 0).take (i1.toNat-0))) (b87 e1)<|ob e1.1<|ob e1.2<|tl (22,{v:=U (n7 2 A8 ((r_.f0.drop 0).take (i1.toNat-0)))})<|P7 A8 26 hput<|n9 a6r c7R 29 h λa3v h=>l9 31 h (λh=>rg<|fL lc h) (λh=>rg<|(lc.nx h λhI=>sk [] [1,4] jv hI))))) (λh=>lc.bk h λhI=>sk [] [] [] hI)
def c7k(r_:s9):Option Bool:=
 ((u5 (λs:Int=>b5d r_ s) 0).bind λx=>x.go (λr=>U r) λs=>d1t)
def e7F(r_)(r):NF a1S r (d9y r_) (λs=>c7k r_):=λ_ h=>PK<|rg<|lp (e2F r_) h (λ_ h=>a1S.rt h) (e35 r) λhI=>sk [] [1,4] jv hI
def f1W(r_:s9):Int->KS:=λi=>⟨a1S.k 3 [W],bs 1 (.ptr 1 0 0::bs 1 (vi i::bs 127 [])),[U [],U [.var 48 (a1R r_)]]⟩
def b3J(r_:s9)(i:Int):Option (n6 Bool Int Unit):=
 (bif decide (i<(O r_.d8:Int))then(idx r_.d8 i).bind λread=>(b0j read.j7).bind λb6G=>bif(!b6G)then U (n6.ret W)else bif decide (read.l8<0)then U (n6.ret W)else bif decide (read.l8>1000000)then U (n6.ret W)else z5 ((0:Int)<=i/\i<=(O r_.d8:Int)) (((b3u ((r_.d8.drop 0).take (i.toNat-0)) read.j7).bind λb3Y=>bif b3Y then U (n6.ret W)else U (n6.nxt (s6 (i+1)))))else U (n6.brk ()))
def e3Q(r_):LQ a1S (d9y r_) (f1W r_) (λs=>b3J r_ s):=λlc i h=>PK<|rg<|l9 4 h (λh=>rg<|A3 A7 3 h λread a46 h=>n9 b5Z b9G 6 h λb6G h=>l9 8 h (λh=>rg<|fL lc h) (λh=>P7 A7 12 a46<|l9 17 h (λh=>rg<|fL lc h) (λh=>P7 A7 21 a46<|l9 26 h (λh=>rg<|fL lc h) (λh=>z9 h λe2 h=>om (V.sl 2 (i.toNat-0) (((r_.d8.map A7).drop 0).take (i.toNat-0))=n7 2 A7 ((r_.d8.drop 0).take (i.toNat-0))) (b87 e2)<|ob e2.1<|ob e2.2<|tl (30,{v:=U (n7 2 A7 ((r_.d8.drop 0).take (i.toNat-0)))})<|P7 A7 34 a46<|n9 a7L c9h 37 h λb3Y h=>l9 38 h (λh=>rg<|fL lc h) (λh=>rg<|(lc.nx h λhI=>sk [] [1,3] jv hI)))))) (λh=>lc.bk h λhI=>sk [] [1] jv hI)
def b86(r_:s9):Option Bool:=
 ((u5 (λs:Int=>b3J r_ s) 0).bind λx=>x.go (λr=>U r) λs=>c7k r_)
def e1D(r_)(r):NF a1S r (f4B r_) (λs=>b86 r_):=λ_ h=>PK<|rg<|lp (e3Q r_) h (λ_ h=>a1S.rt h) (e7F r_ r) λhI=>sk [] [1,3] jv hI
def b3O(r_:s9):Option Bool:=
 (((bif decide (r_.Code<0)then U (r9.ret W)else bif decide (r_.Code>3)then U (r9.ret W)else(a7W r_.i8).bind λd0M=>bif(!d0M)then U (r9.ret W)else bif(r_.Code != 0)then bif(r_.i8 != 0)then U (r9.ret W)else bif decide ((O r_.f0:Int)>0)then U (r9.ret W)else bif(r_.Code==3)then bif decide ((O r_.d8:Int)>0)then U (r9.ret W)else U (r9.brk ())else U (r9.brk ())else bif(r_.Code==3)then bif decide ((O r_.d8:Int)>0)then U (r9.ret W)else U (r9.brk ())else U (r9.brk ())):Option (r9 Bool Unit)).bind λx=>x.go U λj=>b86 r_)
def d66{r_}:OK a1S [.agg (X0 r_)] (b3O r_):=
 t9 _ λr h=>rg<|D5 h (e1D r_ r) λx1 h hc1=>rg<|l9 3 h (λh=>rg<|(E3 h hc1 λh=>fE h)) (λh=>l9 8 h (λh=>rg<|(E3 h hc1 λh=>fE h)) (λh=>n9 a9m b25 11 h λd0M h=>l9 14 h (λh=>rg<|(E3 h hc1 λh=>fE h)) (λh=>l9 18 h (λh=>l9 22 h (λh=>rg<|(E3 h hc1 λh=>fE h)) (λh=>l9 30 h (λh=>rg<|(E3 h hc1 λh=>fE h)) (λh=>l9 34 h (λh=>l9 40 h (λh=>rg<|(E3 h hc1 λh=>fE h)) (λh=>u6 h hc1 λhI=>sk [] [1] jv hI)) (λh=>u6 h hc1 λhI=>sk [] [1] jv hI)))) (λh=>l9 34 h (λh=>l9 40 h (λh=>rg<|(E3 h hc1 λh=>fE h)) (λh=>u6 h hc1 λhI=>sk [] [1] jv hI)) (λh=>u6 h hc1 λhI=>sk [] [1] jv hI)))))
def a3M:FS (Bool):=⟨118,Tryz.f118,[.val [] []],[Z],[.val Q2 []],λr=>.b r,λ_=>[Z],Tryz.func118⟩
def a2C(e_:p9):Option Bool:=
 (bif e_.j9 then bif(([e_.b6.i0,e_.b6.Seq]:E Int)==[0,0])then(b2i e_.g8 (s9.mk [] [] 0 0)).bind λa4K=>U a4K else U W else(b1y e_.b6).bind λa7B=>bif a7B then(b3O e_.g8).bind λa2Q=>bif a2Q then U (e_.g8.Code != 3)else U W else U W)
def a39{e_}:OK a3M [.agg (x9 e_)] (a2C e_):=
 t9 _ λr h=>t5<|l9 1 h (λh=>rg<|l9 4 h (λh=>n9 a2u c7G 8 h λa4K h=>fE h) (λh=>fE h)) (λh=>rg<|n9 c01 c5G 2 h λa7B h=>l9 3 h (λh=>n9 a1S d66 6 h λa2Q h=>l9 8 h (λh=>fE h) (λh=>fE h)) (λh=>fE h))
def a9D:FS (B4×Bool):=⟨189,Tryz.f189,[.val [Z,U 8] [Z,U 9000000],.val [] []],[Z,Z,Z,Z],[.val [Z,U 8] [],.val [] [],.val [] [],.val Q2 []],λr=>.tup [.agg [vi r.1.i7,.bot],.b r.2],λ_=>[Z,Z,Z,Z],Tryz.func189⟩
def b5v(a:B4)(bal:Int)(slot:Int)(e_:p9):Option (B4×Bool):=
 (bif decide (slot<0)then U (a,W)else bif decide (slot>=40)then U (a,W)else(a2C e_).bind λI0=>bif(!I0)then U (a,W)else(b2q a bal).bind λno=>bif(!no.2)then U (a,W)else Z)
def d8n{a bal slot e_}:OK a9D [.agg (a1h a),vi bal,vi slot,.agg (x9 e_)] (b5v a bal slot e_):=
 t9 _ λr h=>t5<|l9 2 h (λh=>rg<|fE h) (λh=>l9 6 h (λh=>rg<|fE h) (λh=>n9 a3M a39 8 h λI0 h=>l9 10 h (λh=>rg<|fE h) (λh=>rg<|n9 a77 c4f 2 h λno h=>rg<|l9 1 h (λh=>rg<|fE h) (λh=>nomatch h))))
def b9M:FS (m4):=⟨132,Tryz.f132,[.val D1 K4],[Z],[.val D1 K4],λr=>.agg (K8 r),λ_=>[Z],Tryz.func132⟩
def b6r(n:m4):Option m4:=
 U (m4.mk n.Id n.Acc n.a9 n.Seq 0 0 [] [] (p9.mk W (u0.mk 0 0) (s9.mk [] [] 0 0)) [] n.j6 n.j8 n.d9 n.i5)
def c7D{n}:OK b9M [.agg (K8 n)] (b6r n):=
 t9 _ λr h=>rg4<|rg4<|ol3 n.Acc.b8 n.a9 n.i5<|fE h
def a1M:FS (E m9):=⟨134,Tryz.f134,[.val [U 13] [U 70]],[Z,Z],[.val [] [],.val E5 []],λr=>A5 70 13 x7 r,λ_=>[Z,Z],Tryz.func134⟩
def c2S:(E m9)->KS:=λout1=>⟨a1M.k 4 [W],bs 5 (.own 1 0 13 0 (O out1)::bs 21 []),[U [],U [s5 70 13 x7 out1]]⟩
def d35(out1:E m9):Option (E m9):=
 U out1
def f7J(r):NF a1M r c2S (λs=>d35 s):=λout1 h=>PK<|rg<|z0 out1<|fE h
def d2B(id:Int)(m:m9):((E m9)×Int)->KS:=λ(out,t_)=>⟨a1M.k 3 [],vi id::bs 2 (.ptr 1 0 0::bs 1 (.own 2 0 13 0 (O out)::(vi t_::bs 20 []))),[U [],U [.var 70 (a5Z m)],U [s5 70 13 x7 out]]⟩
def f03(id:Int)(m:m9)(t_:Int):(E m9)->KS:=λout2=>⟨a1M.k 9 [Y,Y],vi id::bs 2 (.ptr 1 0 0::bs 1 (.own 2 0 13 0 (O out2)::(vi t_::bs 20 []))),[U [],U [.var 70 (a5Z m)],U [s5 70 13 x7 out2]]⟩
def c67(t_:Int)(out2:E m9):Option (n6 (E m9) ((E m9)×Int) (E m9)):=
 U (n6.nxt (out2,s6 (t_+1)))
def e3D(id m t_)(lc:J2 a1M c2S (d2B id m)):NL lc (f03 id m t_) (λs=>c67 t_ s):=λout2 h=>PK<|rg<|(lc.nx h λhI=>sk [] [0,3,5,6] [(1,0),(2,0)] hI)
def a6p(id:Int)(m:m9)(out:E m9)(t_:Int):Option (n6 (E m9) ((E m9)×Int) (E m9)):=
 (bif decide (t_<3)then((bif(t_ != id)then(a9P m).bind λJ8=>z5 (((O out)+1)*152<=140737488355328) (U (r9.brk (out++[m9.mk J8.b7 id t_ J8.b5 J8.i6 J8.i9 J8.b8])))else U (r9.brk out)):Option (r9 (n6 (E m9) ((E m9)×Int) (E m9)) (E m9))).bind λx=>x.go U λj=>c67 t_ j else U (n6.brk out))
def e7m(id m):LQ a1M c2S (d2B id m) (λs=>a6p id m s.1 s.2):=λlc (out,t_) h=>PK<|rg<|l9 1 h (λh=>D5 h (e3D id m t_ lc) λx2 h hc2=>rg<|l9 2 h (λh=>rg<|n9 b5T c1G 1 h λJ8 h=>T1<|tk 2 E5<|z9 h λe1 h=>J4 3 21 70 13 152 x7 out (m9.mk J8.b7 id t_ J8.b5 J8.i6 J8.i9 J8.b8) e1<|I2 (m9.mk J8.b7 id t_ J8.b5 J8.i6 J8.i9 J8.b8)<|(u6 h hc2 λhI=>sk [] [0,3,5,6] [(1,0),(21,0)] hI)) (λh=>u6 h hc2 λhI=>sk [] [0,3,5,6] jy hI)) (λh=>lc.bk h λhI=>sk [] [5] Jv hI)
def a4a(id:Int)(m:m9):Option (E m9):=
 ((u5 (λs:(E m9)×Int=>a6p id m s.1 s.2) (([]:E m9),0)).bind λx=>x.go (λr=>U r) λs=>d35 s)
def a7d{id m}:OK a1M [vi id,.agg (x7 m)] (a4a id m):=
 t9 _ λr h=>t5<|tk 0 E5<|rg<|lp (e7m id m) h (λ_ h=>a1M.rt h) (f7J r) λhI=>om ((.own 3 0 13 0 0:V)=.own 3 0 13 0 ([]:E m9).length) (by simp)<|sk [.is (.tmp 5) (.own 3 0 13 0 ([]:E m9).length)] [0,3,5,6] [(1,0),(3,0)] hI
def a8G:FS (B4×Bool):=⟨189,Tryz.f189,[.val [Z,U 8] [Z,U 121],.val [] []],[Z,Z,Z,Z],[.val [Z,U 8] [Z,U 121],.val [] [],.val [] [],.val Q2 []],λr=>.tup [.agg [vi r.1.i7,A5 121 8 w6 r.1.b8],.b r.2],λ_=>[Z,Z,Z,Z],Tryz.func189⟩
def c9P(bal:Int)(slot:Int)(e_:p9)(l6Promise:B4×Bool):(E s7)->KS:=λa1q=>⟨a8G.k 5 [W,W,W],bs 1 (vi bal::(vi slot::bs 4 (.ptr 1 0 0::(.ptr 2 0 0::bs 1 (.ptr 3 0 0::bs 42 []))))),[U [.dead],U [.var 50 (a4D e_)],U Jy,U [.var 56 [vi l6Promise.1.i7,.own 4 0 8 0 (O a1q)]],U [s5 121 8 w6 a1q]]⟩
def c4J(bal:Int)(slot:Int)(e_:p9)(l6Promise:B4×Bool)(a1q:E s7):Option (B4×Bool):=
 ((a03 e_).bind λl5Entry=>(idx a1q slot).bind λvote=>U ((B4.mk l6Promise.1.i7 (a1q.set slot.toNat (s7.mk bal l5Entry))),Y))
def f7O(bal slot e_ l6Promise)(r):NF a8G r (c9P bal slot e_ l6Promise) (λs=>c4J bal slot e_ l6Promise s):=λa1q h=>PK<|rg<|n9 a1B a13 5 h λl5Entry h=>D6 h λvote N9 h=>E2 N9<|W3 121 8 w6 8 a0p (s7.mk bal l5Entry) N9<|rg<|om ((O a1q)=(a1q.set slot.toNat (s7.mk bal l5Entry)).length) (by simp)<|fE h
def e3s(bal:Int)(slot:Int)(e_:p9)(l6Promise:B4×Bool):(E s7)->KS:=λb8=>⟨a8G.k 4 [W,W],bs 1 (vi bal::(vi slot::bs 4 (.ptr 1 0 0::(.ptr 2 0 0::bs 1 (.ptr 3 0 0::bs 42 []))))),[U [.dead],U [.var 50 (a4D e_)],U Jy,U [.var 56 [vi l6Promise.1.i7,.own 4 0 8 0 (O b8)]],U [s5 121 8 w6 b8]]⟩
def a81(slot:Int)(b8:E s7):Option (n6 (B4×Bool) (E s7) (E s7)):=
 (bif decide ((O b8:Int)<=slot)then z5 (((O b8)+1)*96<=140737488355328) (U (n6.nxt (b8++[s7.mk 0 (p9.mk W (u0.mk 0 0) (s9.mk [] [] 0 0))])))else U (n6.brk b8))
def e2M(bal slot e_ l6Promise):LQ a8G (c9P bal slot e_ l6Promise) (e3s bal slot e_ l6Promise) (λs=>a81 slot s):=λlc b8 h=>PK<|rg<|l9 4 h (λh=>rg<|tk 3 a0p<|z9 h λe1 h=>J4 4 14 121 8 96 w6 b8 W_ e1<|I2 W_<|(lc.nx h λhI=>sk [] [1,2,7,8,10] Wz hI)) (λh=>lc.bk h λhI=>sk [] [1,2,7,8,10] WK hI)
def b6q(a:B4)(bal:Int)(slot:Int)(e_:p9):Option (B4×Bool):=
 (bif decide (slot<0)then U (a,W)else bif decide (slot>=40)then U (a,W)else(a2C e_).bind λI0=>bif(!I0)then U (a,W)else a6J (b2q a bal) (λno=>bif(!no.2)then U (a,W)else Z) (((a90 a bal).bind λl6Promise=>bif(!l6Promise.2)then Z else(u5 (λs:E s7=>a81 slot s) l6Promise.1.b8).bind λx=>x.go (λr=>U r) λs=>c4J bal slot e_ l6Promise s)))
def d29{a bal slot e_}:OK a8G [.agg [vi a.i7,A5 121 8 w6 a.b8],vi bal,vi slot,.agg (x9 e_)] (b6q a bal slot e_):=
 t9 _ λr h=>t5<|l9 2 h (λh=>rg<|z0 a.b8<|fE h) (λh=>l9 6 h (λh=>rg<|z0 a.b8<|fE h) (λh=>n9 a3M a39 8 h λI0 h=>l9 10 h (λh=>rg<|z0 a.b8<|fE h) (λh=>rg<|cbA a77.t c4f 2 Y h (λno h=>osc a77 no (by simp[a77,Q9,Y3,U6,V.simple,vi,A5,a1h,eB,x9,eI,A8,A7,N8,X0,w6]) (W1 2)<|z0 a.b8<|rg<|l9 1 h (λh=>rg<|z0 a.b8<|fE h) (λh=>nomatch h)) (λh=>n9 b3P b7a 2 h λl6Promise h=>z0 a.b8<|rg<|l9 1 h (λh=>nomatch h) (λh=>lp (e2M bal slot e_ l6Promise) h (λ_ h=>a8G.rt h) (f7O bal slot e_ l6Promise r) λhI=>sk [] [1,2,7,8,10] [(2,0),(3,0),(22,0),(18,0)] hI)))))
def b16:FS (m4×E m9):=⟨135,Tryz.f135,[.val D1 K4,.val [U 13] []],[Z],[.val D1 K4],λr=>.tup [.agg (K8 r.1),n7 13 x7 r.2],λ_=>[Z],Tryz.func135⟩
def a7p(n:m4):Option (m4×E m9):=
 (bif(n.d6 != 2)then U (n,([]:E m9))else bif decide ((O n.a9:Int)>=40)then U (n,([]:E m9))else(c2f n).bind λL9=>bif(!L9.2.2)then U (L9.1,([]:E m9))else a6J (b5v L9.1.Acc L9.1.b5 (O L9.1.a9:Int) L9.2.1) (λno=>bif(!no.2)then(b6r L9.1).bind λT2=>U (T2,([]:E m9))else Z) (((b6q L9.1.Acc L9.1.b5 (O L9.1.a9:Int) L9.2.1).bind λa6U=>bif(!a6U.2)then Z else(a03 L9.2.1).bind λl5Entry=>z5 (0<=(3:Int)/\(3:Int)*1<=140737488355328) (((idx (g00 (3:Int).toNat W) L9.1.Id).bind λy=>(a4a L9.1.Id (m9.mk 3 0 0 L9.1.b5 (O L9.1.a9:Int) L9.2.1 [])).bind λO9=>U ((m4.mk L9.1.Id a6U.1 L9.1.a9 L9.1.Seq 3 L9.1.b5 L9.1.d7 L9.1.j5 l5Entry ((g00 (3:Int).toNat W).set L9.1.Id.toNat Y) L9.1.j6 L9.1.j8 L9.1.d9 L9.1.i5),O9))))))
def b6Q{n}:OK b16 [.agg (K8 n)] (a7p n):=
 t9 _ λr h=>t5<|l9 3 h (λh=>rg<|tk 1 E5<|C5 n<|E7 m9<|fE h) (λh=>l9 8 h (λh=>rg<|tk 1 E5<|C5 n<|E7 m9<|fE h) (λh=>rg<|n9 a4Q f7v 1 h λL9 h=>C5 n<|rg<|l9 1 h (λh=>rg<|tk 1 E5<|C5 L9.1<|E7 m9<|fE h) (λh=>rg<|cbA a9D.t d8n 8 Y h (λno h=>osc a9D no (by simp[a9D,Q9,Y3,U6,V.simple,vi,A5,a1h,eB,x9,eI,A8,A7,N8,X0,w6]) (W1 4)<|z0 L9.1.Acc.b8<|rg<|l9 1 h (λh=>rg<|n9 b9M c7D 1 h λT2 h=>C5 L9.1<|tk 2 E5<|C5 T2<|E7 m9<|fE h) (λh=>nomatch h)) (λh=>n9 a8G d29 8 h λa6U h=>z0 L9.1.Acc.b8<|rg<|l9 1 h (λh=>nomatch h) (λh=>T1<|n9 a1B a13 1 h λl5Entry h=>rg<|z9 h λe1 h=>Z0 0 52 4 1 1 eB W ti4 (.none) e1 (by decide) (by rfl)<|rg<|D6 h λy hy h=>E2 hy<|W3 4 1 eB 5 [] Y hy<|rg<|n9 a1M a7d 10 h λO9 h=>ol3 a6U.1.b8 L9.1.a9 L9.1.d7<|om ((g00 (3:Int).toNat W).length=((g00 (3:Int).toNat W).set L9.1.Id.toNat Y).length) (by simp)<|G6 L9.1.i5 O9<|fE h)))))
def d0b:FS (m4×E m9):=⟨179,Tryz.f179,[.val D1 K4,.val [U 13] []],[Z,Z],[.val D1 K4,.val E5 []],λr=>.tup [.agg (K8 r.1),n7 13 x7 r.2],λ_=>[Z,Z],Tryz.func179⟩
def c0R(n:m4)(m:m9):Option (m4×E m9):=
 (bif(n.d6 != 1)then U (n,([]:E m9))else bif(m.b5 != n.b5)then U (n,([]:E m9))else(idx n.d7 m.d7).bind λy=>(b8N m.b8 m.i6).bind λc5m=>(b60 n.j5 c5m).bind λc7U=>(b6g (n.d7.set m.d7.toNat Y)).bind λb5S=>bif(!b5S)then U ((m4.mk n.Id n.Acc n.a9 n.Seq n.d6 n.b5 (n.d7.set m.d7.toNat Y) c7U n.g9 n.b8 n.j6 n.j8 n.d9 n.i5),([]:E m9))else(a7p (m4.mk n.Id n.Acc n.a9 n.Seq 2 n.b5 [] c7U n.g9 n.b8 n.j6 n.j8 n.d9 n.i5)).bind λT3=>U (T3.1,T3.2))
def f5k{n m}:OK d0b [.agg (K8 n),.agg (x7 m)] (c0R n m):=
 t9 _ λr h=>t5<|l9 3 h (λh=>rg<|tk 1 E5<|C5 n<|E7 m9<|fE h) (λh=>l9 9 h (λh=>rg<|tk 1 E5<|C5 n<|E7 m9<|fE h) (λh=>rg<|D6 h λy hy h=>E2 hy<|W3 4 1 eB 5 [] Y hy<|rg<|n9 d9g f5l 6 h λc5m h=>n9 a3a f7A 7 h λc7U h=>z0 c5m<|rg<|X9 a8v d6n 2 1 h λb5S h=>om ((O n.d7)=(n.d7.set m.d7.toNat Y).length) (by simp)<|l9 3 h (λh=>rg<|tk 1 E5<|G6 n.Acc.b8 n.a9<|om ((O n.d7)=(n.d7.set m.d7.toNat Y).length) (by simp)<|G6 n.b8 n.i5<|E7 m9<|fE h) (λh=>T1<|n9 b16 b6Q 1 h λT3 h=>L0 n.Acc.b8 n.a9 n.b8 n.i5<|C5 T3.1<|fE h)))
def b5t:FS (m4):=⟨183,Tryz.f183,[.val D1 K4],[Z,Z],[.val D1 K4,.val [] []],λr=>.agg (K8 r),λ_=>[Z,Z],Tryz.func183⟩
def f2y(n:m4):Unit->KS:=λ_=>⟨b5t.k 2 [W],bs 2 (.ptr 1 0 0::bs 1 (.ptr 2 0 0::bs 12 [])),[U (a9E n),U [.var 59 (a9B n)],U jk]⟩
def d0Z(n:m4):Option m4:=
 U n
def e31(n)(r):NF b5t r (f2y n) (λs=>d0Z n):=λ_ h=>PK<|rg<|C5 n<|fE h
def b5n(n:m4)(bal:Int):Option m4:=
 (((bif(n.d6 != 0)then bif decide (bal>n.b5)then(b6r n).bind λT2=>U (r9.ret T2)else U (r9.brk ())else U (r9.brk ())):Option (r9 m4 Unit)).bind λx=>x.go U λj=>d0Z n)
def d25{n bal}:OK b5t [.agg (K8 n),vi bal] (b5n n bal):=
 t9 _ λr h=>rg<|D5 h (e31 n r) λx1 h hc1=>rg<|l9 3 h (λh=>l9 8 h (λh=>rg<|n9 b9M c7D 1 h λT2 h=>C5 n<|(E3 h hc1 λh=>C5 T2<|fE h)) (λh=>u6 h hc1 λhI=>sk [] [2,4] jy hI)) (λh=>u6 h hc1 λhI=>sk [] [2,4] jy hI)
def d8D:FS (m4×E m9):=⟨180,Tryz.f180,[.val D1 K4,.val [U 13] []],[Z,Z],[.val D1 K4,.val E5 []],λr=>.tup [.agg (K8 r.1),n7 13 x7 r.2],λ_=>[Z,Z],Tryz.func180⟩
def b7U(n:m4)(m:m9):Option (m4×E m9):=
 (a6J (b5v n.Acc m.b5 m.i6 m.i9) (λno=>bif(!no.2)then(a6O m (m9.mk 6 0 0 n.Acc.i7 0 (p9.mk W (u0.mk 0 0) (s9.mk [] [] 0 0)) [])).bind λa3k=>U (n,a3k)else Z) (((b6q n.Acc m.b5 m.i6 m.i9).bind λa6U=>bif(!a6U.2)then Z else(b5n (m4.mk n.Id a6U.1 n.a9 n.Seq n.d6 n.b5 n.d7 n.j5 n.g9 n.b8 n.j6 n.j8 n.d9 n.i5) m.b5).bind λP6=>(a6O m (m9.mk 4 0 0 m.b5 m.i6 (p9.mk W (u0.mk 0 0) (s9.mk [] [] 0 0)) [])).bind λa6l=>U (P6,a6l))))
def g0e{n m}:OK d8D [.agg (K8 n),.agg (x7 m)] (b7U n m):=
 t9 _ λr h=>t5<|cbA a9D.t d8n 8 Y h (λno h=>osc a9D no (by simp[a9D,Q9,Y3,U6,V.simple,vi,A5,a1h,eB,x9,eI,A8,A7,N8,X0,w6]) (W1 4)<|z0 n.Acc.b8<|rg<|l9 1 h (λh=>rg<|n9 a5J b0y 6 h λa3k h=>C5 n<|fE h) (λh=>nomatch h)) (λh=>n9 a8G d29 8 h λa6U h=>z0 n.Acc.b8<|rg<|l9 1 h (λh=>nomatch h) (λh=>t5<|n9 b5t d25 3 h λP6 h=>z0 a6U.1.b8<|O6 n<|rg<|n9 a5J b0y 7 h λa6l h=>C5 P6<|fE h))
def c9v:FS (E t7):=⟨223,Tryz.f223,[.val [U 2] [U 165]],[],[],λr=>A5 165 2 B9 r,λ_=>[],Tryz.func223⟩
def c20:Option (E t7):=
 (z5 (0<=(4:Int)/\(4:Int)*16<=140737488355328) (U (g00 (4:Int).toNat (t7.mk 0 0))))
def e1L:OK c9v [] c20:=
 t9 _ λr h=>t5<|z9 h λe1 h=>Z0 0 2 165 2 16 B9 (t7.mk 0 0) b4r (.none) e1 (by decide) (by rfl)<|z0 (g00 (4:Int).toNat (t7.mk 0 0))<|fE h
def c6D:FS (A4):=⟨220,Tryz.f220,[.val [Z,U 2,U 4] [Z,U 165,Z]],[],[],λr=>.agg (b4J r),λ_=>[],Tryz.func220⟩
def b6O:Option A4:=
 ((c20).bind λa4X=>U (A4.mk 0 a4X []))
def d68:OK c6D [] b6O:=
 t9 _ λr h=>t5<|n9 c9v e1L 0 h λa4X h=>z0 a4X<|fE h
def a6Y:FS (x6×Bool):=⟨224,Tryz.f224,[.val [] [],.val [] []],[Z,Z],[.val [Z,U 2,U 4] [],.val [] []],λr=>.tup [.agg (E4 r.1),.b r.2],λ_=>[Z,Z],Tryz.func224⟩
def d2N:Unit->KS:=λ_=>⟨a6Y.k 3 [W],bs 4 (.ptr 1 0 0::bs 24 []),[U [],U Wv]⟩
def d7B:Option (x6×Bool):=
 U ((x6.mk (u0.mk 0 0) 0 0),W)
def e7j(r):NF a6Y r d2N (λs=>d7B):=λ_ h=>PK<|rg<|fE h
def f3I(s_:A4)(who:Int):Int->KS:=λi=>⟨a6Y.k 2 [],bs 1 (vi who::(.ptr 1 0 0::bs 1 (.ptr 2 0 0::bs 1 (vi i::bs 22 [])))),[U [],U [.var 135 [vi s_.At,n7 2 B9 s_.j4,n7 4 E4 s_.l7]],U Wv]⟩
def b68(s_:A4)(who:Int)(i:Int):Option (n6 (x6×Bool) Int Unit):=
 (bif decide (i<(O s_.l7:Int))then(idx s_.l7 i).bind λdone=>bif(done.b6.i0==who)then U (n6.ret (done,Y))else U (n6.nxt (s6 (i+1)))else U (n6.brk ()))
def f2O(s_ who):LQ a6Y d2N (f3I s_ who) (λs=>b68 s_ who s):=λlc i h=>PK<|rg<|l9 4 h (λh=>rg<|A3 E4 3 h λdone b61 h=>l9 8 h (λh=>rg<|P7 E4 3 b61<|fL lc h) (λh=>rg<|(lc.nx h λhI=>sk [] [1,2,4,6] jy hI))) (λh=>lc.bk h λhI=>sk [] [4] Jv hI)
def b8u(s_:A4)(who:Int):Option (x6×Bool):=
 ((u5 (λs:Int=>b68 s_ who s) 0).bind λx=>x.go (λr=>U r) λs=>d7B)
def e3g{s_ who}:OK a6Y [.agg (a9S s_),vi who] (b8u s_ who):=
 t9 _ λr h=>t5<|lp (f2O s_ who) h (λ_ h=>a6Y.rt h) (e7j r) λhI=>sk [] [1,2,4,6] jy hI
def a8j:FS (Bool):=⟨212,Tryz.f212,[.val [] []],[Z],[.val [U 2] []],λr=>.b r,λ_=>[Z],Tryz.func212⟩
def d59:Unit->KS:=λ_=>⟨a8j.k 4 [W,W],bs 36 [],[U []]⟩
def d6F:Option Bool:=
 U Y
def e65(r):NF a8j r d59 (λs=>d6F):=λ_ h=>PK<|rg<|fE h
def e2O(list:E t7):Int->KS:=λi=>⟨a8j.k 3 [W],n7 2 B9 list::bs 2 (vi i::bs 32 []),[U []]⟩
def b8d(list:E t7)(i:Int):Option (n6 Bool Int Unit):=
 (bif decide (i<(O list:Int))then(idx list i).bind λbox=>bif decide (box.l8<0)then U (n6.ret W)else bif decide (box.l8>1000000)then U (n6.ret W)else(a7W box.i8).bind λa2L=>bif(!a2L)then U (n6.ret W)else U (n6.nxt (s6 (i+1)))else U (n6.brk ()))
def f3A(list):LQ a8j d59 (e2O list) (λs=>b8d list s):=λlc i h=>PK<|rg<|l9 3 h (λh=>rg<|A3 B9 2 h λbox a3B h=>l9 6 h (λh=>rg<|fL lc h) (λh=>P7 B9 9 a3B<|l9 14 h (λh=>rg<|fL lc h) (λh=>P7 B9 17 a3B<|n9 a9m b25 20 h λa2L h=>l9 22 h (λh=>rg<|fL lc h) (λh=>rg<|(lc.nx h λhI=>sk [] [0,3] [] hI))))) (λh=>lc.bk h λhI=>sk [] [] [] hI)
def b3M(list:E t7):Option Bool:=
 (bif((O list:Int) != 4)then U W else(u5 (λs:Int=>b8d list s) 0).bind λx=>x.go (λr=>U r) λs=>d6F)
def d4H{list}:OK a8j [n7 2 B9 list] (b3M list):=
 t9 _ λr h=>t5<|l9 2 h (λh=>rg<|fE h) (λh=>rg<|lp (f3A list) h (λ_ h=>a8j.rt h) (e65 r) λhI=>sk [] [0,3] [] hI)
def a5k:FS (Bool):=⟨225,Tryz.f225,[.val [] []],[Z,Z],[.val [U 2] [],.val U4 []],λr=>.b r,λ_=>[Z,Z],Tryz.func225⟩
def c9E:Unit->KS:=λ_=>⟨a5k.k 4 [W,W],bs 38 [],[U []]⟩
def d8m:Option Bool:=
 U Y
def f8K(r):NF a5k r c9E (λs=>d8m):=λ_ h=>PK<|rg<|fE h
def e8Q(list:E t7)(r_:s9):Int->KS:=λi=>⟨a5k.k 3 [W],n7 2 B9 list::bs 2 (.ptr 1 0 0::bs 1 (vi i::bs 32 [])),[U [],U [.var 48 (a1R r_)]]⟩
def b9o(list:E t7)(r_:s9)(i:Int):Option (n6 Bool Int Unit):=
 (bif decide (i<(O r_.d8:Int))then(idx r_.d8 i).bind λread=>(idx list read.j7).bind λbox=>bif(box.l8 != read.l8)then U (n6.ret W)else U (n6.nxt (s6 (i+1)))else U (n6.brk ()))
def f9A(list r_):LQ a5k c9E (e8Q list r_) (λs=>b9o list r_ s):=λlc i h=>PK<|rg<|l9 4 h (λh=>rg<|A3 A7 4 h λread a46 h=>A3 B9 7 h λbox a3B h=>P7 A7 13 a46<|l9 16 h (λh=>rg<|fL lc h) (λh=>rg<|(lc.nx h λhI=>sk [] [0,3,5] jv hI))) (λh=>lc.bk h λhI=>sk [] [] [] hI)
def c0z(list:E t7)(r_:s9):Option Bool:=
 ((b3M list).bind λa0s=>bif(!a0s)then U W else(b3O r_).bind λa2Q=>bif(!a2Q)then U W else(u5 (λs:Int=>b9o list r_ s) 0).bind λx=>x.go (λr=>U r) λs=>d8m)
def e4b{list r_}:OK a5k [n7 2 B9 list,.agg (X0 r_)] (c0z list r_):=
 t9 _ λr h=>t5<|n9 a8j d4H 1 h λa0s h=>l9 3 h (λh=>rg<|fE h) (λh=>n9 a1S d66 5 h λa2Q h=>l9 7 h (λh=>rg<|fE h) (λh=>rg<|lp (f9A list r_) h (λ_ h=>a5k.rt h) (f8K r) λhI=>sk [] [0,3,5] jv hI))
def d2E:FS (Int):=⟨228,Tryz.f228,[.val [] []],[Z,Z],[.val [] [],.val [] []],λr=>vi r,λ_=>[Z,Z],Tryz.func228⟩
def c5N(a:Int)(b:Int):Option Int:=
 (bif decide (a<b)then U a else U b)
def f3L{a b}:OK d2E [vi a,vi b] (c5N a b):=
 t9 _ λr h=>t5<|l9 2 h (λh=>rg<|fE h) (λh=>rg<|fE h)
def a9F:FS (E t7):=⟨226,Tryz.f226,[.val [U 2] [U 165]],[Z,Z],[.val [U 2] [U 165],.val U4 []],λr=>A5 165 2 B9 r,λ_=>[Z,Z],Tryz.func226⟩
def d32:(E t7)->KS:=λb00=>⟨a9F.k 3 [W],.own 0 0 2 0 (O b00)::bs 37 [],[U [s5 165 2 B9 b00]]⟩
def c9g(b00:E t7):Option (E t7):=
 U b00
def e83(r):NF a9F r d32 (λs=>c9g s):=λb00 h=>PK<|rg<|z0 b00<|fE h
def e4F(r_:s9):((E t7)×Int)->KS:=λ(list1,i)=>⟨a9F.k 2 [],.own 0 0 2 0 (O list1)::bs 2 (.ptr 1 0 0::bs 1 (vi i::bs 32 [])),[U [s5 165 2 B9 list1],U [.var 48 (a1R r_)]]⟩
def b69(r_:s9)(list1:E t7)(i:Int):Option (n6 (E t7) ((E t7)×Int) (E t7)):=
 (bif decide (i<(O r_.f0:Int))then(idx r_.f0 i).bind λput=>(idx list1 put.j7).bind λbox=>(c5N 1000000 (s6 (box.l8+1))).bind λb5e=>U (n6.nxt (list1.set put.j7.toNat (t7.mk b5e put.i8),s6 (i+1)))else U (n6.brk list1))
def e1n(r_):LQ a9F d32 (e4F r_) (λs=>b69 r_ s.1 s.2):=λlc (list1,i) h=>PK<|rg<|l9 4 h (λh=>rg<|A3 A8 3 h λput hput h=>rg<|D6 h λbox a3B h=>E2 a3B<|M4 B9 6 a3B<|n9 d2E f3L 8 h λb5e h=>P7 A8 12 hput<|E2 a3B<|W3 165 2 B9 17 [] (t7.mk b5e put.i8) a3B<|rg<|(lc.nx h λhI=>om ((.own 0 0 2 0 (O list1):V)=.own 0 0 2 0 (list1.set put.j7.toNat (t7.mk b5e put.i8)).length) (by simp)<|sk [.is (.tmp 0) (.own 0 0 2 0 (list1.set put.j7.toNat (t7.mk b5e put.i8)).length)] [0,3,5] jv hI)) (λh=>lc.bk h λhI=>sk [] [0] [] hI)
def b8T(list:E t7)(r_:s9):Option (E t7):=
 ((u5 (λs:(E t7)×Int=>b69 r_ s.1 s.2) (list,0)).bind λx=>x.go (λr=>U r) λs=>c9g s)
def e2J{list r_}:OK a9F [A5 165 2 B9 list,.agg (X0 r_)] (b8T list r_):=
 t9 _ λr h=>t5<|lp (e1n r_) h (λ_ h=>a9F.rt h) (e83 r) λhI=>sk [] [0,3,5] jv hI
def a2Y:FS (E x6):=⟨227,Tryz.f227,[.val [U 4] []],[Z,Z],[.val [U 4] [],.val [] []],λr=>n7 4 E4 r,λ_=>[Z,Z],Tryz.func227⟩
def c1r(d:x6):((E x6)×Bool)->KS:=λ(out1,in_1)=>⟨a2Y.k 5 [W],bs 3 (.ptr 1 0 0::bs 1 (.own 2 0 4 0 (O out1)::(.b in_1::bs 50 []))),[U [],U [.var 198 [vi d.b6.i0,vi d.b6.Seq,vi d.Code,vi d.i8]],U [s5 198 4 E4 out1]]⟩
def f1F:(E x6)->KS:=λout2=>⟨a2Y.k 7 [W,Y],bs 5 (.own 1 0 4 0 (O out2)::bs 51 []),[U [],U [s5 198 4 E4 out2]]⟩
def c4o(out2:E x6):Option (E x6):=
 U out2
def f4Z(r):NF a2Y r f1F (λs=>c4o s):=λout2 h=>PK<|rg<|z0 out2<|fE h
def c3v(d:x6)(out1:E x6)(in_1:Bool):Option (E x6):=
 (((bif(!in_1)then z5 (((O out1)+1)*32<=140737488355328) (U (r9.brk (out1++[d])))else U (r9.brk out1)):Option (r9 (E x6) (E x6))).bind λx=>x.go U λj=>c4o j)
def g0F(d)(r):NF a2Y r (c1r d) (λs=>c3v d s.1 s.2):=λ(out1,in_1) h=>PK<|D5 h (f4Z r) λx1 h hc1=>rg<|l9 1 h (λh=>rg<|tk 2 []<|z9 h λe1 h=>J4 3 8 198 4 32 E4 out1 d e1<|I2 d<|(u6 h hc1 λhI=>sk [] [5] [(8,0)] hI)) (λh=>u6 h hc1 λhI=>sk [] [5] Jv hI)
def c5h(list:E x6)(d:x6):((E x6)×Bool×Int)->KS:=λ(out,in_,i)=>⟨a2Y.k 4 [],n7 4 E4 list::bs 2 (.ptr 1 0 0::bs 1 (.own 2 0 4 0 (O out)::(.b in_::(vi i::bs 49 [])))),[U [],U [.var 198 [vi d.b6.i0,vi d.b6.Seq,vi d.Code,vi d.i8]],U [s5 198 4 E4 out]]⟩
def e4A(list:E x6)(d:x6)(i:Int):((E x6)×Bool)->KS:=λ(out3,in_2)=>⟨a2Y.k 8 [Y,Y],n7 4 E4 list::bs 2 (.ptr 1 0 0::bs 1 (.own 2 0 4 0 (O out3)::(.b in_2::(vi i::bs 49 [])))),[U [],U [.var 198 [vi d.b6.i0,vi d.b6.Seq,vi d.Code,vi d.i8]],U [s5 198 4 E4 out3]]⟩
def e6K(list:E x6)(d:x6)(i:Int)(in_2:Bool):(E x6)->KS:=λout4=>⟨a2Y.k 10 [Y,Y,Y],n7 4 E4 list::bs 2 (.ptr 1 0 0::bs 1 (.own 2 0 4 0 (O out4)::(.b in_2::(vi i::bs 49 [])))),[U [],U [.var 198 [vi d.b6.i0,vi d.b6.Seq,vi d.Code,vi d.i8]],U [s5 198 4 E4 out4]]⟩
def c4k(i:Int)(in_2:Bool)(out4:E x6):Option (n6 (E x6) ((E x6)×Bool×Int) ((E x6)×Bool)):=
 U (n6.nxt (out4,in_2,s6 (i+1)))
def f4t(list d i in_2)(lc:J2 a2Y (c1r d) (c5h list d)):NL lc (e6K list d i in_2) (λs=>c4k i in_2 s):=λout4 h=>PK<|rg<|(lc.nx h λhI=>sk [] [0,3,5,6,7] [(1,0),(2,0)] hI)
def c5Z(list:E x6)(d:x6)(i:Int)(out3:E x6)(in_2:Bool):Option (n6 (E x6) ((E x6)×Bool×Int) ((E x6)×Bool)):=
 ((((idx list i).bind λdone=>bif(done.b6.i0 != d.b6.i0)then z5 (((O out3)+1)*32<=140737488355328) (U (r9.brk (out3++[done])))else U (r9.brk out3)):Option (r9 (n6 (E x6) ((E x6)×Bool×Int) ((E x6)×Bool)) (E x6))).bind λx=>x.go U λj=>c4k i in_2 j)
def f5t(list d i)(lc:J2 a2Y (c1r d) (c5h list d)):NL lc (e4A list d i) (λs=>c5Z list d i s.1 s.2):=λ(out3,in_2) h=>PK<|D5 h (f4t list d i in_2 lc) λx2 h hc2=>rg<|A3 E4 2 h λdone b61 h=>l9 9 h (λh=>rg<|P7 E4 3 b61<|tk 5 []<|z9 h λe2 h=>J4 6 19 198 4 32 E4 out3 done e2<|I2 done<|(u6 h hc2 λhI=>sk [] [0,3,5,6,7] [(1,0),(19,0)] hI)) (λh=>u6 h hc2 λhI=>sk [] [0,3,5,6,7] [(1,0),(2,0)] hI)
def b3p(list:E x6)(d:x6)(out:E x6)(in_:Bool)(i:Int):Option (n6 (E x6) ((E x6)×Bool×Int) ((E x6)×Bool)):=
 (bif decide (i<(O list:Int))then((bif(!in_)then(idx list i).bind λa53=>bif decide (a53.b6.i0>=d.b6.i0)then z5 (((O out)+1)*32<=140737488355328) (U (r9.brk (out++[d],Y)))else U (r9.brk (out,in_))else U (r9.brk (out,in_))):Option (r9 (n6 (E x6) ((E x6)×Bool×Int) ((E x6)×Bool)) ((E x6)×Bool))).bind λx=>x.go U λj=>c5Z list d i j.1 j.2 else U (n6.brk (out,in_)))
def e5q(list d):LQ a2Y (c1r d) (c5h list d) (λs=>b3p list d s.1 s.2.1 s.2.2):=λlc (out,in_,i) h=>PK<|rg<|l9 3 h (λh=>D5 h (f5t list d i lc) λx2 h hc2=>rg<|l9 2 h (λh=>A3 E4 5 h λa53 f5r h=>l9 13 h (λh=>rg<|tk 2 []<|z9 h λe3 h=>J4 3 24 198 4 32 E4 out d e3<|I2 d<|rg<|(u6 h hc2 λhI=>sk [] [0,3,5,6,7] [(1,0),(24,0)] hI)) (λh=>u6 h hc2 λhI=>sk [] [0,3,5,6,7] jy hI)) (λh=>u6 h hc2 λhI=>sk [] [0,3,5,6,7] jy hI)) (λh=>lc.bk h λhI=>sk [] [3,5,6] jy hI)
def c2I(list:E x6)(d:x6):Option (E x6):=
 ((u5 (λs:(E x6)×Bool×Int=>b3p list d s.1 s.2.1 s.2.2) (([]:E x6),W,0)).bind λx=>x.go (λr=>U r) λs=>c3v d s.1 s.2)
def f0C{list d}:OK a2Y [n7 4 E4 list,.agg (E4 d)] (c2I list d):=
 t9 _ λr h=>t5<|tk 0 []<|t5<|lp (e5q list d) h (λ_ h=>a2Y.rt h) (g0F d r) λhI=>om ((.own 3 0 4 0 0:V)=.own 3 0 4 0 ([]:E x6).length) (by simp)<|sk [.is (.tmp 5) (.own 3 0 4 0 ([]:E x6).length)] [0,3,5,6,7] [(1,0),(3,0)] hI
def a6B:FS (A4×Int):=⟨221,Tryz.f221,[.val [Z,U 2,U 4] [Z,U 165,Z],.val [] []],[Z,Z],[.val [Z,U 2,U 4] [Z,U 165,Z],.val Q2 []],λr=>.tup [.agg (b4J r.1),vi r.2],λ_=>[Z,Z],Tryz.func221⟩
def f9q(s_:A4)(e_:p9):Unit->KS:=λ_=>⟨a6B.k 6 [W,W,W],bs 2 (.ptr 1 0 0::(.ptr 2 0 0::(.ptr 3 0 0::bs 78 []))),[U [s5 165 2 B9 s_.j4],U [.var 135 [vi (s6 (s_.At+1)),.own 0 0 2 0 (O s_.j4),n7 4 E4 s_.l7]],U [.var 50 (a4D e_)],U jQ]⟩
def e5Y(s_:A4)(e_:p9):Int->KS:=λb2C=>⟨a6B.k 9 [W,W,W,Y],bs 2 (.ptr 1 0 0::(.ptr 2 0 0::(.ptr 3 0 0::bs 3 (.ptr 4 0 0::bs 74 [])))),[U [s5 165 2 B9 s_.j4],U [.var 135 [vi (s6 (s_.At+1)),.own 0 0 2 0 (O s_.j4),n7 4 E4 s_.l7]],U [.var 50 (a4D e_)],U jQ,U [.var 198 [vi e_.b6.i0,vi e_.b6.Seq,vi b2C,vi 0]]]⟩
def e0G(s_:A4):(x6×E t7)->KS:=λ(d,j4)=>⟨a6B.k 13 [W,W,W,Y,Y],bs 2 (.ptr 1 0 0::bs 1 (.ptr 3 0 0::bs 3 (.ptr 4 0 0::bs 74 []))),[U [.dead],U [.var 135 [vi (s6 (s_.At+1)),.own 2 0 2 0 (O j4),n7 4 E4 s_.l7]],U [s5 165 2 B9 j4],U jQ,U [.var 198 [vi d.b6.i0,vi d.b6.Seq,vi d.Code,vi d.i8]]]⟩
def c5i(s_:A4)(d:x6)(j4:E t7):Option (A4×Int):=
 ((c2I s_.l7 d).bind λd34=>U ((A4.mk (s6 (s_.At+1)) j4 d34),d.Code))
def f8O(s_)(r):NF a6B r (e0G s_) (λs=>c5i s_ s.1 s.2):=λ(d,j4) h=>PK<|rg<|n9 a2Y f0C 3 h λd34 h=>rg<|z0 j4<|fE h
def c8t(s_:A4)(e_:p9)(b2C:Int):Option (A4×Int):=
 (((bif(b2C==2)then bif(e_.g8.Code==0)then(b8T s_.j4 e_.g8).bind λd5g=>U (r9.brk ((x6.mk e_.b6 0 e_.g8.i8),d5g))else U (r9.brk ((x6.mk e_.b6 b2C 0),s_.j4))else U (r9.brk ((x6.mk e_.b6 b2C 0),s_.j4))):Option (r9 (A4×Int) (x6×E t7))).bind λx=>x.go U λj=>c5i s_ j.1 j.2)
def e71(s_ e_)(r):NF a6B r (e5Y s_ e_) (λs=>c8t s_ e_ s):=λb2C h=>PK<|D5 h (f8O s_ r) λx1 h hc1=>rg<|l9 3 h (λh=>l9 8 h (λh=>T1<|n9 a9F e2J 4 h λd5g h=>z0 s_.j4<|(u6 h hc1 λhI=>sk [] [2,4,8] [(1,0),(25,0),(3,0),(4,0)] hI)) (λh=>u6 h hc1 λhI=>sk [] [2,4,8] WQ hI)) (λh=>u6 h hc1 λhI=>sk [] [2,4,8] WQ hI)
def b8r(s_:A4)(e_:p9):Option (A4×Int):=
 ((((c0z s_.j4 e_.g8).bind λa7w=>bif a7w then U (r9.brk 2)else U (r9.brk 1)):Option (r9 (A4×Int) Int)).bind λx=>x.go U λj=>c8t s_ e_ j)
def e07(s_ e_)(r):NF a6B r (f9q s_ e_) (λs=>b8r s_ e_):=λ_ h=>PK<|rg<|D5 h (e71 s_ e_ r) λx1 h hc1=>rg<|cbE a5k.t e4b h λa7w d6b h=>cdT (a5k.t 4 Y a7w) h (λ_ h=>ob d6b<|osc a5k a7w rfl (W1 2)<|z0 s_.j4<|rg<|(u6 h hc1 λhI=>sk [] [2,3,4,8] WW hI)) (λ_ h=>ob d6b<|osc a5k a7w rfl (W1 2)<|z0 s_.j4<|(u6 h hc1 λhI=>sk [] [2,3,4,8] WW hI))
def b4N(s_:A4)(e_:p9):Option (A4×Int):=
 (bif e_.j9 then U ((A4.mk (s6 (s_.At+1)) s_.j4 s_.l7),5)else(b8u (A4.mk (s6 (s_.At+1)) s_.j4 s_.l7) e_.b6.i0).bind λa7l=>((bif a7l.2 then bif(([a7l.1.b6.i0,a7l.1.b6.Seq]:E Int)==[e_.b6.i0,e_.b6.Seq])then U (r9.ret ((A4.mk (s6 (s_.At+1)) s_.j4 s_.l7),3))else bif a7l.2 then bif decide (a7l.1.b6.Seq>e_.b6.Seq)then U (r9.ret ((A4.mk (s6 (s_.At+1)) s_.j4 s_.l7),4))else U (r9.brk ())else U (r9.brk ())else bif a7l.2 then bif decide (a7l.1.b6.Seq>e_.b6.Seq)then U (r9.ret ((A4.mk (s6 (s_.At+1)) s_.j4 s_.l7),4))else U (r9.brk ())else U (r9.brk ())):Option (r9 (A4×Int) Unit)).bind λx=>x.go U λj=>b8r s_ e_)
def d9I{s_ e_}:OK a6B [.agg (b4J s_),.agg (x9 e_)] (b4N s_ e_):=
 t9 _ λr h=>T1<|l9 1 h (λh=>rg<|z0 s_.j4<|fE h) (λh=>rg<|cbS a6Y e3g 4 (λ_=>(by simp[a6Y,Q9,Y3,U6,V.simple,vi,A5,eB,E4,eI,N8])) (λ_=>W1 2) h λa7l h=>z0 s_.j4<|D5 h (e07 s_ e_ r) λx1 h hc1=>rg<|l9 1 h (λh=>l9 8 h (λh=>rg<|(E3 h hc1 λh=>z0 s_.j4<|fE h)) (λh=>rg<|l9 1 h (λh=>l9 10 h (λh=>rg<|(E3 h hc1 λh=>z0 s_.j4<|fE h)) (λh=>u6 h hc1 λhI=>sk [] [2,3,4] jY hI)) (λh=>u6 h hc1 λhI=>sk [] [2,3,4] jY hI))) (λh=>rg<|l9 1 h (λh=>l9 10 h (λh=>rg<|(E3 h hc1 λh=>z0 s_.j4<|fE h)) (λh=>u6 h hc1 λhI=>sk [] [2,3,4] jY hI)) (λh=>u6 h hc1 λhI=>sk [] [2,3,4] jY hI)))
def d1b:FS (m4):=⟨222,Tryz.f222,[.val D1 K4],[Z],[.val D1 K4],λr=>.agg (K8 r),λ_=>[Z],Tryz.func222⟩
def d7P(n:m4):Option m4:=
 U (m4.mk n.Id n.Acc n.a9 n.Seq n.d6 n.b5 n.d7 n.j5 n.g9 n.b8 W [] (p9.mk W (u0.mk 0 0) (s9.mk [] [] 0 0)) n.i5)
def f4T{n}:OK d1b [.agg (K8 n)] (d7P n):=
 t9 _ λr h=>rg4<|rg<|C5 n<|fE h
def a6a:FS (m4×E s8):=⟨217,Tryz.f217,[.val D1 K4,.val [U 5] []],[Z],[.val D1 K4],λr=>.tup [.agg (K8 r.1),n7 5 B6 r.2],λ_=>[Z],Tryz.func217⟩
def c4N(n:m4):Unit->KS:=λ_=>⟨a6a.k 5 [W,W],bs 1 (.ptr 1 0 0::(.ptr 2 0 0::bs 81 [])),[U (a9E n),U [.var 59 (a9B n)],U jk]⟩
def d3P(n:m4):Option (m4×E s8):=
 U (n,([]:E s8))
def e4I(n)(r):NF a6a r (c4N n) (λs=>d3P n):=λ_ h=>PK<|rg<|tk 1 []<|C5 n<|E7 s8<|fE h
def d00(n:m4):((E t7)×Int×Int×E x6)->KS:=λ(j4,i,sAt,sDones)=>⟨a6a.k 4 [W],bs 1 (.ptr 1 0 0::(.ptr 2 0 0::bs 1 (.ptr 3 0 0::(vi i::bs 78 [])))),[U (a9E n),U [.var 59 (a9B n)],U jk,U [.var 135 [vi sAt,.own 4 0 2 0 (O j4),n7 4 E4 sDones]],U [s5 165 2 B9 j4]]⟩
def e4r(n:m4):(E s8)->KS:=λout=>⟨a6a.k 11 [W,Y,W,Y],bs 1 (.ptr 1 0 0::(.ptr 2 0 0::bs 5 (.own 3 0 5 0 (O out)::bs 75 []))),[U (a9E n),U [.var 59 (a9B n)],U jk,U [s5 66 5 B6 out]]⟩
def c3P(n:m4)(out:E s8):Option (n6 (m4×E s8) ((E t7)×Int×Int×E x6) Unit):=
 ((d7P n).bind λc7S=>U (n6.ret (c7S,out)))
def f8N(n)(lc:J2 a6a (c4N n) (d00 n)):NL lc (e4r n) (λs=>c3P n s):=λout h=>PK<|rg<|n9 d1b f4T 1 h λc7S h=>C5 n<|C5 c7S<|z0 out<|fL lc h
def b2c(n:m4)(j4:E t7)(i:Int)(sAt:Int)(sDones:E x6):Option (n6 (m4×E s8) ((E t7)×Int×Int×E x6) Unit):=
 (bif decide (i<(O n.a9:Int))then(idx n.a9 i).bind λentry=>(b4N (A4.mk sAt j4 sDones) entry).bind λa0w=>bif entry.j9 then U (n6.nxt (a0w.1.j4,s6 (i+1),a0w.1.At,a0w.1.l7))else bif(!(([entry.b6.i0,entry.b6.Seq]:E Int)==[n.d9.b6.i0,n.d9.b6.Seq]))then U (n6.nxt (a0w.1.j4,s6 (i+1),a0w.1.At,a0w.1.l7))else((bif(a0w.2==0)then(idx [s8.mk n.Id n.d9.b6 a0w.2 0] 0).bind λtold=>U (r9.brk ([s8.mk n.Id n.d9.b6 a0w.2 0].set (0:Int).toNat (s8.mk told.Node told.b6 told.Code entry.g8.i8)))else U (r9.brk [s8.mk n.Id n.d9.b6 a0w.2 0])):Option (r9 (n6 (m4×E s8) ((E t7)×Int×Int×E x6) Unit) (E s8))).bind λx=>x.go U λj=>c3P n j else U (n6.brk ()))
def e0A(n):LQ a6a (c4N n) (d00 n) (λs=>b2c n s.1 s.2.1 s.2.2.1 s.2.2.2):=λlc (j4,i,sAt,sDones) h=>PK<|rg<|l9 4 h (λh=>rg<|D6 h λentry K6 h=>E2 K6<|M4 x9 5 K6<|n9 a6B d9I 6 h λa0w h=>z0 j4<|t5<|E2 K6<|M4 x9 5 K6<|l9 6 h (λh=>rg<|(lc.nx h λhI=>sk [] [1,2,4,5] WJ hI)) (λh=>E2 K6<|M4 x9 12 K6<|l9 17 h (λh=>rg<|(lc.nx h λhI=>sk [] [1,2,4,5] WJ hI)) (λh=>rg<|tk 7 []<|D5 h (f8N n lc) λx2 h hc2=>rg<|l9 1 h (λh=>rg<|E2 K6<|M4 x9 7 K6<|D6 h λtold a6h h=>ob (U1 a6h)<|om (0<((1:Nat):Int)) (by simpa using b5D a6h)<|W3 66 5 B6 10 [] (s8.mk told.Node told.b6 told.Code entry.g8.i8) a6h<|(u6 h hc2 λhI=>om ((.own 50 0 5 0 1:V)=.own 50 0 5 0 ([s8.mk n.Id n.d9.b6 a0w.2 0].set (0:Int).toNat (s8.mk told.Node told.b6 told.Code entry.g8.i8)).length) (by simp)<|sk [.is (.tmp 8) (.own 50 0 5 0 ([s8.mk n.Id n.d9.b6 a0w.2 0].set (0:Int).toNat (s8.mk told.Node told.b6 told.Code entry.g8.i8)).length)] [1,2,8] [(1,0),(2,0),(50,0)] hI)) (λh=>u6 h hc2 λhI=>om ((.own 50 0 5 0 1:V)=.own 50 0 5 0 ([s8.mk n.Id n.d9.b6 a0w.2 0].length)) (by simp)<|sk [.is (.tmp 8) (.own 50 0 5 0 ([s8.mk n.Id n.d9.b6 a0w.2 0].length))] [1,2,8] [(1,0),(2,0),(50,0)] hI)))) (λh=>lc.bk h λhI=>sk [] [1,2] jy hI)
def b8B(n:m4):Option (m4×E s8):=
 (bif(!n.j6)then U (n,([]:E s8))else(a8R n n.d9.b6).bind λa8l=>bif(!a8l)then U (n,([]:E s8))else(b6O).bind λa2v=>(u5 (λs:(E t7)×Int×Int×E x6=>b2c n s.1 s.2.1 s.2.2.1 s.2.2.2) (a2v.j4,0,a2v.At,a2v.l7)).bind λx=>x.go (λr=>U r) λs=>d3P n)
def f1l{n}:OK a6a [.agg (K8 n)] (b8B n):=
 t9 _ λr h=>t5<|l9 3 h (λh=>rg<|tk 1 []<|C5 n<|E7 s8<|fE h) (λh=>X9 a3V c0d 8 2 h λa8l h=>C5 n<|l9 10 h (λh=>rg<|tk 1 []<|C5 n<|E7 s8<|fE h) (λh=>rg<|n9 c6D d68 0 h λa2v h=>rg<|lp (e0A n) h (λ_ h=>a6a.rt h) (e4I n r) λhI=>sk [] [1,2,4,5] [(1,0),(2,0),(16,0),(15,0)] hI))
def b5K:FS (m4×(E m9)×E s8):=⟨210,Tryz.f210,[.val D1 K4,.val [U 13] [],.val [U 5] []],[Z,Z],[.val D1 K4,.val Q2 []],λr=>.tup [.agg (K8 r.1),n7 13 x7 r.2.1,n7 5 B6 r.2.2],λ_=>[Z,Z],Tryz.func210⟩
def e2K(n:m4)(l5Entry:p9):((E Bool)×Int×Int×(E w8)×(E u9)×Int×Int×Int×Bool)->KS:=λ(b8,nCur,nCur1,nCur2,nCur3,nCur4,nCur5,nPhase,nCur6)=>⟨b5K.k 6 [Y],bs 2 (.ptr 1 0 0::bs 1 (.ptr 3 0 0::bs 33 [])),[U [s5 121 8 w6 n.Acc.b8,.dead,s5 4 1 eB n.d7,.dead,s5 50 7 x9 n.i5],U [.var 59 ([vi n.Id,vi n.Acc.i7,.own 0 0 8 0 (O n.Acc.b8),.own 2 0 7 0 (n.a9++[l5Entry]).length,vi n.Seq,vi nPhase,vi n.b5,.own 0 2 1 0 (O n.d7),n7 8 w6 n.j5,.b nCur6,vi nCur,vi nCur1,n7 2 A7 nCur2,n7 2 A8 nCur3,vi nCur4,vi nCur5,.own 4 0 1 0 (O b8)]++a5j n++[.own 0 4 7 0 (O n.i5)])],U [s5 50 7 x9 (n.a9++[l5Entry])],U jk,U [s5 4 1 eB b8]]⟩
def c1b(n:m4)(l5Entry:p9)(b8:E Bool)(nCur:Int)(nCur1:Int)(nCur2:E w8)(nCur3:E u9)(nCur4:Int)(nCur5:Int)(nPhase:Int)(nCur6:Bool):Option (m4×(E m9)×E s8):=
 ((b8B (m4.mk n.Id n.Acc (n.a9++[l5Entry]) n.Seq nPhase n.b5 n.d7 n.j5 (p9.mk nCur6 (u0.mk nCur nCur1) (s9.mk nCur2 nCur3 nCur4 nCur5)) b8 n.j6 n.j8 n.d9 n.i5)).bind λb8t=>(a7p b8t.1).bind λT3=>U (T3.1,T3.2,b8t.2))
def e1I(n l5Entry)(r):NF b5K r (e2K n l5Entry) (λs=>c1b n l5Entry s.1 s.2.1 s.2.2.1 s.2.2.2.1 s.2.2.2.2.1 s.2.2.2.2.2.1 s.2.2.2.2.2.2.1 s.2.2.2.2.2.2.2.1 s.2.2.2.2.2.2.2.2):=λ(b8,nCur,nCur1,nCur2,nCur3,nCur4,nCur5,nPhase,nCur6) h=>PK<|rg<|n9 a6a f1l 1 h λb8t h=>L0 n.Acc.b8 (n.a9++[l5Entry]) n.d7 b8<|z0 n.i5<|rg<|n9 b16 b6Q 1 h λT3 h=>C5 b8t.1<|rg<|C5 T3.1<|fE h
def b4s(n:m4)(e_:p9):Option (m4×(E m9)×E s8):=
 ((a03 e_).bind λl5Entry=>z5 (((O n.a9)+1)*88<=140737488355328) ((((bif(n.d6==3)then U (r9.brk ([],0,0,[],[],0,0,2,W))else U (r9.brk (n.b8,n.g9.b6.i0,n.g9.b6.Seq,n.g9.g8.d8,n.g9.g8.f0,n.g9.g8.i8,n.g9.g8.Code,n.d6,n.g9.j9))):Option (r9 (m4×(E m9)×E s8) ((E Bool)×Int×Int×(E w8)×(E u9)×Int×Int×Int×Bool))).bind λx=>x.go U λj=>c1b n l5Entry j.1 j.2.1 j.2.2.1 j.2.2.2.1 j.2.2.2.2.1 j.2.2.2.2.2.1 j.2.2.2.2.2.2.1 j.2.2.2.2.2.2.2.1 j.2.2.2.2.2.2.2.2)))
def d2D{n e_}:OK b5K [.agg (K8 n),.agg (x9 e_)] (b4s n e_):=
 t9 _ λr h=>t5<|n9 a1B a13 3 h λl5Entry h=>tk 4 Q2<|z9 h λe1 h=>J4 5 11 50 7 88 x9 n.a9 l5Entry e1<|I2 l5Entry<|D5 h (e1I n l5Entry r) λx1 h hc1=>rg<|l9 2 h (λh=>T1<|(u6 h hc1 λhI=>sk [.frz (.cell 1 0 12) (U 2),.frz (.cell 1 0 13) (U 2),.own (.cell 1 0 16) 4 1,.kill 0 3] [2,4] [(1,0),(11,0),(3,0),(24,0)] hI)) (λh=>u6 h hc1 λhI=>sk [] [2,4] [(1,0),(11,0),(3,0),(0,3)] hI)
def d3B:FS (m4×(E m9)×E s8):=⟨181,Tryz.f181,[.val D1 K4,.val [U 13] [],.val [U 5] []],[Z,Z],[.val D1 K4,.val E5 []],λr=>.tup [.agg (K8 r.1),n7 13 x7 r.2.1,n7 5 B6 r.2.2],λ_=>[Z,Z],Tryz.func181⟩
def b8p(n:m4)(m:m9):Option (m4×(E m9)×E s8):=
 (bif(n.d6 != 3)then U (n,([]:E m9),([]:E s8))else bif(m.b5 != n.b5)then U (n,([]:E m9),([]:E s8))else bif(m.i6 != (O n.a9:Int))then U (n,([]:E m9),([]:E s8))else(idx n.b8 m.d7).bind λy=>(b6g (n.b8.set m.d7.toNat Y)).bind λb5S=>bif(!b5S)then U ((m4.mk n.Id n.Acc n.a9 n.Seq n.d6 n.b5 n.d7 n.j5 n.g9 (n.b8.set m.d7.toNat Y) n.j6 n.j8 n.d9 n.i5),([]:E m9),([]:E s8))else(a03 n.g9).bind λl5Entry=>(a4a n.Id (m9.mk 5 0 0 0 (O n.a9:Int) l5Entry [])).bind λO9=>(b4s (m4.mk n.Id n.Acc n.a9 n.Seq n.d6 n.b5 n.d7 n.j5 n.g9 (n.b8.set m.d7.toNat Y) n.j6 n.j8 n.d9 n.i5) l5Entry).bind λa2G=>z5 (((O O9)+(O a2G.2.1))*152<=140737488355328) (U (a2G.1,O9++a2G.2.1,a2G.2.2)))
def f6V{n m}:OK d3B [.agg (K8 n),.agg (x7 m)] (b8p n m):=
 t9 _ λr h=>t5<|l9 3 h (λh=>rg<|tk 1 E5<|tk 2 []<|C5 n<|E7 m9<|E7 s8<|fE h) (λh=>l9 10 h (λh=>rg<|tk 1 E5<|tk 2 []<|C5 n<|E7 m9<|E7 s8<|fE h) (λh=>l9 17 h (λh=>rg<|tk 1 E5<|tk 2 []<|C5 n<|E7 m9<|E7 s8<|fE h) (λh=>rg<|D6 h λy hy h=>E2 hy<|W3 4 1 eB 5 [] Y hy<|rg<|X9 a8v d6n 2 1 h λb5S h=>om ((O n.b8)=(n.b8.set m.d7.toNat Y).length) (by simp)<|l9 3 h (λh=>rg<|tk 1 E5<|tk 2 []<|ol3 n.Acc.b8 n.a9 n.d7<|om ((O n.b8)=(n.b8.set m.d7.toNat Y).length) (by simp)<|z0 n.i5<|E7 m9<|E7 s8<|fE h) (λh=>rg<|n9 a1B a13 2 h λl5Entry h=>rg<|n9 a1M a7d 7 h λO9 h=>rg<|n9 b5K d2D 2 h λa2G h=>ol3 n.Acc.b8 n.a9 n.d7<|om ((O n.b8)=(n.b8.set m.d7.toNat Y).length) (by simp)<|z0 n.i5<|rg<|z9 h λe1 h=>apL 3 62 70 13 152 x7 O9 a2G.2.1 e1<|C5 a2G.1<|z0 (O9++a2G.2.1)<|fE h))))
def d7M:FS (m4×(E m9)×E s8):=⟨182,Tryz.f182,[.val D1 K4,.val [U 13] [],.val [U 5] []],[Z,Z],[.val D1 K4,.val E5 []],λr=>.tup [.agg (K8 r.1),n7 13 x7 r.2.1,n7 5 B6 r.2.2],λ_=>[Z,Z],Tryz.func182⟩
def b8C(n:m4)(m:m9):Option (m4×(E m9)×E s8):=
 (bif decide (m.i6<(O n.a9:Int))then U (n,([]:E m9),([]:E s8))else bif decide (m.i6>(O n.a9:Int))then(a6O m (m9.mk 8 0 0 0 (O n.a9:Int) (p9.mk W (u0.mk 0 0) (s9.mk [] [] 0 0)) [])).bind λa3k=>U (n,a3k,([]:E s8))else(b4s n m.i9).bind λa2G=>U (a2G.1,a2G.2.1,a2G.2.2))
def e5r{n m}:OK d7M [.agg (K8 n),.agg (x7 m)] (b8C n m):=
 t9 _ λr h=>t5<|l9 6 h (λh=>rg<|tk 1 E5<|tk 2 []<|C5 n<|E7 m9<|E7 s8<|fE h) (λh=>rg<|l9 6 h (λh=>rg<|n9 a5J b0y 6 h λa3k h=>tk 7 []<|C5 n<|E7 s8<|fE h) (λh=>rg<|n9 b5K d2D 3 h λa2G h=>C5 n<|C5 a2G.1<|fE h))
def d4E:FS (m4×E m9):=⟨184,Tryz.f184,[.val D1 K4,.val [U 13] []],[Z,Z],[.val D1 K4,.val E5 []],λr=>.tup [.agg (K8 r.1),n7 13 x7 r.2],λ_=>[Z,Z],Tryz.func184⟩
def c1Z(n:m4)(m:m9):Option (m4×E m9):=
 (bif(n.d6==0)then U (n,([]:E m9))else bif decide ((O n.i5:Int)>=4)then U (n,([]:E m9))else(a8R n m.i9.b6).bind λa8l=>bif a8l then U (n,([]:E m9))else(a03 m.i9).bind λl5Entry=>z5 (((O n.i5)+1)*88<=140737488355328) (((a7p (m4.mk n.Id n.Acc n.a9 n.Seq n.d6 n.b5 n.d7 n.j5 n.g9 n.b8 n.j6 n.j8 n.d9 (n.i5++[l5Entry]))).bind λT3=>U (T3.1,T3.2))))
def f5c{n m}:OK d4E [.agg (K8 n),.agg (x7 m)] (c1Z n m):=
 t9 _ λr h=>t5<|l9 3 h (λh=>rg<|tk 1 E5<|C5 n<|E7 m9<|fE h) (λh=>l9 9 h (λh=>rg<|tk 1 E5<|C5 n<|E7 m9<|fE h) (λh=>X9 a3V c0d 14 2 h λa8l h=>C5 n<|l9 15 h (λh=>rg<|tk 1 E5<|C5 n<|E7 m9<|fE h) (λh=>rg<|n9 a1B a13 4 h λl5Entry h=>tk 5 Q2<|z9 h λe1 h=>J4 6 27 50 7 88 x9 n.i5 l5Entry e1<|I2 l5Entry<|rg<|n9 b16 b6Q 1 h λT3 h=>z0 n.Acc.b8<|L0 n.a9 n.d7 n.b8 (n.i5++[l5Entry])<|C5 T3.1<|fE h)))
def a89:FS ((E m9)×m4):=⟨185,Tryz.f185,[.val [U 13] []],[U (0,.val D1 K4),Z],[.val D1 K4,.val E5 []],λr=>n7 13 x7 r.1,λr=>[U (.agg (f7Y r.2)),Z],Tryz.func185⟩
def d6e(n:m4):(E m9)->KS:=λout1=>⟨a89.k 4 [W],bs 5 (.own 1 0 13 0 (O out1)::bs 24 []),[U [s5 121 8 w6 n.Acc.b8,s5 50 7 x9 n.a9,s5 4 1 eB n.d7,s5 4 1 eB n.b8,s5 50 7 x9 n.i5],U [s5 70 13 x7 out1]]⟩
def d3J(n:m4)(out1:E m9):Option ((E m9)×m4):=
 U (out1,n)
def e8P(n)(r):NF a89 r (d6e n) (λs=>d3J n s):=λout1 h=>PK<|rg<|z0 out1<|C5 n<|fE h
def e8d(n:m4)(m:m9):((E m9)×Int)->KS:=λ(out,s_)=>⟨a89.k 3 [],bs 2 (.ptr 1 0 0::(.ptr 2 0 0::bs 1 (.own 3 0 13 0 (O out)::(vi s_::bs 23 [])))),[U (a9E n),U [.var 59 (a9B n)],U [.var 70 (a5Z m)],U [s5 70 13 x7 out]]⟩
def a73(n:m4)(m:m9)(out:E m9)(s_:Int):Option (n6 ((E m9)×m4) ((E m9)×Int) (E m9)):=
 (bif decide (s_<(O n.a9:Int))then(idx n.a9 s_).bind λentry=>(a03 entry).bind λl5Entry=>(a6O m (m9.mk 5 0 0 0 s_ l5Entry [])).bind λa3k=>z5 (((O out)+(O a3k))*152<=140737488355328) (U (n6.nxt (out++a3k,s6 (s_+1))))else U (n6.brk out))
def e0N(n m):LQ a89 (d6e n) (e8d n m) (λs=>a73 n m s.1 s.2):=λlc (out,s_) h=>PK<|rg<|l9 4 h (λh=>rg<|D6 h λentry K6 h=>E2 K6<|M4 x9 7 K6<|n9 a1B a13 8 h λl5Entry h=>n9 a5J b0y 10 h λa3k h=>z9 h λe1 h=>apL 11 20 70 13 152 x7 out a3k e1<|rg<|(lc.nx h λhI=>sk [] [2,3,5,6] [(1,0),(2,0),(20,0)] hI)) (λh=>lc.bk h λhI=>sk [] [5] [(3,0)] hI)
def b9s(n:m4)(m:m9):Option ((E m9)×m4):=
 ((u5 (λs:(E m9)×Int=>a73 n m s.1 s.2) (([]:E m9),m.i6)).bind λx=>x.go (λr=>U r) λs=>d3J n s)
def e3L{n m}:OK a89 [.agg (K8 n),.agg (x7 m)] (b9s n m):=
 t9 _ λr h=>t5<|tk 0 E5<|rg<|lp (e0N n m) h (λ_ h=>a89.rt h) (e8P n r) λhI=>om ((.own 4 0 13 0 0:V)=.own 4 0 13 0 ([]:E m9).length) (by simp)<|sk [.is (.tmp 5) (.own 4 0 13 0 ([]:E m9).length)] [2,3,5,6] [(1,0),(2,0),(4,0)] hI
def b9k:FS (m4×(E m9)×E s8):=⟨129,Tryz.f129,[.val D1 K4,.val [U 13] [],.val [U 5] []],[Z,Z],[.val D1 K4,.val E5 []],λr=>.tup [.agg (K8 r.1),n7 13 x7 r.2.1,n7 5 B6 r.2.2],λ_=>[Z,Z],Tryz.func129⟩
def e5j:((E s7)×(E p9)×(E Bool)×(E Bool)×(E p9)×(E m9)×Int×Int×Int×Int×(E w8)×(E u9)×Int×Int×Bool×(E t8)×Bool×Int×Int×(E w8)×(E u9)×Int×Int×Int×Int×Int×(E s7)×Bool)->KS:=λ(Acc,a9,d7,b8,i5,out,nId,nAcc,nCur,nCur1,nCur2,nCur3,nCur4,nCur5,nBusy,nProg,nWant,nWant1,nWant2,nWant3,nWant4,nWant5,nWant6,nSeq,nPhase,nBal,nBest,nCur6)=>⟨b9k.k 5 [Y],bs 2 (.ptr 1 0 0::bs 1 (.ptr 7 0 0::bs 2 (n7 13 x7 out::bs 77 []))),[U [.dead,.dead,.dead,.dead,.dead],U [.var 59 [vi nId,vi nAcc,.own 2 0 8 0 (O Acc),.own 3 0 7 0 (O a9),vi nSeq,vi nPhase,vi nBal,.own 4 0 1 0 (O d7),n7 8 w6 nBest,.b nCur6,vi nCur,vi nCur1,n7 2 A7 nCur2,n7 2 A8 nCur3,vi nCur4,vi nCur5,.own 5 0 1 0 (O b8),.b nBusy,n7 4 C2 nProg,.b nWant,vi nWant1,vi nWant2,n7 2 A7 nWant3,n7 2 A8 nWant4,vi nWant5,vi nWant6,.own 6 0 7 0 (O i5)]],U [s5 121 8 w6 Acc],U [s5 50 7 x9 a9],U [s5 4 1 eB d7],U [s5 4 1 eB b8],U [s5 50 7 x9 i5],U jk]⟩
def d3b(Acc:E s7)(a9:E p9)(d7:E Bool)(b8:E Bool)(i5:E p9)(out:E m9)(nId:Int)(nAcc:Int)(nCur:Int)(nCur1:Int)(nCur2:E w8)(nCur3:E u9)(nCur4:Int)(nCur5:Int)(nBusy:Bool)(nProg:E t8)(nWant:Bool)(nWant1:Int)(nWant2:Int)(nWant3:E w8)(nWant4:E u9)(nWant5:Int)(nWant6:Int)(nSeq:Int)(nPhase:Int)(nBal:Int)(nBest:E s7)(nCur6:Bool):Option (m4×(E m9)×E s8):=
 U ((m4.mk nId (B4.mk nAcc Acc) a9 nSeq nPhase nBal d7 nBest (p9.mk nCur6 (u0.mk nCur nCur1) (s9.mk nCur2 nCur3 nCur4 nCur5)) b8 nBusy nProg (p9.mk nWant (u0.mk nWant1 nWant2) (s9.mk nWant3 nWant4 nWant5 nWant6)) i5),out,([]:E s8))
def f8F(r):NF b9k r e5j (λs=>d3b s.1 s.2.1 s.2.2.1 s.2.2.2.1 s.2.2.2.2.1 s.2.2.2.2.2.1 s.2.2.2.2.2.2.1 s.2.2.2.2.2.2.2.1 s.2.2.2.2.2.2.2.2.1 s.2.2.2.2.2.2.2.2.2.1 s.2.2.2.2.2.2.2.2.2.2.1 s.2.2.2.2.2.2.2.2.2.2.2.1 s.2.2.2.2.2.2.2.2.2.2.2.2.1 s.2.2.2.2.2.2.2.2.2.2.2.2.2.1 s.2.2.2.2.2.2.2.2.2.2.2.2.2.2.1 s.2.2.2.2.2.2.2.2.2.2.2.2.2.2.2.1 s.2.2.2.2.2.2.2.2.2.2.2.2.2.2.2.2.1 s.2.2.2.2.2.2.2.2.2.2.2.2.2.2.2.2.2.1 s.2.2.2.2.2.2.2.2.2.2.2.2.2.2.2.2.2.2.1 s.2.2.2.2.2.2.2.2.2.2.2.2.2.2.2.2.2.2.2.1 s.2.2.2.2.2.2.2.2.2.2.2.2.2.2.2.2.2.2.2.2.1 s.2.2.2.2.2.2.2.2.2.2.2.2.2.2.2.2.2.2.2.2.2.1 s.2.2.2.2.2.2.2.2.2.2.2.2.2.2.2.2.2.2.2.2.2.2.1 s.2.2.2.2.2.2.2.2.2.2.2.2.2.2.2.2.2.2.2.2.2.2.2.1 s.2.2.2.2.2.2.2.2.2.2.2.2.2.2.2.2.2.2.2.2.2.2.2.2.1 s.2.2.2.2.2.2.2.2.2.2.2.2.2.2.2.2.2.2.2.2.2.2.2.2.2.1 s.2.2.2.2.2.2.2.2.2.2.2.2.2.2.2.2.2.2.2.2.2.2.2.2.2.2.1 s.2.2.2.2.2.2.2.2.2.2.2.2.2.2.2.2.2.2.2.2.2.2.2.2.2.2.2):=λ(Acc,a9,d7,b8,i5,out,nId,nAcc,nCur,nCur1,nCur2,nCur3,nCur4,nCur5,nBusy,nProg,nWant,nWant1,nWant2,nWant3,nWant4,nWant5,nWant6,nSeq,nPhase,nBal,nBest,nCur6) h=>PK<|rg<|tk 2 []<|L0 Acc a9 d7 b8<|z0 i5<|E7 s8<|fE h
def c0t(n:m4)(m:m9):Option (m4×(E m9)×E s8):=
 (((bif(m.b7==1)then(b8w n m).bind λR5=>U (r9.brk (R5.1.Acc.b8,R5.1.a9,R5.1.d7,R5.1.b8,R5.1.i5,R5.2,R5.1.Id,R5.1.Acc.i7,R5.1.g9.b6.i0,R5.1.g9.b6.Seq,R5.1.g9.g8.d8,R5.1.g9.g8.f0,R5.1.g9.g8.i8,R5.1.g9.g8.Code,R5.1.j6,R5.1.j8,R5.1.d9.j9,R5.1.d9.b6.i0,R5.1.d9.b6.Seq,R5.1.d9.g8.d8,R5.1.d9.g8.f0,R5.1.d9.g8.i8,R5.1.d9.g8.Code,R5.1.Seq,R5.1.d6,R5.1.b5,R5.1.j5,R5.1.g9.j9))else bif(m.b7==2)then(c0R n m).bind λR0=>U (r9.brk (R0.1.Acc.b8,R0.1.a9,R0.1.d7,R0.1.b8,R0.1.i5,R0.2,R0.1.Id,R0.1.Acc.i7,R0.1.g9.b6.i0,R0.1.g9.b6.Seq,R0.1.g9.g8.d8,R0.1.g9.g8.f0,R0.1.g9.g8.i8,R0.1.g9.g8.Code,R0.1.j6,R0.1.j8,R0.1.d9.j9,R0.1.d9.b6.i0,R0.1.d9.b6.Seq,R0.1.d9.g8.d8,R0.1.d9.g8.f0,R0.1.d9.g8.i8,R0.1.d9.g8.Code,R0.1.Seq,R0.1.d6,R0.1.b5,R0.1.j5,R0.1.g9.j9))else bif(m.b7==3)then(b7U n m).bind λS0=>U (r9.brk (S0.1.Acc.b8,S0.1.a9,S0.1.d7,S0.1.b8,S0.1.i5,S0.2,S0.1.Id,S0.1.Acc.i7,S0.1.g9.b6.i0,S0.1.g9.b6.Seq,S0.1.g9.g8.d8,S0.1.g9.g8.f0,S0.1.g9.g8.i8,S0.1.g9.g8.Code,S0.1.j6,S0.1.j8,S0.1.d9.j9,S0.1.d9.b6.i0,S0.1.d9.b6.Seq,S0.1.d9.g8.d8,S0.1.d9.g8.f0,S0.1.d9.g8.i8,S0.1.d9.g8.Code,S0.1.Seq,S0.1.d6,S0.1.b5,S0.1.j5,S0.1.g9.j9))else bif(m.b7==4)then(b8p n m).bind λb5Q=>U (r9.ret (b5Q.1,b5Q.2.1,b5Q.2.2))else bif(m.b7==5)then(b8C n m).bind λb4U=>U (r9.ret (b4U.1,b4U.2.1,b4U.2.2))else bif(m.b7==6)then(a90 n.Acc m.b5).bind λl6Promise=>(b5n (m4.mk n.Id l6Promise.1 n.a9 n.Seq n.d6 n.b5 n.d7 n.j5 n.g9 n.b8 n.j6 n.j8 n.d9 n.i5) m.b5).bind λP6=>U (r9.brk (P6.Acc.b8,P6.a9,P6.d7,P6.b8,P6.i5,([]:E m9),P6.Id,P6.Acc.i7,P6.g9.b6.i0,P6.g9.b6.Seq,P6.g9.g8.d8,P6.g9.g8.f0,P6.g9.g8.i8,P6.g9.g8.Code,P6.j6,P6.j8,P6.d9.j9,P6.d9.b6.i0,P6.d9.b6.Seq,P6.d9.g8.d8,P6.d9.g8.f0,P6.d9.g8.i8,P6.d9.g8.Code,P6.Seq,P6.d6,P6.b5,P6.j5,P6.g9.j9))else bif(m.b7==7)then(c1Z n m).bind λR6=>U (r9.brk (R6.1.Acc.b8,R6.1.a9,R6.1.d7,R6.1.b8,R6.1.i5,R6.2,R6.1.Id,R6.1.Acc.i7,R6.1.g9.b6.i0,R6.1.g9.b6.Seq,R6.1.g9.g8.d8,R6.1.g9.g8.f0,R6.1.g9.g8.i8,R6.1.g9.g8.Code,R6.1.j6,R6.1.j8,R6.1.d9.j9,R6.1.d9.b6.i0,R6.1.d9.b6.Seq,R6.1.d9.g8.d8,R6.1.d9.g8.f0,R6.1.d9.g8.i8,R6.1.d9.g8.Code,R6.1.Seq,R6.1.d6,R6.1.b5,R6.1.j5,R6.1.g9.j9))else bif(m.b7==8)then(b9s n m).bind λY4=>z5 ((O n.Acc.b8)=(O Y4.2.Acc.b8)) (z5 ((O n.a9)=(O Y4.2.a9)) (z5 ((O n.d7)=(O Y4.2.d7)) (z5 ((O n.b8)=(O Y4.2.b8)) (z5 ((O n.i5)=(O Y4.2.i5)) (U (r9.brk (Y4.2.Acc.b8,Y4.2.a9,Y4.2.d7,Y4.2.b8,Y4.2.i5,Y4.1,n.Id,n.Acc.i7,n.g9.b6.i0,n.g9.b6.Seq,n.g9.g8.d8,n.g9.g8.f0,n.g9.g8.i8,n.g9.g8.Code,n.j6,n.j8,n.d9.j9,n.d9.b6.i0,n.d9.b6.Seq,n.d9.g8.d8,n.d9.g8.f0,n.d9.g8.i8,n.d9.g8.Code,n.Seq,n.d6,n.b5,n.j5,n.g9.j9)))))))else U (r9.brk (n.Acc.b8,n.a9,n.d7,n.b8,n.i5,([]:E m9),n.Id,n.Acc.i7,n.g9.b6.i0,n.g9.b6.Seq,n.g9.g8.d8,n.g9.g8.f0,n.g9.g8.i8,n.g9.g8.Code,n.j6,n.j8,n.d9.j9,n.d9.b6.i0,n.d9.b6.Seq,n.d9.g8.d8,n.d9.g8.f0,n.d9.g8.i8,n.d9.g8.Code,n.Seq,n.d6,n.b5,n.j5,n.g9.j9))):Option (r9 (m4×(E m9)×E s8) ((E s7)×(E p9)×(E Bool)×(E Bool)×(E p9)×(E m9)×Int×Int×Int×Int×(E w8)×(E u9)×Int×Int×Bool×(E t8)×Bool×Int×Int×(E w8)×(E u9)×Int×Int×Int×Int×Int×(E s7)×Bool))).bind λx=>x.go U λj=>d3b j.1 j.2.1 j.2.2.1 j.2.2.2.1 j.2.2.2.2.1 j.2.2.2.2.2.1 j.2.2.2.2.2.2.1 j.2.2.2.2.2.2.2.1 j.2.2.2.2.2.2.2.2.1 j.2.2.2.2.2.2.2.2.2.1 j.2.2.2.2.2.2.2.2.2.2.1 j.2.2.2.2.2.2.2.2.2.2.2.1 j.2.2.2.2.2.2.2.2.2.2.2.2.1 j.2.2.2.2.2.2.2.2.2.2.2.2.2.1 j.2.2.2.2.2.2.2.2.2.2.2.2.2.2.1 j.2.2.2.2.2.2.2.2.2.2.2.2.2.2.2.1 j.2.2.2.2.2.2.2.2.2.2.2.2.2.2.2.2.1 j.2.2.2.2.2.2.2.2.2.2.2.2.2.2.2.2.2.1 j.2.2.2.2.2.2.2.2.2.2.2.2.2.2.2.2.2.2.1 j.2.2.2.2.2.2.2.2.2.2.2.2.2.2.2.2.2.2.2.1 j.2.2.2.2.2.2.2.2.2.2.2.2.2.2.2.2.2.2.2.2.1 j.2.2.2.2.2.2.2.2.2.2.2.2.2.2.2.2.2.2.2.2.2.1 j.2.2.2.2.2.2.2.2.2.2.2.2.2.2.2.2.2.2.2.2.2.2.1 j.2.2.2.2.2.2.2.2.2.2.2.2.2.2.2.2.2.2.2.2.2.2.2.1 j.2.2.2.2.2.2.2.2.2.2.2.2.2.2.2.2.2.2.2.2.2.2.2.2.1 j.2.2.2.2.2.2.2.2.2.2.2.2.2.2.2.2.2.2.2.2.2.2.2.2.2.1 j.2.2.2.2.2.2.2.2.2.2.2.2.2.2.2.2.2.2.2.2.2.2.2.2.2.2.1 j.2.2.2.2.2.2.2.2.2.2.2.2.2.2.2.2.2.2.2.2.2.2.2.2.2.2.2)
set_option maxRecDepth 20000 in
def e3m{n m}:OK b9k [.agg (K8 n),.agg (x7 m)] (c0t n m):=
 t9 _ λr h=>t5<|tk 0 E5<|rg<|D5 h (f8F r) λx1 h hc1=>rg<|l9 1 h (λh=>rg<|n9 d3W f0T 2 h λR5 h=>C5 n<|(u6 h hc1 λhI=>sk [] [2,4,7] [(1,0),(14,0),(14,1),(14,2),(14,3),(14,4),(3,0)] hI)) (λh=>rg<|l9 1 h (λh=>rg<|n9 d0b f5k 2 h λR0 h=>C5 n<|(u6 h hc1 λhI=>sk [] [2,4,7] [(1,0),(16,0),(16,1),(16,2),(16,3),(16,4),(3,0)] hI)) (λh=>rg<|l9 1 h (λh=>rg<|n9 d8D g0e 2 h λS0 h=>C5 n<|(u6 h hc1 λhI=>sk [] [2,4,7] [(1,0),(18,0),(18,1),(18,2),(18,3),(18,4),(3,0)] hI)) (λh=>rg<|l9 1 h (λh=>rg<|n9 d3B f6V 2 h λb5Q h=>C5 n<|(E3 h hc1 λh=>C5 b5Q.1<|fE h)) (λh=>rg<|l9 1 h (λh=>rg<|n9 d7M e5r 2 h λb4U h=>C5 n<|(E3 h hc1 λh=>C5 b4U.1<|fE h)) (λh=>rg<|l9 1 h (λh=>rg<|n9 b3P b7a 4 h λl6Promise h=>z0 n.Acc.b8<|t5<|n9 b5t d25 3 h λP6 h=>z0 l6Promise.1.b8<|O6 n<|(u6 h hc1 λhI=>E7 m9<|sk [.frz (.tmp 7) (Z)] [2,4,7] [(1,0),(39,0),(39,1),(39,2),(39,3),(39,4),(3,0)] hI)) (λh=>rg<|l9 1 h (λh=>rg<|n9 d4E f5c 2 h λR6 h=>C5 n<|(u6 h hc1 λhI=>sk [] [2,4,7] [(1,0),(26,0),(26,1),(26,2),(26,3),(26,4),(3,0)] hI)) (λh=>rg<|l9 1 h (λh=>rg<|n9 a89 e3L 2 h λY4 h=>z9 h λe1 h=>z9 h λe2 h=>z9 h λe3 h=>z9 h λe4 h=>z9 h λe5 h=>C5 n<|(u6 h hc1 λhI=>om ((.own 0 0 8 0 (O n.Acc.b8):V)=.own 0 0 8 0 (O Y4.2.Acc.b8)) (by first|(simp;done)|(simp[e1,e2,e3,e4,e5];done))<|om ((.own 0 1 7 0 (O n.a9):V)=.own 0 1 7 0 (O Y4.2.a9)) (by first|(simp;done)|(simp[e1,e2,e3,e4,e5];done))<|om ((.own 0 2 1 0 (O n.d7):V)=.own 0 2 1 0 (O Y4.2.d7)) (by first|(simp;done)|(simp[e1,e2,e3,e4,e5];done))<|om ((.own 0 3 1 0 (O n.b8):V)=.own 0 3 1 0 (O Y4.2.b8)) (by first|(simp;done)|(simp[e1,e2,e3,e4,e5];done))<|om ((.own 0 4 7 0 (O n.i5):V)=.own 0 4 7 0 (O Y4.2.i5)) (by first|(simp;done)|(simp[e1,e2,e3,e4,e5];done))<|sk [.is (.cell 1 0 2) (.own 0 0 8 0 (O Y4.2.Acc.b8)),.is (.cell 1 0 3) (.own 0 1 7 0 (O Y4.2.a9)),.is (.cell 1 0 7) (.own 0 2 1 0 (O Y4.2.d7)),.is (.cell 1 0 16) (.own 0 3 1 0 (O Y4.2.b8)),.is (.cell 1 0 26) (.own 0 4 7 0 (O Y4.2.i5))] [2,4,7] JW hI)) (λh=>u6 h hc1 λhI=>E7 m9<|sk [.frz (.tmp 7) (Z)] [2,4,7] JW hI))))))))
def a3j:FS (m6):=⟨77,Tryz.f77,[.val F4 Z2],[Z,Z],[.val F4 Z2,.val [U 5] []],λr=>.agg (Y2 r),λ_=>[Z,Z],Tryz.func77⟩
def d4x(w:m6):(E s8)->KS:=λTold1=>⟨a3j.k 3 [W],bs 2 (.ptr 1 0 0::bs 1 (.ptr 3 0 0::bs 23 [])),[U [F7 59 27 B8 w.b9,s5 70 13 x7 w.c9,s5 72 3 C9 w.i4,.dead],U [.var 28 [.own 0 0 27 0 (O w.b9),.own 0 1 13 0 (O w.c9),.own 0 2 3 0 (O w.i4),.own 2 0 5 0 (O Told1)]],U [s5 66 5 B6 Told1],U jq]⟩
def c9u(w:m6)(Told1:E s8):Option m6:=
 U (m6.mk w.b9 w.c9 w.i4 Told1)
def f5p(w)(r):NF a3j r (d4x w) (λs=>c9u w s):=λTold1 h=>PK<|rg<|L0 w.b9 w.c9 w.i4 Told1<|fE h
def e57(w:m6)(list:E s8):((E s8)×Int)->KS:=λ(Told,i)=>⟨a3j.k 2 [],bs 1 (n7 5 B6 list::(.ptr 1 0 0::bs 1 (.ptr 2 0 0::(vi i::bs 22 [])))),[U [F7 59 27 B8 w.b9,s5 70 13 x7 w.c9,s5 72 3 C9 w.i4,.dead],U [.var 28 [.own 0 0 27 0 (O w.b9),.own 0 1 13 0 (O w.c9),.own 0 2 3 0 (O w.i4),.own 3 0 5 0 (O Told)]],U jq,U [s5 66 5 B6 Told]]⟩
def a4Y(list:E s8)(Told:E s8)(i:Int):Option (n6 m6 ((E s8)×Int) (E s8)):=
 (bif decide (i<(O list:Int))then bif decide ((O Told:Int)<60)then(idx list i).bind λtold=>z5 (((O Told)+1)*40<=140737488355328) (U (n6.nxt (Told++[told],s6 (i+1))))else U (n6.brk Told)else U (n6.brk Told))
def e2V(w list):LQ a3j (d4x w) (e57 w list) (λs=>a4Y list s.1 s.2):=λlc (Told,i) h=>PK<|rg<|l9 4 h (λh=>l9 9 h (λh=>rg<|A3 B6 4 h λtold a6h h=>tk 6 []<|z9 h λe1 h=>J4 7 21 66 5 40 B6 Told told e1<|I2 told<|rg<|(lc.nx h λhI=>sk [] [1,2,4,5] [(1,0),(2,0),(21,0)] hI)) (λh=>lc.bk h λhI=>sk [] [2,4] Jk hI)) (λh=>lc.bk h λhI=>sk [] [2,4] Jk hI)
def a5t(w:m6)(list:E s8):Option m6:=
 ((u5 (λs:(E s8)×Int=>a4Y list s.1 s.2) (w.Told,0)).bind λx=>x.go (λr=>U r) λs=>c9u w s)
def a9A{w list}:OK a3j [.agg (Y2 w),n7 5 B6 list] (a5t w list):=
 t9 _ λr h=>t5<|lp (e2V w list) h (λ_ h=>a3j.rt h) (f5p w r) λhI=>sk [] [1,2,4,5] [(1,0),(2,0),(0,3)] hI
def b8K:FS (m6):=⟨72,Tryz.f72,[.val F4 Z2],[Z,Z],[.val F4 Z2,.val [Z,Z,U 4] []],λr=>.agg (Y2 r),λ_=>[Z,Z],Tryz.func72⟩
def b3S(node:m4):E V:=([vi node.Id,vi node.Acc.i7,.own 40 0 8 0 (O node.Acc.b8),.own 40 1 7 0 (O node.a9),vi node.Seq,vi node.d6,vi node.b5,.own 40 2 1 0 (O node.d7)]++a7S node++[.own 40 3 1 0 (O node.b8)]++a5j node++[.own 40 4 7 0 (O node.i5)])
def d1d(a3R:m4×(E m9)×E s8):E V:=(a8o a3R.1)
def b0T(w:m6)(e_:v6):Option m6:=
 (bif decide (e_.A<0)then U w else bif decide (e_.A>=(O w.c9:Int))then U w else(idx w.c9 e_.A).bind λmsg=>(a9P msg).bind λJ8=>bif(e_.b7==4)then(a4b w [J8]).bind λa4N=>U a4N else bif(e_.b7==3)then(b49 w e_.A).bind λc6s=>U c6s else(b49 w e_.A).bind λa1k=>(idx a1k.b9 J8.To).bind λnode=>(c0t node J8).bind λa3R=>(a4b (m6.mk (a1k.b9.set J8.To.toNat a3R.1) a1k.c9 a1k.i4 a1k.Told) a3R.2.1).bind λa35=>(a5t a35 a3R.2.2).bind λa4E=>U a4E)
set_option maxRecDepth 20000 in
def c5x{w e_}:OK b8K [.agg (Y2 w),.agg (L2 e_)] (b0T w e_):=
 t9 _ λr h=>t5<|l9 3 h (λh=>rg<|D4 w<|fE h) (λh=>l9 10 h (λh=>rg<|D4 w<|fE h) (λh=>rg<|D6 h λmsg hmsg h=>E2 hmsg<|M4 x7 5 hmsg<|n9 b5T c1G 6 h λJ8 h=>t5<|l9 1 h (λh=>rg<|tk 2 E5<|n9 a2M a70 3 h λa4N h=>D4 w<|I2 J8<|D4 a4N<|fE h) (λh=>rg<|l9 1 h (λh=>rg<|n9 c4l c9t 3 h λc6s h=>D4 w<|D4 c6s<|fE h) (λh=>rg<|n9 c4l c9t 3 h λa1k h=>D4 w<|rg<|D6 h λnode hnode h=>E2 hnode<|ob (b5H (enc:=B8) hnode)<|tl (5,{a:=.drow (B8 node)})<|n9 b9k e3m 7 h λa3R h=>C5 node<|rg<|E2 hnode<|om (x8.deep W 59 27 (O a1k.b9) (((a1k.b9.map B8).set (0+J8.To.toNat) (b3S node)).set (0+J8.To.toNat) (d1d a3R))=F7 59 27 B8 (a1k.b9.set J8.To.toNat a3R.1)) (b0J (a0I (a10 rfl)) (by simp))<|om (M6 (((a1k.b9.map B8).set (0+J8.To.toNat) (b3S node)).set (0+J8.To.toNat) (d1d a3R))) (a9h (a0I (a10 rfl)) a8M)<|om (((a1k.b9.map B8).set (0+J8.To.toNat) (b3S node))[0+J8.To.toNat]?=U (b3S node)) (a3l (a2U hnode))<|C5 a3R.1<|tl (6,{a:=.dsc (b3S node) [Z,Z,U 8,U 7,Z,Z,Z,U 1,U 8,Z,Z,Z,U 2,U 2,Z,Z,U 1,Z,U 4,Z,Z,Z,U 2,U 2,Z,Z,U 7] [Z,Z,U 121,U 50,Z,Z,Z,U 4,Z,Z,Z,Z,Z,Z,Z,Z,U 4,Z,Z,Z,Z,Z,Z,Z,Z,Z,U 50],e:=U (F7 59 27 B8 (a1k.b9.set J8.To.toNat a3R.1))})<|rg<|n9 a2M a70 2 h λa35 h=>om ((O a1k.b9)=(a1k.b9.set J8.To.toNat a3R.1).length) (by simp)<|ol3 a1k.c9 a1k.i4 a1k.Told<|n9 a3j a9A 4 h λa4E h=>D4 a35<|D4 a4E<|fE h))))
def d0l:FS (Bool):=⟨174,Tryz.f174,[.val [] []],[Z],[.val a0p []],λr=>.b r,λ_=>[Z],Tryz.func174⟩
def c2v(v_:s7):Option Bool:=
 (bif(v_.b5==0)then bif(!v_.i9.j9)then bif(([v_.i9.b6.i0,v_.i9.b6.Seq]:E Int)==[0,0])then(b2i v_.i9.g8 (s9.mk [] [] 0 0)).bind λa4K=>U a4K else U W else U W else(a2O v_.b5).bind λa1i=>bif a1i then(a2C v_.i9).bind λI0=>U I0 else U W)
def f2g{v_}:OK d0l [.agg (w6 v_)] (c2v v_):=
 t9 _ λr h=>t5<|l9 2 h (λh=>rg<|l9 4 h (λh=>l9 11 h (λh=>n9 a2u c7G 16 h λa4K h=>fE h) (λh=>fE h)) (λh=>fE h)) (λh=>rg<|n9 a27 a3x 2 h λa1i h=>l9 3 h (λh=>n9 a3M a39 6 h λI0 h=>fE h) (λh=>fE h))
def a4I:FS (Bool):=⟨121,Tryz.f121,[.val [] []],[Z],[.val [U 8] []],λr=>.b r,λ_=>[Z],Tryz.func121⟩
def d7S:Unit->KS:=λ_=>⟨a4I.k 4 [W,W],bs 19 [],[U []]⟩
def d2d:Option Bool:=
 U Y
def e9L(r):NF a4I r d7S (λs=>d2d):=λ_ h=>PK<|rg<|fE h
def f6o(list:E s7):Int->KS:=λi=>⟨a4I.k 3 [W],n7 8 w6 list::bs 2 (vi i::bs 15 []),[U []]⟩
def b7E(list:E s7)(i:Int):Option (n6 Bool Int Unit):=
 (bif decide (i<(O list:Int))then(idx list i).bind λvote=>(c2v vote).bind λd8X=>bif(!d8X)then U (n6.ret W)else U (n6.nxt (s6 (i+1)))else U (n6.brk ()))
def e1U(list):LQ a4I d7S (f6o list) (λs=>b7E list s):=λlc i h=>PK<|rg<|l9 3 h (λh=>rg<|A3 w6 2 h λvote N9 h=>n9 d0l f2g 4 h λd8X h=>l9 5 h (λh=>rg<|fL lc h) (λh=>rg<|(lc.nx h λhI=>sk [] [0,3] [] hI))) (λh=>lc.bk h λhI=>sk [] [] [] hI)
def a7M(list:E s7):Option Bool:=
 (bif decide ((O list:Int)>40)then U W else(u5 (λs:Int=>b7E list s) 0).bind λx=>x.go (λr=>U r) λs=>d2d)
def b6R{list}:OK a4I [n7 8 w6 list] (a7M list):=
 t9 _ λr h=>t5<|l9 2 h (λh=>rg<|fE h) (λh=>rg<|lp (e1U list) h (λ_ h=>a4I.rt h) (e9L r) λhI=>sk [] [0,3] [] hI)
def a88:FS (Bool):=⟨114,Tryz.f114,[.val [] []],[Z],[.val [Z,U 8] []],λr=>.b r,λ_=>[Z],Tryz.func114⟩
def d3r:Unit->KS:=λ_=>⟨a88.k 4 [W,W],bs 34 [],[U []]⟩
def d7g:Option Bool:=
 U Y
def e5X(r):NF a88 r d3r (λs=>d7g):=λ_ h=>PK<|rg<|fE h
def e2u(a:B4):Int->KS:=λi=>⟨a88.k 3 [W],bs 1 (.ptr 1 0 0::bs 1 (vi i::bs 30 [])),[U [],U [.var 56 [vi a.i7,n7 8 w6 a.b8]]]⟩
def c0c(a:B4)(i:Int):Option (n6 Bool Int Unit):=
 (bif decide (i<(O a.b8:Int))then(idx a.b8 i).bind λvote=>bif decide (vote.b5>a.i7)then U (n6.ret W)else U (n6.nxt (s6 (i+1)))else U (n6.brk ()))
def e6x(a):LQ a88 d3r (e2u a) (λs=>c0c a s):=λlc i h=>PK<|rg<|l9 4 h (λh=>rg<|A3 w6 3 h λvote N9 h=>l9 8 h (λh=>rg<|fL lc h) (λh=>rg<|(lc.nx h λhI=>sk [] [1,3] jv hI))) (λh=>lc.bk h λhI=>sk [] [] [] hI)
def c02(a:B4):Option Bool:=
 (bif decide (a.i7<0)then U W else bif decide (a.i7>3000)then U W else(a7M a.b8).bind λa6W=>bif(!a6W)then U W else(u5 (λs:Int=>c0c a s) 0).bind λx=>x.go (λr=>U r) λs=>d7g)
def f7I{a}:OK a88 [.agg (a1h a)] (c02 a):=
 t9 _ λr h=>t5<|l9 3 h (λh=>rg<|fE h) (λh=>l9 8 h (λh=>rg<|fE h) (λh=>n9 a4I b6R 11 h λa6W h=>l9 13 h (λh=>rg<|fE h) (λh=>rg<|lp (e6x a) h (λ_ h=>a88.rt h) (e5X r) λhI=>sk [] [1,3] jv hI)))
def a86:FS (Bool):=⟨115,Tryz.f115,[.val [] []],[Z],[.val [U 7] []],λr=>.b r,λ_=>[Z],Tryz.func115⟩
def d51:Unit->KS:=λ_=>⟨a86.k 4 [W,W],bs 19 [],[U []]⟩
def d0D:Option Bool:=
 U Y
def e6a(r):NF a86 r d51 (λs=>d0D):=λ_ h=>PK<|rg<|fE h
def e5K(list:E p9):Int->KS:=λi=>⟨a86.k 3 [W],n7 7 x9 list::bs 2 (vi i::bs 15 []),[U []]⟩
def b8P(list:E p9)(i:Int):Option (n6 Bool Int Unit):=
 (bif decide (i<(O list:Int))then(idx list i).bind λentry=>(a2C entry).bind λI0=>bif(!I0)then U (n6.ret W)else U (n6.nxt (s6 (i+1)))else U (n6.brk ()))
def f7l(list):LQ a86 d51 (e5K list) (λs=>b8P list s):=λlc i h=>PK<|rg<|l9 3 h (λh=>rg<|A3 x9 2 h λentry K6 h=>n9 a3M a39 4 h λI0 h=>l9 5 h (λh=>rg<|fL lc h) (λh=>rg<|(lc.nx h λhI=>sk [] [0,3] [] hI))) (λh=>lc.bk h λhI=>sk [] [] [] hI)
def b7b(list:E p9):Option Bool:=
 (bif decide ((O list:Int)>40)then U W else(u5 (λs:Int=>b8P list s) 0).bind λx=>x.go (λr=>U r) λs=>d0D)
def f8X{list}:OK a86 [n7 7 x9 list] (b7b list):=
 t9 _ λr h=>t5<|l9 2 h (λh=>rg<|fE h) (λh=>rg<|lp (f7l list) h (λ_ h=>a86.rt h) (e6a r) λhI=>sk [] [0,3] [] hI)
def a8W:FS (Bool):=⟨119,Tryz.f119,[.val [] []],[Z],[.val Q2 []],λr=>.b r,λ_=>[Z],Tryz.func119⟩
def a6s(e_:p9):Option Bool:=
 (bif(!e_.j9)then bif(([e_.b6.i0,e_.b6.Seq]:E Int)==[0,0])then(b2i e_.g8 (s9.mk [] [] 0 0)).bind λa4K=>U a4K else U W else U W)
def b1p{e_}:OK a8W [.agg (x9 e_)] (a6s e_):=
 t9 _ λr h=>t5<|l9 3 h (λh=>l9 9 h (λh=>n9 a2u c7G 13 h λa4K h=>fE h) (λh=>fE h)) (λh=>fE h)
def c0q:FS (Int):=⟨171,Tryz.f171,[.val [] []],[Z],[.val [] []],λr=>vi r,λ_=>[Z],Tryz.func171⟩
def b1M(bal:Int):Option Int:=
 ((a2O bal).bind λa1i=>bif(!a1i)then U (-1)else U (g1w bal 3))
def c64{bal}:OK c0q [vi bal] (b1M bal):=
 t9 _ λr h=>t5<|n9 a27 a3x 1 h λa1i h=>l9 2 h (λh=>rg<|fE h) (λh=>rg<|om (3≠(0:Int)) (by decide)<|fE h)
def e0y:FS (Bool):=⟨116,Tryz.f116,[.val [] []],[Z],[.val D1 []],λr=>.b r,λ_=>[Z],Tryz.func116⟩
def b9Z(n:m4):Option Bool:=
 (bif(n.d6==0)then bif(n.b5==0)then bif((O n.d7:Int)==0)then bif((O n.j5:Int)==0)then(a6s n.g9).bind λl7None=>bif l7None then U ((O n.b8:Int)==0)else U W else U W else U W else U W else bif(n.d6==1)then(a2O n.b5).bind λa1i=>bif a1i then bif decide (n.b5<=n.Acc.i7)then(b1M n.b5).bind λa7u=>bif(a7u==n.Id)then bif((O n.d7:Int)==3)then(idx n.d7 n.Id).bind λy=>bif y then(a7M n.j5).bind λa6W=>bif a6W then(a6s n.g9).bind λd7T=>bif d7T then U ((O n.b8:Int)==0)else U W else U W else U W else U W else U W else U W else U W else bif(n.d6==2)then(a2O n.b5).bind λb5s=>bif(!b5s)then U W else bif decide (n.b5>n.Acc.i7)then U W else(b1M n.b5).bind λd23=>bif(d23 != n.Id)then U W else bif((O n.d7:Int) != 0)then U W else(a7M n.j5).bind λd1i=>bif(!d1i)then U W else bif(n.d6==2)then(a6s n.g9).bind λd08=>bif d08 then U ((O n.b8:Int)==0)else U W else(a2C n.g9).bind λI0=>bif I0 then bif((O n.b8:Int)==3)then(idx n.b8 n.Id).bind λy1=>bif y1 then U (decide ((O n.a9:Int)<40))else U W else U W else U W else bif(n.d6==3)then(a2O n.b5).bind λb5b=>bif(!b5b)then U W else bif decide (n.b5>n.Acc.i7)then U W else(b1M n.b5).bind λd4V=>bif(d4V != n.Id)then U W else bif((O n.d7:Int) != 0)then U W else(a7M n.j5).bind λd7a=>bif(!d7a)then U W else bif(n.d6==2)then(a6s n.g9).bind λd6d=>bif d6d then U ((O n.b8:Int)==0)else U W else(a2C n.g9).bind λa4C=>bif a4C then bif((O n.b8:Int)==3)then(idx n.b8 n.Id).bind λy2=>bif y2 then U (decide ((O n.a9:Int)<40))else U W else U W else U W else U W)
set_option maxRecDepth 20000 in
def g0K{n}:OK e0y [.agg (B3 n)] (b9Z n):=
 t9 _ λr h=>T1<|l9 1 h (λh=>rg<|l9 3 h (λh=>l9 9 h (λh=>l9 15 h (λh=>n9 a8W b1p 18 h λl7None h=>l9 20 h (λh=>fE h) (λh=>fE h)) (λh=>fE h)) (λh=>fE h)) (λh=>fE h)) (λh=>rg<|l9 1 h (λh=>rg<|n9 a27 a3x 2 h λa1i h=>l9 3 h (λh=>l9 11 h (λh=>n9 c0q c64 14 h λa7u h=>l9 19 h (λh=>l9 25 h (λh=>A3 eB 30 h λy hy h=>l9 33 h (λh=>n9 a4I b6R 36 h λa6W h=>l9 38 h (λh=>n9 a8W b1p 41 h λd7T h=>l9 43 h (λh=>fE h) (λh=>fE h)) (λh=>fE h)) (λh=>fE h)) (λh=>fE h)) (λh=>fE h)) (λh=>fE h)) (λh=>fE h)) (λh=>rg<|l9 1 h (λh=>rg<|n9 a27 a3x 2 h λb5s h=>l9 4 h (λh=>rg<|fE h) (λh=>l9 12 h (λh=>rg<|fE h) (λh=>n9 c0q c64 15 h λd23 h=>l9 20 h (λh=>rg<|fE h) (λh=>l9 26 h (λh=>rg<|fE h) (λh=>n9 a4I b6R 29 h λd1i h=>l9 31 h (λh=>rg<|fE h) (λh=>rg<|l9 2 h (λh=>rg<|n9 a8W b1p 2 h λd08 h=>l9 3 h (λh=>fE h) (λh=>fE h)) (λh=>rg<|n9 a3M a39 2 h λI0 h=>l9 3 h (λh=>l9 9 h (λh=>A3 eB 14 h λy1 hy1 h=>l9 17 h (λh=>fE h) (λh=>fE h)) (λh=>fE h)) (λh=>fE h)))))))) (λh=>rg<|l9 1 h (λh=>rg<|n9 a27 a3x 2 h λb5b h=>l9 4 h (λh=>rg<|fE h) (λh=>l9 12 h (λh=>rg<|fE h) (λh=>n9 c0q c64 15 h λd4V h=>l9 20 h (λh=>rg<|fE h) (λh=>l9 26 h (λh=>rg<|fE h) (λh=>n9 a4I b6R 29 h λd7a h=>l9 31 h (λh=>rg<|fE h) (λh=>rg<|l9 2 h (λh=>rg<|n9 a8W b1p 2 h λd6d h=>l9 3 h (λh=>fE h) (λh=>fE h)) (λh=>rg<|n9 a3M a39 2 h λa4C h=>l9 3 h (λh=>l9 9 h (λh=>A3 eB 14 h λy2 hy2 h=>l9 17 h (λh=>fE h) (λh=>fE h)) (λh=>fE h)) (λh=>fE h)))))))) (λh=>rg<|fE h))))
def a45:FS (Bool):=⟨175,Tryz.f175,[.val [] []],[Z],[.val [] []],λr=>.b r,λ_=>[Z],Tryz.func175⟩
def a3N(n:Int):Option Bool:=
 (bif decide (n>=0)then U (decide (n<4))else U W)
def a6v{n}:OK a45 [vi n] (a3N n):=
 t9 _ λr h=>t5<|l9 2 h (λh=>fE h) (λh=>fE h)
def d2y:FS (Bool):=⟨122,Tryz.f122,[.val [] []],[Z],[.val [] []],λr=>.b r,λ_=>[Z],Tryz.func122⟩
def b78(i:t8):Option Bool:=
 (bif(i.b7==1)then(a3N i.A).bind λd1h=>bif d1h then(b0j i.B).bind λb4B=>bif b4B then U (i.N==0)else U W else U W else bif(i.b7==2)then(b0j i.A).bind λb6G=>bif b6G then(a3N i.B).bind λd2M=>bif d2M then U (i.N==0)else U W else U W else bif(i.b7==3)then(a3N i.A).bind λd28=>bif d28 then bif(i.B==0)then(a7W i.N).bind λa2L=>U a2L else U W else U W else bif(i.b7==4)then(a3N i.A).bind λe0e=>bif e0e then(a3N i.B).bind λd7u=>bif d7u then U (i.N==0)else U W else U W else bif(i.b7==5)then(a3N i.A).bind λd55=>bif d55 then(a3N i.B).bind λd0p=>bif d0p then U (i.N==0)else U W else U W else bif(i.b7==6)then(a3N i.A).bind λd83=>bif d83 then(a3N i.B).bind λd6m=>bif d6m then bif decide (i.N>=1)then U (decide (i.N<=10))else U W else U W else U W else bif(i.b7==7)then bif(i.A==0)then bif(i.B==0)then U (i.N==0)else U W else U W else U W)
def f5Q{i}:OK d2y [.agg (C2 i)] (b78 i):=
 t9 _ λr h=>T1<|l9 1 h (λh=>rg<|n9 a45 a6v 2 h λd1h h=>l9 3 h (λh=>n9 b5Z b9G 6 h λb4B h=>l9 8 h (λh=>fE h) (λh=>fE h)) (λh=>fE h)) (λh=>rg<|l9 1 h (λh=>rg<|n9 b5Z b9G 2 h λb6G h=>l9 3 h (λh=>n9 a45 a6v 6 h λd2M h=>l9 8 h (λh=>fE h) (λh=>fE h)) (λh=>fE h)) (λh=>rg<|l9 1 h (λh=>rg<|n9 a45 a6v 2 h λd28 h=>l9 3 h (λh=>l9 8 h (λh=>n9 a9m b25 11 h λa2L h=>fE h) (λh=>fE h)) (λh=>fE h)) (λh=>rg<|l9 1 h (λh=>rg<|n9 a45 a6v 2 h λe0e h=>l9 3 h (λh=>n9 a45 a6v 6 h λd7u h=>l9 8 h (λh=>fE h) (λh=>fE h)) (λh=>fE h)) (λh=>rg<|l9 1 h (λh=>rg<|n9 a45 a6v 2 h λd55 h=>l9 3 h (λh=>n9 a45 a6v 6 h λd0p h=>l9 8 h (λh=>fE h) (λh=>fE h)) (λh=>fE h)) (λh=>rg<|l9 1 h (λh=>rg<|n9 a45 a6v 2 h λd83 h=>l9 3 h (λh=>n9 a45 a6v 6 h λd6m h=>l9 8 h (λh=>l9 13 h (λh=>fE h) (λh=>fE h)) (λh=>fE h)) (λh=>fE h)) (λh=>rg<|l9 1 h (λh=>rg<|l9 3 h (λh=>l9 8 h (λh=>fE h) (λh=>fE h)) (λh=>fE h)) (λh=>rg<|fE h)))))))
def a6w:FS (Bool):=⟨68,Tryz.f68,[.val [] []],[Z],[.val [U 4] []],λr=>.b r,λ_=>[Z],Tryz.func68⟩
def d82:Unit->KS:=λ_=>⟨a6w.k 4 [W,W],bs 19 [],[U []]⟩
def d3i:Option Bool:=
 U Y
def e7W(r):NF a6w r d82 (λs=>d3i):=λ_ h=>PK<|rg<|fE h
def e2e(list:E t8):Int->KS:=λi=>⟨a6w.k 3 [W],n7 4 C2 list::bs 2 (vi i::bs 15 []),[U []]⟩
def b8E(list:E t8)(i:Int):Option (n6 Bool Int Unit):=
 (bif decide (i<(O list:Int))then(idx list i).bind λins=>(b78 ins).bind λd19=>bif(!d19)then U (n6.ret W)else U (n6.nxt (s6 (i+1)))else U (n6.brk ()))
def e21(list):LQ a6w d82 (e2e list) (λs=>b8E list s):=λlc i h=>PK<|rg<|l9 3 h (λh=>rg<|A3 C2 2 h λins hins h=>n9 d2y f5Q 4 h λd19 h=>l9 5 h (λh=>rg<|fL lc h) (λh=>rg<|(lc.nx h λhI=>sk [] [0,3] [] hI))) (λh=>lc.bk h λhI=>sk [] [] [] hI)
def b0Q(list:E t8):Option Bool:=
 (bif decide ((O list:Int)>10)then U W else(u5 (λs:Int=>b8E list s) 0).bind λx=>x.go (λr=>U r) λs=>d3i)
def c4a{list}:OK a6w [n7 4 C2 list] (b0Q list):=
 t9 _ λr h=>t5<|l9 2 h (λh=>rg<|fE h) (λh=>rg<|lp (e21 list) h (λ_ h=>a6w.rt h) (e7W r) λhI=>sk [] [0,3] [] hI)
def d6I:FS (Bool):=⟨117,Tryz.f117,[.val [] []],[Z],[.val D1 []],λr=>.b r,λ_=>[Z],Tryz.func117⟩
def b7X(n:m4):Option Bool:=
 (bif(!n.j6)then bif((O n.j8:Int)==0)then(a6s n.d9).bind λl7None=>U l7None else U W else(b0Q n.j8).bind λH8=>bif H8 then(a2C n.d9).bind λI0=>bif I0 then bif(!n.d9.j9)then U (([n.d9.b6.i0,n.d9.b6.Seq]:E Int)==[n.Id,n.Seq])else U W else U W else U W)
def f8y{n}:OK d6I [.agg (B3 n)] (b7X n):=
 t9 _ λr h=>t5<|l9 2 h (λh=>rg<|l9 4 h (λh=>n9 a8W b1p 7 h λl7None h=>fE h) (λh=>fE h)) (λh=>rg<|n9 a6w c4a 2 h λH8 h=>l9 3 h (λh=>n9 a3M a39 6 h λI0 h=>l9 8 h (λh=>l9 14 h (λh=>fE h) (λh=>fE h)) (λh=>fE h)) (λh=>fE h))
def a3J:FS (Bool):=⟨65,Tryz.f65,[.val [] []],[Z],[.val D1 []],λr=>.b r,λ_=>[Z],Tryz.func65⟩
def d5t:Unit->KS:=λ_=>⟨a3J.k 4 [W,W],bs 72 [],[U []]⟩
def c6R:Option Bool:=
 U Y
def e5S(r):NF a3J r d5t (λs=>c6R):=λ_ h=>PK<|rg<|fE h
def e4c(n:m4):Int->KS:=λi=>⟨a3J.k 3 [W],bs 1 (.ptr 1 0 0::bs 1 (vi i::bs 68 [])),[U [],U [.var 59 (a0z n)]]⟩
def c0r(n:m4)(i:Int):Option (n6 Bool Int Unit):=
 (bif decide (i<(O n.i5:Int))then(idx n.i5 i).bind λentry=>(a2C entry).bind λI0=>bif(!I0)then U (n6.ret W)else bif entry.j9 then U (n6.ret W)else U (n6.nxt (s6 (i+1)))else U (n6.brk ()))
def f2Z(n):LQ a3J d5t (e4c n) (λs=>c0r n s):=λlc i h=>PK<|rg<|l9 4 h (λh=>rg<|A3 x9 3 h λentry K6 h=>n9 a3M a39 5 h λI0 h=>l9 7 h (λh=>rg<|fL lc h) (λh=>P7 x9 11 K6<|l9 14 h (λh=>rg<|fL lc h) (λh=>rg<|(lc.nx h λhI=>sk [] [1,3] jv hI)))) (λh=>lc.bk h λhI=>sk [] [] [] hI)
def a5S(n:m4):Option Bool:=
 (bif decide (n.Id<0)then U W else bif decide (n.Id>=3)then U W else(c02 n.Acc).bind λV0=>bif(!V0)then U W else(b7b n.a9).bind λd6M=>bif(!d6M)then U W else bif decide (n.Seq<0)then U W else bif decide (n.Seq>1000)then U W else bif decide ((O n.i5:Int)>4)then U W else(b9Z n).bind λd3q=>bif(!d3q)then U W else(b7X n).bind λc9j=>bif(!c9j)then U W else(u5 (λs:Int=>c0r n s) 0).bind λx=>x.go (λr=>U r) λs=>c6R)
def b1Q{n}:OK a3J [.agg (B3 n)] (a5S n):=
 t9 _ λr h=>t5<|l9 3 h (λh=>rg<|fE h) (λh=>l9 8 h (λh=>rg<|fE h) (λh=>n9 a88 f7I 11 h λV0 h=>l9 14 h (λh=>rg<|fE h) (λh=>n9 a86 f8X 17 h λd6M h=>l9 20 h (λh=>rg<|fE h) (λh=>l9 25 h (λh=>rg<|fE h) (λh=>l9 30 h (λh=>rg<|fE h) (λh=>l9 36 h (λh=>rg<|fE h) (λh=>n9 e0y g0K 38 h λd3q h=>l9 41 h (λh=>rg<|fE h) (λh=>n9 d6I f8y 43 h λc9j h=>l9 45 h (λh=>rg<|fE h) (λh=>rg<|lp (f2Z n) h (λ_ h=>a3J.rt h) (e5S r) λhI=>sk [] [1,3] jv hI)))))))))
def d45:FS (B4):=⟨124,Tryz.f124,[.val [Z,U 8] [Z,U 121]],[Z],[.val [Z,U 8] []],λr=>.agg [vi r.i7,A5 121 8 w6 r.b8],λ_=>[Z],Tryz.func124⟩
def c8h(a:B4):Option B4:=
 ((a9k a.b8).bind λa0Q=>U (B4.mk a.i7 a0Q))
def f9N{a}:OK d45 [.agg (a1h a)] (c8h a):=
 t9 _ λr h=>t5<|n9 a5w c2i 4 h λa0Q h=>z0 a0Q<|fE h
def a62:FS (E p9):=⟨125,Tryz.f125,[.val [U 7] [U 50]],[Z],[.val [U 7] []],λr=>A5 50 7 x9 r,λ_=>[Z],Tryz.func125⟩
def d9H:(E p9)->KS:=λout1=>⟨a62.k 4 [W],bs 3 (.own 1 0 7 0 (O out1)::bs 17 []),[U [],U [s5 50 7 x9 out1]]⟩
def d8C(out1:E p9):Option (E p9):=
 U out1
def f6x(r):NF a62 r d9H (λs=>d8C s):=λout1 h=>PK<|rg<|z0 out1<|fE h
def f7R(list:E p9):((E p9)×Int)->KS:=λ(out,i)=>⟨a62.k 3 [],n7 7 x9 list::bs 2 (.own 1 0 7 0 (O out)::(vi i::bs 16 [])),[U [],U [s5 50 7 x9 out]]⟩
def b58(list:E p9)(out:E p9)(i:Int):Option (n6 (E p9) ((E p9)×Int) (E p9)):=
 (bif decide (i<(O list:Int))then(idx list i).bind λentry=>(a03 entry).bind λl5Entry=>z5 (((O out)+1)*88<=140737488355328) (U (n6.nxt (out++[l5Entry],s6 (i+1))))else U (n6.brk out))
def f1a(list):LQ a62 d9H (f7R list) (λs=>b58 list s.1 s.2):=λlc (out,i) h=>PK<|rg<|l9 3 h (λh=>rg<|A3 x9 3 h λentry K6 h=>n9 a1B a13 5 h λl5Entry h=>tk 6 Q2<|z9 h λe1 h=>J4 7 13 50 7 88 x9 out l5Entry e1<|I2 l5Entry<|rg<|(lc.nx h λhI=>sk [] [0,3,4] [(13,0)] hI)) (λh=>lc.bk h λhI=>sk [] [3] jv hI)
def b39(list:E p9):Option (E p9):=
 ((u5 (λs:(E p9)×Int=>b58 list s.1 s.2) (([]:E p9),0)).bind λx=>x.go (λr=>U r) λs=>d8C s)
def d0V{list}:OK a62 [n7 7 x9 list] (b39 list):=
 t9 _ λr h=>t5<|tk 0 Q2<|rg<|lp (f1a list) h (λ_ h=>a62.rt h) (f6x r) λhI=>om ((.own 2 0 7 0 0:V)=.own 2 0 7 0 ([]:E p9).length) (by simp)<|sk [.is (.tmp 3) (.own 2 0 7 0 ([]:E p9).length)] [0,3,4] Jv hI
def b1L:FS (m4):=⟨70,Tryz.f70,[.val D1 K4],[Z],[.val D1 []],λr=>.agg (K8 r),λ_=>[Z],Tryz.func70⟩
def a7C(n:m4):Option m4:=
 ((c8h n.Acc).bind λc6o=>(b39 n.a9).bind λc4W=>z5 ((([]:E Bool).length+(O n.d7))*1<=140737488355328) (((a9k n.j5).bind λa0Q=>(a03 n.g9).bind λl5Entry=>z5 ((([]:E Bool).length+(O n.b8))*1<=140737488355328) (z5 ((([]:E t8).length+(O n.j8))*32<=140737488355328) (((a03 n.d9).bind λb4C=>(b39 n.i5).bind λc3k=>U (m4.mk n.Id c6o c4W n.Seq n.d6 n.b5 (([]:E Bool)++n.d7) a0Q l5Entry (([]:E Bool)++n.b8) n.j6 (([]:E t8)++n.j8) b4C c3k)))))))
set_option maxRecDepth 20000 in
def b6H{n}:OK b1L [.agg (B3 n)] (a7C n):=
 t9 _ λr h=>T1<|n9 d45 f9N 2 h λc6o h=>rg<|n9 a62 d0V 2 h λc4W h=>rg<|tk 0 []<|z9 h λe1 h=>oa 19 0 1 ([]:E Bool) n.d7<|oz 4 1 eB ([]:E Bool) n.d7<|E7 Bool<|ob e1<|tl (3,{v:=U (.own 19 0 1 0 (([]:E Bool)++n.d7).length),e:=U (s5 4 1 eB (([]:E Bool)++n.d7))})<|rg<|n9 a5w c2i 2 h λa0Q h=>rg<|n9 a1B a13 2 h λl5Entry h=>rg<|tk 0 []<|z9 h λe2 h=>oa 35 0 1 ([]:E Bool) n.b8<|oz 4 1 eB ([]:E Bool) n.b8<|E7 Bool<|ob e2<|tl (3,{v:=U (.own 35 0 1 0 (([]:E Bool)++n.b8).length),e:=U (s5 4 1 eB (([]:E Bool)++n.b8))})<|rg<|tk 0 []<|z9 h λe3 h=>oa 41 0 4 ([]:E t8) n.j8<|oz 88 4 C2 ([]:E t8) n.j8<|E7 t8<|ob e3<|tl (3,{v:=U (.own 41 0 4 0 (([]:E t8)++n.j8).length),e:=U (s5 88 4 C2 (([]:E t8)++n.j8))})<|rg<|n9 a1B a13 2 h λb4C h=>rg<|n9 a62 d0V 2 h λc3k h=>rg<|L0 c6o.b8 c4W (([]:E Bool)++n.d7) a0Q<|ol3 (([]:E Bool)++n.b8) (([]:E t8)++n.j8) c3k<|fE h
def b0B:FS (A4):=⟨214,Tryz.f214,[.val [Z,U 2,U 4] [Z,U 165,Z]],[Z],[.val [U 7] []],λr=>.agg (b4J r),λ_=>[Z],Tryz.func214⟩
def d2H:((E t7)×Int×E x6)->KS:=λ(Boxes1,sAt1,sDones1)=>⟨b0B.k 5 [W,W],bs 2 (.ptr 1 0 0::(.ptr 2 0 0::bs 32 [])),[U [],U jQ,U [.var 135 [vi sAt1,.own 3 0 2 0 (O Boxes1),n7 4 E4 sDones1]],U [s5 165 2 B9 Boxes1]]⟩
def d1S(Boxes1:E t7)(sAt1:Int)(sDones1:E x6):Option A4:=
 U (A4.mk sAt1 Boxes1 sDones1)
def f2a(r):NF b0B r d2H (λs=>d1S s.1 s.2.1 s.2.2):=λ(Boxes1,sAt1,sDones1) h=>PK<|rg<|z0 Boxes1<|fE h
def f6I(list:E p9):((E t7)×Int×Int×E x6)->KS:=λ(j4,i,sAt,sDones)=>⟨b0B.k 4 [W],n7 7 x9 list::bs 1 (.ptr 1 0 0::(.ptr 2 0 0::(vi i::bs 31 []))),[U [],U jQ,U [.var 135 [vi sAt,.own 3 0 2 0 (O j4),n7 4 E4 sDones]],U [s5 165 2 B9 j4]]⟩
def b1R(list:E p9)(j4:E t7)(i:Int)(sAt:Int)(sDones:E x6):Option (n6 A4 ((E t7)×Int×Int×E x6) ((E t7)×Int×E x6)):=
 (bif decide (i<(O list:Int))then(idx list i).bind λentry=>(a2C entry).bind λI0=>bif(!I0)then U (n6.ret (A4.mk 0 [] []))else(b4N (A4.mk sAt j4 sDones) entry).bind λa0w=>U (n6.nxt (a0w.1.j4,s6 (i+1),a0w.1.At,a0w.1.l7))else U (n6.brk (j4,sAt,sDones)))
def e4l(list):LQ b0B d2H (f6I list) (λs=>b1R list s.1 s.2.1 s.2.2.1 s.2.2.2):=λlc (j4,i,sAt,sDones) h=>PK<|rg<|l9 3 h (λh=>rg<|A3 x9 2 h λentry K6 h=>n9 a3M a39 4 h λI0 h=>l9 5 h (λh=>rg<|fL lc h) (λh=>rg<|P7 x9 3 K6<|n9 a6B d9I 5 h λa0w h=>z0 j4<|t5<|(lc.nx h λhI=>sk [] [0,2,3,4] [(1,0),(2,0),(19,0)] hI))) (λh=>lc.bk h λhI=>sk [] [2,3] jY hI)
def c0U(list:E p9):Option A4:=
 ((b6O).bind λa2v=>bif decide ((O list:Int)>40)then U (A4.mk 0 [] [])else(u5 (λs:(E t7)×Int×Int×E x6=>b1R list s.1 s.2.1 s.2.2.1 s.2.2.2) (a2v.j4,0,a2v.At,a2v.l7)).bind λx=>x.go (λr=>U r) λs=>d1S s.1 s.2.1 s.2.2)
def f1I{list}:OK b0B [n7 7 x9 list] (c0U list):=
 t9 _ λr h=>t5<|n9 c6D d68 0 h λa2v h=>rg<|l9 2 h (λh=>rg<|fE h) (λh=>rg<|lp (e4l list) h (λ_ h=>b0B.rt h) (f2a r) λhI=>sk [] [0,2,3,4] Jk hI)
def d6i:FS (A4):=⟨187,Tryz.f187,[.val [Z,U 2,U 4] []],[Z],[.val D1 []],λr=>.agg (a9S r),λ_=>[Z],Tryz.func187⟩
def b9T(n:m4):Option A4:=
 ((a5S n).bind λH4=>bif(!H4)then U (A4.mk 0 [] [])else(c0U n.a9).bind λa4O=>U a4O)
def e1z{n}:OK d6i [.agg (B3 n)] (b9T n):=
 t9 _ λr h=>t5<|n9 a3J b1Q 1 h λH4 h=>l9 2 h (λh=>rg<|fE h) (λh=>rg<|n9 b0B f1I 2 h λa4O h=>z0 a4O.j4<|fE h)
def b7t:FS (Int×s9):=⟨218,Tryz.f218,[.val [] [],.val U4 om5],[Z,Z,Z],[.val [U 2] [],.val U4 om5,.val [] []],λr=>.tup [vi r.1,.agg (a7H r.2)],λ_=>[Z,Z,Z],Tryz.func218⟩
def e2r(list:E t7)(r_:s9)(box:Int):(E w8)->KS:=λd8=>⟨b7t.k 5 [W,Y],n7 2 B9 list::bs 1 (vi box::bs 1 (.ptr 1 0 0::bs 2 (.ptr 3 0 0::bs 37 []))),[U [.dead,s5 119 2 A8 r_.f0],U [.var 48 [.own 2 0 2 0 (O d8),.own 0 1 2 0 (O r_.f0),vi r_.i8,vi r_.Code]],U [s5 116 2 A7 d8],U jZ]⟩
def c3K(list:E t7)(r_:s9)(box:Int)(d8:E w8):Option (Int×s9):=
 ((idx list box).bind λa0j=>U (a0j.i8,(s9.mk d8 r_.f0 r_.i8 r_.Code)))
def f0P(list r_ box)(r):NF b7t r (e2r list r_ box) (λs=>c3K list r_ box s):=λd8 h=>PK<|rg<|A3 B9 2 h λa0j b0L h=>G6 d8 r_.f0<|fE h
def c4z(list:E t7)(r_:s9)(box:Int):Option (Int×s9):=
 ((a76 r_.f0 box).bind λa3v=>bif decide (a3v>=0)then(idx r_.f0 a3v).bind λput=>U (put.i8,r_)else(((b3u r_.d8 box).bind λb3Y=>bif(!b3Y)then(idx list box).bind λb9v=>z5 (((O r_.d8)+1)*16<=140737488355328) (U (r9.brk (r_.d8++[w8.mk box b9v.l8])))else U (r9.brk r_.d8)):Option (r9 (Int×s9) (E w8))).bind λx=>x.go U λj=>c3K list r_ box j)
def e03{list r_ box}:OK b7t [n7 2 B9 list,.agg (a7H r_),vi box] (c4z list r_ box):=
 t9 _ λr h=>t5<|X9 a6r c7R 3 2 h λa3v h=>z0 r_.f0<|rg<|l9 1 h (λh=>rg<|D6 h λput hput h=>E2 hput<|M4 A8 5 hput<|olR r_<|fE h) (λh=>D5 h (f0P list r_ box r) λx1 h hc1=>rg<|X9 a7L c9h 3 2 h λb3Y h=>z0 r_.d8<|l9 4 h (λh=>rg<|A3 B9 5 h λb9v g0N h=>tk 9 []<|z9 h λe1 h=>J4 10 26 116 2 16 A7 r_.d8 (w8.mk box b9v.l8) e1<|I2 (w8.mk box b9v.l8)<|(u6 h hc1 λhI=>sk [] [0,2,4,7] [(1,0),(26,0),(3,0)] hI)) (λh=>u6 h hc1 λhI=>sk [] [0,2,4,7] [(1,0),(0,0),(3,0)] hI))
def d2K:FS (s9):=⟨219,Tryz.f219,[.val U4 om5],[Z,Z,Z],[.val U4 om5,.val [] [],.val [] []],λr=>.agg (a7H r),λ_=>[Z,Z,Z],Tryz.func219⟩
def c5P(r_:s9)(box:Int)(val:Int):Option s9:=
 ((a76 r_.f0 box).bind λa3v=>bif decide (a3v>=0)then(idx r_.f0 a3v).bind λput=>U (s9.mk r_.d8 (r_.f0.set a3v.toNat (u9.mk put.j7 val)) r_.i8 r_.Code)else z5 (((O r_.f0)+1)*16<=140737488355328) (U (s9.mk r_.d8 (r_.f0++[u9.mk box val]) r_.i8 r_.Code)))
def e2X{r_ box val}:OK d2K [.agg (a7H r_),vi box,vi val] (c5P r_ box val):=
 t9 _ λr h=>t5<|X9 a6r c7R 3 2 h λa3v h=>z0 r_.f0<|rg<|l9 1 h (λh=>rg<|D6 h λput hput h=>E2 hput<|W3 119 2 A8 6 [] (u9.mk put.j7 val) hput<|rg<|z0 r_.d8<|om ((O r_.f0)=(r_.f0.set a3v.toNat (u9.mk put.j7 val)).length) (by simp)<|fE h) (λh=>rg<|tk 5 []<|z9 h λe1 h=>J4 6 16 119 2 16 A8 r_.f0 (u9.mk box val) e1<|I2 (u9.mk box val)<|rg<|G6 r_.d8 (r_.f0++[u9.mk box val])<|fE h)
def b2Y:FS (s9×E Int):=⟨213,Tryz.f213,[.val U4 om5],[Z,Z,U (2,.row),Z],[.val [U 2] [],.val U4 om5,.row,.val [] []],λr=>.agg (a7H r.1),λr=>[Z,Z,U (A5 3 1 eI r.2),Z],Tryz.func213⟩
def f1p(i:t8):((E Int)×(E w8)×(E u9)×Int×Int)->KS:=λ(regs1,d8,f0,rVal,rCode)=>⟨b2Y.k 6 [Y],bs 2 (.own 0 2 1 0 (O regs1)::bs 2 (.ptr 1 0 0::bs 1 (.ptr 4 0 0::(.ptr 5 0 0::bs 90 [])))),[U [.dead,.dead,s5 3 1 eI regs1],U [.var 48 [.own 2 0 2 0 (O d8),.own 3 0 2 0 (O f0),vi rVal,vi rCode]],U [s5 116 2 A7 d8],U [s5 119 2 A8 f0],U [.var 88 [vi i.b7,vi i.A,vi i.B,vi i.N]],U jZ]⟩
def e5V(regs1:E Int)(d8:E w8)(f0:E u9)(rVal:Int):Int->KS:=λrCode1=>⟨b2Y.k 8 [Y,Y],bs 5 (.ptr 1 0 0::bs 2 (.ptr 4 0 0::bs 90 [])),[U [.dead,.dead,s5 3 1 eI regs1],U [.var 48 [.own 2 0 2 0 (O d8),.own 3 0 2 0 (O f0),vi rVal,vi rCode1]],U [s5 116 2 A7 d8],U [s5 119 2 A8 f0],U jZ]⟩
def b55(regs1:E Int)(d8:E w8)(f0:E u9)(rVal:Int)(rCode1:Int):Option (s9×E Int):=
 U ((s9.mk d8 f0 rVal rCode1),regs1)
def e3y(regs1 d8 f0 rVal)(r):NF b2Y r (e5V regs1 d8 f0 rVal) (λs=>b55 regs1 d8 f0 rVal s):=λrCode1 h=>PK<|rg<|ol3 d8 f0 regs1<|fE h
def b0n(i:t8)(regs1:E Int)(d8:E w8)(f0:E u9)(rVal:Int)(rCode:Int):Option (s9×E Int):=
 (((bif(i.b7 != 2)then(idx regs1 i.A).bind λy=>(a7W y).bind λa2L=>bif(!a2L)then U (r9.brk 2)else U (r9.brk rCode)else U (r9.brk rCode)):Option (r9 (s9×E Int) Int)).bind λx=>x.go U λj=>b55 regs1 d8 f0 rVal j)
def e2C(i)(r):NF b2Y r (f1p i) (λs=>b0n i s.1 s.2.1 s.2.2.1 s.2.2.2.1 s.2.2.2.2):=λ(regs1,d8,f0,rVal,rCode) h=>PK<|D5 h (e3y regs1 d8 f0 rVal r) λx1 h hc1=>rg<|l9 3 h (λh=>D6 h λy hy h=>E2 hy<|M4 eI 8 hy<|n9 a9m b25 9 h λa2L h=>l9 11 h (λh=>rg<|(u6 h hc1 λhI=>sk [] [5,8] JJ hI)) (λh=>u6 h hc1 λhI=>sk [] [5,8] JJ hI)) (λh=>u6 h hc1 λhI=>sk [] [5,8] JJ hI)
def b2O(list:E t7)(r_:s9)(regs:E Int)(i:t8):Option (s9×E Int):=
 (((bif(i.b7==1)then(c4z list r_ i.B).bind λa6F=>(idx regs i.A).bind λy1=>U (r9.brk (regs.set i.A.toNat a6F.1,a6F.2.d8,a6F.2.f0,a6F.2.i8,a6F.2.Code))else bif(i.b7==2)then(idx regs i.B).bind λy2=>(c5P r_ i.A y2).bind λb6b=>U (r9.brk (regs,b6b.d8,b6b.f0,b6b.i8,b6b.Code))else bif(i.b7==3)then(idx regs i.A).bind λy3=>U (r9.brk (regs.set i.A.toNat i.N,r_.d8,r_.f0,r_.i8,r_.Code))else bif(i.b7==4)then(idx regs i.A).bind λy4=>(idx regs i.B).bind λy5=>U (r9.brk (regs.set i.A.toNat (s6 (y4+y5)),r_.d8,r_.f0,r_.i8,r_.Code))else bif(i.b7==5)then(idx regs i.A).bind λy6=>(idx regs i.B).bind λy7=>U (r9.brk (regs.set i.A.toNat (s6 (y6-y7)),r_.d8,r_.f0,r_.i8,r_.Code))else bif(i.b7==7)then U (r9.brk (regs,r_.d8,r_.f0,r_.i8,1))else U (r9.brk (regs,r_.d8,r_.f0,r_.i8,r_.Code))):Option (r9 (s9×E Int) ((E Int)×(E w8)×(E u9)×Int×Int))).bind λx=>x.go U λj=>b0n i j.1 j.2.1 j.2.2.1 j.2.2.2.1 j.2.2.2.2)
set_option maxRecDepth 20000 in
def e5a{list r_ regs i}:OK b2Y [n7 2 B9 list,.agg (a7H r_),A5 3 1 eI regs,.agg (C2 i)] (b2O list r_ regs i):=
 t9 _ λr h=>t5<|D5 h (e2C i r) λx1 h hc1=>rg<|l9 1 h (λh=>rg<|n9 b7t e03 4 h λa6F h=>olR r_<|rg<|D6 h λy1 hy1 h=>E2 hy1<|W3 3 1 eI 5 [] a6F.1 hy1<|rg<|(u6 h hc1 λhI=>om ((.own 0 2 1 0 (O regs):V)=.own 0 2 1 0 (regs.set i.A.toNat a6F.1).length) (by simp)<|sk [.is (.tmp 2) (.own 0 2 1 0 (regs.set i.A.toNat a6F.1).length)] [2,5,7,8] [(1,0),(12,0),(12,1),(2,0),(3,0)] hI)) (λh=>rg<|l9 1 h (λh=>rg<|D6 h λy2 hy2 h=>E2 hy2<|M4 eI 7 hy2<|n9 d2K e2X 8 h λb6b h=>olR r_<|(u6 h hc1 λhI=>sk [] [2,5,7,8] [(1,0),(18,0),(18,1),(2,0),(3,0)] hI)) (λh=>rg<|l9 1 h (λh=>rg<|D6 h λy3 hy3 h=>E2 hy3<|W3 3 1 eI 6 [] i.N hy3<|(u6 h hc1 λhI=>om ((.own 0 2 1 0 (O regs):V)=.own 0 2 1 0 (regs.set i.A.toNat i.N).length) (by simp)<|sk [.is (.tmp 2) (.own 0 2 1 0 (regs.set i.A.toNat i.N).length)] [2,5,7,8] Jj hI)) (λh=>rg<|l9 1 h (λh=>rg<|D6 h λy4 hy4 h=>E2 hy4<|M4 eI 7 hy4<|D6 h λy5 hy5 h=>E2 hy5<|M4 eI 12 hy5<|E2 hy4<|W3 3 1 eI 15 [] (s6 (y4+y5)) hy4<|(u6 h hc1 λhI=>om ((.own 0 2 1 0 (O regs):V)=.own 0 2 1 0 (regs.set i.A.toNat (s6 (y4+y5))).length) (by simp)<|sk [.is (.tmp 2) (.own 0 2 1 0 (regs.set i.A.toNat (s6 (y4+y5))).length)] [2,5,7,8] Jj hI)) (λh=>rg<|l9 1 h (λh=>rg<|D6 h λy6 hy6 h=>E2 hy6<|M4 eI 7 hy6<|D6 h λy7 hy7 h=>E2 hy7<|M4 eI 12 hy7<|E2 hy6<|W3 3 1 eI 15 [] (s6 (y6-y7)) hy6<|(u6 h hc1 λhI=>om ((.own 0 2 1 0 (O regs):V)=.own 0 2 1 0 (regs.set i.A.toNat (s6 (y6-y7))).length) (by simp)<|sk [.is (.tmp 2) (.own 0 2 1 0 (regs.set i.A.toNat (s6 (y6-y7))).length)] [2,5,7,8] Jj hI)) (λh=>rg<|l9 1 h (λh=>rg<|(u6 h hc1 λhI=>sk [] [2,5,7,8] Jj hI)) (λh=>u6 h hc1 λhI=>sk [] [2,5,7,8] Jj hI))))))
def a6G:FS (s9):=⟨186,Tryz.f186,[.val U4 om5],[Z,Z],[.val [U 2] [],.val [U 4] []],λr=>.agg (a7H r),λ_=>[Z,Z],Tryz.func186⟩
def c6t:((E w8)×(E u9)×(E Int)×Int×Int)->KS:=λ(Reads1,Puts1,regs1,rVal1,rCode1)=>⟨a6G.k 6 [W,W],bs 4 (.ptr 1 0 0::(.ptr 2 0 0::(.own 5 0 1 0 (O regs1)::bs 61 []))),[U [],U jZ,U [.var 48 [.own 3 0 2 0 (O Reads1),.own 4 0 2 0 (O Puts1),vi rVal1,vi rCode1]],U [s5 116 2 A7 Reads1],U [s5 119 2 A8 Puts1],U [s5 3 1 eI regs1]]⟩
def a9v(Reads1:E w8)(Puts1:E u9)(regs1:E Int)(rVal1:Int)(rCode1:Int):Option s9:=
 (bif(rCode1 != 0)then U (s9.mk Reads1 [] rVal1 rCode1)else(idx regs1 0).bind λy=>U (s9.mk Reads1 Puts1 y rCode1))
def f7d(r):NF a6G r c6t (λs=>a9v s.1 s.2.1 s.2.2.1 s.2.2.2.1 s.2.2.2.2):=λ(Reads1,Puts1,regs1,rVal1,rCode1) h=>PK<|rg<|l9 2 h (λh=>t5<|z0 Reads1<|fE h) (λh=>rg<|D6 h λy hy h=>E2 hy<|M4 eI 2 hy<|rg<|G6 Reads1 Puts1<|fE h)
def d4X(list:E t7)(prog:E t8):((E Int)×(E w8)×(E u9)×Int×Int×Int)->KS:=λ(regs,d8,f0,k,rVal,rCode)=>⟨a6G.k 5 [W],n7 2 B9 list::(n7 4 C2 prog::bs 2 (.ptr 1 0 0::(.ptr 2 0 0::(.own 3 0 1 0 (O regs)::(vi k::bs 60 []))))),[U [],U jZ,U [.var 48 [.own 4 0 2 0 (O d8),.own 5 0 2 0 (O f0),vi rVal,vi rCode]],U [s5 3 1 eI regs],U [s5 116 2 A7 d8],U [s5 119 2 A8 f0]]⟩
def e2m(list:E t7)(prog:E t8)(regs:E Int)(d8:E w8)(f0:E u9)(rVal:Int)(rCode:Int):Int->KS:=λk1=>⟨a6G.k 10 [W,Y,Y,Y],n7 2 B9 list::(n7 4 C2 prog::bs 2 (.ptr 1 0 0::(.ptr 2 0 0::(.own 5 0 1 0 (O regs)::(vi k1::bs 60 []))))),[U [],U jZ,U [.var 48 [.own 3 0 2 0 (O d8),.own 4 0 2 0 (O f0),vi rVal,vi rCode]],U [s5 116 2 A7 d8],U [s5 119 2 A8 f0],U [s5 3 1 eI regs]]⟩
def c7q(regs:E Int)(d8:E w8)(f0:E u9)(rVal:Int)(rCode:Int)(k1:Int):Option (n6 s9 ((E Int)×(E w8)×(E u9)×Int×Int×Int) ((E w8)×(E u9)×(E Int)×Int×Int)):=
 U (n6.nxt (regs,d8,f0,s6 (k1+1),rVal,rCode))
def g0B(list prog regs d8 f0 rVal rCode)(lc:J2 a6G c6t (d4X list prog)):NL lc (e2m list prog regs d8 f0 rVal rCode) (λs=>c7q regs d8 f0 rVal rCode s):=λk1 h=>PK<|rg<|(lc.nx h λhI=>sk [] [0,1,4,5,6,7] [(1,0),(2,0),(5,0),(3,0),(4,0)] hI)
def a23(list:E t7)(prog:E t8)(regs:E Int)(d8:E w8)(f0:E u9)(k:Int)(rVal:Int)(rCode:Int):Option (n6 s9 ((E Int)×(E w8)×(E u9)×Int×Int×Int) ((E w8)×(E u9)×(E Int)×Int×Int)):=
 (bif decide (k<(O prog:Int))then bif(rCode==0)then(idx prog k).bind λins=>bif(ins.b7==6)then(((idx regs ins.A).bind λy1=>(idx regs ins.B).bind λy2=>bif decide (y1<y2)then U (r9.brk (s6 (k+ins.N)))else U (r9.brk k)):Option (r9 (n6 s9 ((E Int)×(E w8)×(E u9)×Int×Int×Int) ((E w8)×(E u9)×(E Int)×Int×Int)) Int)).bind λx=>x.go U λj=>c7q regs d8 f0 rVal rCode j else(b2O list (s9.mk d8 f0 rVal rCode) regs ins).bind λa6c=>z5 ((O regs)=(O a6c.2)) (U (n6.nxt (a6c.2,a6c.1.d8,a6c.1.f0,s6 (k+1),a6c.1.i8,a6c.1.Code)))else U (n6.brk (d8,f0,regs,rVal,rCode))else U (n6.brk (d8,f0,regs,rVal,rCode)))
def e6z(list prog):LQ a6G c6t (d4X list prog) (λs=>a23 list prog s.1 s.2.1 s.2.2.1 s.2.2.2.1 s.2.2.2.2.1 s.2.2.2.2.2):=λlc (regs,d8,f0,k,rVal,rCode) h=>PK<|rg<|l9 4 h (λh=>l9 8 h (λh=>rg<|A3 C2 2 h λins hins h=>rg<|l9 2 h (λh=>D5 h (g0B list prog regs d8 f0 rVal rCode lc) λx2 h hc2=>rg<|D6 h λy1 hy1 h=>E2 hy1<|M4 eI 4 hy1<|D6 h λy2 hy2 h=>E2 hy2<|M4 eI 9 hy2<|l9 10 h (λh=>rg<|(u6 h hc2 λhI=>sk [] [0,1,4,5,6,7] Jq hI)) (λh=>u6 h hc2 λhI=>sk [] [0,1,4,5,6,7] Jq hI)) (λh=>rg<|n9 b2Y e5a 4 h λa6c h=>z9 h λe2 h=>ol3 d8 f0 regs<|rg<|(lc.nx h λhI=>om ((.own 3 0 1 0 (O regs):V)=.own 3 0 1 0 (O a6c.2)) (by first|(simp;done)|(simp[e2];done))<|sk [.is (.tmp 6) (.own 3 0 1 0 (O a6c.2))] [0,1,4,5,6,7] [(1,0),(2,0),(3,0),(28,0),(28,1)] hI))) (λh=>lc.bk h λhI=>sk [] [4,5,6] Jq hI)) (λh=>lc.bk h λhI=>sk [] [4,5,6] Jq hI)
def b8c(list:E t7)(prog:E t8):Option s9:=
 ((b3M list).bind λa0s=>bif(!a0s)then U (s9.mk [] [] 0 3)else(b0Q prog).bind λH8=>bif(!H8)then U (s9.mk [] [] 0 3)else z5 (0<=(4:Int)/\(4:Int)*8<=140737488355328) (((u5 (λs:(E Int)×(E w8)×(E u9)×Int×Int×Int=>a23 list prog s.1 s.2.1 s.2.2.1 s.2.2.2.1 s.2.2.2.2.1 s.2.2.2.2.2) (g00 (4:Int).toNat (0:Int),[],[],0,0,0)).bind λx=>x.go (λr=>U r) λs=>a9v s.1 s.2.1 s.2.2.1 s.2.2.2.1 s.2.2.2.2)))
def e7y{list prog}:OK a6G [n7 2 B9 list,n7 4 C2 prog] (b8c list prog):=
 t9 _ λr h=>t5<|n9 a8j d4H 1 h λa0s h=>l9 3 h (λh=>rg<|fE h) (λh=>n9 a6w c4a 5 h λH8 h=>l9 7 h (λh=>rg<|fE h) (λh=>t5<|z9 h λe1 h=>Z0 0 13 3 1 8 eI (0:Int) ti3 (.none) e1 (by decide) (by rfl)<|rg<|lp (e6z list prog) h (λ_ h=>a6G.rt h) (f7d r) λhI=>sk [.own (.cell 11 0 0) 116 2,.own (.cell 11 0 1) 119 2] [0,1,4,5,6,7] [(1,0),(11,0),(13,0),(16,0),(17,0)] hI))
def d5S:FS (m4×(E m9)×E s8):=⟨130,Tryz.f130,[.val D1 K4,.val [U 13] [],.val [U 5] []],[Z,Z],[.val D1 K4,.val [U 4] []],λr=>.tup [.agg (K8 r.1),n7 13 x7 r.2.1,n7 5 B6 r.2.2],λ_=>[Z,Z],Tryz.func130⟩
def b7s(n:m4)(prog:E t8):Option (m4×(E m9)×E s8):=
 ((a5S n).bind λH4=>bif(!H4)then U ((m4.mk 0 (B4.mk 0 []) [] 0 0 0 [] [] (p9.mk W (u0.mk 0 0) (s9.mk [] [] 0 0)) [] W [] (p9.mk W (u0.mk 0 0) (s9.mk [] [] 0 0)) []),([]:E m9),([]:E s8))else(a7C n).bind λl8Copy=>(b9T n).bind λb3D=>(b8c b3D.j4 prog).bind λE9=>bif n.j6 then U (l8Copy,([]:E m9),([]:E s8))else bif(n.Seq==1000)then U (l8Copy,([]:E m9),([]:E s8))else bif(E9.Code==3)then U (l8Copy,([]:E m9),([]:E s8))else z5 ((([]:E t8).length+(O prog))*32<=140737488355328) (bif(l8Copy.d6==2)then(a7p (m4.mk l8Copy.Id l8Copy.Acc l8Copy.a9 (s6 (l8Copy.Seq+1)) l8Copy.d6 l8Copy.b5 l8Copy.d7 l8Copy.j5 l8Copy.g9 l8Copy.b8 Y (([]:E t8)++prog) (p9.mk W (u0.mk l8Copy.Id (s6 (l8Copy.Seq+1))) E9) l8Copy.i5)).bind λT3=>U (T3.1,T3.2,([]:E s8))else bif(l8Copy.d6==0)then(a4a l8Copy.Id (m9.mk 7 0 0 0 0 (p9.mk W (u0.mk l8Copy.Id (s6 (l8Copy.Seq+1))) E9) [])).bind λO9=>U ((m4.mk l8Copy.Id l8Copy.Acc l8Copy.a9 (s6 (l8Copy.Seq+1)) l8Copy.d6 l8Copy.b5 l8Copy.d7 l8Copy.j5 l8Copy.g9 l8Copy.b8 Y (([]:E t8)++prog) (p9.mk W (u0.mk l8Copy.Id (s6 (l8Copy.Seq+1))) E9) l8Copy.i5),O9,([]:E s8))else U ((m4.mk l8Copy.Id l8Copy.Acc l8Copy.a9 (s6 (l8Copy.Seq+1)) l8Copy.d6 l8Copy.b5 l8Copy.d7 l8Copy.j5 l8Copy.g9 l8Copy.b8 Y (([]:E t8)++prog) (p9.mk W (u0.mk l8Copy.Id (s6 (l8Copy.Seq+1))) E9) l8Copy.i5),([]:E m9),([]:E s8))))
set_option maxRecDepth 20000 in
def e6A{n prog}:OK d5S [.agg (K8 n),n7 4 C2 prog] (b7s n prog):=
 t9 _ λr h=>t5<|X9 a3J b1Q 1 1 h λH4 h=>C5 n<|l9 2 h (λh=>rg<|tk 1 E5<|tk 2 []<|E7 m9<|E7 s8<|fE h) (λh=>rg<|n9 b1L b6H 1 h λl8Copy h=>C5 n<|rg<|n9 d6i e1z 1 h λb3D h=>C5 n<|n9 a6G e7y 4 h λE9 h=>rg<|l9 2 h (λh=>rg<|tk 1 E5<|tk 2 []<|C5 l8Copy<|E7 m9<|E7 s8<|fE h) (λh=>l9 7 h (λh=>rg<|tk 1 E5<|tk 2 []<|C5 l8Copy<|E7 m9<|E7 s8<|fE h) (λh=>l9 11 h (λh=>rg<|tk 1 E5<|tk 2 []<|C5 l8Copy<|E7 m9<|E7 s8<|fE h) (λh=>T1<|tk 0 []<|z9 h λe1 h=>oa 40 0 4 ([]:E t8) prog<|oz 88 4 C2 ([]:E t8) prog<|E7 t8<|ob e1<|tl (2,{v:=U (.own 40 0 4 0 (([]:E t8)++prog).length),e:=U (s5 88 4 C2 (([]:E t8)++prog))})<|t5<|l9 2 h (λh=>rg<|n9 b16 b6Q 1 h λT3 h=>z0 l8Copy.Acc.b8<|L0 l8Copy.a9 l8Copy.d7 l8Copy.b8 (([]:E t8)++prog)<|olR E9<|z0 l8Copy.i5<|rg<|tk 2 []<|C5 T3.1<|E7 s8<|fE h) (λh=>rg<|l9 2 h (λh=>rg<|n9 a1M a7d 6 h λO9 h=>olR E9<|tk 7 []<|z0 l8Copy.Acc.b8<|L0 l8Copy.a9 l8Copy.d7 l8Copy.b8 (([]:E t8)++prog)<|olR E9<|G6 l8Copy.i5 O9<|E7 s8<|fE h) (λh=>rg<|tk 1 E5<|tk 2 []<|z0 l8Copy.Acc.b8<|L0 l8Copy.a9 l8Copy.d7 l8Copy.b8 (([]:E t8)++prog)<|olR E9<|z0 l8Copy.i5<|E7 m9<|E7 s8<|fE h))))))
def d7t:FS (m6):=⟨73,Tryz.f73,[.val F4 Z2],[Z,Z,Z],[.val F4 Z2,.val [] [],.val [U 4] []],λr=>.agg (Y2 r),λ_=>[Z,Z,Z],Tryz.func73⟩
def a3b(node:m4):E V:=([vi node.Id,vi node.Acc.i7,.own 11 0 8 0 (O node.Acc.b8),.own 11 1 7 0 (O node.a9),vi node.Seq,vi node.d6,vi node.b5,.own 11 2 1 0 (O node.d7)]++a7S node++[.own 11 3 1 0 (O node.b8)]++a5j node++[.own 11 4 7 0 (O node.i5)])
def b90(M9:m4×(E m9)×E s8):E V:=(a8o M9.1)
def c1c(w:m6)(i:Int)(prog:E t8):Option m6:=
 (bif decide ((O w.i4:Int)>=60)then U w else(idx w.b9 i).bind λnode=>(b7s node prog).bind λM9=>bif decide (M9.1.Seq>node.Seq)then z5 ((([]:E t8).length+(O prog))*32<=140737488355328) (z5 (((O w.i4)+1)*40<=140737488355328) (((a4b (m6.mk (w.b9.set i.toNat M9.1) w.c9 (w.i4++[B2.mk M9.1.d9.b6 (([]:E t8)++prog)]) w.Told) M9.2.1).bind λa4N=>(a5t a4N M9.2.2).bind λa4E=>U a4E)))else(a4b (m6.mk (w.b9.set i.toNat M9.1) w.c9 w.i4 w.Told) M9.2.1).bind λa35=>(a5t a35 M9.2.2).bind λa8T=>U a8T)
set_option maxRecDepth 20000 in
def e3c{w i prog}:OK d7t [.agg (Y2 w),vi i,n7 4 C2 prog] (c1c w i prog):=
 t9 _ λr h=>t5<|l9 3 h (λh=>rg<|D4 w<|fE h) (λh=>rg<|D6 h λnode hnode h=>E2 hnode<|ob (b5H (enc:=B8) hnode)<|tl (4,{a:=.drow (B8 node)})<|n9 d5S e6A 6 h λM9 h=>C5 node<|rg<|E2 hnode<|om (((w.b9.map B8).set (0+i.toNat) (a3b node))[0+i.toNat]?=U (a3b node)) (a3l (a2U hnode))<|tl (7,{a:=.prow (a3b node)})<|l9 8 h (λh=>rg<|tk 5 []<|z9 h λe1 h=>oa 38 0 4 ([]:E t8) prog<|oz 88 4 C2 ([]:E t8) prog<|E7 t8<|ob e1<|tl (7,{v:=U (.own 38 0 4 0 (([]:E t8)++prog).length),e:=U (s5 88 4 C2 (([]:E t8)++prog))})<|z0 (([]:E t8)++prog)<|tk 9 [Z,Z,U 4]<|z9 h λe2 h=>J4 10 41 72 3 40 C9 w.i4 (B2.mk M9.1.d9.b6 (([]:E t8)++prog)) e2<|I2 (B2.mk M9.1.d9.b6 (([]:E t8)++prog))<|rg<|E2 hnode<|om (x8.deep W 59 27 (O w.b9) (((w.b9.map B8).set (0+i.toNat) (a3b node)).set (0+i.toNat) (b90 M9))=F7 59 27 B8 (w.b9.set i.toNat M9.1)) (b0J (a0I (a10 rfl)) (by simp))<|om (M6 (((w.b9.map B8).set (0+i.toNat) (a3b node)).set (0+i.toNat) (b90 M9))) (a9h (a0I (a10 rfl)) a8M)<|om (((w.b9.map B8).set (0+i.toNat) (a3b node))[0+i.toNat]?=U (a3b node)) (a3l (a2U hnode))<|C5 M9.1<|tl (5,{a:=.dsc (a3b node) [Z,Z,U 8,U 7,Z,Z,Z,U 1,U 8,Z,Z,Z,U 2,U 2,Z,Z,U 1,Z,U 4,Z,Z,Z,U 2,U 2,Z,Z,U 7] [Z,Z,U 121,U 50,Z,Z,Z,U 4,Z,Z,Z,Z,Z,Z,Z,Z,U 4,Z,Z,Z,Z,Z,Z,Z,Z,Z,U 50],e:=U (F7 59 27 B8 (w.b9.set i.toNat M9.1))})<|rg<|n9 a2M a70 2 h λa4N h=>om ((O w.b9)=(w.b9.set i.toNat M9.1).length) (by simp)<|ol3 w.c9 (w.i4++[B2.mk M9.1.d9.b6 (([]:E t8)++prog)]) w.Told<|n9 a3j a9A 4 h λa4E h=>D4 a4N<|D4 a4E<|fE h) (λh=>rg<|E2 hnode<|om (x8.deep W 59 27 (O w.b9) (((w.b9.map B8).set (0+i.toNat) (a3b node)).set (0+i.toNat) (b90 M9))=F7 59 27 B8 (w.b9.set i.toNat M9.1)) (b0J (a0I (a10 rfl)) (by simp))<|om (M6 (((w.b9.map B8).set (0+i.toNat) (a3b node)).set (0+i.toNat) (b90 M9))) (a9h (a0I (a10 rfl)) a8M)<|om (((w.b9.map B8).set (0+i.toNat) (a3b node))[0+i.toNat]?=U (a3b node)) (a3l (a2U hnode))<|C5 M9.1<|tl (5,{a:=.dsc (a3b node) [Z,Z,U 8,U 7,Z,Z,Z,U 1,U 8,Z,Z,Z,U 2,U 2,Z,Z,U 1,Z,U 4,Z,Z,Z,U 2,U 2,Z,Z,U 7] [Z,Z,U 121,U 50,Z,Z,Z,U 4,Z,Z,Z,Z,Z,Z,Z,Z,U 4,Z,Z,Z,Z,Z,Z,Z,Z,Z,U 50],e:=U (F7 59 27 B8 (w.b9.set i.toNat M9.1))})<|rg<|n9 a2M a70 2 h λa35 h=>om ((O w.b9)=(w.b9.set i.toNat M9.1).length) (by simp)<|ol3 w.c9 w.i4 w.Told<|n9 a3j a9A 4 h λa8T h=>D4 a35<|D4 a8T<|fE h))
def a9p:FS (Int):=⟨131,Tryz.f131,[.val [] []],[Z,Z],[.val [] [],.val [] []],λr=>vi r,λ_=>[Z,Z],Tryz.func131⟩
def d5C:Unit->KS:=λ_=>⟨a9p.k 4 [W,W],bs 37 [],[U []]⟩
def e0w:Option Int:=
 U (-1)
def f5X(r):NF a9p r d5C (λs=>e0w):=λ_ h=>PK<|rg<|fE h
def e9a(bal:Int)(who:Int):Int->KS:=λb=>⟨a9p.k 3 [W],vi bal::(vi who::bs 3 (vi b::bs 31 [])),[U []]⟩
def a41(bal:Int)(who:Int)(b:Int):Option (n6 Int Int Unit):=
 (bif decide (b<=(s6 (bal+3)))then bif decide (b<=3000)then bif((g1w b 3)==who)then U (n6.ret b)else U (n6.nxt (s6 (b+1)))else U (n6.brk ())else U (n6.brk ()))
def e4w(bal who):LQ a9p d5C (e9a bal who) (λs=>a41 bal who s):=λlc b h=>PK<|rg<|l9 4 h (λh=>l9 7 h (λh=>rg<|om (3≠(0:Int)) (by decide)<|l9 3 h (λh=>rg<|fL lc h) (λh=>rg<|(lc.nx h λhI=>sk [] [0,1,5] [] hI))) (λh=>lc.bk h λhI=>sk [] [] [] hI)) (λh=>lc.bk h λhI=>sk [] [] [] hI)
def b8Q(bal:Int)(who:Int):Option Int:=
 (bif decide (bal<0)then U (-1)else bif decide (bal>3000)then U (-1)else bif decide (who<0)then U (-1)else bif decide (who>=3)then U (-1)else(u5 (λs:Int=>a41 bal who s) (s6 (bal+1))).bind λx=>x.go (λr=>U r) λs=>e0w)
def e9n{bal who}:OK a9p [vi bal,vi who] (b8Q bal who):=
 t9 _ λr h=>t5<|l9 2 h (λh=>rg<|fE h) (λh=>l9 6 h (λh=>rg<|fE h) (λh=>l9 10 h (λh=>rg<|fE h) (λh=>l9 13 h (λh=>rg<|fE h) (λh=>rg<|lp (e4w bal who) h (λ_ h=>a9p.rt h) (f5X r) λhI=>sk [] [0,1,5] [] hI))))
def b0F:FS ((E s7)×E s7):=⟨126,Tryz.f126,[.val [U 8] [U 121]],[U (0,.row)],[.row],λr=>A5 121 8 w6 r.1,λr=>[U (A5 121 8 w6 r.2)],Tryz.func126⟩
def d0j(list:E s7):(E s7)->KS:=λout1=>⟨b0F.k 4 [W],bs 3 (.own 1 0 8 0 (O out1)::bs 24 []),[U [s5 121 8 w6 list],U [s5 121 8 w6 out1]]⟩
def c82(list:E s7)(out1:E s7):Option ((E s7)×E s7):=
 U (out1,list)
def e74(list)(r):NF b0F r (d0j list) (λs=>c82 list s):=λout1 h=>PK<|rg<|G6 out1 list<|fE h
def e49(list:E s7):((E s7)×Int)->KS:=λ(out,i)=>⟨b0F.k 3 [],.own 0 0 8 0 (O list)::bs 2 (.own 1 0 8 0 (O out)::(vi i::bs 23 [])),[U [s5 121 8 w6 list],U [s5 121 8 w6 out]]⟩
def b5k(list:E s7)(out:E s7)(i:Int):Option (n6 ((E s7)×E s7) ((E s7)×Int) (E s7)):=
 (bif decide (i<(O list:Int))then(idx list i).bind λvote=>(a03 vote.i9).bind λl5Entry=>z5 (((O out)+1)*96<=140737488355328) (U (n6.nxt (out++[s7.mk vote.b5 l5Entry],s6 (i+1))))else U (n6.brk out))
def f2u(list):LQ b0F (d0j list) (e49 list) (λs=>b5k list s.1 s.2):=λlc (out,i) h=>PK<|rg<|l9 3 h (λh=>rg<|D6 h λvote N9 h=>E2 N9<|M4 w6 5 N9<|E2 N9<|M4 w6 10 N9<|n9 a1B a13 11 h λl5Entry h=>tk 13 a0p<|z9 h λe1 h=>J4 14 20 121 8 96 w6 out (s7.mk vote.b5 l5Entry) e1<|I2 (s7.mk vote.b5 l5Entry)<|rg<|(lc.nx h λhI=>sk [] [0,3,4] [(20,0)] hI)) (λh=>lc.bk h λhI=>sk [] [3] jv hI)
def c1P(list:E s7):Option ((E s7)×E s7):=
 ((u5 (λs:(E s7)×Int=>b5k list s.1 s.2) (([]:E s7),0)).bind λx=>x.go (λr=>U r) λs=>c82 list s)
def f6G{list}:OK b0F [A5 121 8 w6 list] (c1P list):=
 t9 _ λr h=>t5<|tk 0 a0p<|rg<|lp (f2u list) h (λ_ h=>b0F.rt h) (e74 list r) λhI=>om ((.own 2 0 8 0 0:V)=.own 2 0 8 0 ([]:E s7).length) (by simp)<|sk [.is (.tmp 3) (.own 2 0 8 0 ([]:E s7).length)] [0,3,4] Jv hI
def e0i:FS (m4×E m9):=⟨74,Tryz.f74,[.val D1 K4,.val [U 13] []],[Z],[.val D1 K4],λr=>.tup [.agg (K8 r.1),n7 13 x7 r.2],λ_=>[Z],Tryz.func74⟩
def c06(n:m4):Option (m4×E m9):=
 ((a5S n).bind λH4=>bif(!H4)then U ((m4.mk 0 (B4.mk 0 []) [] 0 0 0 [] [] (p9.mk W (u0.mk 0 0) (s9.mk [] [] 0 0)) [] W [] (p9.mk W (u0.mk 0 0) (s9.mk [] [] 0 0)) []),([]:E m9))else(a7C n).bind λl8Copy=>(b8Q l8Copy.Acc.i7 l8Copy.Id).bind λa4R=>bif decide (a4R<0)then U (l8Copy,([]:E m9))else(b6r l8Copy).bind λT2=>(a90 T2.Acc a4R).bind λl6Promise=>z5 (0<=(3:Int)/\(3:Int)*1<=140737488355328) (((idx (g00 (3:Int).toNat W) T2.Id).bind λy=>(c1P l6Promise.1.b8).bind λo=>z5 ((O l6Promise.1.b8)=(O o.2)) (((a4a T2.Id (m9.mk 1 0 0 a4R (O T2.a9:Int) (p9.mk W (u0.mk 0 0) (s9.mk [] [] 0 0)) [])).bind λO9=>U ((m4.mk T2.Id (B4.mk l6Promise.1.i7 o.2) T2.a9 T2.Seq 1 a4R ((g00 (3:Int).toNat W).set T2.Id.toNat Y) o.1 T2.g9 T2.b8 T2.j6 T2.j8 T2.d9 T2.i5),O9))))))
def f3z{n}:OK e0i [.agg (K8 n)] (c06 n):=
 t9 _ λr h=>t5<|X9 a3J b1Q 1 1 h λH4 h=>C5 n<|l9 2 h (λh=>rg<|tk 1 E5<|E7 m9<|fE h) (λh=>rg<|n9 b1L b6H 1 h λl8Copy h=>C5 n<|rg<|n9 a9p e9n 5 h λa4R h=>rg<|l9 1 h (λh=>rg<|tk 1 E5<|C5 l8Copy<|E7 m9<|fE h) (λh=>rg<|n9 b9M c7D 1 h λT2 h=>C5 l8Copy<|rg<|n9 b3P b7a 3 h λl6Promise h=>z0 T2.Acc.b8<|T1<|z9 h λe1 h=>Z0 0 37 4 1 1 eB W ti4 (.none) e1 (by decide) (by rfl)<|rg<|D6 h λy hy h=>E2 hy<|W3 4 1 eB 5 [] Y hy<|rg<|n9 b0F f6G 3 h λo h=>z9 h λe2 h=>z0 l6Promise.1.b8<|rg<|n9 a1M a7d 8 h λO9 h=>om ((O l6Promise.1.b8)=(O o.2)) (by first|(simp;done)|(simp[e2];done))<|z0 T2.a9<|om ((g00 (3:Int).toNat W).length=((g00 (3:Int).toNat W).set T2.Id.toNat Y).length) (by first|(simp;done)|(simp[e2];done))<|L0 o.1 T2.b8 T2.i5 O9<|fE h))
def b8X:FS (m4×(E m9)×E s8):=⟨75,Tryz.f75,[.val D1 K4,.val [U 13] [],.val [U 5] []],[Z],[.val D1 K4],λr=>.tup [.agg (K8 r.1),n7 13 x7 r.2.1,n7 5 B6 r.2.2],λ_=>[Z],Tryz.func75⟩
def e6q(n:m4)(l8Copy:m4):(E m9)->KS:=λout=>⟨b8X.k 7 [W,Y],bs 2 (.ptr 1 0 0::bs 2 (.ptr 2 0 0::(.own 8 0 13 0 (O out)::bs 72 []))),[U [b3v 8 w6 n.Acc.b8,b3v 7 x9 n.a9,b3v 1 eB n.d7,b3v 1 eB n.b8,b3v 7 x9 n.i5],U jk,U [.var 59 (e1O l8Copy)]]++f7m l8Copy++[U [s5 70 13 x7 out]]⟩
def d7Q(l8Copy:m4)(out:E m9):Option (m4×(E m9)×E s8):=
 U (l8Copy,out,([]:E s8))
def e8U(n l8Copy)(r):NF b8X r (e6q n l8Copy) (λs=>d7Q l8Copy s):=λout h=>PK<|rg<|tk 2 []<|C5 l8Copy<|z0 out<|E7 s8<|fE h
def b7f(n:m4):Option (m4×(E m9)×E s8):=
 ((a5S n).bind λH4=>bif(!H4)then U ((m4.mk 0 (B4.mk 0 []) [] 0 0 0 [] [] (p9.mk W (u0.mk 0 0) (s9.mk [] [] 0 0)) [] W [] (p9.mk W (u0.mk 0 0) (s9.mk [] [] 0 0)) []),([]:E m9),([]:E s8))else(a7C n).bind λl8Copy=>(a4a l8Copy.Id (m9.mk 8 0 0 0 (O l8Copy.a9:Int) (p9.mk W (u0.mk 0 0) (s9.mk [] [] 0 0)) [])).bind λO9=>((bif(l8Copy.d6==1)then(a4a l8Copy.Id (m9.mk 1 0 0 l8Copy.b5 (O l8Copy.a9:Int) (p9.mk W (u0.mk 0 0) (s9.mk [] [] 0 0)) [])).bind λb50=>z5 (((O O9)+(O b50))*152<=140737488355328) (U (r9.brk (O9++b50)))else bif(l8Copy.d6==2)then(a7p l8Copy).bind λT3=>z5 (((O O9)+(O T3.2))*152<=140737488355328) (U (r9.ret (T3.1,O9++T3.2,([]:E s8))))else bif(l8Copy.d6==3)then(a4a l8Copy.Id (m9.mk 3 0 0 l8Copy.b5 (O l8Copy.a9:Int) l8Copy.g9 [])).bind λb4m=>z5 (((O O9)+(O b4m))*152<=140737488355328) (U (r9.brk (O9++b4m)))else bif l8Copy.j6 then(a4a l8Copy.Id (m9.mk 7 0 0 0 0 l8Copy.d9 [])).bind λb4q=>z5 (((O O9)+(O b4q))*152<=140737488355328) (U (r9.brk (O9++b4q)))else U (r9.brk O9)):Option (r9 (m4×(E m9)×E s8) (E m9))).bind λx=>x.go U λj=>d7Q l8Copy j)
def f9y{n}:OK b8X [.agg (K8 n)] (b7f n):=
 t9 _ λr h=>t5<|X9 a3J b1Q 1 1 h λH4 h=>C5 n<|l9 2 h (λh=>rg<|tk 1 E5<|tk 2 []<|E7 m9<|E7 s8<|fE h) (λh=>rg<|n9 b1L b6H 1 h λl8Copy h=>C5 n<|rg<|n9 a1M a7d 6 h λO9 h=>rg<|D5 h (e8U n l8Copy r) λx1 h hc1=>rg<|l9 1 h (λh=>rg<|n9 a1M a7d 9 h λb50 h=>z9 h λe1 h=>apL 10 34 70 13 152 x7 O9 b50 e1<|z0 b50<|(u6 h hc1 λhI=>sk [] [2,5,6] [(2,0),(10,0),(9,0),(9,1),(9,2),(9,3),(9,4),(34,0)] hI)) (λh=>rg<|l9 1 h (λh=>rg<|n9 b16 b6Q 1 h λT3 h=>C5 l8Copy<|rg<|z9 h λe2 h=>apL 3 37 70 13 152 x7 O9 T3.2 e2<|tk 4 []<|(E3 h hc1 λh=>C5 T3.1<|z0 (O9++T3.2)<|E7 s8<|fE h)) (λh=>rg<|l9 1 h (λh=>rg<|n9 a1M a7d 11 h λb4m h=>z9 h λe3 h=>apL 12 40 70 13 152 x7 O9 b4m e3<|z0 b4m<|(u6 h hc1 λhI=>sk [] [2,5,6] [(2,0),(10,0),(9,0),(9,1),(9,2),(9,3),(9,4),(40,0)] hI)) (λh=>rg<|l9 1 h (λh=>rg<|n9 a1M a7d 6 h λb4q h=>z9 h λe4 h=>apL 7 37 70 13 152 x7 O9 b4q e4<|z0 b4q<|(u6 h hc1 λhI=>sk [] [2,5,6] [(2,0),(10,0),(9,0),(9,1),(9,2),(9,3),(9,4),(37,0)] hI)) (λh=>u6 h hc1 λhI=>sk [] [2,5,6] [(2,0),(10,0),(9,0),(9,1),(9,2),(9,3),(9,4),(18,0)] hI)))))
def d8x:FS (m4):=⟨76,Tryz.f76,[.val D1 K4],[Z],[.val D1 K4],λr=>.agg (K8 r),λ_=>[Z],Tryz.func76⟩
def c0n(n:m4):Option m4:=
 ((a5S n).bind λH4=>bif(!H4)then U (m4.mk 0 (B4.mk 0 []) [] 0 0 0 [] [] (p9.mk W (u0.mk 0 0) (s9.mk [] [] 0 0)) [] W [] (p9.mk W (u0.mk 0 0) (s9.mk [] [] 0 0)) [])else(a7C n).bind λl8Copy=>U (m4.mk l8Copy.Id l8Copy.Acc l8Copy.a9 l8Copy.Seq 0 0 [] [] (p9.mk W (u0.mk 0 0) (s9.mk [] [] 0 0)) [] W [] (p9.mk W (u0.mk 0 0) (s9.mk [] [] 0 0)) []))
def f0J{n}:OK d8x [.agg (K8 n)] (c0n n):=
 t9 _ λr h=>t5<|X9 a3J b1Q 1 1 h λH4 h=>C5 n<|l9 2 h (λh=>rg<|fE h) (λh=>rg<|n9 b1L b6H 1 h λl8Copy h=>C5 n<|rg<|G6 l8Copy.Acc.b8 l8Copy.a9<|fE h)
def b1Z:FS (m6):=⟨29,Tryz.f29,[.val F4 Z2],[Z,Z],[.val F4 Z2,.val [Z,Z,U 4] []],λr=>.agg (Y2 r),λ_=>[Z,Z],Tryz.func29⟩
def e7g(w:m6)(e_:v6)(node:m4):Unit->KS:=λ_=>⟨b1Z.k 8 [W,W,Y],bs 2 (.ptr 1 0 0::(.ptr 2 0 0::(.ptr 3 0 0::bs 76 []))),[U [F7 59 27 B8 (w.b9.set e_.A.toNat node),s5 70 13 x7 w.c9,s5 72 3 C9 w.i4,s5 66 5 B6 w.Told],U [.var 28 [.own 0 0 27 0 (w.b9.set e_.A.toNat node).length,.own 0 1 13 0 (O w.c9),.own 0 2 3 0 (O w.i4),.own 0 3 5 0 (O w.Told)]],U [.var 39 [vi e_.b7,vi e_.A,n7 4 C2 e_.j8]],U jq]⟩
def c4e(w:m6)(e_:v6)(node:m4):Option m6:=
 ((c1c (m6.mk (w.b9.set e_.A.toNat node) w.c9 w.i4 w.Told) e_.A e_.j8).bind λc5M=>U c5M)
def e6T(w e_ node)(r):NF b1Z r (e7g w e_ node) (λs=>c4e w e_ node):=λ_ h=>PK<|rg<|n9 d7t e3c 5 h λc5M h=>L0 (w.b9.set e_.A.toNat node) w.c9 w.i4 w.Told<|D4 c5M<|fE h
def S8(node:m4):E V:=([vi node.Id,vi node.Acc.i7,.own 30 0 8 0 (O node.Acc.b8),.own 30 1 7 0 (O node.a9),vi node.Seq,vi node.d6,vi node.b5,.own 30 2 1 0 (O node.d7)]++a7S node++[.own 30 3 1 0 (O node.b8)]++a5j node++[.own 30 4 7 0 (O node.i5)])
def a9g(node:m4):E V:=([vi node.Id,vi node.Acc.i7,A5 121 8 w6 node.Acc.b8,.own 30 1 7 0 (O node.a9),vi node.Seq,vi node.d6,vi node.b5,.own 30 2 1 0 (O node.d7)]++a7S node++[.own 30 3 1 0 (O node.b8)]++a5j node++[.own 30 4 7 0 (O node.i5)])
def b1H(node:m4):E V:=([vi node.Id,vi node.Acc.i7,A5 121 8 w6 node.Acc.b8,A5 50 7 x9 node.a9,vi node.Seq,vi node.d6,vi node.b5,.own 30 2 1 0 (O node.d7)]++a7S node++[.own 30 3 1 0 (O node.b8)]++a5j node++[.own 30 4 7 0 (O node.i5)])
def b6a(node:m4):E V:=([vi node.Id,vi node.Acc.i7,A5 121 8 w6 node.Acc.b8,A5 50 7 x9 node.a9,vi node.Seq,vi node.d6,vi node.b5,A5 4 1 eB node.d7,n7 8 w6 node.j5,.b node.g9.j9,vi node.g9.b6.i0,vi node.g9.b6.Seq,n7 2 A7 node.g9.g8.d8,n7 2 A8 node.g9.g8.f0,vi node.g9.g8.i8,vi node.g9.g8.Code,.own 30 3 1 0 (O node.b8)]++a5j node++[.own 30 4 7 0 (O node.i5)])
def c1B(node:m4):E V:=[vi node.Id,vi node.Acc.i7,A5 121 8 w6 node.Acc.b8,A5 50 7 x9 node.a9,vi node.Seq,vi node.d6,vi node.b5,A5 4 1 eB node.d7,n7 8 w6 node.j5,.b node.g9.j9,vi node.g9.b6.i0,vi node.g9.b6.Seq,n7 2 A7 node.g9.g8.d8,n7 2 A8 node.g9.g8.f0,vi node.g9.g8.i8,vi node.g9.g8.Code,A5 4 1 eB node.b8,.b node.j6,n7 4 C2 node.j8,.b node.d9.j9,vi node.d9.b6.i0,vi node.d9.b6.Seq,n7 2 A7 node.d9.g8.d8,n7 2 A8 node.d9.g8.f0,vi node.d9.g8.i8,vi node.d9.g8.Code,.own 30 4 7 0 (O node.i5)]
def c24(node:m4):E V:=(a8o node)
def d12(a2e:m4×E m9):E V:=(a8o a2e.1)
def d2b(a1a:m4×(E m9)×E s8):E V:=(a8o a1a.1)
def d8i(a2Z:m4):E V:=(a8o a2Z)
def b0O(w:m6)(e_:v6):Option m6:=
 (bif(e_.b7==2)then(b0T w e_).bind λc6x=>U c6x else bif(e_.b7==3)then(b0T w e_).bind λc73=>U c73 else bif(e_.b7==4)then(b0T w e_).bind λc4q=>U c4q else bif decide (e_.A<0)then U w else bif decide (e_.A>=3)then U w else(idx w.b9 e_.A).bind λnode=>bif(e_.b7==1)then c4e w e_ node else bif(e_.b7==5)then(c06 node).bind λa2e=>(a4b (m6.mk (w.b9.set e_.A.toNat a2e.1) w.c9 w.i4 w.Told) a2e.2).bind λa4N=>(a5t a4N ([]:E s8)).bind λa4E=>U a4E else bif(e_.b7==6)then(b7f node).bind λa1a=>(a4b (m6.mk (w.b9.set e_.A.toNat a1a.1) w.c9 w.i4 w.Told) a1a.2.1).bind λa35=>(a5t a35 a1a.2.2).bind λa8T=>U a8T else bif(e_.b7==7)then(c0n node).bind λa2Z=>(a4b (m6.mk (w.b9.set e_.A.toNat a2Z) w.c9 w.i4 w.Told) ([]:E m9)).bind λc4H=>(a5t c4H ([]:E s8)).bind λc5W=>U c5W else(a4b (m6.mk (w.b9.set e_.A.toNat node) w.c9 w.i4 w.Told) ([]:E m9)).bind λc62=>(a5t c62 ([]:E s8)).bind λc38=>U c38)
set_option maxRecDepth 20000 in
def c6X{w e_}:OK b1Z [.agg (Y2 w),.agg (L2 e_)] (b0O w e_):=
 t9 _ λr h=>t5<|l9 3 h (λh=>rg<|n9 b8K c5x 2 h λc6x h=>D4 w<|D4 c6x<|fE h) (λh=>l9 8 h (λh=>rg<|n9 b8K c5x 2 h λc73 h=>D4 w<|D4 c73<|fE h) (λh=>l9 12 h (λh=>rg<|n9 b8K c5x 2 h λc4q h=>D4 w<|D4 c4q<|fE h) (λh=>rg<|l9 3 h (λh=>rg<|D4 w<|fE h) (λh=>l9 7 h (λh=>rg<|D4 w<|fE h) (λh=>rg<|D6 h λnode hnode h=>E2 hnode<|ob (b5H (enc:=B8) hnode)<|tl (5,{a:=.drow (B8 node)})<|rg<|tk 0 E5<|rg<|tk 0 []<|t5<|l9 1 h (λh=>om (((w.b9.map B8).set (0+e_.A.toNat) (S8 node))[0+e_.A.toNat]?=U (S8 node)) (a3l (a2U hnode))<|z0 node.Acc.b8<|om ((((w.b9.map B8).set (0+e_.A.toNat) (S8 node)).set (0+e_.A.toNat) (a9g node))[0+e_.A.toNat]?=U (a9g node)) (a3l (a5M (a2U hnode)))<|z0 node.a9<|om (((((w.b9.map B8).set (0+e_.A.toNat) (S8 node)).set (0+e_.A.toNat) (a9g node)).set (0+e_.A.toNat) (b1H node))[0+e_.A.toNat]?=U (b1H node)) (a3l (a5M (a5M (a2U hnode))))<|z0 node.d7<|om ((((((w.b9.map B8).set (0+e_.A.toNat) (S8 node)).set (0+e_.A.toNat) (a9g node)).set (0+e_.A.toNat) (b1H node)).set (0+e_.A.toNat) (b6a node))[0+e_.A.toNat]?=U (b6a node)) (a3l (a5M (a5M (a5M (a2U hnode)))))<|z0 node.b8<|om (((((((w.b9.map B8).set (0+e_.A.toNat) (S8 node)).set (0+e_.A.toNat) (a9g node)).set (0+e_.A.toNat) (b1H node)).set (0+e_.A.toNat) (b6a node)).set (0+e_.A.toNat) (c1B node))[0+e_.A.toNat]?=U (c1B node)) (a3l (a5M (a5M (a5M (a5M (a2U hnode))))))<|z0 node.i5<|om (((((((w.b9.map B8).set (0+e_.A.toNat) (S8 node)).set (0+e_.A.toNat) (a9g node)).set (0+e_.A.toNat) (b1H node)).set (0+e_.A.toNat) (b6a node)).set (0+e_.A.toNat) (c1B node)).set (0+e_.A.toNat) (c24 node)=(w.b9.set e_.A.toNat node).map B8) (a0I (a0I (a0I (a0I (a0I (a10 rfl))))))<|om (M6 ((w.b9.set e_.A.toNat node).map B8)) (M6.map a8M _)<|om ((O w.b9)=(w.b9.set e_.A.toNat node).length) (by simp)<|om ((.own 0 0 27 0 (O w.b9):V)=.own 0 0 27 0 (w.b9.set e_.A.toNat node).length) (by simp)<|sk [.plug 0 0 (0+e_.A.toNat) 2 (S8 node) 121,.plug 0 0 (0+e_.A.toNat) 3 (a9g node) 50,.plug 0 0 (0+e_.A.toNat) 7 (b1H node) 4,.plug 0 0 (0+e_.A.toNat) 16 (b6a node) 4,.plug 0 0 (0+e_.A.toNat) 26 (c1B node) 50,.shut 0 0 (w.b9.set e_.A.toNat node).length ((w.b9.set e_.A.toNat node).map B8),.is (.cell 1 0 0) (.own 0 0 27 0 (w.b9.set e_.A.toNat node).length)] [2,3,4] jY (e6T w e_ node r () h)) (λh=>rg<|l9 1 h (λh=>rg<|n9 e0i f3z 1 h λa2e h=>C5 node<|rg<|E2 hnode<|om (x8.deep W 59 27 (O w.b9) (((w.b9.map B8).set (0+e_.A.toNat) (S8 node)).set (0+e_.A.toNat) (d12 a2e))=F7 59 27 B8 (w.b9.set e_.A.toNat a2e.1)) (b0J (a0I (a10 rfl)) (by simp))<|om (M6 (((w.b9.map B8).set (0+e_.A.toNat) (S8 node)).set (0+e_.A.toNat) (d12 a2e))) (a9h (a0I (a10 rfl)) a8M)<|om (((w.b9.map B8).set (0+e_.A.toNat) (S8 node))[0+e_.A.toNat]?=U (S8 node)) (a3l (a2U hnode))<|C5 a2e.1<|tl (6,{a:=.dsc (S8 node) [Z,Z,U 8,U 7,Z,Z,Z,U 1,U 8,Z,Z,Z,U 2,U 2,Z,Z,U 1,Z,U 4,Z,Z,Z,U 2,U 2,Z,Z,U 7] [Z,Z,U 121,U 50,Z,Z,Z,U 4,Z,Z,Z,Z,Z,Z,Z,Z,U 4,Z,Z,Z,Z,Z,Z,Z,Z,Z,U 50],e:=U (F7 59 27 B8 (w.b9.set e_.A.toNat a2e.1))})<|rg<|n9 a2M a70 2 h λa4N h=>om ((O w.b9)=(w.b9.set e_.A.toNat a2e.1).length) (by simp)<|ol3 w.c9 w.i4 w.Told<|n9 a3j a9A 4 h λa4E h=>D4 a4N<|E7 s8<|D4 a4E<|fE h) (λh=>rg<|l9 1 h (λh=>rg<|n9 b8X f9y 1 h λa1a h=>C5 node<|rg<|E2 hnode<|om (x8.deep W 59 27 (O w.b9) (((w.b9.map B8).set (0+e_.A.toNat) (S8 node)).set (0+e_.A.toNat) (d2b a1a))=F7 59 27 B8 (w.b9.set e_.A.toNat a1a.1)) (b0J (a0I (a10 rfl)) (by simp))<|om (M6 (((w.b9.map B8).set (0+e_.A.toNat) (S8 node)).set (0+e_.A.toNat) (d2b a1a))) (a9h (a0I (a10 rfl)) a8M)<|om (((w.b9.map B8).set (0+e_.A.toNat) (S8 node))[0+e_.A.toNat]?=U (S8 node)) (a3l (a2U hnode))<|C5 a1a.1<|tl (6,{a:=.dsc (S8 node) [Z,Z,U 8,U 7,Z,Z,Z,U 1,U 8,Z,Z,Z,U 2,U 2,Z,Z,U 1,Z,U 4,Z,Z,Z,U 2,U 2,Z,Z,U 7] [Z,Z,U 121,U 50,Z,Z,Z,U 4,Z,Z,Z,Z,Z,Z,Z,Z,U 4,Z,Z,Z,Z,Z,Z,Z,Z,Z,U 50],e:=U (F7 59 27 B8 (w.b9.set e_.A.toNat a1a.1))})<|rg<|n9 a2M a70 2 h λa35 h=>om ((O w.b9)=(w.b9.set e_.A.toNat a1a.1).length) (by simp)<|ol3 w.c9 w.i4 w.Told<|n9 a3j a9A 4 h λa8T h=>D4 a35<|D4 a8T<|fE h) (λh=>rg<|l9 1 h (λh=>rg<|n9 d8x f0J 1 h λa2Z h=>C5 node<|rg<|E2 hnode<|om (x8.deep W 59 27 (O w.b9) (((w.b9.map B8).set (0+e_.A.toNat) (S8 node)).set (0+e_.A.toNat) (d8i a2Z))=F7 59 27 B8 (w.b9.set e_.A.toNat a2Z)) (b0J (a0I (a10 rfl)) (by simp))<|om (M6 (((w.b9.map B8).set (0+e_.A.toNat) (S8 node)).set (0+e_.A.toNat) (d8i a2Z))) (a9h (a0I (a10 rfl)) a8M)<|om (((w.b9.map B8).set (0+e_.A.toNat) (S8 node))[0+e_.A.toNat]?=U (S8 node)) (a3l (a2U hnode))<|C5 a2Z<|tl (6,{a:=.dsc (S8 node) [Z,Z,U 8,U 7,Z,Z,Z,U 1,U 8,Z,Z,Z,U 2,U 2,Z,Z,U 1,Z,U 4,Z,Z,Z,U 2,U 2,Z,Z,U 7] [Z,Z,U 121,U 50,Z,Z,Z,U 4,Z,Z,Z,Z,Z,Z,Z,Z,U 4,Z,Z,Z,Z,Z,Z,Z,Z,Z,U 50],e:=U (F7 59 27 B8 (w.b9.set e_.A.toNat a2Z))})<|rg<|n9 a2M a70 2 h λc4H h=>om ((O w.b9)=(w.b9.set e_.A.toNat a2Z).length) (by simp)<|ol3 w.c9 w.i4 w.Told<|E7 m9<|n9 a3j a9A 4 h λc5W h=>D4 c4H<|E7 s8<|D4 c5W<|fE h) (λh=>rg<|E2 hnode<|om (x8.deep W 59 27 (O w.b9) (((w.b9.map B8).set (0+e_.A.toNat) (S8 node)).set (0+e_.A.toNat) (c24 node))=F7 59 27 B8 (w.b9.set e_.A.toNat node)) (b0J (a0I (a10 rfl)) (by simp))<|om (M6 (((w.b9.map B8).set (0+e_.A.toNat) (S8 node)).set (0+e_.A.toNat) (c24 node))) (a9h (a0I (a10 rfl)) a8M)<|om (((w.b9.map B8).set (0+e_.A.toNat) (S8 node))[0+e_.A.toNat]?=U (S8 node)) (a3l (a2U hnode))<|C5 node<|tl (6,{a:=.dsc (S8 node) [Z,Z,U 8,U 7,Z,Z,Z,U 1,U 8,Z,Z,Z,U 2,U 2,Z,Z,U 1,Z,U 4,Z,Z,Z,U 2,U 2,Z,Z,U 7] [Z,Z,U 121,U 50,Z,Z,Z,U 4,Z,Z,Z,Z,Z,Z,Z,Z,U 4,Z,Z,Z,Z,Z,Z,Z,Z,Z,U 50],e:=U (F7 59 27 B8 (w.b9.set e_.A.toNat node))})<|rg<|n9 a2M a70 2 h λc62 h=>om ((O w.b9)=(w.b9.set e_.A.toNat node).length) (by simp)<|ol3 w.c9 w.i4 w.Told<|E7 m9<|n9 a3j a9A 4 h λc38 h=>D4 c62<|E7 s8<|D4 c38<|fE h)))))))))
def a3O:FS (m6×E v6):=⟨54,Tryz.f54,[.val F4 Z2,.val [U 3] [U 39]],[Z,Z,Z],[.val F4 Z2,.val [U 3] [U 39],.val [Z,Z,U 4] []],λr=>.tup [.agg (Y2 r.1),A5 39 3 L2 r.2],λ_=>[Z,Z,Z],Tryz.func54⟩
def a2F(w:m6)(out:E v6)(e_:v6):Option (m6×E v6):=
 ((b0O w e_).bind λa1T=>z5 (((O out)+1)*40<=140737488355328) (U (a1T,out++[e_])))
def a4M{w out e_}:OK a3O [.agg (Y2 w),A5 39 3 L2 out,.agg (L2 e_)] (a2F w out e_):=
 t9 _ λr h=>t5<|n9 b1Z c6X 2 h λa1T h=>D4 w<|tk 5 [Z,Z,U 4]<|z9 h λe1 h=>J4 6 11 39 3 40 L2 out e_ e1<|I2 e_<|D4 a1T<|z0 (out++[e_])<|fE h
def b1s:FS (Int×z7):=⟨57,Tryz.f57,[.val [] []],[U (0,.ptr [U 1,Z] []),Z],[.ptr [U 1,Z] [],.val [U 1] []],λr=>vi r.1,λr=>[U (.optr 98 (a1p r.2)),Z],Tryz.func57⟩
def a71(r_:z7)(list:E Int):Option (Int×z7):=
 ((I7 r_ (O list:Int)).bind λpick=>(idx list pick.1).bind λy=>U (y,pick.2))
def b3q{r_ list}:OK b1s [.optr 98 (a1p r_),n7 1 eI list] (a71 r_ list):=
 t9 _ λr h=>t5<|n9 J7 K0 4 h λpick h=>A3 eI 5 h λy hy h=>fE h
def d4O:FS (Int):=⟨170,Tryz.f170,[.val [] []],[Z,Z],[.val [] [],.val [] []],λr=>vi r,λ_=>[Z,Z],Tryz.func170⟩
def b8O(a:Int)(b:Int):Option Int:=
 (bif decide (a>b)then U a else U b)
def e4R{a b}:OK d4O [vi a,vi b] (b8O a b):=
 t9 _ λr h=>t5<|l9 2 h (λh=>rg<|fE h) (λh=>rg<|fE h)
def b7g:FS (t8×z7):=⟨113,Tryz.f113,[.val [] []],[U (0,.ptr [U 1,Z] [])],[.ptr [U 1,Z] []],λr=>.agg (C2 r.1),λr=>[U (.optr 98 (a1p r.2))],Tryz.func113⟩
def f3h:(z7×t8)->KS:=λ(w,i)=>⟨b7g.k 6 [Y],bs 2 (.ptr 1 0 0::(.ptr 2 0 0::bs 36 [])),[U [.var 98 [n7 1 P4 w.b,vi w.p]],U [.var 88 [vi 0,vi 0,vi 0,vi 0]],U [.var 88 [vi i.b7,vi i.A,vi i.B,vi i.N]]]⟩
def d2U(w:z7)(i:t8):Option (t8×z7):=
 U (i,w)
def e9C(r):NF b7g r f3h (λs=>d2U s.1 s.2):=λ(w,i) h=>PK<|rg<|fE h
def c2o(r_:z7):Option (t8×z7):=
 ((a71 r_ [1,1,2,2,3,4,4,5,6,7]).bind λnum=>(I7 num.2 3).bind λpick=>(I7 pick.2 3).bind λI4=>((bif(num.1==3)then(a71 I4.2 [0,1,5,-2,100,1000000]).bind λa84=>U (r9.brk (a84.2,(t8.mk num.1 pick.1 0 a84.1)))else bif(num.1==6)then(I7 I4.2 3).bind λa1v=>U (r9.brk (a1v.2,(t8.mk num.1 pick.1 I4.1 (s6 (1+a1v.1)))))else bif(num.1==7)then(I7 I4.2 3).bind λa09=>bif decide (a09.1>0)then(I7 a09.2 4).bind λa02=>(I7 a02.2 4).bind λa4L=>U (r9.ret ((t8.mk 4 a02.1 a4L.1 0),a4L.2))else U (r9.brk (a09.2,(t8.mk num.1 0 0 0)))else U (r9.brk (I4.2,(t8.mk num.1 pick.1 I4.1 0)))):Option (r9 (t8×z7) (z7×t8))).bind λx=>x.go U λj=>d2U j.1 j.2)
def f8k{r_}:OK b7g [.optr 98 (a1p r_)] (c2o r_):=
 t9 _ λr h=>t5<|tk 1 []<|n9 b1s b3q 2 h λnum h=>om (10=[1,1,2,2,3,4,4,5,6,7].length) (by simp)<|n9 J7 K0 4 h λpick h=>n9 J7 K0 6 h λI4 h=>rg<|D5 h (e9C r) λx1 h hc1=>rg<|l9 1 h (λh=>t5<|tk 1 []<|n9 b1s b3q 2 h λa84 h=>om (6=[0,1,5,-2,100,1000000].length) (by simp)<|(u6 h hc1 λhI=>sk [] [2,3] J_ hI)) (λh=>rg<|l9 1 h (λh=>rg<|n9 J7 K0 1 h λa1v h=>u6 h hc1 λhI=>sk [] [2,3] J_ hI) (λh=>rg<|l9 1 h (λh=>rg<|n9 J7 K0 1 h λa09 h=>l9 2 h (λh=>rg<|n9 J7 K0 1 h λa02 h=>n9 J7 K0 3 h λa4L h=>E3 h hc1 λh=>fE h) (λh=>t5<|(u6 h hc1 λhI=>sk [] [2,3] J_ hI))) (λh=>u6 h hc1 λhI=>sk [] [2,3] J_ hI)))
def a4S:FS ((E t8)×z7):=⟨59,Tryz.f59,[.val [U 4] [U 88]],[U (0,.ptr [U 1,Z] [])],[.ptr [U 1,Z] []],λr=>A5 88 4 C2 r.1,λr=>[U (.optr 98 (a1p r.2))],Tryz.func59⟩
def d1P:(z7×E t8)->KS:=λ(w,out1)=>⟨a4S.k 5 [W,W],bs 5 (.own 1 0 4 0 (O out1)::bs 31 []),[U [.var 98 [n7 1 P4 w.b,vi w.p]],U [s5 88 4 C2 out1]]⟩
def d7e(w:z7)(out1:E t8):Option ((E t8)×z7):=
 U (out1,w)
def e7V(r):NF a4S r d1P (λs=>d7e s.1 s.2):=λ(w,out1) h=>PK<|rg<|z0 out1<|fE h
def e1W:(z7×(E t8)×Int)->KS:=λ(r_1,out,i)=>⟨a4S.k 4 [W],.ptr 0 0 0::bs 4 (.own 1 0 4 0 (O out)::(vi i::bs 30 [])),[U [.var 98 [n7 1 P4 r_1.b,vi r_1.p]],U [s5 88 4 C2 out]]⟩
def c0o(r_1:z7)(out:E t8)(i:Int):Option (n6 ((E t8)×z7) (z7×(E t8)×Int) (z7×E t8)):=
 (bif decide (i>0)then(c2o r_1).bind λb4W=>z5 (((O out)+1)*32<=140737488355328) (U (n6.nxt (b4W.2,out++[b4W.1],s6 (i-1))))else U (n6.brk (r_1,out)))
def f4V:LQ a4S d1P e1W (λs=>c0o s.1 s.2.1 s.2.2):=λlc (r_1,out,i) h=>PK<|rg<|l9 1 h (λh=>rg<|n9 b7g f8k 2 h λb4W h=>tk 3 []<|z9 h λe1 h=>J4 4 8 88 4 32 C2 out b4W.1 e1<|I2 b4W.1<|rg<|(lc.nx h λhI=>sk [] [0,5,6] [(8,0)] hI)) (λh=>lc.bk h λhI=>sk [] [5] jv hI)
def a6N(r_:z7):Option ((E t8)×z7):=
 ((I7 r_ 3).bind λpick=>bif(pick.1==0)then(I7 pick.2 3).bind λI4=>(I7 I4.2 3).bind λa1v=>(I7 a1v.2 3).bind λa09=>U ([t8.mk 1 0 I4.1 0,t8.mk 3 1 0 (s6 (1+a09.1)),t8.mk 4 0 1 0,t8.mk 2 a1v.1 0 0],a09.2)else(I7 pick.2 8).bind λa02=>(u5 (λs:z7×(E t8)×Int=>c0o s.1 s.2.1 s.2.2) (a02.2,([]:E t8),a02.1)).bind λx=>x.go (λr=>U r) λs=>d7e s.1 s.2)
def b3e{r_}:OK a4S [.optr 98 (a1p r_)] (a6N r_):=
 t9 _ λr h=>t5<|n9 J7 K0 1 h λpick h=>l9 2 h (λh=>rg<|n9 J7 K0 1 h λI4 h=>rg<|n9 J7 K0 1 h λa1v h=>rg<|n9 J7 K0 3 h λa09 h=>tk 9 []<|om (4=[t8.mk 1 0 I4.1 0,t8.mk 3 1 0 (s6 (1+a09.1)),t8.mk 4 0 1 0,t8.mk 2 a1v.1 0 0].length) (by simp)<|fE h) (λh=>rg<|tk 0 []<|rg<|n9 J7 K0 1 h λa02 h=>lp (f4V) h (λ_ h=>a4S.rt h) (e7V r) λhI=>om ((.own 5 0 4 0 0:V)=.own 5 0 4 0 ([]:E t8).length) (by simp)<|sk [.is (.tmp 5) (.own 5 0 4 0 ([]:E t8).length)] [0,5,6] [(5,0)] hI)
def c0G:FS (v6×z7×m6):=⟨112,Tryz.f112,[.val [Z,Z,U 4] [Z,Z,U 88]],[U (0,.ptr [U 1,Z] []),U (1,.val F4 Z2)],[.ptr [U 1,Z] [],.val F4 Z2],λr=>.agg [vi r.1.b7,vi r.1.A,A5 88 4 C2 r.1.j8],λr=>[U (.optr 98 (a1p r.2.1)),U (.agg (Y2 r.2.2))],Tryz.func112⟩
def e9A(w:m6)(pick:Int×z7):(z7×Int)->KS:=λ(w1,eKind)=>⟨c0G.k 12 [W,W,W,W,W,W,W,Y,W],bs 4 (.ptr 1 0 0::(.ptr 2 0 0::bs 57 [])),[U [.var 98 [n7 1 P4 w1.b,vi w1.p],F7 59 27 B8 w.b9,s5 70 13 x7 w.c9,s5 72 3 C9 w.i4,s5 66 5 B6 w.Told],U [.var 39 [vi 0,vi 0,.nil]],U [.var 39 [vi eKind,vi pick.1,.nil]]]⟩
def d3U(w:m6)(pick:Int×z7)(w1:z7)(eKind:Int):Option (v6×z7×m6):=
 U ((v6.mk eKind pick.1 []),w1,w)
def f5e(w pick)(r):NF c0G r (e9A w pick) (λs=>d3U w pick s.1 s.2):=λ(w1,eKind) h=>PK<|rg<|D4 w<|fE h
def c1A(r_:z7)(w:m6):Option (v6×z7×m6):=
 ((b8O 1 (O w.c9:Int)).bind λd6N=>(I7 r_ d6N).bind λpick=>(I7 pick.2 24).bind λI4=>bif(I4.1==0)then(I7 I4.2 3).bind λa1v=>(a6N a1v.2).bind λa5U=>U ((v6.mk 1 a1v.1 a5U.1),a5U.2,w)else bif(I4.1==1)then(I7 I4.2 3).bind λa09=>(a6N a09.2).bind λc19=>U ((v6.mk 1 a09.1 c19.1),c19.2,w)else bif(I4.1==2)then(I7 I4.2 3).bind λa02=>(a6N a02.2).bind λb8o=>U ((v6.mk 1 a02.1 b8o.1),b8o.2,w)else((bif(I4.1==3)then(I7 I4.2 3).bind λa4L=>(a6N a4L.2).bind λb7e=>U (r9.ret ((v6.mk 1 a4L.1 b7e.1),b7e.2,w))else bif(I4.1==4)then(I7 I4.2 3).bind λa9z=>U (r9.ret ((v6.mk 5 a9z.1 []),a9z.2,w))else bif(I4.1==5)then(I7 I4.2 3).bind λa9R=>U (r9.ret ((v6.mk 6 a9R.1 []),a9R.2,w))else bif(I4.1==6)then(I7 I4.2 3).bind λa6m=>U (r9.ret ((v6.mk 6 a6m.1 []),a6m.2,w))else bif(I4.1==7)then(I7 I4.2 2).bind λa6V=>bif(a6V.1==0)then(I7 a6V.2 3).bind λa8w=>U (r9.ret ((v6.mk 7 a8w.1 []),a8w.2,w))else U (r9.brk (a6V.2,2))else bif(I4.1==8)then U (r9.brk (I4.2,3))else bif(I4.1==9)then U (r9.brk (I4.2,4))else bif(I4.1==10)then(I7 I4.2 3).bind λa7V=>bif(a7V.1==0)then(I7 a7V.2 10).bind λa7A=>(I7 a7A.2 5).bind λc7f=>U (r9.ret ((v6.mk (s6 (a7A.1-1)) (s6 (c7f.1-1)) []),c7f.2,w))else U (r9.brk (a7V.2,2))else U (r9.brk (I4.2,2))):Option (r9 (v6×z7×m6) (z7×Int))).bind λx=>x.go U λj=>d3U w pick j.1 j.2)
set_option maxRecDepth 20000 in
def e8Z{r_ w}:OK c0G [.optr 98 (a1p r_),.agg (Y2 w)] (c1A r_ w):=
 t9 _ λr h=>t5<|n9 d4O e4R 4 h λd6N h=>n9 J7 K0 5 h λpick h=>rg<|n9 J7 K0 1 h λI4 h=>rg<|l9 1 h (λh=>rg<|n9 J7 K0 1 h λa1v h=>n9 a4S b3e 3 h λa5U h=>z0 a5U.1<|D4 w<|fE h) (λh=>rg<|l9 1 h (λh=>rg<|n9 J7 K0 1 h λa09 h=>n9 a4S b3e 3 h λc19 h=>z0 c19.1<|D4 w<|fE h) (λh=>rg<|l9 1 h (λh=>rg<|n9 J7 K0 1 h λa02 h=>n9 a4S b3e 3 h λb8o h=>z0 b8o.1<|D4 w<|fE h) (λh=>D5 h (f5e w pick r) λx1 h hc1=>rg<|l9 1 h (λh=>rg<|n9 J7 K0 1 h λa4L h=>n9 a4S b3e 3 h λb7e h=>E3 h hc1 λh=>z0 b7e.1<|D4 w<|fE h) (λh=>rg<|l9 1 h (λh=>rg<|n9 J7 K0 1 h λa9z h=>E3 h hc1 λh=>D4 w<|fE h) (λh=>rg<|l9 1 h (λh=>rg<|n9 J7 K0 1 h λa9R h=>E3 h hc1 λh=>D4 w<|fE h) (λh=>rg<|l9 1 h (λh=>rg<|n9 J7 K0 1 h λa6m h=>E3 h hc1 λh=>D4 w<|fE h) (λh=>rg<|l9 1 h (λh=>rg<|n9 J7 K0 1 h λa6V h=>l9 2 h (λh=>rg<|n9 J7 K0 1 h λa8w h=>E3 h hc1 λh=>D4 w<|fE h) (λh=>u6 h hc1 λhI=>sk [] [4,5] Jz hI)) (λh=>rg<|l9 1 h (λh=>rg<|(u6 h hc1 λhI=>sk [] [4,5] Jz hI)) (λh=>rg<|l9 1 h (λh=>rg<|(u6 h hc1 λhI=>sk [] [4,5] Jz hI)) (λh=>rg<|l9 1 h (λh=>rg<|n9 J7 K0 1 h λa7V h=>l9 2 h (λh=>rg<|n9 J7 K0 1 h λa7A h=>n9 J7 K0 4 h λc7f h=>E3 h hc1 λh=>D4 w<|fE h) (λh=>u6 h hc1 λhI=>sk [] [4,5] Jz hI)) (λh=>u6 h hc1 λhI=>sk [] [4,5] Jz hI)))))))))))
def b14:FS (Bool):=⟨66,Tryz.f66,[.val [] []],[Z],[.val E5 []],λr=>.b r,λ_=>[Z],Tryz.func66⟩
def f7t(m:m9):Unit->KS:=λ_=>⟨b14.k 2 [W],bs 1 (.ptr 1 0 0::bs 158 []),[U [],U [.var 70 (a5Z m)]]⟩
def e9N(m:m9)(l7None:Bool):Bool->KS:=λright=>⟨b14.k 4 [W],bs 1 (.ptr 1 0 0::bs 1 (.b l7None::(.b right::bs 155 []))),[U [],U [.var 70 (a5Z m)]]⟩
def b5N(m:m9)(l7None:Bool)(right:Bool):Option Bool:=
 (bif(m.b7==1)then(a2O m.b5).bind λa1i=>bif a1i then U l7None else U W else bif(m.b7==2)then(a2O m.b5).bind λb5s=>bif b5s then bif l7None then(a7M m.b8).bind λa6W=>bif a6W then U (decide ((s6 (m.i6+(O m.b8:Int)))<=40))else U W else U W else U W else bif(m.b7==3)then(a2O m.b5).bind λb5b=>bif b5b then U right else U W else bif(m.b7==4)then(a2O m.b5).bind λd2q=>bif d2q then U l7None else U W else bif(m.b7==5)then bif(m.b5==0)then U right else U W else bif(m.b7==6)then(a2O m.b5).bind λd13=>bif d13 then bif l7None then U (m.i6==0)else U W else U W else bif(m.b7==7)then bif(m.b5==0)then bif(m.i6==0)then(a2C m.i9).bind λI0=>bif I0 then U (!m.i9.j9)else U W else U W else U W else bif(m.b7==8)then bif(m.b5==0)then U l7None else U W else U W)
def e8N(m l7None)(r):NF b14 r (e9N m l7None) (λs=>b5N m l7None s):=λright h=>PK<|t5<|l9 1 h (λh=>rg<|n9 a27 a3x 2 h λa1i h=>l9 3 h (λh=>fE h) (λh=>fE h)) (λh=>rg<|l9 1 h (λh=>rg<|n9 a27 a3x 2 h λb5s h=>l9 3 h (λh=>l9 6 h (λh=>n9 a4I b6R 9 h λa6W h=>l9 11 h (λh=>fE h) (λh=>fE h)) (λh=>fE h)) (λh=>fE h)) (λh=>rg<|l9 1 h (λh=>rg<|n9 a27 a3x 2 h λb5b h=>l9 3 h (λh=>fE h) (λh=>fE h)) (λh=>rg<|l9 1 h (λh=>rg<|n9 a27 a3x 2 h λd2q h=>l9 3 h (λh=>fE h) (λh=>fE h)) (λh=>rg<|l9 1 h (λh=>rg<|l9 3 h (λh=>fE h) (λh=>fE h)) (λh=>rg<|l9 1 h (λh=>rg<|n9 a27 a3x 2 h λd13 h=>l9 3 h (λh=>l9 6 h (λh=>fE h) (λh=>fE h)) (λh=>fE h)) (λh=>rg<|l9 1 h (λh=>rg<|l9 3 h (λh=>l9 8 h (λh=>n9 a3M a39 11 h λI0 h=>l9 13 h (λh=>fE h) (λh=>fE h)) (λh=>fE h)) (λh=>fE h)) (λh=>rg<|l9 1 h (λh=>rg<|l9 3 h (λh=>fE h) (λh=>fE h)) (λh=>rg<|fE h))))))))
def b63(m:m9):Option Bool:=
 ((a6s m.i9).bind λl7None=>(((a2C m.i9).bind λa4C=>bif a4C then U (r9.brk (decide (m.i6<40)))else U (r9.brk W)):Option (r9 Bool Bool)).bind λx=>x.go U λj=>b5N m l7None j)
def e2n(m)(r):NF b14 r (f7t m) (λs=>b63 m):=λ_ h=>PK<|rg<|n9 a8W b1p 2 h λl7None h=>D5 h (e8N m l7None r) λx1 h hc1=>rg<|n9 a3M a39 2 h λa4C h=>l9 3 h (λh=>u6 h hc1 λhI=>sk [] [1,3,4] jv hI) (λh=>u6 h hc1 λhI=>sk [] [1,3,4] jv hI)
def c0C(m:m9):Option Bool:=
 (((bif decide (m.d7<0)then U (r9.ret W)else bif decide (m.d7>=3)then U (r9.ret W)else bif decide (m.To<0)then U (r9.ret W)else bif decide (m.To>=3)then U (r9.ret W)else bif(m.d7==m.To)then U (r9.ret W)else bif decide (m.i6<0)then U (r9.ret W)else bif decide (m.i6>40)then U (r9.ret W)else bif(m.b7 != 2)then bif decide ((O m.b8:Int)>0)then U (r9.ret W)else U (r9.brk ())else U (r9.brk ())):Option (r9 Bool Unit)).bind λx=>x.go U λj=>b63 m)
def f2K{m}:OK b14 [.agg (x7 m)] (c0C m):=
 t9 _ λr h=>rg<|D5 h (e2n m r) λx1 h hc1=>rg<|l9 3 h (λh=>rg<|(E3 h hc1 λh=>fE h)) (λh=>l9 8 h (λh=>rg<|(E3 h hc1 λh=>fE h)) (λh=>l9 13 h (λh=>rg<|(E3 h hc1 λh=>fE h)) (λh=>l9 18 h (λh=>rg<|(E3 h hc1 λh=>fE h)) (λh=>l9 25 h (λh=>rg<|(E3 h hc1 λh=>fE h)) (λh=>l9 30 h (λh=>rg<|(E3 h hc1 λh=>fE h)) (λh=>l9 35 h (λh=>rg<|(E3 h hc1 λh=>fE h)) (λh=>l9 39 h (λh=>l9 45 h (λh=>rg<|(E3 h hc1 λh=>fE h)) (λh=>u6 h hc1 λhI=>sk [] [1] jv hI)) (λh=>u6 h hc1 λhI=>sk [] [1] jv hI))))))))
def d1a:FS (Bool):=⟨69,Tryz.f69,[.val [] []],[Z],[.val [] []],λr=>.b r,λ_=>[Z],Tryz.func69⟩
def c2J(a:s8):Option Bool:=
 (bif decide (a.Node>=0)then bif decide (a.Node<3)then(b1y a.b6).bind λa7B=>bif a7B then bif(a.b6.i0==a.Node)then bif decide (a.Code>=0)then bif decide (a.Code<=4)then(a7W a.i8).bind λa2L=>U a2L else U W else U W else U W else U W else U W else U W)
def e51{a}:OK d1a [.agg (B6 a)] (c2J a):=
 t9 _ λr h=>t5<|l9 3 h (λh=>l9 8 h (λh=>n9 c01 c5G 11 h λa7B h=>l9 13 h (λh=>l9 21 h (λh=>l9 26 h (λh=>l9 31 h (λh=>n9 a9m b25 34 h λa2L h=>fE h) (λh=>fE h)) (λh=>fE h)) (λh=>fE h)) (λh=>fE h)) (λh=>fE h)) (λh=>fE h)
def S7:FS (Bool):=⟨27,Tryz.f27,[.val [] []],[Z],[.val F4 []],λr=>.b r,λ_=>[Z],Tryz.func27⟩
def d0d(w:m6):Unit->KS:=λ_=>⟨S7.k 4 [W,W],bs 1 (.ptr 1 0 0::bs 104 []),[U [],U [.var 28 (F9 w)]]⟩
def e0g(w:m6):Unit->KS:=λ_=>⟨S7.k 6 [W,W,W],bs 1 (.ptr 1 0 0::bs 104 []),[U [],U [.var 28 (F9 w)]]⟩
def d4W(w:m6):Unit->KS:=λ_=>⟨S7.k 8 [W,W,W,W],bs 1 (.ptr 1 0 0::bs 104 []),[U [],U [.var 28 (F9 w)]]⟩
def d87:Unit->KS:=λ_=>⟨S7.k 10 [W,W,W,W,W],bs 106 [],[U []]⟩
def d8F:Option Bool:=
 U Y
def f7p(r):NF S7 r d87 (λs=>d8F):=λ_ h=>PK<|rg<|fE h
def e0T(w:m6):Int->KS:=λi3=>⟨S7.k 9 [W,W,W,W],bs 1 (.ptr 1 0 0::bs 4 (vi i3::bs 99 [])),[U [],U [.var 28 (F9 w)]]⟩
def b8z(w:m6)(i3:Int):Option (n6 Bool Int Unit):=
 (bif decide (i3<(O w.Told:Int))then(idx w.Told i3).bind λtold=>(c2J told).bind λd1k=>bif(!d1k)then U (n6.ret W)else U (n6.nxt (s6 (i3+1)))else U (n6.brk ()))
def e8e(w):LQ S7 d87 (e0T w) (λs=>b8z w s):=λlc i3 h=>PK<|rg<|l9 4 h (λh=>rg<|A3 B6 3 h λtold a6h h=>n9 d1a e51 5 h λd1k h=>l9 6 h (λh=>rg<|fL lc h) (λh=>rg<|(lc.nx h λhI=>sk [] [1,6] jv hI))) (λh=>lc.bk h λhI=>sk [] [] [] hI)
def c1Q(w:m6):Option Bool:=
 ((u5 (λs:Int=>b8z w s) 0).bind λx=>x.go (λr=>U r) λs=>d8F)
def g0d(w)(r):NF S7 r (d4W w) (λs=>c1Q w):=λ_ h=>PK<|rg<|lp (e8e w) h (λ_ h=>S7.rt h) (f7p r) λhI=>sk [] [1,6] jv hI
def e8c(w:m6):Int->KS:=λi2=>⟨S7.k 7 [W,W,W],bs 1 (.ptr 1 0 0::bs 3 (vi i2::bs 100 [])),[U [],U [.var 28 (F9 w)]]⟩
def b8Y(w:m6)(i2:Int):Option (n6 Bool Int Unit):=
 (bif decide (i2<(O w.i4:Int))then(idx w.i4 i2).bind λasked=>(b1y asked.b6).bind λa7B=>bif(!a7B)then U (n6.ret W)else(b0Q asked.j8).bind λH8=>bif(!H8)then U (n6.ret W)else U (n6.nxt (s6 (i2+1)))else U (n6.brk ()))
def e02(w):LQ S7 (d4W w) (e8c w) (λs=>b8Y w s):=λlc i2 h=>PK<|rg<|l9 4 h (λh=>rg<|A3 C9 3 h λasked a9n h=>n9 c01 c5G 6 h λa7B h=>l9 8 h (λh=>rg<|fL lc h) (λh=>P7 C9 12 a9n<|n9 a6w c4a 15 h λH8 h=>l9 17 h (λh=>rg<|fL lc h) (λh=>rg<|(lc.nx h λhI=>sk [] [1,5] jv hI)))) (λh=>lc.bk h λhI=>sk [] [1] jv hI)
def b9p(w:m6):Option Bool:=
 ((u5 (λs:Int=>b8Y w s) 0).bind λx=>x.go (λr=>U r) λs=>c1Q w)
def f08(w)(r):NF S7 r (e0g w) (λs=>b9p w):=λ_ h=>PK<|rg<|lp (e02 w) h (λ_ h=>S7.rt h) (g0d w r) λhI=>sk [] [1,5] jv hI
def e3h(w:m6):Int->KS:=λi1=>⟨S7.k 5 [W,W],bs 1 (.ptr 1 0 0::bs 2 (vi i1::bs 101 [])),[U [],U [.var 28 (F9 w)]]⟩
def c1H(w:m6)(i1:Int):Option (n6 Bool Int Unit):=
 (bif decide (i1<(O w.c9:Int))then(idx w.c9 i1).bind λmsg=>(c0C msg).bind λW4=>bif(!W4)then U (n6.ret W)else U (n6.nxt (s6 (i1+1)))else U (n6.brk ()))
def e56(w):LQ S7 (e0g w) (e3h w) (λs=>c1H w s):=λlc i1 h=>PK<|rg<|l9 4 h (λh=>rg<|A3 x7 3 h λmsg hmsg h=>n9 b14 f2K 5 h λW4 h=>l9 6 h (λh=>rg<|fL lc h) (λh=>rg<|(lc.nx h λhI=>sk [] [1,4] jv hI))) (λh=>lc.bk h λhI=>sk [] [1] jv hI)
def c1k(w:m6):Option Bool:=
 ((u5 (λs:Int=>c1H w s) 0).bind λx=>x.go (λr=>U r) λs=>b9p w)
def f4p(w)(r):NF S7 r (d0d w) (λs=>c1k w):=λ_ h=>PK<|rg<|lp (e56 w) h (λ_ h=>S7.rt h) (f08 w r) λhI=>sk [] [1,4] jv hI
def f2T(w:m6):Int->KS:=λi=>⟨S7.k 3 [W],bs 1 (.ptr 1 0 0::bs 1 (vi i::bs 102 [])),[U [],U [.var 28 (F9 w)]]⟩
def c2k(w:m6)(i:Int):Option (n6 Bool Int Unit):=
 (bif decide (i<(O w.b9:Int))then(idx w.b9 i).bind λnode=>bif(node.Id != i)then U (n6.ret W)else(a5S node).bind λH4=>bif(!H4)then U (n6.ret W)else U (n6.nxt (s6 (i+1)))else U (n6.brk ()))
def f5H(w):LQ S7 (d0d w) (f2T w) (λs=>c2k w s):=λlc i h=>PK<|rg<|l9 4 h (λh=>rg<|A3 B3 3 h λnode hnode h=>l9 8 h (λh=>rg<|fL lc h) (λh=>P7 B3 12 hnode<|n9 a3J b1Q 14 h λH4 h=>l9 16 h (λh=>rg<|fL lc h) (λh=>rg<|(lc.nx h λhI=>sk [] [1,3] jv hI)))) (λh=>lc.bk h λhI=>sk [] [1] jv hI)
def b3L(w:m6):Option Bool:=
 (bif((O w.b9:Int) != 3)then U W else bif decide ((O w.c9:Int)>40)then U W else bif decide ((O w.i4:Int)>60)then U W else bif decide ((O w.Told:Int)>60)then U W else(u5 (λs:Int=>c2k w s) 0).bind λx=>x.go (λr=>U r) λs=>c1k w)
def c8m{w}:OK S7 [.agg (N0 w)] (b3L w):=
 t9 _ λr h=>t5<|l9 4 h (λh=>rg<|fE h) (λh=>l9 10 h (λh=>rg<|fE h) (λh=>l9 16 h (λh=>rg<|fE h) (λh=>l9 21 h (λh=>rg<|fE h) (λh=>rg<|lp (f5H w) h (λ_ h=>S7.rt h) (f4p w r) λhI=>sk [] [1,3] jv hI))))
def a0x:FS (m6):=⟨28,Tryz.f28,[.val F4 Z2],[Z],[.val F4 []],λr=>.agg (Y2 r),λ_=>[Z],Tryz.func28⟩
def d0u(w:m6):(E m4)->KS:=λNodes1=>⟨a0x.k 4 [W],bs 1 (.ptr 1 0 0::(.ptr 2 0 0::(.ptr 3 0 0::bs 72 []))),[U [],U [.var 28 (F9 w)],U jq,U [.var 28 [.own 4 0 27 0 (O Nodes1),.nil,.nil,.own 5 0 5 0 (([]:E s8)++w.Told).length]],U [F7 59 27 B8 Nodes1],U [s5 66 5 B6 (([]:E s8)++w.Told)]]⟩
def d6X(w:m6)(Nodes1:E m4):(E m9)->KS:=λNet1=>⟨a0x.k 6 [W,W],bs 1 (.ptr 1 0 0::(.ptr 2 0 0::(.ptr 3 0 0::bs 72 []))),[U [],U [.var 28 (F9 w)],U jq,U [.var 28 [.own 4 0 27 0 (O Nodes1),.own 5 0 13 0 (O Net1),.nil,.own 6 0 5 0 (([]:E s8)++w.Told).length]],U [F7 59 27 B8 Nodes1],U [s5 70 13 x7 Net1],U [s5 66 5 B6 (([]:E s8)++w.Told)]]⟩
def d1m(w:m6)(Nodes1:E m4)(Net1:E m9):(E B2)->KS:=λAsked1=>⟨a0x.k 8 [W,W,W],bs 2 (.ptr 1 0 0::(.ptr 2 0 0::bs 72 [])),[U [],U jq,U [.var 28 [.own 3 0 27 0 (O Nodes1),.own 4 0 13 0 (O Net1),.own 5 0 3 0 (O Asked1),.own 6 0 5 0 (([]:E s8)++w.Told).length]],U [F7 59 27 B8 Nodes1],U [s5 70 13 x7 Net1],U [s5 72 3 C9 Asked1],U [s5 66 5 B6 (([]:E s8)++w.Told)]]⟩
def d1B(w:m6)(Nodes1:E m4)(Net1:E m9)(Asked1:E B2):Option m6:=
 U (m6.mk Nodes1 Net1 Asked1 (([]:E s8)++w.Told))
def f3O(w Nodes1 Net1)(r):NF a0x r (d1m w Nodes1 Net1) (λs=>d1B w Nodes1 Net1 s):=λAsked1 h=>PK<|rg<|L0 Nodes1 Net1 Asked1 (([]:E s8)++w.Told)<|fE h
def f3D(w:m6)(Nodes1:E m4)(Net1:E m9):((E B2)×Int)->KS:=λ(i4,i2)=>⟨a0x.k 7 [W,W],bs 1 (.ptr 1 0 0::(.ptr 2 0 0::(.ptr 3 0 0::bs 2 (vi i2::bs 69 [])))),[U [],U [.var 28 (F9 w)],U jq,U [.var 28 [.own 4 0 27 0 (O Nodes1),.own 5 0 13 0 (O Net1),.own 7 0 3 0 (O i4),.own 6 0 5 0 (([]:E s8)++w.Told).length]],U [F7 59 27 B8 Nodes1],U [s5 70 13 x7 Net1],U [s5 66 5 B6 (([]:E s8)++w.Told)],U [s5 72 3 C9 i4]]⟩
def b4A(w:m6)(i4:E B2)(i2:Int):Option (n6 m6 ((E B2)×Int) (E B2)):=
 (bif decide (i2<(O w.i4:Int))then(idx w.i4 i2).bind λasked=>z5 ((([]:E t8).length+(O asked.j8))*32<=140737488355328) (z5 (((O i4)+1)*40<=140737488355328) (U (n6.nxt (i4++[B2.mk asked.b6 (([]:E t8)++asked.j8)],s6 (i2+1)))))else U (n6.brk i4))
def f9O(w Nodes1 Net1):LQ a0x (d1m w Nodes1 Net1) (f3D w Nodes1 Net1) (λs=>b4A w s.1 s.2):=λlc (i4,i2) h=>PK<|rg<|l9 4 h (λh=>rg<|A3 C9 5 h λasked a9n h=>tk 8 []<|P7 C9 12 a9n<|z9 h λe2 h=>oa 28 0 4 ([]:E t8) asked.j8<|oz 88 4 C2 ([]:E t8) asked.j8<|E7 t8<|ob e2<|tl (15,{v:=U (.own 28 0 4 0 (([]:E t8)++asked.j8).length),e:=U (s5 88 4 C2 (([]:E t8)++asked.j8))})<|z0 (([]:E t8)++asked.j8)<|tk 17 [Z,Z,U 4]<|z9 h λe3 h=>J4 18 31 72 3 40 C9 i4 (B2.mk asked.b6 (([]:E t8)++asked.j8)) e3<|I2 (B2.mk asked.b6 (([]:E t8)++asked.j8))<|rg<|(lc.nx h λhI=>sk [] [1,2,3,6] [(1,0),(2,0),(3,0),(4,0),(5,0),(6,0),(31,0)] hI)) (λh=>lc.bk h λhI=>sk [] [2,3] [(2,0),(3,0),(4,0),(5,0),(7,0),(6,0)] hI)
def c5c(w:m6)(Nodes1:E m4)(Net1:E m9):Option m6:=
 ((u5 (λs:(E B2)×Int=>b4A w s.1 s.2) ([],0)).bind λx=>x.go (λr=>U r) λs=>d1B w Nodes1 Net1 s)
def e5Q(w Nodes1)(r):NF a0x r (d6X w Nodes1) (λs=>c5c w Nodes1 s):=λNet1 h=>PK<|rg<|lp (f9O w Nodes1 Net1) h (λ_ h=>a0x.rt h) (f3O w Nodes1 Net1 r) λhI=>sk [.own (.cell 3 0 2) 72 3] [1,2,3,6] [(1,0),(2,0),(3,0),(4,0),(5,0),(6,0),(8,0)] hI
def f6M(w:m6)(Nodes1:E m4):((E m9)×Int)->KS:=λ(c9,i1)=>⟨a0x.k 5 [W],bs 1 (.ptr 1 0 0::(.ptr 2 0 0::(.ptr 3 0 0::bs 1 (vi i1::bs 70 [])))),[U [],U [.var 28 (F9 w)],U jq,U [.var 28 [.own 4 0 27 0 (O Nodes1),.own 6 0 13 0 (O c9),.nil,.own 5 0 5 0 (([]:E s8)++w.Told).length]],U [F7 59 27 B8 Nodes1],U [s5 66 5 B6 (([]:E s8)++w.Told)],U [s5 70 13 x7 c9]]⟩
def b4Z(w:m6)(c9:E m9)(i1:Int):Option (n6 m6 ((E m9)×Int) (E m9)):=
 (bif decide (i1<(O w.c9:Int))then(idx w.c9 i1).bind λmsg=>(a9P msg).bind λJ8=>z5 (((O c9)+1)*152<=140737488355328) (U (n6.nxt (c9++[J8],s6 (i1+1))))else U (n6.brk c9))
def e8T(w Nodes1):LQ a0x (d6X w Nodes1) (f6M w Nodes1) (λs=>b4Z w s.1 s.2):=λlc (c9,i1) h=>PK<|rg<|l9 4 h (λh=>rg<|A3 x7 5 h λmsg hmsg h=>n9 b5T c1G 7 h λJ8 h=>tk 8 E5<|z9 h λe4 h=>J4 9 21 70 13 152 x7 c9 J8 e4<|I2 J8<|rg<|(lc.nx h λhI=>sk [] [1,2,3,5] [(1,0),(2,0),(3,0),(4,0),(5,0),(21,0)] hI)) (λh=>lc.bk h λhI=>sk [] [1,2,3] [(1,0),(2,0),(3,0),(4,0),(6,0),(5,0)] hI)
def c5S(w:m6)(Nodes1:E m4):Option m6:=
 ((u5 (λs:(E m9)×Int=>b4Z w s.1 s.2) ([],0)).bind λx=>x.go (λr=>U r) λs=>c5c w Nodes1 s)
def e6o(w)(r):NF a0x r (d0u w) (λs=>c5S w s):=λNodes1 h=>PK<|rg<|lp (e8T w Nodes1) h (λ_ h=>a0x.rt h) (e5Q w Nodes1 r) λhI=>sk [.own (.cell 3 0 1) 70 13] [1,2,3,5] [(1,0),(2,0),(3,0),(4,0),(5,0),(7,0)] hI
def f1Z(w:m6):((E m4)×Int)->KS:=λ(b9,i)=>⟨a0x.k 3 [],bs 1 (.ptr 1 0 0::(.ptr 2 0 0::(.ptr 3 0 0::(vi i::bs 71 [])))),[U [],U [.var 28 (F9 w)],U jq,U [.var 28 [.own 5 0 27 0 (O b9),.nil,.nil,.own 4 0 5 0 (([]:E s8)++w.Told).length]],U [s5 66 5 B6 (([]:E s8)++w.Told)],U [F7 59 27 B8 b9]]⟩
def e4f(l8Copy:m4):E V:=(a8o l8Copy)
def b3i(w:m6)(b9:E m4)(i:Int):Option (n6 m6 ((E m4)×Int) (E m4)):=
 (bif decide (i<(O w.b9:Int))then(idx w.b9 i).bind λnode=>(a7C node).bind λl8Copy=>z5 (((O b9)+1)*392<=140737488355328) (U (n6.nxt (b9++[l8Copy],s6 (i+1))))else U (n6.brk b9))
def e3o(w):LQ a0x (d0u w) (f1Z w) (λs=>b3i w s.1 s.2):=λlc (b9,i) h=>PK<|rg<|l9 4 h (λh=>rg<|A3 B3 5 h λnode hnode h=>n9 b1L b6H 7 h λl8Copy h=>om (x8.deep W 59 27 1 [e4f l8Copy]=F7 59 27 B8 [l8Copy]) rfl<|C5 l8Copy<|tl (8,{a:=.dck [Z,Z,U 8,U 7,Z,Z,Z,U 1,U 8,Z,Z,Z,U 2,U 2,Z,Z,U 1,Z,U 4,Z,Z,Z,U 2,U 2,Z,Z,U 7] [Z,Z,U 121,U 50,Z,Z,Z,U 4,Z,Z,Z,Z,Z,Z,Z,Z,U 4,Z,Z,Z,Z,Z,Z,Z,Z,Z,U 50],e:=U (F7 59 27 B8 [l8Copy])})<|z9 h λe5 h=>om (V.own 20 0 27 0 ((O b9)+1)=.own 20 0 27 0 (b9++[l8Copy]).length) (by simp)<|om (x8.deep W 59 27 ((O b9)+1) (b9.map B8++[B8 l8Copy])=F7 59 27 B8 (b9++[l8Copy])) (c5r rfl)<|z0 b9<|ob e5<|om (1=1) rfl<|tl (9,{a:=.dck [] [],v:=U (.own 20 0 27 0 (b9++[l8Copy]).length),e:=U (F7 59 27 B8 (b9++[l8Copy]))})<|rg<|(lc.nx h λhI=>sk [] [1,2,3,4] [(1,0),(2,0),(3,0),(4,0),(20,0)] hI)) (λh=>lc.bk h λhI=>sk [] [1,2,3] [(1,0),(2,0),(3,0),(5,0),(4,0)] hI)
def b4z(w:m6):Option m6:=
 (z5 ((([]:E s8).length+(O w.Told))*40<=140737488355328) (((u5 (λs:(E m4)×Int=>b3i w s.1 s.2) ([],0)).bind λx=>x.go (λr=>U r) λs=>c5S w s)))
def d5r{w}:OK a0x [.agg (N0 w)] (b4z w):=
 t9 _ λr h=>t5<|tk 0 []<|z9 h λe1 h=>oa 6 0 5 ([]:E s8) w.Told<|oz 66 5 B6 ([]:E s8) w.Told<|E7 s8<|ob e1<|tl (3,{v:=U (.own 6 0 5 0 (([]:E s8)++w.Told).length),e:=U (s5 66 5 B6 (([]:E s8)++w.Told))})<|rg<|lp (e3o w) h (λ_ h=>a0x.rt h) (e6o w r) λhI=>sk [.ownD (.cell 8 0 0) 59 27] [1,2,3,4] [(1,0),(2,0),(8,0),(6,0),(11,0)] hI
def a6M:FS ((E v6)×z7):=⟨56,Tryz.f56,[.val [U 3] [U 39]],[U (0,.ptr [U 1,Z] []),Z,Z],[.ptr [U 1,Z] [],.val F4 Z2,.val [] []],λr=>A5 39 3 L2 r.1,λr=>[U (.optr 98 (a1p r.2)),Z,Z],Tryz.func56⟩
def c8C:(z7×E v6)->KS:=λ(w1,out1)=>⟨a6M.k 4 [W],bs 7 (.own 1 0 3 0 (O out1)::bs 22 []),[U [.var 98 [n7 1 P4 w1.b,vi w1.p],.dead,.dead,.dead,.dead],U [s5 39 3 L2 out1]]⟩
def d1K(w1:z7)(out1:E v6):Option ((E v6)×z7):=
 U (out1,w1)
def e1E(r):NF a6M r c8C (λs=>d1K s.1 s.2):=λ(w1,out1) h=>PK<|rg<|z0 out1<|fE h
def d6R(n:Int):(z7×(E v6)×(E s8)×(E B2)×(E m9)×(E m4)×Int)->KS:=λ(r_1,out,Told,i4,c9,b9,i)=>⟨a6M.k 3 [],.ptr 0 0 0::bs 1 (vi n::bs 1 (.ptr 1 0 0::bs 2 (.own 2 0 3 0 (O out)::(vi i::bs 21 [])))),[U [.var 98 [n7 1 P4 r_1.b,vi r_1.p],.dead,.dead,.dead,.dead],U [.var 28 [.own 6 0 27 0 (O b9),.own 5 0 13 0 (O c9),.own 4 0 3 0 (O i4),.own 3 0 5 0 (O Told)]],U [s5 39 3 L2 out],U [s5 66 5 B6 Told],U [s5 72 3 C9 i4],U [s5 70 13 x7 c9],U [F7 59 27 B8 b9]]⟩
def f4X(n:Int)(out:E v6)(i:Int)(l9Event:v6×z7×m6):((E m4)×(E m9)×(E B2)×E s8)->KS:=λ(Nodes1,Net1,Asked1,Told1)=>⟨a6M.k 8 [Y,Y],.ptr 0 0 0::bs 1 (vi n::bs 1 (.ptr 1 0 0::bs 2 (.own 6 0 3 0 (out++[l9Event.1]).length::(vi i::bs 21 [])))),[U [.var 98 [n7 1 P4 l9Event.2.1.b,vi l9Event.2.1.p],.dead,.dead,.dead,.dead],U [.var 28 [.own 2 0 27 0 (O Nodes1),.own 3 0 13 0 (O Net1),.own 4 0 3 0 (O Asked1),.own 5 0 5 0 (O Told1)]],U [F7 59 27 B8 Nodes1],U [s5 70 13 x7 Net1],U [s5 72 3 C9 Asked1],U [s5 66 5 B6 Told1],U [s5 39 3 L2 (out++[l9Event.1])]]⟩
def c7z(out:E v6)(i:Int)(l9Event:v6×z7×m6)(Nodes1:E m4)(Net1:E m9)(Asked1:E B2)(Told1:E s8):Option (n6 ((E v6)×z7) (z7×(E v6)×(E s8)×(E B2)×(E m9)×(E m4)×Int) (z7×E v6)):=
 U (n6.nxt (l9Event.2.1,out++[l9Event.1],Told1,Asked1,Net1,Nodes1,s6 (i+1)))
def f9f(n out i l9Event)(lc:J2 a6M c8C (d6R n)):NL lc (f4X n out i l9Event) (λs=>c7z out i l9Event s.1 s.2.1 s.2.2.1 s.2.2.2):=λ(Nodes1,Net1,Asked1,Told1) h=>PK<|rg<|(lc.nx h λhI=>sk [] [0,2,4,7,8] [(1,0),(6,0),(5,0),(4,0),(3,0),(2,0)] hI)
def c2F(n:Int)(r_1:z7)(out:E v6)(Told:E s8)(i4:E B2)(c9:E m9)(b9:E m4)(i:Int):Option (n6 ((E v6)×z7) (z7×(E v6)×(E s8)×(E B2)×(E m9)×(E m4)×Int) (z7×E v6)):=
 (bif decide (i<n)then(c1A r_1 (m6.mk b9 c9 i4 Told)).bind λl9Event=>z5 ((O b9)=(O l9Event.2.2.b9)) (z5 ((O c9)=(O l9Event.2.2.c9)) (z5 ((O i4)=(O l9Event.2.2.i4)) (z5 ((O Told)=(O l9Event.2.2.Told)) (z5 (((O out)+1)*40<=140737488355328) (((((b3L l9Event.2.2).bind λC8=>bif C8 then(b4z l9Event.2.2).bind λa3u=>(b0O a3u l9Event.1).bind λa1T=>U (r9.brk (a1T.b9,a1T.c9,a1T.i4,a1T.Told))else U (r9.brk (l9Event.2.2.b9,l9Event.2.2.c9,l9Event.2.2.i4,l9Event.2.2.Told))):Option (r9 (n6 ((E v6)×z7) (z7×(E v6)×(E s8)×(E B2)×(E m9)×(E m4)×Int) (z7×E v6)) ((E m4)×(E m9)×(E B2)×E s8))).bind λx=>x.go U λj=>c7z out i l9Event j.1 j.2.1 j.2.2.1 j.2.2.2))))))else U (n6.brk (r_1,out)))
set_option maxRecDepth 20000 in
def e8C(n):LQ a6M c8C (d6R n) (λs=>c2F n s.1 s.2.1 s.2.2.1 s.2.2.2.1 s.2.2.2.2.1 s.2.2.2.2.2.1 s.2.2.2.2.2.2):=λlc (r_1,out,Told,i4,c9,b9,i) h=>PK<|rg<|l9 2 h (λh=>rg<|n9 c0G e8Z 2 h λl9Event h=>z9 h λe1 h=>z9 h λe2 h=>z9 h λe3 h=>z9 h λe4 h=>L0 b9 c9 i4 Told<|rg<|z0 l9Event.1.j8<|tk 2 [Z,Z,U 4]<|z9 h λe5 h=>J4 3 18 39 3 40 L2 out l9Event.1 e5<|I2 l9Event.1<|D5 h (f9f n out i l9Event lc) λx2 h hc2=>rg<|D6 h λC8 d2z h=>cdT (S7.t 1 Y C8) h (λ_ h=>om (a1n cx.P 27 [.agg [.sl 27 (O l9Event.2.2.b9) (a0R (l9Event.2.2.b9.map B8)),n7 13 x7 l9Event.2.2.c9,n7 3 C9 l9Event.2.2.i4,n7 5 B6 l9Event.2.2.Told]] (S7.R C8) (S7.Θ C8)) (by simp only[b1w b3f];exact(c8m C8 d2z))<|osc S7 C8 rfl (W1 1)<|om ((O b9)=(O l9Event.2.2.b9)) (by first|(simp;done)|(simp[e1,e2,e3,e4];done))<|om ((O c9)=(O l9Event.2.2.c9)) (by first|(simp;done)|(simp[e1,e2,e3,e4];done))<|om ((O i4)=(O l9Event.2.2.i4)) (by first|(simp;done)|(simp[e1,e2,e3,e4];done))<|om ((O Told)=(O l9Event.2.2.Told)) (by first|(simp;done)|(simp[e1,e2,e3,e4];done))<|rg<|D6 h λa3u e6I h=>om (a1n cx.P 28 [.agg [.sl 27 (O l9Event.2.2.b9) (a0R (l9Event.2.2.b9.map B8)),n7 13 x7 l9Event.2.2.c9,n7 3 C9 l9Event.2.2.i4,n7 5 B6 l9Event.2.2.Told]] (a0x.R a3u) (a0x.Θ a3u)) (by simp only[b1w b3f];exact(d5r a3u e6I))<|om ((O b9)=(O l9Event.2.2.b9)) (by first|(simp;done)|(simp[e1,e2,e3,e4];done))<|om ((O c9)=(O l9Event.2.2.c9)) (by first|(simp;done)|(simp[e1,e2,e3,e4];done))<|om ((O i4)=(O l9Event.2.2.i4)) (by first|(simp;done)|(simp[e1,e2,e3,e4];done))<|om ((O Told)=(O l9Event.2.2.Told)) (by first|(simp;done)|(simp[e1,e2,e3,e4];done))<|tl (a0x.t 1 W a3u)<|n9 b1Z c6X 3 h λa1T h=>D4 a3u<|z0 l9Event.1.j8<|(u6 h hc2 λhI=>sk [] [0,2,4,7,8] [(1,0),(25,0),(25,1),(25,2),(25,3),(18,0)] hI)) (λ_ h=>om (a1n cx.P 27 [.agg [.sl 27 (O l9Event.2.2.b9) (a0R (l9Event.2.2.b9.map B8)),n7 13 x7 l9Event.2.2.c9,n7 3 C9 l9Event.2.2.i4,n7 5 B6 l9Event.2.2.Told]] (S7.R C8) (S7.Θ C8)) (by simp only[b1w b3f];exact(c8m C8 d2z))<|osc S7 C8 rfl (W1 1)<|om ((O b9)=(O l9Event.2.2.b9)) (by first|(simp;done)|(simp[e1,e2,e3,e4];done))<|om ((O c9)=(O l9Event.2.2.c9)) (by first|(simp;done)|(simp[e1,e2,e3,e4];done))<|om ((O i4)=(O l9Event.2.2.i4)) (by first|(simp;done)|(simp[e1,e2,e3,e4];done))<|om ((O Told)=(O l9Event.2.2.Told)) (by first|(simp;done)|(simp[e1,e2,e3,e4];done))<|(u6 h hc2 λhI=>om ((.own 6 0 27 0 (O b9):V)=.own 6 0 27 0 (O l9Event.2.2.b9)) (by first|(simp;done)|(simp[e1,e2,e3,e4];done))<|om ((.own 5 0 13 0 (O c9):V)=.own 5 0 13 0 (O l9Event.2.2.c9)) (by first|(simp;done)|(simp[e1,e2,e3,e4];done))<|om ((.own 4 0 3 0 (O i4):V)=.own 4 0 3 0 (O l9Event.2.2.i4)) (by first|(simp;done)|(simp[e1,e2,e3,e4];done))<|om ((.own 3 0 5 0 (O Told):V)=.own 3 0 5 0 (O l9Event.2.2.Told)) (by first|(simp;done)|(simp[e1,e2,e3,e4];done))<|sk [.is (.cell 1 0 0) (.own 6 0 27 0 (O l9Event.2.2.b9)),.is (.cell 1 0 1) (.own 5 0 13 0 (O l9Event.2.2.c9)),.is (.cell 1 0 2) (.own 4 0 3 0 (O l9Event.2.2.i4)),.is (.cell 1 0 3) (.own 3 0 5 0 (O l9Event.2.2.Told))] [0,2,4,7,8] [(1,0),(6,0),(5,0),(4,0),(3,0),(18,0)] hI))) (λh=>lc.bk h λhI=>sk [] [7] Jv hI)
def b7p(r_:z7)(w:m6)(n:Int):Option ((E v6)×z7):=
 ((u5 (λs:z7×(E v6)×(E s8)×(E B2)×(E m9)×(E m4)×Int=>c2F n s.1 s.2.1 s.2.2.1 s.2.2.2.1 s.2.2.2.2.1 s.2.2.2.2.2.1 s.2.2.2.2.2.2) (r_,([]:E v6),w.Told,w.i4,w.c9,w.b9,0)).bind λx=>x.go (λr=>U r) λs=>d1K s.1 s.2)
def f9b{r_ w n}:OK a6M [.optr 98 (a1p r_),.agg (Y2 w),vi n] (b7p r_ w n):=
 t9 _ λr h=>t5<|tk 0 [Z,Z,U 4]<|rg<|lp (e8C n) h (λ_ h=>a6M.rt h) (e1E r) λhI=>om ((.own 3 0 3 0 0:V)=.own 3 0 3 0 ([]:E v6).length) (by simp)<|sk [.is (.tmp 7) (.own 3 0 3 0 ([]:E v6).length)] [0,2,4,7,8] [(1,0),(3,0),(0,4),(0,3),(0,2),(0,1)] hI
def a25:FS (m6×(E v6)×z7):=⟨58,Tryz.f58,[.val F4 Z2,.val [U 3] [U 39]],[U (0,.ptr [U 1,Z] []),Z,Z],[.ptr [U 1,Z] [],.val F4 Z2,.val [U 3] [U 39]],λr=>.tup [.agg (Y2 r.1),A5 39 3 L2 r.2.1],λr=>[U (.optr 98 (a1p r.2.2)),Z,Z],Tryz.func58⟩
def c6g(pick:Int×z7)(num:Int×z7):((E v6)×(E m4)×(E m9)×(E B2)×E s8)->KS:=λ(out2,Nodes1,Net1,Asked1,Told1)=>⟨a25.k 4 [W],.ptr 0 0 0::bs 1 (.own 1 0 3 0 (O out2)::bs 1 (.ptr 2 0 0::bs 1 (.ptr 7 0 0::bs 1 (vi pick.1::bs 52 [])))),[U [.var 98 [n7 1 P4 num.2.b,vi num.2.p],.dead,.dead,.dead,.dead,.dead],U [s5 39 3 L2 out2],U [.var 28 [.own 3 0 27 0 (O Nodes1),.own 4 0 13 0 (O Net1),.own 5 0 3 0 (O Asked1),.own 6 0 5 0 (O Told1)]],U [F7 59 27 B8 Nodes1],U [s5 70 13 x7 Net1],U [s5 72 3 C9 Asked1],U [s5 66 5 B6 Told1],U jq]⟩
def f2X(pick:Int×z7):(z7×(E v6)×(E m4)×(E m9)×(E B2)×E s8)->KS:=λ(w1,out3,Nodes2,Net2,Asked2,Told2)=>⟨a25.k 6 [W,Y],bs 2 (.own 1 0 3 0 (O out3)::bs 1 (.ptr 2 0 0::bs 1 (.ptr 7 0 0::bs 1 (vi pick.1::bs 52 [])))),[U [.var 98 [n7 1 P4 w1.b,vi w1.p],.dead,.dead,.dead,.dead,.dead],U [s5 39 3 L2 out3],U [.var 28 [.own 3 0 27 0 (O Nodes2),.own 4 0 13 0 (O Net2),.own 5 0 3 0 (O Asked2),.own 6 0 5 0 (O Told2)]],U [F7 59 27 B8 Nodes2],U [s5 70 13 x7 Net2],U [s5 72 3 C9 Asked2],U [s5 66 5 B6 Told2],U jq]⟩
def c0l(pick:Int×z7)(w1:z7)(out3:E v6)(Nodes2:E m4)(Net2:E m9)(Asked2:E B2)(Told2:E s8):Option (m6×(E v6)×z7):=
 ((a2F (m6.mk Nodes2 Net2 Asked2 Told2) out3 (v6.mk 7 pick.1 [])).bind λZ4=>U (Z4.1,Z4.2,w1))
def e0X(pick)(r):NF a25 r (f2X pick) (λs=>c0l pick s.1 s.2.1 s.2.2.1 s.2.2.2.1 s.2.2.2.2.1 s.2.2.2.2.2):=λ(w1,out3,Nodes2,Net2,Asked2,Told2) h=>PK<|rg<|n9 a3O a4M 4 h λZ4 h=>L0 Nodes2 Net2 Asked2 Told2<|z0 out3<|D4 Z4.1<|z0 Z4.2<|fE h
def c8d(pick:Int×z7)(num:Int×z7)(out2:E v6)(Nodes1:E m4)(Net1:E m9)(Asked1:E B2)(Told1:E s8):Option (m6×(E v6)×z7):=
 (((bif decide ((O Net1:Int)>0)then(I7 num.2 (O Net1:Int)).bind λI4=>(a2F (m6.mk Nodes1 Net1 Asked1 Told1) out2 (v6.mk 2 I4.1 [])).bind λa2W=>U (r9.brk (I4.2,a2W.2,a2W.1.b9,a2W.1.c9,a2W.1.i4,a2W.1.Told))else U (r9.brk (num.2,out2,Nodes1,Net1,Asked1,Told1))):Option (r9 (m6×(E v6)×z7) (z7×(E v6)×(E m4)×(E m9)×(E B2)×E s8))).bind λx=>x.go U λj=>c0l pick j.1 j.2.1 j.2.2.1 j.2.2.2.1 j.2.2.2.2.1 j.2.2.2.2.2)
def e8I(pick num)(r):NF a25 r (c6g pick num) (λs=>c8d pick num s.1 s.2.1 s.2.2.1 s.2.2.2.1 s.2.2.2.2):=λ(out2,Nodes1,Net1,Asked1,Told1) h=>PK<|D5 h (e0X pick r) λx1 h hc1=>rg<|l9 3 h (λh=>rg<|n9 J7 K0 6 h λI4 h=>n9 a3O a4M 8 h λa2W h=>L0 Nodes1 Net1 Asked1 Told1<|z0 out2<|(u6 h hc1 λhI=>sk [] [2,4,6,8] [(20,4),(2,0),(20,0),(20,1),(20,2),(20,3),(7,0)] hI)) (λh=>u6 h hc1 λhI=>sk [] [2,4,6,8] jJ hI)
def c9J(pick:Int×z7)(num:Int×z7):((E s8)×(E B2)×(E m9)×(E m4)×(E v6)×Int)->KS:=λ(Told,i4,c9,b9,out1,i)=>⟨a25.k 3 [],.ptr 0 0 0::bs 1 (.own 7 0 3 0 (O out1)::bs 1 (.ptr 1 0 0::bs 1 (.ptr 2 0 0::bs 1 (vi pick.1::(vi i::bs 51 []))))),[U [.var 98 [n7 1 P4 num.2.b,vi num.2.p],.dead,.dead,.dead,.dead,.dead],U [.var 28 [.own 6 0 27 0 (O b9),.own 5 0 13 0 (O c9),.own 4 0 3 0 (O i4),.own 3 0 5 0 (O Told)]],U jq,U [s5 66 5 B6 Told],U [s5 72 3 C9 i4],U [s5 70 13 x7 c9],U [F7 59 27 B8 b9],U [s5 39 3 L2 out1]]⟩
def d5W(pick:Int×z7)(num:Int×z7)(i:Int):((E v6)×(E m4)×(E m9)×(E B2)×E s8)->KS:=λ(out5,Nodes4,Net4,Asked4,Told4)=>⟨a25.k 5 [Y,W],.ptr 0 0 0::bs 1 (.own 1 0 3 0 (O out5)::bs 1 (.ptr 2 0 0::bs 1 (.ptr 7 0 0::bs 1 (vi pick.1::(vi i::bs 51 []))))),[U [.var 98 [n7 1 P4 num.2.b,vi num.2.p],.dead,.dead,.dead,.dead,.dead],U [s5 39 3 L2 out5],U [.var 28 [.own 3 0 27 0 (O Nodes4),.own 4 0 13 0 (O Net4),.own 5 0 3 0 (O Asked4),.own 6 0 5 0 (O Told4)]],U [F7 59 27 B8 Nodes4],U [s5 70 13 x7 Net4],U [s5 72 3 C9 Asked4],U [s5 66 5 B6 Told4],U jq]⟩
def c5H(pick:Int×z7)(i:Int)(out5:E v6)(Nodes4:E m4)(Net4:E m9)(Asked4:E B2)(Told4:E s8):Option (n6 (m6×(E v6)×z7) ((E s8)×(E B2)×(E m9)×(E m4)×(E v6)×Int) ((E v6)×(E m4)×(E m9)×(E B2)×E s8)):=
 ((a2F (m6.mk Nodes4 Net4 Asked4 Told4) out5 (v6.mk 5 pick.1 [])).bind λa3o=>U (n6.nxt (a3o.1.Told,a3o.1.i4,a3o.1.c9,a3o.1.b9,a3o.2,s6 (i-1))))
def e9P(pick num i)(lc:J2 a25 (c6g pick num) (c9J pick num)):NL lc (d5W pick num i) (λs=>c5H pick i s.1 s.2.1 s.2.2.1 s.2.2.2.1 s.2.2.2.2):=λ(out5,Nodes4,Net4,Asked4,Told4) h=>PK<|rg<|n9 a3O a4M 4 h λa3o h=>L0 Nodes4 Net4 Asked4 Told4<|z0 out5<|rg<|(lc.nx h λhI=>sk [] [0,2,4,6,8,9] [(2,0),(7,0),(12,3),(12,2),(12,1),(12,0),(12,4)] hI)
def e99(pick:Int×z7)(num:Int×z7)(i:Int):((E v6)×(E m4)×(E m9)×(E B2)×E s8)->KS:=λ(out4,Nodes3,Net3,Asked3,Told3)=>⟨a25.k 4 [Y],.ptr 0 0 0::bs 1 (.own 1 0 3 0 (O out4)::bs 1 (.ptr 2 0 0::bs 1 (.ptr 7 0 0::bs 1 (vi pick.1::(vi i::bs 51 []))))),[U [.var 98 [n7 1 P4 num.2.b,vi num.2.p],.dead,.dead,.dead,.dead,.dead],U [s5 39 3 L2 out4],U [.var 28 [.own 3 0 27 0 (O Nodes3),.own 4 0 13 0 (O Net3),.own 5 0 3 0 (O Asked3),.own 6 0 5 0 (O Told3)]],U [F7 59 27 B8 Nodes3],U [s5 70 13 x7 Net3],U [s5 72 3 C9 Asked3],U [s5 66 5 B6 Told3],U jq]⟩
def a8u(out4:E v6)(Nodes3:E m4)(Net3:E m9)(Asked3:E B2)(Told3:E s8):Option (n6 (m6×(E v6)×z7) ((E v6)×(E m4)×(E m9)×(E B2)×E s8) ((E v6)×(E m4)×(E m9)×(E B2)×E s8)):=
 (bif decide ((O Net3:Int)>0)then(a2F (m6.mk Nodes3 Net3 Asked3 Told3) out4 (v6.mk 3 0 [])).bind λa3c=>U (n6.nxt (a3c.2,a3c.1.b9,a3c.1.c9,a3c.1.i4,a3c.1.Told))else U (n6.brk (out4,Nodes3,Net3,Asked3,Told3)))
def f4h(pick num i):LQ a25 (d5W pick num i) (e99 pick num i) (λs=>a8u s.1 s.2.1 s.2.2.1 s.2.2.2.1 s.2.2.2.2):=λlc (out4,Nodes3,Net3,Asked3,Told3) h=>PK<|rg<|l9 3 h (λh=>rg<|n9 a3O a4M 3 h λa3c h=>L0 Nodes3 Net3 Asked3 Told3<|z0 out4<|(lc.nx h λhI=>sk [] [0,2,4,6,8,9] [(15,4),(2,0),(15,0),(15,1),(15,2),(15,3),(7,0)] hI)) (λh=>lc.bk h λhI=>sk [] [0,2,4,6,8,9] jJ hI)
def b1g(pick:Int×z7)(Told:E s8)(i4:E B2)(c9:E m9)(b9:E m4)(out1:E v6)(i:Int):Option (n6 (m6×(E v6)×z7) ((E s8)×(E B2)×(E m9)×(E m4)×(E v6)×Int) ((E v6)×(E m4)×(E m9)×(E B2)×E s8)):=
 (bif decide (i>0)then(u5 (λs:(E v6)×(E m4)×(E m9)×(E B2)×E s8=>a8u s.1 s.2.1 s.2.2.1 s.2.2.2.1 s.2.2.2.2) (out1,b9,c9,i4,Told)).bind λx=>x.go (λr=>U (n6.ret r)) λs=>c5H pick i s.1 s.2.1 s.2.2.1 s.2.2.2.1 s.2.2.2.2 else U (n6.brk (out1,b9,c9,i4,Told)))
def e8u(pick num):LQ a25 (c6g pick num) (c9J pick num) (λs=>b1g pick s.1 s.2.1 s.2.2.1 s.2.2.2.1 s.2.2.2.2.1 s.2.2.2.2.2):=λlc (Told,i4,c9,b9,out1,i) h=>PK<|rg<|l9 1 h (λh=>lp (f4h pick num i) h (λ_ h=>lc.rt h) (e9P pick num i lc) λhI=>sk [] [0,2,4,6,8,9] JX hI) (λh=>lc.bk h λhI=>sk [] [0,2,4,6,8] JX hI)
def b9l(r_:z7)(w:m6)(out:E v6):Option (m6×(E v6)×z7):=
 ((I7 r_ 3).bind λpick=>(a71 pick.2 [3,8,20]).bind λnum=>(u5 (λs:(E s8)×(E B2)×(E m9)×(E m4)×(E v6)×Int=>b1g pick s.1 s.2.1 s.2.2.1 s.2.2.2.1 s.2.2.2.2.1 s.2.2.2.2.2) (w.Told,w.i4,w.c9,w.b9,out,num.1)).bind λx=>x.go (λr=>U r) λs=>c8d pick num s.1 s.2.1 s.2.2.1 s.2.2.2.1 s.2.2.2.2)
def e2E{r_ w out}:OK a25 [.optr 98 (a1p r_),.agg (Y2 w),A5 39 3 L2 out] (b9l r_ w out):=
 t9 _ λr h=>t5<|n9 J7 K0 1 h λpick h=>rg<|tk 1 []<|n9 b1s b3q 2 h λnum h=>om (3=[3,8,20].length) (by simp)<|lp (e8u pick num) h (λ_ h=>a25.rt h) (e8I pick num r) λhI=>sk [] [0,2,4,6,8,9] [(1,0),(2,0),(0,4),(0,3),(0,2),(0,1),(0,5)] hI
def a1e:FS ((E v6)×z7):=⟨21,Tryz.f21,[.val [U 3] [U 39]],[U (0,.ptr [U 1,Z] [])],[.ptr [U 1,Z] []],λr=>A5 39 3 L2 r.1,λr=>[U (.optr 98 (a1p r.2))],Tryz.func21⟩
def e3Y:(z7×(E m4)×(E m9)×(E B2)×(E s8)×E v6)->KS:=λ(r_1,b9,c9,i4,Told,out)=>⟨a1e.k 5 [W,Y],.ptr 0 0 0::bs 2 (.ptr 1 0 0::(.own 6 0 3 0 (O out)::bs 126 [])),[U [.var 98 [n7 1 P4 r_1.b,vi r_1.p]],U [.var 28 [.own 2 0 27 0 (O b9),.own 3 0 13 0 (O c9),.own 4 0 3 0 (O i4),.own 5 0 5 0 (O Told)]],U [F7 59 27 B8 b9],U [s5 70 13 x7 c9],U [s5 72 3 C9 i4],U [s5 66 5 B6 Told],U [s5 39 3 L2 out]]⟩
def c1O:(z7×E v6)->KS:=λ(w,out2)=>⟨a1e.k 7 [W,Y,W],bs 4 (.own 1 0 3 0 (O out2)::bs 126 []),[U [.var 98 [n7 1 P4 w.b,vi w.p]],U [s5 39 3 L2 out2]]⟩
def c9F(w:z7)(out2:E v6):Option ((E v6)×z7):=
 U (out2,w)
def e6g(r):NF a1e r c1O (λs=>c9F s.1 s.2):=λ(w,out2) h=>PK<|rg<|z0 out2<|fE h
def c4I:(z7×(E m4)×(E m9)×(E B2)×(E s8)×(E v6)×Int)->KS:=λ(r_2,Nodes1,Net1,Asked1,Told1,out1,i)=>⟨a1e.k 6 [W,Y],.ptr 0 0 0::bs 2 (.ptr 1 0 0::(.own 6 0 3 0 (O out1)::(vi i::bs 125 []))),[U [.var 98 [n7 1 P4 r_2.b,vi r_2.p]],U [.var 28 [.own 2 0 27 0 (O Nodes1),.own 3 0 13 0 (O Net1),.own 4 0 3 0 (O Asked1),.own 5 0 5 0 (O Told1)]],U [F7 59 27 B8 Nodes1],U [s5 70 13 x7 Net1],U [s5 72 3 C9 Asked1],U [s5 66 5 B6 Told1],U [s5 39 3 L2 out1]]⟩
def c3W(i:Int):(z7×(E m4)×(E m9)×(E B2)×(E s8)×E v6)->KS:=λ(r_4,Nodes3,Net3,Asked3,Told3,out4)=>⟨a1e.k 9 [W,Y,Y,W],.ptr 0 0 0::bs 2 (.ptr 1 0 0::(.own 6 0 3 0 (O out4)::(vi i::bs 125 []))),[U [.var 98 [n7 1 P4 r_4.b,vi r_4.p]],U [.var 28 [.own 2 0 27 0 (O Nodes3),.own 3 0 13 0 (O Net3),.own 4 0 3 0 (O Asked3),.own 5 0 5 0 (O Told3)]],U [F7 59 27 B8 Nodes3],U [s5 70 13 x7 Net3],U [s5 72 3 C9 Asked3],U [s5 66 5 B6 Told3],U [s5 39 3 L2 out4]]⟩
def e0V(i:Int):(z7×(E m4)×(E m9)×(E B2)×(E s8)×E v6)->KS:=λ(r_5,Nodes4,Net4,Asked4,Told4,out5)=>⟨a1e.k 12 [W,Y,Y,W,Y],.ptr 0 0 0::bs 2 (.ptr 1 0 0::(.own 6 0 3 0 (O out5)::(vi i::bs 125 []))),[U [.var 98 [n7 1 P4 r_5.b,vi r_5.p]],U [.var 28 [.own 2 0 27 0 (O Nodes4),.own 3 0 13 0 (O Net4),.own 4 0 3 0 (O Asked4),.own 5 0 5 0 (O Told4)]],U [F7 59 27 B8 Nodes4],U [s5 70 13 x7 Net4],U [s5 72 3 C9 Asked4],U [s5 66 5 B6 Told4],U [s5 39 3 L2 out5]]⟩
def c2h(i:Int)(r_5:z7)(Nodes4:E m4)(Net4:E m9)(Asked4:E B2)(Told4:E s8)(out5:E v6):Option (n6 ((E v6)×z7) (z7×(E m4)×(E m9)×(E B2)×(E s8)×(E v6)×Int) (z7×E v6)):=
 ((I7 r_5 3).bind λa4L=>(a2F (m6.mk Nodes4 Net4 Asked4 Told4) out5 (v6.mk 6 a4L.1 [])).bind λa3o=>U (n6.nxt (a4L.2,a3o.1.b9,a3o.1.c9,a3o.1.i4,a3o.1.Told,a3o.2,s6 (i-1))))
def f7E(i)(lc:J2 a1e c1O c4I):NL lc (e0V i) (λs=>c2h i s.1 s.2.1 s.2.2.1 s.2.2.2.1 s.2.2.2.2.1 s.2.2.2.2.2):=λ(r_5,Nodes4,Net4,Asked4,Told4,out5) h=>PK<|rg<|n9 J7 K0 3 h λa4L h=>n9 a3O a4M 5 h λa3o h=>L0 Nodes4 Net4 Asked4 Told4<|z0 out5<|rg<|(lc.nx h λhI=>sk [] [0,3,4,5] [(1,0),(12,0),(12,1),(12,2),(12,3),(12,4)] hI)
def c2X(i:Int)(r_4:z7)(Nodes3:E m4)(Net3:E m9)(Asked3:E B2)(Told3:E s8)(out4:E v6):Option (n6 ((E v6)×z7) (z7×(E m4)×(E m9)×(E B2)×(E s8)×(E v6)×Int) (z7×E v6)):=
 ((I7 r_4 4).bind λa02=>((bif(a02.1==0)then(I7 a02.2 3).bind λa9z=>(a2F (m6.mk Nodes3 Net3 Asked3 Told3) out4 (v6.mk 7 a9z.1 [])).bind λa3c=>U (r9.brk (a9z.2,a3c.1.b9,a3c.1.c9,a3c.1.i4,a3c.1.Told,a3c.2))else bif(a02.1==1)then(I7 a02.2 3).bind λa9R=>(a2F (m6.mk Nodes3 Net3 Asked3 Told3) out4 (v6.mk 5 a9R.1 [])).bind λb1W=>U (r9.brk (a9R.2,b1W.1.b9,b1W.1.c9,b1W.1.i4,b1W.1.Told,b1W.2))else U (r9.brk (a02.2,Nodes3,Net3,Asked3,Told3,out4))):Option (r9 (n6 ((E v6)×z7) (z7×(E m4)×(E m9)×(E B2)×(E s8)×(E v6)×Int) (z7×E v6)) (z7×(E m4)×(E m9)×(E B2)×(E s8)×E v6))).bind λx=>x.go U λj=>c2h i j.1 j.2.1 j.2.2.1 j.2.2.2.1 j.2.2.2.2.1 j.2.2.2.2.2)
def e2x(i)(lc:J2 a1e c1O c4I):NL lc (c3W i) (λs=>c2X i s.1 s.2.1 s.2.2.1 s.2.2.2.1 s.2.2.2.2.1 s.2.2.2.2.2):=λ(r_4,Nodes3,Net3,Asked3,Told3,out4) h=>PK<|rg<|n9 J7 K0 1 h λa02 h=>D5 h (f7E i lc) λx2 h hc2=>rg<|l9 1 h (λh=>rg<|n9 J7 K0 3 h λa9z h=>n9 a3O a4M 5 h λa3c h=>L0 Nodes3 Net3 Asked3 Told3<|z0 out4<|(u6 h hc2 λhI=>sk [] [0,3,4,5] [(1,0),(16,0),(16,1),(16,2),(16,3),(16,4)] hI)) (λh=>rg<|l9 1 h (λh=>rg<|n9 J7 K0 3 h λa9R h=>n9 a3O a4M 5 h λb1W h=>L0 Nodes3 Net3 Asked3 Told3<|z0 out4<|(u6 h hc2 λhI=>sk [] [0,3,4,5] [(1,0),(18,0),(18,1),(18,2),(18,3),(18,4)] hI)) (λh=>u6 h hc2 λhI=>sk [] [0,3,4,5] [(1,0),(2,0),(3,0),(4,0),(5,0),(6,0)] hI))
def d4U(i:Int):(z7×(E m4)×(E m9)×(E B2)×(E s8)×E v6)->KS:=λ(r_3,Nodes2,Net2,Asked2,Told2,out3)=>⟨a1e.k 8 [W,Y,Y],.ptr 0 0 0::bs 2 (.ptr 1 0 0::(.own 6 0 3 0 (O out3)::(vi i::bs 125 []))),[U [.var 98 [n7 1 P4 r_3.b,vi r_3.p]],U [.var 28 [.own 2 0 27 0 (O Nodes2),.own 3 0 13 0 (O Net2),.own 4 0 3 0 (O Asked2),.own 5 0 5 0 (O Told2)]],U [F7 59 27 B8 Nodes2],U [s5 70 13 x7 Net2],U [s5 72 3 C9 Asked2],U [s5 66 5 B6 Told2],U [s5 39 3 L2 out3]]⟩
def e1b(i:Int):(z7×(E m4)×(E m9)×(E B2)×(E s8)×E v6)->KS:=λ(r_6,Nodes5,Net5,Asked5,Told5,out6)=>⟨a1e.k 11 [W,Y,Y,Y,Y],.ptr 0 0 0::bs 2 (.ptr 1 0 0::(.own 6 0 3 0 (O out6)::(vi i::bs 125 []))),[U [.var 98 [n7 1 P4 r_6.b,vi r_6.p]],U [.var 28 [.own 2 0 27 0 (O Nodes5),.own 3 0 13 0 (O Net5),.own 4 0 3 0 (O Asked5),.own 5 0 5 0 (O Told5)]],U [F7 59 27 B8 Nodes5],U [s5 70 13 x7 Net5],U [s5 72 3 C9 Asked5],U [s5 66 5 B6 Told5],U [s5 39 3 L2 out6]]⟩
def b8H(r_6:z7)(Nodes5:E m4)(Net5:E m9)(Asked5:E B2)(Told5:E s8)(out6:E v6):Option (n6 ((E v6)×z7) (z7×(E m4)×(E m9)×(E B2)×(E s8)×E v6) (z7×(E m4)×(E m9)×(E B2)×(E s8)×E v6)):=
 ((I7 r_6 (O Net5:Int)).bind λa6V=>(a71 a6V.2 [0,0,a6V.1]).bind λa84=>(a2F (m6.mk Nodes5 Net5 Asked5 Told5) out6 (v6.mk 2 a84.1 [])).bind λb2l=>U (n6.nxt (a84.2,b2l.1.b9,b2l.1.c9,b2l.1.i4,b2l.1.Told,b2l.2)))
def e6Z(i)(lc:J2 a1e (c3W i) (d4U i)):NL lc (e1b i) (λs=>b8H s.1 s.2.1 s.2.2.1 s.2.2.2.1 s.2.2.2.2.1 s.2.2.2.2.2):=λ(r_6,Nodes5,Net5,Asked5,Told5,out6) h=>PK<|rg<|n9 J7 K0 7 h λa6V h=>tk 8 []<|n9 b1s b3q 9 h λa84 h=>om (3=[0,0,a6V.1].length) (by simp)<|n9 a3O a4M 11 h λb2l h=>L0 Nodes5 Net5 Asked5 Told5<|z0 out6<|(lc.nx h λhI=>sk [] [0,3,4,5] [(1,0),(18,0),(18,1),(18,2),(18,3),(18,4)] hI)
def b5A(r_3:z7)(Nodes2:E m4)(Net2:E m9)(Asked2:E B2)(Told2:E s8)(out3:E v6):Option (n6 ((E v6)×z7) (z7×(E m4)×(E m9)×(E B2)×(E s8)×E v6) (z7×(E m4)×(E m9)×(E B2)×(E s8)×E v6)):=
 (bif decide ((O Net2:Int)>0)then(I7 r_3 9).bind λa6m=>bif decide (a6m.1>0)then bif decide ((O out3:Int)<200)then(((I7 a6m.2 8).bind λa8w=>bif(a8w.1==0)then(I7 a8w.2 (O Net2:Int)).bind λa7V=>(a2F (m6.mk Nodes2 Net2 Asked2 Told2) out3 (v6.mk 4 a7V.1 [])).bind λb2V=>U (r9.brk (a7V.2,b2V.1.b9,b2V.1.c9,b2V.1.i4,b2V.1.Told,b2V.2))else U (r9.brk (a8w.2,Nodes2,Net2,Asked2,Told2,out3))):Option (r9 (n6 ((E v6)×z7) (z7×(E m4)×(E m9)×(E B2)×(E s8)×E v6) (z7×(E m4)×(E m9)×(E B2)×(E s8)×E v6)) (z7×(E m4)×(E m9)×(E B2)×(E s8)×E v6))).bind λx=>x.go U λj=>b8H j.1 j.2.1 j.2.2.1 j.2.2.2.1 j.2.2.2.2.1 j.2.2.2.2.2 else U (n6.brk (a6m.2,Nodes2,Net2,Asked2,Told2,out3))else U (n6.brk (a6m.2,Nodes2,Net2,Asked2,Told2,out3))else U (n6.brk (r_3,Nodes2,Net2,Asked2,Told2,out3)))
def e7P(i):LQ a1e (c3W i) (d4U i) (λs=>b5A s.1 s.2.1 s.2.2.1 s.2.2.2.1 s.2.2.2.2.1 s.2.2.2.2.2):=λlc (r_3,Nodes2,Net2,Asked2,Told2,out3) h=>PK<|rg<|l9 4 h (λh=>n9 J7 K0 6 h λa6m h=>l9 9 h (λh=>l9 13 h (λh=>D5 h (e6Z i lc) λx3 h hc3=>rg<|n9 J7 K0 1 h λa8w h=>l9 2 h (λh=>rg<|n9 J7 K0 6 h λa7V h=>n9 a3O a4M 8 h λb2V h=>L0 Nodes2 Net2 Asked2 Told2<|z0 out3<|(u6 h hc3 λhI=>sk [] [0,3,4,5] [(1,0),(32,0),(32,1),(32,2),(32,3),(32,4)] hI)) (λh=>u6 h hc3 λhI=>sk [] [0,3,4,5] jz hI)) (λh=>lc.bk h λhI=>sk [] [0,3,4,5] jz hI)) (λh=>lc.bk h λhI=>sk [] [0,3,4,5] jz hI)) (λh=>lc.bk h λhI=>sk [] [0,3,4,5] jz hI)
def b1q(r_2:z7)(Nodes1:E m4)(Net1:E m9)(Asked1:E B2)(Told1:E s8)(out1:E v6)(i:Int):Option (n6 ((E v6)×z7) (z7×(E m4)×(E m9)×(E B2)×(E s8)×(E v6)×Int) (z7×E v6)):=
 (bif decide (i>0)then(I7 r_2 3).bind λa09=>(a6N a09.2).bind λa5U=>(a2F (m6.mk Nodes1 Net1 Asked1 Told1) out1 (v6.mk 1 a09.1 a5U.1)).bind λa2W=>(u5 (λs:z7×(E m4)×(E m9)×(E B2)×(E s8)×E v6=>b5A s.1 s.2.1 s.2.2.1 s.2.2.2.1 s.2.2.2.2.1 s.2.2.2.2.2) (a5U.2,a2W.1.b9,a2W.1.c9,a2W.1.i4,a2W.1.Told,a2W.2)).bind λx=>x.go (λr=>U (n6.ret r)) λs=>c2X i s.1 s.2.1 s.2.2.1 s.2.2.2.1 s.2.2.2.2.1 s.2.2.2.2.2 else U (n6.brk (r_2,out1)))
def f3N:LQ a1e c1O c4I (λs=>b1q s.1 s.2.1 s.2.2.1 s.2.2.2.1 s.2.2.2.2.1 s.2.2.2.2.2.1 s.2.2.2.2.2.2):=λlc (r_2,Nodes1,Net1,Asked1,Told1,out1,i) h=>PK<|rg<|l9 1 h (λh=>rg<|n9 J7 K0 3 h λa09 h=>n9 a4S b3e 5 h λa5U h=>n9 a3O a4M 7 h λa2W h=>L0 Nodes1 Net1 Asked1 Told1<|G6 out1 a5U.1<|lp (e7P i) h (λ_ h=>lc.rt h) (e2x i lc) λhI=>sk [] [0,3,4,5] [(1,0),(16,0),(16,1),(16,2),(16,3),(16,4)] hI) (λh=>lc.bk h λhI=>sk [] [4] [(6,0)] hI)
def c2j(r_1:z7)(b9:E m4)(c9:E m9)(i4:E B2)(Told:E s8)(out:E v6):Option ((E v6)×z7):=
 ((I7 r_1 3).bind λa1v=>(u5 (λs:z7×(E m4)×(E m9)×(E B2)×(E s8)×(E v6)×Int=>b1q s.1 s.2.1 s.2.2.1 s.2.2.2.1 s.2.2.2.2.1 s.2.2.2.2.2.1 s.2.2.2.2.2.2) (a1v.2,b9,c9,i4,Told,out,s6 (3+a1v.1))).bind λx=>x.go (λr=>U r) λs=>c9F s.1 s.2)
def f9w(r):NF a1e r e3Y (λs=>c2j s.1 s.2.1 s.2.2.1 s.2.2.2.1 s.2.2.2.2.1 s.2.2.2.2.2):=λ(r_1,b9,c9,i4,Told,out) h=>PK<|rg<|n9 J7 K0 1 h λa1v h=>lp (f3N) h (λ_ h=>a1e.rt h) (e6g r) λhI=>sk [] [0,3,4,5] jz hI
def c05(r_:z7):Option ((E v6)×z7):=
 ((b3y).bind λb1t=>(I7 r_ 3).bind λpick=>(a2F b1t [] (v6.mk 5 pick.1 [])).bind λZ4=>(I7 pick.2 3).bind λI4=>bif decide (I4.1>0)then(a71 I4.2 [10,30,60,90]).bind λnum=>(b7p num.2 Z4.1 num.1).bind λa8Z=>z5 (((O Z4.2)+(O a8Z.1))*40<=140737488355328) (U (Z4.2++a8Z.1,a8Z.2))else(((I7 I4.2 5).bind λa7A=>bif(a7A.1==0)then(b9l a7A.2 Z4.1 Z4.2).bind λb0h=>U (r9.brk (b0h.2.2,b0h.1.b9,b0h.1.c9,b0h.1.i4,b0h.1.Told,b0h.2.1))else U (r9.brk (a7A.2,Z4.1.b9,Z4.1.c9,Z4.1.i4,Z4.1.Told,Z4.2))):Option (r9 ((E v6)×z7) (z7×(E m4)×(E m9)×(E B2)×(E s8)×E v6))).bind λx=>x.go U λj=>c2j j.1 j.2.1 j.2.2.1 j.2.2.2.1 j.2.2.2.2.1 j.2.2.2.2.2)
def f6h{r_}:OK a1e [.optr 98 (a1p r_)] (c05 r_):=
 t9 _ λr h=>t5<|n9 a63 d91 0 h λb1t h=>n9 J7 K0 2 h λpick h=>n9 a3O a4M 4 h λZ4 h=>D4 b1t<|rg<|n9 J7 K0 1 h λI4 h=>l9 2 h (λh=>rg<|tk 4 []<|n9 b1s b3q 5 h λnum h=>om (4=[10,30,60,90].length) (by simp)<|n9 a6M f9b 6 h λa8Z h=>D4 Z4.1<|z9 h λe1 h=>apL 7 23 39 3 40 L2 Z4.2 a8Z.1 e1<|G6 a8Z.1 (Z4.2++a8Z.1)<|fE h) (λh=>D5 h (f9w r) λx1 h hc1=>rg<|n9 J7 K0 1 h λa7A h=>l9 2 h (λh=>rg<|n9 a25 e2E 3 h λb0h h=>D4 Z4.1<|z0 Z4.2<|(u6 h hc1 λhI=>sk [] [0,3,4] [(10,0),(22,0),(22,1),(22,2),(22,3),(22,4)] hI)) (λh=>u6 h hc1 λhI=>sk [] [0,3,4] [(10,0),(6,0),(6,1),(6,2),(6,3),(6,4)] hI))
def c7X:FS (E v6):=⟨6,Tryz.f6,[.val [U 3] []],[Z],[.val [U 1] []],λr=>n7 3 L2 r,λ_=>[Z],Tryz.func6⟩
def b48(code:E Int):Option (E v6):=
 ((b9R code).bind λd5f=>(c05 d5f).bind λc8c=>U c8c.1)
def d9U{code}:OK c7X [n7 1 P4 code] (b48 code):=
 t9 _ λr h=>t5<|n9 c0g f6v 1 h λd5f h=>n9 a1e f6h 2 h λc8c h=>z0 c8c.1<|fE h
def b0q:FS (Bool):=⟨83,Tryz.f83,[.val [] []],[Z,Z],[.val [U 2] [],.val [U 2] []],λr=>.b r,λ_=>[Z,Z],Tryz.func83⟩
def d2n:Unit->KS:=λ_=>⟨b0q.k 4 [W,W],bs 26 [],[U []]⟩
def d73:Option Bool:=
 U Y
def f0G(r):NF b0q r d2n (λs=>d73):=λ_ h=>PK<|rg<|fE h
def f8f(a:E w8)(b:E w8):Int->KS:=λv13=>⟨b0q.k 3 [W],n7 2 A7 a::(n7 2 A7 b::bs 10 (vi (O a:Int)::(vi v13::bs 12 []))),[U []]⟩
def b7l(a:E w8)(b:E w8)(v13:Int):Option (n6 Bool Int Unit):=
 (bif decide (v13<(O a:Int))then(idx a v13).bind λread=>(idx b v13).bind λZ7=>bif(!(([read.j7,read.l8]:E Int)==[Z7.j7,Z7.l8]))then U (n6.ret W)else U (n6.nxt (s6 (v13+1)))else U (n6.brk ()))
def e5P(a b):LQ b0q d2n (f8f a b) (λs=>b7l a b s):=λlc v13 h=>PK<|rg<|l9 0 h (λh=>t5<|A3 A7 2 h λread a46 h=>A3 A7 6 h λZ7 d8I h=>l9 8 h (λh=>rg<|fL lc h) (λh=>rg<|(lc.nx h λhI=>sk [] [0,1,12,13] [] hI))) (λh=>lc.bk h λhI=>sk [] [] [] hI)
def b8G(a:E w8)(b:E w8):Option Bool:=
 (bif((O a:Int) != (O b:Int))then U W else(u5 (λs:Int=>b7l a b s) 0).bind λx=>x.go (λr=>U r) λs=>d73)
def f6B{a b}:OK b0q [n7 2 A7 a,n7 2 A7 b] (b8G a b):=
 t9 _ λr h=>t5<|l9 4 h (λh=>rg<|fE h) (λh=>rg<|lp (e5P a b) h (λ_ h=>b0q.rt h) (f0G r) λhI=>sk [] [0,1,12,13] [] hI)
def a94:FS (Bool):=⟨84,Tryz.f84,[.val [] []],[Z,Z],[.val [U 2] [],.val [U 2] []],λr=>.b r,λ_=>[Z,Z],Tryz.func84⟩
def c9z:Unit->KS:=λ_=>⟨a94.k 4 [W,W],bs 26 [],[U []]⟩
def d1z:Option Bool:=
 U Y
def f9G(r):NF a94 r c9z (λs=>d1z):=λ_ h=>PK<|rg<|fE h
def f5v(a:E u9)(b:E u9):Int->KS:=λv13=>⟨a94.k 3 [W],n7 2 A8 a::(n7 2 A8 b::bs 10 (vi (O a:Int)::(vi v13::bs 12 []))),[U []]⟩
def c1C(a:E u9)(b:E u9)(v13:Int):Option (n6 Bool Int Unit):=
 (bif decide (v13<(O a:Int))then(idx a v13).bind λput=>(idx b v13).bind λput1=>bif(!(([put.j7,put.i8]:E Int)==[put1.j7,put1.i8]))then U (n6.ret W)else U (n6.nxt (s6 (v13+1)))else U (n6.brk ()))
def g0m(a b):LQ a94 c9z (f5v a b) (λs=>c1C a b s):=λlc v13 h=>PK<|rg<|l9 0 h (λh=>t5<|A3 A8 2 h λput hput h=>A3 A8 6 h λput1 b4I h=>l9 8 h (λh=>rg<|fL lc h) (λh=>rg<|(lc.nx h λhI=>sk [] [0,1,12,13] [] hI))) (λh=>lc.bk h λhI=>sk [] [] [] hI)
def b6U(a:E u9)(b:E u9):Option Bool:=
 (bif((O a:Int) != (O b:Int))then U W else(u5 (λs:Int=>c1C a b s) 0).bind λx=>x.go (λr=>U r) λs=>d1z)
def f7y{a b}:OK a94 [n7 2 A8 a,n7 2 A8 b] (b6U a b):=
 t9 _ λr h=>t5<|l9 4 h (λh=>rg<|fE h) (λh=>rg<|lp (g0m a b) h (λ_ h=>a94.rt h) (f9G r) λhI=>sk [] [0,1,12,13] [] hI)
def d7f:FS (Bool):=⟨34,Tryz.f34,[.val [] []],[Z,Z],[.val U4 [],.val U4 []],λr=>.b r,λ_=>[Z,Z],Tryz.func34⟩
def c0a(a:s9)(b:s9):Option Bool:=
 ((b8G a.d8 b.d8).bind λread=>bif read then(b6U a.f0 b.f0).bind λput=>bif put then bif(a.i8==b.i8)then U (a.Code==b.Code)else U W else U W else U W)
def e9f{a b}:OK d7f [.agg (X0 a),.agg (X0 b)] (c0a a b):=
 t9 _ λr h=>t5<|n9 b0q f6B 4 h λread h=>l9 5 h (λh=>n9 a94 f7y 10 h λput h=>l9 12 h (λh=>l9 19 h (λh=>fE h) (λh=>fE h)) (λh=>fE h)) (λh=>fE h)
def a1G:FS (Bool):=⟨14,Tryz.f14,[.val [] []],[Z,Z],[.val Q2 [],.val Q2 []],λr=>.b r,λ_=>[Z,Z],Tryz.func14⟩
def a0e(a:p9)(b:p9):Option Bool:=
 (bif(a.j9==b.j9)then bif(([a.b6.i0,a.b6.Seq]:E Int)==[b.b6.i0,b.b6.Seq])then(c0a a.g8 b.g8).bind λa4K=>U a4K else U W else U W)
def a2k{a b}:OK a1G [.agg (x9 a),.agg (x9 b)] (a0e a b):=
 t9 _ λr h=>t5<|l9 5 h (λh=>l9 12 h (λh=>n9 d7f e9f 17 h λa4K h=>fE h) (λh=>fE h)) (λh=>fE h)
def b2J:FS (Bool):=⟨44,Tryz.f44,[.val [] []],[Z],[.val [] []],λr=>.b r,λ_=>[Z],Tryz.func44⟩
def a75(q:u0):Option Bool:=
 ((H2 q.i0 0 2).bind λin_=>bif in_ then(H2 q.Seq 1 1000).bind λin_1=>U in_1 else U W)
def b6c{q}:OK b2J [.agg (N8 q)] (a75 q):=
 t9 _ λr h=>t5<|n9 H0 H9 2 h λin_ h=>l9 3 h (λh=>n9 H0 H9 6 h λin_1 h=>fE h) (λh=>fE h)
def a1w:FS (Bool):=⟨145,Tryz.f145,[.val [] []],[Z],[.val U4 []],λr=>.b r,λ_=>[Z],Tryz.func145⟩
def e0O(r_:s9):Unit->KS:=λ_=>⟨a1w.k 2 [W],bs 1 (.ptr 1 0 0::bs 98 []),[U [],U [.var 48 (a1R r_)]]⟩
def d5a(r_:s9):Unit->KS:=λ_=>⟨a1w.k 5 [W,W],bs 1 (.ptr 1 0 0::bs 2 (.ptr 2 0 0::bs 95 [])),[U [],U [.var 48 (a1R r_)],U [.arr 200 1 4 ((g00 4 W).map eB)]]⟩
def d8s:Unit->KS:=λ_=>⟨a1w.k 7 [W,W,W],bs 100 [],[U []]⟩
def d1r:Option Bool:=
 U Y
def f9C(r):NF a1w r d8s (λs=>d1r):=λ_ h=>PK<|rg<|fE h
def e5i(r_:s9):((E Bool)×Int)->KS:=λ(put,v76)=>⟨a1w.k 6 [W,W],bs 4 (.ptr 1 0 0::bs 69 (n7 2 A8 r_.f0::(vi (O r_.f0:Int)::(vi v76::bs 23 [])))),[U [],U [.arr 200 1 4 (put.map eB)]]⟩
def b2g(r_:s9)(put:E Bool)(v76:Int):Option (n6 Bool ((E Bool)×Int) Unit):=
 (bif decide (v76<(O r_.f0:Int))then(idx r_.f0 v76).bind λput1=>(H2 put1.j7 0 3).bind λin_=>bif(!in_)then U (n6.ret W)else(idx put put1.j7).bind λy=>z5 (put1.j7<4) (bif y then U (n6.ret W)else(H2 put1.i8 (-1000000) 1000000).bind λin_1=>bif(!in_1)then U (n6.ret W)else z5 (put1.j7<4) (U (n6.nxt (put.set put1.j7.toNat Y,s6 (v76+1)))))else U (n6.brk ()))
def e2s(r_):LQ a1w d8s (e5i r_) (λs=>b2g r_ s.1 s.2):=λlc (put,v76) h=>PK<|rg<|l9 0 h (λh=>rg<|A3 A8 0 h λput1 b4I h=>rg<|n9 H0 H9 2 h λin_ h=>l9 4 h (λh=>rg<|fL lc h) (λh=>D6 h λy hy h=>z9 h λe1 h=>ob (U1 hy)<|ob e1<|ob (a0i (enc:=eB) hy)<|tl (tr 8 (eB y))<|l9 10 h (λh=>rg<|fL lc h) (λh=>n9 H0 H9 13 h λin_1 h=>l9 15 h (λh=>rg<|fL lc h) (λh=>rg<|z9 h λe2 h=>ob (U1 hy)<|ob e2<|om (x8.arr 200 1 4 ((put.map eB).set (put1.j7.toNat) [.b Y])=x8.arr 200 1 4 ((put.set put1.j7.toNat Y).map eB)) (a99 rfl)<|ob (a0i (enc:=eB) hy)<|tl (3,{a:=.rowck (eB y) [],e:=U (.arr 200 1 4 ((put.set put1.j7.toNat Y).map eB))})<|rg<|(lc.nx h λhI=>sk [] [4,74,75,76] jv hI))))) (λh=>lc.bk h λhI=>sk [] [] [] hI)
def c8v(r_:s9):Option Bool:=
 ((u5 (λs:(E Bool)×Int=>b2g r_ s.1 s.2) (g00 4 W,0)).bind λx=>x.go (λr=>U r) λs=>d1r)
def f01(r_)(r):NF a1w r (d5a r_) (λs=>c8v r_):=λ_ h=>PK<|rg<|lp (e2s r_) h (λ_ h=>a1w.rt h) (f9C r) λhI=>sk [] [4,74,75,76] Jv hI
def e6k(r_:s9):((E Bool)×Int)->KS:=λ(read,v49)=>⟨a1w.k 4 [W],bs 1 (.ptr 1 0 0::bs 1 (.ptr 2 0 0::(.ptr 3 0 0::bs 42 (n7 2 A7 r_.d8::(vi (O r_.d8:Int)::(vi v49::bs 50 [])))))),[U [],U [.var 48 (a1R r_)],U [.arr 200 1 4 (read.map eB)],U [.arr 200 1 4 ((g00 4 W).map eB)]]⟩
def b2S(r_:s9)(read:E Bool)(v49:Int):Option (n6 Bool ((E Bool)×Int) Unit):=
 (bif decide (v49<(O r_.d8:Int))then(idx r_.d8 v49).bind λZ7=>(H2 Z7.j7 0 3).bind λin_2=>bif(!in_2)then U (n6.ret W)else(idx read Z7.j7).bind λy1=>z5 (Z7.j7<4) (bif y1 then U (n6.ret W)else(H2 Z7.l8 0 1000000).bind λa1H=>bif(!a1H)then U (n6.ret W)else z5 (Z7.j7<4) (U (n6.nxt (read.set Z7.j7.toNat Y,s6 (v49+1)))))else U (n6.brk ()))
def e78(r_):LQ a1w (d5a r_) (e6k r_) (λs=>b2S r_ s.1 s.2):=λlc (read,v49) h=>PK<|rg<|l9 0 h (λh=>rg<|A3 A7 0 h λZ7 d8I h=>rg<|n9 H0 H9 2 h λin_2 h=>l9 4 h (λh=>rg<|fL lc h) (λh=>D6 h λy1 hy1 h=>z9 h λe3 h=>ob (U1 hy1)<|ob e3<|ob (a0i (enc:=eB) hy1)<|tl (tr 8 (eB y1))<|l9 10 h (λh=>rg<|fL lc h) (λh=>n9 H0 H9 13 h λa1H h=>l9 15 h (λh=>rg<|fL lc h) (λh=>rg<|z9 h λe4 h=>ob (U1 hy1)<|ob e4<|om (x8.arr 200 1 4 ((read.map eB).set (Z7.j7.toNat) [.b Y])=x8.arr 200 1 4 ((read.set Z7.j7.toNat Y).map eB)) (a99 rfl)<|ob (a0i (enc:=eB) hy1)<|tl (3,{a:=.rowck (eB y1) [],e:=U (.arr 200 1 4 ((read.set Z7.j7.toNat Y).map eB))})<|rg<|(lc.nx h λhI=>sk [] [1,3,4,47,48,49] jY hI))))) (λh=>lc.bk h λhI=>sk [] [1,4] [(1,0),(3,0)] hI)
def c0e(r_:s9):Option Bool:=
 ((u5 (λs:(E Bool)×Int=>b2S r_ s.1 s.2) (g00 4 W,0)).bind λx=>x.go (λr=>U r) λs=>c8v r_)
def g0o(r_)(r):NF a1w r (e0O r_) (λs=>c0e r_):=λ_ h=>PK<|rg<|om ((g00 4 ([.b W]:E V)).flatten=[.b W,.b W,.b W,.b W]/\([.b W]:E V).length=1) ⟨rfl,rfl⟩<|om ((g00 4 ([.b W]:E V)).flatten=[.b W,.b W,.b W,.b W]/\([.b W]:E V).length=1) ⟨rfl,rfl⟩<|rg<|lp (e78 r_) h (λ_ h=>a1w.rt h) (f01 r_ r) λhI=>sk [] [1,3,4,47,48,49] jY hI
def b10(r_:s9):Option Bool:=
 ((((H2 r_.Code 0 3).bind λa6R=>bif(!a6R)then U (r9.ret W)else(H2 r_.i8 (-1000000) 1000000).bind λb1X=>bif(!b1X)then U (r9.ret W)else bif(r_.Code != 0)then bif(r_.i8 != 0)then U (r9.ret W)else bif decide ((O r_.f0:Int)>0)then U (r9.ret W)else bif(r_.Code==3)then bif decide ((O r_.d8:Int)>0)then U (r9.ret W)else U (r9.brk ())else U (r9.brk ())else bif(r_.Code==3)then bif decide ((O r_.d8:Int)>0)then U (r9.ret W)else U (r9.brk ())else U (r9.brk ())):Option (r9 Bool Unit)).bind λx=>x.go U λj=>c0e r_)
def c53{r_}:OK a1w [.agg (X0 r_)] (b10 r_):=
 t9 _ λr h=>rg<|D5 h (g0o r_ r) λx1 h hc1=>rg<|n9 H0 H9 2 h λa6R h=>l9 4 h (λh=>rg<|(E3 h hc1 λh=>fE h)) (λh=>n9 H0 H9 7 h λb1X h=>l9 10 h (λh=>rg<|(E3 h hc1 λh=>fE h)) (λh=>l9 14 h (λh=>l9 18 h (λh=>rg<|(E3 h hc1 λh=>fE h)) (λh=>l9 26 h (λh=>rg<|(E3 h hc1 λh=>fE h)) (λh=>l9 30 h (λh=>l9 36 h (λh=>rg<|(E3 h hc1 λh=>fE h)) (λh=>u6 h hc1 λhI=>sk [] [1] jv hI)) (λh=>u6 h hc1 λhI=>sk [] [1] jv hI)))) (λh=>l9 30 h (λh=>l9 36 h (λh=>rg<|(E3 h hc1 λh=>fE h)) (λh=>u6 h hc1 λhI=>sk [] [1] jv hI)) (λh=>u6 h hc1 λhI=>sk [] [1] jv hI))))
def a4j:FS (Bool):=⟨96,Tryz.f96,[.val [] []],[Z],[.val Q2 []],λr=>.b r,λ_=>[Z],Tryz.func96⟩
def a2T(e_:p9):Option Bool:=
 (bif e_.j9 then(a0e e_ (p9.mk Y (u0.mk 0 0) (s9.mk [] [] 0 0))).bind λI8=>U I8 else(a75 e_.b6).bind λa8L=>bif a8L then(b10 e_.g8).bind λa2Q=>bif a2Q then U (e_.g8.Code != 3)else U W else U W)
def a5l{e_}:OK a4j [.agg (x9 e_)] (a2T e_):=
 t9 _ λr h=>t5<|l9 1 h (λh=>rg<|n9 a1G a2k 2 h λI8 h=>fE h) (λh=>rg<|n9 b2J b6c 2 h λa8L h=>l9 3 h (λh=>n9 a1w c53 6 h λa2Q h=>l9 8 h (λh=>fE h) (λh=>fE h)) (λh=>fE h))
def d9v:FS (Bool):=⟨148,Tryz.f148,[.val [] []],[Z],[.val a0p []],λr=>.b r,λ_=>[Z],Tryz.func148⟩
def b7o(v_:s7):Option Bool:=
 (bif(v_.b5==0)then(a0e v_.i9 (p9.mk W (u0.mk 0 0) (s9.mk [] [] 0 0))).bind λI8=>U I8 else(H2 v_.b5 1 3000).bind λin_=>bif in_ then(a2T v_.i9).bind λI0=>U I0 else U W)
def e9c{v_}:OK d9v [.agg (w6 v_)] (b7o v_):=
 t9 _ λr h=>t5<|l9 2 h (λh=>rg<|n9 a1G a2k 3 h λI8 h=>fE h) (λh=>rg<|n9 H0 H9 2 h λin_ h=>l9 3 h (λh=>n9 a4j a5l 6 h λI0 h=>fE h) (λh=>fE h))
def a4v:FS (Bool):=⟨98,Tryz.f98,[.val [] []],[Z],[.val [U 8] []],λr=>.b r,λ_=>[Z],Tryz.func98⟩
def d0t(list:E s7):Unit->KS:=λ_=>⟨a4v.k 3 [W],n7 8 w6 list::bs 17 [],[U []]⟩
def c5e(list:E s7):Option Bool:=
 U (decide ((O list:Int)<=40))
def f6Z(list)(r):NF a4v r (d0t list) (λs=>c5e list):=λ_ h=>PK<|rg<|fE h
def f9T(list:E s7):Int->KS:=λv7=>⟨a4v.k 2 [],n7 8 w6 list::bs 4 (n7 8 w6 list::(vi (O list:Int)::(vi v7::bs 10 []))),[U []]⟩
def b8l(list:E s7)(v7:Int):Option (n6 Bool Int Unit):=
 (bif decide (v7<(O list:Int))then(idx list v7).bind λvote=>(b7o vote).bind λa1t=>bif(!a1t)then U (n6.ret W)else U (n6.nxt (s6 (v7+1)))else U (n6.brk ()))
def f1x(list):LQ a4v (d0t list) (f9T list) (λs=>b8l list s):=λlc v7 h=>PK<|rg<|l9 0 h (λh=>rg<|A3 w6 0 h λvote N9 h=>rg<|n9 d9v e9c 1 h λa1t h=>l9 2 h (λh=>rg<|fL lc h) (λh=>rg<|(lc.nx h λhI=>sk [] [0,5,6,7] [] hI))) (λh=>lc.bk h λhI=>sk [] [0] [] hI)
def a7U(list:E s7):Option Bool:=
 ((u5 (λs:Int=>b8l list s) 0).bind λx=>x.go (λr=>U r) λs=>c5e list)
def b35{list}:OK a4v [n7 8 w6 list] (a7U list):=
 t9 _ λr h=>t5<|lp (f1x list) h (λ_ h=>a4v.rt h) (f6Z list r) λhI=>sk [] [0,5,6,7] [] hI
def a52:FS (Bool):=⟨94,Tryz.f94,[.val [] []],[Z],[.val [Z,U 8] []],λr=>.b r,λ_=>[Z],Tryz.func94⟩
def d8R(a:B4):Unit->KS:=λ_=>⟨a52.k 3 [W],bs 1 (.ptr 1 0 0::bs 24 []),[U [],U [.var 56 [vi a.i7,n7 8 w6 a.b8]]]⟩
def c5K(a:B4):Option Bool:=
 ((H2 a.i7 0 3000).bind λin_=>bif in_ then(a7U a.b8).bind λR8=>U R8 else U W)
def e00(a)(r):NF a52 r (d8R a) (λs=>c5K a):=λ_ h=>PK<|rg<|n9 H0 H9 2 h λin_ h=>l9 3 h (λh=>n9 a4v b35 6 h λR8 h=>fE h) (λh=>fE h)
def f8t(a:B4):Int->KS:=λv8=>⟨a52.k 2 [],bs 1 (.ptr 1 0 0::bs 4 (n7 8 w6 a.b8::(vi (O a.b8:Int)::(vi v8::bs 17 [])))),[U [],U [.var 56 [vi a.i7,n7 8 w6 a.b8]]]⟩
def c04(a:B4)(v8:Int):Option (n6 Bool Int Unit):=
 (bif decide (v8<(O a.b8:Int))then(idx a.b8 v8).bind λvote=>bif decide (vote.b5>a.i7)then U (n6.ret W)else U (n6.nxt (s6 (v8+1)))else U (n6.brk ()))
def f0p(a):LQ a52 (d8R a) (f8t a) (λs=>c04 a s):=λlc v8 h=>PK<|rg<|l9 0 h (λh=>rg<|A3 w6 0 h λvote N9 h=>rg<|l9 4 h (λh=>rg<|fL lc h) (λh=>rg<|(lc.nx h λhI=>sk [] [1,6,7,8] jv hI))) (λh=>lc.bk h λhI=>sk [] [1] jv hI)
def b1T(a:B4):Option Bool:=
 ((u5 (λs:Int=>c04 a s) 0).bind λx=>x.go (λr=>U r) λs=>c5K a)
def c4n{a}:OK a52 [.agg (a1h a)] (b1T a):=
 t9 _ λr h=>t5<|lp (f0p a) h (λ_ h=>a52.rt h) (e00 a r) λhI=>sk [] [1,6,7,8] jv hI
def a6P:FS (Bool):=⟨95,Tryz.f95,[.val [] []],[Z],[.val [U 7] []],λr=>.b r,λ_=>[Z],Tryz.func95⟩
def d89(list:E p9):Unit->KS:=λ_=>⟨a6P.k 3 [W],n7 7 x9 list::bs 17 [],[U []]⟩
def c6A(list:E p9):Option Bool:=
 U (decide ((O list:Int)<=40))
def e4y(list)(r):NF a6P r (d89 list) (λs=>c6A list):=λ_ h=>PK<|rg<|fE h
def e8E(list:E p9):Int->KS:=λv7=>⟨a6P.k 2 [],n7 7 x9 list::bs 4 (n7 7 x9 list::(vi (O list:Int)::(vi v7::bs 10 []))),[U []]⟩
def c2E(list:E p9)(v7:Int):Option (n6 Bool Int Unit):=
 (bif decide (v7<(O list:Int))then(idx list v7).bind λentry=>(a2T entry).bind λI0=>bif(!I0)then U (n6.ret W)else U (n6.nxt (s6 (v7+1)))else U (n6.brk ()))
def f0y(list):LQ a6P (d89 list) (e8E list) (λs=>c2E list s):=λlc v7 h=>PK<|rg<|l9 0 h (λh=>rg<|A3 x9 0 h λentry K6 h=>rg<|n9 a4j a5l 1 h λI0 h=>l9 2 h (λh=>rg<|fL lc h) (λh=>rg<|(lc.nx h λhI=>sk [] [0,5,6,7] [] hI))) (λh=>lc.bk h λhI=>sk [] [0] [] hI)
def b0W(list:E p9):Option Bool:=
 ((u5 (λs:Int=>c2E list s) 0).bind λx=>x.go (λr=>U r) λs=>c6A list)
def c7Y{list}:OK a6P [n7 7 x9 list] (b0W list):=
 t9 _ λr h=>t5<|lp (f0y list) h (λ_ h=>a6P.rt h) (e4y list r) λhI=>sk [] [0,5,6,7] [] hI
def a5s:FS (Bool):=⟨149,Tryz.f149,[.val [] []],[Z],[.val [] []],λr=>.b r,λ_=>[Z],Tryz.func149⟩
def a4u(n:Int):Option Bool:=
 ((H2 n 0 3).bind λin_=>U in_)
def a6L{n}:OK a5s [vi n] (a4u n):=
 t9 _ λr h=>t5<|n9 H0 H9 1 h λin_ h=>fE h
def c8G:FS (Bool):=⟨150,Tryz.f150,[.val [] []],[Z],[.val [] []],λr=>.b r,λ_=>[Z],Tryz.func150⟩
def b9n(n:Int):Option Bool:=
 ((H2 n 0 3).bind λin_=>U in_)
def c88{n}:OK c8G [vi n] (b9n n):=
 t9 _ λr h=>t5<|n9 H0 H9 1 h λin_ h=>fE h
def d62:FS (Bool):=⟨99,Tryz.f99,[.val [] []],[Z],[.val [] []],λr=>.b r,λ_=>[Z],Tryz.func99⟩
def b7P(x_:t8):Option Bool:=
 (bif(x_.b7==1)then(a4u x_.A).bind λc1=>bif c1 then(b9n x_.B).bind λc2=>bif c2 then U (x_.N==0)else U W else U W else bif(x_.b7==2)then(b9n x_.A).bind λc21=>bif c21 then(a4u x_.B).bind λc11=>bif c11 then U (x_.N==0)else U W else U W else bif(x_.b7==3)then(a4u x_.A).bind λc12=>bif c12 then bif(x_.B==0)then(H2 x_.N (-1000000) 1000000).bind λin_=>U in_ else U W else U W else bif(x_.b7==4)then(a4u x_.A).bind λc13=>bif c13 then(a4u x_.B).bind λc14=>bif c14 then U (x_.N==0)else U W else U W else bif(x_.b7==5)then(a4u x_.A).bind λc15=>bif c15 then(a4u x_.B).bind λc16=>bif c16 then U (x_.N==0)else U W else U W else bif(x_.b7==6)then(a4u x_.A).bind λc17=>bif c17 then(a4u x_.B).bind λc18=>bif c18 then(H2 x_.N 1 10).bind λin_1=>U in_1 else U W else U W else bif(x_.b7==7)then bif(x_.A==0)then bif(x_.B==0)then U (x_.N==0)else U W else U W else U W)
def e8D{x_}:OK d62 [.agg (C2 x_)] (b7P x_):=
 t9 _ λr h=>rg4<|rg<|l9 1 h (λh=>rg<|n9 a5s a6L 3 h λc1 h=>l9 4 h (λh=>n9 c8G c88 8 h λc2 h=>l9 10 h (λh=>fE h) (λh=>fE h)) (λh=>fE h)) (λh=>rg<|l9 1 h (λh=>rg<|n9 c8G c88 3 h λc21 h=>l9 4 h (λh=>n9 a5s a6L 8 h λc11 h=>l9 10 h (λh=>fE h) (λh=>fE h)) (λh=>fE h)) (λh=>rg<|l9 1 h (λh=>rg<|n9 a5s a6L 3 h λc12 h=>l9 4 h (λh=>l9 9 h (λh=>n9 H0 H9 12 h λin_ h=>fE h) (λh=>fE h)) (λh=>fE h)) (λh=>rg<|l9 1 h (λh=>rg<|n9 a5s a6L 3 h λc13 h=>l9 4 h (λh=>n9 a5s a6L 8 h λc14 h=>l9 10 h (λh=>fE h) (λh=>fE h)) (λh=>fE h)) (λh=>rg<|l9 1 h (λh=>rg<|n9 a5s a6L 3 h λc15 h=>l9 4 h (λh=>n9 a5s a6L 8 h λc16 h=>l9 10 h (λh=>fE h) (λh=>fE h)) (λh=>fE h)) (λh=>rg<|l9 1 h (λh=>rg<|n9 a5s a6L 3 h λc17 h=>l9 4 h (λh=>n9 a5s a6L 8 h λc18 h=>l9 10 h (λh=>n9 H0 H9 13 h λin_1 h=>fE h) (λh=>fE h)) (λh=>fE h)) (λh=>rg<|l9 1 h (λh=>rg<|l9 3 h (λh=>l9 8 h (λh=>fE h) (λh=>fE h)) (λh=>fE h)) (λh=>rg<|fE h)))))))
def a5n:FS (Bool):=⟨45,Tryz.f45,[.val [] []],[Z],[.val [U 4] []],λr=>.b r,λ_=>[Z],Tryz.func45⟩
def c9m(list:E t8):Unit->KS:=λ_=>⟨a5n.k 3 [W],n7 4 C2 list::bs 17 [],[U []]⟩
def c5s(list:E t8):Option Bool:=
 U (decide ((O list:Int)<=10))
def e1m(list)(r):NF a5n r (c9m list) (λs=>c5s list):=λ_ h=>PK<|rg<|fE h
def e09(list:E t8):Int->KS:=λv7=>⟨a5n.k 2 [],n7 4 C2 list::bs 4 (n7 4 C2 list::(vi (O list:Int)::(vi v7::bs 10 []))),[U []]⟩
def b76(list:E t8)(v7:Int):Option (n6 Bool Int Unit):=
 (bif decide (v7<(O list:Int))then(idx list v7).bind λins=>(b7P ins).bind λU9=>bif(!U9)then U (n6.ret W)else U (n6.nxt (s6 (v7+1)))else U (n6.brk ()))
def f6q(list):LQ a5n (c9m list) (e09 list) (λs=>b76 list s):=λlc v7 h=>PK<|rg<|l9 0 h (λh=>rg<|A3 C2 0 h λins hins h=>rg<|n9 d62 e8D 1 h λU9 h=>l9 2 h (λh=>rg<|fL lc h) (λh=>rg<|(lc.nx h λhI=>sk [] [0,5,6,7] [] hI))) (λh=>lc.bk h λhI=>sk [] [0] [] hI)
def b0o(list:E t8):Option Bool:=
 ((u5 (λs:Int=>b76 list s) 0).bind λx=>x.go (λr=>U r) λs=>c5s list)
def b9U{list}:OK a5n [n7 4 C2 list] (b0o list):=
 t9 _ λr h=>t5<|lp (f6q list) h (λ_ h=>a5n.rt h) (e1m list r) λhI=>sk [] [0,5,6,7] [] hI
def c7V:FS (Int):=⟨146,Tryz.f146,[.val [] []],[Z],[.val [] []],λr=>vi r,λ_=>[Z],Tryz.func146⟩
def b5V(bal:Int):Option Int:=
 ((H2 bal 1 3000).bind λin_=>bif(!in_)then U (-1)else U (g1w bal 3))
def e0n{bal}:OK c7V [vi bal] (b5V bal):=
 t9 _ λr h=>t5<|n9 H0 H9 1 h λin_ h=>l9 2 h (λh=>rg<|fE h) (λh=>rg<|om (3≠(0:Int)) (by decide)<|fE h)
def c6U:FS (Bool):=⟨147,Tryz.f147,[.val [] []],[Z,Z],[.val [U 1] [],.val [] []],λr=>.b r,λ_=>[Z,Z],Tryz.func147⟩
def b6I(list:E Bool)(id:Int):Option Bool:=
 (bif((O list:Int)==3)then(idx list id).bind λy=>U y else U W)
def d4q{list id}:OK c6U [n7 1 eB list,vi id] (b6I list id):=
 t9 _ λr h=>t5<|l9 3 h (λh=>A3 eB 6 h λy hy h=>fE h) (λh=>fE h)
def c0X:FS (Bool):=⟨97,Tryz.f97,[.val [] []],[Z],[.val D1 []],λr=>.b r,λ_=>[Z],Tryz.func97⟩
def e9D(n:m4):Bool->KS:=λb2U=>⟨c0X.k 2 [],bs 1 (.ptr 1 0 0::bs 1 (.b b2U::bs 92 [])),[U [],U [.var 59 (a0z n)]]⟩
def c1q(n:m4)(b2U:Bool):Option Bool:=
 (bif(n.d6==0)then bif(n.b5==0)then bif((O n.d7:Int)==0)then bif((O n.j5:Int)==0)then U b2U else U W else U W else U W else(b5V n.b5).bind λa7u=>bif(a7u != n.Id)then U W else bif decide (n.b5>n.Acc.i7)then U W else(a7U n.j5).bind λR8=>bif(!R8)then U W else bif(n.d6==1)then(b6I n.d7 n.Id).bind λd3O=>bif d3O then U b2U else U W else bif(n.d6==2)then bif((O n.d7:Int)==0)then U b2U else U W else bif(n.d6==3)then bif((O n.d7:Int)==0)then(a2T n.g9).bind λI0=>bif I0 then(b6I n.b8 n.Id).bind λd0k=>bif d0k then U (decide ((O n.a9:Int)<40))else U W else U W else U W else U W)
def f5T(n)(r):NF c0X r (e9D n) (λs=>c1q n s):=λb2U h=>PK<|t5<|l9 2 h (λh=>rg<|l9 3 h (λh=>l9 6 h (λh=>l9 12 h (λh=>fE h) (λh=>fE h)) (λh=>fE h)) (λh=>fE h)) (λh=>rg<|n9 c7V e0n 2 h λa7u h=>l9 6 h (λh=>rg<|fE h) (λh=>l9 14 h (λh=>rg<|fE h) (λh=>n9 a4v b35 17 h λR8 h=>l9 19 h (λh=>rg<|fE h) (λh=>t5<|l9 1 h (λh=>rg<|n9 c6U d4q 4 h λd3O h=>l9 5 h (λh=>fE h) (λh=>fE h)) (λh=>rg<|l9 1 h (λh=>rg<|l9 1 h (λh=>fE h) (λh=>fE h)) (λh=>rg<|l9 1 h (λh=>rg<|l9 1 h (λh=>n9 a4j a5l 4 h λI0 h=>l9 6 h (λh=>n9 c6U d4q 11 h λd0k h=>l9 13 h (λh=>fE h) (λh=>fE h)) (λh=>fE h)) (λh=>fE h)) (λh=>rg<|fE h)))))))
def b4E(n:m4):Option Bool:=
 ((((a0e n.g9 (p9.mk W (u0.mk 0 0) (s9.mk [] [] 0 0))).bind λI8=>bif I8 then U (r9.brk ((O n.b8:Int)==0))else U (r9.brk W)):Option (r9 Bool Bool)).bind λx=>x.go U λj=>c1q n j)
def g0H{n}:OK c0X [.agg (B3 n)] (b4E n):=
 t9 _ λr h=>rg<|D5 h (f5T n r) λx1 h hc1=>rg<|n9 a1G a2k 3 h λI8 h=>l9 4 h (λh=>u6 h hc1 λhI=>sk [] [1,3] jv hI) (λh=>u6 h hc1 λhI=>sk [] [1,3] jv hI)
def a1W:FS (Bool):=⟨42,Tryz.f42,[.val [] []],[Z],[.val D1 []],λr=>.b r,λ_=>[Z],Tryz.func42⟩
def c9l(n:m4):Unit->KS:=λ_=>⟨a1W.k 4 [W,W],bs 1 (.ptr 1 0 0::bs 87 []),[U [],U [.var 59 (a0z n)]]⟩
def f07(n:m4):Unit->KS:=λ_=>⟨a1W.k 6 [W,W,Y,W],bs 1 (.ptr 1 0 0::bs 87 []),[U [],U [.var 59 (a0z n)]]⟩
def c3i(n:m4):Option Bool:=
 ((b4E n).bind λa1P=>U a1P)
def f2I(n)(r):NF a1W r (f07 n) (λs=>c3i n):=λ_ h=>PK<|rg<|n9 c0X g0H 1 h λa1P h=>fE h
def b84(n:m4):Option Bool:=
 (((bif n.j6 then(b0o n.j8).bind λH8=>bif(!H8)then U (r9.ret W)else(a2T n.d9).bind λI0=>bif(!I0)then U (r9.ret W)else bif n.d9.j9 then U (r9.ret W)else bif(!(([n.d9.b6.i0,n.d9.b6.Seq]:E Int)==[n.Id,n.Seq]))then U (r9.ret W)else U (r9.brk ())else bif decide ((O n.j8:Int)>0)then U (r9.ret W)else(a0e n.d9 (p9.mk W (u0.mk 0 0) (s9.mk [] [] 0 0))).bind λI8=>bif(!I8)then U (r9.ret W)else U (r9.brk ())):Option (r9 Bool Unit)).bind λx=>x.go U λj=>c3i n)
def e6n(n)(r):NF a1W r (c9l n) (λs=>b84 n):=λ_ h=>PK<|D5 h (f2I n r) λx1 h hc1=>rg<|l9 1 h (λh=>rg<|n9 a5n b9U 2 h λH8 h=>l9 4 h (λh=>rg<|(E3 h hc1 λh=>fE h)) (λh=>n9 a4j a5l 7 h λI0 h=>l9 10 h (λh=>rg<|(E3 h hc1 λh=>fE h)) (λh=>l9 15 h (λh=>rg<|(E3 h hc1 λh=>fE h)) (λh=>l9 25 h (λh=>rg<|(E3 h hc1 λh=>fE h)) (λh=>u6 h hc1 λhI=>sk [] [1] jv hI))))) (λh=>rg<|l9 4 h (λh=>rg<|(E3 h hc1 λh=>fE h)) (λh=>n9 a1G a2k 8 h λI8 h=>l9 10 h (λh=>rg<|(E3 h hc1 λh=>fE h)) (λh=>u6 h hc1 λhI=>sk [] [1] jv hI)))
def e7A(n:m4):Int->KS:=λv36=>⟨a1W.k 3 [W],bs 1 (.ptr 1 0 0::bs 32 (n7 7 x9 n.i5::(vi (O n.i5:Int)::(vi v36::bs 52 [])))),[U [],U [.var 59 (a0z n)]]⟩
def b67(n:m4)(v36:Int):Option (n6 Bool Int Unit):=
 (bif decide (v36<(O n.i5:Int))then(idx n.i5 v36).bind λentry=>(a2T entry).bind λa4C=>bif(!a4C)then U (n6.ret W)else bif entry.j9 then U (n6.ret W)else U (n6.nxt (s6 (v36+1)))else U (n6.brk ()))
def g0c(n):LQ a1W (c9l n) (e7A n) (λs=>b67 n s):=λlc v36 h=>PK<|rg<|l9 0 h (λh=>rg<|A3 x9 0 h λentry K6 h=>rg<|n9 a4j a5l 1 h λa4C h=>l9 3 h (λh=>rg<|fL lc h) (λh=>l9 6 h (λh=>rg<|fL lc h) (λh=>rg<|(lc.nx h λhI=>sk [] [1,34,35,36] jv hI)))) (λh=>lc.bk h λhI=>sk [] [1] jv hI)
def a43(n:m4):Option Bool:=
 ((H2 n.Id 0 2).bind λin_=>bif(!in_)then U W else(b1T n.Acc).bind λV0=>bif(!V0)then U W else(b0W n.a9).bind λK1=>bif(!K1)then U W else(H2 n.Seq 0 1000).bind λin_1=>bif(!in_1)then U W else bif decide ((O n.i5:Int)>4)then U W else(u5 (λs:Int=>b67 n s) 0).bind λx=>x.go (λr=>U r) λs=>b84 n)
def b0u{n}:OK a1W [.agg (B3 n)] (a43 n):=
 t9 _ λr h=>t5<|n9 H0 H9 2 h λin_ h=>l9 4 h (λh=>rg<|fE h) (λh=>n9 a52 c4n 7 h λV0 h=>l9 10 h (λh=>rg<|fE h) (λh=>n9 a6P c7Y 13 h λK1 h=>l9 16 h (λh=>rg<|fE h) (λh=>n9 H0 H9 19 h λin_1 h=>l9 22 h (λh=>rg<|fE h) (λh=>l9 27 h (λh=>rg<|fE h) (λh=>rg<|lp (g0c n) h (λ_ h=>a1W.rt h) (e6n n r) λhI=>sk [] [1,34,35,36] jv hI)))))
def c7W:FS (Bool):=⟨43,Tryz.f43,[.val [] []],[Z],[.val E5 []],λr=>.b r,λ_=>[Z],Tryz.func43⟩
def b3C(m:m9):Option Bool:=
 ((H2 m.d7 0 2).bind λin_=>bif(!in_)then U W else(H2 m.To 0 2).bind λin_1=>bif(!in_1)then U W else bif(m.d7==m.To)then U W else(H2 m.i6 0 40).bind λin_2=>bif(!in_2)then U W else(H2 m.b5 1 3000).bind λa1H=>(a0e m.i9 (p9.mk W (u0.mk 0 0) (s9.mk [] [] 0 0))).bind λI8=>bif(m.b7==1)then bif a1H then bif I8 then U ((O m.b8:Int)==0)else U W else U W else bif(m.b7==4)then bif a1H then bif I8 then U ((O m.b8:Int)==0)else U W else U W else bif(m.b7==2)then bif a1H then bif I8 then(a7U m.b8).bind λR8=>bif R8 then U (decide ((s6 (m.i6+(O m.b8:Int)))<=40))else U W else U W else U W else bif(m.b7==3)then bif a1H then bif decide (m.i6<40)then(a2T m.i9).bind λI0=>bif I0 then U ((O m.b8:Int)==0)else U W else U W else U W else bif(m.b7==5)then bif(m.b5==0)then bif decide (m.i6<40)then(a2T m.i9).bind λa4C=>bif a4C then U ((O m.b8:Int)==0)else U W else U W else U W else bif(m.b7==6)then bif a1H then bif(m.i6==0)then bif I8 then U ((O m.b8:Int)==0)else U W else U W else U W else bif(m.b7==7)then bif(m.b5==0)then bif(m.i6==0)then(a2T m.i9).bind λc9W=>bif c9W then bif(!m.i9.j9)then U ((O m.b8:Int)==0)else U W else U W else U W else U W else bif(m.b7==8)then bif(m.b5==0)then bif I8 then U ((O m.b8:Int)==0)else U W else U W else U W)
def d9V{m}:OK c7W [.agg (x7 m)] (b3C m):=
 t9 _ λr h=>t5<|n9 H0 H9 2 h λin_ h=>l9 4 h (λh=>rg<|fE h) (λh=>n9 H0 H9 7 h λin_1 h=>l9 10 h (λh=>rg<|fE h) (λh=>l9 17 h (λh=>rg<|fE h) (λh=>n9 H0 H9 20 h λin_2 h=>l9 22 h (λh=>rg<|fE h) (λh=>rg<|n9 H0 H9 2 h λa1H h=>rg<|n9 a1G a2k 3 h λI8 h=>T1<|l9 1 h (λh=>rg<|l9 1 h (λh=>l9 4 h (λh=>fE h) (λh=>fE h)) (λh=>fE h)) (λh=>rg<|l9 1 h (λh=>rg<|l9 1 h (λh=>l9 4 h (λh=>fE h) (λh=>fE h)) (λh=>fE h)) (λh=>rg<|l9 1 h (λh=>rg<|l9 1 h (λh=>l9 4 h (λh=>n9 a4v b35 7 h λR8 h=>l9 9 h (λh=>fE h) (λh=>fE h)) (λh=>fE h)) (λh=>fE h)) (λh=>rg<|l9 1 h (λh=>rg<|l9 1 h (λh=>l9 6 h (λh=>n9 a4j a5l 9 h λI0 h=>l9 11 h (λh=>fE h) (λh=>fE h)) (λh=>fE h)) (λh=>fE h)) (λh=>rg<|l9 1 h (λh=>rg<|l9 3 h (λh=>l9 8 h (λh=>n9 a4j a5l 11 h λa4C h=>l9 13 h (λh=>fE h) (λh=>fE h)) (λh=>fE h)) (λh=>fE h)) (λh=>rg<|l9 1 h (λh=>rg<|l9 1 h (λh=>l9 6 h (λh=>l9 9 h (λh=>fE h) (λh=>fE h)) (λh=>fE h)) (λh=>fE h)) (λh=>rg<|l9 1 h (λh=>rg<|l9 3 h (λh=>l9 8 h (λh=>n9 a4j a5l 11 h λc9W h=>l9 13 h (λh=>l9 19 h (λh=>fE h) (λh=>fE h)) (λh=>fE h)) (λh=>fE h)) (λh=>fE h)) (λh=>rg<|l9 1 h (λh=>rg<|l9 3 h (λh=>l9 6 h (λh=>fE h) (λh=>fE h)) (λh=>fE h)) (λh=>rg<|fE h))))))))))))
def P3:FS (Bool):=⟨17,Tryz.f17,[.val [] []],[Z],[.val F4 []],λr=>.b r,λ_=>[Z],Tryz.func17⟩
def d4J(w:m6):Unit->KS:=λ_=>⟨P3.k 4 [W,W],bs 1 (.ptr 1 0 0::bs 116 []),[U [],U [.var 28 (F9 w)]]⟩
def d4P(w:m6):Unit->KS:=λ_=>⟨P3.k 6 [W,W,W],bs 1 (.ptr 1 0 0::bs 116 []),[U [],U [.var 28 (F9 w)]]⟩
def d1X(w:m6):Unit->KS:=λ_=>⟨P3.k 8 [W,W,W,W],bs 1 (.ptr 1 0 0::bs 116 []),[U [],U [.var 28 (F9 w)]]⟩
def c8R:Unit->KS:=λ_=>⟨P3.k 10 [W,W,W,W,W],bs 118 [],[U []]⟩
def d3s:Option Bool:=
 U Y
def e06(r):NF P3 r c8R (λs=>d3s):=λ_ h=>PK<|rg<|fE h
def e7h(w:m6):Int->KS:=λv83=>⟨P3.k 9 [W,W,W,W],bs 81 (n7 5 B6 w.Told::(vi (O w.Told:Int)::(vi v83::bs 34 []))),[U []]⟩
def b9Y(w:m6)(v83:Int):Option (n6 Bool Int Unit):=
 (bif decide (v83<(O w.Told:Int))then(idx w.Told v83).bind λtold=>(H2 told.Node 0 2).bind λin_=>bif(!in_)then U (n6.ret W)else(a75 told.b6).bind λa8L=>bif(!a8L)then U (n6.ret W)else bif(told.b6.i0 != told.Node)then U (n6.ret W)else(H2 told.Code 0 4).bind λin_1=>bif(!in_1)then U (n6.ret W)else(H2 told.i8 (-1000000) 1000000).bind λin_2=>bif(!in_2)then U (n6.ret W)else U (n6.nxt (s6 (v83+1)))else U (n6.brk ()))
def f3Q(w):LQ P3 c8R (e7h w) (λs=>b9Y w s):=λlc v83 h=>PK<|rg<|l9 0 h (λh=>rg<|A3 B6 0 h λtold a6h h=>rg<|n9 H0 H9 2 h λin_ h=>l9 4 h (λh=>rg<|fL lc h) (λh=>n9 b2J b6c 7 h λa8L h=>l9 10 h (λh=>rg<|fL lc h) (λh=>l9 18 h (λh=>rg<|fL lc h) (λh=>n9 H0 H9 21 h λin_1 h=>l9 24 h (λh=>rg<|fL lc h) (λh=>n9 H0 H9 27 h λin_2 h=>l9 29 h (λh=>rg<|fL lc h) (λh=>rg<|(lc.nx h λhI=>sk [] [81,82,83] [] hI))))))) (λh=>lc.bk h λhI=>sk [] [] [] hI)
def b9D(w:m6):Option Bool:=
 ((u5 (λs:Int=>b9Y w s) 0).bind λx=>x.go (λr=>U r) λs=>d3s)
def f5h(w)(r):NF P3 r (d1X w) (λs=>b9D w):=λ_ h=>PK<|rg<|lp (f3Q w) h (λ_ h=>P3.rt h) (e06 r) λhI=>sk [] [81,82,83] [] hI
def e77(w:m6):Int->KS:=λv65=>⟨P3.k 7 [W,W,W],bs 1 (.ptr 1 0 0::bs 61 (n7 3 C9 w.i4::(vi (O w.i4:Int)::(vi v65::bs 52 [])))),[U [],U [.var 28 (F9 w)]]⟩
def b9O(w:m6)(v65:Int):Option (n6 Bool Int Unit):=
 (bif decide (v65<(O w.i4:Int))then(idx w.i4 v65).bind λasked=>(a75 asked.b6).bind λb5o=>bif(!b5o)then U (n6.ret W)else(b0o asked.j8).bind λH8=>bif(!H8)then U (n6.ret W)else U (n6.nxt (s6 (v65+1)))else U (n6.brk ()))
def f9F(w):LQ P3 (d1X w) (e77 w) (λs=>b9O w s):=λlc v65 h=>PK<|rg<|l9 0 h (λh=>rg<|A3 C9 0 h λasked a9n h=>rg<|n9 b2J b6c 2 h λb5o h=>l9 4 h (λh=>rg<|fL lc h) (λh=>n9 a5n b9U 7 h λH8 h=>l9 9 h (λh=>rg<|fL lc h) (λh=>rg<|(lc.nx h λhI=>sk [] [1,63,64,65] jv hI)))) (λh=>lc.bk h λhI=>sk [] [1] jv hI)
def b7M(w:m6):Option Bool:=
 ((u5 (λs:Int=>b9O w s) 0).bind λx=>x.go (λr=>U r) λs=>b9D w)
def e4h(w)(r):NF P3 r (d4P w) (λs=>b7M w):=λ_ h=>PK<|rg<|lp (f9F w) h (λ_ h=>P3.rt h) (f5h w r) λhI=>sk [] [1,63,64,65] jv hI
def f0c(w:m6):Int->KS:=λv54=>⟨P3.k 5 [W,W],bs 1 (.ptr 1 0 0::bs 50 (n7 13 x7 w.c9::(vi (O w.c9:Int)::(vi v54::bs 63 [])))),[U [],U [.var 28 (F9 w)]]⟩
def b8h(w:m6)(v54:Int):Option (n6 Bool Int Unit):=
 (bif decide (v54<(O w.c9:Int))then(idx w.c9 v54).bind λmsg=>(b3C msg).bind λW4=>bif(!W4)then U (n6.ret W)else U (n6.nxt (s6 (v54+1)))else U (n6.brk ()))
def e9G(w):LQ P3 (d4P w) (f0c w) (λs=>b8h w s):=λlc v54 h=>PK<|rg<|l9 0 h (λh=>rg<|A3 x7 0 h λmsg hmsg h=>rg<|n9 c7W d9V 1 h λW4 h=>l9 2 h (λh=>rg<|fL lc h) (λh=>rg<|(lc.nx h λhI=>sk [] [1,52,53,54] jv hI))) (λh=>lc.bk h λhI=>sk [] [1] jv hI)
def c1i(w:m6):Option Bool:=
 ((u5 (λs:Int=>b8h w s) 0).bind λx=>x.go (λr=>U r) λs=>b7M w)
def f1s(w)(r):NF P3 r (d4J w) (λs=>c1i w):=λ_ h=>PK<|rg<|lp (e9G w) h (λ_ h=>P3.rt h) (e4h w r) λhI=>sk [] [1,52,53,54] jv hI
def e4k(w:m6):Int->KS:=λv36=>⟨P3.k 3 [W],bs 1 (.ptr 1 0 0::bs 32 (n7 27 B3 w.b9::(vi (O w.b9:Int)::(vi v36::bs 81 [])))),[U [],U [.var 28 (F9 w)]]⟩
def b7O(w:m6)(v36:Int):Option (n6 Bool Int Unit):=
 (bif decide (v36<(O w.b9:Int))then(idx w.b9 v36).bind λnode=>bif(node.Id != v36)then U (n6.ret W)else(a43 node).bind λH4=>bif(!H4)then U (n6.ret W)else U (n6.nxt (s6 (v36+1)))else U (n6.brk ()))
def e1j(w):LQ P3 (d4J w) (e4k w) (λs=>b7O w s):=λlc v36 h=>PK<|rg<|l9 0 h (λh=>rg<|A3 B3 1 h λnode hnode h=>rg<|l9 4 h (λh=>rg<|fL lc h) (λh=>n9 a1W b0u 6 h λH4 h=>l9 8 h (λh=>rg<|fL lc h) (λh=>rg<|(lc.nx h λhI=>sk [] [1,34,35,36] jv hI)))) (λh=>lc.bk h λhI=>sk [] [1] jv hI)
def a1X(w:m6):Option Bool:=
 (bif((O w.b9:Int) != 3)then U W else bif decide ((O w.c9:Int)>40)then U W else bif decide ((O w.i4:Int)>60)then U W else bif decide ((O w.Told:Int)>60)then U W else(u5 (λs:Int=>b7O w s) 0).bind λx=>x.go (λr=>U r) λs=>c1i w)
def a3Z{w}:OK P3 [.agg (N0 w)] (a1X w):=
 t9 _ λr h=>t5<|l9 4 h (λh=>rg<|fE h) (λh=>l9 10 h (λh=>rg<|fE h) (λh=>l9 16 h (λh=>rg<|fE h) (λh=>l9 21 h (λh=>rg<|fE h) (λh=>rg<|lp (e1j w) h (λ_ h=>P3.rt h) (f1s w r) λhI=>sk [] [1,34,35,36] jv hI))))
def b3w:FS (u7):=⟨152,Tryz.f152,[.ptr N1 om7],[Z],[.val D1 []],λr=>.optr 179 (b93 r),λ_=>[Z],Tryz.func152⟩
def b0r(n:m4):Option u7:=
 ((b0p n).bind λa00=>U (u7.mk a00 [] []))
def c00{n}:OK b3w [.agg (B3 n)] (b0r n):=
 t9 _ λr h=>t5<|n9 b4R b8V 1 h λa00 h=>O6 a00<|fE h
def a5A:FS (m4×(E m9)×(E s8)×u7):=⟨153,Tryz.f153,[.val D1 [],.val [U 13] [],.val [U 5] []],[U (0,.ptr N1 [])],[.ptr N1 []],λr=>.tup [.agg (B3 r.1),n7 13 x7 r.2.1,n7 5 B6 r.2.2.1],λr=>[U (.optr 179 (d4S r.2.2.2))],Tryz.func153⟩
def a3t(a:u7):Option (m4×(E m9)×(E s8)×u7):=
 ((b0p a.n).bind λa00=>(b31 a.out).bind λmsgsCopy=>(b9C a.told).bind λtold=>U (a00,msgsCopy,told,a))
def a6A{a}:OK a5A [.optr 179 (d4S a)] (a3t a):=
 t9 _ λr h=>t5<|n9 b4R b8V 4 h λa00 h=>n9 a7f d5d 9 h λmsgsCopy h=>n9 c6I d4e 14 h λtold h=>O6 a00<|G6 msgsCopy told<|fE h
def c6P:FS (E t7):=⟨89,Tryz.f89,[.val [U 2] [U 165]],[],[],λr=>A5 165 2 B9 r,λ_=>[],Tryz.func89⟩
def b4L:Option (E t7):=
 (z5 (0<=(4:Int)/\(4:Int)*16<=140737488355328) (U (g00 (4:Int).toNat (t7.mk 0 0))))
def d0v:OK c6P [] b4L:=
 t9 _ λr h=>t5<|z9 h λe1 h=>Z0 0 2 165 2 16 B9 (t7.mk 0 0) b4r (.none) e1 (by decide) (by rfl)<|z0 (g00 (4:Int).toNat (t7.mk 0 0))<|fE h
def d72:FS (A4):=⟨143,Tryz.f143,[.val [Z,U 2,U 4] [Z,U 165,U 198]],[],[],λr=>.agg (b4h r),λ_=>[],Tryz.func143⟩
def c2x:Option A4:=
 ((b4L).bind λa4X=>U (A4.mk 0 a4X []))
def e6F:OK d72 [] c2x:=
 t9 _ λr h=>t5<|n9 c6P d0v 0 h λa4X h=>z0 a4X<|fE h
def a4i:FS (Bool):=⟨138,Tryz.f138,[.val [] []],[Z],[.val [U 2] []],λr=>.b r,λ_=>[Z],Tryz.func138⟩
def d1V(list:E t7):Unit->KS:=λ_=>⟨a4i.k 3 [W],n7 2 B9 list::bs 24 [],[U []]⟩
def c3I(list:E t7):Option Bool:=
 U ((O list:Int)==4)
def f7L(list)(r):NF a4i r (d1V list) (λs=>c3I list):=λ_ h=>PK<|rg<|fE h
def f5z(list:E t7):Int->KS:=λv7=>⟨a4i.k 2 [],n7 2 B9 list::bs 4 (n7 2 B9 list::(vi (O list:Int)::(vi v7::bs 17 []))),[U []]⟩
def c1S(list:E t7)(v7:Int):Option (n6 Bool Int Unit):=
 (bif decide (v7<(O list:Int))then(idx list v7).bind λbox=>(H2 box.l8 0 1000000).bind λin_=>bif(!in_)then U (n6.ret W)else(H2 box.i8 (-1000000) 1000000).bind λin_1=>bif(!in_1)then U (n6.ret W)else U (n6.nxt (s6 (v7+1)))else U (n6.brk ()))
def e6y(list):LQ a4i (d1V list) (f5z list) (λs=>c1S list s):=λlc v7 h=>PK<|rg<|l9 0 h (λh=>rg<|A3 B9 0 h λbox a3B h=>rg<|n9 H0 H9 2 h λin_ h=>l9 4 h (λh=>rg<|fL lc h) (λh=>n9 H0 H9 7 h λin_1 h=>l9 9 h (λh=>rg<|fL lc h) (λh=>rg<|(lc.nx h λhI=>sk [] [0,5,6,7] [] hI)))) (λh=>lc.bk h λhI=>sk [] [0] [] hI)
def a7v(list:E t7):Option Bool:=
 ((u5 (λs:Int=>c1S list s) 0).bind λx=>x.go (λr=>U r) λs=>c3I list)
def b5f{list}:OK a4i [n7 2 B9 list] (a7v list):=
 t9 _ λr h=>t5<|lp (e6y list) h (λ_ h=>a4i.rt h) (f7L list r) λhI=>sk [] [0,5,6,7] [] hI
def a6K:FS (Bool):=⟨193,Tryz.f193,[.val [] []],[Z],[.val [Z,U 2,U 4] []],λr=>.b r,λ_=>[Z],Tryz.func193⟩
def c7r(s_:A4):Unit->KS:=λ_=>⟨a6K.k 3 [W],bs 1 (.ptr 1 0 0::bs 64 []),[U [],U [.var 135 [vi s_.At,n7 2 B9 s_.j4,n7 4 E4 s_.l7]]]⟩
def c76(s_:A4):Option Bool:=
 ((H2 s_.At 0 40).bind λin_=>bif in_ then(a7v s_.j4).bind λa0s=>U a0s else U W)
def e3k(s_)(r):NF a6K r (c7r s_) (λs=>c76 s_):=λ_ h=>PK<|rg<|n9 H0 H9 2 h λin_ h=>l9 3 h (λh=>n9 a4i b5f 6 h λa0s h=>fE h) (λh=>fE h)
def d5v(s_:A4):Int->KS:=λv8=>⟨a6K.k 2 [],bs 1 (.ptr 1 0 0::bs 4 (n7 4 E4 s_.l7::(vi (O s_.l7:Int)::(vi v8::bs 57 [])))),[U [],U [.var 135 [vi s_.At,n7 2 B9 s_.j4,n7 4 E4 s_.l7]]]⟩
def f2d(s_:A4)(v8:Int):Unit->KS:=λ_=>⟨a6K.k 5 [Y,W],bs 1 (.ptr 1 0 0::bs 4 (n7 4 E4 s_.l7::(vi (O s_.l7:Int)::(vi v8::bs 57 [])))),[U [],U [.var 135 [vi s_.At,n7 2 B9 s_.j4,n7 4 E4 s_.l7]]]⟩
def c8w(v8:Int):Option (n6 Bool Int Unit):=
 U (n6.nxt (s6 (v8+1)))
def f3a(s_ v8)(lc:J2 a6K (c7r s_) (d5v s_)):NL lc (f2d s_ v8) (λs=>c8w v8):=λ_ h=>PK<|rg<|(lc.nx h λhI=>sk [] [1,6,7,8] [(1,0)] hI)
def b5Y(s_:A4)(v8:Int):Option (n6 Bool Int Unit):=
 (bif decide (v8<(O s_.l7:Int))then(idx s_.l7 v8).bind λdone=>((bif decide (v8>0)then(idx s_.l7 (s6 (v8-1))).bind λa53=>bif decide (a53.b6.i0>=done.b6.i0)then U (r9.ret (n6.ret W))else(a75 done.b6).bind λa8L=>bif(!a8L)then U (r9.ret (n6.ret W))else(H2 done.Code 0 2).bind λin_1=>bif(!in_1)then U (r9.ret (n6.ret W))else(H2 done.i8 (-1000000) 1000000).bind λin_2=>bif(!in_2)then U (r9.ret (n6.ret W))else bif(done.Code != 0)then bif(done.i8 != 0)then U (r9.ret (n6.ret W))else U (r9.brk ())else U (r9.brk ())else(a75 done.b6).bind λb5o=>bif(!b5o)then U (r9.ret (n6.ret W))else(H2 done.Code 0 2).bind λa1H=>bif(!a1H)then U (r9.ret (n6.ret W))else(H2 done.i8 (-1000000) 1000000).bind λa6R=>bif(!a6R)then U (r9.ret (n6.ret W))else bif(done.Code != 0)then bif(done.i8 != 0)then U (r9.ret (n6.ret W))else U (r9.brk ())else U (r9.brk ())):Option (r9 (n6 Bool Int Unit) Unit)).bind λx=>x.go U λj=>c8w v8 else U (n6.brk ()))
def e1y(s_):LQ a6K (c7r s_) (d5v s_) (λs=>b5Y s_ s):=λlc v8 h=>PK<|rg<|l9 0 h (λh=>rg<|A3 E4 1 h λdone b61 h=>D5 h (f3a s_ v8 lc) λx2 h hc2=>rg<|l9 2 h (λh=>A3 E4 7 h λa53 f5r h=>l9 16 h (λh=>rg<|(E3 h hc2 λh=>fL lc h)) (λh=>n9 b2J b6c 19 h λa8L h=>l9 22 h (λh=>rg<|(E3 h hc2 λh=>fL lc h)) (λh=>n9 H0 H9 25 h λin_1 h=>l9 28 h (λh=>rg<|(E3 h hc2 λh=>fL lc h)) (λh=>n9 H0 H9 31 h λin_2 h=>l9 34 h (λh=>rg<|(E3 h hc2 λh=>fL lc h)) (λh=>l9 38 h (λh=>l9 43 h (λh=>rg<|(E3 h hc2 λh=>fL lc h)) (λh=>u6 h hc2 λhI=>sk [] [1,6,7,8] jv hI)) (λh=>u6 h hc2 λhI=>sk [] [1,6,7,8] jv hI)))))) (λh=>n9 b2J b6c 19 h λb5o h=>l9 22 h (λh=>rg<|(E3 h hc2 λh=>fL lc h)) (λh=>n9 H0 H9 25 h λa1H h=>l9 28 h (λh=>rg<|(E3 h hc2 λh=>fL lc h)) (λh=>n9 H0 H9 31 h λa6R h=>l9 34 h (λh=>rg<|(E3 h hc2 λh=>fL lc h)) (λh=>l9 38 h (λh=>l9 43 h (λh=>rg<|(E3 h hc2 λh=>fL lc h)) (λh=>u6 h hc2 λhI=>sk [] [1,6,7,8] jv hI)) (λh=>u6 h hc2 λhI=>sk [] [1,6,7,8] jv hI)))))) (λh=>lc.bk h λhI=>sk [] [1] jv hI)
def b9J(s_:A4):Option Bool:=
 ((u5 (λs:Int=>b5Y s_ s) 0).bind λx=>x.go (λr=>U r) λs=>c76 s_)
def e9z{s_}:OK a6K [.agg (a9S s_)] (b9J s_):=
 t9 _ λr h=>t5<|lp (e1y s_) h (λ_ h=>a6K.rt h) (e3k s_ r) λhI=>sk [] [1,6,7,8] jv hI
def c1R:FS (E t7):=⟨139,Tryz.f139,[.val [U 2] [U 165]],[Z],[.val [U 2] []],λr=>A5 165 2 B9 r,λ_=>[Z],Tryz.func139⟩
def a9G(list:E t7):Option (E t7):=
 (bif((O list:Int)==0)then U []else z5 (0<=(O list:Int)/\(O list:Int)*16<=140737488355328) (z5 ((O list)=(g00 (O list:Int).toNat (t7.mk 0 0)).length) (U list)))
def c4Q{list}:OK c1R [n7 2 B9 list] (a9G list):=
 t9 _ λr h=>t5<|l9 2 h (λh=>rg<|fE h) (λh=>rg<|z9 h λe1 h=>Z0 2 7 165 2 16 B9 (t7.mk 0 0) b4r (.none) e1 (by decide) (by rfl)<|rg<|z9 h λe2 h=>om (x8.row 165 2 (g00 (O list:Int).toNat (t7.mk 0 0)).length (list.map B9)=s5 165 2 B9 list) (a2s e2)<|z0 (g00 (O list:Int).toNat (t7.mk 0 0))<|ob e2<|tl (2,{e:=U (s5 165 2 B9 list)})<|rg<|om ((g00 (O list:Int).toNat (t7.mk 0 0)).length=(O list)) (by simp)<|fE h)
def b6L:FS (E x6):=⟨194,Tryz.f194,[.val [U 4] [U 198]],[Z],[.val [U 4] []],λr=>A5 198 4 E4 r,λ_=>[Z],Tryz.func194⟩
def a8z(list:E x6):Option (E x6):=
 (bif((O list:Int)==0)then U []else z5 (0<=(O list:Int)/\(O list:Int)*32<=140737488355328) (z5 ((O list)=(g00 (O list:Int).toNat (x6.mk (u0.mk 0 0) 0 0)).length) (U list)))
def c3C{list}:OK b6L [n7 4 E4 list] (a8z list):=
 t9 _ λr h=>t5<|l9 2 h (λh=>rg<|fE h) (λh=>rg<|z9 h λe1 h=>Z0 2 7 198 4 32 E4 Yq c4x (.none) e1 (by decide) (by rfl)<|rg<|z9 h λe2 h=>om (x8.row 198 4 (g00 (O list:Int).toNat Yq).length (list.map E4)=s5 198 4 E4 list) (a2s e2)<|z0 (g00 (O list:Int).toNat Yq)<|ob e2<|tl (2,{e:=U (s5 198 4 E4 list)})<|rg<|om ((g00 (O list:Int).toNat Yq).length=(O list)) (by simp)<|fE h)
def b0H:FS (Bool):=⟨195,Tryz.f195,[.val [] []],[Z,Z],[.val [U 2] [],.val U4 []],λr=>.b r,λ_=>[Z,Z],Tryz.func195⟩
def d0W:Unit->KS:=λ_=>⟨b0H.k 4 [W,W],bs 32 [],[U []]⟩
def d0I:Option Bool:=
 U Y
def e4C(r):NF b0H r d0W (λs=>d0I):=λ_ h=>PK<|rg<|fE h
def f6Y(list:E t7)(r_:s9):Int->KS:=λv18=>⟨b0H.k 3 [W],n7 2 B9 list::bs 15 (n7 2 A7 r_.d8::(vi (O r_.d8:Int)::(vi v18::bs 13 []))),[U []]⟩
def c0h(list:E t7)(r_:s9)(v18:Int):Option (n6 Bool Int Unit):=
 (bif decide (v18<(O r_.d8:Int))then(idx r_.d8 v18).bind λread=>(idx list read.j7).bind λbox=>bif(box.l8 != read.l8)then U (n6.ret W)else U (n6.nxt (s6 (v18+1)))else U (n6.brk ()))
def f6m(list r_):LQ b0H d0W (f6Y list r_) (λs=>c0h list r_ s):=λlc v18 h=>PK<|rg<|l9 0 h (λh=>rg<|A3 A7 0 h λread a46 h=>rg<|A3 B9 3 h λbox a3B h=>l9 8 h (λh=>rg<|fL lc h) (λh=>rg<|(lc.nx h λhI=>sk [] [0,16,17,18] [] hI))) (λh=>lc.bk h λhI=>sk [] [] [] hI)
def b8f(list:E t7)(r_:s9):Option Bool:=
 ((a7v list).bind λa0s=>bif(!a0s)then U W else(b10 r_).bind λa2Q=>bif(!a2Q)then U W else(u5 (λs:Int=>c0h list r_ s) 0).bind λx=>x.go (λr=>U r) λs=>d0I)
def f0g{list r_}:OK b0H [n7 2 B9 list,.agg (X0 r_)] (b8f list r_):=
 t9 _ λr h=>t5<|n9 a4i b5f 1 h λa0s h=>l9 3 h (λh=>rg<|fE h) (λh=>n9 a1w c53 5 h λa2Q h=>l9 7 h (λh=>rg<|fE h) (λh=>rg<|lp (f6m list r_) h (λ_ h=>b0H.rt h) (e4C r) λhI=>sk [] [0,16,17,18] [] hI))
def a7Y:FS (E t7):=⟨192,Tryz.f192,[.val [U 2] [U 165]],[Z,Z],[.val [U 2] [],.val U4 []],λr=>A5 165 2 B9 r,λ_=>[Z,Z],Tryz.func192⟩
def d1R:(E t7)->KS:=λout1=>⟨a7Y.k 5 [W,W],bs 5 (.own 1 0 2 0 (O out1)::bs 36 []),[U [],U [s5 165 2 B9 out1]]⟩
def d1L(out1:E t7):Option (E t7):=
 U out1
def f8b(r):NF a7Y r d1R (λs=>d1L s):=λout1 h=>PK<|rg<|z0 out1<|fE h
def f3V(r_:s9):((E t7)×Int)->KS:=λ(out,v21)=>⟨a7Y.k 4 [W],bs 5 (.own 1 0 2 0 (O out)::bs 13 (n7 2 A8 r_.f0::(vi (O r_.f0:Int)::(vi v21::bs 20 [])))),[U [],U [s5 165 2 B9 out]]⟩
def b9d(r_:s9)(out:E t7)(v21:Int):Option (n6 (E t7) ((E t7)×Int) (E t7)):=
 (bif decide (v21<(O r_.f0:Int))then(idx r_.f0 v21).bind λput=>(idx out put.j7).bind λa0j=>U (n6.nxt (out.set put.j7.toNat (t7.mk (if(s6 (a0j.l8+1))<1000000 then s6 (a0j.l8+1)else 1000000) put.i8),s6 (v21+1)))else U (n6.brk out))
def e32(r_):LQ a7Y d1R (f3V r_) (λs=>b9d r_ s.1 s.2):=λlc (out,v21) h=>PK<|rg<|l9 0 h (λh=>rg<|A3 A8 0 h λput hput h=>rg<|D6 h λa0j b0L h=>E2 b0L<|M4 B9 8 b0L<|E2 b0L<|W3 165 2 B9 15 [] (t7.mk (if(s6 (a0j.l8+1))<1000000 then s6 (a0j.l8+1)else 1000000) put.i8) b0L<|rg<|(lc.nx h λhI=>om ((.own 1 0 2 0 (O out):V)=.own 1 0 2 0 (out.set put.j7.toNat (t7.mk (if(s6 (a0j.l8+1))<1000000 then s6 (a0j.l8+1)else 1000000) put.i8)).length) (by simp)<|sk [.is (.tmp 5) (.own 1 0 2 0 (out.set put.j7.toNat (t7.mk (if(s6 (a0j.l8+1))<1000000 then s6 (a0j.l8+1)else 1000000) put.i8)).length)] [5,19,20,21] jv hI)) (λh=>lc.bk h λhI=>sk [] [5] jv hI)
def b4w(list:E t7)(r_:s9):Option (E t7):=
 ((a7v list).bind λa0s=>bif(!a0s)then U []else(b10 r_).bind λa2Q=>bif(!a2Q)then U []else(a9G list).bind λbox=>(u5 (λs:(E t7)×Int=>b9d r_ s.1 s.2) (box,0)).bind λx=>x.go (λr=>U r) λs=>d1L s)
def d4i{list r_}:OK a7Y [n7 2 B9 list,.agg (X0 r_)] (b4w list r_):=
 t9 _ λr h=>t5<|n9 a4i b5f 1 h λa0s h=>l9 3 h (λh=>rg<|fE h) (λh=>n9 a1w c53 5 h λa2Q h=>l9 7 h (λh=>rg<|fE h) (λh=>rg<|n9 c1R c4Q 1 h λbox h=>rg<|lp (e32 r_) h (λ_ h=>a7Y.rt h) (f8b r) λhI=>sk [] [5,19,20,21] [(12,0)] hI))
def X4:FS (A4×Int):=⟨144,Tryz.f144,[.val [Z,U 2,U 4] [Z,U 165,U 198],.val [] []],[Z,Z],[.val [Z,U 2,U 4] [],.val Q2 []],λr=>.tup [.agg (b4h r.1),vi r.2],λ_=>[Z,Z],Tryz.func144⟩
def c6u(s_:A4)(e_:p9)(box:E t7):Unit->KS:=λ_=>⟨X4.k 6 [W,W,W],bs 2 (.ptr 1 0 0::(.ptr 2 0 0::(.ptr 3 0 0::bs 1 (.ptr 4 0 0::bs 145 [])))),[U [],U [.var 135 [vi s_.At,n7 2 B9 s_.j4,n7 4 E4 s_.l7]],U [.var 50 (a4D e_)],U jQ,U [.var 135 [vi (s6 (s_.At+1)),.own 5 0 2 0 (O box),.nil]],U [s5 165 2 B9 box]]⟩
def e7n(s_:A4):(x6×E t7)->KS:=λ(own,j4)=>⟨X4.k 9 [W,W,W,Y],bs 2 (.ptr 1 0 0::bs 1 (.ptr 2 0 0::bs 1 (.ptr 3 0 0::bs 2 (.ptr 5 0 0::bs 142 [])))),[U [],U [.var 135 [vi s_.At,n7 2 B9 s_.j4,n7 4 E4 s_.l7]],U jQ,U [.var 135 [vi (s6 (s_.At+1)),.own 4 0 2 0 (O j4),.nil]],U [s5 165 2 B9 j4],U [.var 198 [vi own.b6.i0,vi own.b6.Seq,vi own.Code,vi own.i8]]]⟩
def b8e(s_:A4)(own:x6)(j4:E t7):((E x6)×Bool)->KS:=λ(dones1,put1)=>⟨X4.k 13 [W,W,W,Y,W],bs 4 (.ptr 1 0 0::bs 1 (.ptr 2 0 0::bs 2 (.ptr 4 0 0::(.own 5 0 4 0 (O dones1)::(.b put1::bs 140 []))))),[U [],U jQ,U [.var 135 [vi (s6 (s_.At+1)),.own 3 0 2 0 (O j4),.nil]],U [s5 165 2 B9 j4],U [.var 198 [vi own.b6.i0,vi own.b6.Seq,vi own.Code,vi own.i8]],U [s5 198 4 E4 dones1]]⟩
def f8Z(s_:A4)(own:x6)(j4:E t7):(E x6)->KS:=λb1D=>⟨X4.k 15 [W,W,W,Y,W,Y],bs 4 (.ptr 1 0 0::bs 1 (.ptr 2 0 0::bs 2 (.ptr 4 0 0::(.own 5 0 4 0 (O b1D)::bs 141 [])))),[U [],U jQ,U [.var 135 [vi (s6 (s_.At+1)),.own 3 0 2 0 (O j4),.nil]],U [s5 165 2 B9 j4],U [.var 198 [vi own.b6.i0,vi own.b6.Seq,vi own.Code,vi own.i8]],U [s5 198 4 E4 b1D]]⟩
def c74(s_:A4)(own:x6)(j4:E t7)(b1D:E x6):Option (A4×Int):=
 ((a8z b1D).bind λa53=>U ((A4.mk (s6 (s_.At+1)) j4 a53),own.Code))
def e9t(s_ own j4)(r):NF X4 r (f8Z s_ own j4) (λs=>c74 s_ own j4 s):=λb1D h=>PK<|rg<|cbS b6L c3C 1 (λ_=>(by simp[b6L,Q9,Y3,U6,V.simple,vi,A5,E4,eI,N8])) (λ_=>W1 1) h λa53 h=>z0 b1D<|rg<|G6 j4 a53<|fE h
def c3G(s_:A4)(own:x6)(j4:E t7)(dones1:E x6)(put1:Bool):Option (A4×Int):=
 (((bif(!put1)then z5 (((O dones1)+1)*32<=140737488355328) (U (r9.brk (dones1++[own])))else U (r9.brk dones1)):Option (r9 (A4×Int) (E x6))).bind λx=>x.go U λj=>c74 s_ own j4 j)
def g0h(s_ own j4)(r):NF X4 r (b8e s_ own j4) (λs=>c3G s_ own j4 s.1 s.2):=λ(dones1,put1) h=>PK<|D5 h (e9t s_ own j4 r) λx1 h hc1=>rg<|l9 1 h (λh=>rg<|tk 2 []<|z9 h λe1 h=>J4 3 11 198 4 32 E4 dones1 own e1<|I2 own<|(u6 h hc1 λhI=>sk [] [4,6,9,10] [(1,0),(2,0),(3,0),(4,0),(11,0)] hI)) (λh=>u6 h hc1 λhI=>sk [] [4,6,9,10] j_ hI)
def c7E(s_:A4)(own:x6)(j4:E t7):((E x6)×Int×Bool)->KS:=λ(dones,v109,put)=>⟨X4.k 12 [W,W,W,Y],bs 4 (.ptr 1 0 0::bs 1 (.ptr 2 0 0::bs 2 (.ptr 4 0 0::(.own 5 0 4 0 (O dones)::(.b put::bs 95 (n7 4 E4 s_.l7::(vi (O s_.l7:Int)::(vi v109::bs 42 [])))))))),[U [],U jQ,U [.var 135 [vi (s6 (s_.At+1)),.own 3 0 2 0 (O j4),.nil]],U [s5 165 2 B9 j4],U [.var 198 [vi own.b6.i0,vi own.b6.Seq,vi own.Code,vi own.i8]],U [s5 198 4 E4 dones]]⟩
def e1c(s_:A4)(own:x6)(j4:E t7)(v109:Int)(done2:x6):((E x6)×Bool)->KS:=λ(dones3,put2)=>⟨X4.k 17 [W,W,W,Y,Y,Y],bs 4 (.ptr 1 0 0::bs 1 (.ptr 2 0 0::bs 2 (.ptr 4 0 0::(.own 5 0 4 0 (O dones3)::(.b put2::bs 1 (.ptr 6 0 0::bs 93 (n7 4 E4 s_.l7::(vi (O s_.l7:Int)::(vi v109::bs 42 []))))))))),[U [],U jQ,U [.var 135 [vi (s6 (s_.At+1)),.own 3 0 2 0 (O j4),.nil]],U [s5 165 2 B9 j4],U [.var 198 [vi own.b6.i0,vi own.b6.Seq,vi own.Code,vi own.i8]],U [s5 198 4 E4 dones3],U [.var 198 [vi done2.b6.i0,vi done2.b6.Seq,vi done2.Code,vi done2.i8]]]⟩
def e4m(s_:A4)(own:x6)(j4:E t7)(v109:Int)(put2:Bool):(E x6)->KS:=λb6t=>⟨X4.k 19 [W,W,W,Y,Y,Y,Y],bs 4 (.ptr 1 0 0::bs 1 (.ptr 2 0 0::bs 2 (.ptr 4 0 0::(.own 5 0 4 0 (O b6t)::(.b put2::bs 95 (n7 4 E4 s_.l7::(vi (O s_.l7:Int)::(vi v109::bs 42 [])))))))),[U [],U jQ,U [.var 135 [vi (s6 (s_.At+1)),.own 3 0 2 0 (O j4),.nil]],U [s5 165 2 B9 j4],U [.var 198 [vi own.b6.i0,vi own.b6.Seq,vi own.Code,vi own.i8]],U [s5 198 4 E4 b6t]]⟩
def c4M(v109:Int)(put2:Bool)(b6t:E x6):Option (n6 (A4×Int) ((E x6)×Int×Bool) ((E x6)×Bool)):=
 U (n6.nxt (b6t,s6 (v109+1),put2))
def e44(s_ own j4 v109 put2)(lc:J2 X4 (b8e s_ own j4) (c7E s_ own j4)):NL lc (e4m s_ own j4 v109 put2) (λs=>c4M v109 put2 s):=λb6t h=>PK<|rg<|(lc.nx h λhI=>sk [] [4,6,9,10,11,107,108,109] [(1,0),(2,0),(3,0),(4,0),(5,0)] hI)
def c8g(own:x6)(v109:Int)(done2:x6)(dones3:E x6)(put2:Bool):Option (n6 (A4×Int) ((E x6)×Int×Bool) ((E x6)×Bool)):=
 (((bif(done2.b6.i0 != own.b6.i0)then z5 (((O dones3)+1)*32<=140737488355328) (U (r9.brk (dones3++[done2])))else U (r9.brk dones3)):Option (r9 (n6 (A4×Int) ((E x6)×Int×Bool) ((E x6)×Bool)) (E x6))).bind λx=>x.go U λj=>c4M v109 put2 j)
def e7z(s_ own j4 v109 done2)(lc:J2 X4 (b8e s_ own j4) (c7E s_ own j4)):NL lc (e1c s_ own j4 v109 done2) (λs=>c8g own v109 done2 s.1 s.2):=λ(dones3,put2) h=>PK<|D5 h (e44 s_ own j4 v109 put2 lc) λx2 h hc2=>rg<|l9 6 h (λh=>rg<|tk 2 []<|z9 h λe2 h=>J4 3 17 198 4 32 E4 dones3 done2 e2<|I2 done2<|(u6 h hc2 λhI=>sk [] [4,6,9,10,11,107,108,109] [(1,0),(2,0),(3,0),(4,0),(17,0)] hI)) (λh=>u6 h hc2 λhI=>sk [] [4,6,9,10,11,107,108,109] [(1,0),(2,0),(3,0),(4,0),(5,0)] hI)
def b6x(s_:A4)(own:x6)(dones:E x6)(v109:Int)(put:Bool):Option (n6 (A4×Int) ((E x6)×Int×Bool) ((E x6)×Bool)):=
 (bif decide (v109<(O s_.l7:Int))then(idx s_.l7 v109).bind λdone2=>((bif(!put)then bif decide (done2.b6.i0>=own.b6.i0)then z5 (((O dones)+1)*32<=140737488355328) (U (r9.brk (dones++[own],Y)))else U (r9.brk (dones,put))else U (r9.brk (dones,put))):Option (r9 (n6 (A4×Int) ((E x6)×Int×Bool) ((E x6)×Bool)) ((E x6)×Bool))).bind λx=>x.go U λj=>c8g own v109 done2 j.1 j.2 else U (n6.brk (dones,put)))
def e3M(s_ own j4):LQ X4 (b8e s_ own j4) (c7E s_ own j4) (λs=>b6x s_ own s.1 s.2.1 s.2.2):=λlc (dones,v109,put) h=>PK<|rg<|l9 0 h (λh=>rg<|A3 E4 0 h λdone2 g0S h=>D5 h (e7z s_ own j4 v109 done2 lc) λx2 h hc2=>rg<|l9 2 h (λh=>l9 10 h (λh=>rg<|tk 2 []<|z9 h λe3 h=>J4 3 25 198 4 32 E4 dones own e3<|I2 own<|rg<|(u6 h hc2 λhI=>sk [] [4,6,9,10,11,13,107,108,109] [(1,0),(2,0),(3,0),(4,0),(25,0),(9,0)] hI)) (λh=>u6 h hc2 λhI=>sk [] [4,6,9,10,11,13,107,108,109] Wj hI)) (λh=>u6 h hc2 λhI=>sk [] [4,6,9,10,11,13,107,108,109] Wj hI)) (λh=>lc.bk h λhI=>sk [] [4,6,9,10,11] j_ hI)
def c1D(s_:A4)(own:x6)(j4:E t7):Option (A4×Int):=
 ((u5 (λs:(E x6)×Int×Bool=>b6x s_ own s.1 s.2.1 s.2.2) ([],0,W)).bind λx=>x.go (λr=>U r) λs=>c3G s_ own j4 s.1 s.2)
def f4z(s_)(r):NF X4 r (e7n s_) (λs=>c1D s_ s.1 s.2):=λ(own,j4) h=>PK<|T1<|lp (e3M s_ own j4) h (λ_ h=>X4.rt h) (g0h s_ own j4 r) λhI=>sk [.own (.tmp 10) 198 4] [4,6,9,10,11,107,108,109] [(2,0),(3,0),(4,0),(5,0),(12,0)] hI
def c2z(s_:A4)(e_:p9)(box:E t7):Option (A4×Int):=
 ((((b8f s_.j4 e_.g8).bind λa7w=>bif(!a7w)then U (r9.brk ((x6.mk e_.b6 1 0),box))else bif(e_.g8.Code != 0)then U (r9.brk ((x6.mk e_.b6 2 0),box))else(b4w s_.j4 e_.g8).bind λb2L=>U (r9.brk ((x6.mk e_.b6 0 e_.g8.i8),b2L))):Option (r9 (A4×Int) (x6×E t7))).bind λx=>x.go U λj=>c1D s_ j.1 j.2)
def f0x(s_ e_ box)(r):NF X4 r (c6u s_ e_ box) (λs=>c2z s_ e_ box):=λ_ h=>PK<|rg<|D5 h (f4z s_ r) λx1 h hc1=>rg<|n9 b0H f0g 4 h λa7w h=>l9 6 h (λh=>rg<|(u6 h hc1 λhI=>sk [] [2,4,6,9] Wy hI)) (λh=>rg<|l9 4 h (λh=>rg<|(u6 h hc1 λhI=>sk [] [2,4,6,9] Wy hI)) (λh=>t5<|n9 a7Y d4i 4 h λb2L h=>u6 h hc1 λhI=>sk [] [2,4,6,9] [(1,0),(3,0),(4,0),(32,0),(9,0)] hI))
def d1O(s_:A4)(e_:p9)(box:E t7):Int->KS:=λv45=>⟨X4.k 5 [W,W],bs 2 (.ptr 1 0 0::(.ptr 2 0 0::(.ptr 3 0 0::bs 1 (.ptr 4 0 0::bs 36 (n7 4 E4 s_.l7::(vi (O s_.l7:Int)::(vi v45::bs 106 []))))))),[U [],U [.var 135 [vi s_.At,n7 2 B9 s_.j4,n7 4 E4 s_.l7]],U [.var 50 (a4D e_)],U jQ,U [.var 135 [vi (s6 (s_.At+1)),.own 5 0 2 0 (O box),.nil]],U [s5 165 2 B9 box]]⟩
def e6O(s_:A4)(e_:p9)(box:E t7)(v45:Int):Unit->KS:=λ_=>⟨X4.k 8 [W,W,Y,W],bs 2 (.ptr 1 0 0::(.ptr 2 0 0::(.ptr 3 0 0::bs 1 (.ptr 4 0 0::bs 36 (n7 4 E4 s_.l7::(vi (O s_.l7:Int)::(vi v45::bs 106 []))))))),[U [],U [.var 135 [vi s_.At,n7 2 B9 s_.j4,n7 4 E4 s_.l7]],U [.var 50 (a4D e_)],U jQ,U [.var 135 [vi (s6 (s_.At+1)),.own 5 0 2 0 (O box),.nil]],U [s5 165 2 B9 box]]⟩
def c6B(v45:Int):Option (n6 (A4×Int) Int Unit):=
 U (n6.nxt (s6 (v45+1)))
def f4A(s_ e_ box v45)(lc:J2 X4 (c6u s_ e_ box) (d1O s_ e_ box)):NL lc (e6O s_ e_ box v45) (λs=>c6B v45):=λ_ h=>PK<|rg<|(lc.nx h λhI=>sk [] [2,3,4,6,43,44,45] [(1,0),(2,0),(3,0),(4,0),(5,0)] hI)
def c0M(s_:A4)(e_:p9)(box:E t7)(v45:Int):Option (n6 (A4×Int) Int Unit):=
 (bif decide (v45<(O s_.l7:Int))then(idx s_.l7 v45).bind λb7I=>((bif(b7I.b6.i0==e_.b6.i0)then bif decide (b7I.b6.Seq>=e_.b6.Seq)then(a8z s_.l7).bind λb5R=>bif(b7I.b6.Seq==e_.b6.Seq)then U (r9.ret (n6.ret ((A4.mk (s6 (s_.At+1)) box b5R),3)))else U (r9.ret (n6.ret ((A4.mk (s6 (s_.At+1)) box b5R),4)))else U (r9.brk ())else U (r9.brk ())):Option (r9 (n6 (A4×Int) Int Unit) Unit)).bind λx=>x.go U λj=>c6B v45 else U (n6.brk ()))
def e5N(s_ e_ box):LQ X4 (c6u s_ e_ box) (d1O s_ e_ box) (λs=>c0M s_ e_ box s):=λlc v45 h=>PK<|rg<|l9 0 h (λh=>rg<|A3 E4 0 h λb7I g0T h=>D5 h (f4A s_ e_ box v45 lc) λx2 h hc2=>rg<|l9 7 h (λh=>l9 15 h (λh=>rg<|n9 b6L c3C 2 h λb5R h=>rg<|l9 6 h (λh=>rg<|(E3 h hc2 λh=>G6 box b5R<|fL lc h)) (λh=>rg<|(E3 h hc2 λh=>G6 box b5R<|fL lc h))) (λh=>u6 h hc2 λhI=>sk [] [2,3,4,6,43,44,45] j_ hI)) (λh=>u6 h hc2 λhI=>sk [] [2,3,4,6,43,44,45] j_ hI)) (λh=>lc.bk h λhI=>sk [] [2,3,4,6] j_ hI)
def c1y(s_:A4)(e_:p9):Option (A4×Int):=
 ((b9J s_).bind λd2a=>bif(!d2a)then U ((A4.mk 0 [] []),(-1))else(a2T e_).bind λI0=>bif(!I0)then U ((A4.mk 0 [] []),(-1))else bif(s_.At==40)then U ((A4.mk 0 [] []),(-1))else(a9G s_.j4).bind λbox=>bif e_.j9 then(a8z s_.l7).bind λdone=>U ((A4.mk (s6 (s_.At+1)) box done),5)else(u5 (λs:Int=>c0M s_ e_ box s) 0).bind λx=>x.go (λr=>U r) λs=>c2z s_ e_ box)
def e4W{s_ e_}:OK X4 [.agg (a9S s_),.agg (x9 e_)] (c1y s_ e_):=
 t9 _ λr h=>t5<|n9 a6K e9z 1 h λd2a h=>l9 3 h (λh=>rg<|fE h) (λh=>n9 a4j a5l 5 h λI0 h=>l9 8 h (λh=>rg<|fE h) (λh=>l9 12 h (λh=>rg<|fE h) (λh=>rg<|n9 c1R c4Q 5 h λbox h=>rg<|l9 1 h (λh=>rg<|n9 b6L c3C 2 h λdone h=>rg<|G6 box done<|fE h) (λh=>rg<|lp (e5N s_ e_ box) h (λ_ h=>X4.rt h) (f0x s_ e_ box r) λhI=>sk [] [2,3,4,6,43,44,45] [(1,0),(2,0),(3,0),(25,0),(23,0)] hI))))
def a4w:FS (A4×E Int):=⟨93,Tryz.f93,[.val [Z,U 2,U 4] [Z,U 165,U 198],.val [U 1] [U 3]],[Z],[.val [U 7] []],λr=>.tup [.agg (b4h r.1),A5 3 1 eI r.2],λ_=>[Z],Tryz.func93⟩
def d2Y:((E t7)×(E x6)×(E Int)×Int)->KS:=λ(Boxes1,Dones1,codes1,sAt1)=>⟨a4w.k 5 [W],bs 2 (.ptr 1 0 0::bs 1 (.ptr 2 0 0::(.own 5 0 1 0 (O codes1)::bs 25 []))),[U [],U jQ,U [.var 135 [vi sAt1,.own 3 0 2 0 (O Boxes1),.own 4 0 4 0 (O Dones1)]],U [s5 165 2 B9 Boxes1],U [s5 198 4 E4 Dones1],U [s5 3 1 eI codes1]]⟩
def c98(Boxes1:E t7)(Dones1:E x6)(codes1:E Int)(sAt1:Int):Option (A4×E Int):=
 U ((A4.mk sAt1 Boxes1 Dones1),codes1)
def e9W(r):NF a4w r d2Y (λs=>c98 s.1 s.2.1 s.2.2.1 s.2.2.2):=λ(Boxes1,Dones1,codes1,sAt1) h=>PK<|rg<|ol3 Boxes1 Dones1 codes1<|fE h
def f3n(list:E p9):((E t7)×(E x6)×(E Int)×Int×Int)->KS:=λ(j4,l7,codes,v13,sAt)=>⟨a4w.k 4 [],bs 2 (.ptr 1 0 0::bs 1 (.ptr 2 0 0::(.own 5 0 1 0 (O codes)::bs 5 (n7 7 x9 list::(vi (O list:Int)::(vi v13::bs 17 [])))))),[U [],U jQ,U [.var 135 [vi sAt,.own 3 0 2 0 (O j4),.own 4 0 4 0 (O l7)]],U [s5 165 2 B9 j4],U [s5 198 4 E4 l7],U [s5 3 1 eI codes]]⟩
def a2w(list:E p9)(j4:E t7)(l7:E x6)(codes:E Int)(v13:Int)(sAt:Int):Option (n6 (A4×E Int) ((E t7)×(E x6)×(E Int)×Int×Int) ((E t7)×(E x6)×(E Int)×Int)):=
 (bif decide (v13<(O list:Int))then(idx list v13).bind λentry=>(c1y (A4.mk sAt j4 l7) entry).bind λa9l=>z5 (((O codes)+1)*8<=140737488355328) (U (n6.nxt (a9l.1.j4,a9l.1.l7,codes++[a9l.2],s6 (v13+1),a9l.1.At)))else U (n6.brk (j4,l7,codes,sAt)))
def e9s(list):LQ a4w d2Y (f3n list) (λs=>a2w list s.1 s.2.1 s.2.2.1 s.2.2.2.1 s.2.2.2.2):=λlc (j4,l7,codes,v13,sAt) h=>PK<|rg<|l9 0 h (λh=>rg<|A3 x9 0 h λentry K6 h=>rg<|cbS X4 e4W 2 (λ_=>(by simp[X4,Q9,Y3,U6,V.simple,vi,A5,b4h,B9,E4,eI,N8,a9S])) (λ_=>W1 2) h λa9l h=>G6 j4 l7<|t5<|tk 2 []<|z9 h λe1 h=>J4 3 25 3 1 8 eI codes a9l.2 e1<|I2 a9l.2<|rg<|(lc.nx h λhI=>sk [] [2,4,5,11,12,13] [(1,0),(2,0),(13,0),(13,1),(25,0)] hI)) (λh=>lc.bk h λhI=>sk [] [2,4,5] j_ hI)
def a9c(list:E p9):Option (A4×E Int):=
 ((c2x).bind λa2v=>(u5 (λs:(E t7)×(E x6)×(E Int)×Int×Int=>a2w list s.1 s.2.1 s.2.2.1 s.2.2.2.1 s.2.2.2.2) (a2v.j4,a2v.l7,[],0,a2v.At)).bind λx=>x.go (λr=>U r) λs=>c98 s.1 s.2.1 s.2.2.1 s.2.2.2)
def b66{list}:OK a4w [n7 7 x9 list] (a9c list):=
 t9 _ λr h=>t5<|n9 d72 e6F 0 h λa2v h=>t5<|lp (e9s list) h (λ_ h=>a4w.rt h) (e9W r) λhI=>sk [.own (.tmp 5) 3 1] [2,4,5,11,12,13] [(1,0),(4,0),(3,0),(3,1),(10,0)] hI
def c6S:FS (A4):=⟨91,Tryz.f91,[.val [Z,U 2,U 4] [Z,U 165,Z]],[Z],[.val [U 7] []],λr=>.agg (b4J r),λ_=>[Z],Tryz.func91⟩
def b46(list:E p9):Option A4:=
 ((b0W list).bind λK1=>bif(!K1)then U (A4.mk 0 [] [])else(a9c list).bind λw9=>U w9.1)
def d4D{list}:OK c6S [n7 7 x9 list] (b46 list):=
 t9 _ λr h=>t5<|n9 a6P c7Y 1 h λK1 h=>l9 2 h (λh=>rg<|fE h) (λh=>rg<|n9 a4w b66 1 h λw9 h=>rg<|G6 w9.1.j4 w9.1.l7<|fE h)
def d16:FS (A4):=⟨155,Tryz.f155,[.val [Z,U 2,U 4] []],[Z],[.val D1 []],λr=>.agg (a9S r),λ_=>[Z],Tryz.func155⟩
def b7h(n:m4):Option A4:=
 ((a43 n).bind λH4=>bif(!H4)then U (A4.mk 0 [] [])else(b46 n.a9).bind λa4O=>U a4O)
def f9E{n}:OK d16 [.agg (B3 n)] (b7h n):=
 t9 _ λr h=>t5<|n9 a1W b0u 1 h λH4 h=>l9 2 h (λh=>rg<|fE h) (λh=>rg<|n9 c6S d4D 2 h λa4O h=>z0 a4O.j4<|fE h)
def a7E:FS (Int):=⟨196,Tryz.f196,[.val [] []],[Z,Z],[.val U4 [],.val [] []],λr=>vi r,λ_=>[Z,Z],Tryz.func196⟩
def d15:Unit->KS:=λ_=>⟨a7E.k 3 [W],bs 21 [],[U []]⟩
def d1N:Option Int:=
 U (-1)
def f5R(r):NF a7E r d15 (λs=>d1N):=λ_ h=>PK<|rg<|fE h
def g0g(r_:s9)(box:Int):Int->KS:=λv10=>⟨a7E.k 2 [],bs 1 (vi box::bs 6 (n7 2 A8 r_.f0::(vi (O r_.f0:Int)::(vi v10::bs 10 [])))),[U []]⟩
def b6F(r_:s9)(box:Int)(v10:Int):Option (n6 Int Int Unit):=
 (bif decide (v10<(O r_.f0:Int))then(idx r_.f0 v10).bind λput=>bif(put.j7==box)then U (n6.ret v10)else U (n6.nxt (s6 (v10+1)))else U (n6.brk ()))
def f09(r_ box):LQ a7E d15 (g0g r_ box) (λs=>b6F r_ box s):=λlc v10 h=>PK<|rg<|l9 0 h (λh=>rg<|A3 A8 1 h λput hput h=>rg<|l9 3 h (λh=>rg<|fL lc h) (λh=>rg<|(lc.nx h λhI=>sk [] [1,8,9,10] [] hI))) (λh=>lc.bk h λhI=>sk [] [] [] hI)
def b54(r_:s9)(box:Int):Option Int:=
 ((u5 (λs:Int=>b6F r_ box s) 0).bind λx=>x.go (λr=>U r) λs=>d1N)
def c87{r_ box}:OK a7E [.agg (X0 r_),vi box] (b54 r_ box):=
 t9 _ λr h=>t5<|lp (f09 r_ box) h (λ_ h=>a7E.rt h) (f5R r) λhI=>sk [] [1,8,9,10] [] hI
def a83:FS (Int):=⟨197,Tryz.f197,[.val [] []],[Z,Z],[.val U4 [],.val [] []],λr=>vi r,λ_=>[Z,Z],Tryz.func197⟩
def d9x:Unit->KS:=λ_=>⟨a83.k 3 [W],bs 21 [],[U []]⟩
def d4F:Option Int:=
 U (-1)
def f2P(r):NF a83 r d9x (λs=>d4F):=λ_ h=>PK<|rg<|fE h
def f8D(r_:s9)(box:Int):Int->KS:=λv10=>⟨a83.k 2 [],bs 1 (vi box::bs 6 (n7 2 A7 r_.d8::(vi (O r_.d8:Int)::(vi v10::bs 10 [])))),[U []]⟩
def b59(r_:s9)(box:Int)(v10:Int):Option (n6 Int Int Unit):=
 (bif decide (v10<(O r_.d8:Int))then(idx r_.d8 v10).bind λread=>bif(read.j7==box)then U (n6.ret v10)else U (n6.nxt (s6 (v10+1)))else U (n6.brk ()))
def f7g(r_ box):LQ a83 d9x (f8D r_ box) (λs=>b59 r_ box s):=λlc v10 h=>PK<|rg<|l9 0 h (λh=>rg<|A3 A7 1 h λread a46 h=>rg<|l9 3 h (λh=>rg<|fL lc h) (λh=>rg<|(lc.nx h λhI=>sk [] [1,8,9,10] [] hI))) (λh=>lc.bk h λhI=>sk [] [] [] hI)
def b37(r_:s9)(box:Int):Option Int:=
 ((u5 (λs:Int=>b59 r_ box s) 0).bind λx=>x.go (λr=>U r) λs=>d4F)
def g0p{r_ box}:OK a83 [.agg (X0 r_),vi box] (b37 r_ box):=
 t9 _ λr h=>t5<|lp (f7g r_ box) h (λ_ h=>a83.rt h) (f2P r) λhI=>sk [] [1,8,9,10] [] hI
def V9:FS (s9):=⟨154,Tryz.f154,[.val U4 []],[Z,Z],[.val [U 2] [],.val [U 4] []],λr=>.agg (X0 r),λ_=>[Z,Z],Tryz.func154⟩
def a92:((E w8)×(E u9)×(E Int)×(E w8)×E u9)->KS:=λ(Reads2,Puts2,regs1,Reads3,Puts3)=>⟨V9.k 6 [W,W],bs 4 (.ptr 1 0 0::(.ptr 4 0 0::(.ptr 5 0 0::bs 175 []))),[U [],U [.var 48 [.own 2 0 2 0 (O Reads2),.own 3 0 2 0 (O Puts2),vi 0,vi 0]],U [s5 116 2 A7 Reads2],U [s5 119 2 A8 Puts2],U [.arr 201 1 4 (regs1.map eI)],U [.var 48 [.own 6 0 2 0 (O Reads3),.own 7 0 2 0 (O Puts3),vi 0,vi 0]],U [s5 116 2 A7 Reads3],U [s5 119 2 A8 Puts3]]⟩
def b4Y(Reads2:E w8)(Puts2:E u9)(regs1:E Int)(Reads3:E w8)(Puts3:E u9):Option s9:=
 ((a4q Reads3).bind λread=>(b0i Puts3).bind λput=>(idx regs1 0).bind λy=>z5 ((0:Int)<4) (U (s9.mk read put y 0)))
def f4G(r):NF V9 r a92 (λs=>b4Y s.1 s.2.1 s.2.2.1 s.2.2.2.1 s.2.2.2.2):=λ(Reads2,Puts2,regs1,Reads3,Puts3) h=>PK<|rg<|cbS a3z b18 2 (λ_=>(by simp[a3z,Q9,Y3,U6,V.simple,vi,A5,eI,A7])) (λ_=>W1 1) h λread h=>z0 Reads3<|cbS b9I d1M 5 (λ_=>(by simp[b9I,Q9,Y3,U6,V.simple,vi,A5,eI,A8])) (λ_=>W1 1) h λput h=>z0 Puts3<|D6 h λy hy h=>z9 h λe1 h=>ob (U1 hy)<|ob e1<|ob (a0i (enc:=eI) hy)<|tl (tr 7 (eI y))<|G6 read put<|fE h
def b2a(list:E t7)(prog:E t8):((E Int)×(E w8)×(E u9)×(E w8)×(E u9)×Int)->KS:=λ(regs,d8,f0,Reads1,Puts1,at_)=>⟨V9.k 5 [W],n7 2 B9 list::(n7 4 C2 prog::bs 2 (.ptr 1 0 0::(.ptr 2 0 0::(.ptr 3 0 0::(vi at_::bs 174 []))))),[U [],U [.var 48 [.own 4 0 2 0 (O d8),.own 5 0 2 0 (O f0),vi 0,vi 0]],U [.arr 201 1 4 (regs.map eI)],U [.var 48 [.own 6 0 2 0 (O Reads1),.own 7 0 2 0 (O Puts1),vi 0,vi 0]],U [s5 116 2 A7 d8],U [s5 119 2 A8 f0],U [s5 116 2 A7 Reads1],U [s5 119 2 A8 Puts1]]⟩
def d6G(list:E t7)(prog:E t8)(regs:E Int)(d8:E w8)(f0:E u9)(Reads1:E w8)(Puts1:E u9)(at_:Int)(ins:t8)(put1:u9):Unit->KS:=λ_=>⟨V9.k 14 [W,Y,Y,Y,W],n7 2 B9 list::(n7 4 C2 prog::bs 2 (.ptr 1 0 0::(.ptr 4 0 0::(.ptr 5 0 0::(vi at_::bs 174 []))))),[U [],U [.var 48 [.own 2 0 2 0 (O d8),.own 3 0 2 0 (O f0),vi 0,vi 0]],U [s5 116 2 A7 d8],U [s5 119 2 A8 f0],U [.arr 201 1 4 ((regs.set ins.A.toNat put1.i8).map eI)],U [.var 48 [.own 6 0 2 0 (O Reads1),.own 7 0 2 0 (O Puts1),vi 0,vi 0]],U [s5 116 2 A7 Reads1],U [s5 119 2 A8 Puts1]]⟩
def c7H(regs:E Int)(d8:E w8)(f0:E u9)(Reads1:E w8)(Puts1:E u9)(at_:Int)(ins:t8)(put1:u9):Option (n6 s9 ((E Int)×(E w8)×(E u9)×(E w8)×(E u9)×Int) ((E w8)×(E u9)×(E Int)×(E w8)×E u9)):=
 U (n6.nxt (regs.set ins.A.toNat put1.i8,d8,f0,Reads1,Puts1,s6 (at_+1)))
def e3A(list prog regs d8 f0 Reads1 Puts1 at_ ins put1)(lc:J2 V9 a92 (b2a list prog)):NL lc (d6G list prog regs d8 f0 Reads1 Puts1 at_ ins put1) (λs=>c7H regs d8 f0 Reads1 Puts1 at_ ins put1):=λ_ h=>PK<|rg<|(lc.nx h λhI=>sk [] [0,1,4,5,6,7] [(1,0),(4,0),(5,0),(2,0),(3,0),(6,0),(7,0)] hI)
def f2z(list:E t7)(prog:E t8)(regs:E Int)(d8:E w8)(f0:E u9)(Reads1:E w8)(Puts1:E u9)(at_:Int)(ins:t8)(put1:u9):Int->KS:=λa8F=>⟨V9.k 13 [W,Y,Y,Y],n7 2 B9 list::(n7 4 C2 prog::bs 2 (.ptr 1 0 0::(.ptr 4 0 0::(.ptr 5 0 0::(vi at_::bs 153 (.agg ((regs.set ins.A.toNat put1.i8).map eI).flatten::(vi a8F::bs 19 []))))))),[U [],U [.var 48 [.own 2 0 2 0 (O d8),.own 3 0 2 0 (O f0),vi 0,vi 0]],U [s5 116 2 A7 d8],U [s5 119 2 A8 f0],U [.arr 201 1 4 ((regs.set ins.A.toNat put1.i8).map eI)],U [.var 48 [.own 6 0 2 0 (O Reads1),.own 7 0 2 0 (O Puts1),vi 0,vi 0]],U [s5 116 2 A7 Reads1],U [s5 119 2 A8 Puts1]]⟩
def b6J(regs:E Int)(Reads1:E w8)(ins:t8)(put1:u9)(a8F:Int):Option (n6 s9 Int Unit):=
 (bif decide (a8F<4)then(idx (regs.set ins.A.toNat put1.i8) a8F).bind λy2=>z5 (a8F<4) (((H2 y2 (-1000000) 1000000).bind λin_=>bif(!in_)then(a4q Reads1).bind λZ7=>U (n6.ret (s9.mk Z7 [] 0 2))else U (n6.nxt (s6 (a8F+1)))))else U (n6.brk ()))
def g0x(list prog regs d8 f0 Reads1 Puts1 at_ ins put1):LQ V9 (d6G list prog regs d8 f0 Reads1 Puts1 at_ ins put1) (f2z list prog regs d8 f0 Reads1 Puts1 at_ ins put1) (λs=>b6J regs Reads1 ins put1 s):=λlc a8F h=>PK<|rg<|l9 0 h (λh=>rg<|D6 h λy2 hy2 h=>z9 h λe3 h=>ob (U1 hy2)<|ob e3<|om (((regs.set ins.A.toNat put1.i8).map eI).flatten[a8F.toNat]?=U (vi y2)) (c7a (λ_=>rfl) hy2)<|tl (0,{a:=.val (vi y2)})<|rg<|n9 H0 H9 1 h λin_ h=>l9 2 h (λh=>rg<|cbS a3z b18 2 (λ_=>(by simp[a3z,Q9,Y3,U6,V.simple,vi,A5,eI,A7])) (λ_=>W1 1) h λZ7 h=>G6 Reads1 Z7<|fL lc h) (λh=>rg<|(lc.nx h λhI=>om (V.agg (((regs.set ins.A.toNat put1.i8).map eI).flatten.map (a0F jJ))=.agg ((regs.set ins.A.toNat put1.i8).map eI).flatten) (congrArg V.agg (a9L (λ_=>rfl) _))<|skT [] [0,1,4,5,6,7,161,162] jJ [(161,.agg ((regs.set ins.A.toNat put1.i8).map eI).flatten)] hI))) (λh=>lc.bk h λhI=>sk [] [0,1,4,5,6,7] jJ hI)
def e3d(list:E t7)(prog:E t8)(regs:E Int)(d8:E w8)(f0:E u9)(Puts1:E u9)(at_:Int)(ins:t8):(E w8)->KS:=λReads4=>⟨V9.k 13 [W,Y,Y,W,Y],n7 2 B9 list::(n7 4 C2 prog::bs 2 (.ptr 1 0 0::(.ptr 4 0 0::(.ptr 5 0 0::(vi at_::(.ptr 8 0 0::bs 173 [])))))),[U [],U [.var 48 [.own 2 0 2 0 (O d8),.own 3 0 2 0 (O f0),vi 0,vi 0]],U [s5 116 2 A7 d8],U [s5 119 2 A8 f0],U [.arr 201 1 4 (regs.map eI)],U [.var 48 [.own 6 0 2 0 (O Reads4),.own 7 0 2 0 (O Puts1),vi 0,vi 0]],U [s5 116 2 A7 Reads4],U [s5 119 2 A8 Puts1],U [.var 88 [vi ins.b7,vi ins.A,vi ins.B,vi ins.N]]]⟩
def c86(list:E t7)(prog:E t8)(regs:E Int)(d8:E w8)(f0:E u9)(Puts1:E u9)(at_:Int)(ins:t8)(Reads4:E w8)(box:t7):Unit->KS:=λ_=>⟨V9.k 16 [W,Y,Y,W,Y,W],n7 2 B9 list::(n7 4 C2 prog::bs 2 (.ptr 1 0 0::(.ptr 4 0 0::(.ptr 5 0 0::(vi at_::bs 174 []))))),[U [],U [.var 48 [.own 2 0 2 0 (O d8),.own 3 0 2 0 (O f0),vi 0,vi 0]],U [s5 116 2 A7 d8],U [s5 119 2 A8 f0],U [.arr 201 1 4 ((regs.set ins.A.toNat box.i8).map eI)],U [.var 48 [.own 6 0 2 0 (O Reads4),.own 7 0 2 0 (O Puts1),vi 0,vi 0]],U [s5 116 2 A7 Reads4],U [s5 119 2 A8 Puts1]]⟩
def c1o(regs:E Int)(d8:E w8)(f0:E u9)(Puts1:E u9)(at_:Int)(ins:t8)(Reads4:E w8)(box:t7):Option (n6 s9 ((E Int)×(E w8)×(E u9)×(E w8)×(E u9)×Int) ((E w8)×(E u9)×(E Int)×(E w8)×E u9)):=
 U (n6.nxt (regs.set ins.A.toNat box.i8,d8,f0,Reads4,Puts1,s6 (at_+1)))
def f5K(list prog regs d8 f0 Puts1 at_ ins Reads4 box)(lc:J2 V9 a92 (b2a list prog)):NL lc (c86 list prog regs d8 f0 Puts1 at_ ins Reads4 box) (λs=>c1o regs d8 f0 Puts1 at_ ins Reads4 box):=λ_ h=>PK<|rg<|(lc.nx h λhI=>sk [] [0,1,4,5,6,7] [(1,0),(4,0),(5,0),(2,0),(3,0),(6,0),(7,0)] hI)
def f7P(list:E t7)(prog:E t8)(regs:E Int)(d8:E w8)(f0:E u9)(Puts1:E u9)(at_:Int)(ins:t8)(Reads4:E w8)(box:t7):Int->KS:=λa79=>⟨V9.k 15 [W,Y,Y,W,Y],n7 2 B9 list::(n7 4 C2 prog::bs 2 (.ptr 1 0 0::(.ptr 4 0 0::(.ptr 5 0 0::(vi at_::bs 153 (.agg ((regs.set ins.A.toNat box.i8).map eI).flatten::(vi a79::bs 19 []))))))),[U [],U [.var 48 [.own 2 0 2 0 (O d8),.own 3 0 2 0 (O f0),vi 0,vi 0]],U [s5 116 2 A7 d8],U [s5 119 2 A8 f0],U [.arr 201 1 4 ((regs.set ins.A.toNat box.i8).map eI)],U [.var 48 [.own 6 0 2 0 (O Reads4),.own 7 0 2 0 (O Puts1),vi 0,vi 0]],U [s5 116 2 A7 Reads4],U [s5 119 2 A8 Puts1]]⟩
def b5p(regs:E Int)(ins:t8)(Reads4:E w8)(box:t7)(a79:Int):Option (n6 s9 Int Unit):=
 (bif decide (a79<4)then(idx (regs.set ins.A.toNat box.i8) a79).bind λy4=>z5 (a79<4) (((H2 y4 (-1000000) 1000000).bind λin_1=>bif(!in_1)then(a4q Reads4).bind λc8p=>U (n6.ret (s9.mk c8p [] 0 2))else U (n6.nxt (s6 (a79+1)))))else U (n6.brk ()))
def f4Y(list prog regs d8 f0 Puts1 at_ ins Reads4 box):LQ V9 (c86 list prog regs d8 f0 Puts1 at_ ins Reads4 box) (f7P list prog regs d8 f0 Puts1 at_ ins Reads4 box) (λs=>b5p regs ins Reads4 box s):=λlc a79 h=>PK<|rg<|l9 0 h (λh=>rg<|D6 h λy4 hy4 h=>z9 h λe5 h=>ob (U1 hy4)<|ob e5<|om (((regs.set ins.A.toNat box.i8).map eI).flatten[a79.toNat]?=U (vi y4)) (c7a (λ_=>rfl) hy4)<|tl (0,{a:=.val (vi y4)})<|rg<|n9 H0 H9 1 h λin_1 h=>l9 2 h (λh=>rg<|cbS a3z b18 2 (λ_=>(by simp[a3z,Q9,Y3,U6,V.simple,vi,A5,eI,A7])) (λ_=>W1 1) h λc8p h=>G6 Reads4 c8p<|fL lc h) (λh=>rg<|(lc.nx h λhI=>om (V.agg (((regs.set ins.A.toNat box.i8).map eI).flatten.map (a0F jJ))=.agg ((regs.set ins.A.toNat box.i8).map eI).flatten) (congrArg V.agg (a9L (λ_=>rfl) _))<|skT [] [0,1,4,5,6,7,161,162] jJ [(161,.agg ((regs.set ins.A.toNat box.i8).map eI).flatten)] hI))) (λh=>lc.bk h λhI=>sk [] [0,1,4,5,6,7] jJ hI)
def c1E(list:E t7)(regs:E Int)(d8:E w8)(f0:E u9)(Puts1:E u9)(at_:Int)(ins:t8)(Reads4:E w8):Option (n6 s9 ((E Int)×(E w8)×(E u9)×(E w8)×(E u9)×Int) ((E w8)×(E u9)×(E Int)×(E w8)×E u9)):=
 ((idx list ins.B).bind λbox=>(idx regs ins.A).bind λy3=>z5 (ins.A<4) (((u5 (λs:Int=>b5p regs ins Reads4 box s) 0).bind λx=>x.go (λr=>U (n6.ret r)) λs=>c1o regs d8 f0 Puts1 at_ ins Reads4 box)))
def e2t(list prog regs d8 f0 Puts1 at_ ins)(lc:J2 V9 a92 (b2a list prog)):NL lc (e3d list prog regs d8 f0 Puts1 at_ ins) (λs=>c1E list regs d8 f0 Puts1 at_ ins s):=λReads4 h=>PK<|rg<|A3 B9 5 h λbox a3B h=>D6 h λy3 hy3 h=>z9 h λe4 h=>ob (U1 hy3)<|ob e4<|om (x8.arr 201 1 4 ((regs.map eI).set (ins.A.toNat) [vi box.i8])=x8.arr 201 1 4 ((regs.set ins.A.toNat box.i8).map eI)) (a99 rfl)<|ob (a0i (enc:=eI) hy3)<|tl (9,{a:=.rowck (eI y3) [],e:=U (.arr 201 1 4 ((regs.set ins.A.toNat box.i8).map eI))})<|rg<|om (4*1=4) rfl<|lp (f4Y list prog regs d8 f0 Puts1 at_ ins Reads4 box) h (λ_ h=>lc.rt h) (f5K list prog regs d8 f0 Puts1 at_ ins Reads4 box lc) λhI=>om (V.agg (((regs.set ins.A.toNat box.i8).map eI).flatten.map (a0F [(1,0),(2,0),(3,0),(4,0),(5,0),(6,0),(7,0)]))=.agg ((regs.set ins.A.toNat box.i8).map eI).flatten) (congrArg V.agg (a9L (λ_=>rfl) _))<|skT [] [0,1,4,5,6,7,161,162] [(1,0),(2,0),(3,0),(4,0),(5,0),(6,0),(7,0)] [(161,.agg ((regs.set ins.A.toNat box.i8).map eI).flatten)] hI
def e30(list:E t7)(prog:E t8)(d8:E w8)(f0:E u9)(Reads1:E w8):((E Int)×(E u9)×Int)->KS:=λ(regs2,Puts4,at_1)=>⟨V9.k 13 [W,Y,W,Y,Y],n7 2 B9 list::(n7 4 C2 prog::bs 2 (.ptr 1 0 0::(.ptr 4 0 0::(.ptr 5 0 0::(vi at_1::bs 174 []))))),[U [],U [.var 48 [.own 2 0 2 0 (O d8),.own 3 0 2 0 (O f0),vi 0,vi 0]],U [s5 116 2 A7 d8],U [s5 119 2 A8 f0],U [.arr 201 1 4 (regs2.map eI)],U [.var 48 [.own 6 0 2 0 (O Reads1),.own 7 0 2 0 (O Puts4),vi 0,vi 0]],U [s5 116 2 A7 Reads1],U [s5 119 2 A8 Puts4]]⟩
def d3n(list:E t7)(prog:E t8)(d8:E w8)(f0:E u9)(Reads1:E w8)(regs2:E Int)(Puts4:E u9)(at_1:Int):Unit->KS:=λ_=>⟨V9.k 15 [W,Y,W,Y,Y,W],n7 2 B9 list::(n7 4 C2 prog::bs 2 (.ptr 1 0 0::(.ptr 4 0 0::(.ptr 5 0 0::(vi at_1::bs 174 []))))),[U [],U [.var 48 [.own 2 0 2 0 (O d8),.own 3 0 2 0 (O f0),vi 0,vi 0]],U [s5 116 2 A7 d8],U [s5 119 2 A8 f0],U [.arr 201 1 4 (regs2.map eI)],U [.var 48 [.own 6 0 2 0 (O Reads1),.own 7 0 2 0 (O Puts4),vi 0,vi 0]],U [s5 116 2 A7 Reads1],U [s5 119 2 A8 Puts4]]⟩
def b6k(d8:E w8)(f0:E u9)(Reads1:E w8)(regs2:E Int)(Puts4:E u9)(at_1:Int):Option (n6 s9 ((E Int)×(E w8)×(E u9)×(E w8)×(E u9)×Int) ((E w8)×(E u9)×(E Int)×(E w8)×E u9)):=
 U (n6.nxt (regs2,d8,f0,Reads1,Puts4,s6 (at_1+1)))
def f4b(list prog d8 f0 Reads1 regs2 Puts4 at_1)(lc:J2 V9 a92 (b2a list prog)):NL lc (d3n list prog d8 f0 Reads1 regs2 Puts4 at_1) (λs=>b6k d8 f0 Reads1 regs2 Puts4 at_1):=λ_ h=>PK<|rg<|(lc.nx h λhI=>sk [] [0,1,4,5,6,7] [(1,0),(4,0),(5,0),(2,0),(3,0),(6,0),(7,0)] hI)
def f4H(list:E t7)(prog:E t8)(d8:E w8)(f0:E u9)(Reads1:E w8)(regs2:E Int)(Puts4:E u9)(at_1:Int):Int->KS:=λa8J=>⟨V9.k 14 [W,Y,W,Y,Y],n7 2 B9 list::(n7 4 C2 prog::bs 2 (.ptr 1 0 0::(.ptr 4 0 0::(.ptr 5 0 0::(vi at_1::bs 153 (.agg (regs2.map eI).flatten::(vi a8J::bs 19 []))))))),[U [],U [.var 48 [.own 2 0 2 0 (O d8),.own 3 0 2 0 (O f0),vi 0,vi 0]],U [s5 116 2 A7 d8],U [s5 119 2 A8 f0],U [.arr 201 1 4 (regs2.map eI)],U [.var 48 [.own 6 0 2 0 (O Reads1),.own 7 0 2 0 (O Puts4),vi 0,vi 0]],U [s5 116 2 A7 Reads1],U [s5 119 2 A8 Puts4]]⟩
def b36(Reads1:E w8)(regs2:E Int)(a8J:Int):Option (n6 s9 Int Unit):=
 (bif decide (a8J<4)then(idx regs2 a8J).bind λy5=>z5 (a8J<4) (((H2 y5 (-1000000) 1000000).bind λin_2=>bif(!in_2)then(a4q Reads1).bind λc4v=>U (n6.ret (s9.mk c4v [] 0 2))else U (n6.nxt (s6 (a8J+1)))))else U (n6.brk ()))
def e1k(list prog d8 f0 Reads1 regs2 Puts4 at_1):LQ V9 (d3n list prog d8 f0 Reads1 regs2 Puts4 at_1) (f4H list prog d8 f0 Reads1 regs2 Puts4 at_1) (λs=>b36 Reads1 regs2 s):=λlc a8J h=>PK<|rg<|l9 0 h (λh=>rg<|D6 h λy5 hy5 h=>z9 h λe7 h=>ob (U1 hy5)<|ob e7<|om ((regs2.map eI).flatten[a8J.toNat]?=U (vi y5)) (c7a (λ_=>rfl) hy5)<|tl (0,{a:=.val (vi y5)})<|rg<|n9 H0 H9 1 h λin_2 h=>l9 2 h (λh=>rg<|cbS a3z b18 2 (λ_=>(by simp[a3z,Q9,Y3,U6,V.simple,vi,A5,eI,A7])) (λ_=>W1 1) h λc4v h=>G6 Reads1 c4v<|fL lc h) (λh=>rg<|(lc.nx h λhI=>om (V.agg ((regs2.map eI).flatten.map (a0F jJ))=.agg (regs2.map eI).flatten) (congrArg V.agg (a9L (λ_=>rfl) _))<|skT [] [0,1,4,5,6,7,161,162] jJ [(161,.agg (regs2.map eI).flatten)] hI))) (λh=>lc.bk h λhI=>sk [] [0,1,4,5,6,7] jJ hI)
def b1O(d8:E w8)(f0:E u9)(Reads1:E w8)(regs2:E Int)(Puts4:E u9)(at_1:Int):Option (n6 s9 ((E Int)×(E w8)×(E u9)×(E w8)×(E u9)×Int) ((E w8)×(E u9)×(E Int)×(E w8)×E u9)):=
 ((u5 (λs:Int=>b36 Reads1 regs2 s) 0).bind λx=>x.go (λr=>U (n6.ret r)) λs=>b6k d8 f0 Reads1 regs2 Puts4 at_1)
def e8j(list prog d8 f0 Reads1)(lc:J2 V9 a92 (b2a list prog)):NL lc (e30 list prog d8 f0 Reads1) (λs=>b1O d8 f0 Reads1 s.1 s.2.1 s.2.2):=λ(regs2,Puts4,at_1) h=>PK<|rg<|om (4*1=4) rfl<|lp (e1k list prog d8 f0 Reads1 regs2 Puts4 at_1) h (λ_ h=>lc.rt h) (f4b list prog d8 f0 Reads1 regs2 Puts4 at_1 lc) λhI=>om (V.agg ((regs2.map eI).flatten.map (a0F [(1,0),(2,0),(3,0),(4,0),(5,0),(6,0),(7,0)]))=.agg (regs2.map eI).flatten) (congrArg V.agg (a9L (λ_=>rfl) _))<|skT [] [0,1,4,5,6,7,161,162] [(1,0),(2,0),(3,0),(4,0),(5,0),(6,0),(7,0)] [(161,.agg (regs2.map eI).flatten)] hI
def a36(list:E t7)(prog:E t8)(regs:E Int)(d8:E w8)(f0:E u9)(Reads1:E w8)(Puts1:E u9)(at_:Int):Option (n6 s9 ((E Int)×(E w8)×(E u9)×(E w8)×(E u9)×Int) ((E w8)×(E u9)×(E Int)×(E w8)×E u9)):=
 (bif decide (at_<(O prog:Int))then(idx prog at_).bind λins=>bif(ins.b7==1)then(b54 (s9.mk Reads1 Puts1 0 0) ins.B).bind λa0A=>bif decide (a0A>=0)then(idx Puts1 a0A).bind λput1=>(idx regs ins.A).bind λy1=>z5 (ins.A<4) (((u5 (λs:Int=>b6J regs Reads1 ins put1 s) 0).bind λx=>x.go (λr=>U (n6.ret r)) λs=>c7H regs d8 f0 Reads1 Puts1 at_ ins put1))else(((b37 (s9.mk Reads1 Puts1 0 0) ins.B).bind λd3h=>bif decide (d3h<0)then(idx list ins.B).bind λa0j=>z5 (((O Reads1)+1)*16<=140737488355328) (U (r9.brk (Reads1++[w8.mk ins.B a0j.l8])))else U (r9.brk Reads1)):Option (r9 (n6 s9 ((E Int)×(E w8)×(E u9)×(E w8)×(E u9)×Int) ((E w8)×(E u9)×(E Int)×(E w8)×E u9)) (E w8))).bind λx=>x.go U λj=>c1E list regs d8 f0 Puts1 at_ ins j else((bif(ins.b7==2)then(b54 (s9.mk Reads1 Puts1 0 0) ins.A).bind λb06=>bif decide (b06>=0)then(idx regs ins.B).bind λy6=>z5 (ins.B<4) (((idx Puts1 b06).bind λput2=>U (r9.brk (regs,Puts1.set b06.toNat (u9.mk put2.j7 y6),at_))))else(idx regs ins.B).bind λy7=>z5 (ins.B<4) (z5 (((O Puts1)+1)*16<=140737488355328) (U (r9.brk (regs,Puts1++[u9.mk ins.A y7],at_))))else bif(ins.b7==3)then(idx regs ins.A).bind λy8=>z5 (ins.A<4) (U (r9.brk (regs.set ins.A.toNat ins.N,Puts1,at_)))else bif(ins.b7==4)then(idx regs ins.A).bind λy9=>z5 (ins.A<4) (((idx regs ins.B).bind λy10=>z5 (ins.B<4) (z5 (ins.A<4) (U (r9.brk (regs.set ins.A.toNat (s6 (y9+y10)),Puts1,at_))))))else bif(ins.b7==5)then(idx regs ins.A).bind λy11=>z5 (ins.A<4) (((idx regs ins.B).bind λy12=>z5 (ins.B<4) (z5 (ins.A<4) (U (r9.brk (regs.set ins.A.toNat (s6 (y11-y12)),Puts1,at_))))))else bif(ins.b7==6)then(idx regs ins.A).bind λy13=>z5 (ins.A<4) (((idx regs ins.B).bind λy14=>z5 (ins.B<4) (bif decide (y13<y14)then U (r9.brk (regs,Puts1,s6 (at_+ins.N)))else U (r9.brk (regs,Puts1,at_)))))else bif(ins.b7==7)then(a4q Reads1).bind λc48=>U (r9.ret (n6.ret (s9.mk c48 [] 0 1)))else U (r9.brk (regs,Puts1,at_))):Option (r9 (n6 s9 ((E Int)×(E w8)×(E u9)×(E w8)×(E u9)×Int) ((E w8)×(E u9)×(E Int)×(E w8)×E u9)) ((E Int)×(E u9)×Int))).bind λx=>x.go U λj=>b1O d8 f0 Reads1 j.1 j.2.1 j.2.2 else U (n6.brk (d8,f0,regs,Reads1,Puts1)))
set_option maxRecDepth 20000 in
def e3R(list prog):LQ V9 a92 (b2a list prog) (λs=>a36 list prog s.1 s.2.1 s.2.2.1 s.2.2.2.1 s.2.2.2.2.1 s.2.2.2.2.2):=λlc (regs,d8,f0,Reads1,Puts1,at_) h=>PK<|rg<|l9 3 h (λh=>rg<|A3 C2 2 h λins hins h=>t5<|l9 1 h (λh=>rg<|X9 a7E c87 3 2 h λa0A h=>G6 Reads1 Puts1<|rg<|l9 1 h (λh=>rg<|D6 h λput1 b4I h=>E2 b4I<|M4 A8 7 b4I<|D6 h λy1 hy1 h=>z9 h λe2 h=>ob (U1 hy1)<|ob e2<|om (x8.arr 201 1 4 ((regs.map eI).set (ins.A.toNat) [vi put1.i8])=x8.arr 201 1 4 ((regs.set ins.A.toNat put1.i8).map eI)) (a99 rfl)<|ob (a0i (enc:=eI) hy1)<|tl (9,{a:=.rowck (eI y1) [],e:=U (.arr 201 1 4 ((regs.set ins.A.toNat put1.i8).map eI))})<|rg<|om (4*1=4) rfl<|lp (g0x list prog regs d8 f0 Reads1 Puts1 at_ ins put1) h (λ_ h=>lc.rt h) (e3A list prog regs d8 f0 Reads1 Puts1 at_ ins put1 lc) λhI=>om (V.agg (((regs.set ins.A.toNat put1.i8).map eI).flatten.map (a0F jW))=.agg ((regs.set ins.A.toNat put1.i8).map eI).flatten) (congrArg V.agg (a9L (λ_=>rfl) _))<|skT [] [0,1,4,5,6,7,161,162] jW [(161,.agg ((regs.set ins.A.toNat put1.i8).map eI).flatten)] hI) (λh=>D5 h (e2t list prog regs d8 f0 Puts1 at_ ins lc) λx2 h hc2=>rg<|X9 a83 g0p 3 2 h λd3h h=>G6 Reads1 Puts1<|l9 4 h (λh=>rg<|A3 B9 7 h λa0j b0L h=>tk 11 []<|z9 h λe6 h=>J4 12 46 116 2 16 A7 Reads1 (w8.mk ins.B a0j.l8) e6<|I2 (w8.mk ins.B a0j.l8)<|(u6 h hc2 λhI=>sk [] [0,1,4,5,6,7,8] [(1,0),(4,0),(5,0),(2,0),(3,0),(46,0),(7,0),(16,0)] hI)) (λh=>u6 h hc2 λhI=>sk [] [0,1,4,5,6,7,8] [(1,0),(4,0),(5,0),(2,0),(3,0),(6,0),(7,0),(16,0)] hI))) (λh=>D5 h (e8j list prog d8 f0 Reads1 lc) λx2 h hc2=>rg<|l9 1 h (λh=>rg<|X9 a7E c87 3 2 h λb06 h=>G6 Reads1 Puts1<|rg<|l9 1 h (λh=>rg<|D6 h λy6 hy6 h=>z9 h λe8 h=>ob (U1 hy6)<|ob e8<|ob (a0i (enc:=eI) hy6)<|tl (tr 6 (eI y6))<|D6 h λput2 d5A h=>E2 d5A<|W3 119 2 A8 9 [] (u9.mk put2.j7 y6) d5A<|(u6 h hc2 λhI=>om ((.own 7 0 2 0 (O Puts1):V)=.own 7 0 2 0 (Puts1.set b06.toNat (u9.mk put2.j7 y6)).length) (by simp)<|sk [.is (.cell 3 0 1) (.own 7 0 2 0 (Puts1.set b06.toNat (u9.mk put2.j7 y6)).length)] [0,1,4,5,6,7] jW hI)) (λh=>rg<|D6 h λy7 hy7 h=>z9 h λe9 h=>ob (U1 hy7)<|ob e9<|ob (a0i (enc:=eI) hy7)<|tl (tr 7 (eI y7))<|tk 9 []<|z9 h λe10 h=>J4 10 41 119 2 16 A8 Puts1 (u9.mk ins.A y7) e10<|I2 (u9.mk ins.A y7)<|(u6 h hc2 λhI=>sk [] [0,1,4,5,6,7] [(1,0),(4,0),(5,0),(2,0),(3,0),(6,0),(41,0)] hI))) (λh=>rg<|l9 1 h (λh=>rg<|D6 h λy8 hy8 h=>z9 h λe11 h=>ob (U1 hy8)<|ob e11<|om (x8.arr 201 1 4 ((regs.map eI).set (ins.A.toNat) [vi ins.N])=x8.arr 201 1 4 ((regs.set ins.A.toNat ins.N).map eI)) (a99 rfl)<|ob (a0i (enc:=eI) hy8)<|tl (5,{a:=.rowck (eI y8) [],e:=U (.arr 201 1 4 ((regs.set ins.A.toNat ins.N).map eI))})<|(u6 h hc2 λhI=>sk [] [0,1,4,5,6,7] jW hI)) (λh=>rg<|l9 1 h (λh=>rg<|D6 h λy9 hy9 h=>z9 h λe12 h=>ob (U1 hy9)<|ob e12<|ob (a0i (enc:=eI) hy9)<|tl (tr 3 (eI y9))<|D6 h λy10 d3R h=>z9 h λe13 h=>ob (U1 d3R)<|ob e13<|ob (a0i (enc:=eI) d3R)<|tl (tr 7 (eI y10))<|z9 h λe14 h=>ob (U1 hy9)<|ob e14<|om (x8.arr 201 1 4 ((regs.map eI).set (ins.A.toNat) [vi (s6 (y9+y10))])=x8.arr 201 1 4 ((regs.set ins.A.toNat (s6 (y9+y10))).map eI)) (a99 rfl)<|ob (a0i (enc:=eI) hy9)<|tl (10,{a:=.rowck (eI y9) [],e:=U (.arr 201 1 4 ((regs.set ins.A.toNat (s6 (y9+y10))).map eI))})<|(u6 h hc2 λhI=>sk [] [0,1,4,5,6,7] jW hI)) (λh=>rg<|l9 1 h (λh=>rg<|D6 h λy11 c0I h=>z9 h λe15 h=>ob (U1 c0I)<|ob e15<|ob (a0i (enc:=eI) c0I)<|tl (tr 3 (eI y11))<|D6 h λy12 d1W h=>z9 h λe16 h=>ob (U1 d1W)<|ob e16<|ob (a0i (enc:=eI) d1W)<|tl (tr 7 (eI y12))<|z9 h λe17 h=>ob (U1 c0I)<|ob e17<|om (x8.arr 201 1 4 ((regs.map eI).set (ins.A.toNat) [vi (s6 (y11-y12))])=x8.arr 201 1 4 ((regs.set ins.A.toNat (s6 (y11-y12))).map eI)) (a99 rfl)<|ob (a0i (enc:=eI) c0I)<|tl (10,{a:=.rowck (eI y11) [],e:=U (.arr 201 1 4 ((regs.set ins.A.toNat (s6 (y11-y12))).map eI))})<|(u6 h hc2 λhI=>sk [] [0,1,4,5,6,7] jW hI)) (λh=>rg<|l9 1 h (λh=>rg<|D6 h λy13 d8b h=>z9 h λe18 h=>ob (U1 d8b)<|ob e18<|ob (a0i (enc:=eI) d8b)<|tl (tr 3 (eI y13))<|D6 h λy14 d2g h=>z9 h λe19 h=>ob (U1 d2g)<|ob e19<|ob (a0i (enc:=eI) d2g)<|tl (tr 7 (eI y14))<|l9 8 h (λh=>rg<|(u6 h hc2 λhI=>sk [] [0,1,4,5,6,7] jW hI)) (λh=>u6 h hc2 λhI=>sk [] [0,1,4,5,6,7] jW hI)) (λh=>rg<|l9 1 h (λh=>rg<|cbS a3z b18 2 (λ_=>(by simp[a3z,Q9,Y3,U6,V.simple,vi,A5,eI,A7])) (λ_=>W1 1) h λc48 h=>z0 Reads1<|(E3 h hc2 λh=>z0 c48<|fL lc h)) (λh=>u6 h hc2 λhI=>sk [] [0,1,4,5,6,7] jW hI)))))))) (λh=>lc.bk h λhI=>sk [] [4,5,6] jW hI)
def b6B(list:E t7)(prog:E t8):Option s9:=
 ((a7v list).bind λa0s=>bif(!a0s)then U (s9.mk [] [] 0 3)else(b0o prog).bind λH8=>bif(!H8)then U (s9.mk [] [] 0 3)else(u5 (λs:(E Int)×(E w8)×(E u9)×(E w8)×(E u9)×Int=>a36 list prog s.1 s.2.1 s.2.2.1 s.2.2.2.1 s.2.2.2.2.1 s.2.2.2.2.2) (g00 4 (0:Int),[],[],[],[],0)).bind λx=>x.go (λr=>U r) λs=>b4Y s.1 s.2.1 s.2.2.1 s.2.2.2.1 s.2.2.2.2)
def d0E{list prog}:OK V9 [n7 2 B9 list,n7 4 C2 prog] (b6B list prog):=
 t9 _ λr h=>t5<|n9 a4i b5f 1 h λa0s h=>l9 3 h (λh=>rg<|fE h) (λh=>n9 a5n b9U 5 h λH8 h=>l9 7 h (λh=>rg<|fE h) (λh=>rg<|om ((g00 4 ([vi 0]:E V)).flatten=[vi 0,vi 0,vi 0,vi 0]/\([vi 0]:E V).length=1) ⟨rfl,rfl⟩<|t5<|lp (e3R list prog) h (λ_ h=>V9.rt h) (f4G r) λhI=>sk [.own (.cell 1 0 0) 116 2,.own (.cell 1 0 1) 119 2,.own (.cell 12 0 0) 116 2,.own (.cell 12 0 1) 119 2] [0,1,4,5,6,7] [(1,0),(10,0),(12,0),(15,0),(16,0),(17,0),(18,0)] hI))
def a3h:FS (Int):=⟨92,Tryz.f92,[.val [] []],[Z,Z],[.val [U 7] [],.val [] []],λr=>vi r,λ_=>[Z,Z],Tryz.func92⟩
def c3Y:Unit->KS:=λ_=>⟨a3h.k 3 [W],bs 25 [],[U []]⟩
def d5e:Option Int:=
 U (-1)
def e4D(r):NF a3h r c3Y (λs=>d5e):=λ_ h=>PK<|rg<|fE h
def d9R(list:E p9)(q:u0):Int->KS:=λv9=>⟨a3h.k 2 [],bs 3 (.ptr 1 0 0::bs 3 (n7 7 x9 list::(vi (O list:Int)::(vi v9::bs 15 [])))),[U [],U [.var 44 [vi q.i0,vi q.Seq]]]⟩
def e60(list:E p9)(q:u0)(v9:Int):Unit->KS:=λ_=>⟨a3h.k 5 [Y,W],bs 3 (.ptr 1 0 0::bs 3 (n7 7 x9 list::(vi (O list:Int)::(vi v9::bs 15 [])))),[U [],U [.var 44 [vi q.i0,vi q.Seq]]]⟩
def c5E(v9:Int):Option (n6 Int Int Unit):=
 U (n6.nxt (s6 (v9+1)))
def f3Y(list q v9)(lc:J2 a3h c3Y (d9R list q)):NL lc (e60 list q v9) (λs=>c5E v9):=λ_ h=>PK<|rg<|(lc.nx h λhI=>sk [] [3,7,8,9] [(1,0)] hI)
def b2f(list:E p9)(q:u0)(v9:Int):Option (n6 Int Int Unit):=
 (bif decide (v9<(O list:Int))then(idx list v9).bind λentry=>((bif(!entry.j9)then bif(([entry.b6.i0,entry.b6.Seq]:E Int)==[q.i0,q.Seq])then U (r9.ret (n6.ret v9))else U (r9.brk ())else U (r9.brk ())):Option (r9 (n6 Int Int Unit) Unit)).bind λx=>x.go U λj=>c5E v9 else U (n6.brk ()))
def f3s(list q):LQ a3h c3Y (d9R list q) (λs=>b2f list q s):=λlc v9 h=>PK<|rg<|l9 0 h (λh=>rg<|A3 x9 1 h λentry K6 h=>D5 h (f3Y list q v9 lc) λx2 h hc2=>rg<|l9 3 h (λh=>l9 8 h (λh=>rg<|(E3 h hc2 λh=>fL lc h)) (λh=>u6 h hc2 λhI=>sk [] [3,7,8,9] jv hI)) (λh=>u6 h hc2 λhI=>sk [] [3,7,8,9] jv hI)) (λh=>lc.bk h λhI=>sk [] [] [] hI)
def a8m(list:E p9)(q:u0):Option Int:=
 ((u5 (λs:Int=>b2f list q s) 0).bind λx=>x.go (λr=>U r) λs=>d5e)
def b4x{list q}:OK a3h [n7 7 x9 list,.agg (N8 q)] (a8m list q):=
 t9 _ λr h=>t5<|lp (f3s list q) h (λ_ h=>a3h.rt h) (e4D r) λhI=>sk [] [3,7,8,9] jv hI
def c3O:FS (Bool×u7):=⟨203,Tryz.f203,[.val [] []],[U (0,.ptr N1 S6),Z],[.ptr N1 S6,.val [] []],λr=>.b r.1,λr=>[U (.optr 179 (S4 r.2)),Z],Tryz.func203⟩
def b3r(a:u7)(q:u0):Option (Bool×u7):=
 ((a8m a.n.a9 q).bind λfirst=>U (decide (first>=0),a))
def d01{a q}:OK c3O [.optr 179 (S4 a),.agg (N8 q)] (b3r a q):=
 t9 _ λr h=>t5<|X9 a3h b4x 6 2 h λfirst h=>z0 a.n.a9<|G3 a<|fE h
def a1s:FS (p9×Bool×u7):=⟨198,Tryz.f198,[.val Q2 [],.val [] []],[U (0,.ptr N1 S6)],[.ptr N1 S6],λr=>.tup [.agg (x9 r.1),.b r.2.1],λr=>[U (.optr 179 (S4 r.2.2))],Tryz.func198⟩
def f5j(a:u7):Unit->KS:=λ_=>⟨a1s.k 3 [W],.ptr 0 0 0::bs 1 (.ptr 1 0 0::bs 1 (vi (O a.n.a9:Int)::bs 112 [])),[U ([.var 179 (c32 a)]++c7O a),U jK]⟩
def d4Y(a:u7):Unit->KS:=λ_=>⟨a1s.k 5 [W,W],.ptr 0 0 0::bs 1 (.ptr 1 0 0::bs 114 []),[U ([.var 179 (c32 a)]++c7O a),U jK]⟩
def e4T:u7->KS:=λa1=>⟨a1s.k 6 [W,W,W],.ptr 0 0 0::bs 1 (.ptr 6 0 0::bs 114 []),[U [.var 179 (b6A a1),.dead,.dead,.dead,.dead,.dead]]++a4T a1++[U jK]⟩
def d9k:u7->KS:=λw=>⟨a1s.k 7 [W,W,W,W],bs 2 (.ptr 6 0 0::bs 114 []),[U [.var 179 (b6A w),.dead,.dead,.dead,.dead,.dead]]++a4T w++[U jK]⟩
def c9A(w:u7):Option (p9×Bool×u7):=
 U ((p9.mk W (u0.mk 0 0) (s9.mk [] [] 0 0)),W,w)
def e3G(r):NF a1s r d9k (λs=>c9A s):=λw h=>PK<|rg<|G3 w<|fE h
def e42:u7->KS:=λa2=>⟨a1s.k 6 [W,W,W],.ptr 0 0 0::bs 1 (.ptr 6 0 0::bs 114 []),[U [.var 179 (b6A a2),.dead,.dead,.dead,.dead,.dead]]++a4T a2++[U jK]⟩
def a58(a2:u7):Option (n6 (p9×Bool×u7) u7 u7):=
 (bif decide ((O a2.n.i5:Int)>0)then(idx a2.n.i5 0).bind λentry=>z5 ((0:Int)<=1/\1<=(O a2.n.i5:Int)) (((b3r (u7.mk (m4.mk a2.n.Id a2.n.Acc a2.n.a9 a2.n.Seq a2.n.d6 a2.n.b5 a2.n.d7 a2.n.j5 a2.n.g9 a2.n.b8 a2.n.j6 a2.n.j8 a2.n.d9 ((a2.n.i5.drop (1:Int).toNat).take ((O a2.n.i5)-(1:Int).toNat))) a2.out a2.told) entry.b6).bind λb3o=>bif(!b3o.1)then U (n6.ret (entry,Y,b3o.2))else U (n6.nxt b3o.2)))else U (n6.brk a2))
def f2p:LQ a1s d9k e42 (λs=>a58 s):=λlc a2 h=>PK<|rg<|l9 6 h (λh=>rg<|A3 x9 5 h λentry K6 h=>rg<|z9 h λe1 h=>om (V.sl 7 ((O a2.n.i5)-(1:Int).toNat) (((a2.n.i5.map x9).drop (1:Int).toNat).take ((O a2.n.i5)-(1:Int).toNat))=n7 7 x9 ((a2.n.i5.drop (1:Int).toNat).take ((O a2.n.i5)-(1:Int).toNat))) (b5i e1)<|ob e1.1<|ob e1.2<|tl (6,{v:=U (n7 7 x9 ((a2.n.i5.drop (1:Int).toNat).take ((O a2.n.i5)-(1:Int).toNat)))})<|rg<|n9 c3O d01 3 h λb3o h=>G3 a2<|l9 4 h (λh=>rg<|G3 b3o.2<|fL lc h) (λh=>lc.nx h λhI=>sk [] [0,2] [(37,0),(37,1),(37,2),(37,3),(37,4),(6,0)] hI)) (λh=>lc.bk h λhI=>sk [] [2] jz hI)
def b8j(a1:u7):Option (p9×Bool×u7):=
 ((u5 (λs:u7=>a58 s) a1).bind λx=>x.go (λr=>U r) λs=>c9A s)
def f2t(r):NF a1s r e4T (λs=>b8j s):=λa1 h=>PK<|lp (f2p) h (λ_ h=>a1s.rt h) (e3G r) λhI=>sk [] [0,2] jz hI
def c57(a:u7):Option (p9×Bool×u7):=
 (((bif a.n.j6 then(b3r a a.n.d9.b6).bind λb1G=>bif(!b1G.1)then U (r9.ret (b1G.2.n.d9,Y,b1G.2))else U (r9.brk b1G.2)else U (r9.brk a)):Option (r9 (p9×Bool×u7) u7)).bind λx=>x.go U λj=>b8j j)
def e7O(a)(r):NF a1s r (d4Y a) (λs=>c57 a):=λ_ h=>PK<|D5 h (f2t r) λx1 h hc1=>rg<|l9 5 h (λh=>n9 c3O d01 13 h λb1G h=>G3 a<|l9 15 h (λh=>rg<|(E3 h hc1 λh=>G3 b1G.2<|fE h)) (λh=>u6 h hc1 λhI=>sk [] [0,2] [(15,0),(15,1),(15,2),(15,3),(15,4),(1,0)] hI)) (λh=>u6 h hc1 λhI=>sk [] [0,2] [(0,1),(0,2),(0,3),(0,4),(0,5),(1,0)] hI)
def f2c(a:u7):Int->KS:=λi=>⟨a1s.k 4 [W],.ptr 0 0 0::bs 1 (.ptr 1 0 0::bs 2 (vi i::bs 111 [])),[U ([.var 179 (c32 a)]++c7O a),U jK]⟩
def a6T(a:u7)(i:Int):Option (n6 (p9×Bool×u7) Int Unit):=
 (bif decide (i<(O a.n.j5:Int))then(idx a.n.j5 i).bind λvote=>bif(vote.b5 != 0)then U (n6.ret ((p9.mk Y (u0.mk 0 0) (s9.mk [] [] 0 0)),Y,a))else U (n6.nxt (s6 (i+1)))else U (n6.brk ()))
def e4n(a):LQ a1s (d4Y a) (f2c a) (λs=>a6T a s):=λlc i h=>PK<|rg<|l9 7 h (λh=>rg<|A3 w6 6 h λvote N9 h=>l9 9 h (λh=>rg<|G3 a<|fL lc h) (λh=>rg<|(lc.nx h λhI=>sk [] [0,2,5] jv hI))) (λh=>lc.bk h λhI=>sk [] [0,2] jv hI)
def c10(a:u7):Option (p9×Bool×u7):=
 ((u5 (λs:Int=>a6T a s) (s6 ((O a.n.a9:Int)+1))).bind λx=>x.go (λr=>U r) λs=>c57 a)
def e1A(a)(r):NF a1s r (f5j a) (λs=>c10 a):=λ_ h=>PK<|rg<|lp (e4n a) h (λ_ h=>a1s.rt h) (e7O a r) λhI=>sk [] [0,2,5] jv hI
def b8W(a:u7):Option (p9×Bool×u7):=
 (((bif decide ((O a.n.a9:Int)<(O a.n.j5:Int))then(idx a.n.j5 (O a.n.a9:Int)).bind λT9=>bif(T9.b5 != 0)then U (r9.ret (T9.i9,Y,a))else U (r9.brk ())else U (r9.brk ())):Option (r9 (p9×Bool×u7) Unit)).bind λx=>x.go U λj=>c10 a)
def f8l{a}:OK a1s [.optr 179 (S4 a)] (b8W a):=
 t9 _ λr h=>t5<|D5 h (e1A a r) λx1 h hc1=>rg<|l9 8 h (λh=>A3 w6 15 h λT9 a3w h=>l9 19 h (λh=>rg<|P7 w6 6 a3w<|(E3 h hc1 λh=>G3 a<|fE h)) (λh=>u6 h hc1 λhI=>sk [] [0,2,4] jv hI)) (λh=>u6 h hc1 λhI=>sk [] [0,2,4] jv hI)
def d4n:FS (B4×Bool):=⟨160,Tryz.f160,[.val [Z,U 8] [Z,U 121],.val [] []],[Z,Z],[.val [Z,U 8] [],.val [] []],λr=>.tup [.agg [vi r.1.i7,A5 121 8 w6 r.1.b8],.b r.2],λ_=>[Z,Z],Tryz.func160⟩
def c63(a:B4)(bal:Int):Option (B4×Bool):=
 ((b1T a).bind λV0=>bif(!V0)then U ((B4.mk 0 []),W)else(a6u a).bind λX5=>(H2 bal 1 3000).bind λin_=>bif(!in_)then U (X5,W)else bif decide (bal<a.i7)then U (X5,W)else U ((B4.mk bal X5.b8),Y))
def e96{a bal}:OK d4n [.agg (a1h a),vi bal] (c63 a bal):=
 t9 _ λr h=>t5<|n9 a52 c4n 1 h λV0 h=>l9 2 h (λh=>rg<|fE h) (λh=>rg<|n9 a9r b2M 1 h λX5 h=>rg<|n9 H0 H9 1 h λin_ h=>l9 3 h (λh=>rg<|z0 X5.b8<|fE h) (λh=>l9 8 h (λh=>rg<|z0 X5.b8<|fE h) (λh=>t5<|z0 X5.b8<|fE h)))
def a8D:FS (B4×Bool):=⟨199,Tryz.f199,[.val [Z,U 8] [],.val [] []],[Z,Z,Z,Z],[.val [Z,U 8] [],.val [] [],.val [] [],.val Q2 []],λr=>.tup [.agg (a1h r.1),.b r.2],λ_=>[Z,Z,Z,Z],Tryz.func199⟩
def d9a(bal:Int)(slot:Int)(e_:p9)(o:B4×Bool):(E s7)->KS:=λa1q=>⟨a8D.k 5 [W,W,W],bs 1 (vi bal::(vi slot::bs 4 (.ptr 1 0 0::(.ptr 2 0 0::bs 1 (.ptr 3 0 0::bs 40 []))))),[U [],U [.var 50 (a4D e_)],U Jy,U [.var 56 [vi o.1.i7,.own 4 0 8 0 (O a1q)]],U [s5 121 8 w6 a1q]]⟩
def c5f(bal:Int)(slot:Int)(e_:p9)(o:B4×Bool)(a1q:E s7):Option (B4×Bool):=
 ((idx a1q slot).bind λvote=>(a6u (B4.mk o.1.i7 (a1q.set slot.toNat (s7.mk bal e_)))).bind λc3R=>U (c3R,Y))
def f3w(bal slot e_ o)(r):NF a8D r (d9a bal slot e_ o) (λs=>c5f bal slot e_ o s):=λa1q h=>PK<|rg<|D6 h λvote N9 h=>E2 N9<|W3 121 8 w6 7 a0p (s7.mk bal e_) N9<|rg<|n9 a9r b2M 1 h λc3R h=>om ((O a1q)=(a1q.set slot.toNat (s7.mk bal e_)).length) (by simp)<|z0 c3R.b8<|fE h
def f2W(bal:Int)(slot:Int)(e_:p9)(o:B4×Bool):(E s7)->KS:=λb8=>⟨a8D.k 4 [W,W],bs 1 (vi bal::(vi slot::bs 4 (.ptr 1 0 0::(.ptr 2 0 0::bs 1 (.ptr 3 0 0::bs 40 []))))),[U [],U [.var 50 (a4D e_)],U Jy,U [.var 56 [vi o.1.i7,.own 4 0 8 0 (O b8)]],U [s5 121 8 w6 b8]]⟩
def a9W(slot:Int)(b8:E s7):Option (n6 (B4×Bool) (E s7) (E s7)):=
 (bif decide ((O b8:Int)<=slot)then z5 (((O b8)+1)*96<=140737488355328) (U (n6.nxt (b8++[s7.mk 0 (p9.mk W (u0.mk 0 0) (s9.mk [] [] 0 0))])))else U (n6.brk b8))
def e7L(bal slot e_ o):LQ a8D (d9a bal slot e_ o) (f2W bal slot e_ o) (λs=>a9W slot s):=λlc b8 h=>PK<|rg<|l9 4 h (λh=>rg<|tk 3 a0p<|z9 h λe1 h=>J4 4 14 121 8 96 w6 b8 W_ e1<|I2 W_<|(lc.nx h λhI=>sk [] [1,2,7,8,10] Wz hI)) (λh=>lc.bk h λhI=>sk [] [1,2,7,8,10] WK hI)
def b51(a:B4)(bal:Int)(slot:Int)(e_:p9):Option (B4×Bool):=
 ((c63 a bal).bind λo=>bif(!o.2)then U (o.1,W)else(H2 slot 0 39).bind λin_=>bif(!in_)then(a6u a).bind λX5=>U (X5,W)else(a2T e_).bind λI0=>bif(!I0)then(a6u a).bind λc7e=>U (c7e,W)else(u5 (λs:E s7=>a9W slot s) o.1.b8).bind λx=>x.go (λr=>U r) λs=>c5f bal slot e_ o s)
def d8S{a bal slot e_}:OK a8D [.agg (a1h a),vi bal,vi slot,.agg (x9 e_)] (b51 a bal slot e_):=
 t9 _ λr h=>t5<|n9 d4n e96 2 h λo h=>rg<|l9 1 h (λh=>rg<|z0 o.1.b8<|fE h) (λh=>rg<|n9 H0 H9 1 h λin_ h=>l9 3 h (λh=>rg<|n9 a9r b2M 1 h λX5 h=>z0 X5.b8<|fE h) (λh=>n9 a4j a5l 5 h λI0 h=>l9 7 h (λh=>rg<|n9 a9r b2M 1 h λc7e h=>z0 c7e.b8<|fE h) (λh=>lp (e7L bal slot e_ o) h (λ_ h=>a8D.rt h) (f3w bal slot e_ o r) λhI=>sk [] [1,2,7,8,10] [(2,0),(3,0),(11,0),(7,0)] hI)))
def b62:FS (u7):=⟨159,Tryz.f159,[],[U (0,.ptr N1 S6)],[.ptr N1 S6],λ_=>.tup [],λr=>[U (.optr 179 (S4 r))],Tryz.func159⟩
def b6m(a:u7):Option u7:=
 U (u7.mk (m4.mk a.n.Id a.n.Acc a.n.a9 a.n.Seq 0 0 [] [] (p9.mk W (u0.mk 0 0) (s9.mk [] [] 0 0)) [] a.n.j6 a.n.j8 a.n.d9 a.n.i5) a.out a.told)
def c5R{a}:OK b62 [.optr 179 (S4 a)] (b6m a):=
 t9 _ λr h=>rg4<|t5<|ol3 a.n.a9 a.out a.told<|fE h
def c6w:FS ((E Bool)×u7):=⟨161,Tryz.f161,[.val [U 1] [U 4]],[U (0,.ptr N1 S6)],[.ptr N1 S6],λr=>A5 4 1 eB r.1,λr=>[U (.optr 179 (S4 r.2))],Tryz.func161⟩
def b5O(a:u7):Option ((E Bool)×u7):=
 (z5 (0<=(3:Int)/\(3:Int)*1<=140737488355328) (((idx (g00 (3:Int).toNat W) a.n.Id).bind λy=>U ((g00 (3:Int).toNat W).set a.n.Id.toNat Y,a))))
def d5z{a}:OK c6w [.optr 179 (S4 a)] (b5O a):=
 t9 _ λr h=>t5<|z9 h λe1 h=>Z0 0 2 4 1 1 eB W ti4 (.none) e1 (by decide) (by rfl)<|rg<|D6 h λy hy h=>E2 hy<|W3 4 1 eB 7 [] Y hy<|rg<|om ((g00 (3:Int).toNat W).length=((g00 (3:Int).toNat W).set a.n.Id.toNat Y).length) (by simp)<|G3 a<|fE h
def a8C:FS (u7):=⟨169,Tryz.f169,[],[U (0,.ptr N1 S6),Z,Z],[.ptr N1 S6,.val [] [],.val E5 []],λ_=>.tup [],λr=>[U (.optr 179 (S4 r)),Z,Z],Tryz.func169⟩
def a5C(a:u7)(to:Int)(m:m9):Option u7:=
 (z5 (((O a.out)+1)*152<=140737488355328) (U (u7.mk a.n (a.out++[m9.mk m.b7 a.n.Id to m.b5 m.i6 m.i9 m.b8]) a.told)))
def b0x{a to m}:OK a8C [.optr 179 (S4 a),vi to,.agg (x7 m)] (a5C a to m):=
 t9 _ λr h=>rg4<|tk 6 E5<|z9 h λe1 h=>J4 7 19 70 13 152 x7 a.out (m9.mk m.b7 a.n.Id to m.b5 m.i6 m.i9 m.b8) e1<|I2 (m9.mk m.b7 a.n.Id to m.b5 m.i6 m.i9 m.b8)<|L0 a.n.a9 a.n.d7 a.n.b8 (a.out++[m9.mk m.b7 a.n.Id to m.b5 m.i6 m.i9 m.b8])<|z0 a.told<|fE h
def a2R:FS (u7):=⟨157,Tryz.f157,[],[U (0,.ptr N1 S6),Z],[.ptr N1 S6,.val E5 []],λ_=>.tup [],λr=>[U (.optr 179 (S4 r)),Z],Tryz.func157⟩
def e0u(m:m9):(Int×u7)->KS:=λ(to,a1)=>⟨a2R.k 2 [],.ptr 0 0 0::bs 2 (.ptr 1 0 0::(vi to::bs 15 [])),[U [.var 179 (f0F a1),.dead,.dead,.dead,.dead,.dead],U [.var 70 (a5Z m)]]++e8o a1⟩
def f2k(m:m9)(to:Int):u7->KS:=λa2=>⟨a2R.k 5 [Y,Y],.ptr 0 0 0::bs 2 (.ptr 6 0 0::(vi to::bs 15 [])),[U [.var 179 (b6A a2),.dead,.dead,.dead,.dead,.dead]]++a4T a2++[U [.var 70 (a5Z m)]]⟩
def c7u(to:Int)(a2:u7):Option (n6 u7 (Int×u7) Unit):=
 U (n6.nxt (s6 (to+1),a2))
def f2E(m to)(lc:J2 a2R noK (e0u m)):NL lc (f2k m to) (λs=>c7u to s):=λa2 h=>PK<|rg<|(lc.nx h λhI=>sk [] [0,3,4] [(6,0),(5,0),(4,0),(3,0),(2,0),(1,0)] hI)
def a5Q(m:m9)(to:Int)(a1:u7):Option (n6 u7 (Int×u7) Unit):=
 (bif decide (to<3)then((bif(to != a1.n.Id)then(a5C a1 to m).bind λa1m=>U (r9.brk a1m)else U (r9.brk a1)):Option (r9 (n6 u7 (Int×u7) Unit) u7)).bind λx=>x.go U λj=>c7u to j else U (n6.ret a1))
def e1p(m):LQ a2R noK (e0u m) (λs=>a5Q m s.1 s.2):=λlc (to,a1) h=>PK<|rg<|l9 1 h (λh=>D5 h (f2E m to lc) λx2 h hc2=>rg<|l9 6 h (λh=>rg<|n9 a8C b0x 3 h λa1m h=>G3 a1<|(u6 h hc2 λhI=>sk [] [0,3,4] [(19,0),(19,1),(19,2),(19,3),(19,4),(1,0)] hI)) (λh=>u6 h hc2 λhI=>sk [] [0,3,4] [(6,0),(5,0),(4,0),(3,0),(2,0),(1,0)] hI)) (λh=>G3 a1<|fL lc h)
def a4c(a:u7)(m:m9):Option u7:=
 ((u5 (λs:Int×u7=>a5Q m s.1 s.2) (0,a)).bind λx=>x.go (λr=>U r) λ_=>Z)
def a7I{a m}:OK a2R [.optr 179 (S4 a),.agg (x7 m)] (a4c a m):=
 t9 _ λr h=>t5<|lp (e1p m) h (λ_ h=>a2R.rt h) (λ_ h=>nomatch h) λhI=>sk [] [0,3,4] [(1,0),(0,5),(0,4),(0,3),(0,2),(0,1)] hI
def b23:FS (u7):=⟨156,Tryz.f156,[],[U (0,.ptr N1 S6)],[.ptr N1 S6],λ_=>.tup [],λr=>[U (.optr 179 (S4 r))],Tryz.func156⟩
def a7i(a:u7):Option u7:=
 (bif(a.n.d6 != 2)then U a else bif decide ((O a.n.a9:Int)>=40)then U a else(b8W a).bind λnext=>bif(!next.2.1)then U next.2.2 else(b51 next.2.2.n.Acc next.2.2.n.b5 (O next.2.2.n.a9:Int) next.1).bind λa9u=>bif(!a9u.2)then(b6m next.2.2).bind λfollow=>U follow else(b5O (u7.mk (m4.mk next.2.2.n.Id a9u.1 next.2.2.n.a9 next.2.2.n.Seq next.2.2.n.d6 next.2.2.n.b5 next.2.2.n.d7 next.2.2.n.j5 next.1 next.2.2.n.b8 next.2.2.n.j6 next.2.2.n.j8 next.2.2.n.d9 next.2.2.n.i5) next.2.2.out next.2.2.told)).bind λI3=>(a4c (u7.mk (m4.mk I3.2.n.Id I3.2.n.Acc I3.2.n.a9 I3.2.n.Seq 3 I3.2.n.b5 I3.2.n.d7 I3.2.n.j5 I3.2.n.g9 I3.1 I3.2.n.j6 I3.2.n.j8 I3.2.n.d9 I3.2.n.i5) I3.2.out I3.2.told) (m9.mk 3 0 0 I3.2.n.b5 (O I3.2.n.a9:Int) next.1 [])).bind λall=>U all)
def b5G{a}:OK b23 [.optr 179 (S4 a)] (a7i a):=
 t9 _ λr h=>rg<|l9 6 h (λh=>G3 a<|fE h) (λh=>l9 14 h (λh=>G3 a<|fE h) (λh=>rg<|n9 a1s f8l 1 h λnext h=>G3 a<|rg<|l9 1 h (λh=>G3 next.2.2<|fE h) (λh=>rg<|n9 a8D d8S 17 h λa9u h=>rg<|l9 1 h (λh=>rg<|n9 b62 c5R 1 h λfollow h=>G3 next.2.2<|G3 follow<|fE h) (λh=>T1<|n9 c6w d5z 2 h λI3 h=>G3 next.2.2<|t5<|n9 a2R a7I 14 h λall h=>L0 I3.2.n.a9 I3.2.n.d7 I3.1 I3.2.out<|z0 I3.2.told<|G3 all<|fE h))))
def b8U:FS (m4×(E m9)×E s8):=⟨105,Tryz.f105,[.val D1 [],.val [U 13] [],.val [U 5] []],[Z,Z],[.val D1 [],.val [U 4] []],λr=>.tup [.agg (B3 r.1),n7 13 x7 r.2.1,n7 5 B6 r.2.2],λ_=>[Z,Z],Tryz.func105⟩
def e5U:u7->KS:=λa=>⟨b8U.k 11 [W,W,Y],bs 4 (.ptr 1 0 0::bs 2 (.ptr 2 0 0::bs 80 [])),[U [],U jk,U [.var 179 (b4b a)]]++a4T a⟩
def c1Y(a:u7):Option (m4×(E m9)×E s8):=
 ((a3t a).bind λb8J=>U (b8J.1,b8J.2.1,b8J.2.2.1))
def g0w(r):NF b8U r e5U (λs=>c1Y s):=λa h=>PK<|rg<|n9 a5A a6A 1 h λb8J h=>G3 a<|fE h
def b7T(n:m4)(prog:E t8):Option (m4×(E m9)×E s8):=
 ((a43 n).bind λH4=>bif(!H4)then U ((m4.mk 0 (B4.mk 0 []) [] 0 0 0 [] [] (p9.mk W (u0.mk 0 0) (s9.mk [] [] 0 0)) [] W [] (p9.mk W (u0.mk 0 0) (s9.mk [] [] 0 0)) []),[],[])else(b0r n).bind λbegin=>bif n.j6 then(a3t begin).bind λa0U=>U (a0U.1,a0U.2.1,a0U.2.2.1)else bif(n.Seq==1000)then(a3t begin).bind λa6C=>U (a6C.1,a6C.2.1,a6C.2.2.1)else(b0o prog).bind λH8=>bif(!H8)then(a3t begin).bind λa50=>U (a50.1,a50.2.1,a50.2.2.1)else(b7h n).bind λb3D=>(b6B b3D.j4 prog).bind λE9=>((bif(n.d6==2)then(a7i (u7.mk (m4.mk begin.n.Id begin.n.Acc begin.n.a9 (s6 (begin.n.Seq+1)) begin.n.d6 begin.n.b5 begin.n.d7 begin.n.j5 begin.n.g9 begin.n.b8 Y prog (p9.mk W (u0.mk n.Id (s6 (begin.n.Seq+1))) E9) begin.n.i5) begin.out begin.told)).bind λa1f=>U (r9.brk a1f)else bif(n.d6==0)then(a4c (u7.mk (m4.mk begin.n.Id begin.n.Acc begin.n.a9 (s6 (begin.n.Seq+1)) begin.n.d6 begin.n.b5 begin.n.d7 begin.n.j5 begin.n.g9 begin.n.b8 Y prog (p9.mk W (u0.mk n.Id (s6 (begin.n.Seq+1))) E9) begin.n.i5) begin.out begin.told) (m9.mk 7 0 0 0 0 (p9.mk W (u0.mk n.Id (s6 (begin.n.Seq+1))) E9) [])).bind λall=>U (r9.brk all)else U (r9.brk (u7.mk (m4.mk begin.n.Id begin.n.Acc begin.n.a9 (s6 (begin.n.Seq+1)) begin.n.d6 begin.n.b5 begin.n.d7 begin.n.j5 begin.n.g9 begin.n.b8 Y prog (p9.mk W (u0.mk n.Id (s6 (begin.n.Seq+1))) E9) begin.n.i5) begin.out begin.told))):Option (r9 (m4×(E m9)×E s8) u7)).bind λx=>x.go U λj=>c1Y j)
def e1P{n prog}:OK b8U [.agg (B3 n),n7 4 C2 prog] (b7T n prog):=
 t9 _ λr h=>t5<|n9 a1W b0u 1 h λH4 h=>l9 2 h (λh=>rg<|fE h) (λh=>rg<|n9 b3w c00 1 h λbegin h=>rg<|l9 2 h (λh=>rg<|n9 a5A a6A 1 h λa0U h=>O6 begin.n<|G6 begin.out begin.told<|fE h) (λh=>l9 7 h (λh=>rg<|n9 a5A a6A 1 h λa6C h=>O6 begin.n<|G6 begin.out begin.told<|fE h) (λh=>n9 a5n b9U 9 h λH8 h=>l9 11 h (λh=>rg<|n9 a5A a6A 1 h λa50 h=>O6 begin.n<|G6 begin.out begin.told<|fE h) (λh=>rg4<|n9 d16 f9E 10 h λb3D h=>n9 V9 d0E 13 h λE9 h=>rg<|D5 h (g0w r) λx1 h hc1=>rg<|l9 1 h (λh=>rg<|n9 b23 b5G 1 h λa1f h=>O6 begin.n<|G6 begin.out begin.told<|(u6 h hc1 λhI=>sk [] [4,7] [(2,0),(9,0),(68,0),(68,1),(68,2),(68,3),(68,4)] hI)) (λh=>rg<|l9 1 h (λh=>rg<|n9 a2R a7I 7 h λall h=>O6 begin.n<|G6 begin.out begin.told<|(u6 h hc1 λhI=>sk [] [4,7] [(2,0),(9,0),(76,0),(76,1),(76,2),(76,3),(76,4)] hI)) (λh=>u6 h hc1 λhI=>z0 begin.n.i5<|sk [.frz (.cell 9 0 26) (Z)] [4,7] [(2,0),(9,0),(9,1),(9,2),(9,3),(9,5),(9,6)] hI))))))
def a0h:FS (m6):=⟨106,Tryz.f106,[.val F4 om2],[Z,Z,Z,Z],[.val F4 om2,.val D1 [],.val [U 13] [],.val [U 5] []],λr=>.agg (a9x r),λ_=>[Z,Z,Z,Z],Tryz.func106⟩
def c6L(w:m6)(n:m4)(told:E s8):(E m9)->KS:=λNet1=>⟨a0h.k 4 [W],bs 3 (n7 5 B6 told::(.ptr 1 0 0::bs 3 (.ptr 3 0 0::bs 45 []))),[U [s5 59 27 B3 (w.b9.set n.Id.toNat n),.dead,s5 72 3 C9 w.i4,s5 66 5 B6 w.Told],U [.var 28 [.own 0 0 27 0 (w.b9.set n.Id.toNat n).length,.own 2 0 13 0 (O Net1),.own 0 2 3 0 (O w.i4),.own 0 3 5 0 (O w.Told)]],U [s5 70 13 x7 Net1],U jq]⟩
def c5k(w:m6)(n:m4)(Net1:E m9):(E s8)->KS:=λTold1=>⟨a0h.k 6 [W,W],bs 4 (.ptr 1 0 0::bs 3 (.ptr 4 0 0::bs 45 [])),[U [s5 59 27 B3 (w.b9.set n.Id.toNat n),.dead,s5 72 3 C9 w.i4,.dead],U [.var 28 [.own 0 0 27 0 (w.b9.set n.Id.toNat n).length,.own 2 0 13 0 (O Net1),.own 0 2 3 0 (O w.i4),.own 3 0 5 0 (O Told1)]],U [s5 70 13 x7 Net1],U [s5 66 5 B6 Told1],U jq]⟩
def c34(w:m6)(n:m4)(Net1:E m9)(Told1:E s8):Option m6:=
 U (m6.mk (w.b9.set n.Id.toNat n) Net1 w.i4 Told1)
def e6Q(w n Net1)(r):NF a0h r (c5k w n Net1) (λs=>c34 w n Net1 s):=λTold1 h=>PK<|rg<|L0 (w.b9.set n.Id.toNat n) Net1 w.i4 Told1<|fE h
def c8I(w:m6)(n:m4)(told:E s8)(Net1:E m9):((E s8)×Int)->KS:=λ(Told,v38)=>⟨a0h.k 5 [W],bs 4 (.ptr 1 0 0::bs 3 (.ptr 3 0 0::bs 27 (n7 5 B6 told::(vi (O told:Int)::(vi v38::bs 15 []))))),[U [s5 59 27 B3 (w.b9.set n.Id.toNat n),.dead,s5 72 3 C9 w.i4,.dead],U [.var 28 [.own 0 0 27 0 (w.b9.set n.Id.toNat n).length,.own 2 0 13 0 (O Net1),.own 0 2 3 0 (O w.i4),.own 4 0 5 0 (O Told)]],U [s5 70 13 x7 Net1],U jq,U [s5 66 5 B6 Told]]⟩
def g0q(w:m6)(n:m4)(told:E s8)(Net1:E m9)(v38:Int):(E s8)->KS:=λTold2=>⟨a0h.k 9 [W,Y,Y],bs 4 (.ptr 1 0 0::bs 3 (.ptr 4 0 0::bs 27 (n7 5 B6 told::(vi (O told:Int)::(vi v38::bs 15 []))))),[U [s5 59 27 B3 (w.b9.set n.Id.toNat n),.dead,s5 72 3 C9 w.i4,.dead],U [.var 28 [.own 0 0 27 0 (w.b9.set n.Id.toNat n).length,.own 2 0 13 0 (O Net1),.own 0 2 3 0 (O w.i4),.own 3 0 5 0 (O Told2)]],U [s5 70 13 x7 Net1],U [s5 66 5 B6 Told2],U jq]⟩
def c0F(v38:Int)(Told2:E s8):Option (n6 m6 ((E s8)×Int) (E s8)):=
 U (n6.nxt (Told2,s6 (v38+1)))
def f6p(w n told Net1 v38)(lc:J2 a0h (c5k w n Net1) (c8I w n told Net1)):NL lc (g0q w n told Net1 v38) (λs=>c0F v38 s):=λTold2 h=>PK<|rg<|(lc.nx h λhI=>sk [] [4,8,36,37,38] [(1,0),(2,0),(4,0),(3,0)] hI)
def a5N(told:E s8)(Told:E s8)(v38:Int):Option (n6 m6 ((E s8)×Int) (E s8)):=
 (bif decide (v38<(O told:Int))then(idx told v38).bind λa4g=>((bif decide ((O Told:Int)<60)then z5 (((O Told)+1)*40<=140737488355328) (U (r9.brk (Told++[a4g])))else U (r9.brk Told)):Option (r9 (n6 m6 ((E s8)×Int) (E s8)) (E s8))).bind λx=>x.go U λj=>c0F v38 j else U (n6.brk Told))
def e9d(w n told Net1):LQ a0h (c5k w n Net1) (c8I w n told Net1) (λs=>a5N told s.1 s.2):=λlc (Told,v38) h=>PK<|rg<|l9 0 h (λh=>rg<|A3 B6 0 h λa4g f2M h=>D5 h (f6p w n told Net1 v38 lc) λx2 h hc2=>rg<|l9 3 h (λh=>rg<|tk 3 []<|z9 h λe1 h=>J4 4 18 66 5 40 B6 Told a4g e1<|I2 a4g<|(u6 h hc2 λhI=>sk [] [4,8,36,37,38] [(1,0),(2,0),(18,0),(3,0)] hI)) (λh=>u6 h hc2 λhI=>sk [] [4,8,36,37,38] WX hI)) (λh=>lc.bk h λhI=>sk [] [4,8] WX hI)
def c7c(w:m6)(n:m4)(told:E s8)(Net1:E m9):Option m6:=
 ((u5 (λs:(E s8)×Int=>a5N told s.1 s.2) (w.Told,0)).bind λx=>x.go (λr=>U r) λs=>c34 w n Net1 s)
def e8w(w n told)(r):NF a0h r (c6L w n told) (λs=>c7c w n told s):=λNet1 h=>PK<|rg<|lp (e9d w n told Net1) h (λ_ h=>a0h.rt h) (e6Q w n Net1 r) λhI=>sk [] [4,8,36,37,38] [(1,0),(2,0),(3,0),(0,3)] hI
def c8S(w:m6)(n:m4)(list:E m9)(told:E s8):((E m9)×Int)->KS:=λ(c9,v21)=>⟨a0h.k 3 [],bs 3 (n7 5 B6 told::(.ptr 1 0 0::bs 3 (.ptr 2 0 0::bs 10 (n7 13 x7 list::(vi (O list:Int)::(vi v21::bs 32 [])))))),[U [s5 59 27 B3 (w.b9.set n.Id.toNat n),.dead,s5 72 3 C9 w.i4,s5 66 5 B6 w.Told],U [.var 28 [.own 0 0 27 0 (w.b9.set n.Id.toNat n).length,.own 3 0 13 0 (O c9),.own 0 2 3 0 (O w.i4),.own 0 3 5 0 (O w.Told)]],U jq,U [s5 70 13 x7 c9]]⟩
def e4Y(w:m6)(n:m4)(list:E m9)(told:E s8)(v21:Int):(E m9)->KS:=λNet2=>⟨a0h.k 7 [Y,Y],bs 3 (n7 5 B6 told::(.ptr 1 0 0::bs 3 (.ptr 3 0 0::bs 10 (n7 13 x7 list::(vi (O list:Int)::(vi v21::bs 32 [])))))),[U [s5 59 27 B3 (w.b9.set n.Id.toNat n),.dead,s5 72 3 C9 w.i4,s5 66 5 B6 w.Told],U [.var 28 [.own 0 0 27 0 (w.b9.set n.Id.toNat n).length,.own 2 0 13 0 (O Net2),.own 0 2 3 0 (O w.i4),.own 0 3 5 0 (O w.Told)]],U [s5 70 13 x7 Net2],U jq]⟩
def b8D(v21:Int)(Net2:E m9):Option (n6 m6 ((E m9)×Int) (E m9)):=
 U (n6.nxt (Net2,s6 (v21+1)))
def e4L(w n list told v21)(lc:J2 a0h (c6L w n told) (c8S w n list told)):NL lc (e4Y w n list told v21) (λs=>b8D v21 s):=λNet2 h=>PK<|rg<|(lc.nx h λhI=>sk [] [3,4,8,19,20,21] [(1,0),(3,0),(2,0)] hI)
def a5a(list:E m9)(c9:E m9)(v21:Int):Option (n6 m6 ((E m9)×Int) (E m9)):=
 (bif decide (v21<(O list:Int))then(idx list v21).bind λmsg=>((bif decide ((O c9:Int)<40)then z5 (((O c9)+1)*152<=140737488355328) (U (r9.brk (c9++[msg])))else U (r9.brk c9)):Option (r9 (n6 m6 ((E m9)×Int) (E m9)) (E m9))).bind λx=>x.go U λj=>b8D v21 j else U (n6.brk c9))
def f4M(w n list told):LQ a0h (c6L w n told) (c8S w n list told) (λs=>a5a list s.1 s.2):=λlc (c9,v21) h=>PK<|rg<|l9 0 h (λh=>rg<|A3 x7 0 h λmsg hmsg h=>D5 h (e4L w n list told v21 lc) λx2 h hc2=>rg<|l9 3 h (λh=>rg<|tk 3 E5<|z9 h λe2 h=>J4 4 17 70 13 152 x7 c9 msg e2<|I2 msg<|(u6 h hc2 λhI=>sk [] [3,4,8,19,20,21] [(1,0),(17,0),(2,0)] hI)) (λh=>u6 h hc2 λhI=>sk [] [3,4,8,19,20,21] Jk hI)) (λh=>lc.bk h λhI=>sk [] [3,4,8] Jk hI)
def a6I(w:m6)(n:m4)(list:E m9)(told:E s8):Option m6:=
 ((idx w.b9 n.Id).bind λnode=>(u5 (λs:(E m9)×Int=>a5a list s.1 s.2) (w.c9,0)).bind λx=>x.go (λr=>U r) λs=>c7c w n told s)
def b1j{w n list told}:OK a0h [.agg (a9x w),.agg (B3 n),n7 13 x7 list,n7 5 B6 told] (a6I w n list told):=
 t9 _ λr h=>t5<|D6 h λnode hnode h=>E2 hnode<|W3 59 27 B3 6 D1 n hnode<|rg<|lp (f4M w n list told) h (λ_ h=>a0h.rt h) (e8w w n told r) λhI=>om ((.own 0 0 27 0 (O w.b9):V)=.own 0 0 27 0 (w.b9.set n.Id.toNat n).length) (by simp)<|sk [.is (.cell 1 0 0) (.own 0 0 27 0 (w.b9.set n.Id.toNat n).length)] [3,4,8,19,20,21] [(1,0),(3,0),(0,1)] hI
def a9f:FS (Int):=⟨158,Tryz.f158,[.val [] []],[Z,Z],[.val [] [],.val [] []],λr=>vi r,λ_=>[Z,Z],Tryz.func158⟩
def d93:Unit->KS:=λ_=>⟨a9f.k 4 [W,W],bs 28 [],[U []]⟩
def d7C:Option Int:=
 U (-1)
def e4Z(r):NF a9f r d93 (λs=>d7C):=λ_ h=>PK<|rg<|fE h
def e6s(who:Int):Int->KS:=λn=>⟨a9f.k 3 [W],bs 1 (vi who::bs 3 (vi n::bs 22 [])),[U []]⟩
def a3L(who:Int)(n:Int):Option (n6 Int Int Unit):=
 (bif decide (n<=3000)then bif decide (n>0)then(b5V n).bind λa7u=>bif(a7u==who)then U (n6.ret n)else U (n6.nxt (s6 (n+1)))else U (n6.brk ())else U (n6.brk ()))
def e7S(who):LQ a9f d93 (e6s who) (λs=>a3L who s):=λlc n h=>PK<|rg<|l9 2 h (λh=>l9 5 h (λh=>rg<|n9 c7V e0n 1 h λa7u h=>l9 3 h (λh=>rg<|fL lc h) (λh=>rg<|(lc.nx h λhI=>sk [] [1,5] [] hI))) (λh=>lc.bk h λhI=>sk [] [] [] hI)) (λh=>lc.bk h λhI=>sk [] [] [] hI)
def c2c(bal:Int)(who:Int):Option Int:=
 (bif decide (bal<0)then U (-1)else(H2 who 0 2).bind λin_=>bif(!in_)then U (-1)else(u5 (λs:Int=>a3L who s) (s6 (bal+1))).bind λx=>x.go (λr=>U r) λs=>d7C)
def f0a{bal who}:OK a9f [vi bal,vi who] (c2c bal who):=
 t9 _ λr h=>t5<|l9 2 h (λh=>rg<|fE h) (λh=>n9 H0 H9 4 h λin_ h=>l9 6 h (λh=>rg<|fE h) (λh=>rg<|lp (e7S who) h (λ_ h=>a9f.rt h) (e4Z r) λhI=>sk [] [1,5] [] hI))
def b9c:FS (B4×Bool):=⟨160,Tryz.f160,[.val [Z,U 8] [],.val [] []],[Z,Z],[.val [Z,U 8] [],.val [] []],λr=>.tup [.agg (a1h r.1),.b r.2],λ_=>[Z,Z],Tryz.func160⟩
def b04(a:B4)(bal:Int):Option (B4×Bool):=
 ((b1T a).bind λV0=>bif(!V0)then U ((B4.mk 0 []),W)else(a6u a).bind λX5=>(H2 bal 1 3000).bind λin_=>bif(!in_)then U (X5,W)else bif decide (bal<a.i7)then U (X5,W)else U ((B4.mk bal X5.b8),Y))
def c8f{a bal}:OK b9c [.agg (a1h a),vi bal] (b04 a bal):=
 t9 _ λr h=>t5<|n9 a52 c4n 1 h λV0 h=>l9 2 h (λh=>rg<|fE h) (λh=>rg<|n9 a9r b2M 1 h λX5 h=>rg<|n9 H0 H9 1 h λin_ h=>l9 3 h (λh=>rg<|z0 X5.b8<|fE h) (λh=>l9 8 h (λh=>rg<|z0 X5.b8<|fE h) (λh=>t5<|z0 X5.b8<|fE h)))
def c0s:FS (m4×E m9):=⟨107,Tryz.f107,[.val D1 [],.val [U 13] []],[Z],[.val D1 []],λr=>.tup [.agg (B3 r.1),n7 13 x7 r.2],λ_=>[Z],Tryz.func107⟩
def e4G:u7->KS:=λa=>⟨c0s.k 12 [W,Y],bs 2 (.ptr 1 0 0::bs 1 (.ptr 2 0 0::bs 74 [])),[U [],U jk,U [.var 179 (b4b a)]]++a4T a⟩
def b3B(a:u7):Option (m4×E m9):=
 ((a3t a).bind λa0U=>U (a0U.1,a0U.2.1))
def e52(r):NF c0s r e4G (λs=>b3B s):=λa h=>PK<|rg<|n9 a5A a6A 1 h λa0U h=>G3 a<|rg<|fE h
def b98(n:m4):Option (m4×E m9):=
 ((a43 n).bind λH4=>bif(!H4)then U ((m4.mk 0 (B4.mk 0 []) [] 0 0 0 [] [] (p9.mk W (u0.mk 0 0) (s9.mk [] [] 0 0)) [] W [] (p9.mk W (u0.mk 0 0) (s9.mk [] [] 0 0)) []),[])else(b0r n).bind λbegin=>(c2c n.Acc.i7 n.Id).bind λa4R=>((bif decide (a4R>=0)then(b6m begin).bind λfollow=>(b04 follow.n.Acc a4R).bind λa0y=>(b5O (u7.mk (m4.mk follow.n.Id a0y.1 follow.n.a9 follow.n.Seq 1 a4R follow.n.d7 follow.n.j5 follow.n.g9 follow.n.b8 follow.n.j6 follow.n.j8 follow.n.d9 follow.n.i5) follow.out follow.told)).bind λI3=>(a4c (u7.mk (m4.mk I3.2.n.Id I3.2.n.Acc I3.2.n.a9 I3.2.n.Seq I3.2.n.d6 I3.2.n.b5 I3.1 I3.2.n.Acc.b8 I3.2.n.g9 I3.2.n.b8 I3.2.n.j6 I3.2.n.j8 I3.2.n.d9 I3.2.n.i5) I3.2.out I3.2.told) (m9.mk 1 0 0 a4R (O n.a9:Int) (p9.mk W (u0.mk 0 0) (s9.mk [] [] 0 0)) [])).bind λall=>U (r9.brk all)else U (r9.brk begin)):Option (r9 (m4×E m9) u7)).bind λx=>x.go U λj=>b3B j)
def e1G{n}:OK c0s [.agg (B3 n)] (b98 n):=
 t9 _ λr h=>t5<|n9 a1W b0u 1 h λH4 h=>l9 2 h (λh=>rg<|fE h) (λh=>rg<|n9 b3w c00 1 h λbegin h=>rg<|n9 a9f f0a 5 h λa4R h=>D5 h (e52 r) λx1 h hc1=>rg<|l9 1 h (λh=>rg<|n9 b62 c5R 1 h λfollow h=>O6 begin.n<|G6 begin.out begin.told<|rg<|n9 b9c c8f 7 h λa0y h=>T1<|n9 c6w d5z 2 h λI3 h=>G3 follow<|t5<|n9 a2R a7I 6 h λall h=>L0 I3.2.n.a9 I3.1 I3.2.n.b8 I3.2.out<|z0 I3.2.told<|(u6 h hc1 λhI=>sk [] [2,4] [(2,0),(8,0),(71,0),(71,1),(71,2),(71,3),(71,4)] hI)) (λh=>u6 h hc1 λhI=>z0 begin.n.i5<|sk [.frz (.cell 8 0 26) (Z)] [2,4] [(2,0),(8,0),(8,1),(8,2),(8,3),(8,5),(8,6)] hI))
def c2s:FS (m4×(E m9)×E s8):=⟨108,Tryz.f108,[.val D1 [],.val [U 13] [],.val [U 5] []],[Z],[.val D1 []],λr=>.tup [.agg (B3 r.1),n7 13 x7 r.2.1,n7 5 B6 r.2.2],λ_=>[Z],Tryz.func108⟩
def f3C:u7->KS:=λa=>⟨c2s.k 7 [W,Y],bs 2 (.ptr 1 0 0::bs 2 (.ptr 2 0 0::bs 55 [])),[U [],U jk,U [.var 179 (b4b a)]]++a4T a⟩
def b8b(a:u7):Option (m4×(E m9)×E s8):=
 ((a3t a).bind λa0U=>U (a0U.1,a0U.2.1,a0U.2.2.1))
def f3S(r):NF c2s r f3C (λs=>b8b s):=λa h=>PK<|rg<|n9 a5A a6A 1 h λa0U h=>G3 a<|fE h
def b9u(n:m4):Option (m4×(E m9)×E s8):=
 ((a43 n).bind λH4=>bif(!H4)then U ((m4.mk 0 (B4.mk 0 []) [] 0 0 0 [] [] (p9.mk W (u0.mk 0 0) (s9.mk [] [] 0 0)) [] W [] (p9.mk W (u0.mk 0 0) (s9.mk [] [] 0 0)) []),[],[])else(b0r n).bind λbegin=>(a4c begin (m9.mk 8 0 0 0 (O n.a9:Int) (p9.mk W (u0.mk 0 0) (s9.mk [] [] 0 0)) [])).bind λall=>((bif(n.d6==1)then(a4c all (m9.mk 1 0 0 n.b5 (O n.a9:Int) (p9.mk W (u0.mk 0 0) (s9.mk [] [] 0 0)) [])).bind λd95=>U (r9.brk d95)else bif(n.d6==2)then(a7i all).bind λa1f=>U (r9.brk a1f)else bif(n.d6==3)then(a4c all (m9.mk 3 0 0 n.b5 (O n.a9:Int) n.g9 [])).bind λd2o=>U (r9.brk d2o)else bif n.j6 then(a4c all (m9.mk 7 0 0 0 0 n.d9 [])).bind λd7Y=>U (r9.brk d7Y)else U (r9.brk all)):Option (r9 (m4×(E m9)×E s8) u7)).bind λx=>x.go U λj=>b8b j)
def f5u{n}:OK c2s [.agg (B3 n)] (b9u n):=
 t9 _ λr h=>t5<|n9 a1W b0u 1 h λH4 h=>l9 2 h (λh=>rg<|fE h) (λh=>rg<|n9 b3w c00 1 h λbegin h=>t5<|n9 a2R a7I 3 h λall h=>O6 begin.n<|G6 begin.out begin.told<|D5 h (f3S r) λx1 h hc1=>rg<|l9 3 h (λh=>rg<|n9 a2R a7I 5 h λd95 h=>G3 all<|(u6 h hc1 λhI=>sk [] [2,5] JK hI)) (λh=>rg<|l9 3 h (λh=>rg<|n9 b23 b5G 1 h λa1f h=>G3 all<|(u6 h hc1 λhI=>sk [] [2,5] JK hI)) (λh=>rg<|l9 3 h (λh=>rg<|n9 a2R a7I 7 h λd2o h=>G3 all<|(u6 h hc1 λhI=>sk [] [2,5] JQ hI)) (λh=>rg<|l9 2 h (λh=>rg<|n9 a2R a7I 4 h λd7Y h=>G3 all<|(u6 h hc1 λhI=>sk [] [2,5] JQ hI)) (λh=>u6 h hc1 λhI=>sk [] [2,5] [(2,0),(9,0),(18,0),(18,1),(18,2),(18,3),(18,4)] hI)))))
def d7y:FS (m4):=⟨109,Tryz.f109,[.val D1 []],[Z],[.val D1 []],λr=>.agg (B3 r),λ_=>[Z],Tryz.func109⟩
def b6Y(n:m4):Option m4:=
 ((a43 n).bind λH4=>bif(!H4)then U (m4.mk 0 (B4.mk 0 []) [] 0 0 0 [] [] (p9.mk W (u0.mk 0 0) (s9.mk [] [] 0 0)) [] W [] (p9.mk W (u0.mk 0 0) (s9.mk [] [] 0 0)) [])else(b0p (m4.mk n.Id n.Acc n.a9 n.Seq 0 0 [] [] (p9.mk W (u0.mk 0 0) (s9.mk [] [] 0 0)) [] W [] (p9.mk W (u0.mk 0 0) (s9.mk [] [] 0 0)) [])).bind λa00=>U a00)
def e6C{n}:OK d7y [.agg (B3 n)] (b6Y n):=
 t9 _ λr h=>t5<|n9 a1W b0u 1 h λH4 h=>l9 2 h (λh=>rg<|fE h) (λh=>rg<|n9 b4R b8V 9 h λa00 h=>O6 a00<|fE h)
def a8S:FS (m6):=⟨52,Tryz.f52,[.val F4 om2],[Z,Z],[.val F4 om2,.val [Z,Z,U 4] []],λr=>.agg (a9x r),λ_=>[Z,Z],Tryz.func52⟩
def f1t:m6->KS:=λw1=>⟨a8S.k 9 [Y,W,Y],bs 2 (.ptr 1 0 0::bs 1 (.ptr 6 0 0::bs 86 [])),[U [.dead,.dead,.dead,.dead],U [.var 28 [.own 2 0 27 0 (O w1.b9),.own 3 0 13 0 (O w1.c9),.own 4 0 3 0 (O w1.i4),.own 5 0 5 0 (O w1.Told)]],U [s5 59 27 B3 w1.b9],U [s5 70 13 x7 w1.c9],U [s5 72 3 C9 w1.i4],U [s5 66 5 B6 w1.Told],U jq]⟩
def c2g(w1:m6):Option m6:=
 U w1
def f9I(r):NF a8S r f1t (λs=>c2g s):=λw1 h=>PK<|rg<|D4 w1<|fE h
def a7D(w:m6)(e_:v6):Option m6:=
 ((idx w.b9 e_.A).bind λnode=>((bif(e_.b7==1)then bif decide ((O w.i4:Int)>=60)then U (r9.ret w)else(b7T node e_.j8).bind λM9=>(a6I w M9.1 M9.2.1 M9.2.2).bind λa4H=>bif(M9.1.Seq != node.Seq)then z5 (((O a4H.i4)+1)*40<=140737488355328) (U (r9.brk (m6.mk a4H.b9 a4H.c9 (a4H.i4++[B2.mk (u0.mk node.Id M9.1.Seq) e_.j8]) a4H.Told)))else U (r9.brk a4H)else bif(e_.b7==5)then(b98 node).bind λa2e=>(a6I w a2e.1 a2e.2 []).bind λb4k=>U (r9.brk b4k)else bif(e_.b7==6)then(b9u node).bind λa1a=>(a6I w a1a.1 a1a.2.1 a1a.2.2).bind λd4L=>U (r9.brk d4L)else bif(e_.b7==7)then(b6Y node).bind λa2Z=>(a6I w a2Z [] []).bind λd8K=>U (r9.brk d8K)else U (r9.brk w)):Option (r9 m6 m6)).bind λx=>x.go U λj=>c2g j)
def c0v{w e_}:OK a8S [.agg (a9x w),.agg (L2 e_)] (a7D w e_):=
 t9 _ λr h=>t5<|D6 h λnode hnode h=>E2 hnode<|M4 B3 5 hnode<|rg<|D5 h (f9I r) λx1 h hc1=>rg<|l9 1 h (λh=>rg<|l9 3 h (λh=>rg<|(E3 h hc1 λh=>D4 w<|fE h)) (λh=>rg<|n9 b8U e1P 3 h λM9 h=>rg<|n9 a0h b1j 4 h λa4H h=>D4 w<|rg<|l9 4 h (λh=>rg<|tk 10 [Z,Z,U 4]<|z9 h λe1 h=>J4 11 54 72 3 40 C9 a4H.i4 (B2.mk (u0.mk node.Id M9.1.Seq) e_.j8) e1<|I2 (B2.mk (u0.mk node.Id M9.1.Seq) e_.j8)<|(u6 h hc1 λhI=>sk [] [2,4] [(1,0),(36,0),(36,1),(54,0),(36,3),(3,0)] hI)) (λh=>u6 h hc1 λhI=>sk [] [2,4] [(1,0),(36,0),(36,1),(36,2),(36,3),(3,0)] hI))) (λh=>rg<|l9 1 h (λh=>rg<|n9 c0s e1G 1 h λa2e h=>rg<|n9 a0h b1j 3 h λb4k h=>D4 w<|(u6 h hc1 λhI=>sk [] [2,4] JZ hI)) (λh=>rg<|l9 1 h (λh=>rg<|n9 c2s f5u 1 h λa1a h=>rg<|n9 a0h b1j 4 h λd4L h=>D4 w<|(u6 h hc1 λhI=>sk [] [2,4] [(1,0),(34,0),(34,1),(34,2),(34,3),(3,0)] hI)) (λh=>rg<|l9 1 h (λh=>rg<|n9 d7y e6C 2 h λa2Z h=>n9 a0h b1j 3 h λd8K h=>D4 w<|(u6 h hc1 λhI=>sk [] [2,4] [(1,0),(25,0),(25,1),(25,2),(25,3),(3,0)] hI)) (λh=>u6 h hc1 λhI=>sk [] [2,4] Wk hI))))
def c3N:FS (E m9):=⟨110,Tryz.f110,[.val [U 13] [U 70]],[Z,Z],[.val [U 13] [],.val [] []],λr=>A5 70 13 x7 r,λ_=>[Z,Z],Tryz.func110⟩
def b6y(list:E m9)(at_:Int):Option (E m9):=
 (z5 ((0:Int)<=at_/\at_<=(O list:Int)) (z5 ((([]:E m9).length+((list.drop 0).take (at_.toNat-0)).length)*152<=140737488355328) (z5 ((0:Int)<=s6 (at_+1)/\s6 (at_+1)<=(O list:Int)) (z5 (((([]:E m9)++((list.drop 0).take (at_.toNat-0))).length+((list.drop (s6 (at_+1)).toNat).take ((O list)-(s6 (at_+1)).toNat)).length)*152<=140737488355328) (U ((([]:E m9)++((list.drop 0).take (at_.toNat-0)))++((list.drop (s6 (at_+1)).toNat).take ((O list)-(s6 (at_+1)).toNat))))))))
def e0p{list at_}:OK c3N [n7 13 x7 list,vi at_] (b6y list at_):=
 t9 _ λr h=>t5<|tk 0 E5<|z9 h λe1 h=>om (V.sl 13 (at_.toNat-0) (((list.map x7).drop 0).take (at_.toNat-0))=n7 13 x7 ((list.drop 0).take (at_.toNat-0))) (b87 e1)<|ob e1.1<|ob e1.2<|tl (3,{v:=U (n7 13 x7 ((list.drop 0).take (at_.toNat-0)))})<|z9 h λe2 h=>om (V.own 6 0 13 0 (([]:E m9).length+((list.drop 0).take (at_.toNat-0)).length)=.own 6 0 13 0 (([]:E m9)++((list.drop 0).take (at_.toNat-0))).length) (by first|exact congrArg (V.own 6 0 13 0) g08.symm|simp)<|om (x8.row 70 13 (([]:E m9).length+((list.drop 0).take (at_.toNat-0)).length) (([]:E m9).map x7++((list.drop 0).take (at_.toNat-0)).map x7)=s5 70 13 x7 (([]:E m9)++((list.drop 0).take (at_.toNat-0)))) (by first|exact c5C rfl rfl|simp[s5])<|E7 m9<|ob e2<|tl (4,{v:=U (.own 6 0 13 0 (([]:E m9)++((list.drop 0).take (at_.toNat-0))).length),e:=U (s5 70 13 x7 (([]:E m9)++((list.drop 0).take (at_.toNat-0))))})<|z9 h λe3 h=>om (V.sl 13 ((O list)-(s6 (at_+1)).toNat) (((list.map x7).drop (s6 (at_+1)).toNat).take ((O list)-(s6 (at_+1)).toNat))=n7 13 x7 ((list.drop (s6 (at_+1)).toNat).take ((O list)-(s6 (at_+1)).toNat))) (b5i e3)<|ob e3.1<|ob e3.2<|tl (8,{v:=U (n7 13 x7 ((list.drop (s6 (at_+1)).toNat).take ((O list)-(s6 (at_+1)).toNat)))})<|z9 h λe4 h=>apL 9 11 70 13 152 x7 (([]:E m9)++((list.drop 0).take (at_.toNat-0))) ((list.drop (s6 (at_+1)).toNat).take ((O list)-(s6 (at_+1)).toNat)) e4<|z0 ((([]:E m9)++((list.drop 0).take (at_.toNat-0)))++((list.drop (s6 (at_+1)).toNat).take ((O list)-(s6 (at_+1)).toNat)))<|fE h
def b7C:FS (u7):=⟨167,Tryz.f167,[],[U (0,.ptr N1 S6),Z],[.ptr N1 S6,.val [] []],λ_=>.tup [],λr=>[U (.optr 179 (S4 r)),Z],Tryz.func167⟩
def b1h(a:u7)(bal:Int):Option u7:=
 (bif(a.n.d6 != 0)then bif decide (bal>a.n.b5)then(b6m a).bind λfollow=>U follow else U a else U a)
def c4P{a bal}:OK b7C [.optr 179 (S4 a),vi bal] (b1h a bal):=
 t9 _ λr h=>rg<|l9 6 h (λh=>l9 14 h (λh=>rg<|n9 b62 c5R 1 h λfollow h=>G3 a<|G3 follow<|fE h) (λh=>G3 a<|fE h)) (λh=>G3 a<|fE h)
def b6V:FS (u7):=⟨162,Tryz.f162,[],[U (0,.ptr N1 S6),Z],[.ptr N1 S6,.val E5 []],λ_=>.tup [],λr=>[U (.optr 179 (S4 r)),Z],Tryz.func162⟩
def f7b(m:m9)(yield:u7):(E s7)->KS:=λb7N=>⟨b6V.k 8 [W,Y],.ptr 0 0 0::bs 2 (.ptr 6 0 0::bs 2 (n7 8 w6 b7N::bs 54 [])),[U [.var 179 (b6A yield),.dead,.dead,.dead,.dead,.dead]]++a4T yield++[U [.var 70 (a5Z m)]]⟩
def b7S(m:m9)(yield:u7)(b7N:E s7):Option u7:=
 ((a5C yield m.d7 (m9.mk 2 0 0 m.b5 m.i6 (p9.mk W (u0.mk 0 0) (s9.mk [] [] 0 0)) b7N)).bind λb0M=>U b0M)
def f6c(m yield)(r):NF b6V r (f7b m yield) (λs=>b7S m yield s):=λb7N h=>PK<|rg<|n9 a8C b0x 9 h λb0M h=>G3 yield<|G3 b0M<|fE h
def c1U(a:u7)(m:m9):Option u7:=
 ((b04 a.n.Acc m.b5).bind λa0y=>bif(!a0y.2)then(a5C a m.d7 (m9.mk 6 0 0 a.n.Acc.i7 0 (p9.mk W (u0.mk 0 0) (s9.mk [] [] 0 0)) [])).bind λa1m=>U a1m else(b1h (u7.mk (m4.mk a.n.Id a0y.1 a.n.a9 a.n.Seq a.n.d6 a.n.b5 a.n.d7 a.n.j5 a.n.g9 a.n.b8 a.n.j6 a.n.j8 a.n.d9 a.n.i5) a.out a.told) m.b5).bind λyield=>((bif decide (m.i6<(O a0y.1.b8:Int))then z5 ((0:Int)<=m.i6/\m.i6<=(O a0y.1.b8:Int)) (U (r9.brk ((a0y.1.b8.drop m.i6.toNat).take ((O a0y.1.b8)-m.i6.toNat))))else U (r9.brk [])):Option (r9 u7 (E s7))).bind λx=>x.go U λj=>b7S m yield j)
def f0X{a m}:OK b6V [.optr 179 (S4 a),.agg (x7 m)] (c1U a m):=
 t9 _ λr h=>t5<|n9 b9c c8f 7 h λa0y h=>rg<|l9 1 h (λh=>rg<|n9 a8C b0x 10 h λa1m h=>G3 a<|G3 a1m<|fE h) (λh=>t5<|n9 b7C c4P 3 h λyield h=>G3 a<|rg<|D5 h (f6c m yield r) λx1 h hc1=>rg<|l9 5 h (λh=>rg<|z9 h λe1 h=>om (V.sl 8 ((O a0y.1.b8)-m.i6.toNat) (((a0y.1.b8.map w6).drop m.i6.toNat).take ((O a0y.1.b8)-m.i6.toNat))=n7 8 w6 ((a0y.1.b8.drop m.i6.toNat).take ((O a0y.1.b8)-m.i6.toNat))) (b5i e1)<|ob e1.1<|ob e1.2<|tl (4,{v:=U (n7 8 w6 ((a0y.1.b8.drop m.i6.toNat).take ((O a0y.1.b8)-m.i6.toNat)))})<|(u6 h hc1 λhI=>sk [] [0,3,6] JY hI)) (λh=>u6 h hc1 λhI=>sk [.frz (.tmp 6) (U 8)] [0,3,6] JY hI))
def a4m:FS (E s7):=⟨200,Tryz.f200,[.val [U 8] []],[Z,Z],[.val [U 8] [],.val [U 8] []],λr=>n7 8 w6 r,λ_=>[Z,Z],Tryz.func200⟩
def b79:(E s7)->KS:=λout1=>⟨a4m.k 5 [W,W],bs 5 (.own 1 0 8 0 (O out1)::bs 67 []),[U [],U [s5 121 8 w6 out1]]⟩
def c5A(out1:E s7):Option (E s7):=
 ((b0f out1).bind λa1U=>U a1U)
def f8R(r):NF a4m r b79 (λs=>c5A s):=λout1 h=>PK<|rg<|n9 a5P c2p 1 h λa1U h=>G6 out1 a1U<|fE h
def c8l(a:E s7)(b:E s7):((E s7)×Int)->KS:=λ(out,i)=>⟨a4m.k 4 [W],n7 8 w6 a::(n7 8 w6 b::bs 3 (.own 1 0 8 0 (O out)::(vi i::bs 66 []))),[U [],U [s5 121 8 w6 out]]⟩
def e9J(a:E s7)(b:E s7)(out:E s7)(i:Int):Unit->KS:=λ_=>⟨a4m.k 5 [W,Y],n7 8 w6 a::(n7 8 w6 b::bs 3 (.own 1 0 8 0 (O out)::(vi i::bs 66 []))),[U [],U [s5 121 8 w6 out]]⟩
def e8G(a:E s7)(b:E s7)(i:Int):(E s7)->KS:=λout2=>⟨a4m.k 7 [W,Y,Y],n7 8 w6 a::(n7 8 w6 b::bs 3 (.own 1 0 8 0 (O out2)::(vi i::bs 66 []))),[U [],U [s5 121 8 w6 out2]]⟩
def c8e(i:Int)(out2:E s7):Option (n6 (E s7) ((E s7)×Int) (E s7)):=
 U (n6.nxt (out2,s6 (i+1)))
def f6C(a b i)(lc:J2 a4m b79 (c8l a b)):NL lc (e8G a b i) (λs=>c8e i s):=λout2 h=>PK<|rg<|(lc.nx h λhI=>sk [] [0,1,5,6] [(1,0)] hI)
def c1p(a:E s7)(b:E s7)(out:E s7)(i:Int):Option (n6 (E s7) ((E s7)×Int) (E s7)):=
 (((bif decide (i>=(O a:Int))then(idx b i).bind λvote=>z5 (((O out)+1)*96<=140737488355328) (U (r9.brk (out++[vote])))else bif decide (i>=(O b:Int))then(idx a i).bind λT9=>z5 (((O out)+1)*96<=140737488355328) (U (r9.brk (out++[T9])))else(idx a i).bind λb6w=>(idx b i).bind λb5a=>bif decide (b6w.b5>=b5a.b5)then z5 (((O out)+1)*96<=140737488355328) (U (r9.brk (out++[b6w])))else z5 (((O out)+1)*96<=140737488355328) (U (r9.brk (out++[b5a])))):Option (r9 (n6 (E s7) ((E s7)×Int) (E s7)) (E s7))).bind λx=>x.go U λj=>c8e i j)
def f7V(a b out i)(lc:J2 a4m b79 (c8l a b)):NL lc (e9J a b out i) (λs=>c1p a b out i):=λ_ h=>PK<|D5 h (f6C a b i lc) λx2 h hc2=>rg<|l9 4 h (λh=>rg<|A3 w6 3 h λvote N9 h=>tk 5 a0p<|z9 h λe1 h=>J4 6 13 121 8 96 w6 out vote e1<|I2 vote<|(u6 h hc2 λhI=>sk [] [0,1,5,6] [(13,0)] hI)) (λh=>rg<|l9 4 h (λh=>rg<|A3 w6 3 h λT9 a3w h=>tk 5 a0p<|z9 h λe2 h=>J4 6 31 121 8 96 w6 out T9 e2<|I2 T9<|(u6 h hc2 λhI=>sk [] [0,1,5,6] [(31,0)] hI)) (λh=>A3 w6 7 h λb6w f0r h=>A3 w6 12 h λb5a e1x h=>l9 17 h (λh=>rg<|P7 w6 3 f0r<|tk 5 a0p<|z9 h λe3 h=>J4 6 31 121 8 96 w6 out b6w e3<|I2 b6w<|(u6 h hc2 λhI=>sk [] [0,1,5,6] [(31,0)] hI)) (λh=>rg<|P7 w6 3 e1x<|tk 5 a0p<|z9 h λe4 h=>J4 6 31 121 8 96 w6 out b5a e4<|I2 b5a<|(u6 h hc2 λhI=>sk [] [0,1,5,6] [(31,0)] hI))))
def a7F(a:E s7)(b:E s7)(out:E s7)(i:Int):Option (n6 (E s7) ((E s7)×Int) (E s7)):=
 (((bif decide (i<(O a:Int))then U (r9.brk ())else bif decide (i<(O b:Int))then U (r9.brk ())else U (r9.ret (n6.brk out))):Option (r9 (n6 (E s7) ((E s7)×Int) (E s7)) Unit)).bind λx=>x.go U λj=>c1p a b out i)
def e6Y(a b):LQ a4m b79 (c8l a b) (λs=>a7F a b s.1 s.2):=λlc (out,i) h=>PK<|D5 h (f7V a b out i lc) λx2 h hc2=>rg<|l9 4 h (λh=>u6 h hc2 λhI=>sk [] [0,1,5,6] jv hI) (λh=>l9 9 h (λh=>u6 h hc2 λhI=>sk [] [0,1,5,6] jv hI) (λh=>E3 h hc2 λh=>lc.bk h λhI=>sk [] [5] jv hI))
def b7A(a:E s7)(b:E s7):Option (E s7):=
 ((a7U a).bind λR8=>bif(!R8)then U []else(a7U b).bind λd7i=>bif(!d7i)then U []else(u5 (λs:(E s7)×Int=>a7F a b s.1 s.2) ([],0)).bind λx=>x.go (λr=>U r) λs=>c5A s)
def f8p{a b}:OK a4m [n7 8 w6 a,n7 8 w6 b] (b7A a b):=
 t9 _ λr h=>t5<|n9 a4v b35 1 h λR8 h=>l9 3 h (λh=>rg<|fE h) (λh=>n9 a4v b35 5 h λd7i h=>l9 7 h (λh=>rg<|fE h) (λh=>t5<|lp (e6Y a b) h (λ_ h=>a4m.rt h) (f8R r) λhI=>sk [.own (.tmp 5) 121 8] [0,1,5,6] [(12,0)] hI))
def a47:FS (Int):=⟨201,Tryz.f201,[.val [] []],[Z],[.val [U 1] []],λr=>vi r,λ_=>[Z],Tryz.func201⟩
def c39:Int->KS:=λn1=>⟨a47.k 4 [W],bs 3 (vi n1::bs 13 []),[U []]⟩
def d1f(n1:Int):Option Int:=
 U n1
def e3I(r):NF a47 r c39 (λs=>d1f s):=λn1 h=>PK<|rg<|fE h
def d97(list:E Bool):(Int×Int)->KS:=λ(n,v8)=>⟨a47.k 3 [],bs 3 (vi n::bs 2 (n7 1 eB list::(vi (O list:Int)::(vi v8::bs 8 [])))),[U []]⟩
def e6G(list:E Bool)(v8:Int):Int->KS:=λn2=>⟨a47.k 7 [Y,Y],bs 3 (vi n2::bs 2 (n7 1 eB list::(vi (O list:Int)::(vi v8::bs 8 [])))),[U []]⟩
def c4p(v8:Int)(n2:Int):Option (n6 Int (Int×Int) Int):=
 U (n6.nxt (n2,s6 (v8+1)))
def f5i(list v8)(lc:J2 a47 c39 (d97 list)):NL lc (e6G list v8) (λs=>c4p v8 s):=λn2 h=>PK<|rg<|(lc.nx h λhI=>sk [] [3,6,7,8] [] hI)
def a6o(list:E Bool)(n:Int)(v8:Int):Option (n6 Int (Int×Int) Int):=
 (bif decide (v8<(O list:Int))then(idx list v8).bind λy=>((bif y then U (r9.brk (s6 (n+1)))else U (r9.brk n)):Option (r9 (n6 Int (Int×Int) Int) Int)).bind λx=>x.go U λj=>c4p v8 j else U (n6.brk n))
def f2w(list):LQ a47 c39 (d97 list) (λs=>a6o list s.1 s.2):=λlc (n,v8) h=>PK<|rg<|l9 0 h (λh=>rg<|A3 eB 0 h λy hy h=>D5 h (f5i list v8 lc) λx2 h hc2=>rg<|l9 0 h (λh=>rg<|(u6 h hc2 λhI=>sk [] [3,6,7,8] [] hI)) (λh=>u6 h hc2 λhI=>sk [] [3,6,7,8] [] hI)) (λh=>lc.bk h λhI=>sk [] [3] [] hI)
def b4K(list:E Bool):Option Int:=
 ((u5 (λs:Int×Int=>a6o list s.1 s.2) (0,0)).bind λx=>x.go (λr=>U r) λs=>d1f s)
def d52{list}:OK a47 [n7 1 eB list] (b4K list):=
 t9 _ λr h=>T1<|lp (f2w list) h (λ_ h=>a47.rt h) (e3I r) λhI=>sk [] [3,6,7,8] [] hI
def d1Y:FS (u7):=⟨163,Tryz.f163,[],[U (0,.ptr N1 S6),Z],[.ptr N1 S6,.val E5 []],λ_=>.tup [],λr=>[U (.optr 179 (S4 r)),Z],Tryz.func163⟩
def c1m(a:u7)(m:m9):Option u7:=
 (bif(a.n.d6 != 1)then U a else bif(m.b5 != a.n.b5)then U a else(idx a.n.d7 m.d7).bind λy=>z5 (0<=m.i6/\m.i6*96<=140737488355328) (z5 (((g00 m.i6.toNat (s7.mk 0 (p9.mk W (u0.mk 0 0) (s9.mk [] [] 0 0)))).length+(O m.b8))*96<=140737488355328) (((b7A a.n.j5 ((g00 m.i6.toNat (s7.mk 0 (p9.mk W (u0.mk 0 0) (s9.mk [] [] 0 0))))++m.b8)).bind λc47=>(b4K (a.n.d7.set m.d7.toNat Y)).bind λb5X=>bif decide (b5X>=2)then(a7i (u7.mk (m4.mk a.n.Id a.n.Acc a.n.a9 a.n.Seq 2 a.n.b5 [] c47 a.n.g9 a.n.b8 a.n.j6 a.n.j8 a.n.d9 a.n.i5) a.out a.told)).bind λa1f=>U a1f else U (u7.mk (m4.mk a.n.Id a.n.Acc a.n.a9 a.n.Seq a.n.d6 a.n.b5 (a.n.d7.set m.d7.toNat Y) c47 a.n.g9 a.n.b8 a.n.j6 a.n.j8 a.n.d9 a.n.i5) a.out a.told)))))
def e6N{a m}:OK d1Y [.optr 179 (S4 a),.agg (x7 m)] (c1m a m):=
 t9 _ λr h=>t5<|l9 6 h (λh=>G3 a<|fE h) (λh=>l9 15 h (λh=>G3 a<|fE h) (λh=>rg<|D6 h λy hy h=>E2 hy<|W3 4 1 eB 8 [] Y hy<|rg<|z9 h λe1 h=>Z0 8 35 121 8 96 w6 W_ b3n (.ck a0p) e1 (by decide) (by rfl)<|z9 h λe2 h=>apL 11 38 121 8 96 w6 (g00 m.i6.toNat W_) m.b8 e2<|n9 a4m f8p 12 h λc47 h=>z0 ((g00 m.i6.toNat W_)++m.b8)<|rg<|X9 a47 d52 5 1 h λb5X h=>om ((O a.n.d7)=(a.n.d7.set m.d7.toNat Y).length) (by simp)<|l9 6 h (λh=>T1<|n9 b23 b5G 1 h λa1f h=>L0 a.n.a9 a.n.b8 a.out a.told<|G3 a1f<|fE h) (λh=>z0 a.n.a9<|om ((O a.n.d7)=(a.n.d7.set m.d7.toNat Y).length) (by simp)<|ol3 a.n.b8 a.out a.told<|fE h)))
def d4f:FS (u7):=⟨164,Tryz.f164,[],[U (0,.ptr N1 S6),Z],[.ptr N1 S6,.val E5 []],λ_=>.tup [],λr=>[U (.optr 179 (S4 r)),Z],Tryz.func164⟩
def c1t(a:u7)(m:m9):Option u7:=
 ((b51 a.n.Acc m.b5 m.i6 m.i9).bind λa9u=>bif(!a9u.2)then(a5C a m.d7 (m9.mk 6 0 0 a.n.Acc.i7 0 (p9.mk W (u0.mk 0 0) (s9.mk [] [] 0 0)) [])).bind λa1m=>U a1m else(b1h (u7.mk (m4.mk a.n.Id a9u.1 a.n.a9 a.n.Seq a.n.d6 a.n.b5 a.n.d7 a.n.j5 a.n.g9 a.n.b8 a.n.j6 a.n.j8 a.n.d9 a.n.i5) a.out a.told) m.b5).bind λyield=>(a5C yield m.d7 (m9.mk 4 0 0 m.b5 m.i6 (p9.mk W (u0.mk 0 0) (s9.mk [] [] 0 0)) [])).bind λb0M=>U b0M)
def e7G{a m}:OK d4f [.optr 179 (S4 a),.agg (x7 m)] (c1t a m):=
 t9 _ λr h=>t5<|n9 a8D d8S 11 h λa9u h=>rg<|l9 1 h (λh=>rg<|n9 a8C b0x 10 h λa1m h=>G3 a<|G3 a1m<|fE h) (λh=>t5<|n9 b7C c4P 3 h λyield h=>G3 a<|rg<|n9 a8C b0x 8 h λb0M h=>G3 yield<|G3 b0M<|fE h)
def a32:FS (u7):=⟨202,Tryz.f202,[],[U (0,.ptr N1 S6),Z],[.ptr N1 S6,.val Q2 []],λ_=>.tup [],λr=>[U (.optr 179 (S4 r)),Z],Tryz.func202⟩
def e2w:u7->KS:=λa1=>⟨a32.k 6 [Y],.ptr 0 0 0::bs 123 [],[U ([.var 179 (d2T a1),.dead,s5 4 1 eB a1.n.d7,.dead]++c90 a1)]++c81 a1⟩
def d6S:u7->KS:=λa2=>⟨a32.k 16 [Y,Y,Y],.ptr 0 0 0::bs 123 [],[U [.var 179 (e1R a2),.dead,s5 4 1 eB a2.n.d7,.dead,s5 70 13 x7 a2.out,.dead]]++e7r a2⟩
def b89(a2:u7):Option u7:=
 ((a7i a2).bind λa1f=>U a1f)
def e7b(r):NF a32 r d6S (λs=>b89 s):=λa2 h=>PK<|rg<|n9 b23 b5G 1 h λa1f h=>G3 a2<|G3 a1f<|fE h
def e1Y(a1:u7)(y:Int):Int->KS:=λb1e=>⟨a32.k 12 [Y,Y,Y],.ptr 0 0 0::bs 6 (.ptr 3 0 0::bs 116 []),[U ([.var 179 (d2T a1),.dead,s5 4 1 eB a1.n.d7,.dead]++c90 a1)]++c81 a1++[U [.var 66 [vi a1.n.Id,vi a1.n.d9.b6.i0,vi a1.n.d9.b6.Seq,vi y,vi b1e]]]⟩
def b7n(a1:u7)(y:Int)(b1e:Int):Option (r9 u7 u7):=
 (z5 (((O a1.told)+1)*40<=140737488355328) (U (r9.brk (u7.mk (m4.mk a1.n.Id a1.n.Acc a1.n.a9 a1.n.Seq a1.n.d6 a1.n.b5 a1.n.d7 a1.n.j5 a1.n.g9 a1.n.b8 W [] (p9.mk W (u0.mk 0 0) (s9.mk [] [] 0 0)) a1.n.i5) a1.out (a1.told++[s8.mk a1.n.Id a1.n.d9.b6 y b1e])))))
def f4d(a1 y)(r){x1}(hc1:JC (λj=>FK cx a32.X (a32.R r) (a32.Θ r) (d6S j)) r x1):NG a32 r (e1Y a1 y) (λs=>b7n a1 y s) x1:=λb1e h=>PK<|rg<|tk 6 []<|z9 h λe2 h=>J4 7 11 66 5 40 B6 a1.told (s8.mk a1.n.Id a1.n.d9.b6 y b1e) e2<|I2 (s8.mk a1.n.Id a1.n.d9.b6 y b1e)<|T1<|(u6 h hc1 λhI=>sk [.frz (.cell 0 0 18) (U 4),.frz (.cell 0 0 22) (U 2),.frz (.cell 0 0 23) (U 2)] [0] [(1,0),(2,0),(11,0)] hI)
def c1n(a1:u7):Option u7:=
 ((a8m a1.n.a9 a1.n.d9.b6).bind λfirst=>((bif a1.n.j6 then bif decide (first>=0)then(a9c a1.n.a9).bind λw9=>(idx w9.2 first).bind λy=>((bif(y==0)then(idx a1.n.a9 first).bind λentry=>U (r9.brk entry.g8.i8)else U (r9.brk 0)):Option (r9 (r9 u7 u7) Int)).bind λx=>x.go U λj=>b7n a1 y j else U (r9.brk a1)else U (r9.brk a1)):Option (r9 u7 u7)).bind λx=>x.go U λj=>b89 j)
def e3X(r):NF a32 r e2w (λs=>c1n s):=λa1 h=>PK<|rg<|X9 a3h b4x 11 2 h λfirst h=>z0 a1.n.a9<|D5 h (e7b r) λx1 h hc1=>rg<|l9 5 h (λh=>l9 8 h (λh=>rg<|cbS a4w b66 5 (λ_=>(by simp[a4w,Q9,Y3,U6,V.simple,vi,A5,b4h,B9,E4,eI,N8,a9S])) (λ_=>W1 1) h λw9 h=>z0 a1.n.a9<|rg<|D6 h λy hy h=>E2 hy<|M4 eI 14 hy<|D5 h (f4d a1 y r hc1) λx2 h hc2=>rg<|l9 2 h (λh=>rg<|D6 h λentry K6 h=>E2 K6<|M4 x9 9 K6<|(u6 h hc2 λhI=>sk [] [0,7] [(1,0),(2,0),(53,0)] hI)) (λh=>u6 h hc2 λhI=>sk [] [0,7] [(1,0),(2,0),(53,0)] hI)) (λh=>u6 h hc1 λhI=>sk [] [0] [(1,0),(2,0),(0,5)] hI)) (λh=>u6 h hc1 λhI=>sk [] [0] [(1,0),(2,0),(0,5)] hI)
def b5L(a:u7)(e_:p9):Option u7:=
 (z5 (((O a.n.a9)+1)*88<=140737488355328) ((((bif(a.n.d6==3)then U (r9.brk (u7.mk (m4.mk a.n.Id a.n.Acc (a.n.a9++[e_]) a.n.Seq 2 a.n.b5 a.n.d7 a.n.j5 (p9.mk W (u0.mk 0 0) (s9.mk [] [] 0 0)) [] a.n.j6 a.n.j8 a.n.d9 a.n.i5) a.out a.told))else U (r9.brk (u7.mk (m4.mk a.n.Id a.n.Acc (a.n.a9++[e_]) a.n.Seq a.n.d6 a.n.b5 a.n.d7 a.n.j5 a.n.g9 a.n.b8 a.n.j6 a.n.j8 a.n.d9 a.n.i5) a.out a.told))):Option (r9 u7 u7)).bind λx=>x.go U λj=>c1n j)))
def d2u{a e_}:OK a32 [.optr 179 (S4 a),.agg (x9 e_)] (b5L a e_):=
 t9 _ λr h=>t5<|tk 7 Q2<|z9 h λe1 h=>J4 8 10 50 7 88 x9 a.n.a9 e_ e1<|I2 e_<|D5 h (e3X r) λx1 h hc1=>rg<|l9 5 h (λh=>T1<|(u6 h hc1 λhI=>sk [.frz (.cell 0 0 12) (U 2),.frz (.cell 0 0 13) (U 2),.own (.cell 0 0 16) 4 1,.kill 0 3] [0] [(10,0),(37,0)] hI)) (λh=>u6 h hc1 λhI=>sk [] [0] [(10,0),(0,3)] hI)
def e0h:FS (u7):=⟨165,Tryz.f165,[],[U (0,.ptr N1 S6),Z],[.ptr N1 S6,.val E5 []],λ_=>.tup [],λr=>[U (.optr 179 (S4 r)),Z],Tryz.func165⟩
end
end Go.Proofs.YtffneplcebhckaaGreat
