/- What the law leans on, part 6. -/
import Derived.Test.YtffneplcebhckaaGreatP5
set_option linter.unusedVariables false
set_option linter.unusedSimpArgs false
set_option linter.unnecessarySimpa false
set_option linter.defProp false
namespace Go.Proofs.YtffneplcebhckaaGreat
open Go
open Option renaming bind_some->g0X,getD_some->g13
open List renaming getElem?_eq_getElem->g0Y,mem_append->g0Z,replicate->g00,getElem_mem->g01,mem_singleton->g03,all_eq_true->g05,length_append->g08,mem_cons->g1a,append_assoc->g1d,mem_of_getElem?->g1e,getD_eq_getElem?_getD->g1f,append_nil->g1i,getElem?_append_left->g1o,map_cons->g1v,nil_append->g1z,take_of_length_le->g1A,getElem_of_mem->g1E,length_cons->g1G,length_map->g1J,mem_replicate->g1O,length_singleton->g1Q,map_append->g1W,mem_cons_of_mem->g16,cons_append->g17,getElem?_drop->g2l,take->g2M
open Bool renaming and_eq_true->g02,not_true->g04,and_eq_false_iff->g2v
open Nat renaming le_refl->g07,add_zero->g2n
open Int renaming le_refl->g1g,toNat_natCast->g1p,le_trans->g1S,tmod_eq_emod_of_nonneg->g2k
open Option.some renaming inj->g1Y
open Option renaming some->U,none->Z
open Bool renaming false->W,true->Y
open List renaming length->O
noncomputable section
def c8Y{M:Nat}{B:Int}:∀(A Ξ:List m9) (w:m6),a0O M B w->w.c9=A++Ξ->(∀m∈A,c2Z m)->(∀m∈Ξ,m.b7=5)->R9 (G5 w) (A++Ξ)->∃x,D7 (O A) w=x/\a2S M B w x/\(∀m∈x.c9,m.b7=5)/\R9 (G5 x) x.c9
 | [],Ξ,w,h,hn,ha,hc,hg=>⟨w,rfl,.refl h,by rw[hn];exact hc,by rw[hn];exact hg⟩
 |m::A,Ξ,w,h,hn,ha,hc,hg=>by
  have hn:w.c9=m::(A++Ξ):=hn;obtain⟨o,o1,o2,o3,o4,o5,o6,o7,o8,o9⟩:=c4Z h hn;have hm:=ha m (by simp);have ho:∀y∈o,y.b7=5:=by
   rcases hm with q|q|q|q|q
   ·rw[o5 (by omega) (by omega) (by omega) (by omega)];simp
   ·rw[o5 (by omega) (by omega) (by omega) (by omega)];simp
   ·rw[g17]at hg;unfold R9 at hg;rw[if_pos q]at hg;rw[(o7 q hg.1).1];simp
   ·rw[o5 (by omega) (by omega) (by omega) (by omega)];simp
   ·exact o6 q
  have hg2:R9 (G5 (t6 w ⟨2,0,[]⟩)) (A++(Ξ++o)):=by
   rw[<-g1d];exact b8s (d17 (by rw[g17]at hg;exact hg) (λj=>(o3 j).1) λq1 q2=>(o7 q1 q2).2) (b0e o8 λj=>(o3 j).1)
  obtain⟨x,x1,x2,x3,x4⟩:=c8Y A (Ξ++o) _ o2 (by rw[o1,g1d]) (λy q=>ha y (g16 _ q)) (λy q=>(g0Z.1 q).elim (hc y) (ho y)) hg2;exact⟨x,by rw[g1G,a19 hn];exact x1,a2S.trans ⟨o2,o3,o9⟩ x2,x3,x4⟩
def d4g{M:Nat}{B:Int}:∀(A:List m9) (w:m6),a0O M B w->w.c9=A->(∀m∈A,m.b7=5)->R9 (G5 w) A->∃x,D7 (O A) w=x/\a2S M B w x/\x.c9=[]
 | [],w,h,hn,ha,hg=>⟨w,rfl,.refl h,hn⟩
 |m::A,w,h,hn,ha,hg=>by
  obtain⟨o,o1,o2,o3,o4,o5,o6,o7,o8,o9⟩:=c4Z h hn;have k5:=ha m (by simp);have hle:m.i6.toNat<=G5 w m.To:=by
   unfold R9 at hg;rw[if_pos k5]at hg;exact hg.1
  rw[(o7 k5 hle).1,g1i]at o1;obtain⟨x,x1,x2,x3⟩:=d4g A _ o2 o1 (λy q=>ha y (g16 _ q)) (d17 hg (λj=>(o3 j).1) λq1 q2=>(o7 q1 q2).2);exact⟨x,by rw[g1G,a19 hn];exact x1,a2S.trans ⟨o2,o3,o9⟩ x2,x3⟩
def d7K{M:Nat}{B:Int}{w:m6}(h:a0O M B w):∃n,n<=120/\a2S M B w (D7 n w)/\(D7 n w).c9=[]:=by
 obtain⟨x,x1,x2,x3,x4⟩:=d0C w.c9 [] w h (by simp) (by simp) trivial;obtain⟨y,y1,y2,y3,y4⟩:=c8Y x.c9 [] x x2.d (by simp) x3 (by simp) (by rw[g1i];exact x4);obtain⟨z,z1,z2,z3⟩:=d4g y.c9 y y2.d rfl y3 y4;have l1:=h.wi.ml;have l2:=x2.d.wi.ml;have l3:=y2.d.wi.ml;have e:D7 ((O w.c9)+((O x.c9)+(O y.c9))) w=z:=by rw[a69,a69,x1,y1,z1]
 exact⟨(O w.c9)+((O x.c9)+(O y.c9)),by omega,by rw[e];exact(x2.trans y2).trans z2,by rw[e];exact z3⟩
def e8n{M:Nat}{B:Int}{w:m6}(h:a0O M B w):a2S M B w (O1 w)/\(O1 w).c9=[]:=by
 obtain⟨n,n1,n2,n3⟩:=d7K h;have:O1 w=D7 n w:=by
  unfold O1;rw[c0T (a:=n) n3 (by omega)]
 rw[this];exact⟨n2,n3⟩
def b6E{L:Int}(hL:D3 L)(m:m9):G4 L m=[{m with d7:=L,To:=A0 L 1},{m with d7:=L,To:=A0 L 2}]:=by
 unfold G4;rcases a4h hL with rfl|rfl|rfl<;>rfl
def a9V{L:Int}(hL:D3 L):D3 (A0 L 1)/\D3 (A0 L 2)/\A0 L 1≠L/\A0 L 2≠L/\A0 L 1≠A0 L 2:=by
 unfold D3;rcases a4h hL with rfl|rfl|rfl<;>decide
def b1k{L i:Int}(hL:D3 L)(hi:D3 i):i=L\/i=A0 L 1\/i=A0 L 2:=by
 rcases a4h hL with rfl|rfl|rfl<;>rcases a4h hi with rfl|rfl|rfl<;>decide
def W7(n:m4)(m:m9):m9:=if n.Acc.i7<=m.b5 then H7 m ⟨2,0,0,m.b5,m.i6,zE,n.Acc.b8.drop m.i6.toNat⟩else H7 m ⟨6,0,0,n.Acc.i7,0,zE,[]⟩
def a1D(n:m4)(b:Int):m4:=if n.Acc.i7<=b then {n with Acc:=⟨b,n.Acc.b8⟩}else n
def d5G{n:m4}{m:m9}(h0:n.d6=0)(hk:m.b7=1)(h1:1<=m.b5)(h2:m.b5<=3000):D8 n m=(a1D n m.b5,[W7 n m],[]):=by
 have e:D8 n m=((a0N n m).1,(a0N n m).2,[]):=by unfold D8;rw[hk];rfl
 rw[e];unfold a0N a1D W7 J6 a95;by_cases hp:n.Acc.i7<=m.b5
 ·rw[if_pos hp,if_pos hp,show(v5 m.b5 1 3000&&decide (n.Acc.i7<=m.b5))=Y by rw[g02,I1];exact⟨⟨h1,h2⟩,by simpa using hp⟩];simp only[g25];unfold L3;simp only[h0];rfl
 ·rw[if_neg hp,if_neg hp,show(v5 m.b5 1 3000&&decide (n.Acc.i7<=m.b5))=W by rw[g2v];exact .inr (by simpa using hp)];rfl
def a22(n:m4)(b:Int):(a1D n b).d6=n.d6/\(a1D n b).a9=n.a9/\(a1D n b).Acc.i7=max n.Acc.i7 b/\(a1D n b).j6=n.j6:=by
 unfold a1D;split
 ·exact⟨rfl,rfl,by show b=_;omega,rfl⟩
 ·exact⟨rfl,rfl,by omega,rfl⟩
section
variable {M:Nat} {B L:Int} {w:m6}
structure b4Q(M:Nat)(B L b:Int)(w x:m6):Prop where
 wi:WI x
 dL:D3 L
 b1:1<=b/\b<=3000/\b<=B+3/\G8 w L<b
 sb:SBw M (B+3) x
 nL:p8 x L={a0E (p8 w L)with Acc:=⟨b,(p8 w L).Acc.b8⟩,d6:=1,b5:=b,d7:=a0u L,j5:=(p8 w L).Acc.b8}
 nF:∀i,D3 i->i≠L->p8 x i=a1D (p8 w i) b
 net:∃s,x.c9=[W7 (p8 w (A0 L 1)) ⟨1,L,A0 L 1,b,s,zE,[]⟩,W7 (p8 w (A0 L 2)) ⟨1,L,A0 L 2,b,s,zE,[]⟩]/\s=((p8 w L).a9.length:Int)
 td:x.Told=w.Told
def d3E(h:a0O M B w)(hn:w.c9=[])(hB:B+3<=3000)(hL:D3 L):∃b,b4Q M B L b w (D7 2 (t6 w ⟨5,L,[]⟩)):=by
 obtain⟨hni,hid⟩:=a2j h.wi hL;have hp:=(h.sb.n L hL).p;have hpr:=hni.pr;obtain⟨r1,r2,r3,r4,r5⟩:=a9V hL;obtain⟨b,hb,h1,h2,h3⟩:∃b,M5 (p8 w L).Acc.i7 L=b/\(p8 w L).Acc.i7<b/\b<=(p8 w L).Acc.i7+3/\b<=3000:=by
  refine⟨_,rfl,?_⟩;have hD:=hL;unfold D3 at hD;unfold M5;have t1:=g2k (a:=(p8 w L).Acc.i7+1) (b:=3) (by omega);have t2:=g2k (a:=(p8 w L).Acc.i7+2) (b:=3) (by omega);have t3:=g2k (a:=(p8 w L).Acc.i7+3) (b:=3) (by omega);rw[t1,t2,t3];cases c1:decide ((p8 w L).Acc.i7+1<=3000)&&(((p8 w L).Acc.i7+1) % 3==L)
  ·cases c2:decide ((p8 w L).Acc.i7+2<=3000)&&(((p8 w L).Acc.i7+2) % 3==L)
   ·cases c3:decide ((p8 w L).Acc.i7+3<=3000)&&(((p8 w L).Acc.i7+3) % 3==L)
    ·exfalso
     simp only[g2v,decide_eq_false_iff_not,beq_eq_false_iff_ne]at c1 c2 c3;omega
    ·simp only[g26,g25];omega
   ·simp only[g26,g25];omega
  ·simp only[g25];omega
 have hrise:P9 (p8 w L)=({a0E (p8 w L)with Acc:=⟨b,(p8 w L).Acc.b8⟩,d6:=1,b5:=b,d7:=a0u L,j5:=(p8 w L).Acc.b8},G4 L ⟨1,0,0,b,((p8 w L).a9.length:Int),zE,[]⟩):=by
  unfold P9;rw[hid,hb,show decide (b<0)=W by simp;omega];rfl
 have hD3:=hL;unfold D3 at hD3;have e0:t6 w ⟨5,L,[]⟩=U3 (J9 w L (P9 (E8 w L)).1) (P9 (E8 w L)).2:=by
  unfold t6;rw[show v5 (⟨5,L,[]⟩:v6).A 0 2=Y from I1.2 hD3];rfl
 rw[show E8 w L=p8 w L from(N6 hL).symm,hrise]at e0;have w1:WI (t6 w ⟨5,L,[]⟩):=Y7 h.wi (L4 5 L);have n1:p8 (t6 w ⟨5,L,[]⟩)=upd (p8 w) L {a0E (p8 w L)with Acc:=⟨b,(p8 w L).Acc.b8⟩,d6:=1,b5:=b,d7:=a0u L,j5:=(p8 w L).Acc.b8}:=by
  obtain⟨t,hte⟩:∃t:Nat,L=(t:Int):=⟨L.toNat,by omega⟩
  rw[e0];have:=a0L h.wi (i:=t) (by omega) {a0E (p8 w L)with Acc:=⟨b,(p8 w L).Acc.b8⟩,d6:=1,b5:=b,d7:=a0u L,j5:=(p8 w L).Acc.b8} (w':=U3 (J9 w L {a0E (p8 w L)with Acc:=⟨b,(p8 w L).Acc.b8⟩,d6:=1,b5:=b,d7:=a0u L,j5:=(p8 w L).Acc.b8}) (G4 L ⟨1,0,0,b,((p8 w L).a9.length:Int),zE,[]⟩)) (by show w.b9.set L.toNat _=w.b9.set t _;rw[show L.toNat=t by omega]);rw[<-hte]at this;exact this
 have t1:(t6 w ⟨5,L,[]⟩).c9=[⟨1,L,A0 L 1,b,((p8 w L).a9.length:Int),zE,[]⟩,⟨1,L,A0 L 2,b,((p8 w L).a9.length:Int),zE,[]⟩]:=by
  rw[e0,b6E hL];show w.c9++g2M (40-(O w.c9)) _=_
  rw[hn];rfl
 have d1:(t6 w ⟨5,L,[]⟩).Told=w.Told:=by rw[e0];rfl
 have hne1:p8 (t6 w ⟨5,L,[]⟩) (A0 L 1)=p8 w (A0 L 1):=by rw[n1];unfold upd;rw[if_neg r3]
 have a1:=d5G (n:=p8 w (A0 L 1)) (m:=⟨1,L,A0 L 1,b,((p8 w L).a9.length:Int),zE,[]⟩) (h.ph _ r1) rfl (by show 1<=b;omega) h3;obtain⟨p1,p2⟩:=b27 w1 t1 (n':=a1D (p8 w (A0 L 1)) b) (l:=[W7 (p8 w (A0 L 1)) ⟨1,L,A0 L 1,b,((p8 w L).a9.length:Int),zE,[]⟩]) (ts:=[]) (by
  show D8 (p8 (t6 w ⟨5,L,[]⟩) (A0 L 1)) _=_
  rw[hne1];exact a1)
 have w2:WI (t6 (t6 w ⟨5,L,[]⟩) ⟨2,0,[]⟩):=Y7 w1 (L4 2 0);have d2:(t6 (t6 w ⟨5,L,[]⟩) ⟨2,0,[]⟩).Told=w.Told:=by
  rw[b1z t1];show(t6 w ⟨5,L,[]⟩).Told++g2M _ (D8 (E8 (t6 w ⟨5,L,[]⟩) (A0 L 1)) _).2.2=_
  rw[show E8 (t6 w ⟨5,L,[]⟩) (A0 L 1)=p8 (t6 w ⟨5,L,[]⟩) (A0 L 1)from(N6 r1).symm,hne1,a1,d1];simp
 have t2:(t6 (t6 w ⟨5,L,[]⟩) ⟨2,0,[]⟩).c9=[⟨1,L,A0 L 2,b,((p8 w L).a9.length:Int),zE,[]⟩,W7 (p8 w (A0 L 1)) ⟨1,L,A0 L 1,b,((p8 w L).a9.length:Int),zE,[]⟩]:=p1;have hne2:p8 (t6 (t6 w ⟨5,L,[]⟩) ⟨2,0,[]⟩) (A0 L 2)=p8 w (A0 L 2):=by
  rw[p2,n1];show upd (upd (p8 w) L _) (A0 L 1) _ (A0 L 2)=_
  unfold upd;rw[if_neg r5.symm,if_neg r4]
 have a2:=d5G (n:=p8 w (A0 L 2)) (m:=⟨1,L,A0 L 2,b,((p8 w L).a9.length:Int),zE,[]⟩) (h.ph _ r2) rfl (by show 1<=b;omega) h3;obtain⟨p3,p4⟩:=b27 w2 t2 (n':=a1D (p8 w (A0 L 2)) b) (l:=[W7 (p8 w (A0 L 2)) ⟨1,L,A0 L 2,b,((p8 w L).a9.length:Int),zE,[]⟩]) (ts:=[]) (by
  show D8 (p8 (t6 (t6 w ⟨5,L,[]⟩) ⟨2,0,[]⟩) (A0 L 2)) _=_
  rw[hne2];exact a2)
 have d3:(t6 (t6 (t6 w ⟨5,L,[]⟩) ⟨2,0,[]⟩) ⟨2,0,[]⟩).Told=w.Told:=by
  rw[b1z t2];show(t6 (t6 w ⟨5,L,[]⟩) ⟨2,0,[]⟩).Told++g2M _ (D8 (E8 (t6 (t6 w ⟨5,L,[]⟩) ⟨2,0,[]⟩) (A0 L 2)) _).2.2=_
  rw[show E8 (t6 (t6 w ⟨5,L,[]⟩) ⟨2,0,[]⟩) (A0 L 2)=p8 (t6 (t6 w ⟨5,L,[]⟩) ⟨2,0,[]⟩) (A0 L 2)from(N6 r2).symm,hne2,a2,d2];simp
 have ew:D7 2 (t6 w ⟨5,L,[]⟩)=t6 (t6 (t6 w ⟨5,L,[]⟩) ⟨2,0,[]⟩) ⟨2,0,[]⟩:=by
  rw[a19 t1,a19 t2];rfl
 rw[ew];have n3:∀i,p8 (t6 (t6 (t6 w ⟨5,L,[]⟩) ⟨2,0,[]⟩) ⟨2,0,[]⟩) i=if i=A0 L 2 then a1D (p8 w (A0 L 2)) b else if i=A0 L 1 then a1D (p8 w (A0 L 1)) b else if i=L then {a0E (p8 w L)with Acc:=⟨b,(p8 w L).Acc.b8⟩,d6:=1,b5:=b,d7:=a0u L,j5:=(p8 w L).Acc.b8}else p8 w i:=by
  intro i;rw[p4,p2,n1];rfl
 obtain⟨M1,m1,s1⟩:=a5O h.wi h.sb ⟨5,L,[]⟩ (B':=B+3) (by rw[if_pos rfl];omega);obtain⟨M2,m2,s2⟩:=a5O w1 s1 ⟨2,0,[]⟩ (B':=B+3) (by rw[if_neg (by decide)];omega);obtain⟨M3,m3,s3⟩:=a5O w2 s2 ⟨2,0,[]⟩ (B':=B+3) (by rw[if_neg (by decide)];omega);have hM:M3=M:=by
  obtain⟨i,hi,e⟩:=s3.t;have hk:=(h.sb.n i hi).k;rw[n3]at e;have:M3=(p8 w i).a9.length:=by
   rw[<-e];split
   ·rename_i q;rw[(a22 _ _).2.1,q]
   ·split
    ·rename_i q;rw[(a22 _ _).2.1,q]
    ·split
     ·rename_i q;rw[q];rfl
     ·rfl
  omega
 rw[hM]at s3;refine⟨b,Y7 w2 (L4 2 0),hL,⟨by omega,h3,by omega,h1⟩,s3,?_,λi hi hiL => ?_,⟨_,p3,rfl⟩,d3⟩
 ·rw[n3,if_neg r4.symm,if_neg r3.symm,if_pos rfl]
 ·rw[n3];rcases b1k hL hi with q|q|q
  ·exact absurd q hiL
  ·rw[q,if_neg r5,if_pos rfl]
  ·rw[q,if_pos rfl]
def f9u{n:m4}(h:NI n){m:m9}(hm:MI m)(hk:m.b7=2)(h1:n.d6=1):NI {n with d7:=[],j5:=G2 n.j5 (g00 m.i6.toNat v0++m.b8),d6:=2}:=by
 have hkd:((O m.b8)<=40/\∀v∈m.b8,VI v)/\m.i6+(O m.b8)<=40:=by
  rcases hm.kd with q|q|q|q|q|q|q
  ·omega
  ·exact⟨q.2.2.2.1,q.2.2.2.2⟩
  all_goals exact absurd q.1 (by omega)
 have hs:=hm.sl;have hl:Own n/\(O n.d7)=3/\n.d7[n.Id.toNat]?=U Y/\n.g9=zE/\n.b8=[]:=by
  rcases h.ld with q|q|q|q
  ·omega
  ·exact q.2
  all_goals exact absurd q.1 (by omega)
 have hbl:=a7y n.j5 (g00 m.i6.toNat v0++m.b8);have hob:=hl.1.bl;have hlen:(g00 m.i6.toNat v0++m.b8).length<=40:=by simp;omega
 have hbs:∀v∈G2 n.j5 (g00 m.i6.toNat v0++m.b8),VI v:=λv hv=>(a8P hv).elim (λq=>hl.1.bs v q) (λq=>(g0Z.1 q).elim (λq=>by rw[(g1O.1 q).2];exact .inl rfl) (hkd.1.2 v))
 exact⟨h.id,h.pr,h.vl,h.vs,h.kl,h.ks,h.sq,h.ql,h.qs,.inr (.inr (.inl ⟨rfl,⟨hl.1.b1,hl.1.b2,hl.1.mod,hl.1.pr,by show(G2 _ _).length<=40;omega,hbs⟩,rfl,hl.2.2.2.1,hl.2.2.2.2⟩)),h.wt⟩
def d5x{x:m6}{b:Int}(hd:a0O M B w)(h:b4Q M B L b w x)(h1:G8 w (A0 L 1)<=b):∃ (o:Bool) (n':m4) (l:List m9) (m2:m9),(o=Y->G5 w L<40)/\x.c9=[W7 (p8 w (A0 L 1)) ⟨1,L,A0 L 1,b,((p8 w L).a9.length:Int),zE,[]⟩,m2]/\m2=W7 (p8 w (A0 L 2)) ⟨1,L,A0 L 2,b,((p8 w L).a9.length:Int),zE,[]⟩/\
  (t6 x ⟨2,0,[]⟩).c9=m2::l/\p8 (t6 x ⟨2,0,[]⟩)=upd (p8 x) L n'/\n'.b5=b/\((n'.d6=3/\o=Y)\/(n'.d6=2/\o=W))/\n'.Acc.i7<=b/\n'.a9=(p8 w L).a9/\
  l.map (I6 L)=(bif o then O4 (G5 w L)else [])/\(∀y∈l,gmS L b y)/\(∀y∈l,y.b5=b/\y.b7=3)/\(t6 x ⟨2,0,[]⟩).Told=w.Told/\n'.j6=(p8 w L).j6/\(o=W->a65 n'):=by
 obtain⟨r1,r2,r3,r4,r5⟩:=a9V h.dL;obtain⟨s,hnet,hs⟩:=h.net;subst hs;have hD:=h.dL;unfold D3 at hD r1;obtain⟨hni,hid⟩:=a2j h.wi h.dL;have ea:W7 (p8 w (A0 L 1)) ⟨1,L,A0 L 1,b,((p8 w L).a9.length:Int),zE,[]⟩=⟨2,A0 L 1,L,b,((p8 w L).a9.length:Int),zE,(p8 w (A0 L 1)).Acc.b8.drop ((p8 w L).a9.length:Int).toNat⟩:=by
  unfold W7;rw[if_pos h1];rfl
 have hmi:=h.wi.ms _ (by rw[hnet];exact List.mem_cons_self);have hp1:(p8 x L).d6=1:=by rw[h.nL]
 have hb1:(p8 x L).b5=b:=by rw[h.nL]
 have hpp:(p8 x L).Acc.i7<=b:=by rw[h.nL];exact g1g _
 have hkx:(p8 x L).a9=(p8 w L).a9:=by rw[h.nL];rfl
 obtain⟨n2,hn2,hnl,e1,e2,e3,e4,e5,e6,ht⟩:∃n2:m4,n2=n2/\NI n2/\n2.Id=L/\n2.b5=b/\n2.Acc.i7<=b/\n2.d6=2/\n2.a9=(p8 w L).a9/\n2.j6=(p8 w L).j6/\
   D8 (p8 x L) (W7 (p8 w (A0 L 1)) ⟨1,L,A0 L 1,b,((p8 w L).a9.length:Int),zE,[]⟩)=((F8 n2).1,(F8 n2).2,[]):=by
  refine⟨{p8 x L with d7:=[],j5:=G2 (p8 x L).j5 (g00 (W7 (p8 w (A0 L 1)) ⟨1,L,A0 L 1,b,((p8 w L).a9.length:Int),zE,[]⟩).i6.toNat v0++(W7 (p8 w (A0 L 1)) ⟨1,L,A0 L 1,b,((p8 w L).a9.length:Int),zE,[]⟩).b8),d6:=2},rfl,f9u hni hmi (by rw[ea]) hp1,hid,hb1,hpp,rfl,hkx,by rw[h.nL];rfl,?_⟩;generalize hm:W7 (p8 w (A0 L 1)) ⟨1,L,A0 L 1,b,((p8 w L).a9.length:Int),zE,[]⟩=m at hmi;rw[ea]at hm;have k2:m.b7=2:=by rw[<-hm]
  have kb:m.b5=b:=by rw[<-hm]
  have kf:m.d7=A0 L 1:=by rw[<-hm]
  have e1:D8 (p8 x L) m=((Y8 (p8 x L) m).1,(Y8 (p8 x L) m).2,[]):=by unfold D8;rw[k2];rfl
  have tw:L1 ((p8 x L).d7.set m.d7.toNat Y)=Y:=by
   rw[h.nL,kf];have hmn:=b8k hD;exact d5i hmn.1 hmn.2 (by omega) (by omega)
  rw[e1];unfold Y8;rw[show((p8 x L).d6 != 1||m.b5 != (p8 x L).b5)=W by rw[hp1,hb1,kb];simp,tw];rfl
 obtain⟨o,o1,o2,o3,o4,o5,o6,o7,o8⟩:=c2a (L:=L) (b:=b) hnl e1 e2 e3 e4;rw[e5]at o1 o5 o6;have eT:(W7 (p8 w (A0 L 1)) ⟨1,L,A0 L 1,b,((p8 w L).a9.length:Int),zE,[]⟩).To=L:=by rw[ea]
 obtain⟨p1,p2⟩:=b27 h.wi hnet (n':=(F8 n2).1) (l:=(F8 n2).2) (ts:=[]) (by rw[eT];exact ht);have lo:(F8 n2).2.length<=2:=by
  have:=congrArg List.length o6;rw[g1J]at this;rw[this];cases o<;>simp[O4]
 rw[g1A (by rw[g1Q];omega)]at p1;refine⟨o,_,_,_,o1,hnet,rfl,p1,?_,o2,o3,o4,o5,o6,o7,λy hy => ?_,?_,?_,o8⟩
 ·rw[p2,eT]
 ·have k3:=b71 y hy;rcases o7 y hy with q|q|q|q|q|q
  ·exact⟨q.2.1,q.1⟩
  all_goals omega
 ·rw[b1z hnet,eT,show E8 x L=p8 x L from(N6 h.dL).symm,ht];show x.Told++g2M _ []=_
  rw[h.td];simp
 ·rw[(a9j _).busy,e6]
def led{x:m6}{b:Int}(hd:a0O M B w)(h:b4Q M B L b w x)(h1:G8 w (A0 L 1)<=b)(h2:G8 w (A0 L 2)<=b):∃o,(o=Y->G5 w L<40)/\R4 L b (D7 1 x) ⟨G5 w L,G5 w (A0 L 1),G5 w (A0 L 2),o,⟨2,0,0,0⟩::bif o then O4 (G5 w L)else []⟩/\(D7 1 x).Told=w.Told/\∀i,D3 i->(p8 (D7 1 x) i).j6=(p8 w i).j6:=by
 obtain⟨o,n',l,m2,o1,hnet,hm2,p1,p2,q1,q2,q3,q4,q5,q6,q7,q8,q9,q10⟩:=d5x hd h h1;obtain⟨r1,r2,r3,r4,r5⟩:=a9V h.dL;have ew:D7 1 x=t6 x ⟨2,0,[]⟩:=by rw[a19 hnet];rfl
 rw[ew];have eb:m2=⟨2,A0 L 2,L,b,((p8 w L).a9.length:Int),zE,(p8 w (A0 L 2)).Acc.b8.drop ((p8 w L).a9.length:Int).toNat⟩:=by
  rw[hm2];unfold W7;rw[if_pos h2];rfl
 refine⟨o,o1,⟨Y7 h.wi (L4 2 0),h.dL,?_,?_,λi hi hiL => ?_,λi hi => ?_,λr hr => ?_,?_,λm hm => ?_,by rw[p2];unfold upd;rw[if_pos rfl];exact q10⟩,q8,λi hi => ?_⟩
 ·rw[p2];unfold upd;rw[if_pos rfl];exact q1
 ·rw[p2];unfold upd;rw[if_pos rfl];exact q2
 ·rw[p2];unfold upd;rw[if_neg hiL,h.nF i hi hiL,(a22 _ _).1];exact hd.ph i hi
 ·rw[p2];unfold upd;split
  ·exact q3
  ·rename_i z;rw[h.nF i hi z,(a22 _ _).2.2.1];rcases b1k h.dL hi with q|q|q
   ·exact absurd q z
   ·rw[q];have:(p8 w (A0 L 1)).Acc.i7<=b:=h1;omega
   ·rw[q];have:(p8 w (A0 L 2)).Acc.i7<=b:=h2;omega
 ·rw[p2];unfold upd;have h3:r=0\/r=1\/r=2:=by omega
  rcases h3 with rfl|rfl|rfl
  ·rw[if_pos (show A0 L 0=L from rfl),q4];rfl
  ·rw[if_neg r3,h.nF _ r1 r3,(a22 _ _).2.1];rfl
  ·rw[if_neg r4,h.nF _ r2 r4,(a22 _ _).2.1];rfl
 ·rw[p1,g1v,q5,eb];rfl
 ·rw[p1]at hm;rcases g1a.1 hm with q|q
  ·rw[q,eb];exact .inr (.inr (.inr (.inr (.inl ⟨rfl,rfl⟩))))
  ·exact q6 m q
 ·rw[p2];unfold upd;split
  ·rename_i z;rw[q9,z]
  ·rename_i z;rw[h.nF i hi z,(a22 _ _).2.2.2]
def c2r{M':Nat}{z:m6}(h:SBw M' B z)(h1:M<=M')(hk:∀i,D3 i->G5 z i<=M):M'=M:=by
 obtain⟨i,hi,e⟩:=h.t;have:(p8 z i).a9.length<=M:=hk i hi;omega
def c7t{z:m6}(h:SBw M B z){c:Int}(hp:∀i,D3 i->G8 z i<=c)(hm:∀m∈z.c9,m.b5<=c):SBw M c z:=
 ⟨λi hi=>⟨(h.n i hi).k,(h.n i hi).v,(h.n i hi).c,hp i hi,(h.n i hi).e⟩,λm q=>⟨hm m q,(h.m m q).s,(h.m m q).v,(h.m m q).c⟩,h.t,h.q⟩
def c6r{x:m6}{m:m9}{r:List m9}(hw:WI x)(hn:x.c9=m::r)(hk:m.b7=6)(hb:(p8 x m.To).Acc.i7<=m.b5)(hph:(p8 x m.To).d6≠0->(p8 x m.To).b5<m.b5):∃n',(t6 x ⟨2,0,[]⟩).c9=r/\p8 (t6 x ⟨2,0,[]⟩)=upd (p8 x) m.To n'/\n'.d6=0/\n'.Acc.i7=m.b5/\n'.a9=(p8 x m.To).a9/\n'.j6=(p8 x m.To).j6/\(t6 x ⟨2,0,[]⟩).Told=x.Told:=by
 have hmi:=hw.ms m (by rw[hn];simp);have hD:D3 m.To:=hmi.to;have hkd:1<=m.b5/\m.b5<=3000:=by
  rcases hmi.kd with q|q|q|q|q|q|q
  any_goals (exfalso;omega)
  exact q.2.1
 have e1:D8 (p8 x m.To) m=(L3 {p8 x m.To with Acc:=⟨m.b5,(p8 x m.To).Acc.b8⟩} m.b5,[],[]):=by
  unfold D8;rw[hk];show(L3 {p8 x m.To with Acc:=(J6 (p8 x m.To).Acc m.b5).getD (p8 x m.To).Acc} m.b5,[],[])=_
  rw[b4f hkd.1 hkd.2 hb];rfl
 obtain⟨p1,p2⟩:=b27 hw hn e1;have ht:(t6 x ⟨2,0,[]⟩).Told=x.Told:=by
  rw[b1z hn,show E8 x m.To=p8 x m.To from(N6 hD).symm,e1];show x.Told++g2M _ []=_
  simp
 refine⟨_,by rw[p1];simp,p2,?_,?_,?_,?_,ht⟩;all_goals unfold L3
 ·cases hq:(p8 x m.To).d6 != 0&&decide (m.b5>(p8 x m.To).b5)
  ·simp only[hq,g26];rw[g2v]at hq;rcases hq with q|q
   ·simpa using q
   ·by_cases z:(p8 x m.To).d6=0
    ·exact z
    ·have:=hph z;simp at q;omega
  ·simp only[hq,g25];rfl
 all_goals cases hq:(p8 x m.To).d6 != 0&&decide (m.b5>(p8 x m.To).b5)<;>simp only[hq,g26,g25]<;>rfl
def f8Q{x:m6}{b:Int}(hd:a0O M B w)(h:b4Q M B L b w x)(hB:0<=B)(hno:b<G8 w (A0 L 1)\/b<G8 w (A0 L 2)):∃k c,k<=2/\c<=B/\a0O M c (D7 k x)/\c<=G8 (D7 k x) L/\(∀i,D3 i->G5 (D7 k x) i=G5 w i)/\(D7 k x).Told=w.Told/\∀i,D3 i->(p8 (D7 k x) i).j6=(p8 w i).j6:=by
 obtain⟨r1,r2,r3,r4,r5⟩:=a9V h.dL;obtain⟨s,hnet,hs⟩:=h.net;subst hs;have hb1:=h.b1;have hx3:G8 w (A0 L 1)<=B:=(hd.sb.n _ r1).p;have hy3:G8 w (A0 L 2)<=B:=(hd.sb.n _ r2).p;have ex:p8 x (A0 L 1)=a1D (p8 w (A0 L 1)) b:=h.nF _ r1 r3;have ey:p8 x (A0 L 2)=a1D (p8 w (A0 L 2)) b:=h.nF _ r2 r4;have fx:(a1D (p8 w (A0 L 1)) b).Acc.i7=max (G8 w (A0 L 1)) b:=(a22 _ _).2.2.1;have fy:(a1D (p8 w (A0 L 2)) b).Acc.i7=max (G8 w (A0 L 2)) b:=(a22 _ _).2.2.1;have hp1:(p8 x L).d6=1:=by rw[h.nL]
 have hbl:(p8 x L).b5=b:=by rw[h.nL]
 have hpp:(p8 x L).Acc.i7=b:=by rw[h.nL]
 have hkL:(p8 x L).a9=(p8 w L).a9:=by rw[h.nL];rfl
 have hzL:(p8 x L).j6=(p8 w L).j6:=by rw[h.nL];rfl
 have hk:∀i,D3 i->(p8 x i).a9=(p8 w i).a9/\(p8 x i).j6=(p8 w i).j6:=λi hi=>by
  by_cases q:i=L
  ·rw[q];exact⟨hkL,hzL⟩
  ·rw[h.nF i hi q];exact⟨(a22 _ _).2.1,(a22 _ _).2.2.2⟩
 by_cases c1:b<G8 w (A0 L 1)
 ·
  have ea:W7 (p8 w (A0 L 1)) ⟨1,L,A0 L 1,b,((p8 w L).a9.length:Int),zE,[]⟩=⟨6,A0 L 1,L,G8 w (A0 L 1),0,zE,[]⟩:=by
   unfold W7;rw[if_neg (by show ¬G8 w (A0 L 1)<=b;omega)];rfl
  rw[ea]at hnet;obtain⟨n',p1,p2,p3,p4,p5,p6,p7⟩:=c6r h.wi hnet rfl (by show(p8 x L).Acc.i7<=G8 w (A0 L 1);omega) (λ_=>by show(p8 x L).b5<G8 w (A0 L 1);omega);have p2:p8 (t6 x ⟨2,0,[]⟩)=upd (p8 x) L n':=p2;have p4:n'.Acc.i7=G8 w (A0 L 1):=p4;have p5:n'.a9=(p8 x L).a9:=p5;have p6:n'.j6=(p8 x L).j6:=p6;obtain⟨M1,m1,s1⟩:=a5O h.wi h.sb ⟨2,0,[]⟩ (B':=B+3) (by rw[if_neg (by decide)];omega);have kz:∀i,D3 i->G5 (t6 x ⟨2,0,[]⟩) i=G5 w i/\(p8 (t6 x ⟨2,0,[]⟩) i).j6=(p8 w i).j6:=λi hi=>by
   show(p8 (t6 x ⟨2,0,[]⟩) i).a9.length=(p8 w i).a9.length/\_
   rw[p2];unfold upd;split
   ·rename_i q;rw[p5,p6,q,hkL,hzL];exact⟨rfl,rfl⟩
   ·rw[(hk i hi).1,(hk i hi).2];exact⟨rfl,rfl⟩
  have hM1:=c2r s1 m1 λi hi=>by rw[(kz i hi).1];exact(hd.sb.n i hi).k
  rw[hM1]at s1;have ph:∀i,D3 i->(p8 (t6 x ⟨2,0,[]⟩) i).d6=0:=λi hi=>by
   rw[p2];unfold upd;split
   ·exact p3
   ·rename_i q;rw[h.nF i hi q,(a22 _ _).1];exact hd.ph i hi
  have w1:WI (t6 x ⟨2,0,[]⟩):=Y7 h.wi (L4 2 0);have e1:D7 1 x=t6 x ⟨2,0,[]⟩:=by rw[a19 hnet];rfl
  have pL:G8 (t6 x ⟨2,0,[]⟩) L=G8 w (A0 L 1):=by
   show(p8 (t6 x ⟨2,0,[]⟩) L).Acc.i7=_
   rw[p2];unfold upd;rw[if_pos rfl];exact p4
  have pX:G8 (t6 x ⟨2,0,[]⟩) (A0 L 1)=max (G8 w (A0 L 1)) b:=by
   show(p8 (t6 x ⟨2,0,[]⟩) (A0 L 1)).Acc.i7=_
   rw[p2];unfold upd;rw[if_neg r3,ex];exact fx
  have pY:G8 (t6 x ⟨2,0,[]⟩) (A0 L 2)=max (G8 w (A0 L 2)) b:=by
   show(p8 (t6 x ⟨2,0,[]⟩) (A0 L 2)).Acc.i7=_
   rw[p2];unfold upd;rw[if_neg r4,ey];exact fy
  have td1:(t6 x ⟨2,0,[]⟩).Told=w.Told:=p7.trans h.td;by_cases c2:G8 w (A0 L 2)<=G8 w (A0 L 1)
  ·refine⟨1,G8 w (A0 L 1),by omega,hx3,?_,?_,?_,?_,?_⟩
   ·rw[e1];refine⟨w1,ph,c7t s1 (λi hi => ?_) λm hm => ?_⟩
    ·rcases b1k h.dL hi with q|q|q
     ·rw[q,pL];exact g1g _
     ·rw[q,pX];omega
     ·rw[q,pY];omega
    ·rw[p1]at hm;rw[g03.1 hm];unfold W7;split
     ·show b<=_;omega
     ·exact c2
   ·rw[e1,pL];exact g1g _
   ·rw[e1];exact λi hi=>(kz i hi).1
   ·rw[e1];exact td1
   ·rw[e1];exact λi hi=>(kz i hi).2
  ·have ea2:W7 (p8 w (A0 L 2)) ⟨1,L,A0 L 2,b,((p8 w L).a9.length:Int),zE,[]⟩=⟨6,A0 L 2,L,G8 w (A0 L 2),0,zE,[]⟩:=by
    unfold W7;rw[if_neg (by show ¬G8 w (A0 L 2)<=b;omega)];rfl
   rw[ea2]at p1;obtain⟨n2,g1,g2,g3,g4,g5,g6,g7⟩:=c6r w1 p1 rfl (by show G8 (t6 x ⟨2,0,[]⟩) L<=G8 w (A0 L 2);omega) (λq=>absurd (ph L h.dL) q);have g2:p8 (t6 (t6 x ⟨2,0,[]⟩) ⟨2,0,[]⟩)=upd (p8 (t6 x ⟨2,0,[]⟩)) L n2:=g2;have g4:n2.Acc.i7=G8 w (A0 L 2):=g4;have g5:n2.a9=(p8 (t6 x ⟨2,0,[]⟩) L).a9:=g5;have g6:n2.j6=(p8 (t6 x ⟨2,0,[]⟩) L).j6:=g6;obtain⟨M2,m2,s2⟩:=a5O w1 s1 ⟨2,0,[]⟩ (B':=B+3) (by rw[if_neg (by decide)];omega);have e2:D7 2 x=t6 (t6 x ⟨2,0,[]⟩) ⟨2,0,[]⟩:=by rw[a19 hnet,a19 p1];rfl
   have kz2:∀i,D3 i->G5 (t6 (t6 x ⟨2,0,[]⟩) ⟨2,0,[]⟩) i=G5 w i/\(p8 (t6 (t6 x ⟨2,0,[]⟩) ⟨2,0,[]⟩) i).j6=(p8 w i).j6:=λi hi=>by
    show(p8 (t6 (t6 x ⟨2,0,[]⟩) ⟨2,0,[]⟩) i).a9.length=(p8 w i).a9.length/\_
    rw[g2];unfold upd;split
    ·rename_i q;rw[g5,g6,q];exact kz L h.dL
    ·exact kz i hi
   have hM2:=c2r s2 m2 λi hi=>by rw[(kz2 i hi).1];exact(hd.sb.n i hi).k
   rw[hM2]at s2;have pr2:∀i,G8 (t6 (t6 x ⟨2,0,[]⟩) ⟨2,0,[]⟩) i=if i=L then G8 w (A0 L 2)else G8 (t6 x ⟨2,0,[]⟩) i:=λi=>by
    show(p8 (t6 (t6 x ⟨2,0,[]⟩) ⟨2,0,[]⟩) i).Acc.i7=_
    rw[g2];unfold upd;split
    ·exact g4
    ·rfl
   refine⟨2,G8 w (A0 L 2),by omega,hy3,?_,?_,?_,?_,?_⟩
   ·rw[e2];refine⟨Y7 w1 (L4 2 0),λi hi => ?_,c7t s2 (λi hi => ?_) λm hm => ?_⟩
    ·rw[g2];unfold upd;split
     ·exact g3
     ·exact ph i hi
    ·rw[pr2];rcases b1k h.dL hi with q|q|q
     ·rw[if_pos q];exact g1g _
     ·rw[q,if_neg r3,pX];omega
     ·rw[q,if_neg r4,pY];omega
    ·rw[g1]at hm;cases hm
   ·rw[e2,pr2,if_pos rfl];exact g1g _
   ·rw[e2];exact λi hi=>(kz2 i hi).1
   ·rw[e2];exact g7.trans td1
   ·rw[e2];exact λi hi=>(kz2 i hi).2
 ·
  have c2:b<G8 w (A0 L 2):=by rcases hno with q|q<;>omega
  obtain⟨o,n',l,m2,o1,hnet',hm2,p1,p2,q1,q2,q3,q4,q5,q6,q7,q8,q9,q10⟩:=d5x hd h (by omega);have ea2:m2=⟨6,A0 L 2,L,G8 w (A0 L 2),0,zE,[]⟩:=by
   rw[hm2];unfold W7;rw[if_neg (by show ¬G8 w (A0 L 2)<=b;omega)];rfl
  rw[ea2]at p1;have w1:WI (t6 x ⟨2,0,[]⟩):=Y7 h.wi (L4 2 0);have nL1:p8 (t6 x ⟨2,0,[]⟩) L=n':=by rw[p2];unfold upd;rw[if_pos rfl]
  obtain⟨n2,g1,g2,g3,g4,g5,g6,g7⟩:=c6r w1 p1 rfl (by show(p8 (t6 x ⟨2,0,[]⟩) L).Acc.i7<=G8 w (A0 L 2);rw[nL1];omega) (λ_=>by show(p8 (t6 x ⟨2,0,[]⟩) L).b5<G8 w (A0 L 2);rw[nL1];omega);have g2:p8 (t6 (t6 x ⟨2,0,[]⟩) ⟨2,0,[]⟩)=upd (p8 (t6 x ⟨2,0,[]⟩)) L n2:=g2;have g4:n2.Acc.i7=G8 w (A0 L 2):=g4;have g5:n2.a9=(p8 (t6 x ⟨2,0,[]⟩) L).a9:=g5;have g6:n2.j6=(p8 (t6 x ⟨2,0,[]⟩) L).j6:=g6;obtain⟨M1,m1,s1⟩:=a5O h.wi h.sb ⟨2,0,[]⟩ (B':=B+3) (by rw[if_neg (by decide)];omega);obtain⟨M2,m2',s2⟩:=a5O w1 s1 ⟨2,0,[]⟩ (B':=B+3) (by rw[if_neg (by decide)];omega);have e2:D7 2 x=t6 (t6 x ⟨2,0,[]⟩) ⟨2,0,[]⟩:=by rw[a19 hnet,a19 p1];rfl
  have nz:∀i,p8 (t6 (t6 x ⟨2,0,[]⟩) ⟨2,0,[]⟩) i=if i=L then n2 else p8 x i:=λi=>by
   rw[g2,p2];unfold upd;split<;>rfl
  have kz2:∀i,D3 i->G5 (t6 (t6 x ⟨2,0,[]⟩) ⟨2,0,[]⟩) i=G5 w i/\(p8 (t6 (t6 x ⟨2,0,[]⟩) ⟨2,0,[]⟩) i).j6=(p8 w i).j6:=λi hi=>by
   show(p8 (t6 (t6 x ⟨2,0,[]⟩) ⟨2,0,[]⟩) i).a9.length=(p8 w i).a9.length/\_
   rw[nz];split
   ·rename_i q;rw[g5,g6,nL1,q4,q9,q];exact⟨rfl,rfl⟩
   ·rw[(hk i hi).1,(hk i hi).2];exact⟨rfl,rfl⟩
  have hM2:=c2r (M:=M) s2 (by omega) λi hi=>by rw[(kz2 i hi).1];exact(hd.sb.n i hi).k
  rw[hM2]at s2;refine⟨2,G8 w (A0 L 2),by omega,hy3,?_,?_,?_,?_,?_⟩
  ·rw[e2];refine⟨Y7 w1 (L4 2 0),λi hi => ?_,c7t s2 (λi hi => ?_) λm hm => ?_⟩
   ·rw[nz];split
    ·exact g3
    ·rename_i q;rw[h.nF i hi q,(a22 _ _).1];exact hd.ph i hi
   ·show(p8 (t6 (t6 x ⟨2,0,[]⟩) ⟨2,0,[]⟩) i).Acc.i7<=_
    rw[nz];rcases b1k h.dL hi with q|q|q
    ·rw[if_pos q];omega
    ·rw[q,if_neg r3,ex,fx];omega
    ·rw[q,if_neg r4,ey,fy];omega
   ·rw[g1]at hm;rw[(q7 m hm).1];omega
  ·rw[e2];show _<=(p8 (t6 (t6 x ⟨2,0,[]⟩) ⟨2,0,[]⟩) L).Acc.i7
   rw[nz,if_pos rfl];omega
  ·rw[e2];exact λi hi=>(kz2 i hi).1
  ·rw[e2];exact g7.trans q8
  ·rw[e2];exact λi hi=>(kz2 i hi).2
end
def a2N(w:m6):Prop := ∀i,D3 i->(p8 w i).j6=W
def c5B{n x:m4}{l:List m9}{ts:List s8}{L:p9->Prop}(h:Act L n x l ts)(hb:n.j6=W):x.j6=W/\ts=[]:=by
 refine⟨?_,?_⟩
 ·rcases h.bw with q|q
  ·rw[q.1];exact hb
  ·exact q
 ·rcases h.to with q|q
  ·exact q
  ·rw[hb]at q;cases q.1
def e0c{w:m6}(h:WI w)(hb:a2N w){e:v6}(hk:e.b7≠1):a2N (t6 w e)/\(t6 w e).Told=w.Told:=by
 have set:∀{w':m6} {i:Int} {n':m4},p8 w'=upd (p8 w) i n'->n'.j6=W->a2N w':=λq b j hj=>by
  rw[q];unfold upd;split
  ·exact b
  ·exact hb j hj
 unfold t6;cases hq:e.b7==2||(e.b7==3||e.b7==4)
 ·simp only[g26];cases hA:v5 e.A 0 2
  ·exact⟨hb,rfl⟩
  simp only[g04,g26];rw[I1]at hA;obtain⟨i,hi⟩:∃i:Nat,e.A=(i:Int):=⟨e.A.toNat,by omega⟩
  have hi3:i<3:=by omega
  have hD:D3 (i:Int):=by unfold D3;omega
  rw[hi,show E8 w (i:Int)=p8 w (i:Int)from(N6 hD).symm,show(e.b7==1)=W by simpa using hk];cases e.b7==5
  ·cases e.b7==6
   ·cases e.b7==7
    ·exact⟨hb,rfl⟩
    ·exact⟨set (a0L h hi3 (U5 (p8 w (i:Int))) (w':=J9 w (i:Int) (U5 (p8 w (i:Int)))) rfl) rfl,rfl⟩
   ·exact⟨set (a0L h hi3 (K5 (p8 w (i:Int))).1 (w':=U3 (J9 w (i:Int) (K5 (p8 w (i:Int))).1) (K5 (p8 w (i:Int))).2) rfl) (c5B (Act.retry (a5u _) trivial) (hb _ hD)).1,rfl⟩
  ·exact⟨set (a0L h hi3 (P9 (p8 w (i:Int))).1 (w':=U3 (J9 w (i:Int) (P9 (p8 w (i:Int))).1) (P9 (p8 w (i:Int))).2) rfl) (c5B (Act.rise (a5u _)) (hb _ hD)).1,rfl⟩
 ·simp only[g25];unfold a0P;cases decide (0<=e.A);case false=>exact⟨hb,rfl⟩
  simp only[g25];cases hm:w.c9[e.A.toNat]? with
  |none=>exact⟨hb,rfl⟩
  |some m=>
   have hmi:=h.ms m (g1e hm);have hD:D3 m.To:=hmi.to;simp only;cases e.b7==4
   ·cases e.b7==3
    ·simp only[g26];obtain⟨t,hte⟩:∃t:Nat,m.To=(t:Int):=⟨m.To.toNat,by have:=hmi.to;omega⟩
     rw[show E8 w m.To=p8 w m.To from(N6 hD).symm];have ha:=c5B (Act.take (a5u _) trivial (b82 _) hmi) (hb _ hD);refine⟨set (i:=m.To) (n':=(D8 (p8 w m.To) m).1) ?_ ha.1,?_⟩
     ·rw[hte];exact a0L h (by have:=hmi.to;omega) _ rfl
     ·show w.Told++g2M _ (D8 (p8 w m.To) m).2.2=w.Told
      rw[ha.2];simp
    ·exact⟨hb,rfl⟩
   ·exact⟨hb,rfl⟩
def b7V:∀(n:Nat) {w:m6},WI w->a2N w->a2N (D7 n w)/\(D7 n w).Told=w.Told/\WI (D7 n w)
 | 0,w,h,hb=>⟨hb,rfl,h⟩
 |n+1,w,h,hb=>by
  cases hn:w.c9 with
  |nil=>rw[b24 hn];exact⟨hb,rfl,h⟩
  |cons m r=>
   rw[a19 hn];obtain⟨a,c⟩:=e0c h hb (e:=⟨2,0,[]⟩) (show(2:Int)≠1 by decide);obtain⟨d,e,f⟩:=b7V n (Y7 h (L4 2 0)) a;exact⟨d,e.trans c,f⟩
def b1A{w:m6}(h:WI w)(hb:a2N w)(k i:Int)(hk:k≠1):a2N (O1 (t6 w ⟨k,i,[]⟩))/\(O1 (t6 w ⟨k,i,[]⟩)).Told=w.Told/\WI (O1 (t6 w ⟨k,i,[]⟩)):=by
 obtain⟨a,c⟩:=e0c h hb (e:=⟨k,i,[]⟩) hk;obtain⟨d,e,f⟩:=b7V 800 (Y7 h (L4 k i)) a;exact⟨d,e.trans c,f⟩
def c6Q(i:Int):∀(n:Nat) {w:m6},WI w->a2N w->a2N (X2 i n w)/\(X2 i n w).Told=w.Told/\WI (X2 i n w)
 | 0,w,h,hb=>⟨hb,rfl,h⟩
 |n+1,w,h,hb=>by
  unfold X2;cases a29 w i
  ·obtain⟨a,c,d⟩:=b1A h hb 5 i (by decide);obtain⟨e,f,g⟩:=c6Q i n d a;exact⟨e,f.trans c,g⟩
  ·exact⟨hb,rfl,h⟩
def e8K{w:m6}(h:WI w)(hb:a2N w)(i:Int):a2N (a0d w i)/\(a0d w i).Told=w.Told:=by
 obtain⟨a1,a2,a3⟩:=b7V 800 h hb;obtain⟨b1,b2,b3⟩:=c6Q i 4 a3 a1;obtain⟨c1,c2,c3⟩:=b1A b3 b1 6 0 (by decide);obtain⟨d1,d2,d3⟩:=b1A c3 c1 6 1 (by decide);obtain⟨e1,e2,e3⟩:=b1A d3 d1 6 2 (by decide);exact⟨e1,e2.trans (d2.trans (c2.trans (b2.trans a2)))⟩
def d9G{L b:Int}{z:m6}{S:G1}(hp:PW z)(h:R4 L b z S)(hs:S.sas=W):∀i,D3 i->G5 z i<=G5 z L:=by
 intro i hi;obtain⟨V,P,Mm,px,_⟩:=hp;have ph:(p8 z L).d6=2:=by
  rcases h.ph with q|q
  ·rw[hs]at q;cases q.2
  ·exact q.1
 have kl:=(px.ni i hi).1.kl;obtain⟨l1,l2⟩:=(px.ld L h.dL).l2 ph;rcases h.il hs with q|⟨q,_,_⟩
 ·show(p8 z i).a9.length<=(p8 z L).a9.length;omega
 by_cases hc:(p8 z i).a9.length<=(p8 z L).a9.length
 ·exact hc
 exfalso
 have hlt:(p8 z L).a9.length<(p8 z i).a9.length:=by omega
 obtain⟨b',p,q',hp3,hq3,hpq,v1,v2⟩:=px.kn i _ _ hi (g0Y hlt);obtain⟨a1,a2,ha1,ha2,ha,c1,c2⟩:=l2;have key:∀c,D3 c->Cov (p8 z) V (p8 z L) c->V c (p8 z L).a9.length b' ((p8 z i).a9[(p8 z L).a9.length])->False:=by
  intro c hc3 cv v;obtain⟨_,w1,w2,w3⟩:=px.vp _ _ _ _ v;have w4:=h.pr c hc3;have hbl:=h.bl;by_cases hb:b'=(p8 z L).b5
  ·rw[hb]at w1;have:=l1 _ _ w1;omega
  ·obtain⟨y,y1,y2⟩:=cv.cv _ _ _ (g07 _) (by omega) v;refine q y ?_ (by omega);have:=g1e (l:=(p8 z L).j5.drop (p8 z L).a9.length) (i:=0) (a:=y) (by rw[g2l,g2n];exact y1);exact this
 have m1:p=a1\/p=a2\/q'=a1\/q'=a2:=by
  unfold D3 at hp3 hq3 ha1 ha2;omega
 rcases m1 with e|e|e|e
 ·exact key p hp3 (by rw[e];exact c1) v1
 ·exact key p hp3 (by rw[e];exact c2) v1
 ·exact key q' hq3 (by rw[e];exact c1) v2
 ·exact key q' hq3 (by rw[e];exact c2) v2
structure c7o(S:G1):Prop where
 n:S.snet=[]
 x:S.skx<=S.skL
 y:S.sky<=S.skL
 lx:S.skL<=S.skx+30
 ly:S.skL<=S.sky+30
 a:S.sas=Y->S.skx=S.skL
def c1g{L b:Int}{z:m6}{S:G1}(h:R4 L b z S)(hn:S.snet=[]):z.c9=[]:=by
 have:=h.nt;rw[hn]at this;exact List.map_eq_nil_iff.1 this
def b7R{L b:Int}{z:m6}{S:G1}(h:R4 L b z S):G5 z L=S.skL/\G5 z (A0 L 1)=S.skx/\G5 z (A0 L 2)=S.sky:=
 ⟨h.kn 0 (by decide),h.kn 1 (by decide),h.kn 2 (by decide)⟩
def b3c(n:Nat){w:m6}(h:AW w):AW (D7 n w):=c79 n h
def d9B{L b:Int}{w:m6}{S:G1}{n:Nat}{Q:G1->Prop}(h:R4 L b w S)(hg:G9 n S Q)(hq:∀S',Q S'->S'.snet=[])(hn:n<=790):∃k S',k<=n/\R4 L b (D7 k w) S'/\Q S'/\(D7 k w).c9=[]:=by
 obtain⟨k,S',k1,k2,k3⟩:=d7L h hg;exact⟨k,S',k1,k2,k3,c1g k2 (hq S' k3)⟩
def e8H{L b:Int}{z:m6}{S:G1}(h:R4 L b z S):a29 z L=Y:=by
 unfold a29;rw[show E8 z L=p8 z L from(N6 h.dL).symm,g02,g05];refine⟨by rcases h.ph with q|q<;>rw[q.1]<;>rfl,λn hn => ?_⟩;obtain⟨k,hk,e⟩:=g1E hn;have hl:=h.wi.nl;have hD:D3 (k:Int):=by unfold D3;omega
 have:=h.pr _ hD;rw[N6 hD]at this;unfold E8 at this;rw[g1p,g1f,g0Y hk,g13,e]at this;simp only[decide_eq_true_eq];rw[h.bl];exact this
def d8d{M:Nat}{B L:Int}{w:m6}(h:a0O M B w)(hL:D3 L):a29 w L=W:=by
 unfold a29;rw[show E8 w L=p8 w L from(N6 hL).symm,h.ph L hL];rfl
def d21{M:Nat}{B L b:Int}{w:m6}(hd:a0O M B w)(hM:M<=26)(hn:w.c9=[])(hw:AW w)(hr:b4Q M B L b w (D7 2 (t6 w ⟨5,L,[]⟩)))(h1:G8 w (A0 L 1)<=b)(h2:G8 w (A0 L 2)<=b):∃S,R4 L b (O1 (t6 w ⟨5,L,[]⟩)) S/\c7o S:=by
 obtain⟨o,o1,o2,_⟩:=led hd hr h1 h2;obtain⟨r1,r2,r3,r4,r5⟩:=a9V hr.dL;have kL:G5 w L<=M:=(hd.sb.n L hr.dL).k;have kx:G5 w (A0 L 1)<=M:=(hd.sb.n _ r1).k;have ky:G5 w (A0 L 2)<=M:=(hd.sb.n _ r2).k;have g:G9 601 ⟨G5 w L,G5 w (A0 L 1),G5 w (A0 L 2),o,⟨2,0,0,0⟩::bif o then O4 (G5 w L)else []⟩ (λS=>S.snet=[]/\(a74 S\/(S.sas=W/\S.skL<=26/\S.skx<=26/\S.sky<=26))):=by
  refine f7h ?_;cases o
  ·exact a56 ⟨rfl,.inr ⟨rfl,by show G5 w L<=26;omega,by show G5 w _<=26;omega,by show G5 w _<=26;omega⟩⟩ _
  ·exact b4a (d39 (by unfold a0M;split<;>omega) (by unfold a0M;split<;>omega)) λS q=>⟨q.1.1,.inl q.1⟩
 obtain⟨k,S,k1,k2,k3,k4⟩:=d9B o2 g (λS q=>q.1) (by omega);have e:O1 (t6 w ⟨5,L,[]⟩)=D7 k (D7 1 (D7 2 (t6 w ⟨5,L,[]⟩))):=by
  have e1:D7 (2+(1+k)) (t6 w ⟨5,L,[]⟩)=D7 k (D7 1 (D7 2 (t6 w ⟨5,L,[]⟩))):=by rw[a69,a69]
  unfold O1;rw[<-e1];exact c0T (by rw[e1];exact k4) (by omega)
 rw[e];refine⟨S,k2,?_⟩;have haw:AW (D7 k (D7 1 (D7 2 (t6 w ⟨5,L,[]⟩)))):=b3c _ (b3c _ (b3c _ (a0V hw (L4 5 L))));obtain⟨n1,n2,n3⟩:=b7R k2;cases hs:S.sas with
 |false=>
  have ct:=d9G haw.pw k2 hs;have c1:=ct _ r1;have c2:=ct _ r2;rw[n1,n2]at c1;rw[n1,n3]at c2;rcases k3.2 with q|q
  ·obtain⟨_,q1,q2,_⟩:=q;exact⟨k3.1,c1,c2,by omega,q2,λz=>by rw[hs]at z;cases z⟩
  ·exact⟨k3.1,c1,c2,by omega,by omega,λz=>by rw[hs]at z;cases z⟩
 |true=>
  rcases k3.2 with q|q
  ·obtain⟨_,q1,q2,q3⟩:=q;obtain⟨z1,z2⟩:=q3 hs;exact⟨k3.1,by omega,z2,by omega,q2,λ_=>z1⟩
  ·rw[hs]at q;cases q.1
def f0K{M:Nat}{B L:Int}{w:m6}(hd:a0O M B w)(hM:M<=26)(hn:w.c9=[])(hw:AW w)(hB:0<=B)(hB3:B+3<=3000)(hL:D3 L):∃b S,R4 L b (X2 L 4 w) S/\c7o S:=by
 have stop:∀{b:Int} {z:m6} {S:G1} (n:Nat),R4 L b z S->X2 L n z=z:=λn h=>by
  cases n with
  |zero=>rfl
  |succ n=>unfold X2;rw[e8H h];rfl
 have e1:X2 L 4 w=X2 L 3 (O1 (t6 w ⟨5,L,[]⟩)):=by
  show(bif a29 w L then w else X2 L 3 (O1 (t6 w ⟨5,L,[]⟩)))=_
  rw[d8d hd hL];rfl
 rw[e1];obtain⟨b,hr⟩:=d3E hd hn hB3 hL;by_cases hc:G8 w (A0 L 1)<=b/\G8 w (A0 L 2)<=b
 ·obtain⟨S,s1,s2⟩:=d21 hd hM hn hw hr hc.1 hc.2;exact⟨b,S,by rw[stop 3 s1];exact s1,s2⟩
 ·obtain⟨k,c,k1,k2,k3,k4,k5,_⟩:=f8Q hd hr hB (by omega);obtain⟨n,n1,n2,n3⟩:=d7K k3;have e2:O1 (t6 w ⟨5,L,[]⟩)=D7 n (D7 k (D7 2 (t6 w ⟨5,L,[]⟩))):=by
   have e:D7 (2+(k+n)) (t6 w ⟨5,L,[]⟩)=D7 n (D7 k (D7 2 (t6 w ⟨5,L,[]⟩))):=by rw[a69,a69]
   unfold O1;rw[<-e];exact c0T (by rw[e];exact n3) (by omega)
  rw[e2];have haw:AW (D7 n (D7 k (D7 2 (t6 w ⟨5,L,[]⟩)))):=b3c _ (b3c _ (b3c _ (a0V hw (L4 5 L))));generalize D7 n (D7 k (D7 2 (t6 w ⟨5,L,[]⟩)))=z at n2 n3 haw;have hdz:=n2.d;have pL:c<=G8 z L:=g1S k4 (n2.km L).2;have e3:X2 L 3 z=X2 L 2 (O1 (t6 z ⟨5,L,[]⟩)):=by
   show(bif a29 z L then z else X2 L 2 (O1 (t6 z ⟨5,L,[]⟩)))=_
   rw[d8d hdz hL];rfl
  rw[e3];obtain⟨b2,hr2⟩:=d3E hdz n3 (by omega) hL;obtain⟨r1,r2,_⟩:=a9V hL;have p1:G8 z (A0 L 1)<=c:=(hdz.sb.n _ r1).p;have p2:G8 z (A0 L 2)<=c:=(hdz.sb.n _ r2).p;have p3:=hr2.b1.2.2.2;obtain⟨S,s1,s2⟩:=d21 hdz hM n3 haw hr2 (by omega) (by omega);exact⟨b2,S,by rw[stop 2 s1];exact s1,s2⟩
def c7C{L i:Int}(hi:D3 i)(m:m9):(G4 i m).map (I6 L)=[I6 L {m with d7:=i,To:=A0 i 1},I6 L {m with d7:=i,To:=A0 i 2}]:=by
 rw[b6E hi];rfl
section
variable {L b:Int} {z:m6} {S:G1}
def d1D(h:R4 L b z S)(hn:S.snet=[]){i:Int}(hi:D3 i)(hiL:i≠L)(hb:(p8 z i).j6=W) :
  R4 L b (t6 z ⟨6,i,[]⟩) {S with snet:=[L5 (G0 L i) (G0 L (A0 i 1)) (S.kn (G0 L i)),L5 (G0 L i) (G0 L (A0 i 2)) (S.kn (G0 L i))]}:=by
 obtain⟨hni,hid⟩:=a2j h.wi hi;have hp:=h.fo i hi hiL;have hr:K5 (p8 z i)=(p8 z i,G4 i ⟨8,0,0,0,((p8 z i).a9.length:Int),zE,[]⟩):=by
  unfold K5;rw[hp,hb,hid];rfl
 have hD:=hi;unfold D3 at hD;have e0:t6 z ⟨6,i,[]⟩=U3 (J9 z i (K5 (p8 z i)).1) (K5 (p8 z i)).2:=by
  unfold t6;rw[show v5 (⟨6,i,[]⟩:v6).A 0 2=Y from I1.2 hD,show p8 z i=E8 z i from N6 hi];rfl
 rw[hr]at e0;have hN:p8 (t6 z ⟨6,i,[]⟩)=p8 z:=by
  obtain⟨t,hte⟩:∃t:Nat,i=(t:Int):=⟨i.toNat,by omega⟩
  have:=a0L h.wi (i:=t) (by omega) (p8 z i) (w':=t6 z ⟨6,i,[]⟩) (by rw[e0];show z.b9.set i.toNat _=z.b9.set t _;rw[show i.toNat=t by omega]);rw[this,<-hte];funext j
  unfold upd;split
  ·rename_i q;rw[q]
  ·rfl
 have hz:=c1g h hn;have hnet:(t6 z ⟨6,i,[]⟩).c9=G4 i ⟨8,0,0,0,((p8 z i).a9.length:Int),zE,[]⟩:=by
  rw[e0];show z.c9++g2M (40-(O z.c9)) _=_
  rw[hz,b6E hi];rfl
 have hk:(p8 z i).a9.length=S.kn (G0 L i):=by
  have:=h.kn _ (b5W h.dL hi).2.1;rwa[(b5W h.dL hi).1]at this
 refine⟨Y7 h.wi (L4 6 i),h.dL,by rw[hN];exact h.bl,by rw[hN];exact h.ph,by rw[hN];exact h.fo,by rw[hN];exact h.pr,by rw[hN];exact h.kn,?_,λm hm => ?_,by rw[hN];exact h.il⟩
 ·rw[hnet,c7C hi,hk];rfl
 ·rw[hnet]at hm;exact .inr (.inr (.inr (.inl (a6H hm).1)))
def f7r(h:R4 L b z S)(hn:S.snet=[]):∃o,(S.sas=Y->o=Y)/\(o=Y->S.skL<40)/\R4 L b (t6 z ⟨6,L,[]⟩) ⟨S.skL,S.skx,S.sky,o,L5 0 1 S.skL::L5 0 2 S.skL::bif o then O4 S.skL else []⟩:=by
 have hi:=h.dL;obtain⟨hni,hid⟩:=a2j h.wi hi;have hz:=c1g h hn;have hD:=hi;unfold D3 at hD;have hk:(p8 z L).a9.length=S.skL:=(b7R h).1;obtain⟨o,n',l,a0,a1,a2,a3,a4,a5,a6,a7,a8⟩:∃ (o:Bool) (n':m4) (l:List m9),(S.sas=Y->o=Y)/\(o=Y->S.skL<40)/\K5 (p8 z L)=(n',G4 L ⟨8,0,0,0,(S.skL:Int),zE,[]⟩++l)/\n'.b5=b/\((n'.d6=3/\o=Y)\/(n'.d6=2/\o=W))/\n'.Acc.i7<=b/\(O n'.a9)=S.skL/\
   (l.map (I6 L)=(bif o then O4 S.skL else [])/\(∀y∈l,gmS L b y))/\(o=W->a65 n'):=by
  rcases h.ph with q|q
  ·have h40:(p8 z L).a9.length<40:=by
    rcases hni.ld with y|y|y|y
    any_goals (exfalso;omega)
    exact y.2.2.2.2.2.2
   refine⟨Y,p8 z L,G4 L ⟨3,0,0,b,(S.skL:Int),(p8 z L).g9,[]⟩,λ_=>rfl,λ_=>by omega,?_,h.bl,.inl ⟨q.1,rfl⟩,h.pr L hi,hk,⟨?_,λy hy=>.inl ⟨(a6H hy).1,?_,(a6H hy).2.1⟩⟩,by simp⟩
   ·unfold K5;rw[q.1,hid,hk,h.bl];rfl
   ·rw[c7C hi];show [I6 L _,I6 L _]=O4 S.skL
    unfold O4 I6 acS;rw[if_pos rfl,if_pos rfl];rw[(b1u hi (r:=1) (by decide)).1,(b1u hi (r:=2) (by decide)).1];rfl
   ·rw[b6E hi]at hy;rcases g1a.1 hy with z|z
    ·rw[z]
    ·rw[g03.1 z]
  ·obtain⟨o,o1,o2,o3,o4,o5,o6,o7,o8⟩:=c2a (L:=L) (b:=b) hni hid h.bl (h.pr L hi) q.1;rw[hk]at o1 o6;refine⟨o,(F8 (p8 z L)).1,(F8 (p8 z L)).2,(λy=>by rw[q.2]at y;cases y),o1,?_,o2,o3,o4,by rw[o5,hk],⟨o6,o7⟩,o8⟩;unfold K5;rw[q.1,hid,hk];rfl
 have e0:t6 z ⟨6,L,[]⟩=U3 (J9 z L (K5 (p8 z L)).1) (K5 (p8 z L)).2:=by
  unfold t6;rw[show v5 (⟨6,L,[]⟩:v6).A 0 2=Y from I1.2 hD,show p8 z L=E8 z L from N6 hi];rfl
 rw[a2]at e0;have hN:p8 (t6 z ⟨6,L,[]⟩)=upd (p8 z) L n':=by
  obtain⟨t,hte⟩:∃t:Nat,L=(t:Int):=⟨L.toNat,by omega⟩
  have:=a0L h.wi (i:=t) (by omega) n' (w':=t6 z ⟨6,L,[]⟩) (by rw[e0];show z.b9.set L.toNat _=z.b9.set t _;rw[show L.toNat=t by omega]);rw[this,<-hte]
 have ll:(O l)<=2:=by
  have:=congrArg List.length a7.1;rw[g1J]at this;rw[this];cases o<;>simp[O4]
 have hnet:(t6 z ⟨6,L,[]⟩).c9=G4 L ⟨8,0,0,0,(S.skL:Int),zE,[]⟩++l:=by
  rw[e0];show z.c9++g2M (40-(O z.c9)) _=_
  rw[hz,g1z,g1A];rw[b6E hi];simp;omega
 refine⟨o,a0,a1,Y7 h.wi (L4 6 L),hi,?_,?_,λi hi' hiL => ?_,λi hi' => ?_,λr hr => ?_,?_,λm hm => ?_,?_⟩
 ·rw[hN];unfold upd;rw[if_pos rfl];exact a3
 ·rw[hN];unfold upd;rw[if_pos rfl];exact a4
 ·rw[hN];unfold upd;rw[if_neg hiL];exact h.fo i hi' hiL
 ·rw[hN];unfold upd;split
  ·exact a5
  ·exact h.pr i hi'
 ·rw[hN];unfold upd;have hro:=b1u hi hr;have hk2:=h.kn r hr;have c:r=0\/r=1\/r=2:=by omega
  rcases c with rfl|rfl|rfl
  ·rw[if_pos (show A0 L 0=L from rfl)];exact a6
  ·rw[if_neg (hro.2.2 (by decide))];exact hk2
  ·rw[if_neg (hro.2.2 (by decide))];exact hk2
 ·rw[hnet,g1W,c7C hi,a7.1];have t1:=(b1u hi (r:=1) (by decide)).1;have t2:=(b1u hi (r:=2) (by decide)).1;have t0:G0 L L=0:=by unfold G0;rw[if_pos rfl]
  show [L5 (G0 L L) (G0 L (A0 L 1)) _,L5 (G0 L L) (G0 L (A0 L 2)) _]++_=_
  rw[t0,t1,t2];rfl
 ·rw[hnet]at hm;rcases g0Z.1 hm with q|q
  ·exact .inr (.inr (.inr (.inl (a6H q).1)))
  ·exact a7.2 m q
 ·intro q;rw[hN];unfold upd;rw[if_pos rfl];exact a8 q
end
def e5x{l x y:Nat}{a:Bool}(h1:x<=l)(h2:y<=l)(h3:l<=x+30):G9 70 ⟨l,x,y,a,[L5 1 0 x,L5 1 2 x]⟩ (· = ⟨l,l,y,a,[]⟩):=by
 refine a7K (n:=69) (r:=[L5 1 2 x]) ?_;rw[b26,show G1.kn ⟨l,x,y,a,[]⟩ 0=l from rfl,show min l (x+(40-([L5 1 2 x]:List Q8).length))=l by simp;omega];refine a7K (n:=68) (r:=K3 0 1 x l) ?_;rw[b26];generalize hm:min (G1.kn ⟨l,x,y,a,[]⟩ 2) (x+(40-(K3 0 1 x l).length))=m;have hm2:m<=y:=by rw[<-hm];exact Nat.min_le_left _ _
 refine a2o (n:=(l-x)+((m-x)+0)) ?_ (by omega);refine a5h (b1v (l-x) x l x rfl (g07 _)) λS' q => ?_
 subst q;rw[show max x l=l by omega,<-g1i (K3 2 1 x m)];refine a5h (b1v (m-x) x m l rfl h1) λS' q => ?_
 subst q;show(⟨l,max l m,y,a,[]⟩:G1)=_
 rw[show max l m=l by omega]
def f7B{l y:Nat}{a:Bool}(h1:y<=l)(h3:l<=y+30):G9 70 ⟨l,l,y,a,[L5 2 1 y,L5 2 0 y]⟩ (· = ⟨l,l,l,a,[]⟩):=by
 refine a7K (n:=69) (r:=[L5 2 0 y]) ?_;rw[b26,show G1.kn ⟨l,l,y,a,[]⟩ 1=l from rfl,show min l (y+(40-([L5 2 0 y]:List Q8).length))=l by simp;omega];refine a7K (n:=68) (r:=K3 1 2 y l) ?_;rw[b26];generalize hm:min (G1.kn ⟨l,l,y,a,[]⟩ 0) (y+(40-(K3 1 2 y l).length))=m;have hm2:m<=l:=by rw[<-hm];exact Nat.min_le_left _ _
 refine a2o (n:=(l-y)+((m-y)+0)) ?_ (by omega);refine a5h (b13 (l-y) y l y rfl (g07 _)) λS' q => ?_
 subst q;rw[show max y l=l by omega,<-g1i (K3 0 2 y m)];refine a5h (b13 (m-y) y m l rfl h1) λS' q => ?_
 subst q;show(⟨l,l,max l m,a,[]⟩:G1)=_
 rw[show max l m=l by omega]
def e5u{l y:Nat}{o:Bool}(h1:y<=l)(h3:l<=y+30):G9 610 ⟨l,l,y,o,L5 0 1 l::L5 0 2 l::bif o then O4 l else []⟩ (λS=>S.snet=[]/\S.sas=W/\S.skL<=S.skx/\S.skL<=S.sky+30):=by
 refine a7K (n:=609) ?_;rw[b2R (show G1.kn ⟨l,l,y,o,[]⟩ 1<=l from g07 _),b6i];refine a7K (n:=608) ?_;rw[b2R (show G1.kn ⟨l,l,y,o,[]⟩ 2<=l from h1),b6i];cases o
 ·exact a56 ⟨rfl,rfl,g07 _,h3⟩ _
 ·have l1:a0M l l=0:=by unfold a0M;rw[if_neg (by omega)]
  have l2:a0M l y<=31:=by unfold a0M;split<;>omega
  refine a2o (b4a (d39 (by omega) l2) λS q => ?_) (show 600<=608 by omega);obtain⟨f1,f2,f3,f4⟩:=q.2 (by omega);exact⟨f1,f2,f3,by omega⟩
def c7I{L b:Int}{w:m6}{S:G1}{n:Nat}{Q:G1->Prop}(h:R4 L b w S)(hg:G9 n S Q)(hq:∀S',Q S'->S'.snet=[])(hn:n<=790):∃S',R4 L b (O1 w) S'/\Q S':=by
 obtain⟨k,S',k1,k2,k3,k4⟩:=d9B h hg hq hn;have:O1 w=D7 k w:=c0T k4 (by omega);rw[this];exact⟨S',k2,k3⟩
def f5E{b:Int}{z:m6}{S:G1}(h:R4 1 b z S)(hw:AW z)(hl:c7o S)(hb:a2N z):∃S',R4 1 b (b4F z) S'/\S'.snet=[]/\S'.skx=S'.skL/\S'.sky=S'.skL:=by
 unfold b4F;have D0:D3 0:=by unfold D3;omega
 have D2:D3 2:=by unfold D3;omega
 have s1:=d1D h hl.n D0 (by decide) (hb 0 D0);have e1:({S with snet:=[L5 (G0 1 0) (G0 1 (A0 0 1)) (S.kn (G0 1 0)),L5 (G0 1 0) (G0 1 (A0 0 2)) (S.kn (G0 1 0))]}:G1)=⟨S.skL,S.skx,S.sky,S.sas,[L5 1 0 S.skx,L5 1 2 S.skx]⟩:=rfl;rw[e1]at s1;obtain⟨S1,g1,rfl⟩:=c7I s1 (e5x hl.x hl.y hl.lx) (λS' q=>by rw[q]) (by omega);have w1:=a07 (a0V hw (L4 6 0));obtain⟨b1,_,_⟩:=b1A hw.wi hb 6 0 (by decide);generalize O1 (t6 z ⟨6,0,[]⟩)=z1 at g1 w1 b1;obtain⟨o,o1,o2,s2⟩:=f7r g1 rfl;obtain⟨S2,g2,q1,q2,q3,q4⟩:=c7I s2 (e5u hl.y hl.ly) (λS' q=>q.1) (by omega);have w2:=a07 (a0V w1 (L4 6 1));obtain⟨b2,_,_⟩:=b1A w1.wi b1 6 1 (by decide);generalize O1 (t6 z1 ⟨6,1,[]⟩)=z2 at g2 w2 b2;have ct:=d9G w2.pw g2 q2;obtain⟨n1,n2,n3⟩:=b7R g2;obtain⟨r1,r2,_⟩:=a9V (L:=1) (by unfold D3;omega);have c1:=ct _ r1;have c2:=ct _ r2;rw[n1,n2]at c1;rw[n1,n3]at c2;have s3:=d1D g2 q1 D2 (by decide) (b2 2 D2);have hx:S2.skx=S2.skL:=by omega
 have e3:({S2 with snet:=[L5 (G0 1 2) (G0 1 (A0 2 1)) (S2.kn (G0 1 2)),L5 (G0 1 2) (G0 1 (A0 2 2)) (S2.kn (G0 1 2))]}:G1)=⟨S2.skL,S2.skL,S2.sky,S2.sas,[L5 2 1 S2.sky,L5 2 0 S2.sky]⟩:=by
  show(⟨S2.skL,S2.skx,S2.sky,S2.sas,_⟩:G1)=_
  rw[hx];rfl
 rw[e3]at s3;obtain⟨S3,g3,rfl⟩:=c7I s3 (f7B c2 q4) (λS' q=>by rw[q]) (by omega);exact⟨_,g3,rfl,rfl,rfl⟩
def a16(w x:m6):Prop := ∀j,∃t,(p8 x j).a9=(p8 w j).a9++t
def a16.refl(w:m6):a16 w w:=λ_=>⟨[],by simp⟩
def a16.trans{w x y:m6}(a:a16 w x)(b:a16 x y):a16 w y:=λj=>by
 obtain⟨t,e⟩:=a j;obtain⟨u,f⟩:=b j;exact⟨t++u,by rw[f,e,g1d]⟩
def c9U{w:m6}(h:WI w){e:v6}(hk:e.b7≠1):a16 w (t6 w e):=by
 have set:∀{w':m6} {i:Int} {n':m4},p8 w'=upd (p8 w) i n'->(∃t,n'.a9=(p8 w i).a9++t)->a16 w w':=λq b j=>by
  rw[q];unfold upd;split
  ·rename_i z;rw[z];exact b
  ·exact⟨[],by simp⟩
 unfold t6;cases hq:e.b7==2||(e.b7==3||e.b7==4)
 ·simp only[g26];cases hA:v5 e.A 0 2
  ·exact .refl w
  simp only[g04,g26];rw[I1]at hA;obtain⟨i,hi⟩:∃i:Nat,e.A=(i:Int):=⟨e.A.toNat,by omega⟩
  have hi3:i<3:=by omega
  have hD:D3 (i:Int):=by unfold D3;omega
  rw[hi,show E8 w (i:Int)=p8 w (i:Int)from(N6 hD).symm,show(e.b7==1)=W by simpa using hk];cases e.b7==5
  ·cases e.b7==6
   ·cases e.b7==7
    ·exact .refl w
    ·exact set (a0L h hi3 (U5 (p8 w (i:Int))) (w':=J9 w (i:Int) (U5 (p8 w (i:Int)))) rfl) ⟨[],by simp[U5,E6]⟩
   ·exact set (a0L h hi3 (K5 (p8 w (i:Int))).1 (w':=U3 (J9 w (i:Int) (K5 (p8 w (i:Int))).1) (K5 (p8 w (i:Int))).2) rfl) (Act.retry (a5u _) trivial).kn
  ·exact set (a0L h hi3 (P9 (p8 w (i:Int))).1 (w':=U3 (J9 w (i:Int) (P9 (p8 w (i:Int))).1) (P9 (p8 w (i:Int))).2) rfl) (Act.rise (a5u _)).kn
 ·simp only[g25];unfold a0P;cases decide (0<=e.A);case false=>exact .refl w
  simp only[g25];cases hm:w.c9[e.A.toNat]? with
  |none=>exact .refl w
  |some m=>
   have hmi:=h.ms m (g1e hm);have hD:D3 m.To:=hmi.to;simp only;cases e.b7==4
   ·cases e.b7==3
    ·simp only[g26];obtain⟨t,hte⟩:∃t:Nat,m.To=(t:Int):=⟨m.To.toNat,by have:=hmi.to;omega⟩
     rw[show E8 w m.To=p8 w m.To from(N6 hD).symm];refine set (i:=m.To) (n':=(D8 (p8 w m.To) m).1) ?_ (Act.take (a5u _) trivial (b82 _) hmi).kn;rw[hte];exact a0L h (by have:=hmi.to;omega) _ rfl
    ·exact .refl w
   ·exact .refl w
def c7i:∀(n:Nat) {w:m6},WI w->a16 w (D7 n w)
 | 0,w,h=>.refl w
 |n+1,w,h=>by
  cases hn:w.c9 with
  |nil=>rw[b24 hn];exact .refl w
  |cons m r=>
   rw[a19 hn];exact(c9U h (e:=⟨2,0,[]⟩) (show(2:Int)≠1 by decide)).trans (c7i n (Y7 h (L4 2 0)))
def b91{w:m6}(h:WI w)(k i:Int)(hk:k≠1):a16 w (O1 (t6 w ⟨k,i,[]⟩)):=(c9U h (e:=⟨k,i,[]⟩) hk).trans (c7i 800 (Y7 h (L4 k i)))
def d3e(i:Int):∀(n:Nat) {w:m6},AW w->a16 w (X2 i n w)
 | 0,w,h=>.refl w
 |n+1,w,h=>by
  unfold X2;cases a29 w i
  ·exact(b91 h.wi 5 i (by decide)).trans (d3e i n (a07 (a0V h (L4 5 i))))
  ·exact .refl w
def e89{w:m6}(h:AW w)(i:Int):a16 w (a0d w i):=by
 have h0:=a07 h;have h1:=b34 i 4 h0;have h2:=a07 (a0V h1 (L4 6 0));have h3:=a07 (a0V h2 (L4 6 1));exact(c7i 800 h.wi).trans ((d3e i 4 h0).trans ((b91 h1.wi 6 0 (by decide)).trans ((b91 h2.wi 6 1 (by decide)).trans (b91 h3.wi 6 2 (by decide)))))
def f2S{w x:m6}(h:WI w)(hx:WI x)(hp:PW x)(hk:a16 w x):∃t,A9 x=A9 w++t:=by
 obtain⟨b,hb,h1,_⟩:=b44 h;obtain⟨t,e⟩:=hk b;obtain⟨u,f⟩:=c2M hx hp hb;exact⟨t++u,by rw[f,e,h1,g1d]⟩
def a7z(w:m6):Bool:=((O w.c9)==0)&&w.b9.all λn => !n.j6&&(O n.a9)==(p8 w 0).a9.length
def b9y{w:m6}(h:WI w):b3F w=U (a7z w):=by
 have h0:0<(O w.b9):=by rw[h.nl];omega
 have e0:w.b9[0]=p8 w 0:=by
  rw[N6 (by unfold D3;omega)];unfold E8;rw[show(0:Int).toNat=0 from rfl,g1f,g0Y h0];rfl
 unfold b3F a7z;rw[a31 h.ok,g0X,a0t.2 h];simp only[g04,g26];cases hn:decide ((O w.c9:Int)>0)
 ·have hz:(O w.c9)=0:=by simpa using hn
  rw[O5 w.b9 (h.ok.1.fits (by decide)) (λn => !n.j6&&(O n.a9)==(p8 w 0).a9.length) W () (λk hk => ?_) (by unfold b6W;rw[C1];rfl)]
  ·rw[hz];cases w.b9.all λn => !n.j6&&(O n.a9)==(p8 w 0).a9.length<;>rfl
  ·unfold b6W;rw[B0 _ k hk,z8 hk,show idx w.b9 0=U w.b9[0]from z8 h0,e0];simp only[g25,g0X];cases w.b9[k].j6
   ·by_cases q:w.b9[k].a9.length=(p8 w 0).a9.length
    ·rw[q];simp
    ·rw[show((w.b9[k].a9.length:Int) != ((p8 w 0).a9.length:Int))=Y by simp;omega,show(w.b9[k].a9.length==(p8 w 0).a9.length)=W by simpa using q];rfl
   ·rfl
 ·have hz:¬(O w.c9)=0:=by simp at hn;omega
  rw[show((O w.c9)==0)=W by simpa using hz];rfl
def e5O{w:m6}(h:WI w)(hn:w.c9=[])(hb:a2N w)(hk:∀i,D3 i->G5 w i=G5 w 0):a7z w=Y:=by
 unfold a7z;rw[hn,g02,g05];refine⟨rfl,λn q => ?_⟩;obtain⟨k,hlt,e⟩:=g1E q;have hl:=h.nl;have hD:D3 (k:Int):=by unfold D3;omega
 have en:p8 w (k:Int)=n:=by
  rw[N6 hD];unfold E8;rw[g1p,g1f,g0Y hlt,g13,e]
 have h1:=hb _ hD;have h2:(p8 w (k:Int)).a9.length=(p8 w 0).a9.length:=hk _ hD;rw[en]at h1 h2;rw[h1,h2];simp
def c3Z{M:Nat}{B:Int}{x:m6}(h:AW x)(hb:SBw M B x){i:Nat}(hi:i<3):AW (t6 x ⟨7,(i:Int),[]⟩)/\SBw M B (t6 x ⟨7,(i:Int),[]⟩)/\(t6 x ⟨7,(i:Int),[]⟩).Told=x.Told/\p8 (t6 x ⟨7,(i:Int),[]⟩)=upd (p8 x) (i:Int) (U5 (p8 x (i:Int))):=by
 have hD:D3 (i:Int):=by unfold D3;omega
 have e:t6 x ⟨7,(i:Int),[]⟩=J9 x (i:Int) (U5 (p8 x (i:Int))):=by
  have hr:v5 (i:Int) 0 2=Y:=I1.2 (by omega);rw[N6 hD];unfold t6;simp only[hr];rfl
 have hn:p8 (t6 x ⟨7,(i:Int),[]⟩)=upd (p8 x) (i:Int) (U5 (p8 x (i:Int))):=a0L h.wi hi _ (by rw[e];rfl);obtain⟨M',m1,m2⟩:=a5O h.wi hb ⟨7,(i:Int),[]⟩ (B':=B) (by rw[if_neg (show ¬(7:Int)=5 by decide)];omega);have hM:=c2r m2 m1 λj hj=>by
  show(p8 (t6 x ⟨7,(i:Int),[]⟩) j).a9.length<=M
  rw[hn];unfold upd;split
  ·rename_i q;have:=(hb.n _ hD).k;exact this
  ·exact(hb.n j hj).k
 rw[hM]at m2;exact⟨a0V h (L4 7 _),m2,by rw[e];rfl,hn⟩
def f4P{y:m6}(h:AW y)(hc:a7z (a0d y 1)=Y):∃n,(n=0\/n=1)/\b8q y 1 4=U (n:Int)/\a7z (if n=0 then y else a0d y 1)=Y:=by
 have hr:=c44 h 1;unfold b8q;rw[a31 h.wi.ok,g0X,a0t.2 h.wi,Q7,g0X,I1.2 (by omega)];simp only[g04,g26];cases hq:a7z y
 ·refine⟨1,.inr rfl,?_,by simpa using hc⟩;rw[G7 (body:=λs:Int×m6=>a8H 1 4 s.1 s.2) (s:=(0,y)) (t:=(1,a0d y 1)) ?_]
  ·rw[a0o (body:=λs:Int×m6=>a8H 1 4 s.1 s.2) (s:=(1,a0d y 1)) (r:=1) ?_]
   ·rfl
   ·unfold a8H;simp only[b9y hr.wi,g0X,hc];rfl
  ·unfold a8H;simp only[b9y h.wi,g0X,hq,d1g h (i:=1) (by omega)];rfl
 ·refine⟨0,.inl rfl,?_,by simpa using hq⟩;rw[a0o (body:=λs:Int×m6=>a8H 1 4 s.1 s.2) (s:=(0,y)) (r:=0) ?_]
  ·rfl
  ·unfold a8H;simp only[b9y h.wi,g0X,hq];rfl
def e9U{code:List Int}(h:C4 1 a7b code):c4T code=U Y:=by
 unfold c4T;cases decide ((O code:Int)>1048576);case true=>rfl
 obtain⟨l,a1,a2,a3⟩:=e50 h.2;obtain⟨p1,p2,hw⟩:=f1K a2 a3;have ha:AW (a1x O7 l):=c9a f2B a2;obtain⟨M,_,sb⟩:=d8f WI.open e5e a2;simp only[g26,a1,f6N,d7F,p1,p2,g0X,f7n hw.ok,g04];generalize a1x O7 l=w at hw ha sb;have hn3:((O w.b9:Int) != 3)=W:=by rw[hw.nl];rfl
 rw[hn3,g26,c1T hw.ok (by rw[hw.nl];omega),g0X];cases hl:decide (((A9 w).length:Int)>25);case true=>rfl
 have hl:(A9 w).length<=25:=by simp at hl;omega
 rw[g26];obtain⟨bj,hbj,hb1,hb2⟩:=b44 hw;have hM:M<=25:=by
  obtain⟨i,hi,e⟩:=sb.t;have:=hb2 i hi;omega
 obtain⟨x1,s1,t1,n1⟩:=c3Z ha sb (i:=0) (by omega);obtain⟨x2,s2,t2,n2⟩:=c3Z x1 s1 (i:=1) (by omega);obtain⟨x3,s3,t3,n3⟩:=c3Z x2 s2 (i:=2) (by omega);have step:∀(k:Nat) (y:m6),k<3->AW y->a5o (k:Int) y=U (.nxt (((k+1:Nat):Int),t6 y ⟨7,(k:Int),[]⟩)):=by
  intro k y hk hy;unfold a5o;rw[show decide ((k:Int)<3)=Y by simp;omega,g25,f9B hy.wi (L4 7 _),g0X,F6 (by omega) (by omega)];congr 3
 have b3:∀y,a5o 3 y=U (.brk y):=λy=>by unfold a5o;rfl
 rw[G7 (body:=λs:Int×m6=>a5o s.1 s.2) (s:=(0,w)) (step 0 w (by omega) ha),G7 (body:=λs:Int×m6=>a5o s.1 s.2) (step 1 _ (by omega) x1),G7 (body:=λs:Int×m6=>a5o s.1 s.2) (step 2 _ (by omega) x2),F3 (body:=λs:Int×m6=>a5o s.1 s.2) (b3 _),g0X];simp only[r9.go];have nj:∀i,D3 i->p8 (t6 (t6 (t6 w ⟨7,((0:Nat):Int),[]⟩) ⟨7,((1:Nat):Int),[]⟩) ⟨7,((2:Nat):Int),[]⟩) i=U5 (p8 w i):=by
  intro i hi;rw[n3,n2,n1];rcases a4h hi with rfl|rfl|rfl<;>rfl
 have told:(t6 (t6 (t6 w ⟨7,((0:Nat):Int),[]⟩) ⟨7,((1:Nat):Int),[]⟩) ⟨7,((2:Nat):Int),[]⟩).Told=w.Told:=by rw[t3,t2,t1]
 generalize t6 (t6 (t6 w ⟨7,((0:Nat):Int),[]⟩) ⟨7,((1:Nat):Int),[]⟩) ⟨7,((2:Nat):Int),[]⟩=y at x3 s3 nj told;show c1V (A9 w) y=U Y
 have nb:a2N y:=λi hi=>by rw[nj i hi];rfl
 have dd:a0O M (0+3*(O l:Int)) y:=⟨x3.wi,λi hi=>by rw[nj i hi];rfl,s3⟩
 obtain⟨dr,dn⟩:=e8n dd;obtain⟨b,S,c1,c2⟩:=f0K (L:=1) dr.d (by omega) dn (a07 x3) (by omega) (by omega) (by unfold D3;omega);obtain⟨nb1,_,w1⟩:=b7V 800 x3.wi nb;obtain⟨nb2,_,w2⟩:=c6Q 1 4 w1 nb1;obtain⟨S',g1,g2,g3,g4⟩:=f5E c1 (b34 1 4 (a07 x3)) c2 nb2;have g1:R4 1 b (a0d y 1) S':=g1;have hr:=c44 x3 1;obtain⟨rb,rt⟩:=e8K x3.wi nb 1;have hk:∀i,D3 i->G5 (a0d y 1) i=S'.skL:=λi hi=>by
  obtain⟨k1,k2,k3⟩:=b7R g1;rcases b1k (L:=1) (by unfold D3;omega) hi with q|q|q
  ·rw[q,k1]
  ·rw[q,k2,g3]
  ·rw[q,k3,g4]
 have hcalm:a7z (a0d y 1)=Y:=e5O hr.wi (c1g g1 g2) rb λi hi=>by rw[hk i hi,hk 0 (by unfold D3;omega)]
 obtain⟨n,n01,e1,e2⟩:=f4P x3 hcalm;unfold c1V;rw[e1,g0X];have hloop:u5 (λs:Int×m6=>a7Z (n:Int) s.1 s.2) (0,y)=U (.brk (if n=0 then y else a0d y 1)):=by
  rcases n01 with rfl|rfl
  ·exact F3 (body:=λs:Int×m6=>a7Z ((0:Nat):Int) s.1 s.2) rfl
  ·have hl1:u5 (λs:Int×m6=>a7Z 1 s.1 s.2) (0,y)=U (.brk (a0d y 1)):=by
    rw[G7 (body:=λs:Int×m6=>a7Z 1 s.1 s.2) (s:=(0,y)) (t:=(1,a0d y 1)) ?_]
    ·exact F3 (body:=λs:Int×m6=>a7Z 1 s.1 s.2) rfl
    ·unfold a7Z;rw[e68 x3 (i:=1) (by omega)];rfl
   exact hl1
 rw[hloop,g0X];simp only[r9.go];obtain⟨ax,tx,kx⟩:AW (if n=0 then y else a0d y 1)/\(if n=0 then y else a0d y 1).Told=y.Told/\a16 y (if n=0 then y else a0d y 1):=by
  split
  ·exact⟨x3,rfl,.refl y⟩
  ·exact⟨hr,rt,e89 x3 1⟩
 generalize (if n=0 then y else a0d y 1)=x at e2 ax tx kx;show c0W (A9 w) y (n:Int) x=U Y
 unfold c0W;have hlx:a8p x=U (A9 x):=c1T ax.wi.ok (by rw[ax.wi.nl];omega);rw[hlx,g0X];have kwy:a16 w x:=λj=>by
  by_cases hj:D3 j
  ·obtain⟨t,e⟩:=kx j;exact⟨t,by rw[e,nj j hj];rfl⟩
  ·exact⟨[],by unfold D3 at hj;unfold p8;rw[if_neg hj,if_neg hj,g1i]⟩
 obtain⟨t,ht⟩:=f2S hw ax.wi ax.pw kwy;have hlw:=(c3n hw.ok (a0t.2 hw)).2;have hfl:z4 (A9 w):=hlw.1.fits (by decide);rw[O5 (A9 w) hfl (λ_=>Y) W () (λk hk => ?_) (by unfold b8m;rw[C1];rfl)]
 ·rw[g05.2 λ_ _=>rfl];simp only[g25,g0X,r9.go];unfold c3h;rw[decide_eq_true (show(n:Int)>=0 by omega),g25,b9y ax.wi,g0X,e2,g25,tx,e4H ax];simp
 ·unfold b8m;have hkx:k<(A9 x).length:=by rw[ht,g08];omega
  have ex:(A9 x)[k]=(A9 w)[k]:=by
   have:(A9 x)[k]?=(A9 w)[k]?:=by rw[ht,g1o hk]
   rw[g0Y hkx,g0Y hk]at this;exact g1Y this
  have hok:=hlw.1.2 _ (g01 hk);rw[B0 _ k hk,show decide ((k:Int)>=((A9 x).length:Int))=W by simp;omega,z8 hk,z8 hkx,ex];simp only[g25,g26,g0X,b3d hok];rfl
end
end Go.Proofs.YtffneplcebhckaaGreat
