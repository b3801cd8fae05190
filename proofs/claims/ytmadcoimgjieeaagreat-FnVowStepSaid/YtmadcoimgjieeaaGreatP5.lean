/- What the law leans on, part 5. -/
import Derived.Test.YtmadcoimgjieeaaGreatP4
set_option linter.unusedVariables false
set_option linter.unusedSimpArgs false
set_option linter.unnecessarySimpa false
namespace Go.Proofs.YtmadcoimgjieeaaGreat
open Go
open Option renaming bind_some->f8M,getD_some->g0d,map_some->g0i
open List renaming getElem?_eq_getElem->f8N,replicate->f8O,mem_append->f8P,getElem_mem->f8Q,all_eq_true->f8S,getElem?_eq_some_iff->f8U,mem_singleton->f8V,range->f8W,length_append->f9a,eq_nil_of_length_eq_zero->f9b,mem_of_getElem?->f9c,getD_eq_getElem?_getD->f9d,take_length->f9e,length_take->f9g,getElem?_append_right->f9h,append_assoc->f9i,drop_eq_getElem_cons->f9j,getElem?_set_ne->f9k,getElem?_append_left->f9l,getElem?_eq_none->f9m,getElem_of_mem->f9o,drop_eq_nil_of_le->f9q,take_succ_eq_append_getElem->f9s,flatten_cons->f9t,mem_map->f9w,mem_or_eq_of_mem_set->f9y,map_cons->f9z,append_nil->f9C,take_zero->f9D,any_eq_false->f9E,take_of_length_le->f9F,length_map->f9I,mem_replicate->f9J,findIdx?_eq_some_iff_getElem->f9L,nil_append->f9M,mem_range->f9P,mem_flatten->f9Q,mem_of_mem_drop->f9S,mem_of_mem_take->f9T,mem_take_iff_getElem->f9U,mem_filter->f9V,length_cons->f9X,length_singleton->f9Y,drop_zero->g0a,getElem?_set_self->g0e,map_append->g0f,getElem?_cons_succ->g0h,length_set->g0n,any_eq_true->g0p,getElem?_set->g0t,all_eq_false->g0u,find?_cons->g0A,length_nil->g0B,length_replicate->g0C,getElem?_of_mem->g0E,findIdx?_eq_none_iff->g0H,mem_iff_getElem->g0I,take_succ_cons->g0P,replicate_succ->g0Q,getElem_take->g0U,map_map->g0W,set_getElem_self->g0Y,getElem?_append->g00,drop_length->g02,length_drop->g03,mem_cons_of_mem->g04,any_cons->g05,mem_of_find?_eq_some->g07,length_zip->g08,find?_eq_none->g09
open Bool renaming and_eq_true->f8R,not_true->f8T,true_and->f8Y,not_eq_true'->f9v,not_false->f9x,false_or->f9B,or_eq_false_iff->g0c,eq_iff_iff->g0g,false_eq_true->g0k,and_true->g0m,not_eq_true->g0q,true_or->g0Z,not_not->g1a,and_assoc->g1b
open Nat renaming le_refl->f9f,mul_le_mul_right->f9u,le_trans->f9A,zero_add->f9W,succ_mul->g0b,add_zero->g0z
open Int renaming le_refl->f9n,tmod->f9p,toNat_natCast->f9r,le_trans->f9N
open Option.some renaming inj->g0j
open Classical renaming byContradiction->g0G
noncomputable section
def a4o(n:j6):Bool:=
 bif n.i9 then E4 n.i6&&(z4 n.b8&&(!n.b8.i7&&(([n.b8.a5.b9,n.b8.a5.Seq]:List Int)==[n.Id,n.Seq]))) else ((n.i6.length:Int)==0)&&J3 n.b8 zE
theorem e1a{n:j6}(h:O6 n):b8K n=some (a4o n):=by
 unfold b8K a4o;have hw:=h.2.2.2.2.2.2.2.2.2.2.2.1;simp only [c62 hw,c4F (h.2.2.2.2.2.2.2.2.2.2.1.fits (by decide)),a4b hw.f,f8M,a2X];cases n.i9<;>rfl
def b6R(l:List m4):Bool:=l.all fun e=>z4 e && !e.i7
def D8(n:j6):Bool:=p9 n.Id 0 2&&(O2 n.Acc&&(G4 n.a6&&(p9 n.Seq 0 1000&&(decide ((n.f0.length:Int)<=4)&&(a0t n&&(a4o n&&b6R n.f0))))))
theorem a9T{n:j6}(h:O6 n):a5p n=some (D8 n):=by
 unfold a5p D8;rw [c50];cases hId:p9 n.Id 0 2
 ·rfl
 ·rw [rng,e2n h.2.1,c8Y (okEntries.s h.2.2.1),e7u h hId,e1a h,I5 n.f0 (h.2.2.2.2.2.2.2.2.2.2.2.2.fits (by decide)) (fun e=>z4 e && !e.i7) false ()]
  ·unfold b6R c3d;rw [<-a4R];simp only [f8M,g1d];cases O2 n.Acc<;>cases G4 n.a6<;>cases p9 n.Seq 0 1000<;>cases decide ((n.f0.length:Int)>4)<;>cases a0t n<;>cases a4o n<;>cases n.f0.all (fun e=>z4 e && !e.i7)<;>rfl
  ·intro k hk;unfold b7I;rw [w6 _ k hk,t0 hk];simp only [g1d,f8M,a4b ((h.2.2.2.2.2.2.2.2.2.2.2.2).2 _ (f8Q hk)).f];cases z4 n.f0[k]<;>cases n.f0[k].i7<;>rfl
  ·unfold b7I;rw [z8];rfl
theorem a8W{n:j6}(h:O6 n):a4d n=some (D8 n):=by
 unfold a4d D8;rw [N7,f8M];cases hId:p9 n.Id 0 2
 ·rfl
 ·have hw:=h.2.2.2.2.2.2.2.2.2.2.2.1;have hk3:b8r n=some (a4o n&&a0t n):=by
   unfold b8r c5W a4o;simp only [c0d (h.2.2.2.2.2.2.2.2.2.2.1.fits (by decide)),a6R hw.f,a6F hw,e8F h hId,f8M];cases n.i9
   ·rw [d2R];cases ((n.i6.length:Int)==0)<;>cases J3 n.b8 zE<;>rfl
   ·cases E4 n.i6<;>cases z4 n.b8<;>cases n.b8.i7<;>cases (([n.b8.a5.b9,n.b8.a5.Seq]:List Int)==[n.Id,n.Seq])<;>rfl
  rw [d8W h.2.1,c63 (okEntries.s h.2.2.1),N7,hk3,I5 n.f0 (h.2.2.2.2.2.2.2.2.2.2.2.2.fits (by decide)) (fun e=>z4 e && !e.i7) false ()]
  ·unfold b6R;rw [<-a4R];simp only [f8M,f8T,g1e];cases O2 n.Acc<;>cases G4 n.a6<;>cases p9 n.Seq 0 1000<;>cases decide ((n.f0.length:Int)>4)<;>cases a0t n<;>cases a4o n<;>cases n.f0.all (fun e=>z4 e && !e.i7)<;>rfl
  ·intro k hk;unfold c0o;rw [w6 _ k hk,t0 hk];simp only [g1d,f8M,a6R ((h.2.2.2.2.2.2.2.2.2.2.2.2).2 _ (f8Q hk)).f];cases z4 n.f0[k]<;>cases n.f0[k].i7<;>rfl
  ·unfold c0o;rw [z8];rfl
def a68(m:l8):Bool:=
 let bal:=p9 m.a8 1 3000;let non:=J3 m.g9 zE;let nv:=(m.a7.length:Int)==0;bif m.a9==1 then bal&&(non&&nv) else
 bif m.a9==4 then bal&&(non&&nv) else
 bif m.a9==2 then bal&&(non&&(L4 m.a7&&decide (m7 (m.g8+(m.a7.length:Int))<=40))) else
 bif m.a9==3 then bal&&(decide (m.g8<40)&&(z4 m.g9&&nv)) else
 bif m.a9==5 then (m.a8==0)&&(decide (m.g8<40)&&(z4 m.g9&&nv)) else
 bif m.a9==6 then bal&&((m.g8==0)&&(non&&nv)) else
 bif m.a9==7 then (m.a8==0)&&((m.g8==0)&&(z4 m.g9&&(!m.g9.i7&&nv))) else
 bif m.a9==8 then (m.a8==0)&&(non&&nv) else false
def Q8(m:l8):Bool:=p9 m.c9 0 2&&(p9 m.To 0 2&&(!(m.c9==m.To)&&(p9 m.g8 0 40&&a68 m)))
theorem d8w{m:l8}(h:a0n m):b2Q m=some (Q8 m):=by
 unfold b2Q Q8 a68;have he:=h.2.2.2.2.2.1;simp only [N7,a6F he,a6R he.f,b4A h.2.2.2.2.2.2,f8M,a2X];cases p9 m.c9 0 2
 ·rfl
 cases p9 m.To 0 2
 ·rfl
 cases m.c9==m.To;case true=>rfl
 cases p9 m.g8 0 40
 ·rfl
 cases m.a9==1<;>cases m.a9==4<;>cases m.a9==2<;>cases m.a9==3<;>cases m.a9==5<;>cases m.a9==6<;>cases m.a9==7<;>cases m.a9==8<;>rfl
theorem f6R{m:l8}(h:a0n m):b7U m=some (Q8 m):=by
 unfold b7U Q8;have he:=h.2.2.2.2.2.1;have hj2:b67 m=b3O m (J3 m.g9 zE) (z4 m.g9&&decide (m.g8<40)):=by
  unfold b67;simp only [c62 he,a4b he.f,f8M];cases z4 m.g9<;>rfl
 have hj:∀nv:Bool,nv=((m.a7.length:Int)==0)->(m.a9==2||nv)=true->b3O m (J3 m.g9 zE) (z4 m.g9&&decide (m.g8<40))=some (a68 m):=by
  intro nv hnv hk;unfold b3O a68;simp only [b0j,c6S h.2.2.2.2.2.2,a4b he.f,f8M,a2X];rw [<-hnv];cases h1:m.a9==1;case true=>
   have:(m.a9==2)=false:=by
    simp only [beq_iff_eq] at h1;rw [h1];rfl
   rw [this,f9B] at hk;simp only [g1d,hk,g0m]
  cases h2:m.a9==2;case true=>
   cases h4:m.a9==4
   ·rfl
   ·simp only [beq_iff_eq] at h2 h4;omega
  rw [h2,f9B] at hk;subst hk;cases h3:m.a9==3;case true=>
   cases h4:m.a9==4
   ·simp only [g1d,g1e,g0m];cases p9 m.a8 1 3000<;>cases z4 m.g9<;>cases decide (m.g8<40)<;>rfl
   ·simp only [beq_iff_eq] at h3 h4;omega
  cases h4:m.a9==4;case true=>simp only [g1d,g1e,g0m]
  simp only [g1e];cases m.a9==5;case true=>
   simp only [g1d,g0m];cases m.a8==0<;>cases z4 m.g9<;>cases decide (m.g8<40)<;>rfl
  simp only [g1e];cases m.a9==6;case true=>
   simp only [g1d,g0m];cases p9 m.a8 1 3000<;>cases J3 m.g9 zE<;>cases m.g8==0<;>rfl
  cases m.a9==7<;>cases m.a9==8<;>simp only [g1d,g1e,g0m,f8Y,Bool.false_and]
 rw [hj2,c50];cases p9 m.c9 0 2
 ·rfl
 simp only [g1d,f8Y];rw [c50];cases p9 m.To 0 2
 ·rfl
 simp only [g1d,f8Y];cases m.c9==m.To;case true=>rfl
 simp only [g1e,f9x,f8Y];rw [rng];cases p9 m.g8 0 40
 ·rfl
 simp only [g1d,f8Y];rw [d2R];cases h2:m.a9==2
 ·rw [show (m.a9 != 2)=true from by rw [bne,h2];rfl];cases hv:((m.a7.length:Int)==0)
  ·show some false=_
   have:a68 m=false:=by
    unfold a68;rw [h2,hv];simp
   rw [this]
  ·exact hj true hv.symm (by simp)
 ·rw [show (m.a9 != 2)=false from by rw [bne,h2];rfl];exact hj _ rfl (by rw [h2];rfl)
def T6(t:n6):Bool:=p9 t.Node 0 2&&((p9 t.a5.b9 0 2&&p9 t.a5.Seq 1 1000)&&((t.a5.b9==t.Node)&&(p9 t.Code 0 4&&p9 t.d8 (-1000000) 1000000)))
theorem d9L(t:n6):b7f t=some (T6 t):=by
 unfold b7f T6;simp only [c3F,a8O,f8M,a2X];have e1:p9 t.Node 0 2=(decide (t.Node>=0)&&decide (t.Node<3)):=by
  unfold p9;by_cases h1:t.Node>=0<;>by_cases h2:t.Node<3<;>simp [h1,h2]<;>omega
 have e2:p9 t.Code 0 4=(decide (t.Code>=0)&&decide (t.Code<=4)):=by
  unfold p9;by_cases h1:t.Code>=0<;>by_cases h2:t.Code<=4<;>simp [h1,h2]<;>omega
 rw [e1,e2];simp only [g1b]
def Z8(x:x8):Bool:=(p9 x.a5.b9 0 2&&p9 x.a5.Seq 1 1000)&&E4 x.i6
def a3Y(w:m5)(k:Nat):Bool:=match w.a0[k]? with
 | some n=>(n.Id==(k:Int))&&D8 n
 | none=>true
def z9(w:m5):Bool:=((w.a0.length:Int)==3)&&(decide ((w.d7.length:Int)<=40)&&(decide ((w.d9.length:Int)<=60)&&(decide ((w.Told.length:Int)<=60)&&((f8W w.a0.length).all (a3Y w)&&(w.d7.all Q8&&(w.d9.all Z8&&w.Told.all T6))))))
theorem a6s{w:m5}(h:K5 w):a3A w=some (z9 w):=by
 have k7:c0b w=some (w.Told.all T6):=by
  unfold c0b;rw [I5 w.Told (h.2.2.2.fits (by decide)) T6 false ()]
  ·cases w.Told.all T6<;>rfl
  ·intro k hk;unfold b5L;rw [w6 _ k hk,t0 hk];simp only [g1d,f8M,d9L];cases T6 w.Told[k]<;>rfl
  ·unfold b5L;rw [z8];rfl
 have k9:b6F w=some (w.d9.all Z8&&w.Told.all T6):=by
  unfold b6F;rw [I5 w.d9 (h.2.2.1.fits (by decide)) Z8 false ()]
  ·rw [k7];cases w.d9.all Z8<;>rfl
  ·intro k hk;unfold b91;rw [w6 _ k hk,t0 hk];simp only [g1d,f8M,c3F,c4F ((h.2.2.1.2 _ (f8Q hk)).2.fits (by decide))];unfold Z8;cases p9 w.d9[k].a5.b9 0 2&&p9 w.d9[k].a5.Seq 1 1000<;>cases E4 w.d9[k].i6<;>rfl
  ·unfold b91;rw [z8];rfl
 have k11:b7R w=some (w.d7.all Q8&&(w.d9.all Z8&&w.Told.all T6)):=by
  unfold b7R;rw [I5 w.d7 (h.2.1.fits (by decide)) Q8 false ()]
  ·rw [k9];cases w.d7.all Q8<;>rfl
  ·intro k hk;unfold b8P;rw [w6 _ k hk,t0 hk];simp only [g1d,f8M,f6R (h.2.1.2 _ (f8Q hk))];cases Q8 w.d7[k]<;>rfl
  ·unfold b8P;rw [z8];rfl
 unfold a3A z9;rw [W1 w.a0 (h.1.fits (by decide)) (a3Y w) false ()]
 ·rw [k11];simp only [<-a4R];rw [show ((w.a0.length:Int)==3) = !((w.a0.length:Int) != 3) from by simp [bne]];cases ((w.a0.length:Int) != 3)<;>cases decide ((w.d7.length:Int)>40)<;>cases decide ((w.d9.length:Int)>60)<;>cases decide ((w.Told.length:Int)>60)<;>cases (f8W w.a0.length).all (a3Y w)<;>rfl
 ·intro k hk _;unfold b7g;rw [w6 _ k hk,t0 hk];simp only [g1d,f8M,a9T (h.1.2 _ (f8Q hk)),a3Y,f8N hk,bne];cases w.a0[k].Id==(k:Int)<;>cases D8 w.a0[k]<;>rfl
 ·unfold b7g;rw [z8];rfl
theorem a5i{w:m5}(h:K5 w):a2L w=some (z9 w):=by
 have k7:b9D w=some (w.Told.all T6):=by
  unfold b9D;rw [I5 w.Told (h.2.2.2.fits (by decide)) T6 false ()]
  ·cases w.Told.all T6<;>rfl
  ·intro k hk;unfold c03;rw [w6 _ k hk,t0 hk];simp only [g1d,f8M,N7,b9p];unfold T6;rw [show (w.Told[k].a5.b9==w.Told[k].Node) = !(w.Told[k].a5.b9 != w.Told[k].Node) from by simp [bne]];cases p9 w.Told[k].Node 0 2<;>cases p9 w.Told[k].a5.b9 0 2&&p9 w.Told[k].a5.Seq 1 1000<;>cases (w.Told[k].a5.b9 != w.Told[k].Node)<;>cases p9 w.Told[k].Code 0 4<;>cases p9 w.Told[k].d8 (-1000000) 1000000<;>rfl
  ·unfold c03;rw [z8];rfl
 have k9:b8s w=some (w.d9.all Z8&&w.Told.all T6):=by
  unfold b8s;rw [I5 w.d9 (h.2.2.1.fits (by decide)) Z8 false ()]
  ·rw [k7];cases w.d9.all Z8<;>rfl
  ·intro k hk;unfold b9R;rw [w6 _ k hk,t0 hk];simp only [g1d,f8M,b9p,c0d ((h.2.2.1.2 _ (f8Q hk)).2.fits (by decide))];unfold Z8;cases p9 w.d9[k].a5.b9 0 2&&p9 w.d9[k].a5.Seq 1 1000<;>cases E4 w.d9[k].i6<;>rfl
  ·unfold b9R;rw [z8];rfl
 have k11:b9f w=some (w.d7.all Q8&&(w.d9.all Z8&&w.Told.all T6)):=by
  unfold b9f;rw [I5 w.d7 (h.2.1.fits (by decide)) Q8 false ()]
  ·rw [k9];cases w.d7.all Q8<;>rfl
  ·intro k hk;unfold b7l;rw [w6 _ k hk,t0 hk];simp only [g1d,f8M,d8w (h.2.1.2 _ (f8Q hk))];cases Q8 w.d7[k]<;>rfl
  ·unfold b7l;rw [z8];rfl
 unfold a2L z9;rw [W1 w.a0 (h.1.fits (by decide)) (a3Y w) false ()]
 ·rw [k11];simp only [<-a4R];rw [show ((w.a0.length:Int)==3) = !((w.a0.length:Int) != 3) from by simp [bne]];cases ((w.a0.length:Int) != 3)<;>cases decide ((w.d7.length:Int)>40)<;>cases decide ((w.d9.length:Int)>60)<;>cases decide ((w.Told.length:Int)>60)<;>cases (f8W w.a0.length).all (a3Y w)<;>rfl
 ·intro k hk _;unfold c0x;rw [w6 _ k hk,t0 hk];simp only [g1d,f8M,a8W (h.1.2 _ (f8Q hk)),a3Y,f8N hk,bne];cases w.a0[k].Id==(k:Int)<;>cases D8 w.a0[k]<;>rfl
 ·unfold c0x;rw [z8];rfl
theorem d0y{α:Type}{p:List α->List α->Nat->Bool}(hp:∀(a b:List α) (k:Nat) (x y:α),a[k]?=some x->b[k]?=some y->(p a b k=true↔x=y))(a b:List α):(a.length==b.length&&(f8W a.length).all (p a b))=true↔a=b:=by
 constructor
 ·intro h;simp only [f8R,beq_iff_eq,f8S,f9P] at h;refine List.ext_getElem h.1 fun i h1 h2 => ?_
  exact (hp a b i _ _ (f8N h1) (f8N h2)).1 (h.2 i h1)
 ·rintro rfl
  simp only [f8R,beq_iff_eq,f8S,f9P,true_and];intro k hk;exact (hp a a k _ _ (f8N hk) (f8N hk)).2 rfl
theorem d5H(a b:n7):a4L a b=true↔a=b:=by
 have h1:=d0y (p:=a2y) (fun a b k x y hx hy=>by
  unfold a2y;rw [hx,hy];cases x;cases y;simp) a.b5 b.b5
 have h2:=d0y (p:=a2S) (fun a b k x y hx hy=>by
  unfold a2S;rw [hx,hy];cases x;cases y;simp) a.b7 b.b7
 unfold a4L;rw [f8R,h1,f8R,h2,f8R,beq_iff_eq,beq_iff_eq];cases a;cases b;simp
theorem a0J(a b:m4):J3 a b=true↔a=b:=by
 unfold J3;rw [f8R,f8R,d5H];obtain ⟨n,⟨q1,q2⟩,r⟩:=a;obtain ⟨n',⟨q1',q2'⟩,r'⟩:=b;simp [and_assoc]
theorem I0{n lo hi:Int}:p9 n lo hi=true↔lo<=n/\n<=hi:=by unfold p9;simp
theorem c38{w:m5}(h:z9 w=true):w.a0.length=3/\∀n∈w.a0,D8 n=true:=by
 unfold z9 at h;simp only [f8R,beq_iff_eq,f8S,f9P] at h;refine ⟨by omega,fun n hn => ?_⟩;obtain ⟨i,hi,rfl⟩:=f9o hn;have:=h.2.2.2.2.1 i hi;unfold a3Y at this;rw [f8N hi] at this;simp only [f8R] at this;exact this.2
theorem b1P{n:j6}(h:D8 n=true):p9 n.Id 0 2=true/\O2 n.Acc=true/\G4 n.a6=true/\a0t n=true/\a4o n=true:=by
 unfold D8 at h;simp only [f8R] at h;exact ⟨h.1,h.2.1,h.2.2.1,h.2.2.2.2.2.1,h.2.2.2.2.2.2.1⟩
theorem e3X{l:List m8}(h:L4 l=true):l.length<=40/\∀v∈l,0<=v.a8:=by
 unfold L4 at h;simp only [f8R,decide_eq_true_eq,f8S] at h;refine ⟨h.1,fun v hv => ?_⟩;have:=h.2 v hv;unfold a0e at this;cases hb:v.a8==0
 ·rw [hb] at this;simp only [g1e,f8R,I0] at this;omega
 ·simp only [beq_iff_eq] at hb;omega
theorem e2U{a:z0}(h:O2 a=true):a.a7.length<=40/\∀v∈a.a7,0<=v.a8:=by
 unfold O2 at h;simp only [f8R] at h;exact e3X h.2.1
theorem c7Q{n:j6}(hId:p9 n.Id 0 2=true)(h:a0t n=true):0<=n.a8/\(n.d6=3->1<=n.a8):=by
 unfold a0t at h;cases h0:n.d6==0
 ·rw [h0] at h;simp only [g1e,f8R] at h;have:=I0.1 (c6c hId h.1);omega
 ·rw [h0] at h;simp only [g1d,f8R,beq_iff_eq] at h h0;omega
theorem e55{l:List r9}(h:A2 16 d7G l):a3j l=some l:=by
 have hb:=h.1;unfold a3j;cases hl:((l.length:Int)==0)
 ·rw [g1e,v5 (by constructor<;>omega),v5 (by simp)]
 ·simp only [beq_iff_eq] at hl;have:l=[]:=f9b (by omega);rw [this];rfl
theorem e81{l:List p8}(h:A2 16 d6k l):a8i l=some l:=by
 have hb:=h.1;unfold a8i;cases hl:((l.length:Int)==0)
 ·rw [g1e,v5 (by constructor<;>omega),v5 (by simp)]
 ·simp only [beq_iff_eq] at hl;have:l=[]:=f9b (by omega);rw [this];rfl
theorem b3Y{e:m4}(h:F3 e):a6D e=some e:=by
 unfold a6D c2s;rw [e55 h.2.1,f8M,e81 h.2.2.1];rfl
theorem a0V{e:m4}(h:F3 e):X7 e=some e:=by
 have h1:=h.2.1.1;have h2:=h.2.2.1.1;unfold X7 c1P;rw [v5 (by simp;omega),v5 (by simp;omega)];rfl
theorem d8Z{l:List m4}(h:A2 88 F3 l):b53 l=some l:=by
 have hb:=h.1;unfold b53;cases hl:((l.length:Int)==0)
 ·rw [g1e,v5 (by constructor<;>omega),v5 (by simp)]
 ·simp only [beq_iff_eq] at hl;have:l=[]:=f9b (by omega);rw [this];rfl
theorem c1z{l:List m4}(h:A2 88 F3 l):b0Y l=some l:=by
 have hf:s7 l:=h.fits (by decide);unfold b0Y;rw [d8Z h,f8M];have hl:=V0 (body:=fun s:(List m4)×Int=>b2c l s.1 s.2) (fun k=>(l,(k:Int))) l.length (by
  intro k hk;unfold b2c;rw [w6 _ k hk,t0 hk];simp only [g1d,f8M,b3Y (h.2 _ (f8Q hk)),E6 hf hk,f9r,g0Y])
 rw [show ((0:Nat):Int)=0 from rfl] at hl;rw [hl,C7 (b:=l)]
 ·rfl
 ·unfold b2c;rw [z8];rfl
theorem c6r{l:List m4}(h:A2 88 F3 l):a94 l=some l:=by
 have hf:s7 l:=h.fits (by decide);have hb:=h.1;unfold a94;have hl:=V0 (body:=fun s:(List m4)×Int=>b5c l s.1 s.2) (fun k=>(l.take k,(k:Int))) l.length (by
  intro k hk;unfold b5c;rw [w6 _ k hk,t0 hk];simp only [g1d,f8M,a0V (h.2 _ (f8Q hk)),E6 hf hk];rw [v5 (by rw [f9g];omega),f9s hk])
 rw [show ((0:Nat):Int)=0 from rfl,f9D] at hl;rw [hl,f9e,C7 (b:=l)]
 ·rfl
 ·unfold b5c;rw [z8];rfl
def best(w:m5):Nat->Nat
 | 0=>0
 | k+1=>match w.a0[k]?,w.a0[best w k]? with
  | some a,some b=>bif decide ((a.a6.length:Int)>(b.a6.length:Int)) then k else best w k
  | _,_=>best w k
theorem a5R(w:m5):∀k,0<w.a0.length->k<=w.a0.length->best w k<w.a0.length
 | 0,h,_=>h
 | k+1,h,hk=>by
  have hb:=a5R w k h (by omega);unfold best;rw [f8N (show k<w.a0.length by omega),f8N hb];simp only;cases decide ((w.a0[k].a6.length:Int)>(w.a0[best w k].a6.length:Int))
  ·exact hb
  ·exact hk
theorem c3l{w:m5}{k:Nat}(h:0<w.a0.length)(hk:k<w.a0.length):best w (k+1)=bif decide ((w.a0[k].a6.length:Int)>((w.a0[best w k]'(a5R w k h (by omega))).a6.length:Int)) then k else best w k:=by
 conv=>lhs;unfold best
 rw [f8N hk,f8N (a5R w k h (by omega))]
def ist(w:m5):Nat->Int×Int
 | 0=>(-1,0)
 | k+1=>((best w (k+1):Int),((k+1:Nat):Int))
def u7(w:m5):List m4:=match w.a0[best w w.a0.length]? with
 | some n=>n.a6
 | none=>[]
theorem d4J{w:m5}(h:K5 w)(hn:0<w.a0.length):b2k w=some (u7 w):=by
 have hf:s7 w.a0:=h.1.fits (by decide);unfold b2k;have hl:=V0 (body:=fun s:Int×Int=>b3c w s.1 s.2) (fun k=>((best w k:Int),(k:Int))) w.a0.length (by
  intro k hk;have hb:=a5R w k hn (by omega);unfold b3c c2t;rw [w6 _ k hk,t0 hk,t0 hb,c3l hn hk];simp only [g1d,f8M,E6 hf hk];cases decide ((w.a0[k].a6.length:Int)>(w.a0[best w k].a6.length:Int))<;>rfl)
 rw [show ((0:Nat):Int)=0 from rfl,show best w 0=0 from rfl] at hl;have hbn:=a5R w w.a0.length hn (f9f _);rw [show ((0:Nat):Int)=0 from rfl] at hl;rw [hl,C7 (b:=(best w w.a0.length:Int))]
 ·simp only [f8M,l9.go];unfold c5z u7;rw [show ((w.a0.length:Int)==0)=false from by rw [<-g0q,beq_iff_eq];omega,t0 hbn,f8N hbn];simp only [g1e,f8M,c6r (h.1.2 _ (f8Q hbn)).2.2.1]
 ·unfold b3c;rw [z8];rfl
theorem c78{w:m5}(h:K5 w)(hn:0<w.a0.length):b4U w=some (u7 w):=by
 have hf:s7 w.a0:=h.1.fits (by decide);unfold b4U;have hl:=V0 (body:=fun s:Int×Int=>a5O w s.1 s.2) (ist w) w.a0.length (by
  intro k hk;cases k with
  | zero=>
   show a5O w (-1) 0=some (.nxt ((best w (0+1):Int),((0+1:Nat):Int)))
   unfold a5O b7s;rw [show decide ((0:Int)<(w.a0.length:Int))=true from by simpa using hk,show idx w.a0 0=some w.a0[0] from t0 hk,show best w (0+1)=0 from by rw [c3l hn hk];cases decide ((w.a0[0].a6.length:Int)>(w.a0[best w 0].a6.length:Int))<;>rfl];simp only [g1d,f8M];have:m7 ((0:Int)+1)=((0+1:Nat):Int):=E6 hf hk;rw [this];rfl
  | succ k=>
   have hb:=a5R w (k+1) hn (by omega);show a5O w (best w (k+1):Int) ((k+1:Nat):Int)=some (.nxt ((best w (k+1+1):Int),((k+1+1:Nat):Int)))
   unfold a5O b7s;rw [w6 _ (k+1) hk,t0 hk,t0 hb,c3l hn hk,show decide ((best w (k+1):Int)<0)=false from by simp];simp only [g1d,g1e,f8M,E6 hf hk];cases decide ((w.a0[k+1].a6.length:Int)>(w.a0[best w (k+1)].a6.length:Int))<;>rfl)
 have hbn:=a5R w w.a0.length hn (f9f _);obtain ⟨m,hm⟩:∃m,w.a0.length=m+1:=⟨w.a0.length-1,by omega⟩
 rw [show ist w w.a0.length=((best w w.a0.length:Int),(w.a0.length:Int)) from by rw [hm];rfl] at hl;rw [show o7 (fun s:Int×Int=>a5O w s.1 s.2) ((-1:Int),(0:Int))=_ from hl,C7 (b:=(best w w.a0.length:Int))]
 ·simp only [f8M,l9.go];unfold c29 u7;rw [show decide ((best w w.a0.length:Int)<0)=false from by simp,t0 hbn,f8N hbn];simp only [g1e,f8M,c1z (h.1.2 _ (f8Q hbn)).2.2.1]
 ·unfold a5O;rw [z8];rfl
theorem b8y{w:m5}(h:K5 w)(hw:z9 w=true):0<w.a0.length/\A2 88 F3 (u7 w)/\G4 (u7 w)=true:=by
 obtain ⟨h3,hn⟩:=c38 hw;have h0:0<w.a0.length:=by omega
 have hb:=a5R w w.a0.length h0 (f9f _);refine ⟨h0,?_,?_⟩
 ·unfold u7;rw [f8N hb];exact (h.1.2 _ (f8Q hb)).2.2.1
 ·unfold u7;rw [f8N hb];exact (b1P (hn _ (f8Q hb))).2.2.1
def D6(q:n5)(e:m4):Bool := !e.i7&&(([e.a5.b9,e.a5.Seq]:List Int)==[q.b9,q.Seq])
theorem b03{α R S B:Type}{body:S->Option (j7 R S B)}(st:Nat->S)(l:List α)(is:α->Bool)(r:Nat->R)(b:B)(h1:∀(k:Nat) (h:k<l.length),body (st k)=some (bif is l[k] then .ret (r k) else .nxt (st (k+1))))(h2:body (st l.length)=some (.brk b)) :
  o7 body (st 0)=some (match l.findIdx? is with|some k=>.ret (r k)|none=>.brk b):=by
 rcases a4O (body:=body) st l.length (fun k=>match l[k]? with|some x => !is x|none=>true) r b
  (fun k hk _=>by
   rw [h1 k hk,f8N hk];simp only;cases is l[k]<;>rfl) (fun _=>h2) with ⟨h,hall⟩|⟨k,hk,ho,hb,h⟩
 ·have:l.findIdx? is=none:=by
   rw [g0H];intro x hx;obtain ⟨i,hi,rfl⟩:=f9o hx;have:=hall i hi;rw [f8N hi] at this;simpa using this
  rw [this];exact h
 ·have:l.findIdx? is=some k:=by
   rw [f9L];refine ⟨hk,?_,fun j hj => ?_⟩
   ·rw [f8N hk] at ho;simpa using ho
   ·have:=hb j hj;rw [f8N (show j<l.length by omega)] at this;simpa using this
  rw [this];exact h
theorem b39{l:List m4}(h:s7 l)(q:n5):a6E l q=some (match l.findIdx? (D6 q) with|some k=>(k:Int)|none => -1):=by
  unfold a6E;rw [show o7 (fun s:Int=>b0x l q s) 0=_ from b03 (body:=fun s:Int=>b0x l q s) (fun k=>(k:Int)) l (D6 q) (fun k=>(k:Int)) () (by
      intro k hk;unfold b0x c57 D6;rw [w6 _ k hk,t0 hk,<-E6 h hk];simp only [g1d,f8M];cases l[k].i7<;>cases (([l[k].a5.b9,l[k].a5.Seq]:List Int)==[q.b9,q.Seq])<;>rfl) (by
      unfold b0x;rw [z8];rfl)]
  cases l.findIdx? (D6 q)<;>rfl
theorem c9B{l:List m4}(h:s7 l)(q:n5):b09 l q=some (match l.findIdx? (D6 q) with|some k=>(match l[k]? with|some e=>e.b6.d8|none=>0)|none=>0):=by
  unfold b09;rw [show o7 (fun s:Int=>b0m l q s) 0=_ from b03 (body:=fun s:Int=>b0m l q s) (fun k=>(k:Int)) l (D6 q) (fun k=>match l[k]? with|some e=>e.b6.d8|none=>0) () (by
      intro k hk;unfold b0m c6m D6;rw [w6 _ k hk,t0 hk,<-E6 h hk,f8N hk];simp only [g1d,f8M];cases l[k].i7<;>cases (([l[k].a5.b9,l[k].a5.Seq]:List Int)==[q.b9,q.Seq])<;>rfl) (by
      unfold b0m;rw [z8];rfl)]
  cases l.findIdx? (D6 q)<;>rfl
theorem c54{l:List m4}(hl:l.length<=40)(he:l.all z4=true){k:Nat}(hk:k<l.length):(p6 l).2[k]?=some (apply (p6 (l.take k)).1 l[k]).2:=by
 have key:∀m,k<m->m<=l.length->(p6 (l.take m)).2[k]?=some (apply (p6 (l.take k)).1 l[k]).2:=by
  intro m;induction m with
  | zero=>omega
  | succ m ih=>
   intro h1 h2;have hlen:=(P6 hl he m (by omega)).2.1;rw [a0W (show m<l.length by omega)];unfold b0s;simp only;by_cases q:k<m
   ·rw [f9l (by omega)];exact ih q (by omega)
   ·have:k=m:=by omega
    subst this;rw [f9h (by omega),hlen];simp
 have:=key l.length hk (f9f _);rwa [f9e] at this
def L0(l:List m4)(k:Nat):Int:=(p6 l).2[k]?.getD 0
theorem f7J{l:List m4}(h:A2 88 F3 l)(hok:G4 l=true)(q:n5):b57 l q=some (match l.findIdx? (D6 q) with|some k=>(L0 l k,true)|none=>(0,false)):=by
 obtain ⟨hl,he⟩:=W8 hok;have hf:s7 l:=h.fits (by decide);unfold b57;rw [b6A,f8M];have:=b03 (body:=fun s:(List m9)×Int×Int×List q9=>b0Q l q s.1 s.2.1 s.2.2.1 s.2.2.2) (fun k=>((p6 (l.take k)).1.g7,(k:Int),(p6 (l.take k)).1.At,(p6 (l.take k)).1.i8)) l (D6 q) (fun k=>(L0 l k,true)) () (by
   intro k hk;obtain ⟨h1,h2,h3⟩:=P6 hl he k (by omega);unfold b0Q c2D D6 L0;rw [w6 _ k hk,t0 hk,c54 hl he hk,a0W hk,<-E6 hf hk];simp only [g1d,f8M];rw [show (⟨(p6 (l.take k)).1.At,(p6 (l.take k)).1.g7,(p6 (l.take k)).1.i8⟩:u5)=(p6 (l.take k)).1 from rfl,b9W h1 (by omega) (f8S.1 he _ (f8Q hk)) (h.2 _ (f8Q hk)).f,f8M];cases l[k].i7<;>cases (([l[k].a5.b9,l[k].a5.Seq]:List Int)==[q.b9,q.Seq])<;>rfl) (by
   unfold b0Q;rw [z8];rfl)
 rw [f9D] at this;rw [show o7 (fun s:(List m9)×Int×Int×List q9=>b0Q l q s.1 s.2.1 s.2.2.1 s.2.2.2) (P9.g7,0,P9.At,P9.i8)=_ from this];cases l.findIdx? (D6 q)<;>rfl
def a3Z(l:List m4)(t:n6):Bool:=match l.findIdx? (D6 t.a5) with
 | some k=>(L0 l k==t.Code)&&((bif t.Code==0 then (match l[k]? with|some e=>e.b6.d8|none=>0) else 0)==t.d8)
 | none=>false
theorem e6c{w:m5}(h:K5 w)(hw:z9 w=true):b4I w=some (w.Told.all (a3Z (u7 w))):=by
 unfold b4I;rw [a6s h,f8M,hw];obtain ⟨h0,hlo,hok⟩:=b8y h hw;obtain ⟨hl,he⟩:=W8 hok;have hf:s7 w.Told:=h.2.2.2.fits (by decide);have hfl:s7 (u7 w):=hlo.fits (by decide);have hcl:(p6 (u7 w)).2.length=(u7 w).length:=by
  have:=(P6 hl he (u7 w).length (f9f _)).2.1;rwa [f9e] at this
 simp only [f8T,g1e];rw [d4J h h0,f8M];rw [I5 w.Told hf (a3Z (u7 w)) false ()]
 ·cases w.Told.all (a3Z (u7 w))<;>rfl
 ·intro k hk;unfold b6O c4I a3Z;rw [w6 _ k hk,t0 hk];simp only [g1d,f8M,f7J hlo hok,c9B hfl];cases (u7 w).findIdx? (D6 w.Told[k].a5) with
  | none=>rfl
  | some i=>
   simp only;cases hc:L0 (u7 w) i==w.Told[k].Code
   ·rw [show (L0 (u7 w) i != w.Told[k].Code)=true from by rw [bne,hc];rfl];cases L0 (u7 w) i==0<;>rfl
   ·rw [show (L0 (u7 w) i != w.Told[k].Code)=false from by rw [bne,hc];rfl];simp only [beq_iff_eq] at hc;rw [hc];cases w.Told[k].Code==0<;>simp only [g1d,g1e,f8M,l9.go,bne,f8Y,f8T]<;>(cases (_:Int)==w.Told[k].d8<;>rfl)
 ·unfold b6O;rw [z8];rfl
theorem e9s{w:m5}(h:K5 w)(hw:z9 w=true):b2M w=some (w.Told.all (a3Z (u7 w))):=by
 unfold b2M;rw [a5i h,f8M,hw];obtain ⟨h0,hlo,hok⟩:=b8y h hw;obtain ⟨hl,he⟩:=W8 hok;have hf:s7 w.Told:=h.2.2.2.fits (by decide);have hfl:s7 (u7 w):=hlo.fits (by decide);have hcl:(p6 (u7 w)).2.length=(u7 w).length:=by
  have:=(P6 hl he (u7 w).length (f9f _)).2.1;rwa [f9e] at this
 simp only [f8T,g1e];rw [c78 h h0,f8M,b7e (okEntries.s hlo) hl he,f8M];rw [I5 w.Told hf (a3Z (u7 w)) false ()]
 ·cases w.Told.all (a3Z (u7 w))<;>rfl
 ·intro k hk;unfold b9B c4i a3Z;rw [w6 _ k hk,t0 hk];simp only [g1d,f8M,b39 hfl];cases hfi:(u7 w).findIdx? (D6 w.Told[k].a5) with
  | none=>rfl
  | some i=>
   obtain ⟨hi,_⟩:=f9L.1 hfi;simp only;rw [show decide ((i:Int)<0)=false from by simp,t0 (show i<(p6 (u7 w)).2.length by omega),t0 hi,f8N hi];have hco:L0 (u7 w) i=(p6 (u7 w)).2[i]'(by omega):=by unfold L0;rw [f8N (by omega)];rfl
   rw [hco];simp only [g1e,f8M];cases hc:(p6 (u7 w)).2[i]'(by omega)==w.Told[k].Code
   ·rw [show ((p6 (u7 w)).2[i]'(by omega) != w.Told[k].Code)=true from by rw [bne,hc];rfl];rfl
   ·rw [show ((p6 (u7 w)).2[i]'(by omega) != w.Told[k].Code)=false from by rw [bne,hc];rfl];have hcomm:∀x:Int,(w.Told[k].d8==x)=(x==w.Told[k].d8):=fun x=>by
     rw [g0g,beq_iff_eq,beq_iff_eq];exact eq_comm
    cases w.Told[k].Code==0<;>simp only [g1d,g1e,f8M,l9.go,bne,f8Y,f8T,hcomm]<;>(cases (_:Int)==w.Told[k].d8<;>rfl)
 ·unfold b9B;rw [z8];rfl
theorem c1H{α B R:Type}{body:Int->Option (j7 R Int B)}(l:List α)(hl:s7 l)(ok:α->Bool)(v:R)(b:B)(h1:∀(k:Nat) (h:k<l.length),body (k:Int)=some (bif ok l[k] then .nxt (m7 ((k:Int)+1)) else .ret v))(h2:body (l.length:Int)=some (.brk b)):o7 body 0=some (bif l.all ok then .brk b else .ret v):=by
 have h:=a4O (body:=body) (fun k=>(k:Int)) l.length (fun k=>match l[k]? with|some x=>ok x|none=>true) (fun _=>v) b
  (fun k hk _=>by
   have:=h1 k hk;rw [E6 hl hk] at this;simpa [f8N hk] using this) (fun _=>h2)
 rcases h with ⟨h,hall⟩|⟨k,hk,ho,_,h⟩
 ·have:l.all ok=true:=by
   rw [f8S];intro x hx;obtain ⟨i,hi,rfl⟩:=f9o hx;have:=hall i hi;simpa [f8N hi] using this
  rw [this];exact h
 ·have:l.all ok=false:=by
   rw [g0u];refine ⟨l[k],f8Q hk,?_⟩;simpa [f8N hk] using ho
  rw [this];exact h
theorem b3A{l:List r9}(h:l.length<=1000):a3j l=some l:=by
 unfold a3j;cases hl:((l.length:Int)==0)
 ·rw [g1e,v5 (by constructor<;>omega),v5 (by simp)]
 ·simp only [beq_iff_eq] at hl;have:l=[]:=f9b (by omega);rw [this];rfl
theorem f6o{l:List p8}(h:l.length<=1000):a8i l=some l:=by
 unfold a8i;cases hl:((l.length:Int)==0)
 ·rw [g1e,v5 (by constructor<;>omega),v5 (by simp)]
 ·simp only [beq_iff_eq] at hl;have:l=[]:=f9b (by omega);rw [this];rfl
def W2(ps:List p8)(b:Int):Option Nat:=ps.findIdx? (·.i5==b)
def atI:Option Nat->Int
 | some k=>(k:Int)
 | none => -1
theorem d8z{l:List p8}(h:s7 l)(b:Int):a6W l b=some (atI (W2 l b)):=by
 unfold a6W;rw [show (0:Int)=((0:Nat):Int) from rfl,b03 (body:=fun s:Int=>a60 l b s) (fun k=>(k:Int)) l (·.i5==b) (fun k=>(k:Int)) ()]
 ·unfold W2;cases l.findIdx? (·.i5==b)<;>rfl
 ·intro k hk;unfold a60;rw [w6 _ k hk,t0 hk,E6 h hk];simp only [g1d,f8M];cases l[k].i5==b<;>rfl
 ·unfold a60;rw [z8];rfl
theorem d4A{x:n7}(h:s7 x.b7)(b:Int):b2d x b=some (atI (W2 x.b7 b)):=by
 unfold b2d;rw [show (0:Int)=((0:Nat):Int) from rfl,b03 (body:=fun s:Int=>b3m x b s) (fun k=>(k:Int)) x.b7 (·.i5==b) (fun k=>(k:Int)) ()]
 ·unfold W2;cases x.b7.findIdx? (·.i5==b)<;>rfl
 ·intro k hk;unfold b3m;rw [w6 _ k hk,t0 hk,E6 h hk];simp only [g1d,f8M];cases x.b7[k].i5==b<;>rfl
 ·unfold b3m;rw [z8];rfl
theorem b18{ps:List p8}{b:Int}{k:Nat}(h:W2 ps b=some k):k<ps.length:=by
 obtain ⟨hk,_⟩:=f9L.1 h;exact hk
theorem b8p(k:Nat):decide (atI (some k)>=0)=true:=by simp [atI]
theorem b8F:decide (atI none>=0)=false:=by simp [atI]
theorem e6e{x:n7}(h:s7 x.b5)(b:Int):∃v,b5a x b=some v/\decide (v<0) = !(J9 x.b5 b):=by
 obtain ⟨v,h1,h2⟩:=f5e h b;refine ⟨v,h1,?_⟩;rw [<-h2];by_cases q:v>=0
 ·have:¬v<0:=by omega
  simp [q,this]
 ·have:v<0:=by omega
  simp [q,this]
def H4(v:Int):Bool:=p9 v (-1000000) 1000000
def K6(regs:List Int)(a:Int):Int:=regs.getD a.toNat 0
theorem M7{regs:List Int}(h:regs.length=4){a:Int}(ha:0<=a/\a<=3):idx regs a=some (K6 regs a):=by
 obtain ⟨k,rfl⟩:=Int.eq_ofNat_of_zero_le ha.1;have hk:k<regs.length:=by omega
 rw [t0 hk];unfold K6;simp [hk]
theorem f4Z{regs:List Int}(h:regs.length=4){a v:Int}(ha:0<=a/\a<=3):K6 (regs.set a.toNat v) a=v:=by
 unfold K6;have:a.toNat<regs.length:=by omega
 simp [this]
theorem e9N{regs:List Int}(h:regs.length=4)(hr:regs.all H4=true){a v:Int}(ha:0<=a/\a<=3):(regs.set a.toNat v).all H4=H4 v:=by
 cases hv:H4 v
 ·rw [g0u];exact ⟨v,f9c (i:=a.toNat) (by rw [g0e (by omega)]),by simp [hv]⟩
 ·rw [f8S] at hr⊢;intro x hx;rcases f9y hx with hx|rfl
  ·exact hr x hx
  ·exact hv
theorem a2P{regs:List Int}(h:regs.length=4)(hr:regs.all H4=true){a:Int}(ha:0<=a/\a<=3):-1000000<=K6 regs a/\K6 regs a<=1000000:=by
 have hi:=M7 h ha;have hm:K6 regs a∈regs:=f9c (c07 hi).2.2;have:=f8S.1 hr _ hm;simpa [H4,p9] using this
structure EI(regs:List Int)(rs:List r9)(ps:List p8)(k:Nat):Prop where
 len:regs.length=4
 rng:regs.all H4=true
 rl:rs.length<=k
 pl:ps.length<=k
theorem EI.fr{regs:List Int}{rs:List r9}{ps:List p8}{k:Nat}(h:EI regs rs ps k)(hk:k<=100):s7 rs:=by
 have:=h.rl;unfold s7;omega
theorem EI.fp{regs:List Int}{rs:List r9}{ps:List p8}{k:Nat}(h:EI regs rs ps k)(hk:k<=100):s7 ps:=by
 have:=h.pl;unfold s7;omega
def D9(l:List m9)(i:n8)(regs:List Int)(rs:List r9)(ps:List p8):List Int×List r9×List p8:=
 bif i.a9==1 then (match W2 ps i.B with
  | some k=>(match ps[k]? with
   | some p=>(regs.set i.A.toNat p.d8,rs,ps)
   | none=>(regs,rs,ps))
  | none=>match l[i.B.toNat]? with
   | some b=>(regs.set i.A.toNat b.d8,bif J9 rs i.B then rs else rs++[⟨i.B,b.j4⟩],ps)
   | none=>(regs,rs,ps))
 else bif i.a9==2 then (regs,rs,match W2 ps i.A with
  | some k=>(match ps[k]? with
   | some p=>ps.set k ⟨p.i5,K6 regs i.B⟩
   | none=>ps)
  | none=>ps++[⟨i.A,K6 regs i.B⟩])
 else bif i.a9==3 then (regs.set i.A.toNat i.N,rs,ps)
 else bif i.a9==4 then (regs.set i.A.toNat (K6 regs i.A+K6 regs i.B),rs,ps)
 else bif i.a9==5 then (regs.set i.A.toNat (K6 regs i.A-K6 regs i.B),rs,ps)
 else (regs,rs,ps)
def U1(l:List m9)(prog:List n8):Nat->Nat->List Int->List r9->List p8->n7
 | 0,_,regs,rs,ps=>⟨rs,ps,K6 regs 0,0⟩
 | f+1,k,regs,rs,ps=>match prog[k]? with
  | none=>⟨rs,ps,K6 regs 0,0⟩
  | some i=>bif i.a9==6 then U1 l prog f (bif decide (K6 regs i.A<K6 regs i.B) then k+i.N.toNat+1 else k+1) regs rs ps
   else bif i.a9==7 then ⟨rs,[],0,1⟩
   else bif (D9 l i regs rs ps).1.all H4 then U1 l prog f (k+1) (D9 l i regs rs ps).1 (D9 l i regs rs ps).2.1 (D9 l i regs rs ps).2.2
   else ⟨(D9 l i regs rs ps).2.1,[],0,2⟩
def B5(l:List m9)(prog:List n8):n7:=bif C8 l&&E4 prog then U1 l prog (prog.length+1) 0 [0,0,0,0] [] [] else ⟨[],[],0,3⟩
section
variable {l:List m9} {regs:List Int} {rs:List r9} {ps:List p8} {k:Nat} {i:n8}
theorem c6x(h:regs.length=4):(D9 l i regs rs ps).1.length=4:=by
 unfold D9;cases i.a9==1<;>cases i.a9==2<;>cases i.a9==3<;>cases i.a9==4<;>cases i.a9==5<;>simp only [g1d,g1e,g0n,h]
 all_goals
  split
  ·split<;>simp [h]
  ·split<;>simp [h]
theorem d0b(h:rs.length<=k):(D9 l i regs rs ps).2.1.length<=k+1:=by
 unfold D9;cases i.a9==1<;>cases i.a9==2<;>cases i.a9==3<;>cases i.a9==4<;>cases i.a9==5<;>simp only [g1d,g1e]<;>try omega
 all_goals
  split
  ·split<;>(simp only;omega)
  ·split
   ·cases J9 rs i.B<;>simp only [g1d,g1e,f9a,f9Y]<;>omega
   ·simp only;omega
theorem d3G(h:ps.length<=k):(D9 l i regs rs ps).2.2.length<=k+1:=by
 unfold D9;cases i.a9==1<;>cases i.a9==2<;>cases i.a9==3<;>cases i.a9==4<;>cases i.a9==5<;>simp only [g1d,g1e]<;>try omega
 all_goals (repeat' split)
 all_goals (try simp only [g0n,f9a,f9Y])
 all_goals omega
theorem EI.next(h:EI regs rs ps k)(ha:(D9 l i regs rs ps).1.all H4=true):EI (D9 l i regs rs ps).1 (D9 l i regs rs ps).2.1 (D9 l i regs rs ps).2.2 (k+1):=
 ⟨c6x h.len,ha,d0b h.rl,d3G h.pl⟩
theorem b5K{x:Int}(h:-1000000<=x/\x<=1000000){y:Int}(h':-1000000<=y/\y<=1000000):m7 (x+y)=x+y/\m7 (x-y)=x-y:=⟨C5 (by omega) (by omega),C5 (by omega) (by omega)⟩
theorem e9n(hl:C8 l=true)(he:EI regs rs ps k)(hk:k<=100)(hi:Q3 i=true)(h6:i.a9≠6)(h7:i.a9≠7) :
  b1i l ⟨rs,ps,0,0⟩ regs i=some (⟨(D9 l i regs rs ps).2.1,(D9 l i regs rs ps).2.2,0,bif (D9 l i regs rs ps).1.all H4 then 0 else 2⟩,(D9 l i regs rs ps).1):=by
 have hfr:=he.fr hk;have hfp:=he.fp hk;have hrl:=he.rl;have hpl:=he.pl;have n1:(rs.length+1)*16<=140737488355328:=by omega
 have n2:(ps.length+1)*16<=140737488355328:=by omega
 have fin:∀(a v:Int) (rs':List r9) (ps':List p8),0<=a/\a<=3->i.a9≠2->i.A=a->a85 i (regs.set a.toNat v) rs' ps' 0 0=some (⟨rs',ps',0,bif (regs.set a.toNat v).all H4 then 0 else 2⟩,regs.set a.toNat v):=by
  intro a v rs' ps' ha h2 hia;unfold a85 b4F;rw [show (i.a9 != 2)=true from by simpa using h2,g1d,hia,M7 (by simpa using he.len) ha,f8M,a8O,f8M,f4Z he.len ha,e9N he.len he.rng ha];unfold H4;cases p9 v (-1000000) 1000000<;>rfl
 unfold b1i D9;rcases b4c hi with ⟨h,ha,hb⟩|⟨h,ha,hb⟩|⟨h,ha,hn⟩|⟨h,ha,hb⟩|⟨h,ha,hb⟩|⟨h,_⟩|⟨h,_⟩
 ·simp only [h,show ((1:Int)==1)=true from rfl,g1d];unfold c4G c3a;rw [d8z hfp,f8M];cases hp:W2 ps i.B with
  | some j=>
   have hj:=b18 hp;simp only [b8p,g1d,f8N hj];simp only [atI,t0 hj,f8M,M7 he.len ha,l9.go];exact fin i.A _ rs ps ha (by omega) rfl
  | none=>
   obtain ⟨b,hb1,hb2,_⟩:=a5v hl hb;simp only [b8F,g1e,d6T hfr,f8M,hb1,hb2,v5 n1];cases hs:J9 rs i.B
   ·simp only [f9x,g1d,g1e,f8M,l9.go,hb1,M7 he.len ha];exact fin i.A _ _ _ ha (by omega) rfl
   ·simp only [f8T,g1d,g1e,f8M,l9.go,hb1,M7 he.len ha];exact fin i.A _ _ _ ha (by omega) rfl
 ·simp only [h,show ((2:Int)==1)=false from rfl,show ((2:Int)==2)=true from rfl,g1d,g1e,M7 he.len hb,f8M];unfold c3D;rw [d8z hfp,f8M];have fin2:∀ps':List p8,a85 i regs rs ps' 0 0=some (⟨rs,ps',0,bif regs.all H4 then 0 else 2⟩,regs):=by
   intro ps';unfold a85 b4F;rw [he.rng,h];rfl
  cases hp:W2 ps i.A with
  | some j=>
   have hj:=b18 hp;simp only [b8p,g1d,f8N hj];simp only [atI,t0 hj,f8M,l9.go,f9r];exact fin2 _
  | none=>
   simp only [b8F,g1e,v5 n2,f8M,l9.go];exact fin2 _
 ·simp only [h,show ((3:Int)==1)=false from rfl,show ((3:Int)==2)=false from rfl,show ((3:Int)==3)=true from rfl,g1d,g1e,M7 he.len ha,f8M,l9.go];exact fin i.A _ _ _ ha (by omega) rfl
 ·simp only [h,show ((4:Int)==1)=false from rfl,show ((4:Int)==2)=false from rfl,show ((4:Int)==3)=false from rfl,show ((4:Int)==4)=true from rfl,g1d,g1e,M7 he.len ha,M7 he.len hb,f8M,l9.go,(b5K (a2P he.len he.rng ha) (a2P he.len he.rng hb)).1];exact fin i.A _ _ _ ha (by omega) rfl
 ·simp only [h,show ((5:Int)==1)=false from rfl,show ((5:Int)==2)=false from rfl,show ((5:Int)==3)=false from rfl,show ((5:Int)==4)=false from rfl,show ((5:Int)==5)=true from rfl,g1d,g1e,M7 he.len ha,M7 he.len hb,f8M,l9.go,(b5K (a2P he.len he.rng ha) (a2P he.len he.rng hb)).2];exact fin i.A _ _ _ ha (by omega) rfl
 ·exact absurd h h6
 ·exact absurd h h7
theorem f1B(hi:i.a9=7)(ha:i.A=0)(he:EI regs rs ps k):b1i l ⟨rs,ps,0,0⟩ regs i=some (⟨rs,ps,0,1⟩,regs):=by
 have hin:=a2P he.len he.rng (a:=0) (by omega);unfold b1i a85 b4F;simp only [hi,ha,show ((7:Int)==1)=false from rfl,show ((7:Int)==2)=false from rfl,show ((7:Int)==3)=false from rfl,show ((7:Int)==4)=false from rfl,show ((7:Int)==5)=false from rfl,show ((7:Int)==7)=true from rfl,show ((7:Int) != 2)=true from rfl,g1d,g1e,f8M,l9.go,M7 he.len (a:=0) (by omega),a8O];rw [show p9 (K6 regs 0) (-1000000) 1000000=true from by simp [p9];exact hin];rfl
theorem d7X(l:List m9){prog:List n8}{f k:Nat}{regs:List Int}{rs:List r9}{ps:List p8}(h:prog.length<=k):U1 l prog f k regs rs ps=⟨rs,ps,K6 regs 0,0⟩:=by
 cases f with
 | zero=>rfl
 | succ f=>
  unfold U1;rw [f9m h]
theorem c6P{prog:List n8}(hp:E4 prog=true):prog.length<=10/\∀i∈prog,Q3 i=true:=by
 unfold E4 at hp;simpa using hp
theorem d2k(l:List m9)(prog:List n8)(regs:List Int)(rs:List r9)(ps:List p8)(k c:Int)(hc:(c==0)=false) :
  ((o7 (fun s:(List Int)×(List r9)×(List p8)×Int×Int×Int=>a14 l prog s.1 s.2.1 s.2.2.1 s.2.2.2.1 s.2.2.2.2.1 s.2.2.2.2.2) (regs,rs,ps,k,0,c)).bind fun x=>x.go (fun r=>some r) fun s=>a8f s.1 s.2.1 s.2.2.1 s.2.2.2.1 s.2.2.2.2)=some ⟨rs,[],0,c⟩:=by
 rw [C7 (b:=(rs,ps,regs,0,c))]
 ·simp only [f8M,l9.go];unfold a8f;rw [bne,hc];rfl
 ·unfold a14;simp only [hc,g1e];cases decide (k<(prog.length:Int))<;>rfl
theorem e5r(hl:C8 l=true){prog:List n8}(hp:E4 prog=true):∀(f k:Nat) (regs:List Int) (rs:List r9) (ps:List p8),EI regs rs ps k->prog.length<k+f->k<=prog.length+10->
  ((o7 (fun s:(List Int)×(List r9)×(List p8)×Int×Int×Int=>a14 l prog s.1 s.2.1 s.2.2.1 s.2.2.2.1 s.2.2.2.2.1 s.2.2.2.2.2) (regs,rs,ps,(k:Int),0,0)).bind fun x=>x.go (fun r=>some r) fun s=>a8f s.1 s.2.1 s.2.2.1 s.2.2.2.1 s.2.2.2.2)=some (U1 l prog f k regs rs ps):=by
 obtain ⟨hlen,hins⟩:=c6P hp;intro f;induction f with
 | zero=>
  intro k regs rs ps he hf hk;rw [C7 (b:=(rs,ps,regs,0,0))]
  ·simp only [f8M,l9.go];unfold a8f;rw [show ((0:Int) != 0)=false from rfl,g1e,M7 he.len (a:=0) (by omega)];rfl
  ·unfold a14;rw [show decide ((k:Int)<(prog.length:Int))=false from by simp;omega];rfl
 | succ f ih=>
  intro k regs rs ps he hf hk;by_cases hlt:k<prog.length
  ·have hi:=hins _ (f8Q hlt);unfold U1;rw [f8N hlt];simp only;by_cases h6:prog[k].a9=6
   ·obtain ⟨ha,hb,hn⟩:(0<=prog[k].A/\prog[k].A<=3)/\(0<=prog[k].B/\prog[k].B<=3)/\1<=prog[k].N/\prog[k].N<=10:=by
     rcases b4c hi with ⟨h,_⟩|⟨h,_⟩|⟨h,_⟩|⟨h,_⟩|⟨h,_⟩|⟨h,x⟩|⟨h,_⟩
     all_goals first|(exact x)|(exfalso;omega)
    have hb1:a14 l prog regs rs ps (k:Int) 0 0=some (.nxt (regs,rs,ps,((bif decide (K6 regs prog[k].A<K6 regs prog[k].B) then k+prog[k].N.toNat+1 else k+1:Nat):Int),0,0)):=by
     unfold a14 c6u;rw [w6 _ k hlt,t0 hlt];simp only [g1d,f8M,h6,show ((6:Int)==6)=true from rfl,show ((0:Int)==0)=true from rfl,M7 he.len ha,M7 he.len hb];cases decide (K6 regs prog[k].A<K6 regs prog[k].B)
     ·simp only [g1e,f8M,l9.go];rw [C5 (by omega) (by omega)];rfl
     ·simp only [g1d,f8M,l9.go];rw [C5 (n:=(k:Int)+prog[k].N) (by omega) (by omega),C5 (by omega) (by omega),show ((k+prog[k].N.toNat+1:Nat):Int)=(k:Int)+prog[k].N+1 from by omega]
    rw [E8 hb1,h6];simp only [show ((6:Int)==6)=true from rfl,g1d];refine ih _ _ _ _ ⟨he.len,he.rng,?_,?_⟩ ?_ ?_;all_goals
     have h1:=he.rl;have h2:=he.pl;cases decide (K6 regs prog[k].A<K6 regs prog[k].B)<;>simp only [g1d,g1e]<;>omega
   by_cases h7:prog[k].a9=7
   ·have ha:prog[k].A=0:=by
     rcases b4c hi with ⟨h,_⟩|⟨h,_⟩|⟨h,_⟩|⟨h,_⟩|⟨h,_⟩|⟨h,_⟩|⟨h,x⟩
     all_goals first|(exact x)|(exfalso;omega)
    have hb1:a14 l prog regs rs ps (k:Int) 0 0=some (.nxt (regs,rs,ps,m7 ((k:Int)+1),0,1)):=by
     unfold a14;rw [w6 _ k hlt,t0 hlt];simp only [g1d,f8M,show ((0:Int)==0)=true from rfl,f1B h7 ha he,h7,show ((7:Int)==6)=false from rfl,g1e];rw [v5 trivial]
    rw [E8 hb1,d2k _ _ _ _ _ _ _ rfl,h7];rfl
   ·have hs:=e9n hl he (by omega) hi h6 h7;have hb1:a14 l prog regs rs ps (k:Int) 0 0=some (.nxt ((D9 l prog[k] regs rs ps).1,(D9 l prog[k] regs rs ps).2.1,(D9 l prog[k] regs rs ps).2.2,((k+1:Nat):Int),0,bif (D9 l prog[k] regs rs ps).1.all H4 then 0 else 2)):=by
     unfold a14;rw [w6 _ k hlt,t0 hlt];simp only [g1d,f8M,show ((0:Int)==0)=true from rfl,hs,show (prog[k].a9==6)=false from by simpa using h6,g1e];rw [v5 (by rw [c6x he.len];exact he.len),C5 (by omega) (by omega)];rfl
    rw [E8 hb1,show (prog[k].a9==6)=false from by simpa using h6,show (prog[k].a9==7)=false from by simpa using h7,g1e,g1e];cases hall:(D9 l prog[k] regs rs ps).1.all H4
    ·rw [g1e,g1e,d2k _ _ _ _ _ _ _ rfl]
    ·rw [g1d,g1d];exact ih _ _ _ _ (he.next hall) (by omega) (by omega)
  ·rw [d7X l (by omega),C7 (b:=(rs,ps,regs,0,0))]
   ·simp only [f8M,l9.go];unfold a8f;rw [show ((0:Int) != 0)=false from rfl,g1e,M7 he.len (a:=0) (by omega)];rfl
   ·unfold a14;rw [show decide ((k:Int)<(prog.length:Int))=false from by simp;omega];rfl
theorem ei0:EI [0,0,0,0] [] [] 0:=⟨rfl,by decide,by simp,by simp⟩
theorem d4v{l:List m9}{prog:List n8}(hl:s7 l)(hp:s7 prog):b3y l prog=some (B5 l prog):=by
 unfold b3y B5;rw [c1s hl,f8M,c4F hp,f8M];cases hb:C8 l
 ·rfl
 cases ho:E4 prog
 ·rfl
 rw [f8T,g1e,g1e,v5 (by decide)];have:=e5r hb ho (prog.length+1) 0 [0,0,0,0] [] [] ei0 (by omega) (by omega);exact this
theorem e1s{regs:List Int}{Reads1:List r9}{ins:n8}{put1:p8}(h:regs.length=4)(hr:Reads1.length<=1000):o7 (fun s:Int=>b2i regs Reads1 ins put1 s) 0=some (bif (regs.set ins.A.toNat put1.d8).all H4 then .brk () else .ret ⟨Reads1,[],0,2⟩):=by
 have hl:(regs.set ins.A.toNat put1.d8).length=4:=by simpa using h
 refine c1H (regs.set ins.A.toNat put1.d8) (by unfold s7;omega) H4 _ () (fun k hk => ?_) ?_
 ·have hk4:(k:Int)<4:=by omega
  unfold b2i;rw [decide_eq_true hk4,t0 hk,g1d,f8M,v5 hk4,N7,f8M,b3A hr];unfold H4;cases p9 (regs.set ins.A.toNat put1.d8)[k] (-1000000) 1000000<;>rfl
 ·unfold b2i;rw [hl];rfl
theorem d1D{regs:List Int}{Reads1:List r9}{ins:n8}{box:m9}(h:regs.length=4)(hr:Reads1.length<=1000):o7 (fun s:Int=>b3T regs ins Reads1 box s) 0=some (bif (regs.set ins.A.toNat box.d8).all H4 then .brk () else .ret ⟨Reads1,[],0,2⟩):=by
 have hl:(regs.set ins.A.toNat box.d8).length=4:=by simpa using h
 refine c1H (regs.set ins.A.toNat box.d8) (by unfold s7;omega) H4 _ () (fun k hk => ?_) ?_
 ·have hk4:(k:Int)<4:=by omega
  unfold b3T;rw [decide_eq_true hk4,t0 hk,g1d,f8M,v5 hk4,N7,f8M,b3A hr];unfold H4;cases p9 (regs.set ins.A.toNat box.d8)[k] (-1000000) 1000000<;>rfl
 ·unfold b3T;rw [hl];rfl
theorem c2q{regs:List Int}{Reads1:List r9}(h:regs.length=4)(hr:Reads1.length<=1000):o7 (fun s:Int=>b2q Reads1 regs s) 0=some (bif regs.all H4 then .brk () else .ret ⟨Reads1,[],0,2⟩):=by
 refine c1H regs (by unfold s7;omega) H4 _ () (fun k hk => ?_) ?_
 ·have hk4:(k:Int)<4:=by omega
  unfold b2q;rw [decide_eq_true hk4,t0 hk,g1d,f8M,v5 hk4,N7,f8M,b3A hr];unfold H4;cases p9 regs[k] (-1000000) 1000000<;>rfl
 ·unfold b2q;rw [h];rfl
theorem e7r(hl:C8 l=true)(he:EI regs rs ps k)(hk:k<=100){prog:List n8}(hkl:k<prog.length)(hpl:prog.length<=10)(R:List r9)(P:List p8)(hi:Q3 prog[k]=true)(h6:prog[k].a9≠6)(h7:prog[k].a9≠7) :
  a3J l prog regs R P rs ps (k:Int)=some (bif (D9 l prog[k] regs rs ps).1.all H4 then .nxt ((D9 l prog[k] regs rs ps).1,R,P,(D9 l prog[k] regs rs ps).2.1,(D9 l prog[k] regs rs ps).2.2,((k+1:Nat):Int)) else .ret ⟨(D9 l prog[k] regs rs ps).2.1,[],0,2⟩):=by
 have hfr:=he.fr hk;have hfp:=he.fp hk;have hrl:=he.rl;have hpl:=he.pl;have n1:(rs.length+1)*16<=140737488355328:=by omega
 have n2:(ps.length+1)*16<=140737488355328:=by omega
 have hw:m7 ((k:Int)+1)=((k+1:Nat):Int):=by rw [C5 (by omega) (by omega)];rfl
 have fin:∀(regs':List Int) (ps':List p8),regs'.length=4->b1w R P rs regs' ps' (k:Int)=some (bif regs'.all H4 then .nxt (regs',R,P,rs,ps',((k+1:Nat):Int)) else .ret ⟨rs,[],0,2⟩):=by
  intro regs' ps' h;unfold b1w b3W;rw [c2q h (by omega),hw];cases regs'.all H4<;>rfl
 have hset:∀(a:Nat) (v:Int),(regs.set a v).length=4:=fun a v=>by simpa using he.len
 unfold a3J D9;generalize hin:prog[k]=i at hi h6 h7;rw [w6 _ k hkl,t0 hkl,hin,g1d,f8M];rcases b4c hi with ⟨h,ha,hb⟩|⟨h,ha,hb⟩|⟨h,ha,hn⟩|⟨h,ha,hb⟩|⟨h,ha,hb⟩|⟨h,_⟩|⟨h,_⟩
 ·have na:i.A<4:=by omega
  simp only [h,show ((1:Int)==1)=true from rfl,g1d];rw [d4A (x:=⟨rs,ps,0,0⟩) hfp,f8M];simp only;cases hp:W2 ps i.B with
  | some j=>
   have hj:=b18 hp;simp only [b8p,g1d,f8N hj];simp only [atI,t0 hj,f8M,M7 he.len ha];rw [v5 na,e1s he.len (by omega)];unfold c4X;rw [hw];cases (regs.set i.A.toNat ps[j].d8).all H4<;>rfl
  | none=>
   obtain ⟨b,hb1,hb2,_⟩:=a5v hl hb;obtain ⟨v,hv1,hv2⟩:=e6e (x:=⟨rs,ps,0,0⟩) hfr i.B;simp only [b8F,g1e,hv1,hv2,f8M,hb1,hb2,v5 n1];cases hs:J9 rs i.B
   ·simp only [f9x,g1d,g1e,f8M,l9.go];unfold c0V b9Q;rw [hb1,f8M,M7 he.len ha,f8M,v5 na,d1D he.len (by simp;omega),hw];cases (regs.set i.A.toNat b.d8).all H4<;>rfl
   ·simp only [f8T,g1d,g1e,f8M,l9.go];unfold c0V b9Q;rw [hb1,f8M,M7 he.len ha,f8M,v5 na,d1D he.len (by omega),hw];cases (regs.set i.A.toNat b.d8).all H4<;>rfl
 ·have nb:i.B<4:=by omega
  simp only [h,show ((2:Int)==1)=false from rfl,show ((2:Int)==2)=true from rfl,g1d,g1e];rw [d4A (x:=⟨rs,ps,0,0⟩) hfp,f8M];simp only;cases hp:W2 ps i.A with
  | some j=>
   have hj:=b18 hp;simp only [b8p,g1d,f8N hj];simp only [atI,t0 hj,f8M,M7 he.len hb,f9r];rw [v5 nb];simp only [f8M,l9.go];exact fin _ _ he.len
  | none=>
   simp only [b8F,g1e,f8M,M7 he.len hb];rw [v5 nb,v5 n2];simp only [f8M,l9.go];exact fin _ _ he.len
 ·have na:i.A<4:=by omega
  simp only [h,show ((3:Int)==1)=false from rfl,show ((3:Int)==2)=false from rfl,show ((3:Int)==3)=true from rfl,g1d,g1e,M7 he.len ha,f8M];rw [v5 na];simp only [f8M,l9.go];exact fin _ _ (hset _ _)
 ·have na:i.A<4:=by omega
  have nb:i.B<4:=by omega
  simp only [h,show ((4:Int)==1)=false from rfl,show ((4:Int)==2)=false from rfl,show ((4:Int)==3)=false from rfl,show ((4:Int)==4)=true from rfl,g1d,g1e,M7 he.len ha,M7 he.len hb,f8M,(b5K (a2P he.len he.rng ha) (a2P he.len he.rng hb)).1,v5 na,v5 nb,l9.go];exact fin _ _ (hset _ _)
 ·have na:i.A<4:=by omega
  have nb:i.B<4:=by omega
  simp only [h,show ((5:Int)==1)=false from rfl,show ((5:Int)==2)=false from rfl,show ((5:Int)==3)=false from rfl,show ((5:Int)==4)=false from rfl,show ((5:Int)==5)=true from rfl,g1d,g1e,M7 he.len ha,M7 he.len hb,f8M,(b5K (a2P he.len he.rng ha) (a2P he.len he.rng hb)).2,v5 na,v5 nb,l9.go];exact fin _ _ (hset _ _)
 ·exact absurd h h6
 ·exact absurd h h7
theorem e1Y(hl:C8 l=true){prog:List n8}(hp:E4 prog=true)(R:List r9)(P:List p8):∀(f k:Nat) (regs:List Int) (rs:List r9) (ps:List p8),EI regs rs ps k->prog.length<k+f->k<=prog.length+10->
  ((o7 (fun s:(List Int)×(List r9)×(List p8)×(List r9)×(List p8)×Int=>a3J l prog s.1 s.2.1 s.2.2.1 s.2.2.2.1 s.2.2.2.2.1 s.2.2.2.2.2) (regs,R,P,rs,ps,(k:Int))).bind fun x=>x.go (fun r=>some r) fun s=>b2j s.1 s.2.1 s.2.2.1 s.2.2.2.1 s.2.2.2.2)=some (U1 l prog f k regs rs ps):=by
 obtain ⟨hlen,hins⟩:=c6P hp;have stop:∀(k:Nat) (regs:List Int) (rs:List r9) (ps:List p8),EI regs rs ps k->prog.length<=k->k<=prog.length+10->((o7 (fun s:(List Int)×(List r9)×(List p8)×(List r9)×(List p8)×Int=>a3J l prog s.1 s.2.1 s.2.2.1 s.2.2.2.1 s.2.2.2.2.1 s.2.2.2.2.2) (regs,R,P,rs,ps,(k:Int))).bind fun x=>x.go (fun r=>some r) fun s=>b2j s.1 s.2.1 s.2.2.1 s.2.2.2.1 s.2.2.2.2)=some ⟨rs,ps,K6 regs 0,0⟩:=by
  intro k regs rs ps he h1 h2;have h3:=he.rl;have h4:=he.pl;rw [C7 (b:=(R,P,regs,rs,ps))]
  ·simp only [f8M,l9.go];unfold b2j;rw [b3A (by omega),f8M,f6o (by omega),f8M,M7 he.len (a:=0) (by omega),f8M,v5 (by decide)]
  ·unfold a3J;rw [show decide ((k:Int)<(prog.length:Int))=false from by simp;omega];rfl
 intro f;induction f with
 | zero=>
  intro k regs rs ps he hf hk;exact stop k regs rs ps he (by omega) hk
 | succ f ih=>
  intro k regs rs ps he hf hk;by_cases hlt:k<prog.length
  ·have hi:=hins _ (f8Q hlt);unfold U1;rw [f8N hlt];simp only;by_cases h6:prog[k].a9=6
   ·obtain ⟨ha,hb,hn⟩:(0<=prog[k].A/\prog[k].A<=3)/\(0<=prog[k].B/\prog[k].B<=3)/\1<=prog[k].N/\prog[k].N<=10:=by
     rcases b4c hi with ⟨h,_⟩|⟨h,_⟩|⟨h,_⟩|⟨h,_⟩|⟨h,_⟩|⟨h,x⟩|⟨h,_⟩
     all_goals first|(exact x)|(exfalso;omega)
    have hrl:=he.rl;have hb1:a3J l prog regs R P rs ps (k:Int)=some (.nxt (regs,R,P,rs,ps,((bif decide (K6 regs prog[k].A<K6 regs prog[k].B) then k+prog[k].N.toNat+1 else k+1:Nat):Int))):=by
     have na:prog[k].A<4:=by omega
     have nb:prog[k].B<4:=by omega
     unfold a3J;rw [w6 _ k hlt,t0 hlt];simp only [g1d,f8M,h6,show ((6:Int)==1)=false from rfl,show ((6:Int)==2)=false from rfl,show ((6:Int)==3)=false from rfl,show ((6:Int)==4)=false from rfl,show ((6:Int)==5)=false from rfl,show ((6:Int)==6)=true from rfl,g1e,M7 he.len ha,M7 he.len hb,v5 na,v5 nb];cases decide (K6 regs prog[k].A<K6 regs prog[k].B)
     ·simp only [g1e,f8M,l9.go];unfold b1w b3W;rw [c2q he.len (by omega),he.rng,C5 (by omega) (by omega)];rfl
     ·simp only [g1d,f8M,l9.go];unfold b1w b3W;rw [c2q he.len (by omega),he.rng,C5 (n:=(k:Int)+prog[k].N) (by omega) (by omega),C5 (by omega) (by omega),show ((k+prog[k].N.toNat+1:Nat):Int)=(k:Int)+prog[k].N+1 from by omega];rfl
    rw [E8 hb1,h6];simp only [show ((6:Int)==6)=true from rfl,g1d];refine ih _ _ _ _ ⟨he.len,he.rng,?_,?_⟩ ?_ ?_;all_goals
     have h1:=he.rl;have h2:=he.pl;cases decide (K6 regs prog[k].A<K6 regs prog[k].B)<;>simp only [g1d,g1e]<;>omega
   by_cases h7:prog[k].a9=7
   ·have hrl:=he.rl;have hb1:a3J l prog regs R P rs ps (k:Int)=some (.ret ⟨rs,[],0,1⟩):=by
     unfold a3J;rw [w6 _ k hlt,t0 hlt];simp only [g1d,f8M,h7,show ((7:Int)==1)=false from rfl,show ((7:Int)==2)=false from rfl,show ((7:Int)==3)=false from rfl,show ((7:Int)==4)=false from rfl,show ((7:Int)==5)=false from rfl,show ((7:Int)==6)=false from rfl,show ((7:Int)==7)=true from rfl,g1e];rw [b3A (by omega)];rfl
    rw [W4 hb1,h7];rfl
   ·have hb1:=e7r hl he (by omega) hlt hlen R P hi h6 h7;rw [show (prog[k].a9==6)=false from by simpa using h6,show (prog[k].a9==7)=false from by simpa using h7,g1e,g1e];cases hall:(D9 l prog[k] regs rs ps).1.all H4
    ·rw [hall,g1e] at hb1;rw [W4 hb1];rfl
    ·rw [hall,g1d] at hb1;rw [E8 hb1,g1d];exact ih _ _ _ _ (he.next hall) (by omega) (by omega)
  ·rw [d7X l (by omega)];exact stop k regs rs ps he (by omega) hk
theorem d30{l:List m9}{prog:List n8}(hl:s7 l)(hp:s7 prog):b2t l prog=some (B5 l prog):=by
 unfold b2t B5;rw [b4h hl,f8M,c0d hp,f8M];cases hb:C8 l
 ·rfl
 cases ho:E4 prog
 ·rfl
 rw [f8T,g1e,g1e];exact e1Y hb ho [] [] (prog.length+1) 0 [0,0,0,0] [] [] ei0 (by omega) (by omega)
end
theorem b7M{l:List m4}(hl:l.length<=40)(he:l.all z4=true){k:Nat}(hk:k<=l.length):(told l (p6 l).2 k).length<=40:=by
 obtain ⟨_,hlen,hc⟩:=P6 hl he l.length (f9f _);rw [f9e] at hlen hc;have h1:=b6z hlen k hk;have h2:=c5t ((p6 l).2.take k) 0;rw [f9g] at h2;omega
theorem f0E{l:List m4}(h:A2 88 a1n l):b8S l=some (A0 l):=by
 unfold b8S A0;rw [c8Y h,f8M];cases hok:G4 l
 ·rfl
 have hf:s7 l:=h.fits (by decide);obtain ⟨hl,he⟩:=W8 hok;obtain ⟨_,hlen,hc⟩:=P6 hl he l.length (f9f _);rw [f9e] at hlen hc;rw [f8T,g1e,g1d,b6A,f8M];have hloop:=V0 (body:=fun s:(List n5)×(List m9)×Int×Int×List q9=>a84 l s.1 s.2.1 s.2.2.1 s.2.2.2.1 s.2.2.2.2) (fun k=>(told l (p6 l).2 k,(p6 (l.take k)).1.g7,(k:Int),(p6 (l.take k)).1.At,(p6 (l.take k)).1.i8)) l.length (by
  intro k hk;have hk2:k<(p6 l).2.length:=by omega
  have hs:=b7M hl he (k:=k) (by omega);obtain ⟨h1,h2,h3⟩:=P6 hl he k (by omega);have n1:((told l (p6 l).2 k).length+1)*16<=140737488355328:=by omega
  have hcode:=b0a hl he hk;rw [f8N hk2] at hcode;have hcode:=g0j hcode;show a84 l (told l (p6 l).2 k) (p6 (l.take k)).1.g7 (k:Int) (p6 (l.take k)).1.At (p6 (l.take k)).1.i8=some (.nxt (told l (p6 l).2 k++b5q l (p6 l).2 k,(p6 (l.take (k+1))).1.g7,((k+1:Nat):Int),(p6 (l.take (k+1))).1.At,(p6 (l.take (k+1))).1.i8))
  rw [b46 hk hk2,a0W hk,hcode];unfold a84 c6a;rw [w6 _ k hk,t0 hk,E6 hf hk];simp only [g1d,f8M];rw [show (⟨(p6 (l.take k)).1.At,(p6 (l.take k)).1.g7,(p6 (l.take k)).1.i8⟩:u5)=(p6 (l.take k)).1 from rfl,b9W h1 (by omega) (f8S.1 he _ (f8Q hk)) (h.2 _ (f8Q hk)),f8M,v5 n1];cases (apply (p6 (l.take k)).1 l[k]).2==0
  ·simp only [g1e,f8M,l9.go,f9C];rfl
  ·rfl)
 rw [f9D,f9e,show told l (p6 l).2 0=[] from rfl,show ((0:Nat):Int)=0 from rfl] at hloop;rw [show o7 (fun s:(List n5)×(List m9)×Int×Int×List q9=>a84 l s.1 s.2.1 s.2.2.1 s.2.2.2.1 s.2.2.2.2) (([]:List n5),P9.g7,0,P9.At,P9.i8)=_ from hloop,C7 (b:=told l (p6 l).2 l.length)]
 ·rfl
 ·unfold a84;rw [z8];rfl
theorem d1G(l:List m4):s7 (A0 l):=by
 unfold A0;cases hok:G4 l
 ·simp [s7]
 ·obtain ⟨hl,he⟩:=W8 hok;have:=b7M hl he (f9f _);show s7 (told l (p6 l).2 l.length)
  unfold s7;omega
def G9(l:List m9)(p:List n8):List m9×Int×Int:=bif (B5 l p).Code==3 then ([],0,3) else (a0T l (B5 l p).b7,(B5 l p).d8,(B5 l p).Code)
theorem e5s{l:List m9}{i:n8}{regs:List Int}{rs:List r9}{ps:List p8}(hl:C8 l=true)(h4:regs.length=4)(hr:regs.all H4=true)(hi:Q3 i=true)(h1:a34 rs=true)(h2:a2h ps=true):a34 (D9 l i regs rs ps).2.1=true/\a2h (D9 l i regs rs ps).2.2=true:=by
 unfold D9;cases k1:i.a9==1
 ·simp only [g1e];cases k2:i.a9==2
  ·simp only [g1e];cases i.a9==3
   ·cases i.a9==4
    ·cases i.a9==5<;>exact ⟨h1,h2⟩
    ·exact ⟨h1,h2⟩
   ·exact ⟨h1,h2⟩
  ·simp only [g1d];unfold Q3 at hi;rw [k1,k2] at hi;simp only [g1d,g1e,f8R,I0] at hi;have hv:=a2P h4 hr hi.2.1;refine ⟨h1,?_⟩;cases hp:W2 ps i.A with
   | some k=>
    have hk:=b18 hp;simp only [f8N hk];exact e9M h2 hk hv
   | none=>
    simp only;refine f2G h2 ⟨hi.1.1,hi.1.2,hv⟩ ?_;unfold K9;rw [f9E];intro x hx;have:=g0H.1 hp x hx;simpa using this
 ·simp only [g1d];unfold Q3 at hi;rw [k1] at hi;simp only [g1d,f8R,I0] at hi;cases W2 ps i.B with
  | some k=>
   simp only;cases ps[k]?<;>exact ⟨h1,h2⟩
  | none=>
   simp only;cases hb:l[i.B.toNat]? with
   | none=>exact ⟨h1,h2⟩
   | some b=>
    simp only;cases hs:J9 rs i.B
    ·obtain ⟨b',b1,_,b3⟩:=a5v hl hi.2.1;unfold idx at b1;rw [if_pos hi.2.1.1,hb] at b1;injection b1 with b1;subst b1;rw [b3M] at b3;exact ⟨e2r h1 ⟨hi.2.1.1,hi.2.1.2,b3.1⟩ hs,h2⟩
    ·exact ⟨h1,h2⟩
theorem c6X{l:List m9}(hl:C8 l=true){prog:List n8}(hi:∀i∈prog,Q3 i=true):∀(f k c:Nat) (regs:List Int) (rs:List r9) (ps:List p8),regs.length=4->regs.all H4=true->a34 rs=true->a2h ps=true->rs.length<=c->ps.length<=c->c+f<=40->Ran (U1 l prog f k regs rs ps)
 | 0,k,c,regs,rs,ps,h4,hr,h1,h2,h5,h6,h7=>by
  have w:Way ⟨rs,ps,0,0⟩ 40:=⟨rfl,h1,h2,by simp only;omega,by simp only;omega⟩
  exact b6r w (by omega) (.inl rfl) (fun _=>a2P h4 hr (a:=0) ⟨by omega,by omega⟩)
 | f+1,k,c,regs,rs,ps,h4,hr,h1,h2,h5,h6,h7=>by
  have w:∀c,Way ⟨rs,ps,0,c⟩ 40:=fun c=>⟨rfl,h1,h2,by simp only;omega,by simp only;omega⟩
  unfold U1;cases hk:prog[k]? with
  | none=>exact b6r (w 0) (by omega) (.inl rfl) (fun _=>a2P h4 hr (a:=0) ⟨by omega,by omega⟩)
  | some i=>
   have hin:=hi i (f9c hk);simp only;cases i.a9==6
   ·cases i.a9==7
    ·obtain ⟨a1,a2⟩:=e5s hl h4 hr hin h1 h2;have l4:=c6x (l:=l) (i:=i) (rs:=rs) (ps:=ps) h4;have lr:=d0b (l:=l) (i:=i) (regs:=regs) (ps:=ps) h5;have lp:=d3G (l:=l) (i:=i) (regs:=regs) (rs:=rs) h6;simp only [g1e];cases ha:(D9 l i regs rs ps).1.all H4
     ·have w2:Way ⟨(D9 l i regs rs ps).2.1,(D9 l i regs rs ps).2.2,0,2⟩ 40:=⟨rfl,a1,a2,by simp only;omega,by simp only;omega⟩
      exact b6r w2 (by omega) (.inr (.inr rfl)) (v:=0) (fun q=>absurd (show (2:Int)=0 from q) (by decide))
     ·exact c6X hl hi f (k+1) (c+1) _ _ _ l4 ha a1 a2 lr lp (by omega)
    ·exact b6r (w 1) (by omega) (.inr (.inl rfl)) (v:=0) (fun q=>absurd (show (1:Int)=0 from q) (by decide))
   ·exact c6X hl hi f _ c _ _ _ h4 hr h1 h2 h5 h6 (by omega)
theorem b8f{l:List m9}{p:List n8}(hl:C8 l=true)(hp:s7 p):Ran (B5 l p):=by
 unfold B5;rw [hl,f8Y];cases hpo:E4 p
 ·exact (⟨by decide,by simp,by simp⟩:Ran ⟨[],[],0,3⟩)
 unfold E4 at hpo;simp only [f8R,decide_eq_true_eq] at hpo;exact c6X hl (f8S.1 hpo.2) _ 0 0 _ [] [] rfl (by decide) rfl rfl (by simp) (by simp) (by omega)
theorem Ran.f{r:n7}(h:Ran r):a18 r:=by
 have h1:=h.rlen;have h2:=h.plen;exact ⟨⟨by omega,fun _ _=>trivial⟩,⟨by omega,fun _ _=>trivial⟩,trivial⟩
theorem Ran.puts{r:n7}(h:Ran r):∀p∈r.b7,a0k p:=by
 have:=h.ok;rw [b0V] at this;simp only [f8R] at this;exact (b4X.1 this.2.2.2.2.2).1
theorem d7t{l:List m9}{p:List n8}(hl:C8 l=false):(B5 l p).Code=3:=by
 unfold B5;rw [hl];rfl
theorem c8i{l:List m9}(h:C8 l=true):b43 l=some l:=by
 have:=a6o h;unfold b43;rw [v5 (by simp;omega)];rfl
theorem e9m{l:List m9}{p:List n8}(hl:s7 l)(hp:s7 p):b9y l p=some (G9 l p):=by
 unfold b9y G9;rw [d4v hl hp,f8M];cases hc:(B5 l p).Code==3
 ·have hb:C8 l=true:=by
   cases hb:C8 l
   ·rw [d7t hb] at hc;cases hc
   ·rfl
  have hr:=b8f hb hp;simp only [g1e,c8i hb,f8M,d72 hb hr.f hr.puts]
 ·rfl
theorem f3k{l:List m9}{p:List n8}(hl:s7 l)(hp:s7 p):b9o l p=some (G9 l p):=by
 unfold b9o G9;rw [d30 hl hp,f8M];cases hc:(B5 l p).Code==3
 ·have hb:C8 l=true:=by
   cases hb:C8 l
   ·rw [d7t hb] at hc;cases hc
   ·rfl
  have hr:=b8f hb hp;simp only [g1e,f8M,d7r hb hr.f hr.ok]
 ·rfl
theorem c1C{l:List m9}{p:List n8}(hl:C8 l=true)(hp:s7 p)(h:((G9 l p).2.2==3)=false):C8 (G9 l p).1=true:=by
 have hr:=b8f hl hp;unfold G9 at h⊢;cases hc:(B5 l p).Code==3
 ·rw [g1e];exact b5P hl hr.puts
 ·rw [hc,g1d] at h;cases h
def a1K:List (List n8)->List m9->List Int->List m9×List Int
 | [],b,vs=>(b,vs)
 | p::ps,b,vs=>bif (G9 b p).2.2==3 then ([],[]) else a1K ps (G9 b p).1 (vs++[(G9 b p).2.1])
def F5(l:List m9)(progs:List (List n8)):List m9×List Int:=bif C8 l&&decide (progs.length<=100) then a1K progs l [] else ([],[])
theorem f1t{progs:List (List n8)}(hp:∀p∈progs,s7 p)(hn:progs.length<=100):∀(m k:Nat) (b:List m9) (vs:List Int),k+m=progs.length->C8 b=true->vs.length=k->
  ((o7 (fun s:(List Int)×(List m9)×Int=>a93 progs s.1 s.2.1 s.2.2) (vs,b,(k:Int))).bind fun x=>x.go (fun r=>some r) fun s=>c2m s.1 s.2)=some (a1K (progs.drop k) b vs):=by
 intro m;induction m with
 | zero=>
  intro k b vs hk hb hv;have:k=progs.length:=by omega
  subst this;rw [g02,C7 (b:=(vs,b))]
  ·rfl
  ·unfold a93;simp only [z8];rfl
 | succ m ih=>
  intro k b vs hk hb hv;have hlt:k<progs.length:=by omega
  have hpk:=hp _ (f8Q hlt);have n1:(vs.length+1)*8<=140737488355328:=by omega
  have hw:m7 ((k:Int)+1)=((k+1:Nat):Int):=by rw [C5 (by omega) (by omega)];rfl
  have hb1:a93 progs vs b (k:Int)=some (bif (G9 b progs[k]).2.2==3 then .ret ([],[]) else .nxt (vs++[(G9 b progs[k]).2.1],(G9 b progs[k]).1,((k+1:Nat):Int))):=by
   unfold a93;simp only [w6 _ k hlt,t0 hlt,g1d,f8M,e9m (a3c hb) hpk,v5 n1,hw];cases (G9 b progs[k]).2.2==3<;>rfl
  rw [f9j hlt];unfold a1K;cases hc:(G9 b progs[k]).2.2==3
  ·rw [hc,g1e] at hb1;rw [E8 hb1,g1e];exact ih (k+1) _ _ (by omega) (c1C hb hpk hc) (by simp;omega)
  ·rw [hc,g1d] at hb1;rw [W4 hb1];rfl
theorem e8P{l:List m9}{progs:List (List n8)}(hl:s7 l)(hp:∀p∈progs,s7 p):b8z l progs=some (F5 l progs):=by
 unfold b8z F5;rw [c1s hl,f8M];cases hb:C8 l
 ·rfl
 rw [f8T,g1e,f8Y];by_cases hn:progs.length<=100
 ·have h1:¬((progs.length:Int)>100):=by omega
  rw [decide_eq_false h1,g1e,decide_eq_true hn,g1d,c8i hb,f8M];have:=f1t hp hn progs.length 0 l [] (by omega) hb rfl;rwa [g0a] at this
 ·have h1:(progs.length:Int)>100:=by omega
  rw [decide_eq_true h1,decide_eq_false hn];rfl
theorem f8v{l:List Int}(h:l.length<=1000):c0O l=some l:=by
 unfold c0O;cases hl:((l.length:Int)==0)
 ·rw [g1e,v5 (by constructor<;>omega),v5 (by simp)]
 ·simp only [beq_iff_eq] at hl;have:l=[]:=f9b (by omega);rw [this];rfl
theorem e0t{progs:List (List n8)}(hp:∀p∈progs,s7 p)(hn:progs.length<=100):∀(m k:Nat) (b:List m9) (vs:List Int),k+m=progs.length->C8 b=true->vs.length=k->
  ((o7 (fun s:(List Int)×Int×List m9=>a9O progs s.1 s.2.1 s.2.2) (vs,(k:Int),b)).bind fun x=>x.go (fun r=>some r) fun s=>b8G s.1 s.2)=some (a1K (progs.drop k) b vs):=by
 intro m;induction m with
 | zero=>
  intro k b vs hk hb hv;have:k=progs.length:=by omega
  subst this;rw [g02,C7 (b:=(vs,b))]
  ·simp only [f8M,l9.go];unfold b8G;rw [f8v (by omega)];rfl
  ·unfold a9O;simp only [z8];rfl
 | succ m ih=>
  intro k b vs hk hb hv;have hlt:k<progs.length:=by omega
  have hpk:=hp _ (f8Q hlt);have n1:(vs.length+1)*8<=140737488355328:=by omega
  have hw:m7 ((k:Int)+1)=((k+1:Nat):Int):=by rw [C5 (by omega) (by omega)];rfl
  have hb1:a9O progs vs (k:Int) b=some (bif (G9 b progs[k]).2.2==3 then .ret ([],[]) else .nxt (vs++[(G9 b progs[k]).2.1],((k+1:Nat):Int),(G9 b progs[k]).1)):=by
   unfold a9O;simp only [w6 _ k hlt,t0 hlt,g1d,f8M,f3k (a3c hb) hpk,v5 n1,hw];cases (G9 b progs[k]).2.2==3<;>rfl
  rw [f9j hlt];unfold a1K;cases hc:(G9 b progs[k]).2.2==3
  ·rw [hc,g1e] at hb1;rw [E8 hb1,g1e];exact ih (k+1) _ _ (by omega) (c1C hb hpk hc) (by simp;omega)
  ·rw [hc,g1d] at hb1;rw [W4 hb1];rfl
theorem d9p{l:List m9}{progs:List (List n8)}(hl:s7 l)(hp:∀p∈progs,s7 p):b6D l progs=some (F5 l progs):=by
 unfold b6D F5;rw [b4h hl,f8M];cases hb:C8 l
 ·rfl
 rw [f8T,g1e,f8Y];by_cases hn:progs.length<=100
 ·have h1:¬((progs.length:Int)>100):=by omega
  rw [decide_eq_false h1,g1e,decide_eq_true hn,g1d,c5H (by rw [a6o hb];decide),f8M];have:=e0t hp hn progs.length 0 l [] (by omega) hb rfl;rwa [g0a] at this
 ·have h1:(progs.length:Int)>100:=by omega
  rw [decide_eq_true h1,decide_eq_false hn];rfl
def b44(w:m5)(q:n5):Option x8:=w.d9.find? fun a=>(([a.a5.b9,a.a5.Seq]:List Int)==[q.b9,q.Seq])
def R6(w:m5)(q:n5):List n8×Bool:=match b44 w q with
 | some a=>(a.i6,true)
 | none=>([],false)
theorem e3E{l:List n8}(h:l.length*32<=140737488351232):a9x l=some l:=by
 unfold a9x;cases hl:((l.length:Int)==0)
 ·rw [g1e,v5 (by constructor<;>omega),v5 (by simp)]
 ·simp only [beq_iff_eq] at hl;have:l=[]:=f9b (by omega);rw [this];rfl
theorem c4q{w:m5}(h:K5 w){a:x8}(ha:a∈w.d9):a.i6.length*32<=140737488351232:=(h.2.2.1.2 a ha).2.1
theorem e4u{w:m5}(h:K5 w)(q:n5):c0n w q=some (R6 w q):=by
 have hf:s7 w.d9:=h.2.2.1.fits (by decide);unfold c0n R6 b44;rw [b2b w.d9 hf (fun a=>(([a.a5.b9,a.a5.Seq]:List Int)==[q.b9,q.Seq])) (fun a=>(a.i6,true)) ()]
 ·cases w.d9.find? (fun a=>(([a.a5.b9,a.a5.Seq]:List Int)==[q.b9,q.Seq]))<;>rfl
 ·intro k hk;have:=c4q h (f8Q hk);unfold b7O;rw [w6 _ k hk,t0 hk];simp only [g1d,f8M];rw [v5 (by simp;omega)];cases (([w.d9[k].a5.b9,w.d9[k].a5.Seq]:List Int)==[q.b9,q.Seq])<;>rfl
 ·unfold b7O;rw [z8];rfl
theorem e0N{w:m5}(h:K5 w)(q:n5):b5W w q=some (R6 w q):=by
 have hf:s7 w.d9:=h.2.2.1.fits (by decide);unfold b5W R6 b44;rw [b2b w.d9 hf (fun a=>(([a.a5.b9,a.a5.Seq]:List Int)==[q.b9,q.Seq])) (fun a=>(a.i6,true)) ()]
 ·cases w.d9.find? (fun a=>(([a.a5.b9,a.a5.Seq]:List Int)==[q.b9,q.Seq]))<;>rfl
 ·intro k hk;have:=c4q h (f8Q hk);unfold b8J;rw [w6 _ k hk,t0 hk];simp only [g1d,f8M,e3E this];cases (([w.d9[k].a5.b9,w.d9[k].a5.Seq]:List Int)==[q.b9,q.Seq])<;>rfl
 ·unfold b8J;rw [z8];rfl
theorem e4e{w:m5}(h:K5 w)(q:n5):s7 (R6 w q).1:=by
 unfold R6 b44;cases hf:w.d9.find? (fun a=>(([a.a5.b9,a.a5.Seq]:List Int)==[q.b9,q.Seq])) with
 | none=>simp [s7]
 | some a=>
  have:=c4q h (g07 hf);show a.i6.length<=_
  omega
def a1S(w:m5):List n5->List (List n8)->Option (List (List n8))
 | [],o=>some o
 | q::qs,o=>bif (R6 w q).2 then a1S w qs (o++[(R6 w q).1]) else none
theorem c2u{w:m5}(h:K5 w):∀{qs:List n5} {o ps:List (List n8)},a1S w qs o=some ps->(∀p∈o,s7 p)->∀p∈ps,s7 p
 | [],o,ps,hs,ho=>by
  injection hs with hs;subst hs;exact ho
 | q::qs,o,ps,hs,ho=>by
  unfold a1S at hs;cases hq:(R6 w q).2
  ·rw [hq] at hs;cases hs
  ·rw [hq,g1d] at hs;refine c2u h hs fun p hp => ?_
   rcases f8P.1 hp with hp|hp
   ·exact ho p hp
   ·rw [f8V.1 hp];exact e4e h q
theorem e9O{w:m5}(h:K5 w){l:List n5}(hl:l.length<=1000):∀(m k:Nat) (o:List (List n8)),k+m=l.length->o.length=k->
  ((o7 (fun s:(List (List n8))×Int=>a6S w l s.1 s.2) (o,(k:Int))).bind fun x=>x.go (fun r=>some r) fun s=>c53 s)=some (match a1S w (l.drop k) o with|some ps=>(ps,true)|none=>([],false)):=by
 intro m;induction m with
 | zero=>
  intro k o hk ho;have:k=l.length:=by omega
  subst this;rw [g02,C7 (b:=o)]
  ·rfl
  ·unfold a6S;simp only [z8];rfl
 | succ m ih=>
  intro k o hk ho;have hlt:k<l.length:=by omega
  have n1:(o.length+1)*24<=140737488355328:=by omega
  have hw:m7 ((k:Int)+1)=((k+1:Nat):Int):=by rw [C5 (by omega) (by omega)];rfl
  have hb1:a6S w l o (k:Int)=some (bif (R6 w l[k]).2 then .nxt (o++[(R6 w l[k]).1],((k+1:Nat):Int)) else .ret ([],false)):=by
   unfold a6S;simp only [w6 _ k hlt,t0 hlt,g1d,f8M,e4u h,v5 n1,hw];cases (R6 w l[k]).2<;>rfl
  rw [f9j hlt];unfold a1S;cases hc:(R6 w l[k]).2
  ·rw [hc,g1e] at hb1;rw [W4 hb1];rfl
  ·rw [hc,g1d] at hb1;rw [E8 hb1,g1d];exact ih (k+1) _ (by omega) (by simp;omega)
def a5M(a b:List m9):Bool:=(a.length==b.length)&&(f8W a.length).all fun k=>match a[k]?,b[k]? with
 | some x,some y=>(([x.j4,x.d8]:List Int)==[y.j4,y.d8])
 | _,_=>false
theorem e7k{a b:List m9}(h:s7 a):b9K a b=some (a5M a b):=by
 unfold b9K a5M;rw [b1m];cases hl:a.length==b.length
 ·rfl
 have hl:a.length=b.length:=by simpa using hl
 rw [f8T,g1e,f8Y,W1 a h (fun k=>match a[k]?,b[k]? with|some x,some y=>(([x.j4,x.d8]:List Int)==[y.j4,y.d8])|_,_=>false) false ()]
 ·cases (f8W a.length).all _<;>rfl
 ·intro k hk _;unfold b6b;rw [w6 _ k hk,t0 hk,t0 (hl▸hk),f8N hk,f8N (hl▸hk)];simp only [g1d,f8M];cases (([a[k].j4,a[k].d8]:List Int)==[(b[k]'(hl▸hk)).j4,(b[k]'(hl▸hk)).d8])<;>rfl
 ·unfold b6b;rw [z8];rfl
theorem f6V{a b:List m9}(h:s7 a):b6j a b=some (a5M a b):=by
 unfold b6j c3j a5M;rw [b1m];cases hl:a.length==b.length
 ·rfl
 have hl:a.length=b.length:=by simpa using hl
 rw [f8T,g1e,f8Y,W1 a h (fun k=>match a[k]?,b[k]? with|some x,some y=>(([x.j4,x.d8]:List Int)==[y.j4,y.d8])|_,_=>false) false ()]
 ·cases (f8W a.length).all _<;>rfl
 ·intro k hk _;unfold b65;rw [w6 _ k hk,t0 hk,t0 (hl▸hk),f8N hk,f8N (hl▸hk)];simp only [g1d,f8M];cases (([a[k].j4,a[k].d8]:List Int)==[(b[k]'(hl▸hk)).j4,(b[k]'(hl▸hk)).d8])<;>rfl
 ·unfold b65;rw [z8];rfl
theorem d9N{s:u5}{e:m4}(h:e.i7=true):(apply s e).2=5:=by
 unfold apply;rw [h];rfl
theorem d3U{l:List m4}(hl:l.length<=40)(he:l.all z4=true):∀k,k<=l.length->∀q∈told l (p6 l).2 k,∃e∈l,D6 q e=true
 | 0,_,q,hq=>by cases hq
 | k+1,hk,q,hq=>by
  have h1:k<l.length:=by omega
  have hlen:=(P6 hl he l.length (f9f _)).2.1;rw [f9e] at hlen;have h2:k<(p6 l).2.length:=by omega
  unfold told at hq;rcases f8P.1 hq with hq|hq
  ·exact d3U hl he k (by omega) q hq
  ·rw [b46 h1 h2] at hq;cases hc:(p6 l).2[k]==0
   ·rw [hc] at hq;cases hq
   ·rw [hc,g1d,f8V] at hq;refine ⟨l[k],f8Q h1,?_⟩;have hco:=b0a hl he h1;rw [f8N h2] at hco;have hco:=g0j hco;rw [hq];unfold D6;cases hn:l[k].i7
    ·simp
    ·rw [d9N hn] at hco;rw [hco] at hc;cases hc
theorem d9Q{l:List m4}{q:n5}(hq:q∈A0 l):∃i,∃h:i<l.length,l.findIdx? (D6 q)=some i:=by
 unfold A0 at hq;cases hok:G4 l
 ·rw [hok] at hq;cases hq
 ·rw [hok,g1d] at hq;obtain ⟨hl,he⟩:=W8 hok;obtain ⟨e,h1,h2⟩:=d3U hl he _ (f9f _) q hq;cases hf:l.findIdx? (D6 q) with
  | none=>
   have:=(g0H.1 hf) e h1;rw [h2] at this;cases this
  | some i=>exact ⟨i,(f9L.1 hf).1,rfl⟩
def R1(l:List m4)(q:n5):Int:=match l.findIdx? (D6 q) with
 | some k=>(match l[k]? with|some e=>e.b6.d8|none=>0)
 | none=>0
theorem e8v{l:List m4}(h:s7 l)(q:n5):b09 l q=some (R1 l q):=c9B h q
def b6I(l:List m4)(done:List n5)(vals:List Int):Bool:=(f8W done.length).all fun i=>match vals[i]?,done[i]? with
 | some v,some q=>v==R1 l q
 | _,_=>false
def V9:List m9:=f8O 4 ⟨0,0⟩
def b9P(l:List m4)(ps:List (List n8)):Bool:=
 ((F5 V9 ps).2.length==(A0 l).length)&&(a5M (F5 V9 ps).1 (p6 l).1.g7&&b6I l (A0 l) (F5 V9 ps).2)
def a06(w:m5):Bool:=z9 w&&match a1S w (A0 (u7 w)) [] with
 | some ps=>b9P (u7 w) ps
 | none=>false
theorem b6V:C8 V9=true:=by decide
theorem d1T:∀{ps:List (List n8)} {b:List m9} {vs:List Int},C8 b=true->(∀p∈ps,s7 p)->s7 (a1K ps b vs).1
 | [],b,vs,hb,_=>a3c hb
 | p::ps,b,vs,hb,hp=>by
  unfold a1K;cases hc:(G9 b p).2.2==3
  ·rw [g1e];exact d1T (c1C hb (hp p (by simp)) hc) fun q hq=>hp q (by simp [hq])
  ·simp [s7]
theorem d5O{ps:List (List n8)}(hp:∀p∈ps,s7 p):s7 (F5 V9 ps).1:=by
 unfold F5;cases (C8 V9&&decide (ps.length<=100))
 ·simp [s7]
 ·exact d1T b6V hp
theorem f4j{w:m5}(h:K5 w){lg:List m4}{l:List n5}(hl:l.length<=1000):∀(m k:Nat) (o:List (List n8)),k+m=l.length->o.length=k->
  ((o7 (fun s:(List (List n8))×Int=>a6Z w l s.1 s.2) (o,(k:Int))).bind fun x=>x.go (fun r=>some r) fun s=>b3s lg l s)=(match a1S w (l.drop k) o with|some ps=>b3s lg l ps|none=>some false):=by
 intro m;induction m with
 | zero=>
  intro k o hk ho;have:k=l.length:=by omega
  subst this;rw [g02,C7 (b:=o)]
  ·rfl
  ·unfold a6Z;simp only [z8];rfl
 | succ m ih=>
  intro k o hk ho;have hlt:k<l.length:=by omega
  have n1:(o.length+1)*24<=140737488355328:=by omega
  have hw:m7 ((k:Int)+1)=((k+1:Nat):Int):=by rw [C5 (by omega) (by omega)];rfl
  have hb1:a6Z w l o (k:Int)=some (bif (R6 w l[k]).2 then .nxt (o++[(R6 w l[k]).1],((k+1:Nat):Int)) else .ret false):=by
   unfold a6Z;simp only [w6 _ k hlt,t0 hlt,g1d,f8M,e0N h,v5 n1,hw];cases (R6 w l[k]).2<;>rfl
  rw [f9j hlt];unfold a1S;cases hc:(R6 w l[k]).2
  ·rw [hc,g1e] at hb1;rw [W4 hb1];rfl
  ·rw [hc,g1d] at hb1;rw [E8 hb1,g1d];exact ih (k+1) _ (by omega) (by simp;omega)
theorem f07:b4Q=some V9:=rfl
theorem f7p:b4y=some V9:=rfl
theorem f1G{w:m5}(h:K5 w):b6J w=some (a06 w):=by
 unfold b6J a06;rw [a6s h,f8M];cases hw:z9 w
 ·rfl
 obtain ⟨h0,hlo,hok⟩:=b8y h hw;have hs:=d4J h h0;obtain ⟨hl,he⟩:=W8 hok;have hf:=okEntries.f hlo;have hfl:s7 (u7 w):=hlo.fits (by decide);have hd:(A0 (u7 w)).length<=40:=by
  unfold A0;rw [hok];exact b7M hl he (f9f _)
 have hdf:s7 (A0 (u7 w)):=d1G _;simp only [f8T,g1e,hs,f8M,f0E hf,f8Y];have hpg:=e9O h (l:=A0 (u7 w)) (by omega) (A0 (u7 w)).length 0 [] (by omega) rfl;rw [g0a] at hpg;unfold c4e;rw [show o7 (fun s:(List (List n8))×Int=>a6S w (A0 (u7 w)) s.1 s.2) (([]:List (List n8)),0)=o7 (fun s:(List (List n8))×Int=>a6S w (A0 (u7 w)) s.1 s.2) (([]:List (List n8)),((0:Nat):Int)) from rfl,hpg,f8M];cases hps:a1S w (A0 (u7 w)) [] with
 | none=>rfl
 | some ps=>
  have hpf:=c2u h hps (by simp);simp only [f8T,g1e,f07,f8M,e8P (a3c b6V) hpf,b1m];unfold b9P;cases hle:(F5 V9 ps).2.length==(A0 (u7 w)).length
  ·rfl
  have hle:(F5 V9 ps).2.length=(A0 (u7 w)).length:=by simpa using hle
  simp only [f8T,g1e,d5D hf hok,f8M,e7k (d5O hpf),f8Y];cases a5M (F5 V9 ps).1 (p6 (u7 w)).1.g7
  ·rfl
  simp only [f8T,g1e,f8Y];unfold b6I;rw [W1 (A0 (u7 w)) hdf (fun i=>match (F5 V9 ps).2[i]?,(A0 (u7 w))[i]? with|some v,some q=>v==R1 (u7 w) q|_,_=>false) false ()]
  ·cases (f8W (A0 (u7 w)).length).all _<;>rfl
  ·intro k hk _;unfold b76;rw [w6 _ k hk,t0 hk,t0 (hle▸hk),f8N hk,f8N (hle▸hk)];simp only [g1d,f8M,e8v hfl];rw [bne];cases ((F5 V9 ps).2[k]'(hle▸hk))==R1 (u7 w) (A0 (u7 w))[k]<;>rfl
  ·unfold b76;rw [z8];rfl
theorem c9S{w:m5}(h:K5 w):b4v w=some (a06 w):=by
 unfold b4v a06;rw [a5i h,f8M];cases hw:z9 w
 ·rfl
 obtain ⟨h0,hlo,hok⟩:=b8y h hw;have hi:=c78 h h0;obtain ⟨hl,he⟩:=W8 hok;have hf:=okEntries.f hlo;have hfl:s7 (u7 w):=hlo.fits (by decide);have hd:(A0 (u7 w)).length<=40:=by
  unfold A0;rw [hok];exact b7M hl he (f9f _)
 have hdf:s7 (A0 (u7 w)):=d1G _;simp only [f8T,g1e,hi,f8M,e2v hf,f8Y];have hpg:=f4j h (lg:=u7 w) (l:=A0 (u7 w)) (by omega) (A0 (u7 w)).length 0 [] (by omega) rfl;rw [g0a] at hpg;rw [show o7 (fun s:(List (List n8))×Int=>a6Z w (A0 (u7 w)) s.1 s.2) ([],0)=o7 (fun s:(List (List n8))×Int=>a6Z w (A0 (u7 w)) s.1 s.2) ([],((0:Nat):Int)) from rfl,hpg];cases hps:a1S w (A0 (u7 w)) [] with
 | none=>rfl
 | some ps=>
  have hpf:=c2u h hps (by simp);simp only;unfold b3s;simp only [f7p,f8M,d9p (a3c b6V) hpf,d6Z hf,hok,g1d,f6V (d5O hpf),b1m];unfold b9P;cases a5M (F5 V9 ps).1 (p6 (u7 w)).1.g7
  ·simp
  cases hle:(F5 V9 ps).2.length==(A0 (u7 w)).length
  ·rfl
  have hle:(F5 V9 ps).2.length=(A0 (u7 w)).length:=by simpa using hle
  simp only [f8T,g1e,f8Y];unfold b6I;rw [W1 (A0 (u7 w)) hdf (fun i=>match (F5 V9 ps).2[i]?,(A0 (u7 w))[i]? with|some v,some q=>v==R1 (u7 w) q|_,_=>false) false ()]
  ·cases (f8W (A0 (u7 w)).length).all _<;>rfl
  ·intro k hk _;obtain ⟨i,hi,hfi⟩:=d9Q (f8Q hk);unfold b5V R1;rw [w6 _ k hk,t0 hk,t0 (hle▸hk),f8N hk,f8N (hle▸hk)];simp only [g1d,f8M,b39 hfl,hfi,t0 hi,f8N hi];rw [bne];cases ((F5 V9 ps).2[k]'(hle▸hk))==(u7 w)[i].b6.d8<;>rfl
  ·unfold b5V;rw [z8];rfl
theorem c0H{a b:m4}(h:F3 a):a7F a b=some (J3 a b):=by
 unfold a7F J3;simp only [b8E h.f.2,f8M,a2X]
theorem c4f{α β:Type}{a:List α}{b:List β}(h:s7 a):s7 (a.zip b):=by
 unfold s7 at h⊢;rw [g08];omega
theorem a9L{α β:Type}{a:List α}{b:List β}{k:Nat}(hk:k<(a.zip b).length):∃ (h1:k<a.length) (h2:k<b.length),(a.zip b)[k]=(a[k],b[k]):=by
 rw [g08] at hk;exact ⟨by omega,by omega,by simp⟩
theorem e3o{α β:Type}(a:List α)(b:List β):decide (((a.zip b).length:Int)<(a.length:Int))=true->decide (((a.zip b).length:Int)<(b.length:Int))=false:=by
 rw [g08];simp only [decide_eq_true_eq,decide_eq_false_iff_not];omega
theorem c6A{α β R S:Type}(a:List α)(b:List β)(X:Option (j7 R S Unit)):(bif decide (((a.zip b).length:Int)<(a.length:Int)) then (bif decide (((a.zip b).length:Int)<(b.length:Int)) then X else some (.brk ())) else some (.brk ()))=some (.brk ()):=by
 cases h:decide (((a.zip b).length:Int)<(a.length:Int))
 ·rfl
 ·rw [e3o a b h];rfl
def V3(a b:List m4):Bool:=(a.zip b).all fun p=>J3 p.1 p.2
theorem f5Z{a b:List m4}(ha:A2 88 F3 a):b9J a b=some (V3 a b):=by
 unfold b9J V3;rw [I5 (a.zip b) (c4f (ha.fits (by decide))) (fun p=>J3 p.1 p.2) false ()]
 ·cases (a.zip b).all (fun p=>J3 p.1 p.2)<;>rfl
 ·intro k hk;obtain ⟨h1,h2,e⟩:=a9L hk;unfold b9a;rw [w6 _ k h1,w6 _ k h2,t0 h1,t0 h2,e];simp only [g1d,f8M,c0H (ha.2 _ (f8Q h1))];cases J3 a[k] b[k]<;>rfl
 ·unfold b9a;exact c6A _ _ _
theorem f2N{x y:j6}(ha:A2 88 F3 x.a6):o7 (fun s:Int=>b4i x y s) 0=some (bif V3 x.a6 y.a6 then .brk () else .ret false):=by
 rw [I5 (x.a6.zip y.a6) (c4f (ha.fits (by decide))) (fun p=>J3 p.1 p.2) false ()]
 ·rfl
 ·intro k hk;obtain ⟨h1,h2,e⟩:=a9L hk;unfold b4i;rw [w6 _ k h1,w6 _ k h2,t0 h1,t0 h2,e];simp only [g1d,f8M,a6F (ha.2 _ (f8Q h1))];cases J3 x.a6[k] y.a6[k]<;>rfl
 ·unfold b4i;exact c6A _ _ _
def b1J{α:Type}(l:List α)(p:α->α->Bool)(i:Nat):Bool:=match l[i]? with
 | some x=>(l.take i).all (p x)
 | none=>true
theorem b6w{α:Type}{l:List α}{p:α->α->Bool}{k:Nat}(hk:k<l.length):b1J l p k=(l.take k).all (p l[k]):=by
 unfold b1J;rw [f8N hk]
def a2G{α:Type}(l:List α)(p:α->α->Bool):Bool:=(f8W l.length).all (b1J l p)
theorem c5E{α:Type}{l:List α}{p:α->α->Bool}:a2G l p=true ↔ ∀(i k:Nat) (hi:i<l.length) (hk:k<i),p l[i] (l[k]'(by omega))=true:=by
 unfold a2G;simp only [f8S,f9P];constructor
 ·intro h i k hi hk;have:=h i hi;rw [b6w hi] at this;simp only [f8S] at this;refine this _ (g0I.2 ⟨k,by simp;omega,by simp⟩)
 ·intro h i hi;rw [b6w hi];simp only [f8S];intro y hy;obtain ⟨k,hk,rfl⟩:=f9o hy;simp only [f9g] at hk;simp only [g0U];exact h i k hi (by omega)
theorem e7Y{w:m5}(h:K5 w):b3S w=some (a2G w.a0 (fun a b=>V3 a.a6 b.a6)&&z9 w):=by
 have hf:s7 w.a0:=h.1.fits (by decide);have hin:∀(i:Nat) (hi:i<w.a0.length),o7 (fun s:Int=>b3u w (i:Int) s) 0=some (bif (w.a0.take i).all (fun b=>V3 w.a0[i].a6 b.a6) then .brk () else .ret false):=by
  intro i hi;have hl:(w.a0.take i).length=i:=by simp;omega
  refine I5 (w.a0.take i) (b2h hf i) (fun b=>V3 w.a0[i].a6 b.a6) false () ?_ ?_
  ·intro k hk;have hki:k<i:=by omega
   unfold b3u;rw [show decide ((k:Int)<(i:Int))=true from by simpa using hki,t0 hi,t0 (show k<w.a0.length by omega)];simp only [g1d,f8M,f5Z (h.1.2 _ (f8Q hi)).2.2.1,g0U];cases V3 w.a0[i].a6 w.a0[k].a6<;>rfl
  ·unfold b3u;rw [hl,show decide ((i:Int)<(i:Int))=false from by simp];rfl
 unfold b3S;rw [W1 w.a0 hf (b1J w.a0 fun a b=>V3 a.a6 b.a6) false ()]
 ·unfold c6p a2G;rw [a6s h];simp only [f8M];cases (f8W w.a0.length).all (b1J w.a0 fun a b=>V3 a.a6 b.a6)<;>rfl
 ·intro k hk _;unfold b8i;rw [w6 _ k hk,hin k hk,b6w hk];simp only [g1d,f8M];cases (w.a0.take k).all (fun b=>V3 w.a0[k].a6 b.a6)<;>rfl
 ·unfold b8i;rw [z8];rfl
theorem f5m{w:m5}(h:K5 w):a9Y w=some (z9 w&&w.a0.all fun a=>w.a0.all fun b=>V3 a.a6 b.a6):=by
 have hf:s7 w.a0:=h.1.fits (by decide);have hin:∀a:j6,O6 a->o7 (fun s:Int=>b4K w a s) 0=some (bif w.a0.all (fun b=>V3 a.a6 b.a6) then .brk () else .ret false):=by
  intro a ha;refine I5 w.a0 hf (fun b=>V3 a.a6 b.a6) false () ?_ ?_
  ·intro k hk;unfold b4K;rw [w6 _ k hk,t0 hk];simp only [g1d,f8M];rw [f2N ha.2.2.1];cases V3 a.a6 w.a0[k].a6<;>rfl
  ·unfold b4K;rw [z8];rfl
 unfold a9Y;rw [a5i h,f8M];cases z9 w
 ·rfl
 ·simp only [f8T,g1e,f8Y];rw [I5 w.a0 hf (fun a=>w.a0.all fun b=>V3 a.a6 b.a6) false ()]
  ·cases w.a0.all (fun a=>w.a0.all fun b=>V3 a.a6 b.a6)<;>rfl
  ·intro k hk;unfold b93;rw [w6 _ k hk,t0 hk];simp only [g1d,f8M];rw [hin _ (h.1.2 _ (f8Q hk))];cases w.a0.all (fun b=>V3 w.a0[k].a6 b.a6)<;>rfl
  ·unfold b93;rw [z8];rfl
theorem b9F{a b:List m4}:V3 a b=true ↔ ∀(i:Nat) (h1:i<a.length) (h2:i<b.length),a[i]=b[i]:=by
 unfold V3;rw [f8S];constructor
 ·intro h i h1 h2;have:=h (a[i],b[i]) (g0I.2 ⟨i,by rw [g08];omega,by simp⟩);exact (a0J _ _).1 this
 ·intro h p hp;obtain ⟨i,hi,rfl⟩:=f9o hp;obtain ⟨h1,h2,e⟩:=a9L hi;rw [e];exact (a0J _ _).2 (h i h1 h2)
theorem d94{α:Type}{l:List α}{p:α->α->Bool}(hr:∀x∈l,p x x=true)(hs:∀x∈l,∀y∈l,p x y=true->p y x=true):a2G l p=l.all fun a=>l.all (p a):=by
 rw [g0g,c5E];simp only [f8S];constructor
 ·intro h a ha b hb;obtain ⟨i,hi,rfl⟩:=f9o ha;obtain ⟨k,hk,rfl⟩:=f9o hb;rcases Nat.lt_trichotomy i k with q|q|q
  ·exact hs _ hb _ ha (h k i hk q)
  ·subst q;exact hr _ ha
  ·exact h i k hi q
 ·intro h i k hi hk;exact h _ (f8Q hi) _ (f8Q _)
abbrev zV:m8:=⟨0,zE⟩
def C4(n:j6)(k:Nat):m8:=n.Acc.a7[k]?.getD zV
theorem d9G:F3 zE:=by
 refine ⟨⟨by simp [H3],by simp [H3]⟩,⟨by simp,by simp⟩,⟨by simp,by simp⟩,by simp [H3],by simp [H3]⟩
theorem c68{n:j6}(h:O6 n)(k:Nat):T1 (C4 n k):=by
 unfold C4;cases hv:n.Acc.a7[k]? with
 | none=>exact ⟨by simp [H3],d9G⟩
 | some v=>exact h.2.1.2.2 v (f9c hv)
theorem c6D{n:j6}(k:Nat):a75 n (k:Int)=some (C4 n k):=by
 unfold a75 C4;by_cases hk:k<n.Acc.a7.length
 ·rw [w6 _ k hk,t0 hk,f8N hk];rfl
 ·rw [show decide ((k:Int)<(n.Acc.a7.length:Int))=false from by simpa using hk,f9m (by omega)];rfl
def a1Y(a b:m8):Bool := !(decide (a.a8>0)&&((a.a8==b.a8) && !J3 a.g9 b.g9))
def a1z(a b:m8):Bool := !((a.a8 != 0)&&((a.a8==b.a8) && !J3 a.g9 b.g9))
theorem f3o{w:m5}(h:K5 w):b5d w=some (z9 w&&(f8W 40).all fun s=>a2G w.a0 fun a b=>a1Y (C4 a s) (C4 b s)):=by
 have hf:s7 w.a0:=h.1.fits (by decide);have hin:∀(s i:Nat) (hi:i<w.a0.length),o7 (fun t:Int=>b42 w (s:Int) (i:Int) t) 0=some (bif (w.a0.take i).all (fun b=>a1Y (C4 w.a0[i] s) (C4 b s)) then .brk () else .ret false):=by
  intro s i hi;have hl:(w.a0.take i).length=i:=by simp;omega
  refine I5 (w.a0.take i) (b2h hf i) (fun b=>a1Y (C4 w.a0[i] s) (C4 b s)) false () ?_ ?_
  ·intro k hk;have hki:k<i:=by omega
   unfold b42 c1O;rw [show decide ((k:Int)<(i:Int))=true from by simpa using hki,t0 hi,t0 (show k<w.a0.length by omega)];simp only [g1d,f8M,c6D,c0H (c68 (h.1.2 _ (f8Q hi)) s).2,g0U];unfold a1Y;cases decide ((C4 w.a0[i] s).a8>0)<;>cases ((C4 w.a0[i] s).a8==(C4 w.a0[k] s).a8)<;>cases J3 (C4 w.a0[i] s).g9 (C4 w.a0[k] s).g9<;>rfl
  ·unfold b42;rw [hl,show decide ((i:Int)<(i:Int))=false from by simp];rfl
 have hmid:∀s:Nat,o7 (fun t:Int=>b4r w (s:Int) t) 0=some (bif a2G w.a0 (fun a b=>a1Y (C4 a s) (C4 b s)) then .brk () else .ret false):=by
  intro s;unfold a2G;refine W1 w.a0 hf (b1J w.a0 fun a b=>a1Y (C4 a s) (C4 b s)) false () ?_ ?_
  ·intro k hk _;unfold b4r c4p;rw [w6 _ k hk,hin s k hk,b6w hk];simp only [g1d,f8M];cases (w.a0.take k).all (fun b=>a1Y (C4 w.a0[k] s) (C4 b s))<;>rfl
  ·unfold b4r;rw [z8];rfl
 unfold b5d;rw [a6s h,f8M];cases z9 w
 ·rfl
 ·simp only [f8T,g1e,f8Y];have:=W1 (body:=fun s:Int=>b3l w s) (f8O 40 ()) (by unfold s7;simp) (fun s=>a2G w.a0 (fun a b=>a1Y (C4 a s) (C4 b s))) false ()
   (fun k hk _=>by
    have hk':k<40:=by simpa using hk
    unfold b3l c26;rw [show decide ((k:Int)<40)=true from by simp;omega,hmid k];simp only [g1d,f8M];cases a2G w.a0 (fun a b=>a1Y (C4 a k) (C4 b k))<;>rfl)
   (by unfold b3l;simp)
  rw [this];simp only [g0C];cases (f8W 40).all (fun s=>a2G w.a0 (fun a b=>a1Y (C4 a s) (C4 b s)))<;>rfl
theorem e88{w:m5}(h:K5 w):b1N w=some (z9 w&&w.a0.all fun a=>w.a0.all fun b=>(a.Acc.a7.zip b.Acc.a7).all fun p=>a1z p.1 p.2):=by
 have hf:s7 w.a0:=h.1.fits (by decide);have hv:∀x y:j6,O6 x->o7 (fun s:Int=>b3P x y s) 0=some (bif (x.Acc.a7.zip y.Acc.a7).all (fun p=>a1z p.1 p.2) then .brk () else .ret false):=by
  intro x y hx;refine I5 (x.Acc.a7.zip y.Acc.a7) (c4f (hx.2.1.2.fits (by decide))) (fun p=>a1z p.1 p.2) false () ?_ ?_
  ·intro k hk;obtain ⟨h1,h2,e⟩:=a9L hk;unfold b3P c4s;rw [w6 _ k h1,w6 _ k h2,t0 h1,t0 h2,e];simp only [g1d,f8M,a6F (hx.2.1.2.2 _ (f8Q h1)).2];unfold a1z;cases (x.Acc.a7[k].a8 != 0)<;>cases (x.Acc.a7[k].a8==y.Acc.a7[k].a8)<;>cases J3 x.Acc.a7[k].g9 y.Acc.a7[k].g9<;>rfl
  ·unfold b3P;exact c6A _ _ _
 have hin:∀a:j6,O6 a->o7 (fun s:Int=>b3K w a s) 0=some (bif w.a0.all (fun b=>(a.Acc.a7.zip b.Acc.a7).all fun p=>a1z p.1 p.2) then .brk () else .ret false):=by
  intro a ha;refine I5 w.a0 hf (fun b=>(a.Acc.a7.zip b.Acc.a7).all fun p=>a1z p.1 p.2) false () ?_ ?_
  ·intro k hk;unfold b3K c39;rw [w6 _ k hk,t0 hk];simp only [g1d,f8M];rw [hv a _ ha];cases (a.Acc.a7.zip w.a0[k].Acc.a7).all (fun p=>a1z p.1 p.2)<;>rfl
  ·unfold b3K;rw [z8];rfl
 unfold b1N;rw [a5i h,f8M];cases z9 w
 ·rfl
 ·simp only [f8T,g1e,f8Y];rw [I5 w.a0 hf (fun a=>w.a0.all fun b=>(a.Acc.a7.zip b.Acc.a7).all fun p=>a1z p.1 p.2) false ()]
  ·cases w.a0.all (fun a=>w.a0.all fun b=>(a.Acc.a7.zip b.Acc.a7).all fun p=>a1z p.1 p.2)<;>rfl
  ·intro k hk;unfold b7u c4k;rw [w6 _ k hk,t0 hk];simp only [g1d,f8M];rw [hin _ (h.1.2 _ (f8Q hk))];cases w.a0.all (fun b=>(w.a0[k].Acc.a7.zip b.Acc.a7).all fun p=>a1z p.1 p.2)<;>rfl
  ·unfold b7u;rw [z8];rfl
theorem c1q{a b:m8}:a1Y a b=true↔(0<a.a8->a.a8=b.a8->a.g9=b.g9):=by
 unfold a1Y;rw [f9v,<-g0q,f8R,f8R,f9v,<-g0q,a0J,decide_eq_true_eq,beq_iff_eq];constructor
 ·intro h h1 h2;exact g0G fun q=>h ⟨h1,h2,q⟩
 ·rintro h ⟨h1,h2,h3⟩
  exact h3 (h h1 h2)
theorem c4r{a b:m8}:a1z a b=true↔(a.a8≠0->a.a8=b.a8->a.g9=b.g9):=by
 unfold a1z;rw [f9v,<-g0q,f8R,f8R,f9v,<-g0q,a0J,bne_iff_ne,beq_iff_eq];constructor
 ·intro h h1 h2;exact g0G fun q=>h ⟨h1,h2,q⟩
 ·rintro h ⟨h1,h2,h3⟩
  exact h3 (h h1 h2)
theorem d9T{w:m5}(hw:z9 w=true):(w.a0.all fun a=>w.a0.all fun b=>(a.Acc.a7.zip b.Acc.a7).all fun p=>a1z p.1 p.2)=((f8W 40).all fun s=>a2G w.a0 fun a b=>a1Y (C4 a s) (C4 b s)):=by
 rw [g0g];have hn:=(c38 hw).2;have hacc:∀n∈w.a0,n.Acc.a7.length<=40/\∀v∈n.Acc.a7,0<=v.a8:=fun n hm=>e2U (b1P (hn n hm)).2.1
 have hnn:∀n∈w.a0,∀k,0<=(C4 n k).a8:=by
  intro n hm k;unfold C4;cases hv:n.Acc.a7[k]? with
  | none=>exact f9n 0
  | some v=>exact (hacc n hm).2 v (f9c hv)
 simp only [f8S,f9P];constructor
 ·intro q s hs;rw [c5E];intro i k hi hk;rw [c1q];intro h1 h2;have hia:=f8Q (l:=w.a0) hi;have hka:=f8Q (l:=w.a0) (show k<w.a0.length by omega);unfold C4 at h1 h2⊢;cases hv:w.a0[i].Acc.a7[s]? with
  | none=>rw [hv] at h1;simp at h1
  | some v=>
   cases hu:(w.a0[k]'(by omega)).Acc.a7[s]? with
   | none=>
    rw [hv,hu] at h2;rw [hv] at h1;simp at h1 h2;omega
   | some u=>
    rw [hv,hu] at h2;rw [hv] at h1;obtain ⟨l1,e1⟩:=f8U.1 hv;obtain ⟨l2,e2⟩:=f8U.1 hu;have:=q _ hia _ hka (v,u) (g0I.2 ⟨s,by rw [g08];omega,by simp [e1,e2]⟩);simp only [g0d] at h1 h2⊢;exact (c4r.1 this) (fun z=>by have z':v.a8=0:=z;omega) h2
 ·intro q a ha b hb p hp;obtain ⟨s,hs,rfl⟩:=f9o hp;obtain ⟨l1,l2,e⟩:=a9L hs;rw [e,c4r];intro h1 h2;simp only at h1 h2;have hs40:s<40:=by have:=(hacc a ha).1;omega
  have hpq:=c5E.1 (q s hs40);obtain ⟨i,hi,rfl⟩:=f9o ha;obtain ⟨k,hk,rfl⟩:=f9o hb;have ei:C4 w.a0[i] s=w.a0[i].Acc.a7[s]:=by unfold C4;rw [f8N l1];rfl
  have ek:C4 w.a0[k] s=w.a0[k].Acc.a7[s]:=by unfold C4;rw [f8N l2];rfl
  have p1:=(hacc _ ha).2 _ (f8Q l1);rcases Nat.lt_trichotomy i k with z|z|z
  ·have:=c1q.1 (hpq k i hk z);rw [ei,ek] at this;exact (this (by omega) h2.symm).symm
  ·subst z;rfl
  ·have:=c1q.1 (hpq i k hi z);rw [ei,ek] at this;exact this (by omega) h2
def a7V(n:j6):Bool:=bif n.d6 != 3 then true else decide ((C4 n n.a6.length).a8>=n.a8)&&(decide ((C4 n n.a6.length).a8>n.a8)||J3 (C4 n n.a6.length).g9 n.c8)
theorem e42{n:j6}(h:O6 n):b89 n=some (a7V n):=by
 unfold b89 a7V;rw [c6D,f8M,c0H (c68 h _).2];cases n.d6 != 3<;>cases decide ((C4 n n.a6.length).a8>=n.a8)<;>cases decide ((C4 n n.a6.length).a8>n.a8)<;>rfl
def other(a b:j6):Bool := !(decide (a.a8>0)&&(a.a8==b.a8))
def a76(a b:j6):Bool := !((a.a8 != 0)&&(a.a8==b.a8))
def a4B(w:m5)(i:Nat):Bool:=match w.a0[i]? with
 | some n=>a7V n&&(w.a0.take i).all (other n)
 | none=>true
theorem f6F{w:m5}(h:K5 w):b2p w=some (z9 w&&(f8W w.a0.length).all (a4B w)):=by
 have hf:s7 w.a0:=h.1.fits (by decide);have hin:∀(i:Nat) (hi:i<w.a0.length),o7 (fun t:Int=>b4s w (i:Int) t) 0=some (bif (w.a0.take i).all (other w.a0[i]) then .brk () else .ret false):=by
  intro i hi;have hl:(w.a0.take i).length=i:=by simp;omega
  refine I5 (w.a0.take i) (b2h hf i) (other w.a0[i]) false () ?_ ?_
  ·intro k hk;have hki:k<i:=by omega
   unfold b4s c1W;rw [show decide ((k:Int)<(i:Int))=true from by simpa using hki,t0 hi,t0 (show k<w.a0.length by omega)];simp only [g1d,f8M,g0U];unfold other;cases decide (w.a0[i].a8>0)<;>cases (w.a0[i].a8==w.a0[k].a8)<;>rfl
  ·unfold b4s;rw [hl,show decide ((i:Int)<(i:Int))=false from by simp];rfl
 unfold b2p;rw [a6s h,f8M];cases z9 w
 ·rfl
 ·simp only [f8T,g1e,f8Y];rw [W1 w.a0 hf (a4B w) false ()]
  ·cases (f8W w.a0.length).all (a4B w)<;>rfl
  ·intro k hk _;unfold c0q c3f a4B;rw [w6 _ k hk,t0 hk,f8N hk];simp only [g1d,f8M,e42 (h.1.2 _ (f8Q hk))];rw [hin k hk];cases a7V w.a0[k]<;>cases (w.a0.take k).all (other w.a0[k])<;>rfl
  ·unfold c0q;rw [z8];rfl
def b0O(n:j6):Bool:=bif n.d6 != 3 then true else bif decide ((n.a6.length:Int)>=(n.Acc.a7.length:Int)) then false else
 !decide ((C4 n n.a6.length).a8<n.a8) && !(((C4 n n.a6.length).a8==n.a8) && !J3 (C4 n n.a6.length).g9 n.c8)
def a7y(w:m5)(i:Nat):Bool:=match w.a0[i]? with
 | some n=>(w.a0.drop (i+1)).all (a76 n)&&b0O n
 | none=>true
theorem e84{w:m5}(h:K5 w):b1k w=some (z9 w&&(f8W w.a0.length).all (a7y w)):=by
 have hf:s7 w.a0:=h.1.fits (by decide);have hin:∀(i:Nat) (hi:i<w.a0.length) (a:j6),o7 (fun t:Int=>b5y w (i:Int) a t) 0=some (bif (w.a0.drop (i+1)).all (a76 a) then .brk () else .ret false):=by
  intro i hi a;have e:(m7 ((i:Int)+1)).toNat=i+1:=by rw [E6 hf hi];rfl
  have e2:((w.a0.drop (i+1)).take (w.a0.length-(i+1)))=w.a0.drop (i+1):=by rw [<-g03,f9e]
  have hfd:s7 (w.a0.drop (i+1)):=by
   unfold s7 at hf⊢;rw [g03];omega
  refine I5 (w.a0.drop (i+1)) hfd (a76 a) false () ?_ ?_
  ·intro k hk;unfold b5y c4u;rw [e,e2,w6 _ k hk,t0 hk];simp only [g1d,f8M];unfold a76;cases (a.a8 != 0)<;>cases (a.a8==(w.a0.drop (i+1))[k].a8)<;>rfl
  ·unfold b5y;rw [e,e2,z8];rfl
 unfold b1k;rw [a5i h,f8M];cases z9 w
 ·rfl
 ·simp only [f8T,g1e,f8Y];rw [W1 w.a0 hf (a7y w) false ()]
  ·cases (f8W w.a0.length).all (a7y w)<;>rfl
  ·intro k hk _;have hok:=h.1.2 _ (f8Q hk);have hk6:c1g (k:Int) w.a0[k]=some (bif b0O w.a0[k] then .nxt (m7 ((k:Int)+1)) else .ret false):=by
    unfold c1g c6F b0O;cases (w.a0[k].d6 != 3)
    ·simp only [g1e];by_cases hl:w.a0[k].a6.length<w.a0[k].Acc.a7.length
     ·rw [show decide ((w.a0[k].a6.length:Int)>=(w.a0[k].Acc.a7.length:Int))=false from by simpa using hl,t0 hl];have ev:C4 w.a0[k] w.a0[k].a6.length=w.a0[k].Acc.a7[w.a0[k].a6.length]:=by unfold C4;rw [f8N hl];rfl
      rw [ev];simp only [g1e,f8M,a6F (hok.2.1.2.2 _ (f8Q hl)).2];cases decide (w.a0[k].Acc.a7[w.a0[k].a6.length].a8<w.a0[k].a8)<;>cases (w.a0[k].Acc.a7[w.a0[k].a6.length].a8==w.a0[k].a8)<;>cases J3 w.a0[k].Acc.a7[w.a0[k].a6.length].g9 w.a0[k].c8<;>rfl
     ·rw [show decide ((w.a0[k].a6.length:Int)>=(w.a0[k].Acc.a7.length:Int))=true from by simp;omega];rfl
    ·rfl
   unfold b6q a7y;rw [w6 _ k hk,t0 hk,f8N hk];simp only [g1d,f8M];rw [v5 (by rw [E6 hf hk];omega),hin k hk,hk6];cases (w.a0.drop (k+1)).all (a76 w.a0[k])<;>cases b0O w.a0[k]<;>rfl
  ·unfold b6q;rw [z8];rfl
theorem c5w{a b:j6}:other a b=true ↔ ¬(0<a.a8/\a.a8=b.a8):=by
 unfold other;rw [f9v,<-g0q,f8R,decide_eq_true_eq,beq_iff_eq]
theorem c73{a b:j6}:a76 a b=true ↔ ¬(a.a8≠0/\a.a8=b.a8):=by
 unfold a76;rw [f9v,<-g0q,f8R,bne_iff_ne,beq_iff_eq]
theorem c82{n:j6}(h:D8 n=true):b0O n=a7V n:=by
 unfold a7V b0O;cases hp:(n.d6 != 3)
 ·simp only [g1e];have hb:=(c7Q (b1P h).1 (b1P h).2.2.2.1).2 (by simpa [bne] using hp);by_cases hl:n.a6.length<n.Acc.a7.length
  ·rw [show decide ((n.a6.length:Int)>=(n.Acc.a7.length:Int))=false from by simpa using hl,g1e];rw [g0g];generalize C4 n n.a6.length=v;cases J3 v.g9 n.c8
   ·simp<;>omega
   ·simp<;>omega
  ·rw [show decide ((n.a6.length:Int)>=(n.Acc.a7.length:Int))=true from by simp;omega,g1d];have:C4 n n.a6.length=zV:=by unfold C4;rw [f9m (by omega)];rfl
   rw [this,show decide ((zV.a8)>=n.a8)=false from by simp;omega];try rfl
 ·rfl
theorem e7q{w:m5}(hw:z9 w=true):((f8W w.a0.length).all (a7y w))=((f8W w.a0.length).all (a4B w)):=by
 rw [g0g];have hn:=(c38 hw).2;have hb:∀n∈w.a0,0<=n.a8:=fun n hm=>(c7Q (b1P (hn n hm)).1 (b1P (hn n hm)).2.2.2.1).1
 simp only [f8S,f9P];constructor
 ·intro q i hi;have qi:=q i hi;unfold a7y at qi;unfold a4B;rw [f8N hi] at qi⊢;simp only [f8R] at qi⊢;refine ⟨by rw [<-c82 (hn _ (f8Q hi))];exact qi.2,?_⟩;rw [f8S];intro m hm;obtain ⟨k,hk,rfl⟩:=f9o hm;rw [f9g] at hk;rw [g0U,c5w];have hkl:k<w.a0.length:=by omega
  have qk:=q k hkl;unfold a7y at qk;rw [f8N hkl] at qk;simp only [f8R] at qk;have:=c73.1 (f8S.1 qk.1 w.a0[i] (g0I.2 ⟨i-(k+1),by rw [g03];omega,by simp only [List.getElem_drop];congr 1;omega⟩));rintro ⟨h1,h2⟩
  exact this ⟨by omega,h2.symm⟩
 ·intro q i hi;have qi:=q i hi;unfold a4B at qi;unfold a7y;rw [f8N hi] at qi⊢;simp only [f8R] at qi⊢;refine ⟨?_,by rw [c82 (hn _ (f8Q hi))];exact qi.1⟩;rw [f8S];intro m hm;obtain ⟨k,hk,rfl⟩:=f9o hm;rw [g03] at hk;rw [List.getElem_drop,c73];have hkl:i+1+k<w.a0.length:=by omega
  have qk:=q (i+1+k) hkl;unfold a4B at qk;rw [f8N hkl] at qk;simp only [f8R] at qk;have:=c5w.1 (f8S.1 qk.2 w.a0[i] (g0I.2 ⟨i,by rw [f9g];omega,by simp⟩));rintro ⟨h1,h2⟩
  have:=hb _ (f8Q hi);omega
theorem d6H(a b:n5):(([a.b9,a.Seq]:List Int)==[b.b9,b.Seq])=(G1 a==G1 b):=rfl
def a3o(l:List n6)(i:Nat):Bool:=match l[i]? with
 | some t=>(f8W i).all fun k=>match l[k]? with
  | some s => !(G1 s.a5==G1 t.a5)
  | none=>true
 | none=>true
theorem d17{l:List n6}{i:Nat}(h:i<l.length):a3o l i = !((l.take i).any fun s=>G1 s.a5==G1 l[i].a5):=by
 unfold a3o;rw [f8N h];simp only;rw [g0g,f8S,f9v,f9E];constructor
 ·intro hh s hs;obtain ⟨k,hk,rfl⟩:=f9o hs;rw [f9g] at hk;have:=hh k (by simp;omega);rw [f8N (by omega)] at this;simpa using this
 ·intro hh k hk;have hk:k<i:=by simpa using hk
  rw [f8N (show k<l.length by omega)];have:=hh l[k] (f9U.2 ⟨k,by omega,rfl⟩);simpa using this
def b1n(l:List n6):Bool:=(f8W l.length).all (a3o l)
theorem e8Z{w:m5}(h:K5 w):b25 w=some (b1n w.Told&&z9 w):=by
 have hf:s7 w.Told:=h.2.2.2.fits (by decide);have hl:=hf;unfold s7 at hl;unfold b25;rw [W1 w.Told hf (a3o w.Told) false ()]
 ·unfold b1n;cases (f8W w.Told.length).all (a3o w.Told)
  ·rfl
  ·simp only [g1d,f8M,l9.go];unfold c6O;rw [a6s h];rfl
 ·intro i hi _;unfold b5X;rw [w6 _ i hi,g1d];have hc:=a4O (body:=fun s:Int=>b4D w (i:Int) s) (fun k=>(k:Int)) i (fun k=>match w.Told[k]? with|some s => !(G1 s.a5==G1 w.Told[i].a5)|none=>true) (fun _=>false) () (by
   intro k hk _;have hkl:k<w.Told.length:=by omega
   unfold b4D;rw [show decide ((k:Int)<(i:Int))=true from by simpa using hk,g1d,t0 hkl,f8M,t0 hi,f8M,d6H,f8N hkl,E6 hf hkl];simp only;cases G1 w.Told[k].a5==G1 w.Told[i].a5<;>rfl) (by
   intro _;unfold b4D;rw [show decide ((i:Int)<(i:Int))=false from by simp];rfl)
  rw [show ((0:Nat):Int)=0 from rfl] at hc;unfold a3o;rw [f8N hi];simp only;rcases hc with ⟨hc,hall⟩|⟨k,hk,ho,_,hc⟩
  ·rw [hc,show (f8W i).all (fun k=>match w.Told[k]? with|some s => !(G1 s.a5==G1 w.Told[i].a5)|none=>true)=true from f8S.2 fun k hk=>hall k (by simpa using hk)];rfl
  ·rw [hc,show (f8W i).all (fun k=>match w.Told[k]? with|some s => !(G1 s.a5==G1 w.Told[i].a5)|none=>true)=false from g0u.2 ⟨k,by simpa using hk,by rw [ho];simp⟩];rfl
 ·unfold b5X;rw [z8];rfl
theorem e3Y{l:List n5}{y:n5}(h:(l.any fun x=>G1 y==G1 x)=false):a8H G1 l y=l++[y]:=by
 unfold a8H;rw [if_neg (by rw [h];simp)]
theorem f1R{w:m5}(h:K5 w):b4u w=some (z9 w&&b1n w.Told):=by
 have hf:s7 w.Told:=h.2.2.2.fits (by decide);unfold b4u;rw [a5i h,f8M];cases z9 w
 ·rfl
 rw [f8T,g1e,f8Y];have hc:=a4O (body:=fun s:(List n5)×Int=>b5l w s.1 s.2) (fun k=>((w.Told.take k).map (·.a5),(k:Int))) w.Told.length (a3o w.Told) (fun _=>false) () (by
  intro k hk _;unfold b5l;simp only [w6 _ k hk,g1d,t0 hk,f8M,E6 hf hk];have he:(((w.Told.take k).map (·.a5)).any fun x=>G1 w.Told[k].a5==G1 x) = !a3o w.Told k:=by
   rw [d17 hk,g1a,List.any_map];congr 1
   funext s
   show (G1 w.Told[k].a5==G1 s.a5)=_
   rw [g0g,beq_iff_eq,beq_iff_eq];exact eq_comm
  rw [he];cases ho:a3o w.Told k
  ·rfl
  ·rw [ho] at he;rw [e3Y he,f9s hk,g0f];rfl) (by
  intro _;unfold b5l;simp only [z8];rfl)
 rw [f9D,List.map_nil,show ((0:Nat):Int)=0 from rfl] at hc;unfold b1n;rcases hc with ⟨hc,hall⟩|⟨k,hk,ho,_,hc⟩
 ·rw [hc,show (f8W w.Told.length).all (a3o w.Told)=true from f8S.2 fun k hk=>hall k (by simpa using hk)];rfl
 ·rw [hc,show (f8W w.Told.length).all (a3o w.Told)=false from g0u.2 ⟨k,by simpa using hk,by rw [ho];simp⟩];rfl
theorem b9d{α:Type}{p q:α->Bool}(h:∀x,p x=true->q x=true):∀l:List α,(l.filter q).find? p=l.find? p
 | []=>rfl
 | x::l=>by
  cases hq:q x with
  | true=>
   rw [List.filter_cons_of_pos hq,g0A,g0A,b9d h l]
  | false=>
   have hp:p x=false:=by
    cases hp:p x with
    | false=>rfl
    | true=>rw [h x hp] at hq;cases hq
   rw [List.filter_cons_of_neg (by simp [hq]),g0A,hp,b9d h l]
theorem c55{α:Type}{p q:α->Bool}(h:∀x,p x=true->q x=false)(l:List α):(l.filter q).find? p=none:=by
 rw [g09];intro x hx;have hq:=(f9V.1 hx).2;intro hp;rw [h x hp] at hq;cases hq
theorem c6Z{l:List q9}(h:a3D l)(d:q9)(w:Int):(a0l l d).find? (fun x=>x.a5.b9==w)=bif d.a5.b9==w then some d else l.find? (fun x=>x.a5.b9==w):=by
 rw [b7w d h,List.find?_append,g0A];by_cases hw:d.a5.b9=w
 ·subst hw;rw [c55 (by intro x hx;simp at hx;simp;omega)];simp
 ·have hne:(d.a5.b9==w)=false:=by simpa using hw
  rw [hne];simp only [g1e];by_cases hlt:w<d.a5.b9
  ·rw [b9d (by intro x hx;simp at hx;simp;omega),c55 (by intro x hx;simp at hx;simp;omega),Option.or_none]
  ·rw [c55 (by intro x hx;simp at hx;simp;omega),b9d (by intro x hx;simp at hx;simp;omega),Option.none_or]
def a0s(s:u5)(w:Int):Option q9:=s.i8.find? (fun x=>x.a5.b9==w)
theorem d3Z{s:u5}{k:Nat}{e:m4}(hs:X5 s k)(w:Int):∃d,d.a5=e.a5/\a0s (O3 s e).1 w=bif e.a5.b9==w then some d else a0s s w:=by
 unfold O3 a0s;cases a02 s.g7 e.b6
 ·exact ⟨⟨e.a5,1,0⟩,rfl,c6Z hs.sorted _ w⟩
 ·cases e.b6.Code==0
  ·exact ⟨⟨e.a5,2,0⟩,rfl,c6Z hs.sorted _ w⟩
  ·exact ⟨⟨e.a5,0,e.b6.d8⟩,rfl,c6Z hs.sorted _ w⟩
theorem e4p{s:u5}{k:Nat}{e:m4}(hs:X5 s k)(hn:e.i7=false):∃d,a0s (apply s e).1 e.a5.b9=some d/\e.a5.Seq<=d.a5.Seq:=by
  obtain ⟨d,h1,h2⟩:=d3Z (e:=e) hs e.a5.b9;rw [beq_self_eq_true,g1d] at h2;have hfr:∃d,a0s (O3 s e).1 e.a5.b9=some d/\e.a5.Seq<=d.a5.Seq:=⟨d,h2,by rw [h1];exact f9n _⟩
  unfold apply;rw [hn,g1e];cases hf:s.i8.find? fun d=>d.a5.b9==e.a5.b9 with
  | none=>exact hfr
  | some d=>
    simp only;cases h3:d.a5.Seq==e.a5.Seq
    · by_cases h4:d.a5.Seq>e.a5.Seq
      · simp only [h4,decide_true,g1d,g1e];exact ⟨d,hf,by omega⟩
      · simp only [h4,decide_false,g1e];exact hfr
    · exact ⟨d, hf, by have:d.a5.Seq=e.a5.Seq:=by simpa using h3
                       omega⟩
theorem f8i{s:u5}{k:Nat}{e:m4}(hs:X5 s k){w:Int}{d:q9}(hd:a0s s w=some d):∃d',a0s (apply s e).1 w=some d'/\d.a5.Seq<=d'.a5.Seq:=by
 have same:∃d',a0s s w=some d'/\d.a5.Seq<=d'.a5.Seq:=⟨d,hd,f9n _⟩
 have hfr:(∀d',a0s s e.a5.b9=some d'->d'.a5.Seq<=e.a5.Seq)->∃d',a0s (O3 s e).1 w=some d'/\d.a5.Seq<=d'.a5.Seq:=by
  intro hle;obtain ⟨d2,h1,h2⟩:=d3Z (e:=e) hs w;by_cases hw:e.a5.b9=w
  ·subst hw;rw [beq_self_eq_true,g1d] at h2;exact ⟨d2,h2,by rw [h1];exact hle d hd⟩
  ·have:(e.a5.b9==w)=false:=by simpa using hw
   rw [this,g1e] at h2;exact ⟨d,h2.trans hd,f9n _⟩
 unfold apply;cases hn:e.i7
 ·simp only [g1e];cases hf:s.i8.find? fun d=>d.a5.b9==e.a5.b9 with
  | none=>exact hfr fun d' h=>by unfold a0s at h;rw [hf] at h;cases h
  | some d0=>
   simp only;cases h3:d0.a5.Seq==e.a5.Seq
   ·by_cases h4:d0.a5.Seq>e.a5.Seq
    ·simp only [h4,decide_true,g1d,g1e];exact same
    ·simp only [h4,decide_false,g1e];refine hfr fun d' h => ?_
     unfold a0s at h;rw [hf] at h;injection h with h;subst h;omega
   ·exact same
 ·exact same
theorem f7c{s:u5}{e:m4}{d:q9}(hd:a0s s e.a5.b9=some d)(h:e.a5.Seq<=d.a5.Seq):(apply s e).2≠0:=by
 unfold a0s at hd;unfold apply;cases hn:e.i7
 ·simp only [g1e,hd];cases h3:d.a5.Seq==e.a5.Seq
  ·have hne:d.a5.Seq≠e.a5.Seq:=by simpa using h3
   have hgt:d.a5.Seq>e.a5.Seq:=by omega
   simp only [hgt,decide_true,g1d,g1e];decide
  ·exact show (3:Int)≠0 from by decide
 ·exact show (5:Int)≠0 from by decide
theorem e6m{l:List m4}(hl:l.length<=40)(he:l.all z4=true){i m:Nat}(him:i<m)(hm:m<l.length)(hn:(l[i]'(by omega)).i7=false)(hq:l[m].a5=(l[i]'(by omega)).a5):(p6 l).2[m]?≠some 0:=by
 have hi:i<l.length:=by omega
 have key:∀n,i<n->n<=l.length->∃d,a0s (p6 (l.take n)).1 l[i].a5.b9=some d/\l[i].a5.Seq<=d.a5.Seq:=by
  intro n;induction n with
  | zero=>intro h;omega
  | succ n ih=>
   intro h1 h2;have hin:=(P6 hl he n (by omega)).1;rw [a0W (show n<l.length by omega)];show ∃d,a0s (apply (p6 (l.take n)).1 l[n]).1 l[i].a5.b9=some d/\_
   by_cases hq:i=n
   ·subst hq;exact e4p hin hn
   ·obtain ⟨d,h3,h4⟩:=ih (by omega) (by omega);obtain ⟨d',h5,h6⟩:=f8i (e:=l[n]) hin h3;exact ⟨d',h5,by omega⟩
 obtain ⟨d,h1,h2⟩:=key m him (by omega);rw [b0a hl he hm];intro h;injection h with h;exact f7c (e:=l[m]) (by rw [hq];exact h1) (by rw [hq];exact h2) h
def eN:m4:=⟨true,⟨0,0⟩,⟨[],[],0,0⟩⟩
def v0:m8:=⟨0,zE⟩
def b00(b:Int):Bool:=p9 b 1 3000
def I2(a:z0)(b:Int):Option z0:=bif b00 b&&decide (a.i0<=b) then some ⟨b,a.a7⟩ else none
def S5(vs:List m8)(n:Nat):List m8:=vs++f8O (n-vs.length) v0
def L1(a:z0)(b slot:Int)(e:m4):Option z0:=
 bif p9 slot 0 39&&z4 e then (I2 a b).map fun x=>⟨x.i0,(S5 x.a7 (slot.toNat+1)).set slot.toNat ⟨b,e⟩⟩ else none
def E0:List m8->List m8->List m8
 | [],b=>b
 | a,[]=>a
 | x::a,y::b=>(bif decide (y.a8>x.a8) then y else x)::E0 a b
def M4(b who:Int):Int:=
 bif decide (b+1<=3000)&&(f9p (b+1) 3==who) then b+1 else
 bif decide (b+2<=3000)&&(f9p (b+2) 3==who) then b+2 else
 bif decide (b+3<=3000)&&(f9p (b+3) 3==who) then b+3 else -1
def a3R(n:j6):j6:={n with d6:=0,a8:=0,c9:=[],i4:=[],c8:=zE,a7:=[]}
def a6T(n:j6):j6:={n with i9:=false,i6:=[],b8:=zE}
def N9(l:List m4)(q:n5):Bool:=l.any (D6 q)
def a1w(id:Int):List Bool:=(f8O 3 false).set id.toNat true
def N8(l:List Bool):Bool:=decide (2<=(l.filter (· == true)).length)
def J1(id:Int)(m:l8):List l8:=(([0,1,2]:List Int).filter (· != id)).map fun t=>{m with c9:=id,To:=t}
def M8(m out:l8):l8:={out with c9:=m.To,To:=m.c9}
def O0(n:j6)(b:Int):j6:=bif n.d6 != 0&&decide (b>n.a8) then a3R n else n
def T9(known:List m4):List m4->List m4×Option m4
 | []=>([],none)
 | e::q=>bif N9 known e.a5 then T9 known q else (q,some e)
def a5k(n:j6):j6×Option m4:=
 bif (n.i4.drop n.a6.length).any (fun v=>decide (v.a8>0)) then (n,some eN)
 else bif n.i9 && !N9 n.a6 n.b8.a5 then (n,some n.b8)
 else ({n with f0:=(T9 n.a6 n.f0).1},(T9 n.a6 n.f0).2)
def a0F(n:j6):j6×Option m4:=match n.i4[n.a6.length]? with
 | some v=>bif decide (v.a8>0) then (n,some v.g9) else a5k n
 | none=>a5k n
def a54(x:j6)(e:m4):j6×List l8:=match L1 x.Acc x.a8 (x.a6.length:Int) e with
 | some a=>({x with Acc:=a,d6:=3,c8:=e,a7:=a1w x.Id},J1 x.Id ⟨3,0,0,x.a8,(x.a6.length:Int),e,[]⟩)
 | none=>(a3R x,[])
def N1(n:j6):j6×List l8:=
 bif n.d6 != 2||decide (40<=n.a6.length) then (n,[]) else match a0F n with
  | (x,some e)=>a54 x e
  | (x,none)=>(x,[])
def U6(n:j6):j6×List n6:=
 bif n.i9 then (match n.a6.findIdx? (D6 n.b8.a5) with
  | some k=>(a6T n,[⟨n.Id,n.b8.a5,L0 n.a6 k,bif L0 n.a6 k==0 then R1 n.a6 n.b8.a5 else 0⟩])
  | none=>(n,[]))
 else (n,[])
def E2(n:j6)(e:m4):j6:=
 bif n.d6==3 then {n with a6:=n.a6++[e],d6:=2,c8:=zE,a7:=[]} else {n with a6:=n.a6++[e]}
def X3(n:j6)(e:m4):j6×List l8×List n6:=
 ((N1 (U6 (E2 n e)).1).1,(N1 (U6 (E2 n e)).1).2,(U6 (E2 n e)).2)
def a2b(n:j6)(m:l8):j6×List l8:=match I2 n.Acc m.a8 with
 | some a=>(O0 {n with Acc:=a} m.a8,[M8 m ⟨2,0,0,m.a8,m.g8,zE,a.a7.drop m.g8.toNat⟩])
 | none=>(n,[M8 m ⟨6,0,0,n.Acc.i0,0,zE,[]⟩])
def a2g(n:j6)(m:l8):j6×List l8:=match L1 n.Acc m.a8 m.g8 m.g9 with
 | some a=>(O0 {n with Acc:=a} m.a8,[M8 m ⟨4,0,0,m.a8,m.g8,zE,[]⟩])
 | none=>(n,[M8 m ⟨6,0,0,n.Acc.i0,0,zE,[]⟩])
def a1P(n:j6)(m:l8):j6×List l8:=
 bif n.d6 != 1||m.a8 != n.a8 then (n,[]) else
 bif N8 (n.c9.set m.c9.toNat true) then
  N1 {n with c9:=[],i4:=E0 n.i4 (f8O m.g8.toNat v0++m.a7),d6:=2}
 else ({n with c9:=n.c9.set m.c9.toNat true,i4:=E0 n.i4 (f8O m.g8.toNat v0++m.a7)},[])
def a2Q(n:j6)(m:l8):j6×List l8×List n6:=
 bif n.d6 != 3||(m.a8 != n.a8||m.g8 != (n.a6.length:Int)) then (n,[],[]) else
 bif N8 (n.a7.set m.c9.toNat true) then
  ((X3 {n with a7:=n.a7.set m.c9.toNat true} n.c8).1,J1 n.Id ⟨5,0,0,0,(n.a6.length:Int),n.c8,[]⟩++(X3 {n with a7:=n.a7.set m.c9.toNat true} n.c8).2.1,(X3 {n with a7:=n.a7.set m.c9.toNat true} n.c8).2.2)
 else ({n with a7:=n.a7.set m.c9.toNat true},[],[])
def a2r(n:j6)(m:l8):j6×List l8×List n6:=
 bif decide (m.g8<(n.a6.length:Int)) then (n,[],[]) else
 bif decide (m.g8>(n.a6.length:Int)) then (n,[M8 m ⟨8,0,0,0,(n.a6.length:Int),zE,[]⟩],[])
 else X3 n m.g9
def a12(n:j6)(m:l8):j6×List l8:=
 bif n.d6==0||(decide (4<=n.f0.length)||N9 n.a6 m.g9.a5) then (n,[]) else N1 {n with f0:=n.f0++[m.g9]}
def a1q(n:j6)(m:l8)(s:Nat):List l8:=match n.a6[s]? with
 | some e=>[M8 m ⟨5,0,0,0,(s:Int),e,[]⟩]
 | none=>[]
def a4u(n:j6)(m:l8):List l8:=((f8W (n.a6.length-m.g8.toNat)).map fun j=>a1q n m (m.g8.toNat+j)).flatten
def X2(n:j6)(m:l8):j6×List l8×List n6:=
 bif m.a9==1 then ((a2b n m).1,(a2b n m).2,[]) else
 bif m.a9==2 then ((a1P n m).1,(a1P n m).2,[]) else
 bif m.a9==3 then ((a2g n m).1,(a2g n m).2,[]) else
 bif m.a9==4 then a2Q n m else
 bif m.a9==5 then a2r n m else
 bif m.a9==6 then (O0 {n with Acc:=(I2 n.Acc m.a8).getD n.Acc} m.a8,[],[]) else
 bif m.a9==7 then ((a12 n m).1,(a12 n m).2,[]) else
 bif m.a9==8 then (n,a4u n m,[]) else (n,[],[])
def L3(n:j6)(prog:List n8):j6×List l8:=
 bif n.i9||(n.Seq==1000||(B5 (p6 n.a6).1.g7 prog).Code==3) then (n,[]) else
 bif n.d6==2 then N1 {n with Seq:=n.Seq+1,i9:=true,i6:=prog,b8:=⟨false,⟨n.Id,n.Seq+1⟩,B5 (p6 n.a6).1.g7 prog⟩}
 else ({n with Seq:=n.Seq+1,i9:=true,i6:=prog,b8:=⟨false,⟨n.Id,n.Seq+1⟩,B5 (p6 n.a6).1.g7 prog⟩},
  bif n.d6==0 then J1 n.Id ⟨7,0,0,0,0,⟨false,⟨n.Id,n.Seq+1⟩,B5 (p6 n.a6).1.g7 prog⟩,[]⟩ else [])
def Y6(n:j6):j6×List l8:=
 bif decide (M4 n.Acc.i0 n.Id<0) then (n,[]) else
 ({a3R n with Acc:=⟨M4 n.Acc.i0 n.Id,n.Acc.a7⟩,d6:=1,a8:=M4 n.Acc.i0 n.Id,c9:=a1w n.Id,i4:=n.Acc.a7},
  J1 n.Id ⟨1,0,0,M4 n.Acc.i0 n.Id,(n.a6.length:Int),zE,[]⟩)
def W5(n:j6):j6×List l8:=
 bif n.d6==1 then (n,J1 n.Id ⟨8,0,0,0,(n.a6.length:Int),zE,[]⟩++J1 n.Id ⟨1,0,0,n.a8,(n.a6.length:Int),zE,[]⟩) else
 bif n.d6==2 then ((N1 n).1,J1 n.Id ⟨8,0,0,0,(n.a6.length:Int),zE,[]⟩++(N1 n).2) else
 bif n.d6==3 then (n,J1 n.Id ⟨8,0,0,0,(n.a6.length:Int),zE,[]⟩++J1 n.Id ⟨3,0,0,n.a8,(n.a6.length:Int),n.c8,[]⟩) else
 bif n.i9 then (n,J1 n.Id ⟨8,0,0,0,(n.a6.length:Int),zE,[]⟩++J1 n.Id ⟨7,0,0,0,0,n.b8,[]⟩) else
 (n,J1 n.Id ⟨8,0,0,0,(n.a6.length:Int),zE,[]⟩)
def D1(id:Int):j6:=⟨id,⟨0,[]⟩,[],0,0,0,[],[],zE,[],false,[],zE,[]⟩
def a1e(n:j6):j6:={D1 n.Id with Acc:=n.Acc,a6:=n.a6,Seq:=n.Seq}
def Q9:m5:=⟨[D1 0,D1 1,D1 2],[],[],[]⟩
def a0Q(w:m5)(l:List l8):m5:={w with d7:=w.d7++l.take (40-w.d7.length)}
def a83(w:m5)(l:List n6):m5:={w with Told:=w.Told++l.take (60-w.Told.length)}
def O5(w:m5)(i:Int)(n:j6):m5:={w with a0:=w.a0.set i.toNat n}
def a3d(w:m5)(i:Int):m5:={w with d7:=w.d7.take i.toNat++w.d7.drop (i.toNat+1)}
def I3(w:m5)(i:Int):j6:=w.a0.getD i.toNat (D1 0)
def a3S(w:m5)(i:Int)(prog:List n8):m5:=
 bif decide (60<=w.d9.length) then w else
 a0Q (O5 (bif decide ((L3 (I3 w i) prog).1.Seq>(I3 w i).Seq) then {w with d9:=w.d9++[⟨(L3 (I3 w i) prog).1.b8.a5,prog⟩]} else w) i (L3 (I3 w i) prog).1) (L3 (I3 w i) prog).2
def a1a(w:m5)(e:s5):m5:=bif decide (0<=e.A) then (match w.d7[e.A.toNat]? with
 | some m=>bif e.a9==4 then a0Q w [m] else bif e.a9==3 then a3d w e.A else
  a83 (a0Q (O5 (a3d w e.A) m.To (X2 (I3 w m.To) m).1) (X2 (I3 w m.To) m).2.1) (X2 (I3 w m.To) m).2.2
 | none=>w) else w
def E5(w:m5)(e:s5):m5:=
 bif e.a9==2||(e.a9==3||e.a9==4) then a1a w e else
 bif !p9 e.A 0 2 then w else
 bif e.a9==1 then a3S w e.A e.i6 else
 bif e.a9==5 then a0Q (O5 w e.A (Y6 (I3 w e.A)).1) (Y6 (I3 w e.A)).2 else
 bif e.a9==6 then a0Q (O5 w e.A (W5 (I3 w e.A)).1) (W5 (I3 w e.A)).2 else
 bif e.a9==7 then O5 w e.A (a1e (I3 w e.A)) else w
def b1E(w:m5)(l:List s5):m5:=l.foldl E5 w
theorem a0A:H3 0:=⟨by decide,by decide⟩
theorem U2{α:Type}{b:Nat}{ok:α->Prop}:A2 b ok ([]:List α):=⟨by simp,fun x hx=>by cases hx⟩
theorem a1v:F3 zE:=⟨⟨a0A,a0A⟩,U2,U2,a0A,a0A⟩
theorem c9x:F3 eN:=⟨⟨a0A,a0A⟩,U2,U2,a0A,a0A⟩
theorem d8v:T1 v0:=⟨a0A,a1v⟩
theorem a6d{α R B:Type}{body:List α×Int->Option (j7 R (List α×Int) B)}(l:List α)(hl:s7 l)(f:List α->B)(h1:∀(k:Nat) (h:k<l.length),body (l.take k,(k:Int))=some (.nxt (l.take k++[l[k]],m7 ((k:Int)+1))))(h2:body (l,(l.length:Int))=some (.brk (f l))):o7 body ([],0)=some (.brk (f l)):=by
 have h:=V0 (body:=body) (fun k=>(l.take k,(k:Int))) l.length (by
  intro k hk;rw [h1 k hk,E6 hl hk,f9s hk])
 rw [show ((0:Nat):Int)=0 from rfl,f9D] at h;rw [h,f9e];exact C7 h2
theorem b6K{l:List m8}(h:A2 96 T1 l):a9s l=some l:=by
 have hf:s7 l:=h.fits (by decide);have hb:=h.1;unfold a9s;rw [a6d (body:=fun s:(List m8)×Int=>b38 l s.1 s.2) l hf (fun l=>l) (by
  intro k hk;unfold b38;rw [w6 _ k hk,t0 hk];simp only [g1d,f8M,a0V (h.2 _ (f8Q hk)).2];rw [v5 (by rw [f9g];omega)]) (by
  unfold b38;rw [z8];rfl)]
 rfl
theorem f5b{l:List m8}(h:A2 96 T1 l):b9O l=some (l,l):=by
 have hf:s7 l:=h.fits (by decide);have hb:=h.1;unfold b9O;rw [a6d (body:=fun s:(List m8)×Int=>b3v l s.1 s.2) l hf (fun l=>l) (by
  intro k hk;unfold b3v;rw [w6 _ k hk,t0 hk];simp only [g1d,f8M,a0V (h.2 _ (f8Q hk)).2];rw [v5 (by rw [f9g];omega)]) (by
  unfold b3v;rw [z8];rfl)]
 rfl
theorem f3h{e:m4}(h:F3 e):b6E e=some e:=by
 have h1:=h.2.1.1;have h2:=h.2.2.1.1;unfold b6E c7x;rw [v5 (by simp;omega),v5 (by simp;omega)];rfl
theorem e9k{l:List m8}(h:A2 96 T1 l):c0e l=some l:=by
 have hf:s7 l:=h.fits (by decide);have hb:=h.1;unfold c0e;rw [a6d (body:=fun s:(List m8)×Int=>b24 l s.1 s.2) l hf (fun l=>l) (by
  intro k hk;unfold b24;rw [w6 _ k hk,t0 hk];simp only [g1d,f8M,f3h (h.2 _ (f8Q hk)).2];rw [v5 (by rw [f9g];omega)]) (by
  unfold b24;rw [z8];rfl)]
 rfl
theorem c0U{m:l8}(h:a0n m):a9i m=some m:=by
 unfold a9i;rw [a0V h.2.2.2.2.2.1,f8M,b6K h.2.2.2.2.2.2];rfl
theorem b4z{α:Type}{b:Nat}{ok:α->Prop}{l:List α}(h:A2 b ok l):(([]:List α).length+l.length)*b<=140737488355328:=by
 have:=h.1;simp only [g0B,f9W];omega
theorem b5j{n:j6}(h:O6 n):a6b n=some n:=by
 obtain ⟨h1,h2,h3,h4,h5,h6,h7,h8,h9,h10,h11,h12,h13⟩:=h;unfold a6b c1U;rw [b6K h2.2,f8M,f8M,c6r h3,f8M,v5 (b4z h7),b6K h8,f8M,a0V h9,f8M,v5 (b4z h10),v5 (b4z h11),a0V h12,f8M,c6r h13];rfl
theorem c1T{a:z0}{b:Int}:a9R a b=match I2 a b with|some _=>none|none=>some (a,false):=by
 unfold a9R I2 b00;rw [b0j,f8M];cases p9 b 1 3000
 ·rfl
 ·by_cases h:b<a.i0
  ·simp [h,show ¬a.i0<=b by omega]
  ·simp [h,show a.i0<=b by omega]
theorem b7N{a:z0}{b:Int}:a9y a b=some (match I2 a b with|some x=>(x,true)|none=>(a,false)):=by
 unfold a9y I2 b00;rw [b0j,f8M];cases p9 b 1 3000
 ·rfl
 ·by_cases h:b<a.i0
  ·simp [h,show ¬a.i0<=b by omega]
  ·simp [h,show a.i0<=b by omega]
theorem d5c{a:z0}{b s:Int}{e:m4}(he:F3 e):b4b a b s e=match L1 a b s e with|some _=>none|none=>some (a,false):=by
 unfold b4b L1;rw [a4b he.f,f8M,c1T];by_cases h1:s<0
 ·simp [h1,p9,show ¬(0<=s/\s<=39) by omega]
 ·by_cases h2:s>=40
  ·simp [h1,h2,p9,show ¬(0<=s/\s<=39) by omega]
  ·simp only [h1,h2,decide_false,g1e,p9,show (0<=s/\s<=39) by omega,and_self,decide_true,f8Y];cases z4 e
   ·rfl
   ·simp only [f8T,g1e,g1d];cases I2 a b<;>rfl
theorem d12(slot:Nat)(hs:slot<40):∀(m:Nat) (vs:List m8),slot+1-vs.length=m->o7 (fun s:List m8=>a9a (slot:Int) s) vs=some (.brk (S5 vs (slot+1)))
 | 0,vs,h=>by
  refine C7 ?_;unfold a9a S5;rw [h,show decide ((vs.length:Int)<=(slot:Int))=false by simp;omega];simp
 | m+1,vs,h=>by
  have hb:a9a (slot:Int) vs=some (.nxt (vs++[v0])):=by
   unfold a9a;rw [show decide ((vs.length:Int)<=(slot:Int))=true by simp;omega,g1d,v5 (by omega)];rfl
  rw [E8 (body:=fun s:List m8=>a9a (slot:Int) s) hb,d12 slot hs m (vs++[v0]) (by simp;omega)];congr 2
  unfold S5;rw [h,f9a,show slot+1-(vs.length+[v0].length)=m by simp;omega,f9i];rfl
theorem b7z(vs:List m8)(n:Nat):(S5 vs n).length=max vs.length n:=by
 unfold S5;simp;omega
theorem d1n{a:z0}{b s:Int}{e:m4}(he:F3 e):b16 a b s e=some (match L1 a b s e with|some x=>(x,true)|none=>(a,false)):=by
 unfold b16 L1;rw [a4b he.f,f8M,c1T,b7N,f8M];by_cases h1:s<0
 ·simp [h1,p9,show ¬(0<=s/\s<=39) by omega]
 ·by_cases h2:s>=40
  ·simp [h1,h2,p9,show ¬(0<=s/\s<=39) by omega]
  ·simp only [h1,h2,decide_false,g1e,p9,show (0<=s/\s<=39) by omega,and_self,decide_true,f8Y];cases z4 e
   ·rfl
   ·simp only [f8T,g1e,g1d];cases I2 a b with
    | none=>rfl
    | some x=>
     obtain ⟨k,rfl⟩:∃k:Nat,s=(k:Int):=⟨s.toNat,by omega⟩
     have hk:k<(S5 x.a7 (k+1)).length:=by rw [b7z];omega
     simp only [a5D,f8T,g1e,d12 k (by omega) _ _ rfl,f8M,l9.go,c67,a0V he,t0 hk,g0i,f9r]
theorem b8V{n:j6}{q:n5}(h:s7 n.a6):a8t n q=some (N9 n.a6 q):=by
  unfold a8t;rw [show o7 (fun s:Int=>a9I n q s) 0=_ from b2b (body:=fun s:Int=>a9I n q s) n.a6 h (D6 q) (fun _=>true) () (by
      intro k hk;unfold a9I c1x D6;rw [w6 _ k hk,t0 hk];simp only [g1d,f8M];cases n.a6[k].i7<;>cases (([n.a6[k].a5.b9,n.a6[k].a5.Seq]:List Int)==[q.b9,q.Seq])<;>rfl) (by
      unfold a9I;rw [z8];rfl)]
  unfold N9;cases hf:n.a6.find? (D6 q) with
  | none=>
    have:n.a6.any (D6 q)=false:=by
      rw [f9E];intro x hx;exact g09.1 hf x hx
    rw [this];rfl
  | some x=>
    have:n.a6.any (D6 q)=true:=g0p.2 ⟨x,g07 hf,List.find?_some hf⟩;rw [this];rfl
def a1s(id:Int)(m:l8)(o:List l8)(t:Int):List l8:=bif t != id then o++[{m with c9:=id,To:=t}] else o
theorem d1E(id:Int)(m:l8)(o:List l8)(t:Int):(a1s id m o t).length<=o.length+1:=by
 unfold a1s;cases t != id<;>simp
theorem a6V{id:Int}(hid:0<=id/\id<=2){m:l8}(h:a0n m):a3B id m=some (J1 id m):=by
 have e:∀(o:List l8) (t:Int),o.length<=3->0<=t->t<3->a5y id m o t=some (.nxt (a1s id m o t,t+1)):=by
  intro o t ho ht0 ht;unfold a5y c3J a1s;rw [show decide (t<3)=true by simpa using ht,g1d,c0U h,f8M,v5 (by omega),C5 (by omega) (by omega)];cases t != id<;>rfl
 have l1:=d1E id m [] 0;have l2:=d1E id m (a1s id m [] 0) (0+1);have h0:=E8 (body:=fun s:(List l8)×Int=>a5y id m s.1 s.2) (s:=([],0)) (e [] 0 (by simp) (by omega) (by omega));have h1:=E8 (body:=fun s:(List l8)×Int=>a5y id m s.1 s.2) (s:=(a1s id m [] 0,0+1)) (e (a1s id m [] 0) (0+1) (by simp at l1;omega) (by omega) (by omega));have h2:=E8 (body:=fun s:(List l8)×Int=>a5y id m s.1 s.2) (s:=(a1s id m (a1s id m [] 0) (0+1),0+1+1)) (e (a1s id m (a1s id m [] 0) (0+1)) (0+1+1) (by simp at l1;omega) (by omega) (by omega));have h3:=C7 (body:=fun s:(List l8)×Int=>a5y id m s.1 s.2) (s:=(a1s id m (a1s id m (a1s id m [] 0) (0+1)) (0+1+1),0+1+1+1)) (show a5y id m _ (0+1+1+1)=_ from rfl);unfold a3B;rw [h0,h1,h2,h3];obtain rfl|rfl|rfl:id=0\/id=1\/id=2:=by omega
 all_goals rfl
theorem d5W:∀(l:List Bool) (hl:s7 l) (m k:Nat) (c:Int),k+m=l.length->0<=c->c<=k->o7 (fun s:Int×Int=>a4K l s.1 s.2) (c,(k:Int))=some (.brk (c+(((l.drop k).filter (· == true)).length:Int)))
 | l,hl,0,k,c,hk,h0,h1=>by
  have:k=l.length:=by omega
  subst this;refine C7 ?_;show a4K l c (l.length:Int)=_
  unfold a4K;rw [z8];simp
 | l,hl,m+1,k,c,hk,h0,h1=>by
  have hlt:k<l.length:=by omega
  have hfl:(l.length:Int)<=140737488351232:=by have:=hl;unfold s7 at this;omega
  have hb:a4K l c (k:Int)=some (.nxt (c+(bif l[k] then 1 else 0),((k+1:Nat):Int))):=by
   unfold a4K c36;rw [w6 _ k hlt,t0 hlt,g1d,f8M,E6 hl hlt];cases l[k]<;>simp only [g1d,g1e,f8M]<;>rw [C5 (by omega) (by omega)]
  rw [E8 (body:=fun s:Int×Int=>a4K l s.1 s.2) hb,d5W l hl m (k+1) _ (by omega) (by cases l[k]<;>simp<;>omega) (by cases l[k]<;>simp<;>omega),f9j hlt];cases l[k]<;>simp
  omega
theorem d6a{l:List Bool}(h:s7 l):b4V l=some (N8 l):=by
 unfold b4V;rw [show o7 (fun s:Int×Int=>a4K l s.1 s.2) (0,0)=_ from d5W l h l.length 0 0 (by omega) (by omega) (by omega)];simp only [f8M,l9.go,c6W,N8,g0a];congr 1
 simp;omega
theorem e8O{l:List m8}{s:Int}(h:A2 96 T1 l)(hl:l.length<=40)(hs:0<=s/\s<=40):b9U l s=some (f8O s.toNat v0++l):=by
 unfold b9U;rw [v5 (by omega),b6K h,f8M,v5 (by simp;omega)];rfl
theorem a8h:∀a b:List m8,(E0 a b).length=max a.length b.length
 | [],b=>by simp [E0]
 | x::a,[]=>by simp [E0]
 | x::a,y::b=>by simp only [E0,f9X,a8h a b];omega
theorem b04:∀(a b:List m8) (k:Nat),(E0 a b)[k]?=match a[k]?,b[k]? with
  | some x,some y=>some (bif decide (y.a8>x.a8) then y else x)
  | some x,none=>some x
  | none,some y=>some y
  | none,none=>none
 | [],b,k=>by simp [E0];cases b[k]?<;>rfl
 | x::a,[],k=>by simp [E0];cases (x::a)[k]?<;>rfl
 | x::a,y::b,0=>by simp [E0]
 | x::a,y::b,k+1=>by simp only [E0,g0h];exact b04 a b k
theorem a9M{a b:List m8}{v:m8}(h:v∈E0 a b):v∈a\/v∈b:=by
 obtain ⟨k,hk⟩:=g0E h;rw [b04] at hk;cases ha:a[k]? with
 | none=>
  cases hb:b[k]? with
  | none=>rw [ha,hb] at hk;cases hk
  | some y=>rw [ha,hb] at hk;injection hk with hk;subst hk;exact .inr (f9c hb)
 | some x=>
  cases hb:b[k]? with
  | none=>rw [ha,hb] at hk;injection hk with hk;subst hk;exact .inl (f9c ha)
  | some y=>
   rw [ha,hb] at hk;simp only at hk;cases hd:decide (y.a8>x.a8)
   ·rw [hd] at hk;injection hk with hk;subst hk;exact .inl (f9c ha)
   ·rw [hd] at hk;injection hk with hk;subst hk;exact .inr (f9c hb)
theorem f2b{a b:List m8}(ha:A2 96 T1 a)(hb:A2 96 T1 b)(hla:a.length<=80)(hlb:b.length<=80)(hz:∀v∈b,v.a8<=0->v=v0):c05 a b=some (E0 a b):=by
 have hlen:=a8h a b;unfold c05;rw [a6d (body:=fun s:(List m8)×Int=>a6Y a b s.1 s.2) (E0 a b) (by unfold s7;omega) (fun l=>l) (by
  intro k hk;have hget:=b04 a b k;rw [f8N hk] at hget;have hent:∀v,v∈a\/v∈b->F3 v.g9:=fun v hv=>hv.elim (fun q=>(ha.2 v q).2) (fun q=>(hb.2 v q).2)
  have hj1:∀v:m8,F3 v.g9->b96 ((E0 a b).take k) (k:Int) v=some (.nxt ((E0 a b).take k++[v],m7 ((k:Int)+1))):=by
   intro v hv;unfold b96;rw [a0V hv,f8M,v5 (by rw [f9g];omega)]
  show a6Y a b ((E0 a b).take k) (k:Int)=_
  have hkk:k<a.length\/k<b.length:=by omega
  have hstart:a6Y a b ((E0 a b).take k) (k:Int)=b6p a b ((E0 a b).take k) (k:Int):=by
   unfold a6Y;by_cases h1:k<a.length
   ·rw [w6 _ k h1];rfl
   ·rw [show decide ((k:Int)<(a.length:Int))=false by simp;omega,w6 _ k (by omega)];rfl
  rw [hstart];unfold b6p;by_cases h1:k<a.length
  ·rw [w6 _ k h1,t0 h1];simp only [g1d,f8M,l9.go];unfold b8a;rw [f8N h1] at hget;by_cases h2:k<b.length
   ·rw [w6 _ k h2,t0 h2];rw [f8N h2] at hget;simp only [g1d,f8M];injection hget with hget;rw [hget];cases decide (b[k].a8>a[k].a8)
    ·simp only [g1e,f8M,l9.go];exact hj1 _ (hent _ (.inl (f8Q h1)))
    ·simp only [g1d,f8M,l9.go];exact hj1 _ (hent _ (.inr (f8Q h2)))
   ·rw [show decide ((k:Int)<(b.length:Int))=false by simp;omega];rw [f9m (by omega)] at hget;injection hget with hget;rw [hget];simp only [g1e,f8M,l9.go];exact hj1 _ (hent _ (.inl (f8Q h1)))
  ·have h2:k<b.length:=by omega
   rw [show decide ((k:Int)<(a.length:Int))=false by simp;omega];simp only [g1e,f8M,l9.go];unfold b8a;rw [w6 _ k h2,t0 h2];rw [f9m (by omega),f8N h2] at hget;injection hget with hget;rw [hget];simp only [g1d,f8M];by_cases h3:b[k].a8>0
   ·rw [show decide (b[k].a8>0)=true by simpa using h3];simp only [g1d,f8M,l9.go];exact hj1 _ (hent _ (.inr (f8Q h2)))
   ·have hv:=hz _ (f8Q h2) (by omega);rw [show decide (b[k].a8>0)=false by simpa using h3];simp only [g1e,f8M,l9.go];rw [hv];exact hj1 v0 a1v) (by
  show a6Y a b (E0 a b) ((E0 a b).length:Int)=_
  unfold a6Y;rw [show decide (((E0 a b).length:Int)<(a.length:Int))=false by simp;omega,show decide (((E0 a b).length:Int)<(b.length:Int))=false by simp;omega];rfl)]
 rfl
theorem f7D{b who:Int}(hb:0<=b/\b<=3000)(hw:0<=who/\who<=2):b6o b who=some (M4 b who):=by
 have e:∀i:Int,1<=i->i<=3->a4w b who (b+i)=some (bif decide (b+i<=3000) then (bif f9p (b+i) 3==who then .ret (b+i) else .nxt (b+(i+1))) else .brk ()):=by
  intro i h1 h3;unfold a4w;rw [C5 (by omega) (by omega),show decide (b+i<=b+3)=true by simp;omega,g1d,C5 (by omega) (by omega),Int.add_assoc];cases decide (b+i<=3000)
  ·rfl
  ·cases f9p (b+i) 3==who<;>rfl
 have e4:a4w b who (b+4)=some (.brk ()):=by
  unfold a4w;rw [C5 (by omega) (by omega),show decide (b+4<=b+3)=false by simp];rfl
 have e1:=e 1 (by omega) (by omega);have e2:=e 2 (by omega) (by omega);have e3:=e 3 (by omega) (by omega);unfold b6o M4;rw [show decide (b<0)=false by simp;omega,show decide (b>3000)=false by simp;omega,show decide (who<0)=false by simp;omega,show decide (who>=3)=false by simp;omega,C5 (by omega) (by omega)];simp only [g1e];have hb4:o7 (fun s:Int=>a4w b who s) (b+4)=some (.brk ()):=C7 e4;have h3:o7 (fun s:Int=>a4w b who s) (b+3)=some (bif decide (b+3<=3000)&&(f9p (b+3) 3==who) then .ret (b+3) else .brk ()):=by
  cases q:decide (b+3<=3000)
  ·rw [q] at e3;exact C7 e3
  ·rw [q] at e3;cases t:f9p (b+3) 3==who
   ·rw [t] at e3;rw [E8 e3];exact hb4
   ·rw [t] at e3;exact W4 e3
 have h2:o7 (fun s:Int=>a4w b who s) (b+2)=some (bif decide (b+2<=3000)&&(f9p (b+2) 3==who) then .ret (b+2) else bif decide (b+3<=3000)&&(f9p (b+3) 3==who) then .ret (b+3) else .brk ()):=by
  cases q:decide (b+2<=3000)
  ·rw [q] at e2;rw [show decide (b+3<=3000)=false by simp at q⊢;omega];exact C7 e2
  ·rw [q] at e2;cases t:f9p (b+2) 3==who
   ·rw [t] at e2;rw [E8 e2];exact h3
   ·rw [t] at e2;exact W4 e2
 have h1:o7 (fun s:Int=>a4w b who s) (b+1)=some (bif decide (b+1<=3000)&&(f9p (b+1) 3==who) then .ret (b+1) else bif decide (b+2<=3000)&&(f9p (b+2) 3==who) then .ret (b+2) else bif decide (b+3<=3000)&&(f9p (b+3) 3==who) then .ret (b+3) else .brk ()):=by
  cases q:decide (b+1<=3000)
  ·rw [q] at e1;rw [show decide (b+2<=3000)=false by simp at q⊢;omega,show decide (b+3<=3000)=false by simp at q⊢;omega];exact C7 e1
  ·rw [q] at e1;cases t:f9p (b+1) 3==who
   ·rw [t] at e1;rw [E8 e1];exact h2
   ·rw [t] at e1;exact W4 e1
 rw [h1];cases decide (b+1<=3000)&&(f9p (b+1) 3==who)<;>cases decide (b+2<=3000)&&(f9p (b+2) 3==who)<;>cases decide (b+3<=3000)&&(f9p (b+3) 3==who)<;>rfl
theorem A5{n:Int}(h:-1000000000<=n/\n<=1000000000):H3 n:=⟨by omega,by omega⟩
theorem a0w{α:Type}{b:Nat}{ok:α->Prop}{l:List α}(hl:l.length*b<=1000000000)(h:∀x∈l,ok x):A2 b ok l:=⟨by omega,h⟩
theorem f1w{α:Type}{b:Nat}{ok:α->Prop}{l l':List α}(h:A2 b ok l)(hl:l'.length<=l.length)(hs:∀x∈l',x∈l):A2 b ok l':=
 ⟨f9A (f9u _ hl) h.1,fun x hx=>h.2 x (hs x hx)⟩
theorem c4n{l:List m4}{q:n5}:N9 l q=(l.findIdx? (D6 q)).isSome:=by
 unfold N9;cases h:l.findIdx? (D6 q) with
 | none=>
  rw [g0H] at h;rw [Option.isSome_none,f9E];intro x hx;rw [h x hx];simp
 | some k=>
  rw [f9L] at h;obtain ⟨hk,h1,_⟩:=h;rw [Option.isSome_some];exact g0p.2 ⟨l[k],f8Q hk,h1⟩
theorem f1Q{n:j6}(h:A2 88 F3 n.a6)(hok:G4 n.a6=true):b7A n=some (U6 n):=by
 obtain ⟨hl,he⟩:=W8 hok;have hf:s7 n.a6:=h.fits (by decide);unfold b7A U6;rw [b8V hf,f8M,c4n];cases n.i9
 ·rfl
 simp only [f8T,g1e,g1d];cases hfi:n.a6.findIdx? (D6 n.b8.a5) with
 | none=>rfl
 | some kk=>
 simp only [Option.isSome_some,f8T,g1e,b6A,f8M];have:=b03 (body:=fun s:(List m9)×Int×Int×List q9=>b0P n s.1 s.2.1 s.2.2.1 s.2.2.2) (fun k=>((p6 (n.a6.take k)).1.g7,(k:Int),(p6 (n.a6.take k)).1.At,(p6 (n.a6.take k)).1.i8)) n.a6 (D6 n.b8.a5) (fun k=>(a6T n,[⟨n.Id,n.b8.a5,L0 n.a6 k,bif L0 n.a6 k==0 then (match n.a6[k]? with|some e=>e.b6.d8|none=>0) else 0⟩])) () (by
   intro k hk;obtain ⟨h1,h2,h3⟩:=P6 hl he k (by omega);unfold b0P c5Q D6 L0;rw [w6 _ k hk,t0 hk,c54 hl he hk,a0W hk,<-E6 hf hk,f8N hk];simp only [g1d,f8M];rw [show (⟨(p6 (n.a6.take k)).1.At,(p6 (n.a6.take k)).1.g7,(p6 (n.a6.take k)).1.i8⟩:u5)=(p6 (n.a6.take k)).1 from rfl,b9W h1 (by omega) (f8S.1 he _ (f8Q hk)) (h.2 _ (f8Q hk)).f,f8M];cases n.a6[k].i7<;>cases (([n.a6[k].a5.b9,n.a6[k].a5.Seq]:List Int)==[n.b8.a5.b9,n.b8.a5.Seq])<;>first|rfl|skip
   simp only [g1e,f8T,f9x,f8Y,g1d,g0d];cases ((apply (p6 (n.a6.take k)).1 n.a6[k]).2==0)<;>rfl) (by
   unfold b0P;rw [z8];rfl)
 rw [f9D,hfi] at this;rw [show o7 (fun s:(List m9)×Int×Int×List q9=>b0P n s.1 s.2.1 s.2.2.1 s.2.2.2) (P9.g7,0,P9.At,P9.i8)=_ from this];simp only [f8M,l9.go,R1,hfi];all_goals rfl
theorem f0X{l:List m8}(hf:s7 l)(k:Nat):c0c l (k:Int)=some ((l.drop k).any fun v=>decide (v.a8>0)):=by
 have key:∀(m k:Nat),l.length-k=m->o7 (fun s:Int=>a7T l s) (k:Int)=some (bif (l.drop k).any (fun v=>decide (v.a8>0)) then .ret true else .brk ()):=by
  intro m;induction m with
  | zero=>
   intro k hk;rw [f9q (by omega)];refine C7 ?_;unfold a7T;rw [show decide ((k:Int)<(l.length:Int))=false by simp;omega];rfl
  | succ m ih=>
   intro k hk;have hlt:k<l.length:=by omega
   rw [f9j hlt,g05];cases hd:decide (l[k].a8>0)
   ·rw [E8 (body:=fun s:Int=>a7T l s) (t:=((k+1:Nat):Int)) (by
     unfold a7T;rw [w6 _ k hlt,t0 hlt,g1d,f8M,hd,E6 hf hlt];rfl),ih (k+1) (by omega),f9B]
   ·refine W4 ?_;unfold a7T;rw [w6 _ k hlt,t0 hlt,g1d,f8M,hd];rfl
 unfold c0c;rw [key _ k rfl];cases (l.drop k).any fun v=>decide (v.a8>0)<;>rfl
theorem d6G(n:j6)(hk:s7 n.a6):∀(q:List m4),A2 88 F3 q->o7 (fun s:List m4=>b0i n s) q=some (match T9 n.a6 q with
  | (q',some e)=>.ret ({n with f0:=q'},e,true)
  | (q',none)=>.brk q')
 | [],h=>C7 rfl
 | e::q,h=>by
  have hb:=h.1;rw [f9X,g0b] at hb;have h':A2 88 F3 q:=⟨by omega,fun x hx=>h.2 x (g04 _ hx)⟩
  have ht:(([]:List m4)++((e::q).drop (0+(1:Int).toNat)).take ((e::q).length-(1:Int).toNat))=q:=by
   simp
  have hs:b0i n (e::q)=some (bif N9 n.a6 e.a5 then .nxt q else .ret ({n with f0:=q},e,true)):=by
   unfold b0i;rw [show decide (((e::q).length:Int)>0)=true by simp,g1d,show idx (e::q) 0=some e from rfl,f8M,v5 (by simp;omega),v5 (by simp;omega),ht,b8V (n:={n with f0:=q}) hk,f8M];cases N9 n.a6 e.a5<;>rfl
  unfold T9;cases hd:N9 n.a6 e.a5
  ·rw [hd] at hs;exact W4 hs
  ·rw [hd] at hs;rw [E8 (body:=fun s:List m4=>b0i n s) hs];exact d6G n hk q h'
def b7i(x:j6×Option m4):j6×m4×Bool:=match x with
 | (n,some e)=>(n,e,true)
 | (n,none)=>(n,zE,false)
theorem e7h{n:j6}(h:O6 n):b9g n=some (b7i (a0F n)):=by
 obtain ⟨h1,h2,h3,h4,h5,h6,h7,h8,h9,h10,h11,h12,h13⟩:=h;have hk:s7 n.a6:=h3.fits (by decide);have j1:c1f n=some (b7i ({n with f0:=(T9 n.a6 n.f0).1},(T9 n.a6 n.f0).2)):=by
  unfold c1f;rw [d6G n hk _ h13];obtain ⟨q,o⟩:=T9 n.a6 n.f0;cases o<;>rfl
 have j2:b74 n=some (b7i (a5k n)):=by
  unfold b74 a5k;rw [f0X (h8.fits (by decide)),f8M,b8V hk,a0V h12];generalize (({n with f0:=(T9 n.a6 n.f0).1},(T9 n.a6 n.f0).2):j6×Option m4)=X at j1⊢;cases (n.i4.drop n.a6.length).any fun v=>decide (v.a8>0)
  ·simp only [g1e];cases n.i9
   ·exact j1
   ·cases N9 n.a6 n.b8.a5
    ·rfl
    ·exact j1
  ·rfl
 unfold b9g a0F;by_cases hl:n.a6.length<n.i4.length
 ·rw [w6 _ _ hl,t0 hl,f8N hl];simp only [g1d,f8M];cases decide (n.i4[n.a6.length].a8>0)
  ·exact j2
  ·simp only [g1d,a0V (h8.2 _ (f8Q hl)).2,f8M,l9.go];rfl
 ·rw [show decide ((n.a6.length:Int)<(n.i4.length:Int))=false by simp;omega,f9m (by omega)];exact j2
theorem d14(known:List m4):∀(q:List m4),(T9 known q).1.length<=q.length/\(∀x∈(T9 known q).1,x∈q)/\∀e,(T9 known q).2=some e->e∈q/\N9 known e.a5=false/\(T9 known q).1.length<q.length
 | []=>⟨f9f _,fun x hx=>hx,fun e he=>by cases he⟩
 | e::q=>by
  unfold T9;cases hk:N9 known e.a5
  ·refine ⟨by simp,fun x hx=>by simpa using .inr hx,fun e' he => ?_⟩;injection he with he;subst he;exact ⟨by simp,hk,by simp⟩
  ·obtain ⟨a,b,c⟩:=d14 known q;refine ⟨by simp only [g1d,f9X];omega,fun x hx=>g04 _ (b x hx),fun e' he => ?_⟩;obtain ⟨x,y,z⟩:=c e' he;exact ⟨g04 _ x,y,by simp only [g1d,f9X];omega⟩
inductive a2J (n:j6):m4->Prop
 | best (v) (h:n.i4[n.a6.length]?=some v) (hb:v.a8>0):a2J n v.g9
 | gap (v) (h:v∈n.i4.drop n.a6.length) (hb:v.a8>0) (hn:∀v,n.i4[n.a6.length]?=some v->¬v.a8>0):a2J n eN
 | want (h:n.i9=true) (hk:N9 n.a6 n.b8.a5=false) (hn:∀v∈n.i4.drop n.a6.length,¬v.a8>0):a2J n n.b8
 | queue (e) (h:e∈n.f0) (hk:N9 n.a6 e.a5=false) (hn:∀v∈n.i4.drop n.a6.length,¬v.a8>0):a2J n e
theorem b08(n:j6):∃q:List m4,(a0F n).1={n with f0:=q}/\q.length<=n.f0.length/\(∀x∈q,x∈n.f0)/\∀e,(a0F n).2=some e->a2J n e:=by
 have rest:(∀v,n.i4[n.a6.length]?=some v->¬v.a8>0)->∃q:List m4,(a5k n).1={n with f0:=q}/\q.length<=n.f0.length/\(∀x∈q,x∈n.f0)/\∀e,(a5k n).2=some e->a2J n e:=by
  intro hn;unfold a5k;cases ha:(n.i4.drop n.a6.length).any fun v=>decide (v.a8>0)
  ·have hnv:∀v∈n.i4.drop n.a6.length,¬v.a8>0:=fun v hv=>by simpa using f9E.1 ha v hv
   cases hb:n.i9 && !N9 n.a6 n.b8.a5
   ·obtain ⟨a,b,c⟩:=d14 n.a6 n.f0;exact ⟨_,rfl,a,b,fun e he=>.queue e (c e he).1 (c e he).2.1 hnv⟩
   ·simp only [f8R,f9v] at hb;refine ⟨n.f0,rfl,f9f _,fun _ h=>h,fun e he => ?_⟩;injection he with he;subst he;exact .want hb.1 hb.2 hnv
  ·obtain ⟨v,hv,hb⟩:=g0p.1 ha;refine ⟨n.f0,rfl,f9f _,fun _ h=>h,fun e he => ?_⟩;injection he with he;subst he;exact .gap v hv (by simpa using hb) hn
 unfold a0F;cases hg:n.i4[n.a6.length]? with
 | none=>exact rest (by rw [hg];simp)
 | some v=>
  simp only;cases hb:decide (v.a8>0)
  ·exact rest (by rw [hg];intro w hw;injection hw with hw;subst hw;simpa using hb)
  ·refine ⟨n.f0,rfl,f9f _,fun _ h=>h,fun e he => ?_⟩;injection he with he;subst he;exact .best v hg (by simpa using hb)
theorem a2J.ok{n:j6}(h:O6 n){e:m4}(hn:a2J n e):F3 e:=by
 cases hn with
 | best v hv hb=>exact (h.2.2.2.2.2.2.2.1.2 v (f9c hv)).2
 | gap=>exact c9x
 | want=>exact h.2.2.2.2.2.2.2.2.2.2.2.1
 | queue e hq=>exact h.2.2.2.2.2.2.2.2.2.2.2.2.2 e hq
theorem a8N{k b s:Int}{e:m4}{vs:List m8}(hk:H3 k)(hb:H3 b)(hs:H3 s)(he:F3 e)(hv:A2 96 T1 vs):a0n ⟨k,0,0,b,s,e,vs⟩:=⟨hk,a0A,a0A,hb,hs,he,hv⟩
theorem c6R{id:Int}(h:0<=id/\id<=2):∃y,idx (f8O (3:Int).toNat false) id=some y:=by
 obtain rfl|rfl|rfl:id=0\/id=1\/id=2:=by omega
 all_goals exact ⟨false,rfl⟩
theorem b5h{n:j6}(h:O6 n)(hid:0<=n.Id/\n.Id<=2):a6r n=some (N1 n):=by
 unfold a6r N1;rw [show decide ((n.a6.length:Int)>=40)=decide (40<=n.a6.length) by simp;omega];cases n.d6 != 2
 ·simp only [g1e,f9B];cases hlt:decide (40<=n.a6.length)
  ·simp only [g1e,e7h h,f8M];obtain ⟨q,hq,hql,hqm,hqe⟩:=b08 n;cases hx:a0F n with
   | mk x o=>
   rw [hx] at hq hqe;have hq:x={n with f0:=q}:=hq;cases o with
   | none=>rfl
   | some e=>
    have he:=(hqe e rfl).ok h;have hlen:n.a6.length<40:=by simpa using hlt
    subst hq;simp only [b7i,f8T,g1e,d5c he,d1n he,a54];cases L1 n.Acc n.a8 (n.a6.length:Int) e with
    | none=>rfl
    | some a=>
     obtain ⟨y,hy⟩:=c6R hid;simp only [a5D,f8M,f8T,g1e,a0V he,hy];rw [v5 (by omega),a6V hid (a8N (A5 (by omega)) h.2.2.2.2.2.1 (A5 (by omega)) he U2)];rfl
  ·rfl
 ·rfl
theorem e3G{n:j6}(h:O6 n):O6 (a6T n):=by
 obtain ⟨h1,h2,h3,h4,h5,h6,h7,h8,h9,h10,h11,h12,h13⟩:=h;exact ⟨h1,h2,h3,h4,h5,h6,h7,h8,h9,h10,U2,a1v,h13⟩
theorem f4F{n:j6}(h:O6 n){e:m4}(he:F3 e)(hl:n.a6.length<=40):O6 (E2 n e):=by
 obtain ⟨h1,h2,h3,h4,h5,h6,h7,h8,h9,h10,h11,h12,h13⟩:=h;have hk:A2 88 F3 (n.a6++[e]):=a0w (by simp;omega) (by
  intro x hx;rcases f8P.1 hx with q|q
  ·exact h3.2 x q
  ·rw [f8V.1 q];exact he)
 unfold E2;cases n.d6==3
 ·exact ⟨h1,h2,hk,h4,h5,h6,h7,h8,h9,h10,h11,h12,h13⟩
 ·exact ⟨h1,h2,hk,h4,A5 (n:=2) (by omega),h6,h7,h8,a1v,U2,h11,h12,h13⟩
theorem a9F(n:j6):(U6 n=(n,[]))\/∃k,n.i9=true/\n.a6.findIdx? (D6 n.b8.a5)=some k/\U6 n=(a6T n,[⟨n.Id,n.b8.a5,L0 n.a6 k,bif L0 n.a6 k==0 then R1 n.a6 n.b8.a5 else 0⟩]):=by
 unfold U6;cases n.i9
 ·exact .inl rfl
 ·cases h:n.a6.findIdx? (D6 n.b8.a5) with
  | none=>exact .inl rfl
  | some k=>exact .inr ⟨k,rfl,rfl,rfl⟩
theorem f0l{n:j6}(h:O6 n):O6 (U6 n).1:=by
 rcases a9F n with q|⟨k,_,_,q⟩<;>rw [q]
 ·exact h
 ·exact e3G h
theorem c9N(n:j6):(U6 n).1.Id=n.Id:=by
 rcases a9F n with q|⟨k,_,_,q⟩<;>rw [q];rfl
theorem b87(n:j6)(e:m4):(E2 n e).Id=n.Id:=by
 unfold E2;cases n.d6==3<;>rfl
theorem c51(n:j6)(e:m4):(E2 n e).a6=n.a6++[e]:=by
 unfold E2;cases n.d6==3<;>rfl
theorem c9z{n:j6}(h:O6 n)(hid:0<=n.Id/\n.Id<=2)(hk:G4 n.a6=true)(hl:n.a6.length<40){e:m4}(he:F3 e)(hok:z4 e=true):b34 n e=some (X3 n e):=by
 have hkn:=f4F h he (by omega);have hko:G4 (E2 n e).a6=true:=by
  rw [c51];obtain ⟨a,b⟩:=W8 hk;unfold G4;simp only [f9a,f9Y,List.all_append,List.all_cons,List.all_nil,b,hok,g0m,Bool.and_self,decide_eq_true_eq];omega
 have hj:∀(p:Int) (c:m4) (vs:List Bool),(⟨n.Id,n.Acc,n.a6++[e],n.Seq,p,n.a8,n.c9,n.i4,c,vs,n.i9,n.i6,n.b8,n.f0⟩:j6)=E2 n e->c0N n e vs c.a5.b9 c.a5.Seq c.b6.b5 c.b6.b7 c.b6.d8 c.b6.Code p c.i7=some (X3 n e):=by
  intro p c vs hq;unfold c0N;rw [show (j6.mk n.Id n.Acc (n.a6++[e]) n.Seq p n.a8 n.c9 n.i4 (m4.mk c.i7 (n5.mk c.a5.b9 c.a5.Seq) (n7.mk c.b6.b5 c.b6.b7 c.b6.d8 c.b6.Code)) vs n.i9 n.i6 n.b8 n.f0)=E2 n e from hq,f1Q hkn.2.2.1 hko,f8M,b5h (f0l hkn) (by rw [c9N,b87];exact hid),f8M];rfl
 unfold b34;rw [a0V he,f8M,v5 (by omega)];cases hp:n.d6==3
 ·exact hj n.d6 n.c8 n.a7 (by unfold E2;rw [hp];rfl)
 ·exact hj 2 zE [] (by unfold E2;rw [hp];rfl)
theorem f5c{r:n7}(h:V4 r=true):r.b5.length<=4:=by
 have h0:a34 r.b5=true:=by
  rw [b0V] at h;simp only [f8R] at h;exact h.2.2.2.2.1
 obtain ⟨h1,h2⟩:=d2T.1 h0;let ps:List p8:=r.b5.map fun x=>⟨x.i5,0⟩
 have hp:∀p∈ps,a0k p:=by
  intro p hp;obtain ⟨x,hx,rfl⟩:=f9w.1 hp;exact ⟨(h1 x hx).1,(h1 x hx).2.1,by simp,by simp⟩
 have hpw:ps.Pairwise fun p q=>p.i5≠q.i5:=List.pairwise_map.2 h2
 have hl:=c5D hp;have a:=a5S hpw 0;have b:=a5S hpw 1;have c:=a5S hpw 2;have d:=a5S hpw 3;have:ps.length=r.b5.length:=f9I ..;omega
theorem e8o{r:n7}(h:a4L r ⟨[],[],0,0⟩=true):r=⟨[],[],0,0⟩:=(d5H _ _).1 h
theorem e2M{e:m4}(h:z4 e=true)(hn:e.i7=true):e=eN:=by
 unfold z4 at h;rw [hn] at h;simp only [g1d,f8R,beq_iff_eq,List.cons.injEq,and_true] at h;obtain ⟨⟨h1,h2⟩,h3⟩:=h;have h4:=e8o h3;clear h3;obtain ⟨n,⟨a,b⟩,r⟩:=e;simp only at hn h1 h2 h4;subst hn h1 h2 h4;rfl
theorem e4D{r:n7}(h:V4 r=true):b9G r:=by
 obtain ⟨h1,h2,_,h4,h5⟩:=a3b h;have r4:=f5c h;have p4:=f3V h;exact ⟨a0w (by omega) fun x hx=>by have:=h4 x hx;exact ⟨A5 (by omega),A5 (by omega)⟩,
  a0w (by omega) fun x hx=>by have:=h5 x hx;exact ⟨A5 (by omega),A5 (by omega)⟩,A5 (by omega),A5 (by omega)⟩
theorem a27{e:m4}(h:z4 e=true):F3 e:=by
 cases hn:e.i7 with
 | true=>rw [e2M h hn];exact c9x
 | false=>
  obtain ⟨h1,h2,h3,_⟩:=a4p h hn;exact ⟨⟨A5 (by omega),A5 (by omega)⟩,e4D h3⟩
theorem d3y{l:List m4}(hl:l.length<=1000)(h:∀e∈l,z4 e=true):A2 88 F3 l:=a0w (by omega) fun e he=>a27 (h e he)
def VI(v:m8):Prop:=v=v0\/(1<=v.a8/\v.a8<=3000/\z4 v.g9=true)
theorem e9y{v:m8}:a0e v=true↔VI v:=by
 unfold a0e VI;by_cases hb:v.a8=0
 ·simp only [hb,beq_self_eq_true,g1d,a0J];constructor
  ·intro h;left;obtain ⟨b,e⟩:=v;simp only at hb h;subst hb h;rfl
  ·rintro (h|h)
   ·rw [h];rfl
   ·omega
 ·have:(v.a8==0)=false:=by simpa using hb
  simp only [this,g1e,f8R,I0];constructor
  ·intro h;exact .inr ⟨h.1.1,h.1.2,h.2⟩
  ·rintro (h|h)
   ·rw [h] at hb;exact absurd rfl hb
   ·exact ⟨⟨h.1,h.2.1⟩,h.2.2⟩
theorem VI.ok{v:m8}(h:VI v):T1 v:=by
 rcases h with rfl|⟨h1,h2,h3⟩
 ·exact d8v
 ·exact ⟨A5 (by omega),a27 h3⟩
theorem VI.bal{v:m8}(h:VI v):0<=v.a8/\v.a8<=3000:=by
 rcases h with rfl|⟨h1,h2,h3⟩
 ·exact ⟨by decide,by decide⟩
 ·exact ⟨by omega,h2⟩
theorem VI.zero{v:m8}(h:VI v)(hb:v.a8<=0):v=v0:=by
 rcases h with rfl|⟨h1,_⟩
 ·rfl
 ·omega
theorem VI.pos{v:m8}(h:VI v)(hb:v.a8>0):z4 v.g9=true:=by
 rcases h with rfl|⟨_,_,h⟩
 ·exact absurd hb (by decide)
 ·exact h
theorem a4s{l:List m8}(hl:l.length<=1000)(h:∀v∈l,VI v):A2 96 T1 l:=a0w (by omega) fun v hv=>(h v hv).ok
theorem a8E{l:List m8}:L4 l=true↔l.length<=40/\∀v∈l,VI v:=by
 unfold L4;simp only [f8R,decide_eq_true_eq,f8S,e9y]
structure f0k(id bal pr:Int)(best:List m8):Prop where
 b1:1<=bal
 b2:bal<=3000
 mod:f9p bal 3=id
 pr:bal<=pr
 bl:best.length<=40
 bs:∀v∈best,VI v
abbrev Own(n:j6):Prop:=f0k n.Id n.a8 n.Acc.i0 n.i4
def a0E(n:j6):Prop:=
 (n.d6=0/\n.a8=0/\n.c9=[]/\n.i4=[]/\n.c8=zE/\n.a7=[])\/
 (n.d6=1/\Own n/\n.c9.length=3/\n.c9[n.Id.toNat]?=some true/\n.c8=zE/\n.a7=[])\/
 (n.d6=2/\Own n/\n.c9=[]/\n.c8=zE/\n.a7=[])\/
 (n.d6=3/\Own n/\n.c9=[]/\z4 n.c8=true/\n.a7.length=3/\n.a7[n.Id.toNat]?=some true/\n.a6.length<40)
def c7q(n:j6):Prop:=
 (n.i9=true/\E4 n.i6=true/\z4 n.b8=true/\n.b8.i7=false/\n.b8.a5=⟨n.Id,n.Seq⟩)\/(n.i9=false/\n.i6=[]/\n.b8=zE)
structure NI(n:j6):Prop where
 id:0<=n.Id/\n.Id<=2
 pr:0<=n.Acc.i0/\n.Acc.i0<=3000
 vl:n.Acc.a7.length<=40
 vs:∀v∈n.Acc.a7,VI v/\v.a8<=n.Acc.i0
 kl:n.a6.length<=40
 ks:∀e∈n.a6,z4 e=true
 sq:0<=n.Seq/\n.Seq<=1000
 ql:n.f0.length<=4
 qs:∀e∈n.f0,z4 e=true/\e.i7=false
 ld:a0E n
 wt:c7q n
theorem b2z{α:Type}{l:List α}:((l.length:Int)==0)=true↔l=[]:=by
 rw [beq_iff_eq];constructor
 ·intro h;exact f9b (by omega)
 ·rintro rfl;rfl
theorem e0Q{α:Type}{l:List α}:((l.length:Int)=0)↔l=[]:=by rw [<-b2z,beq_iff_eq]
theorem d7v{l:List Bool}{id:Int}(h:0<=id/\id<=2):a5F l id=true↔l.length=3/\l[id.toNat]?=some true:=by
 unfold a5F c0F;have e:idx l id=l[id.toNat]?:=by unfold idx;rw [if_pos h.1]
 rw [e,f8R,beq_iff_eq];constructor
 ·rintro ⟨h1,h2⟩
  refine ⟨by omega,?_⟩;cases hq:l[id.toNat]? with
  | none=>rw [hq] at h2;cases h2
  | some b=>rw [hq] at h2;simp at h2;rw [h2]
 ·rintro ⟨h1,h2⟩
  exact ⟨by omega,by rw [h2];rfl⟩
theorem c7u{n:j6}:a4x n=true↔n.c8=zE/\n.a7=[]:=by
 unfold a4x;rw [f8R,a0J,b2z]
theorem d3v{n:j6}(hid:0<=n.Id/\n.Id<=2):a0t n=true↔a0E n:=by
 have hown:(a0d n.a8==n.Id)=true/\n.a8<=n.Acc.i0/\L4 n.i4=true↔Own n:=by
  rw [a8E];constructor
  ·rintro ⟨h1,h2,h3⟩
   have hb:=I0.1 (c6c (I0.2 hid) h1);unfold a0d at h1;rw [I0.2 hb] at h1;exact ⟨hb.1,hb.2,by simpa using h1,h2,h3.1,h3.2⟩
  ·intro h;refine ⟨?_,h.pr,h.bl,h.bs⟩;unfold a0d;rw [I0.2 ⟨h.b1,h.b2⟩];simpa using h.mod
 unfold a0t a0E;by_cases p0:n.d6=0
 ·simp only [p0,beq_self_eq_true,g1d,f8R,c7u,beq_iff_eq,e0Q];constructor
  ·rintro ⟨a,b,c,d,e⟩;exact .inl ⟨trivial,a,b,c,d,e⟩
  ·rintro (h|h|h|h)
   ·exact ⟨h.2.1,h.2.2.1,h.2.2.2.1,h.2.2.2.2.1,h.2.2.2.2.2⟩
   all_goals exact absurd h.1 (by omega)
 ·have q0:(n.d6==0)=false:=by simpa using p0
  simp only [q0,g1e,f8R,decide_eq_true_eq];rw [<-and_assoc,<-and_assoc,and_assoc (a:=(a0d n.a8==n.Id)=true),hown];by_cases p1:n.d6=1
  ·simp only [p1,beq_self_eq_true,g1d,f8R,d7v hid,c7u];constructor
   ·rintro ⟨a,⟨b,c⟩,d,e⟩;exact .inr (.inl ⟨trivial,a,b,c,d,e⟩)
   ·rintro (h|h|h|h)
    ·exact absurd h.1 (by omega)
    ·exact ⟨h.2.1,⟨h.2.2.1,h.2.2.2.1⟩,h.2.2.2.2.1,h.2.2.2.2.2⟩
    all_goals exact absurd h.1 (by omega)
  ·have q1:(n.d6==1)=false:=by simpa using p1
   by_cases p2:n.d6=2
   ·have q2:(n.d6==2)=true:=by simpa using p2
    simp only [q1,q2,g1d,g1e,f8R,b2z,c7u];constructor
    ·rintro ⟨a,b,c,d⟩;exact .inr (.inr (.inl ⟨p2,a,b,c,d⟩))
    ·rintro (h|h|h|h)
     ·exact absurd h.1 (by omega)
     ·exact absurd h.1 (by omega)
     ·exact ⟨h.2.1,h.2.2.1,h.2.2.2.1,h.2.2.2.2⟩
     ·exact absurd h.1 (by omega)
   ·have q2:(n.d6==2)=false:=by simpa using p2
    by_cases p3:n.d6=3
    ·have q3:(n.d6==3)=true:=by simpa using p3
     simp only [q1,q2,q3,g1d,g1e,f8R,b2z,d7v hid,decide_eq_true_eq];constructor
     ·rintro ⟨a,b,c,⟨d,e⟩,f⟩;exact .inr (.inr (.inr ⟨p3,a,b,c,d,e,by omega⟩))
     ·rintro (h|h|h|h)
      ·exact absurd h.1 (by omega)
      ·exact absurd h.1 (by omega)
      ·exact absurd h.1 (by omega)
      ·exact ⟨h.2.1,h.2.2.1,h.2.2.2.1,⟨h.2.2.2.2.1,h.2.2.2.2.2.1⟩,by omega⟩
    ·have q3:(n.d6==3)=false:=by simpa using p3
     simp only [q1,q2,q3,g1e,g0k,and_false,false_iff];rintro (h|h|h|h)<;>omega
theorem b1G{a b:n5}:(([a.b9,a.Seq]:List Int)==[b.b9,b.Seq])=true↔a=b:=by
 obtain ⟨a1,a2⟩:=a;obtain ⟨b1,b2⟩:=b;simp
theorem c8Z{n:j6}:a4o n=true↔c7q n:=by
 unfold a4o c7q;cases n.i9
 ·simp only [g1e,f8R,b2z,a0J,g0k,false_and,false_or,true_and]
 ·simp only [g1d,f8R,f9v,Bool.true_eq_false,false_and,or_false,true_and];rw [show (([n.b8.a5.b9,n.b8.a5.Seq]:List Int)==[n.Id,n.Seq])=true↔n.b8.a5=⟨n.Id,n.Seq⟩ from b1G (b:=⟨n.Id,n.Seq⟩)]
theorem a1k{n:j6}:D8 n=true↔NI n:=by
 unfold D8 O2 G4 b6R;simp only [f8R,I0,a8E,f8S,decide_eq_true_eq,f9v,decide_eq_false_iff_not];constructor
 ·rintro ⟨h1,⟨h2,h3,h4⟩,⟨h5,h6⟩,h7,h8,h9,h10,h11⟩
  exact ⟨h1,h2,h3.1,fun v hv=>⟨h3.2 v hv,by have:=h4 v hv;omega⟩,h5,h6,h7,by omega,h11,(d3v h1).1 h9,c8Z.1 h10⟩
 ·intro h;exact ⟨h.id,⟨h.pr,⟨h.vl,fun v hv=>(h.vs v hv).1⟩,fun v hv=>by have:=(h.vs v hv).2;omega⟩,⟨h.kl,h.ks⟩,h.sq,by have:=h.ql;omega,(d3v h.id).2 h.ld,c8Z.2 h.wt,h.qs⟩
theorem e4Y{i:n8}(h:Q3 i=true):b30 i:=by
 unfold Q3 at h;by_cases k1:i.a9=1
 ·simp [k1,p9] at h;exact ⟨A5 (by omega),A5 (by omega),A5 (by omega),A5 (by omega)⟩
 by_cases k2:i.a9=2
 ·simp [k2,p9] at h;exact ⟨A5 (by omega),A5 (by omega),A5 (by omega),A5 (by omega)⟩
 by_cases k3:i.a9=3
 ·simp [k3,p9] at h;exact ⟨A5 (by omega),A5 (by omega),A5 (by omega),A5 (by omega)⟩
 by_cases k4:i.a9=4
 ·simp [k4,p9] at h;exact ⟨A5 (by omega),A5 (by omega),A5 (by omega),A5 (by omega)⟩
 by_cases k5:i.a9=5
 ·simp [k5,p9] at h;exact ⟨A5 (by omega),A5 (by omega),A5 (by omega),A5 (by omega)⟩
 by_cases k6:i.a9=6
 ·simp [k6,p9] at h;exact ⟨A5 (by omega),A5 (by omega),A5 (by omega),A5 (by omega)⟩
 by_cases k7:i.a9=7
 ·simp [k7] at h;exact ⟨A5 (by omega),A5 (by omega),A5 (by omega),A5 (by omega)⟩
 ·simp [k1,k2,k3,k4,k5,k6,k7] at h
theorem c75{l:List n8}(h:E4 l=true):A2 32 b30 l:=by
 obtain ⟨h1,h2⟩:=c6P h;exact a0w (by omega) fun i hi=>e4Y (h2 i hi)
theorem a0E.phase{n:j6}(h:a0E n):0<=n.d6/\n.d6<=3:=by
 rcases h with h|h|h|h<;>omega
theorem a0E.bal{n:j6}(h:a0E n):0<=n.a8/\n.a8<=3000:=by
 rcases h with h|h|h|h
 ·omega
 all_goals exact ⟨by have:=h.2.1.b1;omega,h.2.1.b2⟩
theorem a0E.best{n:j6}(h:a0E n):n.i4.length<=40/\∀v∈n.i4,VI v:=by
 rcases h with h|h|h|h
 ·rw [h.2.2.2.1];exact ⟨by simp,by simp⟩
 all_goals exact ⟨h.2.1.bl,h.2.1.bs⟩
theorem a0E.from3{n:j6}(h:a0E n):n.c9.length<=3/\n.a7.length<=3/\F3 n.c8:=by
 rcases h with h|h|h|h
 ·rw [h.2.2.1,h.2.2.2.2.2,h.2.2.2.2.1];exact ⟨by simp,by simp,a1v⟩
 ·rw [h.2.2.2.2.2,h.2.2.2.2.1];exact ⟨by omega,by simp,a1v⟩
 ·rw [h.2.2.1,h.2.2.2.1,h.2.2.2.2];exact ⟨by simp,by simp,a1v⟩
 ·rw [h.2.2.1];exact ⟨by simp,by omega,a27 h.2.2.2.1⟩
theorem NI.ok{n:j6}(h:NI n):O6 n:=by
 have hf:=h.ld.from3;have hb:=h.ld.best;have hw:F3 n.b8/\A2 32 b30 n.i6:=by
  rcases h.wt with q|q
  ·exact ⟨a27 q.2.2.1,c75 q.2.1⟩
  ·rw [q.2.1,q.2.2];exact ⟨a1v,U2⟩
 have hph:=h.ld.phase;have hbl:=h.ld.bal;have h1:=h.id;have h2:=h.pr;have h3:=h.sq;have h4:=h.vl;have h5:=h.kl;have h6:=h.ql;exact ⟨A5 (by omega),⟨A5 (by omega),a4s (by omega) fun v hv=>(h.vs v hv).1⟩,d3y (by omega) h.ks,A5 (by omega),A5 (by omega),A5 (by omega),
  a0w (by omega) (fun _ _=>trivial),a4s (by omega) hb.2,hf.2.2,a0w (by omega) (fun _ _=>trivial),hw.2,hw.1,d3y (by omega) fun e he=>(h.qs e he).1⟩
theorem NI.list{n:j6}(h:NI n):G4 n.a6=true:=by
 unfold G4;simp only [f8R,decide_eq_true_eq,f8S];exact ⟨h.kl,h.ks⟩
def U3(m:l8):Prop:=
 ((m.a9=1\/m.a9=4)/\(1<=m.a8/\m.a8<=3000)/\m.g9=zE/\m.a7=[])\/
 (m.a9=2/\(1<=m.a8/\m.a8<=3000)/\m.g9=zE/\(m.a7.length<=40/\∀v∈m.a7,VI v)/\m.g8+m.a7.length<=40)\/
 (m.a9=3/\(1<=m.a8/\m.a8<=3000)/\m.g8<40/\z4 m.g9=true/\m.a7=[])\/
 (m.a9=5/\m.a8=0/\m.g8<40/\z4 m.g9=true/\m.a7=[])\/
 (m.a9=6/\(1<=m.a8/\m.a8<=3000)/\m.g8=0/\m.g9=zE/\m.a7=[])\/
 (m.a9=7/\m.a8=0/\m.g8=0/\z4 m.g9=true/\m.g9.i7=false/\m.a7=[])\/
 (m.a9=8/\m.a8=0/\m.g9=zE/\m.a7=[])
structure MI(m:l8):Prop where
 fr:0<=m.c9/\m.c9<=2
 to:0<=m.To/\m.To<=2
 ne:m.c9≠m.To
 sl:0<=m.g8/\m.g8<=40
 kd:U3 m
theorem d6N{m:l8}:Q8 m=true↔MI m:=by
 have hk:(0<=m.g8/\m.g8<=40)->(a68 m=true↔U3 m):=by
  intro hs;have hw:L4 m.a7=true->m7 (m.g8+(m.a7.length:Int))=m.g8+(m.a7.length:Int):=by
   intro hv;have:=(a8E.1 hv).1;exact C5 (by omega) (by omega)
  unfold a68 U3;simp only [Bool.cond_eq_ite];by_cases k1:m.a9=1
  ·simp [k1,I0,a0J]
  by_cases k4:m.a9=4
  ·simp [k4,I0,a0J]
  by_cases k2:m.a9=2
  ·simp only [k2,I0,a0J,beq_self_eq_true,if_true,f8R,decide_eq_true_eq];simp only [show ((2:Int)==1)=false from rfl,show ((2:Int)==4)=false from rfl,g0k,if_false,f8R,I0,a0J,decide_eq_true_eq];constructor
   ·rintro ⟨a,b,c,d⟩
    rw [hw c] at d;exact .inr (.inl ⟨trivial,a,b,a8E.1 c,d⟩)
   ·rintro (h|h|h|h|h|h|h)
    ·omega
    ·have c:=a8E.2 h.2.2.2.1;exact ⟨h.2.1,h.2.2.1,c,by rw [hw c];exact h.2.2.2.2⟩
    all_goals exact absurd h.1 (by omega)
  by_cases k3:m.a9=3
  ·simp [k3,I0]
  by_cases k5:m.a9=5
  ·simp [k5]
  by_cases k6:m.a9=6
  ·simp [k6,I0,a0J]
  by_cases k7:m.a9=7
  ·simp [k7]
  by_cases k8:m.a9=8
  ·simp [k8,a0J]
  ·simp [k1,k2,k3,k4,k5,k6,k7,k8]
 unfold Q8;simp only [f8R,I0,f9v,beq_eq_false_iff_ne];constructor
 ·rintro ⟨a,b,c,d,e⟩;exact ⟨a,b,c,d,(hk d).1 e⟩
 ·intro h;exact ⟨h.fr,h.to,h.ne,h.sl,(hk h.sl).2 h.kd⟩
theorem MI.ok{m:l8}(h:MI m):a0n m:=by
 have hf:=h.fr;have ht:=h.to;have hs:=h.sl;have hk:H3 m.a9/\H3 m.a8/\F3 m.g9/\A2 96 T1 m.a7:=by
  rcases h.kd with q|q|q|q|q|q|q
  ·rw [q.2.2.1,q.2.2.2];exact ⟨A5 (by omega),A5 (by omega),a1v,U2⟩
  ·rw [q.2.2.1];exact ⟨A5 (by omega),A5 (by omega),a1v,a4s (by omega) q.2.2.2.1.2⟩
  ·rw [q.2.2.2.2];exact ⟨A5 (by omega),A5 (by omega),a27 q.2.2.2.1,U2⟩
  ·rw [q.2.2.2.2];exact ⟨A5 (by omega),A5 (by omega),a27 q.2.2.2.1,U2⟩
  ·rw [q.2.2.2.2,q.2.2.2.1];exact ⟨A5 (by omega),A5 (by omega),a1v,U2⟩
  ·rw [q.2.2.2.2.2];exact ⟨A5 (by omega),A5 (by omega),a27 q.2.2.2.1,U2⟩
  ·rw [q.2.2.1,q.2.2.2];exact ⟨A5 (by omega),A5 (by omega),a1v,U2⟩
 exact ⟨hk.1,A5 (by omega),A5 (by omega),hk.2.1,A5 (by omega),hk.2.2.1,hk.2.2.2⟩
structure WI(w:m5):Prop where
 nl:w.a0.length=3
 ns:∀(i:Nat) (n:j6),w.a0[i]?=some n->n.Id=(i:Int)/\NI n
 ml:w.d7.length<=40
 ms:∀m∈w.d7,MI m
 al:w.d9.length<=60
 aq:∀a∈w.d9,Z8 a=true
 tl:w.Told.length<=60
 ts:∀t∈w.Told,T6 t=true
theorem W0{w:m5}:z9 w=true↔WI w:=by
 unfold z9;simp only [f8R,beq_iff_eq,decide_eq_true_eq,f8S,f9P,d6N];constructor
 ·rintro ⟨h1,h2,h3,h4,h5,h6,h7,h8⟩
  refine ⟨by omega,?_,by omega,h6,by omega,h7,by omega,h8⟩;intro i n hn;have hi:=(f8U.1 hn).1;have:=h5 i hi;unfold a3Y at this;rw [hn] at this;simp only [f8R,beq_iff_eq,a1k] at this;exact this
 ·intro h;have h2:=h.ml;have h3:=h.al;have h4:=h.tl;refine ⟨by have:=h.nl;omega,by omega,by omega,by omega,?_,h.ms,h.aq,h.ts⟩;intro i hi;unfold a3Y;rw [f8N hi];simp only [f8R,beq_iff_eq,a1k];exact h.ns i _ (f8N hi)
theorem f6C{a:x8}(h:Z8 a=true):c9A a:=by
 unfold Z8 at h;simp only [f8R,I0] at h;exact ⟨⟨A5 (by omega),A5 (by omega)⟩,c75 h.2⟩
theorem f7n{t:n6}(h:T6 t=true):d1N t:=by
 unfold T6 at h;simp only [f8R,I0] at h;exact ⟨A5 (by omega),⟨A5 (by omega),A5 (by omega)⟩,A5 (by omega),A5 (by omega)⟩
theorem WI.ok{w:m5}(h:WI w):K5 w:=by
 have h1:=h.nl;have h2:=h.ml;have h3:=h.al;have h4:=h.tl;refine ⟨a0w (by omega) ?_,a0w (by omega) fun m hm=>(h.ms m hm).ok,a0w (by omega) fun a ha=>f6C (h.aq a ha),a0w (by omega) fun t ht=>f7n (h.ts t ht)⟩;intro n hn;obtain ⟨i,hi⟩:=g0E hn;exact (h.ns i n hi).2.ok
theorem b7E(m o:l8):a5x m o=some [M8 m o]:=rfl
theorem d5Q(n:j6)(b:Int):b29 n b=some (O0 n b):=by
 unfold b29 O0;cases n.d6 != 0
 ·rfl
 ·simp only [g1d,f8Y];cases decide (b>n.a8)<;>rfl
theorem e2z(n:j6)(b:Int):b2J n b=some (O0 n b):=by
 unfold b2J O0;cases n.d6 != 0
 ·rfl
 ·simp only [g1d,f8Y];cases decide (b>n.a8)<;>rfl
theorem d2e(n:j6)(b:Int):(O0 n b).Acc=n.Acc:=by
 unfold O0;cases n.d6 != 0&&decide (b>n.a8)<;>rfl
theorem a3L{a x:z0}{b:Int}(h:I2 a b=some x):x=⟨b,a.a7⟩/\1<=b/\b<=3000/\a.i0<=b:=by
 unfold I2 b00 at h;cases hq:p9 b 1 3000&&decide (a.i0<=b)
 ·rw [hq] at h;cases h
 ·rw [hq] at h;simp only [f8R,I0,decide_eq_true_eq] at hq;injection h with h;exact ⟨h.symm,hq.1.1,hq.1.2,hq.2⟩
theorem c4P{α:Type}(l:List α)(k:Nat):(l.drop k).take (l.length-k)=l.drop k:=by
 rw [f9F];simp
theorem e1O{n:j6}(h:O6 n){m:l8}(hs:0<=m.g8):b8d n m=some (a2b n m):=by
 unfold b8d a2b;rw [c1T,b7N];cases hp:I2 n.Acc m.a8 with
 | none=>rfl
 | some a=>
  obtain ⟨rfl,_⟩:=a3L hp;simp only [a5D,f8M,f8T,g1e,e2z];have ha:=d2e {n with Acc:=⟨m.a8,n.Acc.a7⟩} m.a8;have hy:∀y:j6,y.Acc=⟨m.a8,n.Acc.a7⟩->(j6.mk y.Id (z0.mk y.Acc.i0 n.Acc.a7) y.a6 y.Seq y.d6 y.a8 y.c9 y.i4 y.c8 y.a7 y.i9 y.i6 y.b8 y.f0)=y:=by
   intro y hy;obtain ⟨y1,y2,y3,y4,y5,y6,y7,y8,y9,y10,y11,y12,y13,y14⟩:=y;simp only at hy;subst hy;rfl
  rw [hy _ ha];obtain ⟨k,hk⟩:∃k:Nat,m.g8=(k:Int):=⟨m.g8.toNat,by omega⟩
  rw [hk,f9r,c4P];cases hd:decide ((k:Int)<(n.Acc.a7.length:Int))
  ·simp only [g1e,b7E,f8M];rw [f9q (by simp at hd;omega)]
  ·simp only [g1d];rw [v5 (by simp at hd;omega),e9k (f1w h.2.1.2 (by simp) fun x hx=>f9S hx),f8M,b7E,f8M]
theorem e0y{n:j6}{m:l8}(hm:a0n m):b6W n m=some (a2g n m):=by
 have he:F3 m.g9:=hm.2.2.2.2.2.1;unfold b6W a2g;rw [d5c he,d1n he];cases L1 n.Acc m.a8 m.g8 m.g9 with
 | none=>rfl
 | some a=>simp only [a5D,f8M,f8T,g1e,d5Q,b7E]
theorem c00{l:List Bool}(h:l.length<=3):s7 l:=by unfold s7;omega
theorem e7x{n:j6}(h:NI n){m:l8}(hm:MI m)(hk:m.a9=2):c0G n m=some (a1P n m):=by
 have hkd:(m.a7.length<=40/\∀v∈m.a7,VI v)/\m.g8+m.a7.length<=40:=by
  rcases hm.kd with q|q|q|q|q|q|q
  ·omega
  ·exact ⟨q.2.2.2.1,q.2.2.2.2⟩
  all_goals exact absurd q.1 (by omega)
 have hs:=hm.sl;have hf:=hm.fr;unfold c0G a1P;by_cases p1:n.d6=1
 ·rw [show (n.d6 != 1)=false by simp [p1],f9B];simp only [g1e];cases hb:m.a8 != n.a8
  ·simp only [g1e];have hl:n.c9.length=3/\Own n:=by
    rcases h.ld with q|q|q|q
    ·omega
    ·exact ⟨q.2.2.1,q.2.1⟩
    all_goals exact absurd q.1 (by omega)
   obtain ⟨f,hff⟩:∃f:Nat,m.c9=(f:Int):=⟨m.c9.toNat,by omega⟩
   have hvo:A2 96 T1 (f8O m.g8.toNat v0++m.a7):=a4s (by simp;omega) (by
    intro v hv;rcases f8P.1 hv with q|q
    ·rw [(f9J.1 q).2];exact .inl rfl
    ·exact hkd.1.2 v q)
   have hz:∀v∈f8O m.g8.toNat v0++m.a7,v.a8<=0->v=v0:=by
    intro v hv hb;rcases f8P.1 hv with q|q
    ·exact (f9J.1 q).2
    ·exact (hkd.1.2 v q).zero hb
   rw [hff,t0 (show f<n.c9.length by omega),f8M,e8O (a4s (by omega) hkd.1.2) hkd.1.1 hs,f8M,f2b (a4s (by have:=hl.2.bl;omega) hl.2.bs) hvo (by have:=hl.2.bl;omega) (by simp;omega) hz,f8M,d6a (c00 (by simp;omega)),f8M];cases htw:N8 (n.c9.set (f:Int).toNat true)
   ·simp only [f9x,g1d,g1e]
   ·simp only [f8T,g1e,g1d];have hbl:=a8h n.i4 (f8O m.g8.toNat v0++m.a7);have hob:=hl.2.bl;have hlen:(f8O m.g8.toNat v0++m.a7).length<=40:=by simp;omega
    obtain ⟨h1,h2,h3,h4,h5,h6,h7,h8,h9,h10,h11,h12,h13⟩:=h.ok;rw [b5h (n:=⟨n.Id,n.Acc,n.a6,n.Seq,2,n.a8,[],E0 n.i4 (f8O m.g8.toNat v0++m.a7),n.c8,n.a7,n.i9,n.i6,n.b8,n.f0⟩) ⟨h1,h2,h3,h4,A5 (n:=2) (by omega),h6,U2,a4s (by show (E0 n.i4 (f8O m.g8.toNat v0++m.a7)).length<=1000;omega) (fun v hv=>(a9M hv).elim (fun q=>hl.2.bs v q) (fun q=>(f8P.1 q).elim (fun q=>by rw [(f9J.1 q).2];exact .inl rfl) (hkd.1.2 v))),h9,h10,h11,h12,h13⟩ h.id,f8M]
  ·rfl
 ·rw [show (n.d6 != 1)=true by simpa using p1];rfl
theorem a07(id:Int)(m:l8):(J1 id m).length<=3:=by
 unfold J1;rw [f9I];exact List.length_filter_le _ _
theorem a7P(n:j6):(N1 n).2.length<=3:=by
 unfold N1 a54;cases n.d6 != 2||decide (40<=n.a6.length)
 ·simp only [g1e];cases a0F n with
  | mk x o=>
   cases o with
   | none=>simp
   | some e=>
    simp only;cases L1 x.Acc x.a8 (x.a6.length:Int) e with
    | none=>simp
    | some a=>exact a07 _ _
 ·simp
theorem f4E{n:j6}(h:NI n){m:l8}(hm:MI m):b52 n m=some (a2Q n m):=by
 have hf:=hm.fr;unfold b52 a2Q;by_cases p3:n.d6=3
 ·rw [show (n.d6 != 3)=false by simp [p3],f9B];simp only [g1e];cases hb:m.a8 != n.a8
  ·simp only [g1e,f9B];cases hs:m.g8 != (n.a6.length:Int)
   ·simp only [g1e];have hl:n.a7.length=3/\z4 n.c8=true/\n.a6.length<40:=by
     rcases h.ld with q|q|q|q
     ·omega
     ·omega
     ·omega
     ·exact ⟨q.2.2.2.2.1,q.2.2.2.1,q.2.2.2.2.2.2⟩
    obtain ⟨f,hff⟩:∃f:Nat,m.c9=(f:Int):=⟨m.c9.toNat,by omega⟩
    have hcur:=a27 hl.2.1;rw [hff,t0 (show f<n.a7.length by omega),f8M,d6a (c00 (by simp;omega)),f8M];cases htw:N8 (n.a7.set (f:Int).toNat true)
    ·simp only [f9x,g1d,g1e]
    ·simp only [f8T,g1e,g1d];obtain ⟨h1,h2,h3,h4,h5,h6,h7,h8,h9,h10,h11,h12,h13⟩:=h.ok;rw [a0V hcur,f8M,a6V h.id (a8N (A5 (by omega)) a0A (A5 (by omega)) hcur U2),f8M,
      c9z (n:={n with a7:=n.a7.set (f:Int).toNat true}) ⟨h1,h2,h3,h4,h5,h6,h7,h8,h9,a0w (by simp;omega) (fun _ _=>trivial),h11,h12,h13⟩ h.id h.list hl.2.2 hcur hl.2.1,f8M,v5]
     have e1:=a07 n.Id ⟨5,0,0,0,(n.a6.length:Int),n.c8,[]⟩;have e2:=a7P (U6 (E2 {n with a7:=n.a7.set (f:Int).toNat true} n.c8)).1;have e3:(X3 {n with a7:=n.a7.set (f:Int).toNat true} n.c8).2.1.length<=3:=e2;omega
   ·rfl
  ·rfl
 ·rw [show (n.d6 != 3)=true by simpa using p3];rfl
theorem e5Q{n:j6}(h:NI n){m:l8}(hm:MI m)(hk:m.a9=5):c0z n m=some (a2r n m):=by
 have hkd:m.g8<40/\z4 m.g9=true:=by
  rcases hm.kd with q|q|q|q|q|q|q
  ·omega
  ·omega
  ·omega
  ·exact ⟨q.2.2.1,q.2.2.2.1⟩
  all_goals exact absurd q.1 (by omega)
 unfold c0z a2r;cases h1:decide (m.g8<(n.a6.length:Int))
 ·cases h2:decide (m.g8>(n.a6.length:Int))
  ·simp only [g1e];have hl:n.a6.length<40:=by simp at h1 h2;omega
   rw [c9z h.ok h.id h.list hl (a27 hkd.2) hkd.2,f8M]
  ·rfl
 ·rfl
theorem d91{n:j6}(h:NI n){m:l8}(hm:MI m):b62 n m=some (a12 n m):=by
 have he:F3 m.g9:=hm.ok.2.2.2.2.2.1;have hql:=h.ql;unfold b62 a12;rw [show decide ((n.f0.length:Int)>=4)=decide (4<=n.f0.length) by simp;omega,b8V (h.ok.2.2.1.fits (by decide)),a0V he];cases n.d6==0
 ·simp only [g1e,f9B];cases decide (4<=n.f0.length)
  ·simp only [g1e,f9B,f8M];cases N9 n.a6 m.g9.a5
   ·obtain ⟨h1,h2,h3,h4,h5,h6,h7,h8,h9,h10,h11,h12,h13⟩:=h.ok;simp only [g1e];rw [v5 (by omega),b5h (n:={n with f0:=n.f0++[m.g9]}) ⟨h1,h2,h3,h4,h5,h6,h7,h8,h9,h10,h11,h12,a0w (by simp;omega) (by
     intro x hx;rcases f8P.1 hx with q|q
     ·exact h13.2 x q
     ·rw [f8V.1 q];exact he)⟩ h.id,f8M]
   ·rfl
  ·rfl
 ·rfl
theorem b7C{n:j6}(m:l8){k:Nat}(hk:k<n.a6.length):a1q n m k=[M8 m ⟨5,0,0,0,(k:Int),n.a6[k],[]⟩]:=by
 unfold a1q;rw [f8N hk]
theorem d09{n:j6}(h:NI n)(m:l8):∀(d k:Nat) (o:List l8),n.a6.length-k=d->o.length<=k->o7 (fun s:(List l8)×Int=>a58 n m s.1 s.2) (o,(k:Int))=some (.brk (o++((f8W d).map fun j=>a1q n m (k+j)).flatten))
 | 0,k,o,hd,ho=>by
  have hkl:=h.kl;refine (C7 (b:=o) ?_).trans (by simp);show a58 n m o (k:Int)=_
  unfold a58;rw [show decide ((k:Int)<(n.a6.length:Int))=false by simp;omega];rfl
 | d+1,k,o,hd,ho=>by
  have hkl:=h.kl;have hlt:k<n.a6.length:=by omega
  have hb:a58 n m o (k:Int)=some (.nxt (o++a1q n m k,((k+1:Nat):Int))):=by
   unfold a58;rw [w6 _ k hlt,t0 hlt,g1d,f8M,a0V (a27 (h.ks _ (f8Q hlt))),f8M,b7E,f8M,v5 (by simp;omega),b7C m hlt,E6 (h.ok.2.2.1.fits (by decide)) hlt]
  rw [E8 (body:=fun s:(List l8)×Int=>a58 n m s.1 s.2) (s:=(o,(k:Int))) hb,d09 h m d (k+1) _ (by omega) (by rw [b7C m hlt];simp;omega)];rw [List.range_succ_eq_map,f9z,f9t,f9i,g0W];simp only [g0z,Function.comp_def,Nat.succ_eq_add_one,Nat.add_assoc,Nat.add_comm 1]
theorem e41{n:j6}(h:NI n){m:l8}(hs:0<=m.g8):b6P n m=some (a4u n m,n):=by
 unfold b6P a4u;obtain ⟨k,hk⟩:∃k:Nat,m.g8=(k:Int):=⟨m.g8.toNat,by omega⟩
 rw [hk];have:=d09 h m (n.a6.length-k) k [] rfl (by simp);rw [this];rfl
theorem f2O{n:j6}(h:NI n){m:l8}(hm:MI m):b7Q n m=some (X2 n m):=by
 unfold b7Q X2;rw [e1O h.ok hm.sl.1,e0y hm.ok,f4E h hm,d91 h hm,e41 h hm.sl.1,b7N];by_cases k1:m.a9=1
 ·simp [k1];rfl
 rw [show (m.a9==1)=false by simpa using k1];by_cases k2:m.a9=2
 ·rw [e7x h hm k2];simp [k2];rfl
 rw [show (m.a9==2)=false by simpa using k2];by_cases k3:m.a9=3
 ·simp [k3];rfl
 rw [show (m.a9==3)=false by simpa using k3];by_cases k4:m.a9=4
 ·simp [k4];rfl
 rw [show (m.a9==4)=false by simpa using k4];by_cases k5:m.a9=5
 ·rw [e5Q h hm k5];simp [k5];rfl
 rw [show (m.a9==5)=false by simpa using k5];by_cases k6:m.a9=6
 ·rw [show (m.a9==6)=true by simpa using k6];simp only [g1d,g1e,f8M];cases I2 n.Acc m.a8<;>simp only [d5Q,f8M,Option.getD_none,g0d]<;>rfl
 rw [show (m.a9==6)=false by simpa using k6];by_cases k7:m.a9=7
 ·simp [k7];rfl
 rw [show (m.a9==7)=false by simpa using k7];cases m.a9==8
 ·rfl
 ·simp only [g1d,g1e,f8M];rw [v5 trivial,v5 trivial,v5 trivial,v5 trivial,v5 trivial];rfl
theorem b6x{a x:z0}{b s:Int}{e:m4}(h:L1 a b s e=some x):∃k:Nat,s=(k:Int)/\k<40/\z4 e=true/\1<=b/\b<=3000/\a.i0<=b/\x=⟨b,(S5 a.a7 (k+1)).set k ⟨b,e⟩⟩:=by
 unfold L1 at h;cases hq:p9 s 0 39&&z4 e
 ·rw [hq] at h;cases h
 ·rw [hq,g1d] at h;simp only [f8R,I0] at hq;cases hp:I2 a b with
  | none=>rw [hp] at h;cases h
  | some y=>
   rw [hp] at h;obtain ⟨rfl,h1,h2,h3⟩:=a3L hp;injection h with h;refine ⟨s.toNat,by omega,by omega,hq.2,h1,h2,h3,h.symm⟩
theorem b86{a:z0}{b:Int}(h1:1<=b)(h2:b<=3000)(h3:a.i0<=b):I2 a b=some ⟨b,a.a7⟩:=by
 unfold I2 b00;rw [I0.2 ⟨h1,h2⟩,show decide (a.i0<=b)=true by simpa using h3];rfl
theorem e3N{a:z0}{b:Int}{k:Nat}{e:m4}(hk:k<40)(he:z4 e=true)(h1:1<=b)(h2:b<=3000)(h3:a.i0<=b):L1 a b (k:Int) e=some ⟨b,(S5 a.a7 (k+1)).set k ⟨b,e⟩⟩:=by
 unfold L1;rw [I0.2 (show 0<=(k:Int)/\(k:Int)<=39 by omega),he,b86 h1 h2 h3];rfl
theorem c2v{vs:List m8}{n:Nat}{v:m8}(h:v∈S5 vs n):v∈vs\/v=v0:=by
 rcases f8P.1 h with q|q
 ·exact .inl q
 ·exact .inr (f9J.1 q).2
theorem d6U{α:Type}{l:List α}{k:Nat}{x v:α}(h:v∈l.set k x):v∈l\/v=x:=f9y h
theorem NI.queue{n:j6}(h:NI n){q:List m4}(hl:q.length<=4)(hm:∀e∈q,z4 e=true/\e.i7=false):NI {n with f0:=q}:=
 ⟨h.id,h.pr,h.vl,h.vs,h.kl,h.ks,h.sq,hl,hm,h.ld,h.wt⟩
theorem NI.down{n:j6}(h:NI n):NI (a3R n):=
 ⟨h.id,h.pr,h.vl,h.vs,h.kl,h.ks,h.sq,h.ql,h.qs,.inl ⟨rfl,rfl,rfl,rfl,rfl,rfl⟩,h.wt⟩
theorem NI.freeN{n:j6}(h:NI n):NI (a6T n):=
 ⟨h.id,h.pr,h.vl,h.vs,h.kl,h.ks,h.sq,h.ql,h.qs,h.ld,.inr ⟨rfl,rfl,rfl⟩⟩
theorem NI.acc{n:j6}(h:NI n){a:z0}(h1:0<=a.i0/\a.i0<=3000)(h2:a.a7.length<=40)(h3:∀v∈a.a7,VI v/\v.a8<=a.i0)(h4:n.Acc.i0<=a.i0):NI {n with Acc:=a}:=by
 have ho:Own n->Own {n with Acc:=a}:=fun o=>⟨o.b1,o.b2,o.mod,f9N o.pr h4,o.bl,o.bs⟩
 refine ⟨h.id,h1,h2,h3,h.kl,h.ks,h.sq,h.ql,h.qs,?_,h.wt⟩;rcases h.ld with q|q|q|q
 ·exact .inl q
 ·exact .inr (.inl ⟨q.1,ho q.2.1,q.2.2⟩)
 ·exact .inr (.inr (.inl ⟨q.1,ho q.2.1,q.2.2⟩))
 ·exact .inr (.inr (.inr ⟨q.1,ho q.2.1,q.2.2⟩))
theorem NI.promise{n:j6}(h:NI n){b:Int}{x:z0}(hp:I2 n.Acc b=some x):NI {n with Acc:=x}:=by
 obtain ⟨rfl,h1,h2,h3⟩:=a3L hp;exact h.acc ⟨by simp only;omega,h2⟩ h.vl (fun v hv=>⟨(h.vs v hv).1,f9N (h.vs v hv).2 h3⟩) h3
theorem f4R{vs:List m8}{p b:Int}{k:Nat}{e:m4}(hk:k<40)(hl:vs.length<=40)(hv:∀v∈vs,VI v/\v.a8<=p)(he:z4 e=true)(h1:1<=b)(h2:b<=3000)(h3:p<=b) :
  ((S5 vs (k+1)).set k ⟨b,e⟩).length<=40/\∀v∈(S5 vs (k+1)).set k ⟨b,e⟩,VI v/\v.a8<=b:=by
 refine ⟨by rw [g0n,b7z];omega,fun v hm => ?_⟩;rcases d6U hm with q|q
 ·rcases c2v q with q|q
  ·exact ⟨(hv v q).1,f9N (hv v q).2 h3⟩
  ·rw [q];exact ⟨.inl rfl,by show (0:Int)<=b;omega⟩
 ·rw [q];exact ⟨.inr ⟨h1,h2,he⟩,f9n _⟩
theorem NI.cast{n:j6}(h:NI n){b s:Int}{e:m4}{x:z0}(hc:L1 n.Acc b s e=some x):NI {n with Acc:=x}:=by
 obtain ⟨k,rfl,hk,he,h1,h2,h3,rfl⟩:=b6x hc;obtain ⟨a,b'⟩:=f4R hk h.vl h.vs he h1 h2 h3;exact h.acc ⟨by simp only;omega,h2⟩ a b' h3
theorem NI.yield{n:j6}(h:NI n)(b:Int):NI (O0 n b):=by
 unfold O0;cases n.d6 != 0&&decide (b>n.a8)
 ·exact h
 ·exact h.down
theorem c3m{id:Int}(h:0<=id/\id<=2):(a1w id).length=3/\(a1w id)[id.toNat]?=some true:=by
 unfold a1w;refine ⟨by simp,?_⟩;rw [g0e (by simp;omega)]
theorem a2J.right{n:j6}(h:NI n){e:m4}(hn:a2J n e):z4 e=true:=by
 cases hn with
 | best v hv hb=>exact (h.ld.best.2 v (f9c hv)).pos hb
 | gap=>rfl
 | want hb=>
  rcases h.wt with q|q
  ·exact q.2.2.1
  ·rw [hb] at q;cases q.1
 | queue e hq=>exact (h.qs e hq).1
theorem a4g{id:Int}{m x:l8}(hid:0<=id/\id<=2)(h:x∈J1 id m):∃t:Int,0<=t/\t<=2/\t≠id/\x={m with c9:=id,To:=t}:=by
 unfold J1 at h;obtain ⟨t,ht,rfl⟩:=f9w.1 h;obtain ⟨h1,h2⟩:=f9V.1 ht;refine ⟨t,?_,?_,by simpa using h2,rfl⟩;all_goals simp at h1;omega
theorem a65{id:Int}{m:l8}(hid:0<=id/\id<=2)(hk:U3 m)(hs:0<=m.g8/\m.g8<=40):∀x∈J1 id m,MI x:=by
 intro x hx;obtain ⟨t,h1,h2,h3,rfl⟩:=a4g hid hx;exact ⟨hid,⟨h1,h2⟩,fun q=>h3 q.symm,hs,hk⟩
theorem b1s{m o:l8}(hm:MI m)(hk:U3 o)(hs:0<=o.g8/\o.g8<=40):MI (M8 m o):=⟨hm.to,hm.fr,fun q=>hm.ne q.symm,hs,hk⟩
theorem U3.one{k b s:Int}(hk:k=1\/k=4)(hb:1<=b/\b<=3000):U3 ⟨k,0,0,b,s,zE,[]⟩:=.inl ⟨hk,hb,rfl,rfl⟩
theorem U3.accept{b s:Int}{e:m4}(hb:1<=b/\b<=3000)(hs:s<40)(he:z4 e=true):U3 ⟨3,0,0,b,s,e,[]⟩:=.inr (.inr (.inl ⟨rfl,hb,hs,he,rfl⟩))
theorem U3.chosen{s:Int}{e:m4}(hs:s<40)(he:z4 e=true):U3 ⟨5,0,0,0,s,e,[]⟩:=.inr (.inr (.inr (.inl ⟨rfl,rfl,hs,he,rfl⟩)))
theorem U3.refuse{b:Int}(hb:1<=b/\b<=3000):U3 ⟨6,0,0,b,0,zE,[]⟩:=.inr (.inr (.inr (.inr (.inl ⟨rfl,hb,rfl,rfl,rfl⟩))))
theorem U3.ask{e:m4}(he:z4 e=true)(hn:e.i7=false):U3 ⟨7,0,0,0,0,e,[]⟩:=.inr (.inr (.inr (.inr (.inr (.inl ⟨rfl,rfl,rfl,he,hn,rfl⟩)))))
theorem U3.need{s:Int}:U3 ⟨8,0,0,0,s,zE,[]⟩:=.inr (.inr (.inr (.inr (.inr (.inr ⟨rfl,rfl,rfl,rfl⟩)))))
structure T8(n:j6)(x:j6×List l8):Prop where
 ni:NI x.1
 id:x.1.Id=n.Id
 ms:∀m∈x.2,MI m
theorem T8.same{n:j6}(h:NI n):T8 n (n,[]):=⟨h,rfl,by simp⟩
theorem T8.to{n n':j6}(hi:n'.Id=n.Id){x:j6×List l8}(h:T8 n' x):T8 n x:=⟨h.ni,h.id.trans hi,h.ms⟩
theorem a9E{n:j6}(h:NI n):T8 n (N1 n):=by
 unfold N1;cases hc:n.d6 != 2||decide (40<=n.a6.length)
 ·simp only [g1e];simp only [g0c,bne_eq_false_iff_eq,decide_eq_false_iff_not] at hc;obtain ⟨q,hq,hql,hqm,hqe⟩:=b08 n;cases hx:a0F n with
  | mk x o=>
  rw [hx] at hq hqe;have hq:x={n with f0:=q}:=hq;have hn:NI {n with f0:=q}:=h.queue (by have:=h.ql;omega) fun e he=>h.qs e (hqm e he)
  subst hq;cases o with
  | none=>exact ⟨hn,rfl,by simp⟩
  | some e=>
   have he:=(hqe e rfl).right h;simp only [a54];have ho:Own n:=by
    rcases h.ld with q|q|q|q
    ·omega
    ·omega
    ·exact q.2.1
    ·omega
   cases hcs:L1 n.Acc n.a8 (n.a6.length:Int) e with
   | none=>exact ⟨hn.down,rfl,by simp⟩
   | some a=>
    have hac:=hn.cast (b:=n.a8) (s:=(n.a6.length:Int)) (e:=e) hcs;obtain ⟨k,hk,hk40,_,h1,h2,h3,rfl⟩:=b6x hcs;refine ⟨⟨h.id,hac.pr,hac.vl,hac.vs,h.kl,h.ks,h.sq,hn.ql,hn.qs,?_,h.wt⟩,rfl,a65 h.id (.accept ⟨h1,h2⟩ (by omega) he) (by simp only;omega)⟩;refine .inr (.inr (.inr ⟨rfl,⟨ho.b1,ho.b2,ho.mod,f9n _,ho.bl,ho.bs⟩,?_,he,(c3m h.id).1,(c3m h.id).2,by simp only;omega⟩));rcases h.ld with q|q|q|q
    ·omega
    ·omega
    ·exact q.2.2.1
    ·omega
 ·exact .same h
theorem NI.know{n:j6}(h:NI n){e:m4}(he:z4 e=true)(hl:n.a6.length<40):NI (E2 n e):=by
 have hks:∀x∈n.a6++[e],z4 x=true:=by
  intro x hx;rcases f8P.1 hx with q|q
  ·exact h.ks x q
  ·rw [f8V.1 q];exact he
 have hkl:(n.a6++[e]).length<=40:=by simp;omega
 unfold E2;by_cases p3:n.d6=3
 ·rw [show (n.d6==3)=true by simpa using p3];refine ⟨h.id,h.pr,h.vl,h.vs,hkl,hks,h.sq,h.ql,h.qs,?_,h.wt⟩;rcases h.ld with q|q|q|q
  ·omega
  ·omega
  ·omega
  ·exact .inr (.inr (.inl ⟨rfl,⟨q.2.1.b1,q.2.1.b2,q.2.1.mod,q.2.1.pr,q.2.1.bl,q.2.1.bs⟩,q.2.2.1,rfl,rfl⟩))
 ·rw [show (n.d6==3)=false by simpa using p3];refine ⟨h.id,h.pr,h.vl,h.vs,hkl,hks,h.sq,h.ql,h.qs,?_,h.wt⟩;rcases h.ld with q|q|q|q
  ·exact .inl q
  ·exact .inr (.inl ⟨q.1,⟨q.2.1.b1,q.2.1.b2,q.2.1.mod,q.2.1.pr,q.2.1.bl,q.2.1.bs⟩,q.2.2⟩)
  ·exact .inr (.inr (.inl ⟨q.1,⟨q.2.1.b1,q.2.1.b2,q.2.1.mod,q.2.1.pr,q.2.1.bl,q.2.1.bs⟩,q.2.2⟩))
  ·exact absurd q.1 p3
theorem e7f{s:u5}{e:m4}(hn:e.i7=false):0<=(apply s e).2/\(apply s e).2<=4:=by
 have hf:0<=(O3 s e).2/\(O3 s e).2<=4:=by
  unfold O3;cases a02 s.g7 e.b6
  ·exact ⟨by simp,by simp⟩
  ·cases e.b6.Code==0<;>exact ⟨by simp,by simp⟩
 unfold apply;rw [hn];simp only [g1e];cases s.i8.find? fun d=>d.a5.b9==e.a5.b9 with
 | none=>exact hf
 | some d=>
  simp only;cases d.a5.Seq==e.a5.Seq
  ·cases decide (d.a5.Seq>e.a5.Seq)
   ·exact hf
   ·exact ⟨by simp,by simp⟩
  ·exact ⟨by simp,by simp⟩
theorem b2o{l:List m4}{q:n5}{k:Nat}(h:l.findIdx? (D6 q)=some k):∃hk:k<l.length,l[k].i7=false/\l[k].a5=q:=by
 rw [f9L] at h;obtain ⟨hk,h1,_⟩:=h;unfold D6 at h1;simp only [f8R,f9v] at h1;exact ⟨hk,h1.1,b1G.1 h1.2⟩
theorem c2L{l:List m4}(h:G4 l=true){k:Nat}(hk:k<l.length):L0 l k=(apply (p6 (l.take k)).1 l[k]).2:=by
 obtain ⟨a,b⟩:=W8 h;unfold L0;rw [c54 a b hk];rfl
theorem e5T{l:List m4}(h:∀e∈l,z4 e=true)(q:n5):-1000000<=R1 l q/\R1 l q<=1000000:=by
 unfold R1;cases hf:l.findIdx? (D6 q) with
 | none=>exact ⟨by simp,by simp⟩
 | some k=>
  obtain ⟨hk,h1,h2⟩:=b2o hf;simp only [f8N hk];exact (a3b (a4p (h _ (f8Q hk)) h1).2.2.1).2.1
theorem e4M{n:j6}(h:NI n):NI (U6 n).1/\∀t∈(U6 n).2,T6 t=true:=by
 rcases a9F n with q|⟨k,hb,hk,q⟩<;>rw [q]
 ·exact ⟨h,by simp⟩
 ·refine ⟨h.freeN,fun t ht => ?_⟩;obtain ⟨hkl,h1,h2⟩:=b2o hk;have ht:=f8V.1 ht;subst ht;have hw:n.b8.a5=⟨n.Id,n.Seq⟩/\z4 n.b8=true/\n.b8.i7=false:=by
   rcases h.wt with q|q
   ·exact ⟨q.2.2.2.2,q.2.2.1,q.2.2.2.1⟩
   ·rw [hb] at q;cases q.1
  obtain ⟨w1,w2,_⟩:=a4p hw.2.1 hw.2.2;have hc:=e7f (s:=(p6 (n.a6.take k)).1) h1;rw [<-c2L h.list hkl] at hc;have hv:=e5T h.ks n.b8.a5;unfold T6;simp only [f8R,I0,beq_iff_eq];refine ⟨h.id,⟨w1,w2⟩,by rw [hw.1],hc,?_⟩;cases L0 n.a6 k==0
  ·exact ⟨by simp,by simp⟩
  ·exact hv
structure a7h(n:j6)(x:j6×List l8×List n6):Prop where
 ni:NI x.1
 id:x.1.Id=n.Id
 ms:∀m∈x.2.1,MI m
 ts:∀t∈x.2.2,T6 t=true
theorem T8.three{n:j6}{x:j6×List l8}(h:T8 n x):a7h n (x.1,x.2,[]):=⟨h.ni,h.id,h.ms,by simp⟩
theorem a7h.same{n:j6}(h:NI n):a7h n (n,[],[]):=⟨h,rfl,by simp,by simp⟩
theorem c9V{n:j6}(h:NI n){e:m4}(he:z4 e=true)(hl:n.a6.length<40):a7h n (X3 n e):=by
 have h1:=h.know he hl;obtain ⟨h2,h3⟩:=e4M h1;have h4:=a9E h2;exact ⟨h4.ni,h4.id.trans ((c9N _).trans (b87 _ _)),h4.ms,h3⟩
theorem f2y{a:z0}{b:Int}(h:I2 a b=none)(hb:1<=b/\b<=3000):b<a.i0:=by
 by_cases q:a.i0<=b
 ·rw [b86 hb.1 hb.2 q] at h;cases h
 ·omega
theorem d2S{n:j6}(h:NI n){m:l8}(hm:MI m)(hk:m.a9=1):T8 n (a2b n m):=by
 have hb:1<=m.a8/\m.a8<=3000:=by
  rcases hm.kd with q|q|q|q|q|q|q
  ·exact q.2.1
  all_goals exact absurd q.1 (by omega)
 have hs:=hm.sl;unfold a2b;cases hp:I2 n.Acc m.a8 with
 | none=>
  have:=f2y hp hb;refine ⟨h,rfl,fun x hx => ?_⟩;rw [f8V.1 hx];exact b1s hm (.refuse (by have:=h.pr;omega)) (by simp)
 | some a=>
  have hn:=(h.promise hp).yield m.a8;obtain ⟨rfl,_⟩:=a3L hp;refine ⟨hn,?_,fun x hx => ?_⟩
  ·simp only [O0];cases n.d6 != 0&&decide (m.a8>n.a8)<;>rfl
  ·rw [f8V.1 hx];have hvl:=h.vl;refine b1s hm (.inr (.inl ⟨rfl,hb,rfl,⟨by simp;omega,fun v hv=>(h.vs v (f9S hv)).1⟩,by simp;omega⟩)) hs
theorem a6c(n:j6)(b:Int):(O0 n b).Id=n.Id:=by
 unfold O0;cases n.d6 != 0&&decide (b>n.a8)<;>rfl
theorem f3f{a:z0}{b:Int}{k:Nat}{e:m4}(h:L1 a b (k:Int) e=none)(hk:k<40)(he:z4 e=true)(hb:1<=b/\b<=3000):b<a.i0:=by
 by_cases q:a.i0<=b
 ·rw [e3N hk he hb.1 hb.2 q] at h;cases h
 ·omega
theorem d2L{n:j6}(h:NI n){m:l8}(hm:MI m)(hk:m.a9=3):T8 n (a2g n m):=by
 have hb:(1<=m.a8/\m.a8<=3000)/\m.g8<40/\z4 m.g9=true:=by
  rcases hm.kd with q|q|q|q|q|q|q
  ·omega
  ·omega
  ·exact ⟨q.2.1,q.2.2.1,q.2.2.2.1⟩
  all_goals exact absurd q.1 (by omega)
 have hs:=hm.sl;obtain ⟨k,hsk⟩:∃k:Nat,m.g8=(k:Int):=⟨m.g8.toNat,by omega⟩
 unfold a2g;cases hp:L1 n.Acc m.a8 m.g8 m.g9 with
 | none=>
  rw [hsk] at hp;have:=f3f hp (by omega) hb.2.2 hb.1;refine ⟨h,rfl,fun x hx => ?_⟩;rw [f8V.1 hx];exact b1s hm (.refuse (by have:=h.pr;omega)) (by simp)
 | some a=>
  refine ⟨(h.cast hp).yield m.a8,a6c _ _,fun x hx => ?_⟩;rw [f8V.1 hx];exact b1s hm (.one (.inr rfl) hb.1) hs
theorem c65{n:j6}(h:NI n){m:l8}(hm:MI m)(hk:m.a9=2):T8 n (a1P n m):=by
 have hkd:(m.a7.length<=40/\∀v∈m.a7,VI v)/\m.g8+m.a7.length<=40:=by
  rcases hm.kd with q|q|q|q|q|q|q
  ·omega
  ·exact ⟨q.2.2.2.1,q.2.2.2.2⟩
  all_goals exact absurd q.1 (by omega)
 have hs:=hm.sl;have hf:=hm.fr;unfold a1P;cases hc:n.d6 != 1||m.a8 != n.a8
 ·simp only [g0c,bne_eq_false_iff_eq] at hc;simp only [g1e];have hl:Own n/\n.c9.length=3/\n.c9[n.Id.toNat]?=some true/\n.c8=zE/\n.a7=[]:=by
   rcases h.ld with q|q|q|q
   ·omega
   ·exact q.2
   all_goals exact absurd q.1 (by omega)
  have hbl:=a8h n.i4 (f8O m.g8.toNat v0++m.a7);have hob:=hl.1.bl;have hlen:(f8O m.g8.toNat v0++m.a7).length<=40:=by simp;omega
  have hbs:∀v∈E0 n.i4 (f8O m.g8.toNat v0++m.a7),VI v:=fun v hv=>(a9M hv).elim (fun q=>hl.1.bs v q) (fun q=>(f8P.1 q).elim (fun q=>by rw [(f9J.1 q).2];exact .inl rfl) (hkd.1.2 v))
  cases N8 (n.c9.set m.c9.toNat true)
  ·simp only [g1e];refine ⟨⟨h.id,h.pr,h.vl,h.vs,h.kl,h.ks,h.sq,h.ql,h.qs,.inr (.inl ⟨hc.1,⟨hl.1.b1,hl.1.b2,hl.1.mod,hl.1.pr,by show (E0 _ _).length<=40;omega,hbs⟩,by simp [hl.2.1],?_,hl.2.2.2.1,hl.2.2.2.2⟩),h.wt⟩,rfl,by simp⟩;show (n.c9.set m.c9.toNat true)[n.Id.toNat]?=some true
   by_cases q:m.c9.toNat=n.Id.toNat
   ·rw [q,g0e (by have:=h.id;omega)]
   ·rw [f9k q];exact hl.2.2.1
  ·simp only [g1d];refine T8.to (n:=n) (n':={n with c9:=[],i4:=E0 n.i4 (f8O m.g8.toNat v0++m.a7),d6:=2}) rfl (a9E ?_);exact ⟨h.id,h.pr,h.vl,h.vs,h.kl,h.ks,h.sq,h.ql,h.qs,.inr (.inr (.inl ⟨rfl,⟨hl.1.b1,hl.1.b2,hl.1.mod,hl.1.pr,by show (E0 _ _).length<=40;omega,hbs⟩,rfl,hl.2.2.2.1,hl.2.2.2.2⟩)),h.wt⟩
 ·exact .same h
theorem d8i{n:j6}(h:NI n){m:l8}(hm:MI m):a7h n (a2Q n m):=by
 have hf:=hm.fr;unfold a2Q;cases hc:n.d6 != 3||(m.a8 != n.a8||m.g8 != (n.a6.length:Int))
 ·simp only [g0c,bne_eq_false_iff_eq] at hc;simp only [g1e];have hl:Own n/\n.c9=[]/\z4 n.c8=true/\n.a7.length=3/\n.a7[n.Id.toNat]?=some true/\n.a6.length<40:=by
   rcases h.ld with q|q|q|q
   ·omega
   ·omega
   ·omega
   ·exact q.2
  have hn:NI {n with a7:=n.a7.set m.c9.toNat true}:=by
   refine ⟨h.id,h.pr,h.vl,h.vs,h.kl,h.ks,h.sq,h.ql,h.qs,.inr (.inr (.inr ⟨hc.1,⟨hl.1.b1,hl.1.b2,hl.1.mod,hl.1.pr,hl.1.bl,hl.1.bs⟩,hl.2.1,hl.2.2.1,by simp [hl.2.2.2.1],?_,hl.2.2.2.2.2⟩)),h.wt⟩;show (n.a7.set m.c9.toNat true)[n.Id.toNat]?=some true
   by_cases q:m.c9.toNat=n.Id.toNat
   ·rw [q,g0e (by have:=h.id;omega)]
   ·rw [f9k q];exact hl.2.2.2.2.1
  cases N8 (n.a7.set m.c9.toNat true)
  ·exact ⟨hn,rfl,by simp,by simp⟩
  ·simp only [g1d];have hr:=c9V hn hl.2.2.1 hl.2.2.2.2.2;refine ⟨hr.ni,hr.id,fun x hx => ?_,hr.ts⟩;rcases f8P.1 hx with q|q
   ·exact a65 h.id (.chosen (by omega) hl.2.2.1) (by simp only;omega) x q
   ·exact hr.ms x q
 ·exact .same h
theorem d62{n:j6}(h:NI n){m:l8}(hm:MI m)(hk:m.a9=5):a7h n (a2r n m):=by
 have hkd:m.g8<40/\z4 m.g9=true:=by
  rcases hm.kd with q|q|q|q|q|q|q
  ·omega
  ·omega
  ·omega
  ·exact ⟨q.2.2.1,q.2.2.2.1⟩
  all_goals exact absurd q.1 (by omega)
 have hkl:=h.kl;unfold a2r;cases h1:decide (m.g8<(n.a6.length:Int))
 ·cases h2:decide (m.g8>(n.a6.length:Int))
  ·simp only [decide_eq_false_iff_not] at h1 h2;exact c9V h hkd.2 (by omega)
  ·refine ⟨h,rfl,fun x hx => ?_,by simp⟩;rw [f8V.1 hx];exact b1s hm .need (by simp only;omega)
 ·exact .same h
theorem f0u{n:j6}(h:NI n){m:l8}(hm:MI m)(hk:m.a9=7):T8 n (a12 n m):=by
 have hkd:z4 m.g9=true/\m.g9.i7=false:=by
  rcases hm.kd with q|q|q|q|q|q|q
  ·omega
  ·omega
  ·omega
  ·omega
  ·omega
  ·exact ⟨q.2.2.2.1,q.2.2.2.2.1⟩
  ·omega
 unfold a12;cases hc:n.d6==0||(decide (4<=n.f0.length)||N9 n.a6 m.g9.a5)
 ·simp only [g1e];simp only [g0c,decide_eq_false_iff_not] at hc;refine T8.to (n:=n) (n':={n with f0:=n.f0++[m.g9]}) rfl (a9E (h.queue (by simp;omega) ?_));intro e he;rcases f8P.1 he with q|q
  ·exact h.qs e q
  ·rw [f8V.1 q];exact hkd
 ·exact .same h
theorem d8K{n:j6}(h:NI n){m:l8}(hm:MI m):∀x∈a4u n m,MI x:=by
 intro x hx;unfold a4u at hx;obtain ⟨l,hl,hx⟩:=f9Q.1 hx;obtain ⟨j,hj,rfl⟩:=f9w.1 hl;have hkl:=h.kl;unfold a1q at hx;cases hg:n.a6[m.g8.toNat+j]? with
 | none=>rw [hg] at hx;cases hx
 | some e=>
  rw [hg] at hx;have hlt:=(f8U.1 hg).1;rw [f8V.1 hx];exact b1s hm (.chosen (by omega) (h.ks e (f9c hg))) (by simp only;omega)
theorem b4O{n:j6}(h:NI n){m:l8}(hm:MI m):a7h n (X2 n m):=by
 unfold X2;by_cases k1:m.a9=1
 ·rw [show (m.a9==1)=true by simpa using k1];exact (d2S h hm k1).three
 rw [show (m.a9==1)=false by simpa using k1];by_cases k2:m.a9=2
 ·rw [show (m.a9==2)=true by simpa using k2];exact (c65 h hm k2).three
 rw [show (m.a9==2)=false by simpa using k2];by_cases k3:m.a9=3
 ·rw [show (m.a9==3)=true by simpa using k3];exact (d2L h hm k3).three
 rw [show (m.a9==3)=false by simpa using k3];by_cases k4:m.a9=4
 ·rw [show (m.a9==4)=true by simpa using k4];exact d8i h hm
 rw [show (m.a9==4)=false by simpa using k4];by_cases k5:m.a9=5
 ·rw [show (m.a9==5)=true by simpa using k5];exact d62 h hm k5
 rw [show (m.a9==5)=false by simpa using k5];by_cases k6:m.a9=6
 ·rw [show (m.a9==6)=true by simpa using k6];simp only [g1d,g1e];cases hp:I2 n.Acc m.a8 with
  | none=>exact ⟨h.yield _,a6c _ _,by simp,by simp⟩
  | some a=>exact ⟨(h.promise hp).yield _,a6c _ _,by simp,by simp⟩
 rw [show (m.a9==6)=false by simpa using k6];by_cases k7:m.a9=7
 ·rw [show (m.a9==7)=true by simpa using k7];exact (f0u h hm k7).three
 rw [show (m.a9==7)=false by simpa using k7];cases m.a9==8
 ·exact .same h
 ·exact ⟨h,rfl,d8K h hm,by simp⟩
structure f0n(n x:j6):Prop where
 id:x.Id=n.Id
 known:x.a6=n.a6
 seq:x.Seq=n.Seq
 busy:x.i9=n.i9
 prog:x.i6=n.i6
 want:x.b8=n.b8
theorem b73(n:j6):f0n n (N1 n).1:=by
 unfold N1;cases n.d6 != 2||decide (40<=n.a6.length)
 ·simp only [g1e];obtain ⟨q,hq,_⟩:=b08 n;cases hx:a0F n with
  | mk x o=>
  rw [hx] at hq;have hq:x={n with f0:=q}:=hq;subst hq;cases o with
  | none=>exact ⟨rfl,rfl,rfl,rfl,rfl,rfl⟩
  | some e=>
   simp only [a54];cases L1 n.Acc n.a8 (n.a6.length:Int) e<;>exact ⟨rfl,rfl,rfl,rfl,rfl,rfl⟩
 ·exact ⟨rfl,rfl,rfl,rfl,rfl,rfl⟩
def a2q(n:j6):List m9:=(p6 n.a6).1.g7
theorem b66{n:j6}(h:NI n):C8 (a2q n)=true:=by
 obtain ⟨a,b⟩:=W8 h.list;have:=(P6 a b n.a6.length (f9f _)).1.boxes;rwa [f9e] at this
theorem e28{n:j6}(h:NI n):b90 n=some (p6 n.a6).1:=by
 unfold b90;rw [a9T h.ok,f8M,a1k.2 h];simp only [f8T,g1e];rw [d5D (okEntries.f h.ok.2.2.1) h.list];rfl
theorem e1r{l:List m9}{p:List n8}(h:(B5 l p).Code≠3):E4 p=true:=by
 unfold B5 at h;cases hp:E4 p
 ·rw [hp,Bool.and_false] at h;exact absurd rfl h
 ·rfl
def Q1(n:j6)(prog:List n8):j6:={n with Seq:=n.Seq+1,i9:=true,i6:=prog,b8:=⟨false,⟨n.Id,n.Seq+1⟩,B5 (a2q n) prog⟩}
def L9(n:j6)(prog:List n8):Bool := !(n.i9||(n.Seq==1000||(B5 (a2q n) prog).Code==3))
theorem b6Z{n:j6}{prog:List n8}:L9 n prog=true↔n.i9=false/\n.Seq≠1000/\(B5 (a2q n) prog).Code≠3:=by
 unfold L9;simp
theorem b2w{n:j6}(h:NI n){prog:List n8}(hp:s7 prog)(hc:L9 n prog=true):z4 (Q1 n prog).b8=true/\E4 prog=true:=by
 obtain ⟨h1,h2,h3⟩:=b6Z.1 hc;have hr:=(b8f (b66 h) hp).ok;have hs:=h.sq;have hid:=h.id;refine ⟨?_,e1r h3⟩;unfold z4 Q1;simp only [g1e,f8R,I0,hr,true_and,bne_iff_ne,ne_eq];exact ⟨⟨hid,by omega⟩,h3⟩
theorem NI.asked{n:j6}(h:NI n){prog:List n8}(hp:s7 prog)(hc:L9 n prog=true):NI (Q1 n prog):=by
 obtain ⟨h1,h2,h3⟩:=b6Z.1 hc;obtain ⟨h4,h5⟩:=b2w h hp hc;have hs:=h.sq;exact ⟨h.id,h.pr,h.vl,h.vs,h.kl,h.ks,by show 0<=n.Seq+1/\n.Seq+1<=1000;omega,h.ql,h.qs,h.ld,.inl ⟨rfl,h5,h4,rfl,rfl⟩⟩
theorem a2u(n:j6)(prog:List n8):L3 n prog=bif L9 n prog then (bif n.d6==2 then N1 (Q1 n prog) else (Q1 n prog,bif n.d6==0 then J1 n.Id ⟨7,0,0,0,0,(Q1 n prog).b8,[]⟩ else [])) else (n,[]):=by
 unfold L3 L9 Q1 a2q;cases n.i9||(n.Seq==1000||(B5 (p6 n.a6).1.g7 prog).Code==3)<;>rfl
theorem f0a{n:j6}(h:NI n){prog:List n8}(hp:A2 32 okT prog):b85 n prog=some ((L3 n prog).1,(L3 n prog).2,[]):=by
 have hf:s7 prog:=hp.fits (by decide);have hs:=h.sq;unfold b85;rw [a9T h.ok,f8M,a1k.2 h,b5j h.ok,e28 h,a2u];simp only [f8T,g1e,f8M];rw [show (p6 n.a6).1.g7=a2q n from rfl,d4v (a3c (b66 h)) hf,f8M];cases hb:n.i9
 ·cases hq:n.Seq==1000
  ·cases hc:(B5 (a2q n) prog).Code==3
   ·have hca:L9 n prog=true:=by unfold L9;rw [hb,hq,hc];rfl
    have hn:=h.asked hf hca;rw [hca];simp only [g1d,g1e];rw [v5 (by have:=hp.1;simp;omega),C5 (by omega) (by omega)];cases h2:n.d6==2
    ·cases h0:n.d6==0
     ·rfl
     ·simp only [g1e,g1d];rw [a6V h.id (show a0n ⟨7,0,0,0,0,⟨false,⟨n.Id,n.Seq+1⟩,B5 (a2q n) prog⟩,[]⟩ from a8N (A5 (by omega)) a0A a0A (a27 (b2w h hf hca).1) U2)];rfl
    ·simp only [g1d];rw [show (⟨n.Id,n.Acc,n.a6,n.Seq+1,n.d6,n.a8,n.c9,n.i4,n.c8,n.a7,true,[]++prog,⟨false,⟨n.Id,n.Seq+1⟩,B5 (a2q n) prog⟩,n.f0⟩:j6)=Q1 n prog from rfl,b5h hn.ok hn.id,f8M]
   ·have hca:L9 n prog=false:=by unfold L9;rw [hb,hq,hc];rfl
    rw [hca];rfl
  ·have hca:L9 n prog=false:=by unfold L9;rw [hb,hq];rfl
   rw [hca];rfl
 ·have hca:L9 n prog=false:=by unfold L9;rw [hb];rfl
  rw [hca];rfl
theorem b0G{n:j6}(h:NI n){prog:List n8}(hp:s7 prog):T8 n (L3 n prog):=by
 rw [a2u];cases hc:L9 n prog
 ·exact .same h
 ·have hn:=h.asked hp hc;simp only [g1d];cases n.d6==2
  ·refine ⟨hn,rfl,fun x hx => ?_⟩;simp only [g1e] at hx;cases h0:n.d6==0
   ·rw [h0] at hx;cases hx
   ·rw [h0] at hx;exact a65 h.id (.ask (b2w h hp hc).1 rfl) (by simp) x hx
  ·exact T8.to (n:=n) (n':=Q1 n prog) rfl (a9E hn)
theorem b8M{b who:Int}(hb:0<=b/\b<=3000)(hw:0<=who/\who<=2):M4 b who=-1\/(b<M4 b who/\M4 b who<=b+3/\M4 b who<=3000/\f9p (M4 b who) 3=who):=by
 unfold M4;cases h1:decide (b+1<=3000)&&(f9p (b+1) 3==who)
 ·cases h2:decide (b+2<=3000)&&(f9p (b+2) 3==who)
  ·cases h3:decide (b+3<=3000)&&(f9p (b+3) 3==who)
   ·exact .inl rfl
   ·simp only [f8R,decide_eq_true_eq,beq_iff_eq] at h3;exact .inr ⟨by simp only [g1d,g1e];omega,by simp only [g1d,g1e];omega,h3.1,h3.2⟩
  ·simp only [f8R,decide_eq_true_eq,beq_iff_eq] at h2;exact .inr ⟨by simp only [g1d,g1e];omega,by simp only [g1d,g1e];omega,h2.1,h2.2⟩
 ·simp only [f8R,decide_eq_true_eq,beq_iff_eq] at h1;exact .inr ⟨by simp only [g1d,g1e];omega,by simp only [g1d,g1e];omega,h1.1,h1.2⟩
theorem e6I{n:j6}(h:NI n):b5Q n=some (Y6 n):=by
 unfold b5Q Y6;rw [a9T h.ok,f8M,a1k.2 h,b5j h.ok];simp only [f8T,g1e,f8M];rw [f7D h.pr h.id,f8M];cases hd:decide (M4 n.Acc.i0 n.Id<0)
 ·simp only [decide_eq_false_iff_not] at hd;rcases b8M h.pr h.id with q|⟨q1,q2,q3,q4⟩
  ·omega
  ·have hpr:=h.pr;have hkl:=h.kl;obtain ⟨y,hy⟩:=c6R h.id;simp only [g1e,b1Y,f8M,b7N,b86 (a:=n.Acc) (show 1<=M4 n.Acc.i0 n.Id by omega) q3 (by omega),hy,f5b h.ok.2.1.2];rw [v5 (by omega),v5 trivial,a6V h.id (a8N (A5 (by omega)) (A5 (by omega)) (A5 (by omega)) a1v U2)];rfl
 ·rfl
theorem a92{n:j6}(h:NI n):T8 n (Y6 n):=by
 unfold Y6;cases hd:decide (M4 n.Acc.i0 n.Id<0)
 ·simp only [decide_eq_false_iff_not] at hd;have hpr:=h.pr;have hkl:=h.kl;rcases b8M h.pr h.id with q|⟨q1,q2,q3,q4⟩
  ·omega
  ·obtain ⟨m1,m2⟩:=c3m h.id;refine ⟨⟨h.id,⟨by simp only [g1e];omega,q3⟩,h.vl,fun v hv=>⟨(h.vs v hv).1,f9N (h.vs v hv).2 (Int.le_of_lt q1)⟩,h.kl,h.ks,h.sq,h.ql,h.qs,.inr (.inl ⟨rfl,⟨by simp only [g1e];omega,q3,q4,f9n _,h.vl,fun v hv=>(h.vs v hv).1⟩,m1,m2,rfl,rfl⟩),h.wt⟩,rfl,?_⟩;exact a65 h.id (.one (.inl rfl) ⟨by omega,q3⟩) (by simp only;omega)
 ·exact .same h
theorem c9O{k b s:Int}(hk:0<=k/\k<=8)(hb:0<=b/\b<=3000)(hs:0<=s/\s<=40):a0n ⟨k,0,0,b,s,zE,[]⟩:=a8N (A5 (by omega)) (A5 (by omega)) (A5 (by omega)) a1v U2
theorem e32{n:j6}(h:NI n):b8v n=some ((W5 n).1,(W5 n).2,[]):=by
 have hkl:=h.kl;have hb:=h.ld.bal;have l1:=a07 n.Id ⟨8,0,0,0,(n.a6.length:Int),zE,[]⟩;unfold b8v W5;rw [a9T h.ok,f8M,a1k.2 h,b5j h.ok];simp only [f8T,g1e,f8M];rw [a6V h.id (c9O (by omega) (by omega) (by omega)),f8M];cases h1:n.d6==1
 ·cases h2:n.d6==2
  ·cases h3:n.d6==3
   ·cases hbz:n.i9
    ·rfl
    ·simp only [g1d,g1e];have l2:=a07 n.Id ⟨7,0,0,0,0,n.b8,[]⟩;have hw:F3 n.b8:=h.ok.2.2.2.2.2.2.2.2.2.2.2.1;rw [a6V h.id (a8N (A5 (by omega)) a0A a0A hw U2),f8M,v5 (by omega)];rfl
   ·simp only [g1d,g1e];have l2:=a07 n.Id ⟨3,0,0,n.a8,(n.a6.length:Int),n.c8,[]⟩;rw [a6V h.id (a8N (A5 (by omega)) (A5 (by omega)) (A5 (by omega)) h.ld.from3.2.2 U2),f8M,v5 (by omega)];rfl
  ·simp only [g1d,g1e];have l2:=a7P n;rw [b5h h.ok h.id,f8M,v5 (by omega)];rfl
 ·simp only [g1d,g1e];have l2:=a07 n.Id ⟨1,0,0,n.a8,(n.a6.length:Int),zE,[]⟩;rw [a6V h.id (c9O (by omega) (by omega) (by omega)),f8M,v5 (by omega)];rfl
theorem b07{n:j6}(h:NI n):T8 n (W5 n):=by
 have hkl:=h.kl;have hb:=h.ld.bal;have a1:∀x∈J1 n.Id ⟨8,0,0,0,(n.a6.length:Int),zE,[]⟩,MI x:=a65 h.id .need (by simp only;omega)
 have N8:∀{l:List l8},(∀x∈l,MI x)->∀x∈J1 n.Id ⟨8,0,0,0,(n.a6.length:Int),zE,[]⟩++l,MI x:=by
  intro l hl x hx;rcases f8P.1 hx with q|q
  ·exact a1 x q
  ·exact hl x q
 unfold W5;by_cases h1:n.d6=1
 ·rw [show (n.d6==1)=true by simpa using h1];refine ⟨h,rfl,N8 (a65 h.id (.one (.inl rfl) ?_) (by simp only;omega))⟩;rcases h.ld with q|q|q|q
  ·omega
  ·exact ⟨q.2.1.b1,q.2.1.b2⟩
  all_goals exact absurd q.1 (by omega)
 rw [show (n.d6==1)=false by simpa using h1];by_cases h2:n.d6=2
 ·rw [show (n.d6==2)=true by simpa using h2];have:=a9E h;exact ⟨this.ni,this.id,N8 this.ms⟩
 rw [show (n.d6==2)=false by simpa using h2];by_cases h3:n.d6=3
 ·rw [show (n.d6==3)=true by simpa using h3];rcases h.ld with q|q|q|q
  ·omega
  ·omega
  ·omega
  ·exact ⟨h,rfl,N8 (a65 h.id (.accept ⟨q.2.1.b1,q.2.1.b2⟩ (by omega) q.2.2.2.1) (by simp only;omega))⟩
 rw [show (n.d6==3)=false by simpa using h3];cases hbz:n.i9
 ·exact ⟨h,rfl,a1⟩
 ·rcases h.wt with q|q
  ·exact ⟨h,rfl,N8 (a65 h.id (.ask q.2.2.1 q.2.2.2.1) (by simp))⟩
  ·rw [hbz] at q;cases q.1
theorem f4l{n:j6}(h:NI n):b5R n=some (a1e n):=by
 unfold b5R;rw [a9T h.ok,f8M,a1k.2 h,b5j h.ok];rfl
theorem NI.open{id:Int}(h:0<=id/\id<=2):NI (D1 id):=
 ⟨h,⟨by simp [D1],by simp [D1]⟩,by simp [D1],by simp [D1],by simp [D1],by simp [D1],⟨by simp [D1],by simp [D1]⟩,by simp [D1],by simp [D1],.inl ⟨rfl,rfl,rfl,rfl,rfl,rfl⟩,.inr ⟨rfl,rfl,rfl⟩⟩
theorem NI.fall{n:j6}(h:NI n):NI (a1e n):=
 ⟨h.id,h.pr,h.vl,h.vs,h.kl,h.ks,h.sq,by simp [a1e,D1],by simp [a1e,D1],.inl ⟨rfl,rfl,rfl,rfl,rfl,rfl⟩,.inr ⟨rfl,rfl,rfl⟩⟩
theorem d3c{l:List l8}(hl:s7 l)(ho:∀m∈l,a0n m):∀(d k:Nat) (net:List l8),l.length-k=d->o7 (fun s:(List l8)×Int=>a3m l s.1 s.2) (net,(k:Int))=some (.brk (net++(l.drop k).take (40-net.length)))
 | 0,k,net,hd=>by
  rw [f9q (by omega)];refine (C7 (b:=net) ?_).trans (by simp);show a3m l net (k:Int)=_
  unfold a3m;rw [show decide ((k:Int)<(l.length:Int))=false by simp;omega];rfl
 | d+1,k,net,hd=>by
  have hlt:k<l.length:=by omega
  by_cases hn:net.length<40
  ·have hb:a3m l net (k:Int)=some (.nxt (net++[l[k]],((k+1:Nat):Int))):=by
    unfold a3m;rw [w6 _ k hlt,show decide ((net.length:Int)<40)=true by simp;omega,g1d,g1d,t0 hlt,f8M,c0U (ho _ (f8Q hlt)),f8M,v5 (by omega),E6 hl hlt]
   rw [E8 (body:=fun s:(List l8)×Int=>a3m l s.1 s.2) (s:=(net,(k:Int))) hb,d3c hl ho d (k+1) _ (by omega),f9j hlt];rw [show 40-net.length=(40-(net++[l[k]]).length)+1 by simp;omega,g0P,f9i];rfl
  ·refine (C7 (b:=net) ?_).trans (by rw [show 40-net.length=0 by omega];simp);show a3m l net (k:Int)=_
   unfold a3m;rw [w6 _ k hlt,show decide ((net.length:Int)<40)=false by simp;omega];rfl
theorem a66(w:m5){l:List l8}(hl:s7 l)(ho:∀m∈l,a0n m):a3f w l=some (a0Q w l):=by
 unfold a3f;rw [show o7 (fun s:(List l8)×Int=>a3m l s.1 s.2) (w.d7,0)=_ from d3c hl ho l.length 0 w.d7 rfl];rfl
theorem d7V{l:List n6}(hl:s7 l):∀(d k:Nat) (o:List n6),l.length-k=d->o7 (fun s:(List n6)×Int=>a23 l s.1 s.2) (o,(k:Int))=some (.brk (o++(l.drop k).take (60-o.length)))
 | 0,k,o,hd=>by
  rw [f9q (by omega)];refine (C7 (b:=o) ?_).trans (by simp);show a23 l o (k:Int)=_
  unfold a23;rw [show decide ((k:Int)<(l.length:Int))=false by simp;omega];rfl
 | d+1,k,o,hd=>by
  have hlt:k<l.length:=by omega
  by_cases hn:o.length<60
  ·have hb:a23 l o (k:Int)=some (.nxt (o++[l[k]],((k+1:Nat):Int))):=by
    unfold a23;rw [w6 _ k hlt,show decide ((o.length:Int)<60)=true by simp;omega,g1d,g1d,t0 hlt,f8M,v5 (by omega),E6 hl hlt]
   rw [E8 (body:=fun s:(List n6)×Int=>a23 l s.1 s.2) (s:=(o,(k:Int))) hb,d7V hl d (k+1) _ (by omega),f9j hlt];rw [show 60-o.length=(60-(o++[l[k]]).length)+1 by simp;omega,g0P,f9i];rfl
  ·refine (C7 (b:=o) ?_).trans (by rw [show 60-o.length=0 by omega];simp);show a23 l o (k:Int)=_
   unfold a23;rw [w6 _ k hlt,show decide ((o.length:Int)<60)=false by simp;omega];rfl
theorem a7M(w:m5){l:List n6}(hl:s7 l):a36 w l=some (a83 w l):=by
 unfold a36;rw [show o7 (fun s:(List n6)×Int=>a23 l s.1 s.2) (w.Told,0)=_ from d7V hl l.length 0 w.Told rfl];rfl
theorem a3i(w:m5):a83 w []=w:=by
 unfold a83;simp
theorem c5o(w:m5):a0Q w []=w:=by
 unfold a0Q;simp
theorem e71{w:m5}{k:Nat}(hk:k<w.d7.length)(hl:w.d7.length<=40):b40 w (k:Int)=some (a3d w (k:Int)):=by
 unfold b40 a3d;rw [v5 (by omega),v5 (by simp;omega),C5 (by omega) (by omega),v5 (by omega),v5 (by simp;omega)];simp only [f9M,g0z,g0a,Nat.sub_zero,f9r,f9W,show ((k:Int)+1).toNat=k+1 by omega];rw [f9F (l:=w.d7.drop (k+1)) (by simp)]
theorem a38{w:m5}(h:WI w){i:Nat}(hi:i<3):∃n,w.a0[i]?=some n/\I3 w (i:Int)=n/\n.Id=(i:Int)/\NI n/\i<w.a0.length:=by
 have hl:=h.nl;have hg:=f8N (l:=w.a0) (i:=i) (by omega);obtain ⟨h1,h2⟩:=h.ns i _ hg;refine ⟨_,hg,?_,h1,h2,by omega⟩;unfold I3;rw [f9r,f9d,hg];rfl
theorem WI.put{w:m5}(h:WI w){i:Nat}{n:j6}(hid:n.Id=(i:Int))(hn:NI n):WI (O5 w (i:Int) n):=by
 refine ⟨by simp [O5,h.nl],?_,h.ml,h.ms,h.al,h.aq,h.tl,h.ts⟩;intro j m hm;simp only [O5,f9r] at hm;by_cases q:i=j
 ·subst q;have hlt:=(f8U.1 hm).1;rw [g0n] at hlt;rw [g0e hlt] at hm;injection hm with hm;subst hm;exact ⟨hid,hn⟩
 ·rw [f9k q] at hm;exact h.ns j m hm
theorem WI.send{w:m5}(h:WI w){l:List l8}(hl:∀m∈l,MI m):WI (a0Q w l):=by
 have:=h.ml;refine ⟨h.nl,h.ns,by simp only [a0Q,f9a,f9g];omega,?_,h.al,h.aq,h.tl,h.ts⟩;intro m hm;rcases f8P.1 hm with q|q
 ·exact h.ms m q
 ·exact hl m (f9T q)
theorem WI.tell{w:m5}(h:WI w){l:List n6}(hl:∀t∈l,T6 t=true):WI (a83 w l):=by
 have:=h.tl;refine ⟨h.nl,h.ns,h.ml,h.ms,h.al,h.aq,by simp only [a83,f9a,f9g];omega,?_⟩;intro m hm;rcases f8P.1 hm with q|q
 ·exact h.ts m q
 ·exact hl m (f9T q)
theorem WI.off{w:m5}(h:WI w)(i:Int):WI (a3d w i):=by
 have:=h.ml;refine ⟨h.nl,h.ns,by simp only [a3d,f9a,f9g,g03];omega,?_,h.al,h.aq,h.tl,h.ts⟩;intro m hm;rcases f8P.1 hm with q|q
 ·exact h.ms m (f9T q)
 ·exact h.ms m (f9S q)
theorem b0n{l:List l8}(h:l.length<=100):s7 l:=by unfold s7;omega
theorem c5B(n:j6)(p:List n8):(L3 n p).2.length<=3:=by
 rw [a2u];cases L9 n p
 ·simp
 ·cases n.d6==2
  ·cases n.d6==0
   ·simp
   ·exact a07 _ _
  ·exact a7P _
theorem MI.okl{l:List l8}(h:∀m∈l,MI m):∀m∈l,a0n m:=fun m hm=>(h m hm).ok
theorem c2C(n:j6)(p:List n8):decide ((L3 n p).1.Seq>n.Seq)=L9 n p:=by
 rw [a2u];cases L9 n p
 ·simp
 ·simp only [g1d];cases n.d6==2
  ·simp [Q1];omega
  ·have:=(b73 (Q1 n p)).seq;simp only [g1d,this];simp [Q1];omega
theorem b9s{n:j6}{p:List n8}(h:L9 n p=true):(L3 n p).1.b8=(Q1 n p).b8:=by
 rw [a2u,h];simp only [g1d];cases n.d6==2
 ·rfl
 ·exact (b73 (Q1 n p)).want
def d86(w:m5)(a:x8):m5:={w with d9:=w.d9++[a]}
theorem WI.addAsked{w:m5}(h:WI w){a:x8}(hl:w.d9.length<60)(ha:Z8 a=true):WI (d86 w a):=by
 refine ⟨h.nl,h.ns,h.ml,h.ms,by simp only [d86,f9a,f9Y];omega,?_,h.tl,h.ts⟩;intro x hx;rcases f8P.1 hx with q|q
 ·exact h.aq x q
 ·rw [f8V.1 q];exact ha
theorem e82{w:m5}(h:WI w){i:Nat}(hi:i<3){p:List n8}(hp:A2 32 okT p):b9m w (i:Int) p=some (a3S w (i:Int) p)/\WI (a3S w (i:Int) p):=by
 obtain ⟨n,hg,hn,hid,hni,hlt⟩:=a38 h hi;have hf:s7 p:=hp.fits (by decide);have hr:=b0G hni hf;have hln:=c5B n p;have hms:=MI.okl hr.ms;have hal:=h.al;unfold b9m a3S;rw [hn,show decide ((w.d9.length:Int)>=60)=decide (60<=w.d9.length) by simp;omega,a8G,hg,f8M,f0a hni hp,f8M];cases hd:decide (60<=w.d9.length)
 ·simp only [g1e];simp only [decide_eq_false_iff_not] at hd;rw [c2C];cases hc:L9 n p
  ·simp only [g1e];rw [a66 _ (b0n (by omega)) hms,f8M,a7M _ (by simp [s7]),a3i];exact ⟨rfl,(h.put (hr.id.trans hid) hr.ni).send hr.ms⟩
  ·simp only [g1d];rw [v5 (by have:=hp.1;simp;omega),v5 (by omega),a66 _ (b0n (by omega)) hms,f8M,a7M _ (by simp [s7]),a3i];refine ⟨rfl,WI.send (w:=O5 (d86 w ⟨(L3 n p).1.b8.a5,p⟩) (i:Int) (L3 n p).1) (WI.put (w:=d86 w ⟨(L3 n p).1.b8.a5,p⟩) (h.addAsked (by omega) ?_) (hr.id.trans hid) hr.ni) hr.ms⟩;rw [b9s hc];obtain ⟨w1,w2⟩:=b2w hni hf hc;obtain ⟨c1,c2,c3⟩:=b6Z.1 hc;unfold Z8;have:=hni.id;have:=hni.sq;simp only [f8R,I0,w2,and_true];show (0<=n.Id/\n.Id<=2)/\1<=n.Seq+1/\n.Seq+1<=1000
   omega
 ·exact ⟨rfl,h⟩
theorem b8D{n:j6}(h:NI n)(m:l8):(X2 n m).2.1.length<=60/\(X2 n m).2.2.length<=1:=by
 have hkl:=h.kl;have al:∀n:j6,(U6 n).2.length<=1:=fun n=>by
  rcases a9F n with q|⟨k,_,_,q⟩<;>rw [q]<;>simp
 have ll:∀(n:j6) (e:m4),(X3 n e).2.1.length<=3/\(X3 n e).2.2.length<=1:=fun n e=>⟨a7P _,al _⟩
 have nl:(a4u n m).length<=40:=by
  unfold a4u;have:∀d k:Nat,((f8W d).map fun j=>a1q n m (k+j)).flatten.length<=d:=by
   intro d k;rw [List.length_flatten,g0W];have hs:∀(l:List Nat),((l.map (List.length ∘ fun j=>a1q n m (k+j))).sum)<=l.length:=by
    intro l;induction l with
    | nil=>simp
    | cons x l ih=>
     simp only [f9z,List.sum_cons,f9X,Function.comp];have:(a1q n m (k+x)).length<=1:=by
      unfold a1q;cases n.a6[k+x]?<;>simp
     omega
   have:=hs (f8W d);rwa [List.length_range] at this
  have:=this (n.a6.length-m.g8.toNat) m.g8.toNat;omega
 unfold X2;cases m.a9==1
 ·cases m.a9==2
  ·cases m.a9==3
   ·cases m.a9==4
    ·cases m.a9==5
     ·cases m.a9==6
      ·cases m.a9==7
       ·cases m.a9==8
        ·exact ⟨by simp,by simp⟩
        ·exact ⟨by simp only [g1d,g1e];omega,by simp⟩
       ·refine ⟨?_,by simp⟩;simp only [g1d,g1e,a12];cases n.d6==0||(decide (4<=n.f0.length)||N9 n.a6 m.g9.a5)
        ·exact f9A (a7P _) (by omega)
        ·simp
      ·exact ⟨by simp,by simp⟩
     ·simp only [g1d,g1e,a2r];cases decide (m.g8<(n.a6.length:Int))
      ·cases decide (m.g8>(n.a6.length:Int))
       ·have:=ll n m.g9;exact ⟨by simp only [g1e];omega,by simp only [g1e];omega⟩
       ·exact ⟨by simp,by simp⟩
      ·exact ⟨by simp,by simp⟩
    ·simp only [g1d,g1e,a2Q];cases n.d6 != 3||(m.a8 != n.a8||m.g8 != (n.a6.length:Int))
     ·cases N8 (n.a7.set m.c9.toNat true)
      ·exact ⟨by simp,by simp⟩
      ·have h1:=ll {n with a7:=n.a7.set m.c9.toNat true} n.c8;have h2:=a07 n.Id ⟨5,0,0,0,(n.a6.length:Int),n.c8,[]⟩;exact ⟨by simp only [g1d,g1e,f9a];omega,by simp only [g1d,g1e];omega⟩
     ·exact ⟨by simp,by simp⟩
   ·refine ⟨?_,by simp⟩;simp only [g1d,g1e,a2g];cases L1 n.Acc m.a8 m.g8 m.g9<;>simp
  ·refine ⟨?_,by simp⟩;simp only [g1d,g1e,a1P];cases n.d6 != 1||m.a8 != n.a8
   ·cases N8 (n.c9.set m.c9.toNat true)
    ·simp
    ·exact f9A (a7P _) (by omega)
   ·simp
 ·refine ⟨?_,by simp⟩;simp only [g1d,a2b];cases I2 n.Acc m.a8<;>simp
theorem e2P{w:m5}(h:WI w)(e:s5):b0w w e=some (a1a w e)/\WI (a1a w e):=by
 have hml:=h.ml;unfold b0w a1a;by_cases h0:e.A<0
 ·rw [show decide (e.A<0)=true by simpa using h0,show decide (0<=e.A)=false by simp;omega];exact ⟨rfl,h⟩
 ·obtain ⟨k,hk⟩:∃k:Nat,e.A=(k:Int):=⟨e.A.toNat,by omega⟩
  rw [hk,show decide ((k:Int)<0)=false by simp,show decide (0<=(k:Int))=true by simp,f9r];simp only [g1d,g1e];by_cases hl:k<w.d7.length
  ·rw [show decide ((k:Int)>=(w.d7.length:Int))=false by simp;omega,t0 hl,f8N hl];have hm:=h.ms _ (f8Q hl);generalize w.d7[k]=m at hm;simp only [g1e,f8M,c0U hm.ok];cases e.a9==4
   ·simp only [g1e];rw [e71 hl hml];cases e.a9==3
    ·simp only [g1e,f8M];have ho:=h.off (k:Int);have ht:=hm.to;obtain ⟨t,htt⟩:∃t:Nat,m.To=(t:Int):=⟨m.To.toNat,by omega⟩
     obtain ⟨n,hg,hn,hid,hni,hlt⟩:=a38 ho (i:=t) (by omega);have hn':I3 w (t:Int)=n:=hn;have hr:=b4O hni hm;obtain ⟨l1,l2⟩:=b8D hni m;rw [htt,a8G,hg,f8M,f2O hni hm,f8M,hn'];rw [a66 _ (b0n (by omega)) (MI.okl hr.ms),f8M,a7M _ (by unfold s7;omega)];exact ⟨rfl,((ho.put (hr.id.trans hid) hr.ni).send hr.ms).tell hr.ts⟩
    ·exact ⟨rfl,h.off _⟩
   ·simp only [g1d];have hs:∀x∈[m],MI x:=fun x hx=>by rw [f8V.1 hx];exact hm
    rw [a66 _ (b0n (by simp)) (MI.okl hs)];exact ⟨rfl,h.send hs⟩
  ·rw [show decide ((k:Int)>=(w.d7.length:Int))=true by simp;omega,f9m (by omega)];exact ⟨rfl,h⟩
def N4(e:s5):Prop:=A2 32 okT e.i6
theorem c1Q(n:j6):(W5 n).2.length<=6:=by
 have l0:=a07 n.Id ⟨8,0,0,0,(n.a6.length:Int),zE,[]⟩;unfold W5;cases n.d6==1
 ·cases n.d6==2
  ·cases n.d6==3
   ·cases n.i9
    ·simp only [g1e];omega
    ·have:=a07 n.Id ⟨7,0,0,0,0,n.b8,[]⟩;simp only [g1d,g1e,f9a];omega
   ·have:=a07 n.Id ⟨3,0,0,n.a8,(n.a6.length:Int),n.c8,[]⟩;simp only [g1d,g1e,f9a];omega
  ·have:=a7P n;simp only [g1d,g1e,f9a];omega
 ·have:=a07 n.Id ⟨1,0,0,n.a8,(n.a6.length:Int),zE,[]⟩;simp only [g1d,f9a];omega
theorem b5G(n:j6):(Y6 n).2.length<=3:=by
 unfold Y6;cases decide (M4 n.Acc.i0 n.Id<0)
 ·exact a07 _ _
 ·simp
theorem c4y{w:m5}{i:Nat}{n:j6}(h:w.a0[i]?=some n):O5 w (i:Int) n=w:=by
 unfold O5;rw [f9r];obtain ⟨hi,rfl⟩:=f8U.1 h;rw [g0Y]
theorem e8K{w:m5}(h:WI w){i:Nat}(hi:i<3){p:List n8}(hp:A2 32 okT p):WI (a3S w (i:Int) p):=by
 obtain ⟨n,hg,hn,hid,hni,hlt⟩:=a38 h hi;have hf:s7 p:=hp.fits (by decide);have hr:=b0G hni hf;unfold a3S;rw [hn];cases hd:decide (60<=w.d9.length)
 ·simp only [g1e];simp only [decide_eq_false_iff_not] at hd;rw [c2C];cases hc:L9 n p
  ·simp only [g1e];exact (h.put (hr.id.trans hid) hr.ni).send hr.ms
  ·simp only [g1d];refine WI.send (w:=O5 (d86 w ⟨(L3 n p).1.b8.a5,p⟩) (i:Int) (L3 n p).1) (WI.put (w:=d86 w ⟨(L3 n p).1.b8.a5,p⟩) (h.addAsked (by omega) ?_) (hr.id.trans hid) hr.ni) hr.ms;rw [b9s hc];obtain ⟨w1,w2⟩:=b2w hni hf hc;obtain ⟨c1,c2,c3⟩:=b6Z.1 hc;unfold Z8;have:=hni.id;have:=hni.sq;simp only [f8R,I0,w2,and_true];show (0<=n.Id/\n.Id<=2)/\1<=n.Seq+1/\n.Seq+1<=1000
   omega
 ·exact h
theorem e9Y{w:m5}(h:WI w)(e:s5):WI (a1a w e):=by
 unfold a1a;by_cases h0:e.A<0
 ·rw [show decide (0<=e.A)=false by simp;omega];exact h
 ·obtain ⟨k,hk⟩:∃k:Nat,e.A=(k:Int):=⟨e.A.toNat,by omega⟩
  rw [hk,show decide (0<=(k:Int))=true by simp,f9r];simp only [g1d];by_cases hl:k<w.d7.length
  ·rw [f8N hl];have hm:=h.ms _ (f8Q hl);generalize w.d7[k]=m at hm;simp only;cases e.a9==4
   ·simp only [g1e];cases e.a9==3
    ·simp only [g1e];have ho:=h.off (k:Int);have ht:=hm.to;obtain ⟨t,htt⟩:∃t:Nat,m.To=(t:Int):=⟨m.To.toNat,by omega⟩
     obtain ⟨n,hg,hn,hid,hni,hlt⟩:=a38 ho (i:=t) (by omega);have hn':I3 w (t:Int)=n:=hn;have hr:=b4O hni hm;rw [htt,hn'];exact ((ho.put (hr.id.trans hid) hr.ni).send hr.ms).tell hr.ts
    ·exact h.off _
   ·simp only [g1d];have hs:∀x∈[m],MI x:=fun x hx=>by rw [f8V.1 hx];exact hm
    exact h.send hs
  ·rw [f9m (by omega)];exact h
theorem c1l{w:m5}(h:WI w){e:s5}(he:A2 32 okT e.i6):WI (E5 w e):=by
 have n2:=e9Y h e;unfold E5;cases e.a9==2||(e.a9==3||e.a9==4)
 ·simp only [g1e];cases hA:p9 e.A 0 2
  ·exact h
  rw [I0] at hA;obtain ⟨i,hi⟩:∃i:Nat,e.A=(i:Int):=⟨e.A.toNat,by omega⟩
  obtain ⟨n,hg,hn,hid,hni,hlt⟩:=a38 h (i:=i) (by omega);rw [hi,hn];simp only [f8T,g1e];cases e.a9==1
  ·cases e.a9==5
   ·cases e.a9==6
    ·cases e.a9==7
     ·exact h
     ·exact h.put hid hni.fall
    ·have hr:=b07 hni;exact (h.put (hr.id.trans hid) hr.ni).send hr.ms
   ·have hr:=a92 hni;exact (h.put (hr.id.trans hid) hr.ni).send hr.ms
  ·exact e8K h (by omega) he
 ·exact n2
theorem d0G{w:m5}(h:WI w){e:s5}(he:N4 e):b2l w e=some (E5 w e)/\WI (E5 w e):=by
 obtain ⟨n1,n2⟩:=e2P h e;unfold b2l E5;rw [n1];cases e.a9==2
 ·cases e.a9==3
  ·cases e.a9==4
   ·simp only [g1e,Bool.or_self];by_cases h0:e.A<0
    ·rw [show decide (e.A<0)=true by simpa using h0,show p9 e.A 0 2=false by unfold p9;simp;omega];exact ⟨rfl,h⟩
    ·by_cases h3:e.A>=3
     ·rw [show decide (e.A<0)=false by simpa using h0,show decide (e.A>=3)=true by simpa using h3,show p9 e.A 0 2=false by unfold p9;simp;omega];exact ⟨rfl,h⟩
     ·obtain ⟨i,hi⟩:∃i:Nat,e.A=(i:Int):=⟨e.A.toNat,by omega⟩
      rw [show decide (e.A<0)=false by simpa using h0,show decide (e.A>=3)=false by simpa using h3,show p9 e.A 0 2=true by unfold p9;simp;omega,hi];simp only [g1e,f8T];obtain ⟨n,hg,hn,hid,hni,hlt⟩:=a38 h (i:=i) (by omega);rw [a8G,hg,f8M,hn];cases e.a9==1
      ·simp only [g1e];cases e.a9==5
       ·simp only [g1e];cases e.a9==6
        ·simp only [g1e];cases e.a9==7
         ·simp only [g1e];rw [a66 _ (by simp [s7]) (by simp),f8M,a7M _ (by simp [s7]),a3i,c5o];exact ⟨congrArg some (c4y hg),h⟩
         ·simp only [g1d];rw [f4l hni,f8M,a66 _ (by simp [s7]) (by simp),f8M,a7M _ (by simp [s7]),a3i,c5o];exact ⟨rfl,h.put hid hni.fall⟩
        ·simp only [g1d];have hr:=b07 hni;have hl:=c1Q n;rw [e32 hni,f8M,a66 _ (b0n (by omega)) (MI.okl hr.ms),f8M,a7M _ (by simp [s7]),a3i];exact ⟨rfl,(h.put (hr.id.trans hid) hr.ni).send hr.ms⟩
       ·simp only [g1d];have hr:=a92 hni;have hl:=b5G n;rw [e6I hni,f8M,a66 _ (b0n (by omega)) (MI.okl hr.ms),f8M,a7M _ (by simp [s7]),a3i];exact ⟨rfl,(h.put (hr.id.trans hid) hr.ni).send hr.ms⟩
      ·simp only [g1d];obtain ⟨a1,a2⟩:=e82 h (i:=i) (by omega) he;unfold c3A;rw [hi,show (⟨w.a0.set (i:Int).toNat n,w.d7,w.d9,w.Told⟩:m5)=w from c4y hg,a1];exact ⟨rfl,a2⟩
   ·exact ⟨rfl,n2⟩
  ·exact ⟨rfl,n2⟩
 ·exact ⟨rfl,n2⟩
theorem WI.open:WI Q9:=by
 refine ⟨rfl,?_,by simp [Q9],by simp [Q9],by simp [Q9],by simp [Q9],by simp [Q9],by simp [Q9]⟩;intro i n hn;match i,hn with
 | 0,hn=>injection hn with hn;subst hn;exact ⟨rfl,.open (by omega)⟩
 | 1,hn=>injection hn with hn;subst hn;exact ⟨rfl,.open (by omega)⟩
 | 2,hn=>injection hn with hn;subst hn;exact ⟨rfl,.open (by omega)⟩
 | i+3,hn=>simp [Q9] at hn
theorem e7y:c02=some Q9:=by
 have e:∀(ns:List j6) (i:Nat),i<3->ns.length<=3->a4f ns (i:Int)=some (.nxt (ns++[D1 (i:Int)],((i+1:Nat):Int))):=by
  intro ns i hi hn;unfold a4f c4B;rw [show decide ((i:Int)<3)=true by simp;omega,show decide ((i:Int)<0)=false by simp,show decide ((i:Int)>=3)=false by simp;omega];simp only [g1d,g1e,f8M];rw [v5 (by omega),C5 (by omega) (by omega)];rfl
 have h0:=E8 (body:=fun s:(List j6)×Int=>a4f s.1 s.2) (s:=([],((0:Nat):Int))) (e [] 0 (by omega) (by simp));have h1:=E8 (body:=fun s:(List j6)×Int=>a4f s.1 s.2) (s:=([D1 0],((1:Nat):Int))) (e [D1 0] 1 (by omega) (by simp));have h2:=E8 (body:=fun s:(List j6)×Int=>a4f s.1 s.2) (s:=([D1 0,D1 1],((2:Nat):Int))) (e [D1 0,D1 1] 2 (by omega) (by simp));have h3:=C7 (body:=fun s:(List j6)×Int=>a4f s.1 s.2) (s:=([D1 0,D1 1,D1 2],((3:Nat):Int))) (show a4f [D1 0,D1 1,D1 2] 3=_ from rfl);unfold c02;rw [show o7 (fun s:(List j6)×Int=>a4f s.1 s.2) ([],0)=_ from h0.trans (h1.trans (h2.trans h3))];rfl
theorem e8M{w:m5}(h:K5 w):b72 w=some w:=by
 obtain ⟨h1,h2,h3,h4⟩:=h;have b1:=h1.1;have b2:=h2.1;have b3:=h3.1;unfold b72;rw [v5 (b4z h4),a6d (body:=fun s:(List j6)×Int=>b2V w s.1 s.2) w.a0 (h1.fits (by decide)) (fun l=>l) (by
  intro k hk;have hn:((w.a0.take k).length+1)*392<=140737488355328:=f9A (f9u 392 (show (w.a0.take k).length+1<=w.a0.length by rw [f9g];omega)) (f9A b1 (by decide));unfold b2V;rw [w6 _ k hk,t0 hk];simp only [g1d,f8M,b5j (h1.2 _ (f8Q hk)),v5 hn]) (by
  unfold b2V;rw [z8];rfl)]
 simp only [f8M,l9.go];unfold c5P;rw [a6d (body:=fun s:(List l8)×Int=>b3Z w s.1 s.2) w.d7 (h2.fits (by decide)) (fun l=>l) (by
  intro k hk;have hn:((w.d7.take k).length+1)*152<=140737488355328:=f9A (f9u 152 (show (w.d7.take k).length+1<=w.d7.length by rw [f9g];omega)) (f9A b2 (by decide));unfold b3Z;rw [w6 _ k hk,t0 hk];simp only [g1d,f8M,c0U (h2.2 _ (f8Q hk)),v5 hn]) (by
  unfold b3Z;rw [z8];rfl)]
 simp only [f8M,l9.go];unfold c2T;rw [a6d (body:=fun s:(List x8)×Int=>b4Z w s.1 s.2) w.d9 (h3.fits (by decide)) (fun l=>l) (by
  intro k hk;unfold b4Z;have hp:=(h3.2 _ (f8Q hk)).2;have hn:((w.d9.take k).length+1)*40<=140737488355328:=f9A (f9u 40 (show (w.d9.take k).length+1<=w.d9.length by rw [f9g];omega)) (f9A b3 (by decide));rw [w6 _ k hk,t0 hk];simp only [g1d,f8M,v5 (b4z hp),v5 hn,f9M]) (by
  unfold b4Z;rw [z8];rfl)]
 rfl
def noW:m5:=⟨[],[],[],[]⟩
theorem X9{k a:Int}{p:List n8}(h:p.length<=10):N4 ⟨k,a,p⟩:=⟨by show p.length*32<=_;omega,fun _ _=>trivial⟩
theorem e3q(n:Int):∃v,b8N 1 n=some v:=by
 unfold b8N;cases decide ((1:Int)>n)<;>exact ⟨_,rfl⟩
theorem f0f{r:t8}{m:Nat}(h:Rd r m)(hm:m<=1000000)(w:m5):∃e r',b6m r w=some (e,r',w)/\Rd r' (m+210)/\N4 e:=by
 obtain ⟨v,hv⟩:=e3q (w.d7.length:Int);obtain ⟨a,r1,e1,h1,_⟩:=I9 h (by omega) v;obtain ⟨b,r2,e2,h2,_⟩:=I9 h1 (by omega) 24;have ask:∃e r',((G2 r2 3).bind fun p=>(a4N p.2).bind fun q=>some (s5.mk 1 p.1 q.1,q.2,w))=some (e,r',w)/\Rd r' (m+210)/\N4 e:=by
  obtain ⟨c,r3,e3,h3,_⟩:=I9 h2 (by omega) 3;obtain ⟨p,r4,e4,h4,hp⟩:=c3c h3 (by omega);rw [e3,f8M,e4,f8M];exact ⟨_,_,rfl,h4.mono (by omega),X9 hp⟩
 obtain ⟨c3,r3,e3,h3,_⟩:=I9 h2 (by omega) 3;obtain ⟨c4,r4,e4,h4,_⟩:=I9 h2 (by omega) 2;obtain ⟨c5,r5,e5,h5,_⟩:=I9 h4 (by omega) 3;obtain ⟨c6,r6,e6,h6,_⟩:=I9 h3 (by omega) 10;obtain ⟨c7,r7,e7,h7,_⟩:=I9 h6 (by omega) 5;obtain ⟨p,r8,e8,h8,hp⟩:=c3c h3 (by omega);have z:∀(k x:Int) (r:t8) (j:Nat),Rd r j->j<=m+210->∃e r',(some (s5.mk k x [],r,w):Option (s5×t8×m5))=some (e,r',w)/\Rd r' (m+210)/\N4 e:=fun k x r j hr hj=>⟨_,_,rfl,hr.mono hj,X9 (by simp)⟩
 unfold b6m;rw [hv,f8M,e1,f8M,e2,f8M];simp only [e3,e4,e5,e6,e7,e8,f8M];cases b==0
 ·cases b==1
  ·cases b==2
   ·cases b==3
    ·cases b==4
     ·cases b==5
      ·cases b==6
       ·cases b==7
        ·cases b==8
         ·cases b==9
          ·cases b==10
           ·exact z _ _ _ _ h2 (by omega)
           ·cases c3==0
            ·exact z _ _ _ _ h3 (by omega)
            ·exact z _ _ _ _ h7 (by omega)
          ·exact z _ _ _ _ h2 (by omega)
         ·exact z _ _ _ _ h2 (by omega)
        ·cases c4==0
         ·exact z _ _ _ _ h4 (by omega)
         ·exact z _ _ _ _ h5 (by omega)
       ·exact z _ _ _ _ h3 (by omega)
      ·exact z _ _ _ _ h3 (by omega)
     ·exact z _ _ _ _ h3 (by omega)
    ·exact ⟨_,_,rfl,h8.mono (by omega),X9 hp⟩
   ·exact ⟨_,_,rfl,h8.mono (by omega),X9 hp⟩
  ·exact ⟨_,_,rfl,h8.mono (by omega),X9 hp⟩
 ·exact ⟨_,_,rfl,h8.mono (by omega),X9 hp⟩
structure V7(w:m5)(out:List s5)(b:Nat):Prop where
 w:WI w
 e:∀x∈out,N4 x
 l:out.length<=b
theorem c9t{out:List s5}{e:s5}(h:∀x∈out,N4 x)(he:N4 e):∀x∈out++[e],N4 x:=by
 intro x hx;rcases f8P.1 hx with q|q
 ·exact h x q
 ·rw [f8V.1 q];exact he
theorem a2H{w:m5}{out:List s5}{b:Nat}(h:V7 w out b)(hb:b<=1000){e:s5}(he:N4 e):a1i w out e=some (E5 w e,out++[e])/\V7 (E5 w e) (out++[e]) (b+1):=by
 obtain ⟨h1,h2⟩:=d0G h.w he;have hl:=h.l;unfold a1i;rw [h1,f8M,v5 (by omega)];exact ⟨rfl,h2,c9t h.e he,by simp;omega⟩
theorem e2G{r:t8}{m:Nat}(h:Rd r m)(hm:m<=1000){w:m5}(hw:WI w){n:Nat}(hn:n<=90):∃l r',b7x r w (n:Int)=some (l,r')/\(∀e∈l,N4 e)/\l.length<=90/\Rd r' 1000000:=by
 have hloop:=c1M (body:=fun s:t8×(List s5)×(List n6)×(List x8)×(List l8)×(List j6)×Int=>b7Z (n:Int) s.1 s.2.1 s.2.2.1 s.2.2.2.1 s.2.2.2.2.1 s.2.2.2.2.2.1 s.2.2.2.2.2.2)
  (fun k s=>k<=n/\s.2.2.2.2.2.2=((n-k:Nat):Int)/\WI ⟨s.2.2.2.2.2.1,s.2.2.2.2.1,s.2.2.2.1,s.2.2.1⟩/\(∀e∈s.2.1,N4 e)/\s.2.1.length=n-k/\Rd s.1 (m+210*(n-k)))
  (fun x => ∃ (r':t8) (l:List s5),x=.brk (r',l)/\(∀e∈l,N4 e)/\l.length<=90/\Rd r' 1000000) (by
   rintro k ⟨r1,out,told,asked,net,nodes,i⟩ ⟨hk,hi,hw,he,hl,hr⟩
   simp only at hi hw he hl hr;unfold b7Z;rw [hi];cases k with
   | zero=>
    rw [show decide (((n-0:Nat):Int)<(n:Int))=false by simp];exact ⟨_,rfl,_,_,rfl,he,by simp only;omega,hr.mono (by omega)⟩
   | succ k=>
    rw [show decide (((n-(k+1):Nat):Int)<(n:Int))=true by simp;omega];obtain ⟨e,r2,ee,hr2,hee⟩:=f0f hr (by omega) ⟨nodes,net,asked,told⟩;obtain ⟨d1,d2⟩:=d0G hw hee;simp only [g1d,ee,f8M];rw [v5 trivial,v5 trivial,v5 trivial,v5 trivial,v5 (by omega),a6s hw.ok,W0.2 hw,e8M hw.ok];simp only [f8M,g1d,d1,l9.go,c7c];refine ⟨_,rfl,k,by omega,by omega,?_,d2,c9t he hee,by simp;omega,hr2.mono (by omega)⟩;rw [C5 (by omega) (by omega)];simp only;omega) (k:=n) (s:=(r,[],w.Told,w.d9,w.d7,w.a0,0)) ⟨f9f _,by simp,hw,by simp,by simp,by simpa using h⟩
 obtain ⟨x,hx,r',l,rfl,h1,h2⟩:=hloop;unfold b7x;rw [hx];exact ⟨l,r',rfl,h1,h2⟩
theorem f3d{w:m5}(h:0<w.d7.length):E5 w ⟨3,0,[]⟩=a3d w 0:=by
 unfold E5 a1a;simp only [show ((3:Int)==2)=false from rfl,show ((3:Int)==3)=true from rfl,show ((3:Int)==4)=false from rfl,Bool.or_false,f9B,g1d,g1e,show decide ((0:Int)<=0)=true from rfl,Int.toNat_zero];rw [f8N h]
theorem e1A(w:m5)(a:Int)(p:List n8):(E5 w ⟨5,a,p⟩).d7.length<=w.d7.length+3:=by
 unfold E5;simp only [show ((5:Int)==2)=false from rfl,show ((5:Int)==3)=false from rfl,show ((5:Int)==4)=false from rfl,show ((5:Int)==1)=false from rfl,show ((5:Int)==5)=true from rfl,Bool.or_false,g1d,g1e];cases !p9 a 0 2
 ·have:=b5G (I3 w a);simp only [g1e,a0Q,O5,f9a,f9g];omega
 ·simp
theorem d4E{b:Nat}:∀(d:Nat) (w:m5) (out:List s5),w.d7.length=d->V7 w out b->b+d<=1000->∃w' out',o7 (fun s:(List s5)×(List j6)×(List l8)×(List x8)×List n6=>a6I s.1 s.2.1 s.2.2.1 s.2.2.2.1 s.2.2.2.2) (out,w.a0,w.d7,w.d9,w.Told)=some (.brk (out',w'.a0,w'.d7,w'.d9,w'.Told))/\w'.d7=[]/\V7 w' out' (b+d)
 | 0,w,out,hd,h,hb=>by
  refine ⟨w,out,C7 ?_,f9b hd,h⟩;show a6I out w.a0 w.d7 w.d9 w.Told=_
  unfold a6I;rw [show decide ((w.d7.length:Int)>0)=false from decide_eq_false (by omega)];rfl
 | d+1,w,out,hd,h,hb=>by
  obtain ⟨t1,t2⟩:=a2H h (by omega) (e:=⟨3,0,[]⟩) (X9 (by simp));have hs:a6I out w.a0 w.d7 w.d9 w.Told=some (.nxt (out++[⟨3,0,[]⟩],(E5 w ⟨3,0,[]⟩).a0,(E5 w ⟨3,0,[]⟩).d7,(E5 w ⟨3,0,[]⟩).d9,(E5 w ⟨3,0,[]⟩).Told)):=by
   unfold a6I;rw [show decide ((w.d7.length:Int)>0)=true from decide_eq_true (by omega),g1d,show (⟨w.a0,w.d7,w.d9,w.Told⟩:m5)=w from rfl,t1];rfl
  rw [E8 (body:=fun s:(List s5)×(List j6)×(List l8)×(List x8)×List n6=>a6I s.1 s.2.1 s.2.2.1 s.2.2.2.1 s.2.2.2.2) (s:=(out,w.a0,w.d7,w.d9,w.Told)) hs];obtain ⟨w',out',e1,e2,e3⟩:=d4E (b:=b+1) d (E5 w ⟨3,0,[]⟩) _ (by rw [f3d (by omega)];simp [a3d];omega) t2 (by omega);exact ⟨w',out',e1,e2,⟨e3.w,e3.e,by have:=e3.l;omega⟩⟩
theorem d1K{p:Int×t8}{B:Nat}(hB:B<=900):∀(i:Nat) (w:m5) (out:List s5) (b:Nat),V7 w out b->b+w.d7.length+4*i<=B->i<=100->∃w' out',o7 (fun s:(List n6)×(List x8)×(List l8)×(List j6)×(List s5)×Int=>b0g p s.1 s.2.1 s.2.2.1 s.2.2.2.1 s.2.2.2.2.1 s.2.2.2.2.2) (w.Told,w.d9,w.d7,w.a0,out,(i:Int))=some (.brk (out',w'.a0,w'.d7,w'.d9,w'.Told))/\V7 w' out' B
 | 0,w,out,b,h,hb,hi=>by
  refine ⟨w,out,C7 ?_,h.w,h.e,by have:=h.l;omega⟩;rfl
 | i+1,w,out,b,h,hb,hi=>by
  obtain ⟨w1,out1,e1,e2,e3⟩:=d4E (b:=b) w.d7.length w out rfl h (by omega);obtain ⟨t1,t2⟩:=a2H e3 (by omega) (e:=⟨5,p.1,[]⟩) (X9 (by simp));have hs:b0g p w.Told w.d9 w.d7 w.a0 out ((i+1:Nat):Int)=some (.nxt ((E5 w1 ⟨5,p.1,[]⟩).Told,(E5 w1 ⟨5,p.1,[]⟩).d9,(E5 w1 ⟨5,p.1,[]⟩).d7,(E5 w1 ⟨5,p.1,[]⟩).a0,out1++[⟨5,p.1,[]⟩],(i:Int))):=by
   unfold b0g;rw [show decide (((i+1:Nat):Int)>0)=true from decide_eq_true (by omega),g1d,e1];simp only [f8M,l9.go,c42];rw [show (⟨w1.a0,w1.d7,w1.d9,w1.Told⟩:m5)=w1 from rfl,t1,f8M,C5 (by omega) (by omega),show ((i+1:Nat):Int)-1=(i:Int) by omega]
  rw [E8 (body:=fun s:(List n6)×(List x8)×(List l8)×(List j6)×(List s5)×Int=>b0g p s.1 s.2.1 s.2.2.1 s.2.2.2.1 s.2.2.2.2.1 s.2.2.2.2.2) (s:=(w.Told,w.d9,w.d7,w.a0,out,((i+1:Nat):Int))) hs];have hn:=e1A w1 p.1 [];rw [e2] at hn;simp only [g0B,f9W] at hn;exact d1K hB i _ _ _ t2 (by omega) (by omega)
theorem f3P{r:t8}{m:Nat}(h:Rd r m)(hm:m<=1000){w:m5}{out:List s5}(hw:V7 w out 1):∃w' out' r',b8x r w out=some (w',out',r')/\V7 w' out' 130/\Rd r' (m+3):=by
 obtain ⟨a,r1,e1,h1,_⟩:=I9 h (by omega) 3;obtain ⟨v,r2,e2,h2,hv⟩:=b4d h1 (by omega) [3,8,20] (by simp) (by simp);obtain ⟨i,hi,hi20⟩:∃i:Nat,v=(i:Int)/\i<=20:=by
  simp at hv;rcases hv with rfl|rfl|rfl
  ·exact ⟨3,rfl,by omega⟩
  ·exact ⟨8,rfl,by omega⟩
  ·exact ⟨20,rfl,by omega⟩
 have hml:=hw.w.ml;obtain ⟨w',out',e3,e4⟩:=d1K (p:=(a,r1)) (B:=125) (by omega) i w out 1 hw (by omega) (by omega);have e4':V7 w' out' 125:=e4;unfold b8x;rw [e1,f8M,e2,f8M,hi,e3];simp only [f8M,l9.go,c5R];cases decide ((w'.d7.length:Int)>0)
 ·simp only [g1e,f8M,l9.go,b8Z];obtain ⟨t1,t2⟩:=a2H e4' (by omega) (e:=⟨7,a,[]⟩) (X9 (by simp));rw [show (⟨w'.a0,w'.d7,w'.d9,w'.Told⟩:m5)=w' from rfl,t1];exact ⟨_,_,_,rfl,⟨t2.w,t2.e,by have:=t2.l;simp only;omega⟩,h2.mono (by omega)⟩
 ·obtain ⟨c,r3,e5,h5,_⟩:=I9 h2 (by omega) (w'.d7.length:Int);obtain ⟨t1,t2⟩:=a2H e4' (by omega) (e:=⟨2,c,[]⟩) (X9 (by simp));obtain ⟨u1,u2⟩:=a2H t2 (by omega) (e:=⟨7,a,[]⟩) (X9 (by simp));simp only [g1d,e5,f8M];rw [show (⟨w'.a0,w'.d7,w'.d9,w'.Told⟩:m5)=w' from rfl,t1];simp only [f8M,l9.go,b8Z];rw [show (⟨(E5 w' ⟨2,c,[]⟩).a0,(E5 w' ⟨2,c,[]⟩).d7,(E5 w' ⟨2,c,[]⟩).d9,(E5 w' ⟨2,c,[]⟩).Told⟩:m5)=E5 w' ⟨2,c,[]⟩ from rfl,u1];exact ⟨_,_,_,rfl,⟨u2.w,u2.e,by have:=u2.l;simp only;omega⟩,h5.mono (by omega)⟩
theorem e7O{M:Nat}(hM:M<=100000){r:t8}{w:m5}{out:List s5}(h:V7 w out 290)(hr:Rd r (M+10*out.length)):∃w' out' r',o7 (fun s:t8×(List j6)×(List l8)×(List x8)×(List n6)×List s5=>b2I s.1 s.2.1 s.2.2.1 s.2.2.2.1 s.2.2.2.2.1 s.2.2.2.2.2) (r,w.a0,w.d7,w.d9,w.Told,out)=some (.brk (r',w'.a0,w'.d7,w'.d9,w'.Told,out'))/\V7 w' out' (max out.length 201)/\Rd r' (M+10*out'.length+2):=by
 have hloop:=c1M (body:=fun s:t8×(List j6)×(List l8)×(List x8)×(List n6)×List s5=>b2I s.1 s.2.1 s.2.2.1 s.2.2.2.1 s.2.2.2.2.1 s.2.2.2.2.2)
  (fun k s => ∃w:m5,s.2=(w.a0,w.d7,w.d9,w.Told,s.2.2.2.2.2)/\V7 w s.2.2.2.2.2 (max out.length 201)/\k=300-s.2.2.2.2.2.length/\Rd s.1 (M+10*s.2.2.2.2.2.length))
  (fun x => ∃ (w':m5) (out':List s5) (r':t8),x=.brk (r',w'.a0,w'.d7,w'.d9,w'.Told,out')/\V7 w' out' (max out.length 201)/\Rd r' (M+10*out'.length+2)) (by
   rintro k ⟨r1,s⟩ ⟨w1,hs,hf,hk,hr1⟩
   simp only at hs hf hk hr1;obtain ⟨nodes,net,asked,told,o⟩:=s;simp only at hs hf hk hr1;injection hs with e1 e2;injection e2 with e2 e3;injection e3 with e3 e4;injection e4 with e4 e5;subst e1;subst e2;subst e3;subst e4;have hl:=hf.l;have hol:=h.l;unfold b2I;cases decide ((w1.d7.length:Int)>0)
   ·exact ⟨_,rfl,w1,o,r1,rfl,hf,hr1.mono (by omega)⟩
   ·obtain ⟨a,r2,p1,p2,_⟩:=I9 hr1 (by omega) 9;simp only [g1d,p1,f8M];cases decide (a>0)
    ·exact ⟨_,rfl,w1,o,r2,rfl,hf,p2.mono (by omega)⟩
    ·simp only [g1d];by_cases h200:o.length<200
     ·rw [show decide ((o.length:Int)<200)=true from decide_eq_true (by omega)];obtain ⟨b,r3,q1,q2,_⟩:=I9 p2 (by omega) 8;have go:∀(w2:m5) (o2:List s5) (r4:t8) (j:Nat),V7 w2 o2 (max out.length 201)->o2.length<=200->Rd r4 j->j<=M+10*o2.length+4->o.length<=o2.length->∃st,b7B r4 w2.a0 w2.d7 w2.d9 w2.Told o2=some st/\match st with
        | .ret _=>False
        | .brk _=>False
        | .nxt t => ∃k',k'<k/\∃w:m5,t.2=(w.a0,w.d7,w.d9,w.Told,t.2.2.2.2.2)/\V7 w t.2.2.2.2.2 (max out.length 201)/\k'=300-t.2.2.2.2.2.length/\Rd t.1 (M+10*t.2.2.2.2.2.length):=by
       intro w2 o2 r4 j hf2 ho2 hr4 hj hle;obtain ⟨c,r5,x1,x2,_⟩:=I9 hr4 (by omega) (w2.d7.length:Int);obtain ⟨d,r6,y1,y2,_⟩:=b4d x2 (by omega) [0,0,c] (by simp) (by simp);obtain ⟨t1,t2⟩:=a2H (b:=200) ⟨hf2.w,hf2.e,ho2⟩ (by omega) (e:=⟨2,d,[]⟩) (X9 (by simp));unfold b7B;rw [x1,f8M,y1,f8M,show (⟨w2.a0,w2.d7,w2.d9,w2.Told⟩:m5)=w2 from rfl,t1];refine ⟨_,rfl,300-(o2++[(⟨2,d,[]⟩:s5)]).length,by simp;omega,E5 w2 ⟨2,d,[]⟩,rfl,⟨t2.w,t2.e,by simp;omega⟩,rfl,y2.mono (by simp;omega)⟩
      simp only [g1d,q1,f8M];cases b==0
      ·obtain ⟨st,g1,g2⟩:=go w1 o r3 _ hf (by omega) q2 (by omega) (f9f _);refine ⟨st,g1,?_⟩;cases st with
       | ret _=>exact g2.elim
       | brk _=>exact g2.elim
       | nxt t=>exact g2
      ·obtain ⟨c,r4,x1,x2,_⟩:=I9 q2 (by omega) (w1.d7.length:Int);obtain ⟨t1,t2⟩:=a2H (b:=199) ⟨hf.w,hf.e,by omega⟩ (by omega) (e:=⟨4,c,[]⟩) (X9 (by simp));simp only [g1d,x1,f8M];rw [show (⟨w1.a0,w1.d7,w1.d9,w1.Told⟩:m5)=w1 from rfl,t1];simp only [f8M,l9.go];have hl2:(o++[(⟨4,c,[]⟩:s5)]).length=o.length+1:=by simp
       obtain ⟨st,g1,g2⟩:=go (E5 w1 ⟨4,c,[]⟩) (o++[⟨4,c,[]⟩]) r4 _ ⟨t2.w,t2.e,by omega⟩ (by omega) x2 (by omega) (by omega);refine ⟨st,g1,?_⟩;cases st with
       | ret _=>exact g2.elim
       | brk _=>exact g2.elim
       | nxt t=>exact g2
     ·rw [show decide ((o.length:Int)<200)=false from decide_eq_false (by omega)];exact ⟨_,rfl,w1,o,r2,rfl,hf,p2.mono (by omega)⟩) (k:=300-out.length) (s:=(r,w.a0,w.d7,w.d9,w.Told,out)) ⟨w,rfl,⟨h.w,h.e,by simp only;omega⟩,rfl,hr⟩
 obtain ⟨x,hx,w',out',r',rfl,h1,h2⟩:=hloop;exact ⟨w',out',r',hx,h1,h2⟩
theorem d0O:∀(i:Nat) (r:t8) (w:m5) (out:List s5),i<=6->V7 w out (201+3*(6-i))->Rd r (10000-1000*i+10*out.length)->∃r' out',o7 (fun s:t8×(List j6)×(List l8)×(List x8)×(List n6)×(List s5)×Int=>b0T s.1 s.2.1 s.2.2.1 s.2.2.2.1 s.2.2.2.2.1 s.2.2.2.2.2.1 s.2.2.2.2.2.2) (r,w.a0,w.d7,w.d9,w.Told,out,(i:Int))=some (.brk (r',out'))/\(∀e∈out',N4 e)/\out'.length<=300/\Rd r' 1000000
 | 0,r,w,out,hi,h,hr=>⟨r,out,C7 rfl,h.e,by have:=h.l;omega,hr.mono (by have:=h.l;omega)⟩
 | i+1,r,w,out,hi,h,hr=>by
  have hl:=h.l;obtain ⟨a,r1,p1,p2,_⟩:=I9 hr (by omega) 3;obtain ⟨pr,r2,q1,q2,q3⟩:=c3c p2 (by omega);obtain ⟨t1,t2⟩:=a2H h (by omega) (e:=⟨1,a,pr⟩) (X9 q3);have hlen:(out++[(⟨1,a,pr⟩:s5)]).length=out.length+1:=by simp
  obtain ⟨w3,o3,r3,x1,x2,x3⟩:=e7O (M:=10000-1000*(i+1)+201) (by omega) (w:=E5 w ⟨1,a,pr⟩) (out:=out++[⟨1,a,pr⟩]) (r:=r2) ⟨t2.w,t2.e,by omega⟩ (q2.mono (by omega));have x2l:=x2.l;obtain ⟨b,r4,y1,y2,_⟩:=I9 x3 (by omega) 4;have fin:∀(w4:m5) (o4:List s5) (r5:t8) (j:Nat),V7 w4 o4 (201+3*(6-(i+1))+2)->Rd r5 j->j<=10000-1000*(i+1)+300+10*o4.length->∃w5 o5 r6,b7Y ((i+1:Nat):Int) r5 w4.a0 w4.d7 w4.d9 w4.Told o4=some (.nxt (r6,w5.a0,w5.d7,w5.d9,w5.Told,o5,(i:Int)))/\V7 w5 o5 (201+3*(6-i))/\Rd r6 (10000-1000*i+10*o5.length):=by
   intro w4 o4 r5 j hf hr5 hj;have hfl:=hf.l;obtain ⟨c,r6,z1,z2,_⟩:=I9 hr5 (by omega) 3;obtain ⟨u1,u2⟩:=a2H hf (by omega) (e:=⟨6,c,[]⟩) (X9 (by simp));refine ⟨E5 w4 ⟨6,c,[]⟩,o4++[⟨6,c,[]⟩],r6,?_,⟨u2.w,u2.e,by have:=u2.l;omega⟩,z2.mono (by simp;omega)⟩;unfold b7Y;rw [z1,f8M,show (⟨w4.a0,w4.d7,w4.d9,w4.Told⟩:m5)=w4 from rfl,u1,f8M,C5 (by omega) (by omega),show ((i+1:Nat):Int)-1=(i:Int) by omega]
  have hstep:∃w5 o5 r6,b0T r w.a0 w.d7 w.d9 w.Told out ((i+1:Nat):Int)=some (.nxt (r6,w5.a0,w5.d7,w5.d9,w5.Told,o5,(i:Int)))/\V7 w5 o5 (201+3*(6-i))/\Rd r6 (10000-1000*i+10*o5.length):=by
   unfold b0T;rw [show decide (((i+1:Nat):Int)>0)=true from decide_eq_true (by omega),g1d,p1,f8M,q1,f8M,show (⟨w.a0,w.d7,w.d9,w.Told⟩:m5)=w from rfl,t1,f8M,x1];simp only [f8M,l9.go];unfold c2B;rw [y1,f8M];cases b==0
   ·cases b==1
    ·simp only [g1e,f8M,l9.go];exact fin w3 o3 r4 _ ⟨x2.w,x2.e,by omega⟩ y2 (by omega)
    ·obtain ⟨c,r5,z1,z2,_⟩:=I9 y2 (by omega) 3;obtain ⟨u1,u2⟩:=a2H x2 (by omega) (e:=⟨5,c,[]⟩) (X9 (by simp));simp only [g1e,g1d,z1,f8M];rw [show (⟨w3.a0,w3.d7,w3.d9,w3.Told⟩:m5)=w3 from rfl,u1];simp only [f8M,l9.go];exact fin (E5 w3 ⟨5,c,[]⟩) _ r5 _ ⟨u2.w,u2.e,by have:=u2.l;omega⟩ z2 (by simp;omega)
   ·obtain ⟨c,r5,z1,z2,_⟩:=I9 y2 (by omega) 3;obtain ⟨u1,u2⟩:=a2H x2 (by omega) (e:=⟨7,c,[]⟩) (X9 (by simp));simp only [g1d,z1,f8M];rw [show (⟨w3.a0,w3.d7,w3.d9,w3.Told⟩:m5)=w3 from rfl,u1];simp only [f8M,l9.go];exact fin (E5 w3 ⟨7,c,[]⟩) _ r5 _ ⟨u2.w,u2.e,by have:=u2.l;omega⟩ z2 (by simp;omega)
  obtain ⟨w5,o5,r6,s1,s2,s3⟩:=hstep;rw [E8 (body:=fun s:t8×(List j6)×(List l8)×(List x8)×(List n6)×(List s5)×Int=>b0T s.1 s.2.1 s.2.2.1 s.2.2.2.1 s.2.2.2.2.1 s.2.2.2.2.2.1 s.2.2.2.2.2.2) (s:=(r,w.a0,w.d7,w.d9,w.Told,out,((i+1:Nat):Int))) s1];exact d0O i r6 w5 o5 (by omega) s2 s3
theorem f7q{r:t8}{m:Nat}(h:Rd r m)(hm:m<=100):∃l r',b99 r=some (l,r')/\(∀e∈l,N4 e)/\l.length<=300/\Rd r' 1000000:=by
 obtain ⟨a,r1,p1,p2,_⟩:=I9 h (by omega) 3;obtain ⟨t1,t2⟩:=a2H (w:=Q9) (out:=[]) (b:=0) ⟨WI.open,by simp,by simp⟩ (by omega) (e:=⟨5,a,[]⟩) (X9 (by simp));obtain ⟨b,r2,q1,q2,_⟩:=I9 p2 (by omega) 3;unfold b99;rw [e7y,f8M,p1,f8M,t1,f8M,q1,f8M];have tail:∀(w:m5) (out:List s5) (r3:t8) (j:Nat),V7 w out 130->Rd r3 j->j<=200->∃l r',c0p r3 w.a0 w.d7 w.d9 w.Told out=some (l,r')/\(∀e∈l,N4 e)/\l.length<=300/\Rd r' 1000000:=by
  intro w out r3 j hf hr3 hj;obtain ⟨c,r4,x1,x2,x3,x4⟩:=I9 hr3 (by omega) 3;obtain ⟨i,hi,hi6⟩:∃i:Nat,m7 (3+c)=(i:Int)/\i<=6:=⟨(3+c).toNat,by rw [C5 (by omega) (by omega)];omega,by omega⟩
  obtain ⟨r',out',e1,e2,e3⟩:=d0O i r4 w out hi6 ⟨hf.w,hf.e,by have:=hf.l;omega⟩ (x2.mono (by omega));unfold c0p;rw [x1,f8M,hi,e1];exact ⟨out',r',rfl,e2,e3⟩
 have tf:V7 (E5 Q9 ⟨5,a,[]⟩) ([]++[(⟨5,a,[]⟩:s5)]) 1:=t2;cases decide (b>0)
 ·obtain ⟨c,r3,x1,x2,_⟩:=I9 q2 (by omega) 5;simp only [g1e,x1,f8M];cases c==0
  ·exact tail _ _ r3 _ ⟨tf.w,tf.e,by simp⟩ x2 (by omega)
  ·obtain ⟨w',o',r',y1,y2,y3⟩:=f3P x2 (by omega) tf;simp only [g1d];rw [y1];exact tail w' o' r' _ y2 y3 (by omega)
 ·obtain ⟨v,r3,x1,x2,x3⟩:=b4d q2 (by omega) [10,30,60,90] (by simp) (by simp);obtain ⟨n,hn,hn90⟩:∃n:Nat,v=(n:Int)/\n<=90:=by
   simp at x3;rcases x3 with rfl|rfl|rfl|rfl
   ·exact ⟨10,rfl,by omega⟩
   ·exact ⟨30,rfl,by omega⟩
   ·exact ⟨60,rfl,by omega⟩
   ·exact ⟨90,rfl,by omega⟩
  obtain ⟨l,r4,y1,y2,y3,y4⟩:=e2G x2 (by omega) tf.w hn90;simp only [g1d,x1,f8M];rw [hn,y1,f8M,v5 (by simp;omega)];refine ⟨_,_,rfl,?_,by simp;omega,y4⟩;intro e he;rcases f8P.1 he with q|q
  ·exact tf.e e q
  ·exact y2 e q
theorem e0J{code:List Int}(h:∀x∈code,a5g x):∃l,b55 code=some l/\(∀e∈l,N4 e)/\l.length<=300:=by
 obtain ⟨r,h1,h2⟩:=e4P h;obtain ⟨l,r',e1,e2,e3,_⟩:=f7q h2 (by omega);unfold b55;rw [h1,f8M,e1];exact ⟨l,rfl,e2,e3⟩
def a5Z(e:m4)(v:m8):Bool:=decide (v.a8>0)&&J3 v.g9 e
def V6(l:List j6)(s:Nat)(e:m4):Nat:=(l.filter fun n=>a5Z e (C4 n s)).length
theorem d5w{l:List j6}(s:Nat)(e:m4){k:Nat}(hk:k<l.length):V6 (l.take (k+1)) s e=V6 (l.take k) s e+(bif a5Z e (C4 l[k] s) then 1 else 0):=by
 unfold V6;rw [f9s hk,List.filter_append,f9a,List.filter_cons,List.filter_nil];cases a5Z e (C4 l[k] s)<;>rfl
theorem d1p(l:List j6)(s:Nat)(e:m4)(k:Nat):V6 (l.take k) s e<=k:=by
 unfold V6;refine f9A (List.length_filter_le _ _) ?_;rw [f9g];omega
theorem e8X{w:m5}(h:K5 w)(s:Nat)(e:m4):b9I w (s:Int) e=some ((V6 w.a0 s e:Nat):Int):=by
 have hf:s7 w.a0:=h.1.fits (by decide);have hloop:=V0 (body:=fun t:Int×Int=>b1l w (s:Int) e t.1 t.2) (fun k=>(((V6 (w.a0.take k) s e:Nat):Int),(k:Int))) w.a0.length (by
  intro k hk;have hb:=d1p w.a0 s e k;have hle:=hf;unfold s7 at hle;have hn:m7 (((V6 (w.a0.take k) s e:Nat):Int)+1)=((V6 (w.a0.take k) s e+1:Nat):Int):=by rw [C5 (by omega) (by omega)];omega
  simp only;unfold b1l c3R;rw [w6 _ k hk,t0 hk,E6 hf hk];simp only [g1d,f8M,c6D,c0H (c68 (h.1.2 _ (f8Q hk)) s).2,hn,d5w s e hk];unfold a5Z;cases decide ((C4 w.a0[k] s).a8>0)<;>cases J3 (C4 w.a0[k] s).g9 e<;>rfl)
 rw [f9e,show ((0:Nat):Int)=0 from rfl] at hloop;unfold b9I;rw [show o7 (fun t:Int×Int=>b1l w (s:Int) e t.1 t.2) (0,0)=_ from hloop,C7 (b:=((V6 w.a0 s e:Nat):Int))]
 ·rfl
 ·unfold b1l;rw [z8];rfl
theorem e0c{w:m5}(h:K5 w)(hw:WI w)(s:Nat)(e:m4):b61 w (s:Int) e=some ((V6 w.a0 s e:Nat):Int):=by
 have hf:s7 w.a0:=h.1.fits (by decide);have hloop:=V0 (body:=fun t:Int×Int=>b0t w (s:Int) e t.1 t.2) (fun k=>((k:Int),((V6 (w.a0.take k) s e:Nat):Int))) w.a0.length (by
  intro k hk;have hb:=d1p w.a0 s e k;have hle:=hf;unfold s7 at hle;have hn:m7 (((V6 (w.a0.take k) s e:Nat):Int)+1)=((V6 (w.a0.take k) s e+1:Nat):Int):=by rw [C5 (by omega) (by omega)];omega
  have hni:=(hw.ns k w.a0[k] (f8N hk)).2;simp only;unfold b0t c64;rw [w6 _ k hk,t0 hk,E6 hf hk];simp only [g1d,f8M,d5w s e hk];by_cases hs:s<w.a0[k].Acc.a7.length
  ·have hva:C4 w.a0[k] s=w.a0[k].Acc.a7[s]:=by unfold C4;rw [f8N hs];rfl
   have hvi:=(hni.vs _ (f8Q hs)).1;have hpos:(w.a0[k].Acc.a7[s].a8 != 0)=decide (w.a0[k].Acc.a7[s].a8>0):=by
    have h0:0<=w.a0[k].Acc.a7[s].a8:=hvi.bal.1;by_cases hz:w.a0[k].Acc.a7[s].a8=0
    ·rw [hz];rfl
    ·rw [decide_eq_true (show w.a0[k].Acc.a7[s].a8>0 by omega)];simpa using hz
   rw [hva,w6 _ s hs,t0 hs];simp only [g1d,f8M,hpos];unfold a5Z;cases decide (w.a0[k].Acc.a7[s].a8>0)
   ·rfl
   ·simp only [g1d,a6F ((h.1.2 _ (f8Q hk)).2.1.2.2 _ (f8Q hs)).2,f8M,hn];cases J3 w.a0[k].Acc.a7[s].g9 e<;>rfl
  ·have hva:C4 w.a0[k] s=zV:=by unfold C4;rw [f9m (by omega)];rfl
   rw [hva,decide_eq_false (show ¬((s:Int)<(w.a0[k].Acc.a7.length:Int)) by omega)];rfl)
 rw [f9e,show ((0:Nat):Int)=0 from rfl] at hloop;unfold b61;rw [show o7 (fun t:Int×Int=>b0t w (s:Int) e t.1 t.2) (0,0)=_ from hloop,C7 (b:=((V6 w.a0 s e:Nat):Int))]
 ·rfl
 ·unfold b0t;rw [z8];rfl
def b27(w:m5)(n:j6)(k:Nat):Bool:=match n.a6[k]? with
 | some e => !decide (((V6 w.a0 k e:Nat):Int)<2)
 | none=>true
def a2F(w:m5)(n:j6):Bool:=(f8W n.a6.length).all (b27 w n)
theorem c3U{w:m5}{n:j6}{k:Nat}(hk:k<n.a6.length):b27 w n k = !decide (((V6 w.a0 k n.a6[k]:Nat):Int)<2):=by
 unfold b27;rw [f8N hk]
theorem e4T{w:m5}(h:K5 w):b2f w=some (z9 w&&w.a0.all (a2F w)):=by
 have hf:s7 w.a0:=h.1.fits (by decide);have hin:∀(i:Nat) (hi:i<w.a0.length),o7 (fun t:Int=>b3o w (i:Int) t) 0=some (bif a2F w w.a0[i] then .brk () else .ret false):=by
  intro i hi;have hk0:s7 w.a0[i].a6:=(h.1.2 _ (f8Q hi)).2.2.1.fits (by decide);refine W1 w.a0[i].a6 hk0 (b27 w w.a0[i]) false () ?_ ?_
  ·intro k hk _;unfold b3o;rw [t0 hi,f8M,w6 _ k hk,t0 hk,c3U hk];simp only [g1d,f8M,e8X h];cases decide (((V6 w.a0 k w.a0[i].a6[k]:Nat):Int)<2)<;>rfl
  ·unfold b3o;rw [t0 hi,f8M,z8];rfl
 unfold b2f;rw [a6s h,f8M];cases z9 w
 ·rfl
 simp only [f8T,g1e,f8Y];rw [I5 w.a0 hf (a2F w) false ()]
 ·cases w.a0.all (a2F w)<;>rfl
 ·intro k hk;unfold b81 c1V;rw [w6 _ k hk,hin k hk];cases a2F w w.a0[k]<;>rfl
 ·unfold b81;rw [z8];rfl
theorem e0Y{w:m5}(h:K5 w):b1F w=some (z9 w&&w.a0.all (a2F w)):=by
 have hf:s7 w.a0:=h.1.fits (by decide);unfold b1F;rw [a5i h,f8M];cases hwo:z9 w
 ·rfl
 have hw:WI w:=W0.1 hwo;have hin:∀(i:Nat) (hi:i<w.a0.length),o7 (fun t:Int=>b35 w w.a0[i] t) 0=some (bif a2F w w.a0[i] then .brk () else .ret false):=by
  intro i hi;have hk0:s7 w.a0[i].a6:=(h.1.2 _ (f8Q hi)).2.2.1.fits (by decide);refine W1 w.a0[i].a6 hk0 (b27 w w.a0[i]) false () ?_ ?_
  ·intro k hk _;unfold b35;rw [w6 _ k hk,t0 hk,c3U hk];simp only [g1d,f8M,e0c h hw];cases decide (((V6 w.a0 k w.a0[i].a6[k]:Nat):Int)<2)<;>rfl
  ·unfold b35;rw [z8];rfl
 simp only [f8T,g1e,f8Y];rw [I5 w.a0 hf (a2F w) false ()]
 ·cases w.a0.all (a2F w)<;>rfl
 ·intro k hk;unfold b78 c5y;rw [w6 _ k hk,t0 hk];simp only [g1d,f8M,hin k hk];cases a2F w w.a0[k]<;>rfl
 ·unfold b78;rw [z8];rfl
theorem a8Y{α:Type}{l:List α}(z:α)(b:Nat)(h:l.length*b<=140737488351232):(bif ((l.length:Int)==0) then some [] else t5 (0<=(l.length:Int)/\(l.length:Int)*(b:Int)<=140737488355328) (t5 (l.length=(f8O (l.length:Int).toNat z).length) (some l)))=some l:=by
 cases hl:((l.length:Int)==0)
 ·have:(l.length:Int)*(b:Int)=((l.length*b:Nat):Int):=by rw [Int.natCast_mul]
  rw [g1e,v5 ⟨by omega,by omega⟩,v5 (by simp)]
 ·simp only [beq_iff_eq] at hl;rw [f9b (by omega:l.length=0)];rfl
theorem c04{α R:Type}{body:List α×Int->Option (j7 R (List α×Int) (List α))}(l:List α)(hl:s7 l)(h1:∀(k:Nat) (hk:k<l.length),body (l,(k:Int))=some (.nxt (l.set k l[k],m7 ((k:Int)+1))))(h2:body (l,(l.length:Int))=some (.brk l)):o7 body (l,0)=some (.brk l):=by
 have:=V0 (body:=body) (fun k=>(l,(k:Int))) l.length fun k hk=>by rw [h1 k hk,E6 hl hk,g0Y]
 exact this.trans (C7 h2)
theorem b5B{l:List m8}(h:A2 96 T1 l):a89 l=some l:=by
 unfold a89;rw [show c6L l=some l from a8Y _ 96 h.1,f8M,c04 l (h.fits (by decide))]
 ·rfl
 ·intro k hk;unfold b9w;rw [w6 _ k hk,g1d,t0 hk,f8M,b3Y (h.2 _ (f8Q hk)).2];rfl
 ·unfold b9w;rw [z8];rfl
theorem b6g{x:z0}(h:a6N x):a5f x=some x:=by
 unfold a5f;rw [b5B h.2];rfl
theorem d8a{l:List Bool}(h:A2 1 okT l):b5Y l=some l:=a8Y _ 1 h.1
theorem d7A{l:List n8}(h:l.length*32<=140737488351232):a9x l=some l:=a8Y _ 32 h
theorem d8y{l:List n6}(h:l.length*40<=140737488351232):c06 l=some l:=a8Y _ 40 h
theorem b5A{n:j6}(h:O6 n):a9A n=some n:=by
 obtain ⟨h1,h2,h3,h4,h5,h6,h7,h8,h9,h10,h11,h12,h13⟩:=h;unfold a9A;rw [b6g h2,f8M,c1z h3,f8M,d8a h7,f8M,b5B h8,f8M,b3Y h9,f8M,d8a h10,f8M,d7A h11.1,f8M,b3Y h12,f8M,c1z h13];rfl
theorem f6m{m:l8}(h:a0n m):c0X m=some m:=by
 unfold c0X;rw [b3Y h.2.2.2.2.2.1,f8M,b5B h.2.2.2.2.2.2];rfl
theorem d4c{l:List l8}(h:A2 152 a0n l):b23 l=some l:=by
 unfold b23;rw [show c2o l=some l from a8Y _ 152 h.1,f8M,c04 l (h.fits (by decide))]
 ·rfl
 ·intro k hk;unfold b9M;rw [w6 _ k hk,g1d,t0 hk,f8M,f6m (h.2 _ (f8Q hk))];rfl
 ·unfold b9M;rw [z8];rfl
theorem b7a{w:m5}(h:K5 w):a1U w=some w:=by
 obtain ⟨h1,h2,h3,h4⟩:=h;unfold a1U c2g;rw [show c4H w.a0=some w.a0 from a8Y _ 392 h1.1,f8M,d4c h2,f8M,show c3N w.d9=some w.d9 from a8Y _ 40 h3.1,f8M,d8y h4.1,f8M,c04 w.a0 (h1.fits (by decide))]
 ·simp only [f8M,l9.go];rw [c04 w.d9 (h3.fits (by decide))]
  ·rfl
  ·intro k hk;unfold b8o;rw [w6 _ k hk,g1d,t0 hk,f8M,d7A (h3.2 _ (f8Q hk)).2.1];rfl
  ·unfold b8o;rw [z8];rfl
 ·intro k hk;unfold b5I;rw [w6 _ k hk,g1d,t0 hk,f8M,b5A (h1.2 _ (f8Q hk))];rfl
 ·unfold b5I;rw [z8];rfl
theorem e5S:b7t=some Q9:=by
 unfold b7t;have e:∀i:Int,0<=i->i<=2->b7b i=some (D1 i):=fun i h1 h2=>by
  unfold b7b;rw [N7,f8M,p9,decide_eq_true ⟨h1,h2⟩];rfl
 rw [E8 (t:=([D1 0],1)) (by unfold a9K;rw [e 0 (by omega) (by omega)];rfl),E8 (t:=([D1 0,D1 1],2)) (by unfold a9K;rw [e 1 (by omega) (by omega)];rfl),E8 (t:=([D1 0,D1 1,D1 2],3)) (by unfold a9K;rw [e 2 (by omega) (by omega)];rfl),C7 (b:=[D1 0,D1 1,D1 2]) (by unfold a9K;rfl)];show (a1U Q9).bind _=_
 rw [b7a WI.open.ok];rfl
theorem c9r{a:p7}(h:s7 a.n.a6)(q:n5):b3Q a q=some (N9 a.n.a6 q,a):=by
 unfold b3Q;rw [b39 h,f8M,c4n];cases a.n.a6.findIdx? (D6 q) with
 | none=>rfl
 | some k=>simp
theorem e1f{a:p7}(h:s7 a.n.a6)(q:n5):b6G a q=some (N9 a.n.a6 q,a):=by
 unfold b6G;rw [b39 h,f8M,c4n];cases a.n.a6.findIdx? (D6 q) with
 | none=>rfl
 | some k=>simp
def qA(a:p7)(q:List m4):p7:=⟨{a.n with f0:=q},a.out,a.told⟩
theorem f5u{a:p7}{q:List m4}(h:a.n.f0=q):qA a q=a:=by
 subst h;rfl
theorem c9F{known:List m4}(hk:s7 known):∀(q:List m4) (a:p7),a.n.a6=known->A2 88 F3 q->a.n.f0=q->o7 (fun s:p7=>a5j s) a=some (match T9 known q with
  | (q',some e)=>.ret (e,true,qA a q')
  | (q',none)=>.brk (qA a q'))
 | [],a,h1,_,h2=>by
  rw [C7 (body:=fun s:p7=>a5j s) (b:=a) (by unfold a5j;rw [h2];rfl)];show _=some (l9.brk (qA a []))
  rw [f5u h2]
 | e::q,a,h1,hq,h2=>by
  have hl:(e::q).length*88<=140737488351232:=hq.1;rw [f9X] at hl;have hb:a5j a=some (bif N9 known e.a5 then .nxt (qA a q) else .ret (e,true,qA a q)):=by
   unfold a5j;rw [h2,show idx (e::q) 0=some e from rfl,show decide ((((e::q).length:Nat):Int)>0)=true by simp,g1d,f8M,v5 (by simp;omega),show ((e::q).drop (1:Int).toNat).take ((e::q).length-(1:Int).toNat)=q by simp];rw [show (⟨⟨a.n.Id,a.n.Acc,a.n.a6,a.n.Seq,a.n.d6,a.n.a8,a.n.c9,a.n.i4,a.n.c8,a.n.a7,a.n.i9,a.n.i6,a.n.b8,q⟩,a.out,a.told⟩:p7)=qA a q from rfl,c9r (a:=qA a q) (by show s7 a.n.a6;rw [h1];exact hk),f8M,show (qA a q).n.a6=known from h1];cases N9 known e.a5<;>rfl
  unfold T9;cases hkn:N9 known e.a5
  ·rw [W4 (body:=fun s:p7=>a5j s) (r:=(e,true,qA a q)) (by rw [hb,hkn];rfl)];rfl
  ·rw [E8 (body:=fun s:p7=>a5j s) (t:=qA a q) (by rw [hb,hkn];rfl),c9F hk q (qA a q) h1 ⟨by omega,fun x hx=>hq.2 x (g04 _ hx)⟩ rfl];rfl
def b5e(a:p7)(x:j6×Option m4):m4×Bool×p7:=match x with
 | (n,some e)=>(e,true,⟨n,a.out,a.told⟩)
 | (n,none)=>(zE,false,⟨n,a.out,a.told⟩)
theorem e2k{a:p7}(hf:s7 a.n.i4)(hv:∀v∈a.n.i4,0<=v.a8):∀(m k:Nat),a.n.i4.length-k=m->o7 (fun s:Int=>a47 a s) (k:Int)=some (bif (a.n.i4.drop k).any (fun v=>decide (v.a8>0)) then .ret (eN,true,a) else .brk ()):=by
 intro m;induction m with
 | zero=>
  intro k hk;rw [C7 (body:=fun s:Int=>a47 a s) (b:=()) (by unfold a47;rw [show decide ((k:Int)<(a.n.i4.length:Int))=false by simp;omega];rfl),f9q (by omega)];rfl
 | succ m ih=>
  intro k hk;have hlt:k<a.n.i4.length:=by omega
  have hb:a47 a (k:Int)=some (bif decide (a.n.i4[k].a8>0) then .ret (eN,true,a) else .nxt ((k+1:Nat):Int)):=by
   have h0:=hv _ (f8Q hlt);unfold a47;rw [w6 _ k hlt,g1d,t0 hlt,f8M,E6 hf hlt,show (a.n.i4[k].a8 != 0)=decide (a.n.i4[k].a8>0) by
    rw [g0g];simp;omega]
   cases decide (a.n.i4[k].a8>0)<;>rfl
  rw [f9j hlt,g05];cases hd:decide (a.n.i4[k].a8>0)
  ·rw [hd] at hb;rw [E8 (body:=fun s:Int=>a47 a s) hb,ih (k+1) (by omega),f9B]
  ·rw [hd] at hb;rw [W4 (body:=fun s:Int=>a47 a s) hb,g0Z];rfl
theorem e4w{a:p7}(h:O6 a.n)(hv:∀v∈a.n.i4,0<=v.a8):c0S a=some (b5e a (a0F a.n)):=by
 obtain ⟨h1,h2,h3,h4,h5,h6,h7,h8,h9,h10,h11,h12,h13⟩:=h;have hk:s7 a.n.a6:=h3.fits (by decide);have hbf:s7 a.n.i4:=h8.fits (by decide);have j1:b7G a=some (b5e a ({a.n with f0:=(T9 a.n.a6 a.n.f0).1},(T9 a.n.a6 a.n.f0).2)):=by
  unfold b7G;rw [c9F hk _ a rfl h13 rfl];obtain ⟨q,o⟩:=T9 a.n.a6 a.n.f0;cases o<;>rfl
 have j2:(∀v,a.n.i4[a.n.a6.length]?=some v->¬v.a8>0)->b6X a=some (b5e a (a5k a.n)):=by
  intro hn;have hd:(a.n.i4.drop (a.n.a6.length+1)).any (fun v=>decide (v.a8>0))=(a.n.i4.drop a.n.a6.length).any (fun v=>decide (v.a8>0)):=by
   by_cases hl:a.n.a6.length<a.n.i4.length
   ·rw [f9j hl,g05,show decide (a.n.i4[a.n.a6.length].a8>0)=false by
     simpa using hn _ (f8N hl),f9B]
   ·rw [f9q (by omega),f9q (by omega)]
  unfold b6X a5k;rw [C5 (by omega) (by have:=h3.1;omega),show ((a.n.a6.length:Int)+1)=((a.n.a6.length+1:Nat):Int) from rfl,e2k hbf hv _ _ rfl,hd];generalize (({a.n with f0:=(T9 a.n.a6 a.n.f0).1},(T9 a.n.a6 a.n.f0).2):j6×Option m4)=X at j1⊢;cases (a.n.i4.drop a.n.a6.length).any fun v=>decide (v.a8>0)
  ·simp only [g1e,f8M,l9.go];unfold c5a;cases a.n.i9
   ·exact j1
   ·simp only [g1d,c9r hk,f8M,f8Y];cases N9 a.n.a6 a.n.b8.a5
    ·rfl
    ·exact j1
  ·rfl
 unfold c0S a0F;by_cases hl:a.n.a6.length<a.n.i4.length
 ·rw [w6 _ _ hl,t0 hl,f8N hl];have h0:=hv _ (f8Q hl);rw [g1d,f8M,show (a.n.i4[a.n.a6.length].a8 != 0)=decide (a.n.i4[a.n.a6.length].a8>0) by rw [g0g];simp;omega];simp only;cases hd:decide (a.n.i4[a.n.a6.length].a8>0)
  ·exact j2 (by rw [f8N hl];intro v hv;injection hv with hv;subst hv;simpa using hd)
  ·rfl
 ·rw [show decide ((a.n.a6.length:Int)<(a.n.i4.length:Int))=false by simp;omega,f9m (by omega)];exact j2 (by rw [f9m (by omega)];simp)
theorem NI.accOk{n:j6}(h:NI n):O2 n.Acc=true/\a6N n.Acc:=by
 have:=a1k.2 h;unfold D8 at this;simp only [f8R] at this;exact ⟨by simp_all,h.ok.2.1⟩
theorem b8I{a:z0}(h:O2 a=true)(ho:a6N a)(b:Int):a9Q a b=some (match I2 a b with|some x=>(x,true)|none=>(a,false)):=by
 unfold a9Q I2 b00;rw [d8W ho,f8M,h,b6g ho,N7];simp only [f8T,g1e,f8M];cases p9 b 1 3000
 ·rfl
 ·cases hd:decide (b<a.i0)
  ·rw [show decide (a.i0<=b)=true by simp at hd⊢;omega];rfl
  ·rw [show decide (a.i0<=b)=false by simp at hd⊢;omega];rfl
theorem e76{a:z0}(h:O2 a=true)(ho:a6N a)(b:Int):c6k a b=some (match I2 a b with|some x=>(x,true)|none=>(a,false)):=b8I h ho b
theorem d6o(slot:Nat)(hs:slot<40):∀(m:Nat) (vs:List m8),slot+1-vs.length=m->o7 (fun s:List m8=>a8n (slot:Int) s) vs=some (.brk (S5 vs (slot+1)))
 | 0,vs,hm=>by
  rw [C7 (body:=fun s:List m8=>a8n (slot:Int) s) (b:=vs) (by unfold a8n;rw [show decide ((vs.length:Int)<=(slot:Int))=false by simp;omega];rfl)];unfold S5;rw [hm];simp
 | m+1,vs,hm=>by
  rw [E8 (body:=fun s:List m8=>a8n (slot:Int) s) (t:=vs++[v0]) (by unfold a8n;rw [show decide ((vs.length:Int)<=(slot:Int))=true by simp;omega,g1d,v5 (by omega)];rfl),d6o slot hs m _ (by simp;omega)];unfold S5;rw [f9a,f9Y,show slot+1-vs.length=(slot+1-(vs.length+1))+1 by omega,g0Q,f9i];rfl
theorem d4z{a:z0}(h:O2 a=true)(ho:a6N a)(hl:a.a7.length<=40){b s:Int}(hb:H3 b){e:m4}(he:F3 e):b5v a b s e=some (match L1 a b s e with|some x=>(x,true)|none=>(a,false)):=by
 unfold b5v L1;rw [e76 h ho,f8M,N7,a6R he.f,b6g ho];cases hp:I2 a b with
 | none=>cases p9 s 0 39&&z4 e<;>rfl
 | some x=>
  obtain ⟨rfl,hb1,hb2,hb3⟩:=a3L hp;simp only [f8T,g1e,f8M];cases hs:p9 s 0 39
  ·rfl
  cases z4 e
  ·rfl
  obtain ⟨k,rfl⟩:∃k:Nat,s=(k:Int):=⟨s.toNat,by rw [I0] at hs;omega⟩
  rw [I0] at hs;have hlen:=b7z a.a7 (k+1);have hk:k<(S5 a.a7 (k+1)).length:=by rw [hlen];omega
  simp only [f8T,Bool.and_self,g1e,g1d,f8M,g0i,f9r];rw [d6o k (by omega) _ _ rfl];simp only [f8M,l9.go,c1m];rw [t0 hk,f8M,f9r,b6g (x:=⟨b,(S5 a.a7 (k+1)).set k ⟨b,e⟩⟩) ⟨hb,a0w (by rw [g0n,hlen];omega) (by
   intro v hv;rcases f9y hv with q|q
   ·rcases c2v q with q|q
    ·exact ho.2.2 v q
    ·rw [q];exact d8v
   ·rw [q];exact ⟨hb,he⟩)⟩]
  rfl
theorem a8U{a:p7}(h:a.out.length<=1000)(to:Int)(m:l8):a4h a to m=some ⟨a.n,a.out++[{m with c9:=a.n.Id,To:=to}],a.told⟩:=by
 unfold a4h;rw [v5 (by omega)]
def a08(m:l8)(a:p7)(t:Int):p7:=bif t != a.n.Id then ⟨a.n,a.out++[{m with c9:=a.n.Id,To:=t}],a.told⟩ else a
theorem d4Y(m:l8)(a:p7)(t:Int):(a08 m a t).out.length<=a.out.length+1:=by
 unfold a08;cases t != a.n.Id<;>simp
theorem a5Y{a:p7}(hid:0<=a.n.Id/\a.n.Id<=2)(h:a.out.length<=900)(m:l8):a3a a m=some ⟨a.n,a.out++J1 a.n.Id m,a.told⟩:=by
 have e:∀(a:p7) (t:Int),a.out.length<=1000->0<=t->t<3->a4V m t a=some (.nxt (t+1,a08 m a t)):=by
  intro a t ho h0 h1;unfold a4V c27 a08;rw [show decide (t<3)=true by simpa using h1,g1d,a8U ho,C5 (by omega) (by omega)];cases t != a.n.Id<;>rfl
 have l1:=d4Y m a 0;have l2:=d4Y m (a08 m a 0) (0+1);have h0:=E8 (body:=fun s:Int×p7=>a4V m s.1 s.2) (s:=(0,a)) (e a 0 (by omega) (by omega) (by omega));have h1:=E8 (body:=fun s:Int×p7=>a4V m s.1 s.2) (s:=(0+1,a08 m a 0)) (e (a08 m a 0) (0+1) (by omega) (by omega) (by omega));have h2:=E8 (body:=fun s:Int×p7=>a4V m s.1 s.2) (s:=(0+1+1,a08 m (a08 m a 0) (0+1))) (e (a08 m (a08 m a 0) (0+1)) (0+1+1) (by omega) (by omega) (by omega));have h3:=W4 (body:=fun s:Int×p7=>a4V m s.1 s.2) (s:=(0+1+1+1,a08 m (a08 m (a08 m a 0) (0+1)) (0+1+1))) (show a4V m (0+1+1+1) _=_ from rfl);unfold a3a;rw [h0,h1,h2,h3];obtain ⟨n,o,t⟩:=a;simp only [f8M,l9.go];have hid':n.Id=0\/n.Id=1\/n.Id=2:=by have:=hid.1;have:=hid.2;simp only at *;omega
 rcases hid' with q|q|q<;>simp [a08,J1,q]
theorem d8E{a:p7}(h:0<=a.n.Id/\a.n.Id<=2):b5f a=some (a1w a.n.Id,a):=by
 obtain ⟨y,hy⟩:=c6R h;unfold b5f;rw [v5 (by decide),hy];rfl
theorem c2A(a:p7):b2X a=some ⟨a3R a.n,a.out,a.told⟩:=rfl
theorem b59(a:p7)(b:Int):b1D a b=some ⟨O0 a.n b,a.out,a.told⟩:=by
 unfold b1D O0;rw [c2A];cases a.n.d6 != 0
 ·rfl
 ·cases decide (b>a.n.a8)<;>rfl
theorem a0E.bal0{n:j6}(h:a0E n):∀v∈n.i4,0<=v.a8:=fun v hv=>(h.best.2 v hv).bal.1
def Z1(a:p7)(x:j6×List l8):p7:=⟨x.1,a.out++x.2,a.told⟩
theorem a7Y(a:p7):Z1 a (a.n,[])=a:=by
 unfold Z1;rw [f9C]
theorem b2F{a:p7}(h:NI a.n)(ho:a.out.length<=900):a6a a=some (Z1 a (N1 a.n)):=by
 unfold a6a N1;rw [show decide ((a.n.a6.length:Int)>=40)=decide (40<=a.n.a6.length) by simp;omega];cases a.n.d6 != 2
 ·simp only [g1e,f9B];cases hlt:decide (40<=a.n.a6.length)
  ·simp only [g1e,e4w h.ok h.ld.bal0,f8M];obtain ⟨q,hq,hql,hqm,hqe⟩:=b08 a.n;cases hx:a0F a.n with
   | mk x o=>
   rw [hx] at hq hqe;have hq:x={a.n with f0:=q}:=hq;subst hq;cases o with
   | none=>
    simp only [b5e,f9x,g1d,Z1];rw [f9C]
   | some e=>
    have he:=(hqe e rfl).ok h.ok;obtain ⟨c1,c2⟩:=h.accOk;simp only [b5e,f8T,g1e];rw [d4z (a:=a.n.Acc) c1 c2 h.vl h.ok.2.2.2.2.2.1 he,f8M];simp only [a54];cases hc:L1 a.n.Acc a.n.a8 (a.n.a6.length:Int) e with
    | none=>
     simp only [f9x,g1d,c2A,f8M,Z1];rw [f9C]
    | some x=>
     simp only [f8T,g1e];rw [d8E (by exact h.id),f8M];simp only;rw [a5Y (by exact h.id) (by exact ho)];rfl
  ·simp only [g1d];rw [a7Y]
 ·simp only [g1d,g0Z];rw [a7Y]
def a25(a:p7)(x:j6×List l8×List n6):p7:=⟨x.1,a.out++x.2.1,a.told++x.2.2⟩
theorem c0m(a:p7):a25 a (a.n,[],[])=a:=by
 unfold a25;rw [f9C,f9C]
theorem e5o{a:p7}(h:NI a.n)(ho:a.out.length<=900)(ht:a.told.length<=900):b9r a=some (a25 a ((N1 (U6 a.n).1).1,(N1 (U6 a.n).1).2,(U6 a.n).2)):=by
 have hk:s7 a.n.a6:=h.ok.2.2.1.fits (by decide);obtain ⟨hl,he⟩:=W8 h.list;have j1:∀b:p7,NI b.n->b.out.length<=900->b8L b=some (Z1 b (N1 b.n)):=by
  intro b hb hbo;unfold b8L;rw [b2F hb hbo];rfl
 unfold b9r U6;rw [b39 hk,f8M];cases hb:a.n.i9
 ·simp only [g1e,f8M,l9.go];rw [j1 a h ho];simp only [Z1,a25,f9C]
 ·cases hf:a.n.a6.findIdx? (D6 a.n.b8.a5) with
  | none=>
   simp only [g1d];rw [show decide ((-1:Int)>=0)=false from rfl];simp only [g1e,f8M,l9.go];rw [j1 a h ho];simp only [Z1,a25,f9C]
  | some k=>
   obtain ⟨hkl,h1,h2⟩:=b2o hf;have hlen:(p6 a.n.a6).2.length=a.n.a6.length:=by
    have:=(P6 hl he a.n.a6.length (f9f _)).2.1;rwa [f9e] at this
   have hc:idx (p6 a.n.a6).2 (k:Int)=some (L0 a.n.a6 k):=by
    rw [t0 (by omega)];unfold L0;rw [f8N (by omega)];rfl
   have hj2:∀v:Int,b8h a (L0 a.n.a6 k) v=some (.brk ⟨a6T a.n,a.out,a.told++[⟨a.n.Id,a.n.b8.a5,L0 a.n.a6 k,v⟩]⟩):=by
    intro v;unfold b8h;rw [v5 (by omega)];rfl
   have hv:R1 a.n.a6 a.n.b8.a5=a.n.a6[k].b6.d8:=by
    unfold R1;rw [hf];simp only [f8N hkl]
   simp only [g1d];rw [show decide ((k:Int)>=0)=true by simp];simp only [g1d];rw [b7e (okEntries.f h.ok.2.2.1) hl he,f8M,hc,f8M,t0 hkl,hv];cases L0 a.n.a6 k==0
   ·simp only [g1e,f8M,l9.go,hj2];exact j1 ⟨a6T a.n,a.out,_⟩ h.freeN ho
   ·simp only [g1d,f8M,l9.go,hj2];exact j1 ⟨a6T a.n,a.out,_⟩ h.freeN ho
theorem c8C{a:p7}(h:NI a.n)(hl:a.n.a6.length<40){e:m4}(he:z4 e=true)(ho:a.out.length<=900)(ht:a.told.length<=900):b5z a e=some (a25 a (X3 a.n e)):=by
 have hk:=e5o (a:=⟨E2 a.n e,a.out,a.told⟩) (h.know he hl) ho ht;unfold b5z;rw [v5 (by omega)];unfold E2 at hk;cases hp:a.n.d6==3
 ·rw [hp] at hk;simp only [g1e,f8M,l9.go] at hk⊢;refine hk.trans ?_;unfold X3 E2;rw [hp];rfl
 ·rw [hp] at hk;simp only [g1d,f8M,l9.go] at hk⊢;refine hk.trans ?_;unfold X3 E2;rw [hp];rfl
theorem U3.two{m:l8}(h:U3 m)(hk:m.a9=2):(m.a7.length<=40/\∀v∈m.a7,VI v)/\m.g8+m.a7.length<=40:=by
 rcases h with q|q|q|q|q|q|q
 ·omega
 ·exact ⟨q.2.2.2.1,q.2.2.2.2⟩
 all_goals exact absurd q.1 (by omega)
theorem U3.five{m:l8}(h:U3 m)(hk:m.a9=5):m.g8<40/\z4 m.g9=true:=by
 rcases h with q|q|q|q|q|q|q
 ·omega
 ·omega
 ·omega
 ·exact ⟨q.2.2.1,q.2.2.2.1⟩
 all_goals exact absurd q.1 (by omega)
theorem e7I{a:p7}(h:NI a.n){m:l8}(hm:MI m)(ho:a.out.length<=900)(hto:m.To=a.n.Id):b8O a m=some (Z1 a (a2b a.n m)):=by
 obtain ⟨c1,c2⟩:=h.accOk;have hs:=hm.sl;unfold b8O a2b;rw [b8I c1 c2,f8M];cases hp:I2 a.n.Acc m.a8 with
 | none=>
  simp only [f9x,g1d];rw [a8U (by omega)];simp only [f8M,Z1,M8,hto]
 | some x=>
  obtain ⟨rfl,_⟩:=a3L hp;simp only [f8T,g1e,b59,f8M];have hy:∀(n:j6) (vs:List m8),n.Id=a.n.Id->b56 m ⟨n,a.out,a.told⟩ vs=some ⟨n,a.out++[M8 m ⟨2,0,0,m.a8,m.g8,zE,vs⟩],a.told⟩:=by
   intro n vs hn;unfold b56;rw [a8U (a:=⟨n,a.out,a.told⟩) (by exact f9A ho (by decide))];simp only [f8M,M8,hto,hn]
  have hid:(O0 (⟨a.n.Id,⟨m.a8,a.n.Acc.a7⟩,a.n.a6,a.n.Seq,a.n.d6,a.n.a8,a.n.c9,a.n.i4,a.n.c8,a.n.a7,a.n.i9,a.n.i6,a.n.b8,a.n.f0⟩) m.a8).Id=a.n.Id:=a6c _ _;obtain ⟨k,hk⟩:∃k:Nat,m.g8=(k:Int):=⟨m.g8.toNat,by omega⟩
  cases hd:decide (m.g8<(a.n.Acc.a7.length:Int))
  ·simp only [g1e,f8M,l9.go];rw [hy _ _ hid,f9q (by simp at hd;omega)];rfl
  ·simp only [g1d];rw [v5 (by simp at hd;omega)];simp only [f8M,l9.go];rw [hy _ _ hid,c4P];rfl
theorem e4S{a:p7}(h:NI a.n){m:l8}(hm:MI m)(ho:a.out.length<=900)(hto:m.To=a.n.Id):b9L a m=some (Z1 a (a2g a.n m)):=by
 obtain ⟨c1,c2⟩:=h.accOk;unfold b9L a2g;rw [d4z c1 c2 h.vl hm.ok.2.2.2.1 hm.ok.2.2.2.2.2.1,f8M];cases L1 a.n.Acc m.a8 m.g8 m.g9 with
 | none=>
  simp only [f9x,g1d];rw [a8U (by omega)];simp only [f8M,Z1,M8,hto]
 | some x=>
  simp only [f8T,g1e,b59,f8M];rw [a8U (by simp only;omega)];simp only [f8M,Z1,M8,hto,a6c]
theorem d7N:∀(l:List Bool) (hl:s7 l) (m k:Nat) (c:Int),k+m=l.length->0<=c->c<=k->o7 (fun s:Int×Int=>a5d l s.1 s.2) (c,(k:Int))=some (.brk (c+(((l.drop k).filter (· == true)).length:Int)))
 | l,hl,0,k,c,hk,h0,h1=>by
  have:k=l.length:=by omega
  subst this;rw [C7 (body:=fun s:Int×Int=>a5d l s.1 s.2) (b:=c) (by unfold a5d;rw [z8];rfl)];simp
 | l,hl,m+1,k,c,hk,h0,h1=>by
  have hlt:k<l.length:=by omega
  have hf:=hl;unfold s7 at hf;have hb:a5d l c (k:Int)=some (.nxt (bif l[k] then c+1 else c,((k+1:Nat):Int))):=by
   unfold a5d c3q;rw [w6 _ k hlt,g1d,t0 hlt,f8M,E6 hl hlt,C5 (by omega) (by omega)];cases l[k]<;>rfl
  rw [E8 (body:=fun s:Int×Int=>a5d l s.1 s.2) hb,d7N l hl m (k+1) _ (by omega) (by cases l[k]<;>simp<;>omega) (by cases l[k]<;>simp<;>omega),f9j hlt];cases l[k]<;>simp<;>omega
theorem d8R{l:List Bool}(h:s7 l):∃c,b4M l=some c/\decide (c>=2)=N8 l:=by
 unfold b4M;rw [show o7 (fun s:Int×Int=>a5d l s.1 s.2) (0,0)=_ from d7N l h l.length 0 0 (by omega) (by omega) (by omega)];refine ⟨_,rfl,?_⟩;unfold N8;rw [g0g];simp only [g0a,decide_eq_true_eq];omega
theorem f4U{a b:List m8}(ha:a.length<=40/\∀v∈a,VI v)(hb:b.length<=40/\∀v∈b,VI v):b6S a b=some (E0 a b):=by
 have oa:=a4s (by omega) ha.2;have ob:=a4s (by omega) hb.2;have hlen:=a8h a b;have hok:A2 96 T1 (E0 a b):=a4s (by omega) fun v hv=>(a9M hv).elim (ha.2 v) (hb.2 v)
 unfold b6S;rw [b4A oa,f8M,a8E.2 ha,b4A ob,f8M,a8E.2 hb];simp only [f8T,g1e];rw [a6d (body:=fun s:(List m8)×Int=>a63 a b s.1 s.2) (E0 a b) (by unfold s7;omega) (fun l=>l) (by
  intro k hk;have hget:=b04 a b k;rw [f8N hk] at hget;have hj1:∀l:List m8,c1N (k:Int) l=some (.nxt (l,m7 ((k:Int)+1))):=fun _=>rfl
  have htl:(((E0 a b).take k).length+1)*96<=140737488355328:=by rw [f9g];omega
  show a63 a b ((E0 a b).take k) (k:Int)=_
  have hstart:a63 a b ((E0 a b).take k) (k:Int)=c09 a b ((E0 a b).take k) (k:Int):=by
   unfold a63;by_cases h1:k<a.length
   ·rw [w6 _ k h1];rfl
   ·rw [show decide ((k:Int)<(a.length:Int))=false by simp;omega,w6 _ k (by omega)];rfl
  rw [hstart];unfold c09;by_cases h1:k<a.length
  ·rw [show decide ((k:Int)>=(a.length:Int))=false by simp;omega,t0 h1];rw [f8N h1] at hget;by_cases h2:k<b.length
   ·rw [show decide ((k:Int)>=(b.length:Int))=false by simp;omega,t0 h2];rw [f8N h2] at hget;injection hget with hget;simp only [g1e,f8M,v5 htl];rw [hget,show decide (a[k].a8>=b[k].a8) = !decide (b[k].a8>a[k].a8) by rw [g0g];simp];cases decide (b[k].a8>a[k].a8)<;>rfl
   ·rw [show decide ((k:Int)>=(b.length:Int))=true by simp;omega];rw [f9m (by omega)] at hget;injection hget with hget;simp only [g1e,g1d,f8M,v5 htl];rw [hget];rfl
  ·have h2:k<b.length:=by omega
   rw [show decide ((k:Int)>=(a.length:Int))=true by simp;omega,t0 h2];rw [f9m (by omega),f8N h2] at hget;injection hget with hget;simp only [g1d,f8M,v5 htl];rw [hget];rfl) (by
  show a63 a b (E0 a b) ((E0 a b).length:Int)=_
  unfold a63;rw [show decide (((E0 a b).length:Int)<(a.length:Int))=false by simp;omega,show decide (((E0 a b).length:Int)<(b.length:Int))=false by simp;omega];rfl)]
 simp only [f8M,l9.go,c6K,b5B hok]
theorem f4Q{a:p7}(h:NI a.n){m:l8}(hm:MI m)(hk:m.a9=2)(ho:a.out.length<=900):b8c a m=some (Z1 a (a1P a.n m)):=by
 have hkd:=hm.kd.two hk;have hs:=hm.sl;have hf:=hm.fr;have hright:=c65 h hm hk;unfold b8c;unfold a1P at hright⊢;by_cases p1:a.n.d6=1
 ·rw [show (a.n.d6 != 1)=false by simp [p1],f9B] at hright;rw [show (a.n.d6 != 1)=false by simp [p1],f9B];cases hb:m.a8 != a.n.a8
  ·rw [hb] at hright;simp only [g1e] at hright⊢;have hl:a.n.c9.length=3/\Own a.n:=by
    rcases h.ld with q|q|q|q
    ·omega
    ·exact ⟨q.2.2.1,q.2.1⟩
    all_goals exact absurd q.1 (by omega)
   obtain ⟨f,hff⟩:∃f:Nat,m.c9=(f:Int):=⟨m.c9.toNat,by omega⟩
   have hvo:(f8O m.g8.toNat v0++m.a7).length<=40/\∀v∈f8O m.g8.toNat v0++m.a7,VI v:=⟨by simp;omega,fun v hv=>(f8P.1 hv).elim (fun q=>by rw [(f9J.1 q).2];exact .inl rfl) (hkd.1.2 v)⟩
   obtain ⟨c,c1,c2⟩:=d8R (l:=a.n.c9.set (f:Int).toNat true) (c00 (by simp;omega));rw [hff] at hright;rw [hff,t0 (show f<a.n.c9.length by omega),f8M,v5 (by omega),v5 (by simp;omega),show (⟨0,⟨false,⟨0,0⟩,⟨[],[],0,0⟩⟩⟩:m8)=v0 from rfl,f4U ⟨hl.2.bl,hl.2.bs⟩ hvo,f8M,c1,f8M,c2];cases htw:N8 (a.n.c9.set (f:Int).toNat true)
   ·simp only [g1e,Z1];rw [f9C]
   ·rw [htw] at hright;simp only [g1d] at hright⊢;have hni:NI ⟨a.n.Id,a.n.Acc,a.n.a6,a.n.Seq,2,a.n.a8,[],E0 a.n.i4 (f8O m.g8.toNat v0++m.a7),a.n.c8,a.n.a7,a.n.i9,a.n.i6,a.n.b8,a.n.f0⟩:=by
     rcases h.ld with q|q|q|q
     ·omega
     ·exact ⟨h.id,h.pr,h.vl,h.vs,h.kl,h.ks,h.sq,h.ql,h.qs,.inr (.inr (.inl ⟨rfl,⟨q.2.1.b1,q.2.1.b2,q.2.1.mod,q.2.1.pr,by have:=a8h a.n.i4 (f8O m.g8.toNat v0++m.a7);have:=hl.2.bl;have:=hvo.1;simp only at *;omega,fun v hv=>(a9M hv).elim (hl.2.bs v) (hvo.2 v)⟩,rfl,q.2.2.2.2.1,q.2.2.2.2.2⟩)),h.wt⟩
     all_goals exact absurd q.1 (by omega)
    rw [b2F (a:=⟨⟨a.n.Id,a.n.Acc,a.n.a6,a.n.Seq,2,a.n.a8,[],E0 a.n.i4 (f8O m.g8.toNat v0++m.a7),a.n.c8,a.n.a7,a.n.i9,a.n.i6,a.n.b8,a.n.f0⟩,a.out,a.told⟩) hni ho];rfl
  ·simp only [g1d,g1e];rw [a7Y]
 ·rw [show (a.n.d6 != 1)=true by simpa using p1];simp only [g1d,g0Z];rw [a7Y]
theorem e2w{a:p7}(h:NI a.n){m:l8}(hm:MI m)(ho:a.out.length<=800)(ht:a.told.length<=800):b6U a m=some (a25 a (a2Q a.n m)):=by
 have hf:=hm.fr;unfold b6U a2Q;by_cases p3:a.n.d6=3
 ·rw [show (a.n.d6 != 3)=false by simp [p3],f9B];cases hb:m.a8 != a.n.a8
  ·simp only [g1e,f9B];cases hs:m.g8 != (a.n.a6.length:Int)
   ·simp only [g1e];have hsl:m.g8=(a.n.a6.length:Int):=by simpa using hs
    obtain ⟨q1,q2,q3,q4,q5,q6,q7⟩:a.n.d6=3/\Own a.n/\a.n.c9=[]/\z4 a.n.c8=true/\a.n.a7.length=3/\a.n.a7[a.n.Id.toNat]?=some true/\a.n.a6.length<40:=by
     rcases h.ld with q|q|q|q
     ·omega
     ·omega
     ·omega
     ·exact q
    obtain ⟨f,hff⟩:∃f:Nat,m.c9=(f:Int):=⟨m.c9.toNat,by omega⟩
    obtain ⟨c,c1,c2⟩:=d8R (l:=a.n.a7.set (f:Int).toNat true) (c00 (by simp;omega));rw [hff,t0 (show f<a.n.a7.length by omega),f8M,c1,f8M,c2];cases htw:N8 (a.n.a7.set (f:Int).toNat true)
    ·simp only [g1e,a25,f9C]
    ·simp only [g1d];have hid:=h.id;have hni:NI ⟨a.n.Id,a.n.Acc,a.n.a6,a.n.Seq,a.n.d6,a.n.a8,a.n.c9,a.n.i4,a.n.c8,a.n.a7.set (f:Int).toNat true,a.n.i9,a.n.i6,a.n.b8,a.n.f0⟩:=
      ⟨h.id,h.pr,h.vl,h.vs,h.kl,h.ks,h.sq,h.ql,h.qs,.inr (.inr (.inr ⟨q1,q2,q3,q4,by simpa using q5,by
       show (a.n.a7.set f true)[a.n.Id.toNat]?=some true
       rw [g0t];split
       ·rw [if_pos (by omega)]
       ·exact q6,q7⟩)),h.wt⟩
     have l1:=a07 a.n.Id ⟨5,0,0,0,m.g8,a.n.c8,[]⟩;rw [a5Y (by exact hid) (by simp only;omega),f8M];simp only;rw [c8C (a:=⟨⟨a.n.Id,a.n.Acc,a.n.a6,a.n.Seq,a.n.d6,a.n.a8,a.n.c9,a.n.i4,a.n.c8,a.n.a7.set (f:Int).toNat true,a.n.i9,a.n.i6,a.n.b8,a.n.f0⟩,a.out++J1 a.n.Id ⟨5,0,0,0,m.g8,a.n.c8,[]⟩,a.told⟩) hni q7 q4 (by simp only [f9a];omega) (by simp only;omega),f8M,hsl];simp only [a25,f9i]
   ·simp only [g1d];rw [c0m]
  ·simp only [g1d,g1e,g0Z];rw [c0m]
 ·rw [show (a.n.d6 != 3)=true by simpa using p3];simp only [g1d,g0Z];rw [c0m]
theorem d99{a:p7}(h:NI a.n){m:l8}(hm:MI m)(hk:m.a9=5)(ho:a.out.length<=800)(ht:a.told.length<=800)(hto:m.To=a.n.Id):b9N a m=some (a25 a (a2r a.n m)):=by
 have hkd:=hm.kd.five hk;unfold b9N a2r;cases h1:decide (m.g8<(a.n.a6.length:Int))
 ·cases h2:decide (m.g8>(a.n.a6.length:Int))
  ·simp only [g1e];have hl:a.n.a6.length<40:=by simp at h1 h2;omega
   rw [c8C h hl hkd.2 (by omega) (by omega)];rfl
  ·simp only [g1e,g1d];rw [a8U (by omega)];simp only [f8M,a25,M8,hto,f9C]
 ·simp only [g1d];rw [c0m]
theorem e3M{a:p7}(h:NI a.n){m:l8}(hm:MI m)(hk:m.a9=7)(ho:a.out.length<=800):b7c a m=some (Z1 a (a12 a.n m)):=by
 have hql:=h.ql;obtain ⟨e1,e2⟩:z4 m.g9=true/\m.g9.i7=false:=by
  rcases hm.kd with q|q|q|q|q|q|q
  ·omega
  ·omega
  ·omega
  ·omega
  ·omega
  ·exact ⟨q.2.2.2.1,q.2.2.2.2.1⟩
  ·omega
 unfold b7c a12;rw [show decide ((a.n.f0.length:Int)>=4)=decide (4<=a.n.f0.length) by simp;omega,e1f (h.ok.2.2.1.fits (by decide))];cases a.n.d6==0
 ·simp only [g1e,f9B];cases h4:decide (4<=a.n.f0.length)
  ·simp only [g1e,f9B,f8M];cases N9 a.n.a6 m.g9.a5
   ·simp only [g1e];have hni:NI {a.n with f0:=a.n.f0++[m.g9]}:=h.queue (by simp at h4⊢;omega) (by
     intro e he;rcases f8P.1 he with q|q
     ·exact h.qs e q
     ·rw [f8V.1 q];exact ⟨e1,e2⟩)
    rw [v5 (by omega),b2F (a:=⟨{a.n with f0:=a.n.f0++[m.g9]},a.out,a.told⟩) hni (by simp only;omega)];rfl
   ·simp only [g1d];rw [a7Y]
  ·simp only [g1d,g0Z];rw [a7Y]
 ·simp only [g1d,g0Z];rw [a7Y]
theorem b6l{n:j6}(h:NI n):a7X n=some ⟨n,[],[]⟩:=by
 unfold a7X;rw [b5A h.ok];rfl
theorem d9O{l:List l8}(hl:l.length<=1000)(h:∀m∈l,MI m):A2 152 a0n l:=a0w (by omega) fun m hm=>(h m hm).ok
theorem c4m{a:p7}(h:NI a.n)(ho:a.out.length<=1000)(hm:∀m∈a.out,MI m)(ht:a.told.length<=1000):a1N a=some (a.n,a.out,a.told,a):=by
 unfold a1N;rw [b5A h.ok,f8M,d4c (d9O ho hm),f8M,d8y (by omega)];rfl
theorem c5X{n:j6}{x:j6×List l8}(h:T8 n x)(hl:x.2.length<=1000):a1N ⟨x.1,x.2,[]⟩=some (x.1,x.2,[],⟨x.1,x.2,[]⟩):=c4m h.ni hl h.ms (by simp)
theorem c5r(l:List m9)(prog:List n8):∀(f k:Nat) (regs:List Int) (rs:List r9) (ps:List p8),(U1 l prog f k regs rs ps).Code≠3
 | 0,_,_,_,_=>by simp [U1]
 | f+1,k,regs,rs,ps=>by
  unfold U1;cases prog[k]? with
  | none=>simp
  | some i=>
   simp only;cases i.a9==6
   ·cases i.a9==7
    ·cases (D9 l i regs rs ps).1.all H4
     ·simp
     ·exact c5r l prog f _ _ _ _
    ·simp
   ·exact c5r l prog f _ _ _ _
theorem f04{l:List m9}(hb:C8 l=true)(p:List n8):((B5 l p).Code==3) = !E4 p:=by
 unfold B5;rw [hb,f8Y];cases E4 p
 ·rfl
 ·simpa using c5r l p _ _ _ _ _
theorem f4m{n:j6}(h:NI n):c0y n=some (p6 n.a6).1:=by
 unfold c0y;rw [a8W h.ok,f8M,a1k.2 h];simp only [f8T,g1e];rw [d6Z (okEntries.f h.ok.2.2.1),h.list];rfl
theorem d5Y{prog:List n8}(h:A2 32 okT prog):s7 prog:=h.fits (by decide)
theorem d9F{n:j6}(h:NI n){prog:List n8}(hp:A2 32 okT prog):b9k n prog=some ((L3 n prog).1,(L3 n prog).2,[]):=by
 have hf:=d5Y hp;have hs:=h.sq;have hr:=b0G h hf;have hlen:=c5B n prog;have e0:=c4m (a:=⟨n,[],[]⟩) h (by simp) (by simp) (by simp);rw [a2u] at hr hlen;unfold b9k;rw [a8W h.ok,f8M,a1k.2 h,b6l h,a2u,c0d hf,f4m h];simp only [f8T,g1e,f8M];have hc:((B5 (a2q n) prog).Code==3) = !E4 prog:=f04 (b66 h) prog;rw [show (p6 n.a6).1.g7=a2q n from rfl,d30 (a3c (b66 h)) hf];unfold L9 at hr hlen⊢;rw [hc] at hr hlen⊢;cases hb:n.i9
 ·cases hq:n.Seq==1000
  ·cases hpo:E4 prog
   ·simp only [f9x,g1d,g1e,e0,f8M];rfl
   ·rw [hb,hq,hpo] at hr hlen;have hca:L9 n prog=true:=by unfold L9;rw [hc,hb,hq,hpo];rfl
    have hn:=h.asked hf hca;simp only [f8T,f9x,Bool.or_false,g1d,g1e,f8M] at hr hlen⊢;rw [C5 (by omega) (by omega)];have ha:(⟨⟨n.Id,n.Acc,n.a6,n.Seq+1,n.d6,n.a8,n.c9,n.i4,n.c8,n.a7,true,prog,⟨false,⟨n.Id,n.Seq+1⟩,B5 (a2q n) prog⟩,n.f0⟩,[],[]⟩:p7)=⟨Q1 n prog,[],[]⟩:=rfl;have hj:∀x:j6×List l8,T8 n x->x.2.length<=3->b6N ⟨x.1,x.2,[]⟩=some (x.1,x.2,[]):=by
     intro x hx hl;unfold b6N;rw [c5X hx (by omega)];rfl
    rw [ha];cases h2:n.d6==2
    ·rw [h2] at hr hlen;cases h0:n.d6==0
     ·rw [h0] at hr hlen;simp only [g1e,f8M,l9.go] at hr hlen⊢;exact hj _ hr hlen
     ·rw [h0] at hr hlen;simp only [g1e,g1d] at hr hlen⊢;rw [a5Y (a:=⟨Q1 n prog,[],[]⟩) (by exact h.id) (by simp)];simp only [f8M,l9.go,f9M];exact hj (Q1 n prog,_) hr hlen
    ·rw [h2] at hr hlen;simp only [g1d] at hr hlen⊢;rw [b2F (a:=⟨Q1 n prog,[],[]⟩) hn (by simp)];simp only [f8M,l9.go,Z1,f9M];exact hj _ hr hlen
  ·simp only [g1d,g1e,e0,f8M];rfl
 ·simp only [g1d,e0,f8M];rfl
theorem e2B{b who:Int}(hb:0<=b/\b<=3000)(hw:0<=who/\who<=2):b88 b who=some (M4 b who):=by
 have e:∀i:Int,1<=i->i<=4->a2A who (b+i)=some (bif decide (b+i<=3000) then (bif f9p (b+i) 3==who then .ret (b+i) else .nxt (b+(i+1))) else .brk ()):=by
  intro i h1 h3;unfold a2A;rw [show decide (b+i>0)=true by simp;omega,d7u,C5 (by omega) (by omega),Int.add_assoc];cases hd:decide (b+i<=3000)
  ·rfl
  ·rw [show a0d (b+i)=f9p (b+i) 3 by
    unfold a0d;rw [I0.2 ⟨by omega,by simpa using hd⟩];rfl]
   simp only [g1d,f8M];cases f9p (b+i) 3==who<;>rfl
 have hmod:∀i:Int,1<=i->f9p (b+i) 3=(b+i) % 3:=fun i hi=>Int.tmod_eq_emod_of_nonneg (by omega)
 have e1:=e 1 (by omega) (by omega);have e2:=e 2 (by omega) (by omega);have e3:=e 3 (by omega) (by omega);have m1:=hmod 1 (by omega);have m2:=hmod 2 (by omega);have m3:=hmod 3 (by omega);unfold b88 M4;rw [show decide (b<0)=false by simp;omega,N7,show p9 who 0 2=true from I0.2 hw,C5 (by omega) (by omega)];simp only [g1e,f8M,f8T];cases q1:decide (b+1<=3000)
 ·rw [q1] at e1;rw [C7 (body:=fun s:Int=>a2A who s) e1,show decide (b+2<=3000)=false by simp at q1⊢;omega,show decide (b+3<=3000)=false by simp at q1⊢;omega];rfl
 rw [q1] at e1;cases t1:f9p (b+1) 3==who;case true=>rw [t1] at e1;rw [W4 (body:=fun s:Int=>a2A who s) e1];rfl
 rw [t1] at e1;rw [E8 (body:=fun s:Int=>a2A who s) e1];cases q2:decide (b+2<=3000)
 ·rw [show (1:Int)+1=2 from rfl];rw [q2] at e2;rw [C7 (body:=fun s:Int=>a2A who s) e2,show decide (b+3<=3000)=false by simp at q2⊢;omega];rfl
 rw [q2] at e2;rw [show (1:Int)+1=2 from rfl];cases t2:f9p (b+2) 3==who;case true=>rw [t2] at e2;rw [W4 (body:=fun s:Int=>a2A who s) e2];rfl
 rw [t2] at e2;rw [E8 (body:=fun s:Int=>a2A who s) e2,show (2:Int)+1=3 from rfl];cases q3:decide (b+3<=3000)
 ·rw [q3] at e3;rw [C7 (body:=fun s:Int=>a2A who s) e3];rfl
 rw [q3] at e3;have t3:(f9p (b+3) 3==who)=true:=by
  simp only [beq_eq_false_iff_ne,beq_iff_eq] at t1 t2⊢;omega
 rw [t3] at e3;rw [W4 (body:=fun s:Int=>a2A who s) e3,t3];rfl
theorem d9i{n:j6}(h:NI n):b7k n=some (Y6 n):=by
 have hr:=a92 h;have hl:=b5G n;have hj:∀x:j6×List l8,T8 n x->x.2.length<=3->b5r ⟨x.1,x.2,[]⟩=some x:=by
  intro x hx hl;unfold b5r;rw [c5X hx (by omega)];rfl
 unfold b7k;unfold Y6 at hr hl⊢;rw [a8W h.ok,f8M,a1k.2 h,b6l h,e2B h.pr h.id];simp only [f8T,g1e,f8M];cases hd:decide (M4 n.Acc.i0 n.Id<0)
 ·rw [hd] at hr hl;simp only [decide_eq_false_iff_not] at hd;obtain ⟨c1,c2⟩:=h.accOk;rcases b8M h.pr h.id with q|⟨q1,q2,q3,q4⟩
  ·omega
  ·have hpr:=h.pr;rw [show decide (M4 n.Acc.i0 n.Id>=0)=true by simp;omega];simp only [g1d,g1e,c2A,f8M] at hr hl⊢;rw [b8I (a:=(a3R n).Acc) c1 c2,show I2 (a3R n).Acc (M4 n.Acc.i0 n.Id)=some ⟨M4 n.Acc.i0 n.Id,n.Acc.a7⟩ from b86 (a:=n.Acc) (by omega) q3 (by omega),f8M,d8E (by exact h.id),f8M];simp only;have ha:=a5Y (a:=⟨⟨n.Id,⟨M4 n.Acc.i0 n.Id,n.Acc.a7⟩,n.a6,n.Seq,1,M4 n.Acc.i0 n.Id,a1w n.Id,n.Acc.a7,zE,[],n.i9,n.i6,n.b8,n.f0⟩,[],[]⟩) h.id (by simp) ⟨1,0,0,M4 n.Acc.i0 n.Id,(n.a6.length:Int),zE,[]⟩;refine (congrArg (fun x:Option p7=>((x.bind fun all=>some (l9.brk all)).bind fun x:l9 (j6×List l8) p7=>x.go some fun j=>b5r j)) ha).trans ?_;simp only [f8M,l9.go,f9M];have e:=hj _ hr hl;exact e
 ·rw [hd] at hr hl;rw [show decide (M4 n.Acc.i0 n.Id>=0)=false by simp at hd⊢;omega];simp only [g1e,g1d,f8M,l9.go] at hr hl⊢;exact hj (n,[]) hr hl
theorem e1L{n:j6}(h:NI n):b7h n=some ((W5 n).1,(W5 n).2,[]):=by
 have hr:=b07 h;have hl:=c1Q n;have hj:∀x:j6×List l8,T8 n x->x.2.length<=6->c0w ⟨x.1,x.2,[]⟩=some (x.1,x.2,[]):=by
  intro x hx hl;unfold c0w;rw [c5X hx (by omega)];rfl
 have l0:=a07 n.Id ⟨8,0,0,0,(n.a6.length:Int),zE,[]⟩;unfold b7h;unfold W5 at hr hl⊢;rw [a8W h.ok,f8M,a1k.2 h,b6l h];simp only [f8T,g1e,f8M];rw [a5Y (a:=⟨n,[],[]⟩) (by exact h.id) (by simp)];simp only [f8M,f9M];have l1:(J1 n.Id ⟨8,0,0,0,(n.a6.length:Int),⟨false,⟨0,0⟩,⟨[],[],0,0⟩⟩,[]⟩).length<=3:=l0;cases h1:n.d6==1
 ·cases h2:n.d6==2
  ·cases h3:n.d6==3
   ·cases hbz:n.i9
    ·rw [h1,h2,h3,hbz] at hr hl;simp only [g1e,f8M,l9.go] at hr hl⊢;have e:=hj _ hr hl;exact e
    ·rw [h1,h2,h3,hbz] at hr hl;simp only [g1e,g1d] at hr hl⊢;rw [a5Y (by exact h.id) (by simp only;omega)];simp only [f8M,l9.go];have e:=hj _ hr hl;exact e
   ·rw [h1,h2,h3] at hr hl;simp only [g1e,g1d] at hr hl⊢;rw [a5Y (by exact h.id) (by simp only;omega)];simp only [f8M,l9.go];have e:=hj _ hr hl;exact e
  ·rw [h1,h2] at hr hl;simp only [g1e,g1d] at hr hl⊢;rw [b2F (by exact h) (by simp only;omega)];simp only [f8M,l9.go];have e:=hj _ hr hl;exact e
 ·rw [h1] at hr hl;simp only [g1d] at hr hl⊢;rw [a5Y (by exact h.id) (by simp only;omega)];simp only [f8M,l9.go];have e:=hj _ hr hl;exact e
theorem e3t{n:j6}(h:NI n):b82 n=some (a1e n):=by
 unfold b82;rw [a8W h.ok,f8M,a1k.2 h];simp only [f8T,g1e];rw [show (⟨n.Id,n.Acc,n.a6,n.Seq,0,0,[],[],⟨false,⟨0,0⟩,⟨[],[],0,0⟩⟩,[],false,[],⟨false,⟨0,0⟩,⟨[],[],0,0⟩⟩,[]⟩:j6)=a1e n from rfl,b5A h.fall.ok];rfl
theorem d5i{n:j6}(h:NI n){m:l8}(hto:m.To=n.Id):∀(d k:Nat) (o:List l8),n.a6.length-k=d->o.length<=k->o7 (fun s:Int×p7=>a55 m s.1 s.2) ((k:Int),⟨n,o,[]⟩)=some (.brk ⟨n,o++((f8W d).map fun j=>a1q n m (k+j)).flatten,[]⟩)
 | 0,k,o,hd,ho=>by
  have hkl:=h.kl;refine (C7 (body:=fun s:Int×p7=>a55 m s.1 s.2) (b:=⟨n,o,[]⟩) ?_).trans (by simp);unfold a55;rw [show decide ((k:Int)<(n.a6.length:Int))=false by simp;omega];rfl
 | d+1,k,o,hd,ho=>by
  have hkl:=h.kl;have hlt:k<n.a6.length:=by omega
  have hb:a55 m (k:Int) ⟨n,o,[]⟩=some (.nxt (((k+1:Nat):Int),⟨n,o++a1q n m k,[]⟩)):=by
   unfold a55;rw [w6 _ k hlt,g1d];simp only;rw [t0 hlt,f8M,a8U (by simp only;omega),b7C m hlt,E6 (h.ok.2.2.1.fits (by decide)) hlt];simp only [f8M,M8,hto]
  rw [E8 (body:=fun s:Int×p7=>a55 m s.1 s.2) (s:=((k:Int),⟨n,o,[]⟩)) hb,d5i h hto d (k+1) _ (by omega) (by rw [b7C m hlt];simp;omega)];rw [List.range_succ_eq_map,f9z,f9t,f9i,g0W];simp only [g0z,Function.comp_def,Nat.succ_eq_add_one,Nat.add_assoc,Nat.add_comm 1]
theorem e4c{n:j6}(h:NI n){m:l8}(hm:MI m)(hto:m.To=n.Id):b5F n m=some (X2 n m):=by
 have hr:=b4O h hm;have hl:=b8D h m;have hj:∀x:j6×List l8×List n6,a7h n x->x.2.1.length<=60->x.2.2.length<=1->c0j ⟨x.1,x.2.1,x.2.2⟩=some x:=by
  intro x hx h1 h2;unfold c0j;rw [c4m hx.ni (by simp only;omega) hx.ms (by simp only;omega)];rfl
 have hz:NI (⟨n,[],[]⟩:p7).n:=h;unfold b5F;unfold X2 at hr hl⊢;rw [a8W h.ok,f8M,a1k.2 h,b6l h,d8w hm.ok,d6N.2 hm,show (m.To != n.Id)=false by simpa using hto];simp only [f8T,g1e,f8M];by_cases k1:m.a9=1
 ·rw [show (m.a9==1)=true by simpa using k1] at hr hl⊢;simp only [g1d] at hr hl⊢;rw [e7I (a:=⟨n,[],[]⟩) h hm (by simp) hto];have e:=hj _ hr hl.1 hl.2;exact e
 rw [show (m.a9==1)=false by simpa using k1] at hr hl⊢;by_cases k2:m.a9=2
 ·rw [show (m.a9==2)=true by simpa using k2] at hr hl⊢;simp only [g1d,g1e] at hr hl⊢;rw [f4Q (a:=⟨n,[],[]⟩) h hm k2 (by simp)];have e:=hj _ hr hl.1 hl.2;exact e
 rw [show (m.a9==2)=false by simpa using k2] at hr hl⊢;by_cases k3:m.a9=3
 ·rw [show (m.a9==3)=true by simpa using k3] at hr hl⊢;simp only [g1d,g1e] at hr hl⊢;rw [e4S (a:=⟨n,[],[]⟩) h hm (by simp) hto];have e:=hj _ hr hl.1 hl.2;exact e
 rw [show (m.a9==3)=false by simpa using k3] at hr hl⊢;by_cases k4:m.a9=4
 ·rw [show (m.a9==4)=true by simpa using k4] at hr hl⊢;simp only [g1d,g1e] at hr hl⊢;rw [e2w (a:=⟨n,[],[]⟩) h hm (by simp) (by simp)];have e:=hj _ hr hl.1 hl.2;exact e
 rw [show (m.a9==4)=false by simpa using k4] at hr hl⊢;by_cases k5:m.a9=5
 ·rw [show (m.a9==5)=true by simpa using k5] at hr hl⊢;simp only [g1d,g1e] at hr hl⊢;rw [d99 (a:=⟨n,[],[]⟩) h hm k5 (by simp) (by simp) hto];have e:=hj _ hr hl.1 hl.2;exact e
 rw [show (m.a9==5)=false by simpa using k5] at hr hl⊢;by_cases k6:m.a9=6
 ·rw [show (m.a9==6)=true by simpa using k6] at hr hl⊢;obtain ⟨c1,c2⟩:=h.accOk;simp only [g1d,g1e] at hr hl⊢;rw [b8I c1 c2];cases hp:I2 n.Acc m.a8
  ·rw [hp] at hr;simp only [f8M,b59,l9.go];have e:=hj _ hr hl.1 hl.2;exact e
  ·rw [hp] at hr;simp only [f8M,b59,l9.go];have e:=hj _ hr hl.1 hl.2;exact e
 rw [show (m.a9==6)=false by simpa using k6] at hr hl⊢;by_cases k7:m.a9=7
 ·rw [show (m.a9==7)=true by simpa using k7] at hr hl⊢;simp only [g1d,g1e] at hr hl⊢;rw [e3M (a:=⟨n,[],[]⟩) h hm k7 (by simp)];have e:=hj _ hr hl.1 hl.2;exact e
 rw [show (m.a9==7)=false by simpa using k7] at hr hl⊢;cases k8:m.a9==8
 ·rw [k8] at hr hl;simp only [g1e,f8M,l9.go] at hr hl⊢;have e:=hj _ hr hl.1 hl.2;exact e
 ·rw [k8] at hr hl;have hs:=hm.sl;obtain ⟨k,hk⟩:∃k:Nat,m.g8=(k:Int):=⟨m.g8.toNat,by omega⟩
  simp only [g1e,g1d] at hr hl⊢;unfold a4u at hr hl⊢;rw [hk] at hr hl⊢;rw [f9r] at hr hl⊢;rw [d5i h hto (n.a6.length-k) k [] rfl (by simp)];have e:=hj _ hr hl.1 hl.2;exact e
theorem c7n{l:List l8}(hl:s7 l):∀(d k:Nat) (net:List l8),net.length<=40->l.length-k=d->o7 (fun s:(List l8)×Int=>a4a l s.1 s.2) (net,(k:Int))=some (.brk (net++(l.drop k).take (40-net.length)))
 | 0,k,net,hn,hd=>by
  refine (C7 (body:=fun s:(List l8)×Int=>a4a l s.1 s.2) (b:=net) ?_).trans (by rw [f9q (by omega)];simp);unfold a4a;rw [show decide ((k:Int)<(l.length:Int))=false by simp;omega];rfl
 | d+1,k,net,hn,hd=>by
  have hlt:k<l.length:=by omega
  rw [f9j hlt];by_cases h40:net.length<40
  ·rw [E8 (body:=fun s:(List l8)×Int=>a4a l s.1 s.2) (t:=(net++[l[k]],((k+1:Nat):Int))) (by
    unfold a4a b8g;rw [w6 _ k hlt,g1d,t0 hlt,f8M,show decide ((net.length:Int)<40)=true by simp;omega,g1d,v5 (by simp only;omega),E6 hl hlt];rfl),c7n hl d (k+1) _ (by simp;omega) (by omega),f9a,f9Y,show 40-net.length=(40-(net.length+1))+1 by omega,g0P,f9i]
   rfl
  ·rw [E8 (body:=fun s:(List l8)×Int=>a4a l s.1 s.2) (t:=(net,((k+1:Nat):Int))) (by
    unfold a4a b8g;rw [w6 _ k hlt,g1d,t0 hlt,f8M,show decide ((net.length:Int)<40)=false by simp;omega,g1e,E6 hl hlt];rfl),c7n hl d (k+1) _ hn (by omega),show 40-net.length=0 by omega,f9D,f9D]
theorem c2O{l:List n6}(hl:s7 l):∀(d k:Nat) (net:List n6),net.length<=60->l.length-k=d->o7 (fun s:(List n6)×Int=>a31 l s.1 s.2) (net,(k:Int))=some (.brk (net++(l.drop k).take (60-net.length)))
 | 0,k,net,hn,hd=>by
  refine (C7 (body:=fun s:(List n6)×Int=>a31 l s.1 s.2) (b:=net) ?_).trans (by rw [f9q (by omega)];simp);unfold a31;rw [show decide ((k:Int)<(l.length:Int))=false by simp;omega];rfl
 | d+1,k,net,hn,hd=>by
  have hlt:k<l.length:=by omega
  rw [f9j hlt];by_cases h40:net.length<60
  ·rw [E8 (body:=fun s:(List n6)×Int=>a31 l s.1 s.2) (t:=(net++[l[k]],((k+1:Nat):Int))) (by
    unfold a31 c0T;rw [w6 _ k hlt,g1d,t0 hlt,f8M,show decide ((net.length:Int)<60)=true by simp;omega,g1d,v5 (by simp only;omega),E6 hl hlt];rfl),c2O hl d (k+1) _ (by simp;omega) (by omega),f9a,f9Y,show 60-net.length=(60-(net.length+1))+1 by omega,g0P,f9i]
   rfl
  ·rw [E8 (body:=fun s:(List n6)×Int=>a31 l s.1 s.2) (t:=(net,((k+1:Nat):Int))) (by
    unfold a31 c0T;rw [w6 _ k hlt,g1d,t0 hlt,f8M,show decide ((net.length:Int)<60)=false by simp;omega,g1e,E6 hl hlt];rfl),c2O hl d (k+1) _ hn (by omega),show 60-net.length=0 by omega,f9D,f9D]
theorem b0D{w:m5}(hn:w.a0.length=3)(f0m:w.d7.length<=40)(htl:w.Told.length<=60){n:j6}(hid:0<=n.Id/\n.Id<=2){l:List l8}(hl:l.length<=100){t:List n6}(ht:t.length<=100):a5G w n l t=some (a83 (a0Q (O5 w n.Id n) l) t):=by
 obtain ⟨k,hk⟩:∃k:Nat,n.Id=(k:Int):=⟨n.Id.toNat,by omega⟩
 unfold a5G;rw [hk,t0 (show k<w.a0.length by omega),f8M];rw [show o7 (fun s:(List l8)×Int=>a4a l s.1 s.2) (w.d7,0)=_ from c7n (by unfold s7;omega) l.length 0 w.d7 f0m (by omega)];simp only [f8M,l9.go,c3h];rw [show o7 (fun s:(List n6)×Int=>a31 t s.1 s.2) (w.Told,0)=_ from c2O (by unfold s7;omega) t.length 0 w.Told htl (by omega)];simp only [f8M,l9.go,c3V,g0a,hk];rfl
theorem e59{l:List l8}{k:Nat}(hk:k<l.length)(hl:l.length<=100):b3I l (k:Int)=some (l.take k++l.drop (k+1)):=by
 unfold b3I;rw [C5 (by omega) (by omega)];have e1:((k:Int)+1).toNat=k+1:=by omega
 have l1:((l.drop 0).take ((k:Int).toNat-0)).length<=100:=by simp;omega
 have l2:((l.drop (k+1)).take (l.length-(k+1))).length<=100:=by simp;omega
 rw [v5 (by omega),v5 (by simp only [g0B];omega),v5 (by omega),e1,v5 (by simp only [f9a,g0B];omega)];rw [c4P];simp
theorem e6S(n:j6)(p:List n8):(L9 n p=true/\(L3 n p).1.Seq=n.Seq+1/\(L3 n p).1.b8.a5=⟨n.Id,n.Seq+1⟩)\/(L9 n p=false/\L3 n p=(n,[])):=by
 cases hc:L9 n p
 ·right
  rw [a2u,hc];exact ⟨rfl,rfl⟩
 ·left
  refine ⟨rfl,?_,?_⟩
  ·rw [a2u,hc];simp only [g1d];cases n.d6==2
   ·rfl
   ·exact (b73 (Q1 n p)).seq
  ·rw [b9s hc];rfl
def onN(w:m5)(e:s5):m5:=
 bif e.a9==1 then a3S w e.A e.i6 else
 bif e.a9==5 then a0Q (O5 w e.A (Y6 (I3 w e.A)).1) (Y6 (I3 w e.A)).2 else
 bif e.a9==6 then a0Q (O5 w e.A (W5 (I3 w e.A)).1) (W5 (I3 w e.A)).2 else
 bif e.a9==7 then O5 w e.A (a1e (I3 w e.A)) else w
theorem c35(w:m5)(e:s5):E5 w e=bif e.a9==2||(e.a9==3||e.a9==4) then a1a w e else bif p9 e.A 0 2 then onN w e else w:=by
 unfold E5 onN;cases e.a9==2||(e.a9==3||e.a9==4)
 ·cases p9 e.A 0 2<;>rfl
 ·rfl
theorem f7t{w:m5}(h:WI w){e:s5}(he:N4 e)(hi:p9 e.A 0 2=true):a5W w e=some (onN w e):=by
 rw [I0] at hi;obtain ⟨i,hA⟩:∃i:Nat,e.A=(i:Int):=⟨e.A.toNat,by omega⟩
 obtain ⟨n,hg,hn,hid,hni,hlt⟩:=a38 h (i:=i) (by omega);have hal:=h.al;unfold a5W onN;rw [hA,a8G,hg,f8M,hn];cases e.a9==1
 ·cases e.a9==5
  ·cases e.a9==6
   ·cases e.a9==7
    ·rfl
    ·simp only [g1d,g1e];rw [e3t hni,f8M,b0D h.nl h.ml h.tl (by exact hni.id) (by simp) (by simp),f8M,a3i,c5o];simp only [f8M,l9.go,b9z];rw [show (a1e n).Id=(i:Int) from hid]
   ·simp only [g1d,g1e];have hr:=b07 hni;have hl:=c1Q n;rw [e1L hni,f8M];simp only;rw [b0D h.nl h.ml h.tl (by rw [hr.id];exact hni.id) (by omega) (by simp),f8M,a3i,hr.id,hid];rfl
  ·simp only [g1d,g1e];have hr:=a92 hni;have hl:=b5G n;rw [d9i hni,f8M,b0D h.nl h.ml h.tl (by rw [hr.id];exact hni.id) (by omega) (by simp),f8M,a3i,hr.id,hid];rfl
 ·simp only [g1d];unfold a3S;rw [show decide ((w.d9.length:Int)>=60)=decide (60<=w.d9.length) by simp;omega];cases decide (60<=w.d9.length)
  ·simp only [g1e];have hr:=b0G hni (d5Y he);have hl:=c5B n e.i6;rw [d9F hni he,f8M];simp only;rw [b0D h.nl h.ml h.tl (by rw [hr.id];exact hni.id) (by omega) (by simp),f8M,a3i,hr.id,hid,hn];rcases e6S n e.i6 with ⟨c1,c2,c3⟩|⟨c1,c2⟩
   ·rw [show ((L3 n e.i6).1.Seq != n.Seq)=true by rw [c2];simp;omega,show decide ((L3 n e.i6).1.Seq>n.Seq)=true by rw [c2];simp;omega];simp only [g1d];rw [v5 (by show (w.d9.length+1)*40<=_;omega)];simp only [f8M,l9.go,b9z];rw [c3,c2,hid];rfl
   ·rw [c2,show (n.Seq != n.Seq)=false by simp,show decide (n.Seq>n.Seq)=false by simp];rfl
  ·rfl
theorem f0s{w:m5}(h:WI w){e:s5}{k:Nat}(hA:e.A=(k:Int))(hk:k<w.d7.length)(hkd:(e.a9==2||(e.a9==3||e.a9==4))=true):a8X w e=some (a1a w e):=by
 have hml:=h.ml;unfold a8X a1a;rw [hA,t0 hk,f8M,show decide (0<=(k:Int))=true by simp,f9r,f8N hk];have hm:=h.ms _ (f8Q hk);generalize w.d7[k]=m at hm;have hof:=e59 hk (by omega);have ht:=hm.to;obtain ⟨t,htt⟩:∃t:Nat,m.To=(t:Int):=⟨m.To.toNat,by omega⟩
 simp only [g1d];by_cases k2:e.a9=2
 ·rw [show (e.a9==2)=true by simpa using k2,show (e.a9==4)=false by simp [k2],show (e.a9==3)=false by simp [k2]];simp only [g1d,g1e];have ho:=h.off (k:Int);obtain ⟨n,hg,hn,hid,hni,hlt⟩:=a38 ho (i:=t) (by omega);have hn':I3 w (t:Int)=n:=hn;have hg':w.a0[t]?=some n:=hg;have hr:=b4O hni hm;obtain ⟨l1,l2⟩:=b8D hni m;rw [hof,f8M,htt,a8G,hg',f8M,e4c hni hm (htt.trans hid.symm),f8M,b0D (w:=⟨w.a0,w.d7.take k++w.d7.drop (k+1),w.d9,w.Told⟩) h.nl ho.ml h.tl (by rw [hr.id];exact hni.id) (by omega) (by omega),f8M,hn',hr.id,hid];rfl
 ·rw [show (e.a9==2)=false by simpa using k2];cases k3:e.a9==3
  ·rw [show (e.a9==4)=true by rw [show (e.a9==2)=false by simpa using k2,k3] at hkd;simpa using hkd];simp only [g1d,g1e];obtain ⟨n,hg,hn,hid,hni,hlt⟩:=a38 h (i:=t) (by omega);rw [htt,a8G,hg,f8M,b0D h.nl h.ml h.tl hni.id (by simp) (by simp),f8M,a3i,hid,c4y hg];rfl
  ·rw [show (e.a9==4)=false by simp only [beq_iff_eq] at k3;simp [k3]];simp only [g1d,g1e];rw [hof];rfl
theorem d2M{w:m5}(h:WI w){e:s5}(he:N4 e):b19 w e=some (E5 w e):=by
 have hd:=c1l h he;have hml:=h.ml;have hcp:a1U w=some w:=b7a h.ok;have hcd:a1U (E5 w e)=some (E5 w e):=b7a hd.ok;have hin:m7 ((w.a0.length:Int)-1)=2:=by rw [h.nl];rfl
 have hnode:(e.a9==2||(e.a9==3||e.a9==4))=false->((D7 e.A 0 2).bind fun in_=>bif in_ then (a5W w e).bind fun o=>some (l9.brk o) else some (l9.brk w):Option (l9 m5 m5))=some (.brk (E5 w e)):=by
  intro hk;rw [N7,f8M,c35,hk];cases hi:p9 e.A 0 2
  ·rfl
  ·simp only [g1d,g1e];rw [f7t h he hi];rfl
 have hmsg:(e.a9==2||(e.a9==3||e.a9==4))=true->((D7 e.A 0 (m7 ((w.d7.length:Int)-1))).bind fun in_=>bif in_ then (a8X w e).bind fun o=>some (l9.brk o) else some (l9.brk w):Option (l9 m5 m5))=some (.brk (E5 w e)):=by
  intro hk;rw [C5 (by omega) (by omega),N7,f8M,c35,hk];cases hi:p9 e.A 0 ((w.d7.length:Int)-1)
  ·simp only [g1d,g1e];rw [show a1a w e=w by
    unfold a1a;cases h0:decide (0<=e.A)
    ·rfl
    ·have:¬(0<=e.A/\e.A<=(w.d7.length:Int)-1):=fun q=>by rw [I0.2 q] at hi;cases hi
     have h0':0<=e.A:=of_decide_eq_true h0;rw [f9m (by omega)];rfl]
  ·rw [I0] at hi;simp only [g1d];rw [f0s h (k:=e.A.toNat) (by omega) (by omega) hk];rfl
 unfold b19;rw [hcp,f8M,hin];by_cases k1:e.a9=1
 ·have hf:(e.a9==2||(e.a9==3||e.a9==4))=false:=by simp [k1]
  rw [show (e.a9==1)=true by simpa using k1];simp only [g1d];rw [hnode hf];simp only [f8M,l9.go,c2Q,hcd]
 rw [show (e.a9==1)=false by simpa using k1];by_cases k5:e.a9=5
 ·have hf:(e.a9==2||(e.a9==3||e.a9==4))=false:=by simp [k5]
  rw [show (e.a9==5)=true by simpa using k5];simp only [g1d,g1e];rw [hnode hf];simp only [f8M,l9.go,c3O,hcd]
 rw [show (e.a9==5)=false by simpa using k5];by_cases k6:e.a9=6
 ·have hf:(e.a9==2||(e.a9==3||e.a9==4))=false:=by simp [k6]
  rw [show (e.a9==6)=true by simpa using k6];simp only [g1d,g1e];rw [hnode hf];simp only [f8M,l9.go,c2k,hcd]
 rw [show (e.a9==6)=false by simpa using k6];simp only [g1e];have fin:∀X:Option (l9 m5 m5),X=some (.brk (E5 w e))->(X.bind fun x=>x.go some fun j=>b8j j)=some (E5 w e):=by
  intro X hX;rw [hX];simp only [f8M,l9.go,b8j,hcd]
 refine fin _ ?_;by_cases k7:e.a9=7
 ·rw [show (e.a9==7)=true by simpa using k7];exact hnode (by simp [k7])
 rw [show (e.a9==7)=false by simpa using k7];by_cases k2:e.a9=2
 ·rw [show (e.a9==2)=true by simpa using k2];exact hmsg (by simp [k2])
 by_cases k3:e.a9=3
 ·rw [show (e.a9==2)=false by simpa using k2,show (e.a9==3)=true by simpa using k3];exact hmsg (by simp [k3])
 by_cases k4:e.a9=4
 ·rw [show (e.a9==2)=false by simpa using k2,show (e.a9==3)=false by simpa using k3,show (e.a9==4)=true by simpa using k4];exact hmsg (by simp [k4])
 have e2:(e.a9==2)=false:=by simpa using k2
 have e3:(e.a9==3)=false:=by simpa using k3
 have e4:(e.a9==4)=false:=by simpa using k4
 rw [e2,e3,e4,c35,e2,e3,e4];have:onN w e=w:=by
  unfold onN;rw [show (e.a9==1)=false by simpa using k1,show (e.a9==5)=false by simpa using k5,show (e.a9==6)=false by simpa using k6,show (e.a9==7)=false by simpa using k7];rfl
 rw [this];cases p9 e.A 0 2<;>rfl
theorem e24{w:m5}(h:WI w){e:s5}(he:N4 e):b7L w e=some (E5 w e):=by
 unfold b7L;rw [a5i h.ok,f8M,W0.2 h];simp only [f8T,g1e];rw [d2M h he];rfl
theorem c9i{l:List s5}(hl:s7 l)(he:∀e∈l,N4 e):∀(d k:Nat) (w:m5),WI w->l.length-k=d->o7 (fun s:Int×m5=>a7n l s.1 s.2) ((k:Int),w)=some (.brk (b1E w (l.drop k)))
 | 0,k,w,h,hd=>by
  rw [f9q (by omega)];refine C7 (body:=fun s:Int×m5=>a7n l s.1 s.2) (b:=w) ?_;unfold a7n;rw [show decide ((k:Int)<(l.length:Int))=false by simp;omega];rfl
 | d+1,k,w,h,hd=>by
  have hlt:k<l.length:=by omega
  have hek:=he _ (f8Q hlt);rw [E8 (body:=fun s:Int×m5=>a7n l s.1 s.2) (t:=(((k+1:Nat):Int),E5 w l[k])) (by
   unfold a7n;rw [w6 _ k hlt,t0 hlt,g1d,f8M,d2M h hek,f8M,E6 hl hlt]),c9i hl he d (k+1) _ (c1l h hek) (by omega),f9j hlt]
  rfl
theorem f5O{w:m5}(h:K5 w){l:List s5}(hl:s7 l)(he:∀e∈l,N4 e):b2G w l=some (bif z9 w&&decide (l.length<=400) then b1E w l else noW):=by
 unfold b2G;rw [a5i h,f8M,show decide ((l.length:Int)>400) = !decide (l.length<=400) from b2P l 400];cases hw:z9 w
 ·rfl
 ·cases decide (l.length<=400)
  ·rfl
  ·simp only [f8T,g1e,Bool.and_self,g1d];rw [b7a h,f8M,show o7 (fun s:Int×m5=>a7n l s.1 s.2) (0,w)=_ from c9i hl he l.length 0 w (W0.1 hw) rfl];rfl
theorem f7w{l:List s5}(he:∀e∈l,N4 e)(hl:l.length<=300):b2G Q9 l=some (b1E Q9 l):=by
 have hf:s7 l:=by unfold s7;omega
 have h:=WI.open;rw [f5O h.ok hf he,W0.2 h,decide_eq_true (by omega)];rfl
def D3(i:Int):Prop:=0<=i/\i<=2
abbrev VR:=Int->Nat->Int->m4->Prop
abbrev PR:=Int->Nat->m4->Prop
abbrev MS:=l8->Prop
def a1M(V:VR)(s:Nat)(e:m4):Prop := ∃b p q,D3 p/\D3 q/\p≠q/\V p s b e/\V q s b e
structure Cov(N:Int->j6)(V:VR)(n:j6)(q:Int):Prop where
 pr:n.a8<=(N q).Acc.i0
 cv:∀s b e,n.a6.length<=s->b<n.a8->V q s b e->∃v,n.i4[s]?=some v/\b<=v.a8
def Quo(p:Int->Prop):Prop := ∃a b,D3 a/\D3 b/\a≠b/\p a/\p b
structure LD(N:Int->j6)(V:VR)(P:PR)(n:j6):Prop where
 bs:n.d6≠0->∀s v,n.i4[s]?=some v->v.a8>0->v.a8<n.a8/\∃q,V q s v.a8 v.g9
 l1:n.d6=1->(∀s e,¬P n.a8 s e)/\∀q,D3 q->n.c9[q.toNat]?=some true->Cov N V n q
 l2:n.d6=2->(∀s e,P n.a8 s e->s<n.a6.length)/\Quo (Cov N V n)
 l3:n.d6=3->P n.a8 n.a6.length n.c8/\(∀s e,P n.a8 s e->s<=n.a6.length)/\Quo (Cov N V n)/\∀q,D3 q->n.a7[q.toNat]?=some true->V q n.a6.length n.a8 n.c8
structure MV(N:Int->j6)(V:VR)(P:PR)(m:l8):Prop where
 k1:m.a9=1->f9p m.a8 3=m.c9/\m.g8<=(N m.c9).a6.length
 k2:m.a9=2->m.g8<=(N m.To).a6.length/\m.a8<=(N m.c9).Acc.i0/\(∀s b e,m.g8.toNat<=s->b<m.a8->V m.c9 s b e->∃v,m.a7[s-m.g8.toNat]?=some v/\b<=v.a8)/\∀k v,m.a7[k]?=some v->v.a8>0->v.a8<=m.a8/\V m.c9 (m.g8.toNat+k) v.a8 v.g9
 k3:m.a9=3->P m.a8 m.g8.toNat m.g9
 k4:m.a9=4->∃e,V m.c9 m.g8.toNat m.a8 e
 k5:m.a9=5->a1M V m.g8.toNat m.g9
def Sf(N:Int->j6)(V:VR)(b:Int)(s:Nat)(e:m4)(q:Int):Prop:=
 b<=(N q).Acc.i0/\∀b' e',b'<b->V q s b' e'->∃b1 q1,b'<=b1/\b1<b/\V q1 s b1 e
structure PX(N:Int->j6)(V:VR)(P:PR)(M:MS):Prop where
 ni:∀i,D3 i->NI (N i)/\(N i).Id=i
 vp:∀i s b e,V i s b e->D3 i/\P b s e/\1<=b/\b<=(N i).Acc.i0
 cur:∀i s v,D3 i->(N i).Acc.a7[s]?=some v->v.a8>0->V i s v.a8 v.g9
 max:∀i s b e,V i s b e->∃v,(N i).Acc.a7[s]?=some v/\b<=v.a8
 pu:∀b s e e',P b s e->P b s e'->e=e'
 po:∀b s e,P b s e->1<=b/\b<=(N (f9p b 3)).Acc.i0
 safe:∀b s e,P b s e->Quo (Sf N V b s e)
 ld:∀i,D3 i->LD N V P (N i)
 kn:∀i s e,D3 i->(N i).a6[s]?=some e->a1M V s e
 ms:∀m,M m->MI m/\MV N V P m
theorem e4d{p q:Int->Prop}(hp:Quo p)(hq:Quo q):∃a,D3 a/\p a/\q a:=by
 obtain ⟨a,b,ha,hb,hab,pa,pb⟩:=hp;obtain ⟨c,d,hc,hd,hcd,qc,qd⟩:=hq;unfold D3 at *;by_cases h1:a=c
 ·exact ⟨a,ha,pa,h1▸qc⟩
 by_cases h2:a=d
 ·exact ⟨a,ha,pa,h2▸qd⟩
 by_cases h3:b=c
 ·exact ⟨b,hb,pb,h3▸qc⟩
 by_cases h4:b=d
 ·exact ⟨b,hb,pb,h4▸qd⟩
 omega
section
variable {N:Int->j6} {V:VR} {P:PR} {M:MS}
theorem PX.later(h:PX N V P M){s:Nat}{b0:Int}{e0:m4}(hc:Quo fun q=>V q s b0 e0):∀(k:Nat) (b:Int) (e:m4),b.toNat=k->b0<=b->P b s e->e=e0:=by
 have h0:P b0 s e0:=by obtain ⟨p,q,_,_,_,v,_⟩:=hc;exact (h.vp _ _ _ _ v).2.1
 intro k;induction k using Nat.strongRecOn with
 | _ k ih=>
  intro b e hb hle hp;by_cases hq:b0=b
  ·subst hq;exact h.pu _ _ _ _ hp h0
  ·obtain ⟨a,ha,v,s1,s2⟩:=e4d hc (h.safe b s e hp);obtain ⟨b1,q1,h1,h2,h3⟩:=s2 b0 e0 (by omega) v;obtain ⟨_,p1,p2,_⟩:=h.vp _ _ _ _ h3;exact ih b1.toNat (by omega) b1 e rfl h1 p1
theorem PX.one(h:PX N V P M){s:Nat}{e e':m4}(h1:a1M V s e)(h2:a1M V s e'):e=e':=by
 obtain ⟨b,p,q,hp,hq,hpq,v1,v2⟩:=h1;obtain ⟨b',p',q',hp',hq',hpq',w1,w2⟩:=h2;have c1:Quo fun q=>V q s b e:=⟨p,q,hp,hq,hpq,v1,v2⟩
 have c2:Quo fun q=>V q s b' e':=⟨p',q',hp',hq',hpq',w1,w2⟩
 rcases Int.le_total b b' with hl|hl
 ·exact (h.later c1 _ b' e' rfl hl (h.vp _ _ _ _ w1).2.1).symm
 ·exact h.later c2 _ b e rfl hl (h.vp _ _ _ _ v1).2.1
theorem PX.still(h:PX N V P M){s:Nat}{e:m4}(hc:a1M V s e):Quo fun q => ∃v,(N q).Acc.a7[s]?=some v/\v.a8>0/\v.g9=e:=by
 obtain ⟨b,p,q,hp,hq,hpq,v1,v2⟩:=hc;have c1:Quo fun q=>V q s b e:=⟨p,q,hp,hq,hpq,v1,v2⟩
 have key:∀a,D3 a->V a s b e->∃v,(N a).Acc.a7[s]?=some v/\v.a8>0/\v.g9=e:=by
  intro a ha va;obtain ⟨v,x1,x2⟩:=h.max _ _ _ _ va;have hb:=(h.vp _ _ _ _ va).2.2.1;have vv:=h.cur a s v ha x1 (by omega);exact ⟨v,x1,by omega,h.later c1 _ v.a8 v.g9 rfl x2 (h.vp _ _ _ _ vv).2.1⟩
 exact ⟨p,q,hp,hq,hpq,key p hp v1,key q hq v2⟩
end
def upd(N:Int->j6)(i:Int)(n:j6):Int->j6:=fun j=>if j=i then n else N j
theorem T0(N:Int->j6)(i:Int)(n:j6):upd N i n i=n:=if_pos rfl
theorem b1u{N:Int->j6}{i j:Int}(n:j6)(h:j≠i):upd N i n j=N j:=if_neg h
theorem a3H(N:Int->j6)(i:Int)(a b:j6):upd (upd N i a) i b=upd N i b:=by
 funext j;unfold upd;split<;>rfl
theorem a9g(N:Int->j6)(i:Int):upd N i (N i)=N:=by
 funext j;unfold upd;split
 ·rename_i h;rw [h]
 ·rfl
theorem a0E.own{n:j6}(h:a0E n)(hp:n.d6≠0):Own n:=by
 rcases h with q|q|q|q
 ·exact absurd q.1 hp
 ·exact q.2.1
 ·exact q.2.1
 ·exact q.2.1
structure Chg(N:Int->j6)(V:VR)(P:PR)(M:MS)(i:Int)(n':j6)(V':VR)(P':PR)(M':MS):Prop where
 ni:NI n'
 id:n'.Id=i
 pr:(N i).Acc.i0<=n'.Acc.i0
 kl:(N i).a6.length<=n'.a6.length
 v1:∀q s b e,V q s b e->V' q s b e
 v2:∀q s b e,V' q s b e->V q s b e\/(q=i/\(N i).Acc.i0<=b/\1<=b/\b<=n'.Acc.i0/\P' b s e)
 p1:∀b s e,P b s e->P' b s e
 p2:∀b s e,P' b s e->P b s e\/(b=n'.a8/\n'.d6=3/\(∀e',P' b s e'->e'=e)/\Quo (Sf (upd N i n') V' b s e))
 cur:∀s v,n'.Acc.a7[s]?=some v->v.a8>0->V' i s v.a8 v.g9
 max:∀s b e,V' i s b e->∃v,n'.Acc.a7[s]?=some v/\b<=v.a8
 ld:LD (upd N i n') V' P' n'
 kn:∀s e,n'.a6[s]?=some e->a1M V' s e
 ms:∀m,M' m->M m\/(MI m/\MV (upd N i n') V' P' m)
section
variable {N:Int->j6} {V:VR} {P:PR} {M:MS} {i:Int} {n':j6} {V':VR} {P':PR} {M':MS}
theorem Chg.prm(c:Chg N V P M i n' V' P' M')(q:Int):(N q).Acc.i0<=(upd N i n' q).Acc.i0:=by
 unfold upd;split
 ·rename_i h;rw [h];exact c.pr
 ·exact f9n _
theorem Chg.len(c:Chg N V P M i n' V' P' M')(q:Int):(N q).a6.length<=(upd N i n' q).a6.length:=by
 unfold upd;split
 ·rename_i h;rw [h];exact c.kl
 ·exact f9f _
theorem Chg.old(c:Chg N V P M i n' V' P' M'){q:Int}{s:Nat}{b x:Int}{e:m4}(hx:x<=(N q).Acc.i0)(hb:b<x)(v:V' q s b e):V q s b e:=by
 rcases c.v2 q s b e v with v|⟨rfl,v1,_⟩
 ·exact v
 ·omega
theorem Chg.cov(c:Chg N V P M i n' V' P' M'){n:j6}{q:Int}(h:Cov N V n q):Cov (upd N i n') V' n q:=
 ⟨f9N h.pr (c.prm q),fun s b e hs hb v=>h.cv s b e hs hb (c.old h.pr hb v)⟩
theorem Quo.imp{p q:Int->Prop}(h:Quo p)(hi:∀a,D3 a->p a->q a):Quo q:=by
 obtain ⟨a,b,ha,hb,hab,pa,pb⟩:=h;exact ⟨a,b,ha,hb,hab,hi a ha pa,hi b hb pb⟩
theorem Chg.sf(c:Chg N V P M i n' V' P' M'){b:Int}{s:Nat}{e:m4}{q:Int}(h:Sf N V b s e q):Sf (upd N i n') V' b s e q:=
 ⟨f9N h.1 (c.prm q),fun b' e' hb v=>by
  obtain ⟨b1,q1,x1,x2,x3⟩:=h.2 b' e' hb (c.old h.1 hb v);exact ⟨b1,q1,x1,x2,c.v1 _ _ _ _ x3⟩⟩
theorem a1M.mono(h:∀q s b e,V q s b e->V' q s b e){s:Nat}{e:m4}(hc:a1M V s e):a1M V' s e:=by
 obtain ⟨b,p,q,hp,hq,hpq,v1,v2⟩:=hc;exact ⟨b,p,q,hp,hq,hpq,h _ _ _ _ v1,h _ _ _ _ v2⟩
theorem Chg.ldo(c:Chg N V P M i n' V' P' M')(hi:D3 i){n:j6}(hn:NI n)(hne:n.Id≠i)(h:LD N V P n):LD (upd N i n') V' P' n:=by
 have hp:n.d6≠0->∀s e,P' n.a8 s e->P n.a8 s e:=by
  intro h0 s e hp;rcases c.p2 _ _ _ hp with q|⟨hb,h3,_⟩
  ·exact q
  ·exfalso
   have o1:=(hn.ld.own h0).mod;have o2:=(c.ni.ld.own (by omega)).mod;rw [<-hb,o1,c.id] at o2;exact hne o2
 refine ⟨fun h0 s v hs hv => ?_,fun h1 => ?_,fun h2 => ?_,fun h3 => ?_⟩
 ·obtain ⟨x1,q,x2⟩:=h.bs h0 s v hs hv;exact ⟨x1,q,c.v1 _ _ _ _ x2⟩
 ·obtain ⟨x1,x2⟩:=h.l1 h1;exact ⟨fun s e q=>x1 s e (hp (by omega) s e q),fun q hq hf=>c.cov (x2 q hq hf)⟩
 ·obtain ⟨x1,x2⟩:=h.l2 h2;exact ⟨fun s e q=>x1 s e (hp (by omega) s e q),x2.imp fun a _=>c.cov⟩
 ·obtain ⟨x1,x2,x3,x4⟩:=h.l3 h3;exact ⟨c.p1 _ _ _ x1,fun s e q=>x2 s e (hp (by omega) s e q),x3.imp fun a _=>c.cov,fun q hq hv=>c.v1 _ _ _ _ (x4 q hq hv)⟩
theorem Chg.msg(c:Chg N V P M i n' V' P' M'){m:l8}(h:MV N V P m):MV (upd N i n') V' P' m:=by
 refine ⟨fun k => ?_,fun k => ?_,fun k=>c.p1 _ _ _ (h.k3 k),fun k => ?_,fun k=>(h.k5 k).mono c.v1⟩
 ·obtain ⟨x1,x2⟩:=h.k1 k;have:=c.len m.c9;exact ⟨x1,by omega⟩
 ·obtain ⟨x1,x2,x3,x4⟩:=h.k2 k;have:=c.len m.To;refine ⟨by omega,f9N x2 (c.prm _),fun s b e hs hb v=>x3 s b e hs hb (c.old x2 hb v),fun k v hk hv => ?_⟩;obtain ⟨y1,y2⟩:=x4 k v hk hv;exact ⟨y1,c.v1 _ _ _ _ y2⟩
 ·obtain ⟨e,x⟩:=h.k4 k;exact ⟨e,c.v1 _ _ _ _ x⟩
theorem PX.step(h:PX N V P M)(hi:D3 i)(c:Chg N V P M i n' V' P' M'):PX (upd N i n') V' P' M':=by
 have hpo:∀b s e,P' b s e->1<=b/\b<=(upd N i n' (f9p b 3)).Acc.i0:=by
  intro b s e hp;rcases c.p2 _ _ _ hp with q|⟨rfl,h3,_⟩
  ·obtain ⟨x1,x2⟩:=h.po _ _ _ q;exact ⟨x1,f9N x2 (c.prm _)⟩
  ·have o:=c.ni.ld.own (by omega);have ho:=o.mod;rw [c.id] at ho;rw [ho,T0];exact ⟨o.b1,o.pr⟩
 refine ⟨fun j hj => ?_,fun j s b e v => ?_,fun j s v hj hs hv => ?_,fun j s b e v => ?_,fun b s e e' p p' => ?_,hpo,fun b s e p => ?_,fun j hj => ?_,fun j s e hj hk => ?_,fun m hm => ?_⟩
 ·by_cases q:j=i
  ·subst q;rw [T0];exact ⟨c.ni,c.id⟩
  ·rw [b1u _ q];exact h.ni j hj
 ·rcases c.v2 _ _ _ _ v with v|⟨rfl,x1,x2,x3,x4⟩
  ·obtain ⟨x1,x2,x3,x4⟩:=h.vp _ _ _ _ v;exact ⟨x1,c.p1 _ _ _ x2,x3,f9N x4 (c.prm _)⟩
  ·rw [T0];exact ⟨hi,x4,x2,x3⟩
 ·by_cases q:j=i
  ·subst q;rw [T0] at hs;exact c.cur s v hs hv
  ·rw [b1u _ q] at hs;exact c.v1 _ _ _ _ (h.cur j s v hj hs hv)
 ·by_cases q:j=i
  ·subst q;rw [T0];exact c.max s b e v
  ·rw [b1u _ q];rcases c.v2 _ _ _ _ v with v|⟨x,_⟩
   ·exact h.max _ _ _ _ v
   ·exact absurd x q
 ·rcases c.p2 _ _ _ p with p|⟨_,_,x,_⟩
  ·rcases c.p2 _ _ _ p' with p'|⟨_,_,x,_⟩
   ·exact h.pu _ _ _ _ p p'
   ·exact x e (c.p1 _ _ _ p)
  ·exact (x e' p').symm
 ·rcases c.p2 _ _ _ p with p|⟨_,_,_,x⟩
  ·exact (h.safe _ _ _ p).imp fun a _=>c.sf
  ·exact x
 ·by_cases q:j=i
  ·subst q;rw [T0];exact c.ld
  ·rw [b1u _ q];exact c.ldo hi (h.ni j hj).1 (by rw [(h.ni j hj).2];exact q) (h.ld j hj)
 ·by_cases q:j=i
  ·subst q;rw [T0] at hk;exact c.kn s e hk
  ·rw [b1u _ q] at hk;exact (h.kn j s e hj hk).mono c.v1
 ·rcases c.ms m hm with q|q
  ·exact ⟨(h.ms m q).1,c.msg (h.ms m q).2⟩
  ·exact q
end
def snd(M:MS)(l:List l8):MS:=fun m=>M m\/m∈l
def M1(N:Int->j6)(M:MS)(i:Int)(n':j6)(l:List l8):Prop := ∃V' P',PX (upd N i n') V' P' (snd M l)
section
variable {N N':Int->j6} {V V':VR} {P P':PR} {M:MS} {i:Int} {n n':j6}
theorem PX.send(h:PX N V P M){l:List l8}(hl:∀m∈l,MI m/\MV N V P m):PX N V P (snd M l):=
 {h with ms:=fun m hm=>hm.elim (h.ms m) (hl m)}
theorem a7U(M:MS):snd M []=M:=by
 funext m;unfold snd;simp
theorem d3l(M:MS)(a b:List l8):snd (snd M a) b=snd M (a++b):=by
 funext m;unfold snd;simp [or_assoc]
theorem M1.same(h:PX N V P M):M1 N M i (N i) []:=⟨V,P,by rw [a9g,a7U];exact h⟩
theorem LD.same(h:LD N V P n)(hpr:∀q,(N q).Acc.i0<=(N' q).Acc.i0)(hV:∀q s b e,V q s b e->V' q s b e)(hold:∀q s b x e,x<=(N q).Acc.i0->b<x->V' q s b e->V q s b e)(hP:∀b s e,P b s e->P' b s e)(hP':∀s e,P' n.a8 s e->P n.a8 s e)(e1:n'.d6=n.d6)(e2:n'.a8=n.a8)(e3:n'.i4=n.i4)(e4:n'.a6=n.a6)(e5:n'.c9=n.c9)(e6:n'.c8=n.c8)(e7:n'.a7=n.a7):LD N' V' P' n':=by
 have hc:∀q,Cov N V n q->Cov N' V' n' q:=fun q c=>by
  refine ⟨by rw [e2];exact f9N c.pr (hpr q),?_⟩;rw [e2,e3,e4];exact fun s b e hs hb v=>c.cv s b e hs hb (hold _ _ _ _ _ c.pr hb v)
 refine ⟨?_,?_,?_,?_⟩
 ·rw [e1,e2,e3];intro h0 s v hs hv;obtain ⟨x1,q,x2⟩:=h.bs h0 s v hs hv;exact ⟨x1,q,hV _ _ _ _ x2⟩
 ·rw [e1,e2,e5];intro h1;obtain ⟨x1,x2⟩:=h.l1 h1;exact ⟨fun s e p=>x1 s e (hP' s e p),fun q hq hf=>hc q (x2 q hq hf)⟩
 ·rw [e1,e2,e4];intro h2;obtain ⟨x1,x2⟩:=h.l2 h2;exact ⟨fun s e p=>x1 s e (hP' s e p),x2.imp fun q _=>hc q⟩
 ·rw [e1,e2,e4,e6,e7];intro h3;obtain ⟨x1,x2,x3,x4⟩:=h.l3 h3;exact ⟨hP _ _ _ x1,fun s e p=>x2 s e (hP' s e p),x3.imp fun q _=>hc q,fun q hq hv=>hV _ _ _ _ (x4 q hq hv)⟩
theorem LD.none(h:n.d6=0):LD N V P n:=⟨fun q=>absurd h q,fun q=>by omega,fun q=>by omega,fun q=>by omega⟩
theorem a9w(hpr:(N i).Acc.i0<=n'.Acc.i0)(q:Int):(N q).Acc.i0<=(upd N i n' q).Acc.i0:=by
 unfold upd;split
 ·rename_i h;rw [h];exact hpr
 ·exact f9n _
theorem PX.quiet(h:PX N V P M)(hi:D3 i)(hni:NI n')(hid:n'.Id=i)(hpr:(N i).Acc.i0<=n'.Acc.i0)(hvt:n'.Acc.a7=(N i).Acc.a7)(hk:n'.a6=(N i).a6)(hld:LD (upd N i n') V P n'):PX (upd N i n') V P M:=
 h.step hi ⟨hni,hid,hpr,by rw [hk];exact f9f _,fun _ _ _ _ v=>v,fun _ _ _ _ v=>.inl v,fun _ _ _ p=>p,fun _ _ _ p=>.inl p,by rw [hvt];exact fun s v=>h.cur i s v hi,by rw [hvt];exact fun s b e=>h.max i s b e,hld,by rw [hk];exact fun s e=>h.kn i s e hi,fun m hm=>.inl hm⟩
theorem PX.keep(h:PX N V P M)(hi:D3 i)(hni:NI n')(hid:n'.Id=i)(hpr:(N i).Acc.i0<=n'.Acc.i0)(hvt:n'.Acc.a7=(N i).Acc.a7)(hk:n'.a6=(N i).a6)(e1:n'.d6=(N i).d6)(e2:n'.a8=(N i).a8)(e3:n'.i4=(N i).i4)(e5:n'.c9=(N i).c9)(e6:n'.c8=(N i).c8)(e7:n'.a7=(N i).a7):PX (upd N i n') V P M:=
 h.quiet hi hni hid hpr hvt hk ((h.ld i hi).same (a9w hpr) (fun _ _ _ _ v=>v) (fun _ _ _ _ _ _ _ v=>v) (fun _ _ _ p=>p) (fun _ _ p=>p) e1 e2 e3 hk e5 e6 e7)
theorem PX.down(h:PX N V P M)(hi:D3 i):PX (upd N i (a3R (N i))) V P M:=
 h.quiet hi (h.ni i hi).1.down (h.ni i hi).2 (f9n _) rfl rfl (.none rfl)
theorem PX.promise(h:PX N V P M)(hi:D3 i){b:Int}{x:z0}(hp:I2 (N i).Acc b=some x):PX (upd N i {N i with Acc:=x}) V P M:=by
 obtain ⟨rfl,h1,h2,h3⟩:=a3L hp;exact h.keep hi ((h.ni i hi).1.promise hp) (h.ni i hi).2 h3 rfl rfl rfl rfl rfl rfl rfl rfl
theorem PX.yield(h:PX N V P M)(hi:D3 i)(b:Int):PX (upd N i (O0 (N i) b)) V P M:=by
 unfold O0;cases (N i).d6 != 0&&decide (b>(N i).a8)
 ·simp only [g1e];rw [a9g];exact h
 ·exact h.down hi
theorem PX.free(h:PX N V P M)(hi:D3 i):PX (upd N i (U6 (N i)).1) V P M:=by
 rcases a9F (N i) with q|⟨k,_,_,q⟩<;>rw [q]
 ·rw [a9g];exact h
 ·exact h.keep hi (h.ni i hi).1.freeN (h.ni i hi).2 (f9n _) rfl rfl rfl rfl rfl rfl rfl rfl
theorem e8G{vs:List m8}{n s:Nat}{v:m8}(h:(S5 vs n)[s]?=some v):vs[s]?=some v\/v=v0:=by
 unfold S5 at h;rw [g00] at h;split at h
 ·exact .inl h
 ·rw [List.getElem?_replicate] at h;split at h
  ·injection h with h;exact .inr h.symm
  ·cases h
theorem e9I{vs:List m8}{s:Nat}{v:m8}(n:Nat)(h:vs[s]?=some v):(S5 vs n)[s]?=some v:=by
 unfold S5;rw [f9l (f8U.1 h).1];exact h
def a9B(V:VR)(i:Int)(k:Nat)(b:Int)(e:m4):VR:=fun q s c f=>V q s c f\/(q=i/\s=k/\c=b/\f=e)
theorem d0m(h:PX N V P M)(hi:D3 i){b s:Int}{e:m4}{x:z0}(hc:L1 (N i).Acc b s e=some x):∃k:Nat,s=(k:Int)/\k<40/\1<=b/\b<=3000/\(N i).Acc.i0<=b/\x.i0=b/\z4 e=true/\
  (∀s v,x.a7[s]?=some v->v.a8>0->a9B V i k b e i s v.a8 v.g9)/\(∀s c f,a9B V i k b e i s c f->∃v,x.a7[s]?=some v/\c<=v.a8):=by
 obtain ⟨k,rfl,hk,he,h1,h2,h3,rfl⟩:=b6x hc;have hlen:k<(S5 (N i).Acc.a7 (k+1)).length:=by rw [b7z];omega
 refine ⟨k,rfl,hk,h1,h2,h3,rfl,he,fun s v hs hv => ?_,fun s c f v => ?_⟩
 ·simp only [g0t] at hs;split at hs
  ·rename_i hq;injection hs with hs;subst hs;exact .inr ⟨rfl,hq.symm,rfl,rfl⟩
  ·rcases e8G hs with q|q
   ·exact .inl (h.cur i s v hi q hv)
   ·rw [q] at hv;exact absurd hv (by decide)
 ·simp only [g0t];by_cases hq:k=s
  ·subst hq;rw [if_pos rfl,if_pos hlen];refine ⟨_,rfl,?_⟩;rcases v with v|⟨_,_,rfl,_⟩
   ·have:=(h.vp _ _ _ _ v).2.2.2;simp only;omega
   ·exact f9n _
  ·rw [if_neg hq];rcases v with v|⟨_,x,_⟩
   ·obtain ⟨v',y1,y2⟩:=h.max _ _ _ _ v;exact ⟨v',e9I _ y1,y2⟩
   ·exact absurd x.symm hq
theorem c5U{k:Nat}{b:Int}{e:m4}(hb:(N i).Acc.i0<=b){q:Int}{s:Nat}{c x:Int}{f:m4}(hx:x<=(N q).Acc.i0)(hc:c<x)(v:a9B V i k b e q s c f):V q s c f:=by
 rcases v with v|⟨rfl,_,rfl,_⟩
 ·exact v
 ·omega
theorem PX.vote(h:PX N V P M)(hi:D3 i){b s:Int}{e:m4}{x:z0}(hc:L1 (N i).Acc b s e=some x)(hp:P b s.toNat e):PX (upd N i {N i with Acc:=x}) (a9B V i s.toNat b e) P M:=by
 obtain ⟨k,rfl,hk,h1,h2,h3,h4,he,c1,c2⟩:=d0m h hi hc;rw [f9r] at hp⊢;have hpr:(N i).Acc.i0<=({N i with Acc:=x}:j6).Acc.i0:=by show _<=x.i0;rw [h4];exact h3
 refine h.step hi ⟨(h.ni i hi).1.cast hc,(h.ni i hi).2,hpr,f9f _,fun _ _ _ _ v=>.inl v,fun q s c f v => ?_,fun _ _ _ p=>p,fun _ _ _ p=>.inl p,c1,c2,?_,fun s e hk=>(h.kn i s e hi hk).mono fun _ _ _ _ v=>.inl v,fun m hm=>.inl hm⟩
 ·rcases v with v|⟨rfl,rfl,rfl,rfl⟩
  ·exact .inl v
  ·exact .inr ⟨rfl,h3,h1,by show _<=x.i0;rw [h4];exact f9n _,hp⟩
 ·exact (h.ld i hi).same (a9w hpr) (fun _ _ _ _ v=>.inl v) (fun q s c x f hx hc v=>c5U h3 hx hc v) (fun _ _ _ p=>p) (fun _ _ p=>p) rfl rfl rfl rfl rfl rfl rfl
theorem PX.know(h:PX N V P M)(hi:D3 i){e:m4}(he:z4 e=true)(hl:(N i).a6.length<40)(hc:a1M V (N i).a6.length e):PX (upd N i (E2 (N i) e)) V P M:=by
 have hk:=c51 (N i) e;have hacc:(E2 (N i) e).Acc=(N i).Acc:=by unfold E2;cases (N i).d6==3<;>rfl
 have hb:(E2 (N i) e).a8=(N i).a8:=by unfold E2;cases (N i).d6==3<;>rfl
 have hbe:(E2 (N i) e).i4=(N i).i4:=by unfold E2;cases (N i).d6==3<;>rfl
 have hpr:(N i).Acc.i0<=(E2 (N i) e).Acc.i0:=by rw [hacc];exact f9n _
 have hcov:∀q,Cov N V (N i) q->Cov (upd N i (E2 (N i) e)) V (E2 (N i) e) q:=fun q c=>by
  refine ⟨by rw [hb];exact f9N c.pr (a9w hpr q),?_⟩;rw [hb,hbe,hk,f9a];exact fun s b e hs hb v=>c.cv s b e (by omega) hb v
 refine h.step hi ⟨(h.ni i hi).1.know he hl,(b87 _ _).trans (h.ni i hi).2,hpr,by rw [hk];simp,fun _ _ _ _ v=>v,fun _ _ _ _ v=>.inl v,fun _ _ _ p=>p,fun _ _ _ p=>.inl p,by rw [hacc];exact fun s v=>h.cur i s v hi,by rw [hacc];exact fun s b e=>h.max i s b e,?_,fun s f hs => ?_,fun m hm=>.inl hm⟩
 ·have hld:=h.ld i hi;refine ⟨?_,?_,?_,?_⟩
  ·intro h0;rw [hb,hbe];refine hld.bs ?_;intro q;apply h0;unfold E2;rw [show ((N i).d6==3)=false by simp [q]];exact q
  ·intro h1;have h1':(N i).d6=1:=by
    by_cases q:(N i).d6=3
    ·unfold E2 at h1;rw [show ((N i).d6==3)=true by simpa using q] at h1;cases h1
    ·unfold E2 at h1;rw [show ((N i).d6==3)=false by simpa using q] at h1;exact h1
   have hf:(E2 (N i) e).c9=(N i).c9:=by unfold E2;cases (N i).d6==3<;>rfl
   rw [hb,hf];exact ⟨(hld.l1 h1').1,fun q hq hf=>hcov q ((hld.l1 h1').2 q hq hf)⟩
  ·intro h2;rw [hb,hk,f9a,f9Y];by_cases q:(N i).d6=3
   ·obtain ⟨x1,x2,x3,x4⟩:=hld.l3 q;exact ⟨fun s f p=>by have:=x2 s f p;omega,x3.imp fun q _=>hcov q⟩
   ·have h2':(N i).d6=2:=by
     unfold E2 at h2;rw [show ((N i).d6==3)=false by simpa using q] at h2;exact h2
    obtain ⟨x1,x2⟩:=hld.l2 h2';exact ⟨fun s f p=>by have:=x1 s f p;omega,x2.imp fun q _=>hcov q⟩
  ·intro h3;exfalso
   by_cases q:(N i).d6=3
   ·unfold E2 at h3;rw [show ((N i).d6==3)=true by simpa using q] at h3;cases h3
   ·unfold E2 at h3;rw [show ((N i).d6==3)=false by simpa using q] at h3;exact q h3
 ·rw [hk,g00] at hs;split at hs
  ·exact h.kn i s f hi hs
  ·rename_i hge;rw [List.getElem?_singleton] at hs;split at hs
   ·injection hs with hs;subst hs;rw [show s=(N i).a6.length by omega];exact hc
   ·cases hs
end
end
end Go.Proofs.YtmadcoimgjieeaaGreat
