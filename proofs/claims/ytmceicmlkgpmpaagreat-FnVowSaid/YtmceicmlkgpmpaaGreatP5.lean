/- Abstract values and states of the program, functions of the program and what their calls come to, and what follows from it: part 5 of the text that the law leans on; long names are written short. -/
import Derived.Test.YtmceicmlkgpmpaaGreatP4
set_option linter.unusedVariables false
set_option linter.unusedSimpArgs false
set_option linter.unnecessarySimpa false
namespace Go.Proofs.YtmceicmlkgpmpaaGreat
open Go
open Option renaming bind_some->f8y,getD_some->f9P,map_some->f9U
open List renaming getElem?_eq_getElem->f8z,replicate->f8A,mem_append->f8B,getElem_mem->f8C,all_eq_true->f8E,getElem?_eq_some_iff->f8G,mem_singleton->f8H,range->f8I,length_append->f8M,eq_nil_of_length_eq_zero->f8N,mem_of_getElem?->f8O,getD_eq_getElem?_getD->f8P,take_length->f8Q,length_take->f8S,getElem?_append_right->f8T,append_assoc->f8U,getElem?_set_ne->f8V,drop_eq_getElem_cons->f8W,getElem?_append_left->f8X,getElem?_eq_none->f8Y,getElem_of_mem->f9a,drop_eq_nil_of_le->f9d,take_succ_eq_append_getElem->f9e,flatten_cons->f9f,mem_map->f9i,mem_or_eq_of_mem_set->f9k,map_cons->f9l,append_nil->f9o,take_zero->f9p,any_eq_false->f9q,take_of_length_le->f9r,length_map->f9u,mem_replicate->f9v,findIdx?_eq_some_iff_getElem->f9x,nil_append->f9y,mem_range->f9B,mem_flatten->f9C,mem_of_mem_drop->f9E,mem_of_mem_take->f9F,mem_take_iff_getElem->f9G,mem_filter->f9H,length_cons->f9J,length_singleton->f9K,drop_zero->f9M,getElem?_set_self->f9Q,map_append->f9R,getElem?_cons_succ->f9T,length_set->f9Z,any_eq_true->g0b,getElem?_set->g0f,all_eq_false->g0g,find?_cons->g0m,length_nil->g0n,length_replicate->g0o,getElem?_of_mem->g0q,findIdx?_eq_none_iff->g0t,mem_iff_getElem->g0u,take_succ_cons->g0A,replicate_succ->g0B,getElem_take->g0F,map_map->g0H,set_getElem_self->g0J,getElem?_append->g0L,drop_length->g0O,length_drop->g0P,mem_cons_of_mem->g0Q,any_cons->g0R,mem_of_find?_eq_some->g0T,length_zip->g0U,find?_eq_none->g0V
open Bool renaming and_eq_true->f8D,not_true->f8F,true_and->f8K,not_eq_true'->f9h,not_false->f9j,false_or->f9n,or_eq_false_iff->f9O,eq_iff_iff->f9S,false_eq_true->f9W,and_true->f9Y,not_eq_true->g0c,true_or->g0K,not_not->g0W,and_assoc->g0X
open Nat renaming le_refl->f8R,mul_le_mul_right->f9g,le_trans->f9m,zero_add->f9I,succ_mul->f9N,add_zero->g0l
open Int renaming le_refl->f8Z,toNat_natCast->f9b,tmod->f9c,le_trans->f9z
open Option.some renaming inj->f9V
open Classical renaming byContradiction->g0s
noncomputable section
theorem a85{n:j6}(h:O6 n):a3X n=some (D7 n):=by
 unfold a3X D7;rw [N8,f8y];cases hId:p9 n.Id 0 2
 ·rfl
 ·have hw:=h.2.2.2.2.2.2.2.2.2.2.2.1;have hk3:b71 n=some (a3U n&&a0t n):=by
   unfold b71 c2r a3U;simp only [c0m (h.2.2.2.2.2.2.2.2.2.2.1.fits (by decide)),a7t hw.f,a6t hw,e63 h hId,f8y];cases n.i9
   ·rw [c9u];cases ((n.i6.length:Int)==0)<;>cases I9 n.b8 zE<;>rfl
   ·cases E4 n.i6<;>cases z4 n.b8<;>cases n.b8.i7<;>cases (([n.b8.a5.b9,n.b8.a5.Seq]:List Int)==[n.Id,n.Seq])<;>rfl
  rw [d5x h.2.1,c64 (okEntries.s h.2.2.1),N8,hk3,I5 n.f0 (h.2.2.2.2.2.2.2.2.2.2.2.2.fits (by decide)) (fun e=>z4 e && !e.i7) false ()]
  ·unfold c0C;rw [<-a5r];simp only [f8y,f8F,g00];cases O2 n.Acc<;>cases G4 n.a6<;>cases p9 n.Seq 0 1000<;>cases decide ((n.f0.length:Int)>4)<;>cases a0t n<;>cases a3U n<;>cases n.f0.all (fun e=>z4 e && !e.i7)<;>rfl
  ·intro k hk;unfold b9a;rw [w6 _ k hk,t0 hk];simp only [g0Z,f8y,a7t ((h.2.2.2.2.2.2.2.2.2.2.2.2).2 _ (f8C hk)).f];cases z4 n.f0[k]<;>cases n.f0[k].i7<;>rfl
  ·unfold b9a;rw [z8];rfl
def a7q(m:l8):Bool:=
 let bal:=p9 m.a8 1 3000;let non:=I9 m.g9 zE;let nv:=(m.a7.length:Int)==0;bif m.a9==1 then bal&&(non&&nv) else
 bif m.a9==4 then bal&&(non&&nv) else
 bif m.a9==2 then bal&&(non&&(L1 m.a7&&decide (m7 (m.g8+(m.a7.length:Int))<=40))) else
 bif m.a9==3 then bal&&(decide (m.g8<40)&&(z4 m.g9&&nv)) else
 bif m.a9==5 then (m.a8==0)&&(decide (m.g8<40)&&(z4 m.g9&&nv)) else
 bif m.a9==6 then bal&&((m.g8==0)&&(non&&nv)) else
 bif m.a9==7 then (m.a8==0)&&((m.g8==0)&&(z4 m.g9&&(!m.g9.i7&&nv))) else
 bif m.a9==8 then (m.a8==0)&&(non&&nv) else false
def Q7(m:l8):Bool:=p9 m.c9 0 2&&(p9 m.To 0 2&&(!(m.c9==m.To)&&(p9 m.g8 0 40&&a7q m)))
theorem c8o{m:l8}(h:a0x m):b2o m=some (Q7 m):=by
 unfold b2o Q7 a7q;have he:=h.2.2.2.2.2.1;simp only [N8,a6t he,a7t he.f,b4w h.2.2.2.2.2.2,f8y,a3u];cases p9 m.c9 0 2
 ·rfl
 cases p9 m.To 0 2
 ·rfl
 cases m.c9==m.To;case true=>rfl
 cases p9 m.g8 0 40
 ·rfl
 cases m.a9==1<;>cases m.a9==4<;>cases m.a9==2<;>cases m.a9==3<;>cases m.a9==5<;>cases m.a9==6<;>cases m.a9==7<;>cases m.a9==8<;>rfl
theorem e03{m:l8}(h:a0x m):b7n m=some (Q7 m):=by
 unfold b7n Q7;have he:=h.2.2.2.2.2.1;have hj2:b7U m=b2u m (I9 m.g9 zE) (z4 m.g9&&decide (m.g8<40)):=by
  unfold b7U;simp only [c1u he,a4k he.f,f8y];cases z4 m.g9<;>rfl
 have hj:∀nv:Bool,nv=((m.a7.length:Int)==0)->(m.a9==2||nv)=true->b2u m (I9 m.g9 zE) (z4 m.g9&&decide (m.g8<40))=some (a7q m):=by
  intro nv hnv hk;unfold b2u a7q;simp only [b0d,c6Q h.2.2.2.2.2.2,a4k he.f,f8y,a3u];rw [<-hnv];cases h1:m.a9==1;case true=>
   have:(m.a9==2)=false:=by
    simp only [beq_iff_eq] at h1;rw [h1];rfl
   rw [this,f9n] at hk;simp only [g0Z,hk,f9Y]
  cases h2:m.a9==2;case true=>
   cases h4:m.a9==4
   ·rfl
   ·simp only [beq_iff_eq] at h2 h4;omega
  rw [h2,f9n] at hk;subst hk;cases h3:m.a9==3;case true=>
   cases h4:m.a9==4
   ·simp only [g0Z,g00,f9Y];cases p9 m.a8 1 3000<;>cases z4 m.g9<;>cases decide (m.g8<40)<;>rfl
   ·simp only [beq_iff_eq] at h3 h4;omega
  cases h4:m.a9==4;case true=>simp only [g0Z,g00,f9Y]
  simp only [g00];cases m.a9==5;case true=>
   simp only [g0Z,f9Y];cases m.a8==0<;>cases z4 m.g9<;>cases decide (m.g8<40)<;>rfl
  simp only [g00];cases m.a9==6;case true=>
   simp only [g0Z,f9Y];cases p9 m.a8 1 3000<;>cases I9 m.g9 zE<;>cases m.g8==0<;>rfl
  cases m.a9==7<;>cases m.a9==8<;>simp only [g0Z,g00,f9Y,f8K,Bool.false_and]
 rw [hj2,c6D];cases p9 m.c9 0 2
 ·rfl
 simp only [g0Z,f8K];rw [c6D];cases p9 m.To 0 2
 ·rfl
 simp only [g0Z,f8K];cases m.c9==m.To;case true=>rfl
 simp only [g00,f9j,f8K];rw [rng];cases p9 m.g8 0 40
 ·rfl
 simp only [g0Z,f8K];rw [c9u];cases h2:m.a9==2
 ·rw [show (m.a9 != 2)=true from by rw [bne,h2];rfl];cases hv:((m.a7.length:Int)==0)
  ·show some false=_
   have:a7q m=false:=by
    unfold a7q;rw [h2,hv];simp
   rw [this]
  ·exact hj true hv.symm (by simp)
 ·rw [show (m.a9 != 2)=false from by rw [bne,h2];rfl];exact hj _ rfl (by rw [h2];rfl)
def T3(t:n6):Bool:=p9 t.Node 0 2&&((p9 t.a5.b9 0 2&&p9 t.a5.Seq 1 1000)&&((t.a5.b9==t.Node)&&(p9 t.Code 0 4&&p9 t.d9 (-1000000) 1000000)))
theorem e6P(t:n6):b6q t=some (T3 t):=by
 unfold b6q T3;simp only [c6b,a73,f8y,a3u];have e1:p9 t.Node 0 2=(decide (t.Node>=0)&&decide (t.Node<3)):=by
  unfold p9;by_cases h1:t.Node>=0<;>by_cases h2:t.Node<3<;>simp [h1,h2]<;>omega
 have e2:p9 t.Code 0 4=(decide (t.Code>=0)&&decide (t.Code<=4)):=by
  unfold p9;by_cases h1:t.Code>=0<;>by_cases h2:t.Code<=4<;>simp [h1,h2]<;>omega
 rw [e1,e2];simp only [g0X]
def Z9(x:x8):Bool:=(p9 x.a5.b9 0 2&&p9 x.a5.Seq 1 1000)&&E4 x.i6
def a39(w:m5)(k:Nat):Bool:=match w.a0[k]? with
 | some n=>(n.Id==(k:Int))&&D7 n
 | none=>true
def A0(w:m5):Bool:=((w.a0.length:Int)==3)&&(decide ((w.d7.length:Int)<=40)&&(decide ((w.d8.length:Int)<=60)&&(decide ((w.Told.length:Int)<=60)&&((f8I w.a0.length).all (a39 w)&&(w.d7.all Q7&&(w.d8.all Z9&&w.Told.all T3))))))
theorem a6b{w:m5}(h:L3 w):a22 w=some (A0 w):=by
 have k7:c0p w=some (w.Told.all T3):=by
  unfold c0p;rw [I5 w.Told (h.2.2.2.fits (by decide)) T3 false ()]
  ·cases w.Told.all T3<;>rfl
  ·intro k hk;unfold c0n;rw [w6 _ k hk,t0 hk];simp only [g0Z,f8y,e6P];cases T3 w.Told[k]<;>rfl
  ·unfold c0n;rw [z8];rfl
 have k9:b5A w=some (w.d8.all Z9&&w.Told.all T3):=by
  unfold b5A;rw [I5 w.d8 (h.2.2.1.fits (by decide)) Z9 false ()]
  ·rw [k7];cases w.d8.all Z9<;>rfl
  ·intro k hk;unfold b9r;rw [w6 _ k hk,t0 hk];simp only [g0Z,f8y,c6b,c3e ((h.2.2.1.2 _ (f8C hk)).2.fits (by decide))];unfold Z9;cases p9 w.d8[k].a5.b9 0 2&&p9 w.d8[k].a5.Seq 1 1000<;>cases E4 w.d8[k].i6<;>rfl
  ·unfold b9r;rw [z8];rfl
 have k11:b9Q w=some (w.d7.all Q7&&(w.d8.all Z9&&w.Told.all T3)):=by
  unfold b9Q;rw [I5 w.d7 (h.2.1.fits (by decide)) Q7 false ()]
  ·rw [k9];cases w.d7.all Q7<;>rfl
  ·intro k hk;unfold b52;rw [w6 _ k hk,t0 hk];simp only [g0Z,f8y,e03 (h.2.1.2 _ (f8C hk))];cases Q7 w.d7[k]<;>rfl
  ·unfold b52;rw [z8];rfl
 unfold a22 A0;rw [V8 w.a0 (h.1.fits (by decide)) (a39 w) false ()]
 ·rw [k11];simp only [<-a5r];rw [show ((w.a0.length:Int)==3) = !((w.a0.length:Int) != 3) from by simp [bne]];cases ((w.a0.length:Int) != 3)<;>cases decide ((w.d7.length:Int)>40)<;>cases decide ((w.d8.length:Int)>60)<;>cases decide ((w.Told.length:Int)>60)<;>cases (f8I w.a0.length).all (a39 w)<;>rfl
 ·intro k hk _;unfold b5y;rw [w6 _ k hk,t0 hk];simp only [g0Z,f8y,b1G (h.1.2 _ (f8C hk)),a39,f8z hk,bne];cases w.a0[k].Id==(k:Int)<;>cases D7 w.a0[k]<;>rfl
 ·unfold b5y;rw [z8];rfl
theorem a6A{w:m5}(h:L3 w):a2U w=some (A0 w):=by
 have k7:b91 w=some (w.Told.all T3):=by
  unfold b91;rw [I5 w.Told (h.2.2.2.fits (by decide)) T3 false ()]
  ·cases w.Told.all T3<;>rfl
  ·intro k hk;unfold c05;rw [w6 _ k hk,t0 hk];simp only [g0Z,f8y,N8,c0q];unfold T3;rw [show (w.Told[k].a5.b9==w.Told[k].Node) = !(w.Told[k].a5.b9 != w.Told[k].Node) from by simp [bne]];cases p9 w.Told[k].Node 0 2<;>cases p9 w.Told[k].a5.b9 0 2&&p9 w.Told[k].a5.Seq 1 1000<;>cases (w.Told[k].a5.b9 != w.Told[k].Node)<;>cases p9 w.Told[k].Code 0 4<;>cases p9 w.Told[k].d9 (-1000000) 1000000<;>rfl
  ·unfold c05;rw [z8];rfl
 have k9:b9R w=some (w.d8.all Z9&&w.Told.all T3):=by
  unfold b9R;rw [I5 w.d8 (h.2.2.1.fits (by decide)) Z9 false ()]
  ·rw [k7];cases w.d8.all Z9<;>rfl
  ·intro k hk;unfold b5R;rw [w6 _ k hk,t0 hk];simp only [g0Z,f8y,c0q,c0m ((h.2.2.1.2 _ (f8C hk)).2.fits (by decide))];unfold Z9;cases p9 w.d8[k].a5.b9 0 2&&p9 w.d8[k].a5.Seq 1 1000<;>cases E4 w.d8[k].i6<;>rfl
  ·unfold b5R;rw [z8];rfl
 have k11:b61 w=some (w.d7.all Q7&&(w.d8.all Z9&&w.Told.all T3)):=by
  unfold b61;rw [I5 w.d7 (h.2.1.fits (by decide)) Q7 false ()]
  ·rw [k9];cases w.d7.all Q7<;>rfl
  ·intro k hk;unfold c0J;rw [w6 _ k hk,t0 hk];simp only [g0Z,f8y,c8o (h.2.1.2 _ (f8C hk))];cases Q7 w.d7[k]<;>rfl
  ·unfold c0J;rw [z8];rfl
 unfold a2U A0;rw [V8 w.a0 (h.1.fits (by decide)) (a39 w) false ()]
 ·rw [k11];simp only [<-a5r];rw [show ((w.a0.length:Int)==3) = !((w.a0.length:Int) != 3) from by simp [bne]];cases ((w.a0.length:Int) != 3)<;>cases decide ((w.d7.length:Int)>40)<;>cases decide ((w.d8.length:Int)>60)<;>cases decide ((w.Told.length:Int)>60)<;>cases (f8I w.a0.length).all (a39 w)<;>rfl
 ·intro k hk _;unfold b8A;rw [w6 _ k hk,t0 hk];simp only [g0Z,f8y,a85 (h.1.2 _ (f8C hk)),a39,f8z hk,bne];cases w.a0[k].Id==(k:Int)<;>cases D7 w.a0[k]<;>rfl
 ·unfold b8A;rw [z8];rfl
theorem d2f{α:Type}{p:List α->List α->Nat->Bool}(hp:∀(a b:List α) (k:Nat) (x y:α),a[k]?=some x->b[k]?=some y->(p a b k=true↔x=y))(a b:List α):(a.length==b.length&&(f8I a.length).all (p a b))=true↔a=b:=by
 constructor
 ·intro h;simp only [f8D,beq_iff_eq,f8E,f9B] at h;refine List.ext_getElem h.1 fun i h1 h2 => ?_
  exact (hp a b i _ _ (f8z h1) (f8z h2)).1 (h.2 i h1)
 ·rintro rfl
  simp only [f8D,beq_iff_eq,f8E,f9B,true_and];intro k hk;exact (hp a a k _ _ (f8z hk) (f8z hk)).2 rfl
theorem c87(a b:n7):a4X a b=true↔a=b:=by
 have h1:=d2f (p:=a2y) (fun a b k x y hx hy=>by
  unfold a2y;rw [hx,hy];cases x;cases y;simp) a.b5 b.b5
 have h2:=d2f (p:=a2R) (fun a b k x y hx hy=>by
  unfold a2R;rw [hx,hy];cases x;cases y;simp) a.b7 b.b7
 unfold a4X;rw [f8D,h1,f8D,h2,f8D,beq_iff_eq,beq_iff_eq];cases a;cases b;simp
theorem a0Z(a b:m4):I9 a b=true↔a=b:=by
 unfold I9;rw [f8D,f8D,c87];obtain ⟨n,⟨q1,q2⟩,r⟩:=a;obtain ⟨n',⟨q1',q2'⟩,r'⟩:=b;simp [and_assoc]
theorem H7{n lo hi:Int}:p9 n lo hi=true↔lo<=n/\n<=hi:=by unfold p9;simp
theorem c1p{w:m5}(h:A0 w=true):w.a0.length=3/\∀n∈w.a0,D7 n=true:=by
 unfold A0 at h;simp only [f8D,beq_iff_eq,f8E,f9B] at h;refine ⟨by omega,fun n hn => ?_⟩;obtain ⟨i,hi,rfl⟩:=f9a hn;have:=h.2.2.2.2.1 i hi;unfold a39 at this;rw [f8z hi] at this;simp only [f8D] at this;exact this.2
theorem b1x{n:j6}(h:D7 n=true):p9 n.Id 0 2=true/\O2 n.Acc=true/\G4 n.a6=true/\a0t n=true/\a3U n=true:=by
 unfold D7 at h;simp only [f8D] at h;exact ⟨h.1,h.2.1,h.2.2.1,h.2.2.2.2.2.1,h.2.2.2.2.2.2.1⟩
theorem e0g{l:List m8}(h:L1 l=true):l.length<=40/\∀v∈l,0<=v.a8:=by
 unfold L1 at h;simp only [f8D,decide_eq_true_eq,f8E] at h;refine ⟨h.1,fun v hv => ?_⟩;have:=h.2 v hv;unfold Z7 at this;cases hb:v.a8==0
 ·rw [hb] at this;simp only [g00,f8D,H7] at this;omega
 ·simp only [beq_iff_eq] at hb;omega
theorem e5c{a:z0}(h:O2 a=true):a.a7.length<=40/\∀v∈a.a7,0<=v.a8:=by
 unfold O2 at h;simp only [f8D] at h;exact e0g h.2.1
theorem d4l{n:j6}(hId:p9 n.Id 0 2=true)(h:a0t n=true):0<=n.a8/\(n.d6=3->1<=n.a8):=by
 unfold a0t at h;cases h0:n.d6==0
 ·rw [h0] at h;simp only [g00,f8D] at h;have:=H7.1 (c2V hId h.1);omega
 ·rw [h0] at h;simp only [g0Z,f8D,beq_iff_eq] at h h0;omega
theorem d8F{l:List r9}(h:A2 16 d2Q l):a20 l=some l:=by
 have hb:=h.1;unfold a20;cases hl:((l.length:Int)==0)
 ·rw [g00,v5 (by constructor<;>omega),v5 (by simp)]
 ·simp only [beq_iff_eq] at hl;have:l=[]:=f8N (by omega);rw [this];rfl
theorem f5h{l:List p8}(h:A2 16 d4b l):a9m l=some l:=by
 have hb:=h.1;unfold a9m;cases hl:((l.length:Int)==0)
 ·rw [g00,v5 (by constructor<;>omega),v5 (by simp)]
 ·simp only [beq_iff_eq] at hl;have:l=[]:=f8N (by omega);rw [this];rfl
theorem b4s{e:m4}(h:E9 e):a65 e=some e:=by
 unfold a65 c5n;rw [d8F h.2.1,f8y,f5h h.2.2.1];rfl
theorem a0D{e:m4}(h:E9 e):X7 e=some e:=by
 have h1:=h.2.1.1;have h2:=h.2.2.1.1;unfold X7 c6d;rw [v5 (by simp;omega),v5 (by simp;omega)];rfl
theorem f3P{l:List m4}(h:A2 88 E9 l):b6r l=some l:=by
 have hb:=h.1;unfold b6r;cases hl:((l.length:Int)==0)
 ·rw [g00,v5 (by constructor<;>omega),v5 (by simp)]
 ·simp only [beq_iff_eq] at hl;have:l=[]:=f8N (by omega);rw [this];rfl
theorem c5R{l:List m4}(h:A2 88 E9 l):b0a l=some l:=by
 have hf:s8 l:=h.fits (by decide);unfold b0a;rw [f3P h,f8y];have hl:=V9 (body:=fun s:(List m4)×Int=>b45 l s.1 s.2) (fun k=>(l,(k:Int))) l.length (by
  intro k hk;unfold b45;rw [w6 _ k hk,t0 hk];simp only [g0Z,f8y,b4s (h.2 _ (f8C hk)),E6 hf hk,f9b,g0J])
 rw [show ((0:Nat):Int)=0 from rfl] at hl;rw [hl,C8 (b:=l)]
 ·rfl
 ·unfold b45;rw [z8];rfl
theorem c1q{l:List m4}(h:A2 88 E9 l):a9G l=some l:=by
 have hf:s8 l:=h.fits (by decide);have hb:=h.1;unfold a9G;have hl:=V9 (body:=fun s:(List m4)×Int=>b15 l s.1 s.2) (fun k=>(l.take k,(k:Int))) l.length (by
  intro k hk;unfold b15;rw [w6 _ k hk,t0 hk];simp only [g0Z,f8y,a0D (h.2 _ (f8C hk)),E6 hf hk];rw [v5 (by rw [f8S];omega),f9e hk])
 rw [show ((0:Nat):Int)=0 from rfl,f9p] at hl;rw [hl,f8Q,C8 (b:=l)]
 ·rfl
 ·unfold b15;rw [z8];rfl
def best(w:m5):Nat->Nat
 | 0=>0
 | k+1=>match w.a0[k]?,w.a0[best w k]? with
  | some a,some b=>bif decide ((a.a6.length:Int)>(b.a6.length:Int)) then k else best w k
  | _,_=>best w k
theorem a6C(w:m5):∀k,0<w.a0.length->k<=w.a0.length->best w k<w.a0.length
 | 0,h,_=>h
 | k+1,h,hk=>by
  have hb:=a6C w k h (by omega);unfold best;rw [f8z (show k<w.a0.length by omega),f8z hb];simp only;cases decide ((w.a0[k].a6.length:Int)>(w.a0[best w k].a6.length:Int))
  ·exact hb
  ·exact hk
theorem c2v{w:m5}{k:Nat}(h:0<w.a0.length)(hk:k<w.a0.length):best w (k+1)=bif decide ((w.a0[k].a6.length:Int)>((w.a0[best w k]'(a6C w k h (by omega))).a6.length:Int)) then k else best w k:=by
 conv=>lhs;unfold best
 rw [f8z hk,f8z (a6C w k h (by omega))]
def ist(w:m5):Nat->Int×Int
 | 0=>(-1,0)
 | k+1=>((best w (k+1):Int),((k+1:Nat):Int))
def u6(w:m5):List m4:=match w.a0[best w w.a0.length]? with
 | some n=>n.a6
 | none=>[]
theorem d4c{w:m5}(h:L3 w)(hn:0<w.a0.length):b4k w=some (u6 w):=by
 have hf:s8 w.a0:=h.1.fits (by decide);unfold b4k;have hl:=V9 (body:=fun s:Int×Int=>b3u w s.1 s.2) (fun k=>((best w k:Int),(k:Int))) w.a0.length (by
  intro k hk;have hb:=a6C w k hn (by omega);unfold b3u c5s;rw [w6 _ k hk,t0 hk,t0 hb,c2v hn hk];simp only [g0Z,f8y,E6 hf hk];cases decide ((w.a0[k].a6.length:Int)>(w.a0[best w k].a6.length:Int))<;>rfl)
 rw [show ((0:Nat):Int)=0 from rfl,show best w 0=0 from rfl] at hl;have hbn:=a6C w w.a0.length hn (f8R _);rw [show ((0:Nat):Int)=0 from rfl] at hl;rw [hl,C8 (b:=(best w w.a0.length:Int))]
 ·simp only [f8y,l9.go];unfold c2W u6;rw [show ((w.a0.length:Int)==0)=false from by rw [<-g0c,beq_iff_eq];omega,t0 hbn,f8z hbn];simp only [g00,f8y,c1q (h.1.2 _ (f8C hbn)).2.2.1]
 ·unfold b3u;rw [z8];rfl
theorem d57{w:m5}(h:L3 w)(hn:0<w.a0.length):b2Q w=some (u6 w):=by
 have hf:s8 w.a0:=h.1.fits (by decide);unfold b2Q;have hl:=V9 (body:=fun s:Int×Int=>a5p w s.1 s.2) (ist w) w.a0.length (by
  intro k hk;cases k with
  | zero=>
   show a5p w (-1) 0=some (.nxt ((best w (0+1):Int),((0+1:Nat):Int)))
   unfold a5p b6S;rw [show decide ((0:Int)<(w.a0.length:Int))=true from by simpa using hk,show idx w.a0 0=some w.a0[0] from t0 hk,show best w (0+1)=0 from by rw [c2v hn hk];cases decide ((w.a0[0].a6.length:Int)>(w.a0[best w 0].a6.length:Int))<;>rfl];simp only [g0Z,f8y];have:m7 ((0:Int)+1)=((0+1:Nat):Int):=E6 hf hk;rw [this];rfl
  | succ k=>
   have hb:=a6C w (k+1) hn (by omega);show a5p w (best w (k+1):Int) ((k+1:Nat):Int)=some (.nxt ((best w (k+1+1):Int),((k+1+1:Nat):Int)))
   unfold a5p b6S;rw [w6 _ (k+1) hk,t0 hk,t0 hb,c2v hn hk,show decide ((best w (k+1):Int)<0)=false from by simp];simp only [g0Z,g00,f8y,E6 hf hk];cases decide ((w.a0[k+1].a6.length:Int)>(w.a0[best w (k+1)].a6.length:Int))<;>rfl)
 have hbn:=a6C w w.a0.length hn (f8R _);obtain ⟨m,hm⟩:∃m,w.a0.length=m+1:=⟨w.a0.length-1,by omega⟩
 rw [show ist w w.a0.length=((best w w.a0.length:Int),(w.a0.length:Int)) from by rw [hm];rfl] at hl;rw [show o8 (fun s:Int×Int=>a5p w s.1 s.2) ((-1:Int),(0:Int))=_ from hl,C8 (b:=(best w w.a0.length:Int))]
 ·simp only [f8y,l9.go];unfold c35 u6;rw [show decide ((best w w.a0.length:Int)<0)=false from by simp,t0 hbn,f8z hbn];simp only [g00,f8y,c5R (h.1.2 _ (f8C hbn)).2.2.1]
 ·unfold a5p;rw [z8];rfl
theorem b94{w:m5}(h:L3 w)(hw:A0 w=true):0<w.a0.length/\A2 88 E9 (u6 w)/\G4 (u6 w)=true:=by
 obtain ⟨h3,hn⟩:=c1p hw;have h0:0<w.a0.length:=by omega
 have hb:=a6C w w.a0.length h0 (f8R _);refine ⟨h0,?_,?_⟩
 ·unfold u6;rw [f8z hb];exact (h.1.2 _ (f8C hb)).2.2.1
 ·unfold u6;rw [f8z hb];exact (b1x (hn _ (f8C hb))).2.2.1
def D6(q:n5)(e:m4):Bool := !e.i7&&(([e.a5.b9,e.a5.Seq]:List Int)==[q.b9,q.Seq])
theorem b0o{α R S B:Type}{body:S->Option (j7 R S B)}(st:Nat->S)(l:List α)(is:α->Bool)(r:Nat->R)(b:B)(h1:∀(k:Nat) (h:k<l.length),body (st k)=some (bif is l[k] then .ret (r k) else .nxt (st (k+1))))(h2:body (st l.length)=some (.brk b)) :
  o8 body (st 0)=some (match l.findIdx? is with|some k=>.ret (r k)|none=>.brk b):=by
 rcases a45 (body:=body) st l.length (fun k=>match l[k]? with|some x => !is x|none=>true) r b
  (fun k hk _=>by
   rw [h1 k hk,f8z hk];simp only;cases is l[k]<;>rfl) (fun _=>h2) with ⟨h,hall⟩|⟨k,hk,ho,hb,h⟩
 ·have:l.findIdx? is=none:=by
   rw [g0t];intro x hx;obtain ⟨i,hi,rfl⟩:=f9a hx;have:=hall i hi;rw [f8z hi] at this;simpa using this
  rw [this];exact h
 ·have:l.findIdx? is=some k:=by
   rw [f9x];refine ⟨hk,?_,fun j hj => ?_⟩
   ·rw [f8z hk] at ho;simpa using ho
   ·have:=hb j hj;rw [f8z (show j<l.length by omega)] at this;simpa using this
  rw [this];exact h
theorem b1P{l:List m4}(h:s8 l)(q:n5):a5U l q=some (match l.findIdx? (D6 q) with|some k=>(k:Int)|none => -1):=by
  unfold a5U;rw [show o8 (fun s:Int=>a9N l q s) 0=_ from b0o (body:=fun s:Int=>a9N l q s) (fun k=>(k:Int)) l (D6 q) (fun k=>(k:Int)) () (by
      intro k hk;unfold a9N c3h D6;rw [w6 _ k hk,t0 hk,<-E6 h hk];simp only [g0Z,f8y];cases l[k].i7<;>cases (([l[k].a5.b9,l[k].a5.Seq]:List Int)==[q.b9,q.Seq])<;>rfl) (by
      unfold a9N;rw [z8];rfl)]
  cases l.findIdx? (D6 q)<;>rfl
theorem d6Y{l:List m4}(h:s8 l)(q:n5):b0Y l q=some (match l.findIdx? (D6 q) with|some k=>(match l[k]? with|some e=>e.b6.d9|none=>0)|none=>0):=by
  unfold b0Y;rw [show o8 (fun s:Int=>b07 l q s) 0=_ from b0o (body:=fun s:Int=>b07 l q s) (fun k=>(k:Int)) l (D6 q) (fun k=>match l[k]? with|some e=>e.b6.d9|none=>0) () (by
      intro k hk;unfold b07 c48 D6;rw [w6 _ k hk,t0 hk,<-E6 h hk,f8z hk];simp only [g0Z,f8y];cases l[k].i7<;>cases (([l[k].a5.b9,l[k].a5.Seq]:List Int)==[q.b9,q.Seq])<;>rfl) (by
      unfold b07;rw [z8];rfl)]
  cases l.findIdx? (D6 q)<;>rfl
theorem c1T{l:List m4}(hl:l.length<=40)(he:l.all z4=true){k:Nat}(hk:k<l.length):(p6 l).2[k]?=some (apply (p6 (l.take k)).1 l[k]).2:=by
 have key:∀m,k<m->m<=l.length->(p6 (l.take m)).2[k]?=some (apply (p6 (l.take k)).1 l[k]).2:=by
  intro m;induction m with
  | zero=>omega
  | succ m ih=>
   intro h1 h2;have hlen:=(P5 hl he m (by omega)).2.1;rw [a0K (show m<l.length by omega)];unfold a99;simp only;by_cases q:k<m
   ·rw [f8X (by omega)];exact ih q (by omega)
   ·have:k=m:=by omega
    subst this;rw [f8T (by omega),hlen];simp
 have:=key l.length hk (f8R _);rwa [f8Q] at this
def L4(l:List m4)(k:Nat):Int:=(p6 l).2[k]?.getD 0
theorem f2N{l:List m4}(h:A2 88 E9 l)(hok:G4 l=true)(q:n5):b9o l q=some (match l.findIdx? (D6 q) with|some k=>(L4 l k,true)|none=>(0,false)):=by
 obtain ⟨hl,he⟩:=W8 hok;have hf:s8 l:=h.fits (by decide);unfold b9o;rw [c0s,f8y];have:=b0o (body:=fun s:(List m9)×Int×Int×List q9=>a9D l q s.1 s.2.1 s.2.2.1 s.2.2.2) (fun k=>((p6 (l.take k)).1.g7,(k:Int),(p6 (l.take k)).1.At,(p6 (l.take k)).1.i8)) l (D6 q) (fun k=>(L4 l k,true)) () (by
   intro k hk;obtain ⟨h1,h2,h3⟩:=P5 hl he k (by omega);unfold a9D c5X D6 L4;rw [w6 _ k hk,t0 hk,c1T hl he hk,a0K hk,<-E6 hf hk];simp only [g0Z,f8y];rw [show (⟨(p6 (l.take k)).1.At,(p6 (l.take k)).1.g7,(p6 (l.take k)).1.i8⟩:u5)=(p6 (l.take k)).1 from rfl,b9L h1 (by omega) (f8E.1 he _ (f8C hk)) (h.2 _ (f8C hk)).f,f8y];cases l[k].i7<;>cases (([l[k].a5.b9,l[k].a5.Seq]:List Int)==[q.b9,q.Seq])<;>rfl) (by
   unfold a9D;rw [z8];rfl)
 rw [f9p] at this;rw [show o8 (fun s:(List m9)×Int×Int×List q9=>a9D l q s.1 s.2.1 s.2.2.1 s.2.2.2) (P7.g7,0,P7.At,P7.i8)=_ from this];cases l.findIdx? (D6 q)<;>rfl
def a3P(l:List m4)(t:n6):Bool:=match l.findIdx? (D6 t.a5) with
 | some k=>(L4 l k==t.Code)&&((bif t.Code==0 then (match l[k]? with|some e=>e.b6.d9|none=>0) else 0)==t.d9)
 | none=>false
theorem e3z{w:m5}(h:L3 w)(hw:A0 w=true):b3B w=some (w.Told.all (a3P (u6 w))):=by
 unfold b3B;rw [a6b h,f8y,hw];obtain ⟨h0,hlo,hok⟩:=b94 h hw;obtain ⟨hl,he⟩:=W8 hok;have hf:s8 w.Told:=h.2.2.2.fits (by decide);have hfl:s8 (u6 w):=hlo.fits (by decide);have hcl:(p6 (u6 w)).2.length=(u6 w).length:=by
  have:=(P5 hl he (u6 w).length (f8R _)).2.1;rwa [f8Q] at this
 simp only [f8F,g00];rw [d4c h h0,f8y];rw [I5 w.Told hf (a3P (u6 w)) false ()]
 ·cases w.Told.all (a3P (u6 w))<;>rfl
 ·intro k hk;unfold b6j c6N a3P;rw [w6 _ k hk,t0 hk];simp only [g0Z,f8y,f2N hlo hok,d6Y hfl];cases (u6 w).findIdx? (D6 w.Told[k].a5) with
  | none=>rfl
  | some i=>
   simp only;cases hc:L4 (u6 w) i==w.Told[k].Code
   ·rw [show (L4 (u6 w) i != w.Told[k].Code)=true from by rw [bne,hc];rfl];cases L4 (u6 w) i==0<;>rfl
   ·rw [show (L4 (u6 w) i != w.Told[k].Code)=false from by rw [bne,hc];rfl];simp only [beq_iff_eq] at hc;rw [hc];cases w.Told[k].Code==0<;>simp only [g0Z,g00,f8y,l9.go,bne,f8K,f8F]<;>(cases (_:Int)==w.Told[k].d9<;>rfl)
 ·unfold b6j;rw [z8];rfl
theorem f2K{w:m5}(h:L3 w)(hw:A0 w=true):b2a w=some (w.Told.all (a3P (u6 w))):=by
 unfold b2a;rw [a6A h,f8y,hw];obtain ⟨h0,hlo,hok⟩:=b94 h hw;obtain ⟨hl,he⟩:=W8 hok;have hf:s8 w.Told:=h.2.2.2.fits (by decide);have hfl:s8 (u6 w):=hlo.fits (by decide);have hcl:(p6 (u6 w)).2.length=(u6 w).length:=by
  have:=(P5 hl he (u6 w).length (f8R _)).2.1;rwa [f8Q] at this
 simp only [f8F,g00];rw [d57 h h0,f8y,b9Z (okEntries.s hlo) hl he,f8y];rw [I5 w.Told hf (a3P (u6 w)) false ()]
 ·cases w.Told.all (a3P (u6 w))<;>rfl
 ·intro k hk;unfold c0B c4C a3P;rw [w6 _ k hk,t0 hk];simp only [g0Z,f8y,b1P hfl];cases hfi:(u6 w).findIdx? (D6 w.Told[k].a5) with
  | none=>rfl
  | some i=>
   obtain ⟨hi,_⟩:=f9x.1 hfi;simp only;rw [show decide ((i:Int)<0)=false from by simp,t0 (show i<(p6 (u6 w)).2.length by omega),t0 hi,f8z hi];have hco:L4 (u6 w) i=(p6 (u6 w)).2[i]'(by omega):=by unfold L4;rw [f8z (by omega)];rfl
   rw [hco];simp only [g00,f8y];cases hc:(p6 (u6 w)).2[i]'(by omega)==w.Told[k].Code
   ·rw [show ((p6 (u6 w)).2[i]'(by omega) != w.Told[k].Code)=true from by rw [bne,hc];rfl];rfl
   ·rw [show ((p6 (u6 w)).2[i]'(by omega) != w.Told[k].Code)=false from by rw [bne,hc];rfl];have hcomm:∀x:Int,(w.Told[k].d9==x)=(x==w.Told[k].d9):=fun x=>by
     rw [f9S,beq_iff_eq,beq_iff_eq];exact eq_comm
    cases w.Told[k].Code==0<;>simp only [g0Z,g00,f8y,l9.go,bne,f8K,f8F,hcomm]<;>(cases (_:Int)==w.Told[k].d9<;>rfl)
 ·unfold c0B;rw [z8];rfl
theorem c1a{α B R:Type}{body:Int->Option (j7 R Int B)}(l:List α)(hl:s8 l)(ok:α->Bool)(v:R)(b:B)(h1:∀(k:Nat) (h:k<l.length),body (k:Int)=some (bif ok l[k] then .nxt (m7 ((k:Int)+1)) else .ret v))(h2:body (l.length:Int)=some (.brk b)):o8 body 0=some (bif l.all ok then .brk b else .ret v):=by
 have h:=a45 (body:=body) (fun k=>(k:Int)) l.length (fun k=>match l[k]? with|some x=>ok x|none=>true) (fun _=>v) b
  (fun k hk _=>by
   have:=h1 k hk;rw [E6 hl hk] at this;simpa [f8z hk] using this) (fun _=>h2)
 rcases h with ⟨h,hall⟩|⟨k,hk,ho,_,h⟩
 ·have:l.all ok=true:=by
   rw [f8E];intro x hx;obtain ⟨i,hi,rfl⟩:=f9a hx;have:=hall i hi;simpa [f8z hi] using this
  rw [this];exact h
 ·have:l.all ok=false:=by
   rw [g0g];refine ⟨l[k],f8C hk,?_⟩;simpa [f8z hk] using ho
  rw [this];exact h
theorem b3K{l:List r9}(h:l.length<=1000):a20 l=some l:=by
 unfold a20;cases hl:((l.length:Int)==0)
 ·rw [g00,v5 (by constructor<;>omega),v5 (by simp)]
 ·simp only [beq_iff_eq] at hl;have:l=[]:=f8N (by omega);rw [this];rfl
theorem e4Y{l:List p8}(h:l.length<=1000):a9m l=some l:=by
 unfold a9m;cases hl:((l.length:Int)==0)
 ·rw [g00,v5 (by constructor<;>omega),v5 (by simp)]
 ·simp only [beq_iff_eq] at hl;have:l=[]:=f8N (by omega);rw [this];rfl
def W5(ps:List p8)(b:Int):Option Nat:=ps.findIdx? (·.i5==b)
def atI:Option Nat->Int
 | some k=>(k:Int)
 | none => -1
theorem d7O{l:List p8}(h:s8 l)(b:Int):a5Z l b=some (atI (W5 l b)):=by
 unfold a5Z;rw [show (0:Int)=((0:Nat):Int) from rfl,b0o (body:=fun s:Int=>a5M l b s) (fun k=>(k:Int)) l (·.i5==b) (fun k=>(k:Int)) ()]
 ·unfold W5;cases l.findIdx? (·.i5==b)<;>rfl
 ·intro k hk;unfold a5M;rw [w6 _ k hk,t0 hk,E6 h hk];simp only [g0Z,f8y];cases l[k].i5==b<;>rfl
 ·unfold a5M;rw [z8];rfl
theorem d3i{x:n7}(h:s8 x.b7)(b:Int):b2E x b=some (atI (W5 x.b7 b)):=by
 unfold b2E;rw [show (0:Int)=((0:Nat):Int) from rfl,b0o (body:=fun s:Int=>b4J x b s) (fun k=>(k:Int)) x.b7 (·.i5==b) (fun k=>(k:Int)) ()]
 ·unfold W5;cases x.b7.findIdx? (·.i5==b)<;>rfl
 ·intro k hk;unfold b4J;rw [w6 _ k hk,t0 hk,E6 h hk];simp only [g0Z,f8y];cases x.b7[k].i5==b<;>rfl
 ·unfold b4J;rw [z8];rfl
theorem b3f{ps:List p8}{b:Int}{k:Nat}(h:W5 ps b=some k):k<ps.length:=by
 obtain ⟨hk,_⟩:=f9x.1 h;exact hk
theorem b7e(k:Nat):decide (atI (some k)>=0)=true:=by simp [atI]
theorem b53:decide (atI none>=0)=false:=by simp [atI]
theorem e41{x:n7}(h:s8 x.b5)(b:Int):∃v,b37 x b=some v/\decide (v<0) = !(J7 x.b5 b):=by
 obtain ⟨v,h1,h2⟩:=f4J h b;refine ⟨v,h1,?_⟩;rw [<-h2];by_cases q:v>=0
 ·have:¬v<0:=by omega
  simp [q,this]
 ·have:v<0:=by omega
  simp [q,this]
def H5(v:Int):Bool:=p9 v (-1000000) 1000000
def K4(regs:List Int)(a:Int):Int:=regs.getD a.toNat 0
theorem M9{regs:List Int}(h:regs.length=4){a:Int}(ha:0<=a/\a<=3):idx regs a=some (K4 regs a):=by
 obtain ⟨k,rfl⟩:=Int.eq_ofNat_of_zero_le ha.1;have hk:k<regs.length:=by omega
 rw [t0 hk];unfold K4;simp [hk]
theorem e7t{regs:List Int}(h:regs.length=4){a v:Int}(ha:0<=a/\a<=3):K4 (regs.set a.toNat v) a=v:=by
 unfold K4;have:a.toNat<regs.length:=by omega
 simp [this]
theorem f5b{regs:List Int}(h:regs.length=4)(hr:regs.all H5=true){a v:Int}(ha:0<=a/\a<=3):(regs.set a.toNat v).all H5=H5 v:=by
 cases hv:H5 v
 ·rw [g0g];exact ⟨v,f8O (i:=a.toNat) (by rw [f9Q (by omega)]),by simp [hv]⟩
 ·rw [f8E] at hr ⊢;intro x hx;rcases f9k hx with hx|rfl
  ·exact hr x hx
  ·exact hv
theorem a2J{regs:List Int}(h:regs.length=4)(hr:regs.all H5=true){a:Int}(ha:0<=a/\a<=3):-1000000<=K4 regs a/\K4 regs a<=1000000:=by
 have hi:=M9 h ha;have hm:K4 regs a∈regs:=f8O (b5K hi).2.2;have:=f8E.1 hr _ hm;simpa [H5,p9] using this
structure EI(regs:List Int)(rs:List r9)(ps:List p8)(k:Nat):Prop where
 len:regs.length=4
 rng:regs.all H5=true
 rl:rs.length<=k
 pl:ps.length<=k
theorem EI.fr{regs:List Int}{rs:List r9}{ps:List p8}{k:Nat}(h:EI regs rs ps k)(hk:k<=100):s8 rs:=by
 have:=h.rl;unfold s8;omega
theorem EI.fp{regs:List Int}{rs:List r9}{ps:List p8}{k:Nat}(h:EI regs rs ps k)(hk:k<=100):s8 ps:=by
 have:=h.pl;unfold s8;omega
def D8(l:List m9)(i:n8)(regs:List Int)(rs:List r9)(ps:List p8):List Int×List r9×List p8:=
 bif i.a9==1 then (match W5 ps i.B with
  | some k=>(match ps[k]? with
   | some p=>(regs.set i.A.toNat p.d9,rs,ps)
   | none=>(regs,rs,ps))
  | none=>match l[i.B.toNat]? with
   | some b=>(regs.set i.A.toNat b.d9,bif J7 rs i.B then rs else rs++[⟨i.B,b.j4⟩],ps)
   | none=>(regs,rs,ps))
 else bif i.a9==2 then (regs,rs,match W5 ps i.A with
  | some k=>(match ps[k]? with
   | some p=>ps.set k ⟨p.i5,K4 regs i.B⟩
   | none=>ps)
  | none=>ps++[⟨i.A,K4 regs i.B⟩])
 else bif i.a9==3 then (regs.set i.A.toNat i.N,rs,ps)
 else bif i.a9==4 then (regs.set i.A.toNat (K4 regs i.A+K4 regs i.B),rs,ps)
 else bif i.a9==5 then (regs.set i.A.toNat (K4 regs i.A-K4 regs i.B),rs,ps)
 else (regs,rs,ps)
def T9(l:List m9)(prog:List n8):Nat->Nat->List Int->List r9->List p8->n7
 | 0,_,regs,rs,ps=>⟨rs,ps,K4 regs 0,0⟩
 | f+1,k,regs,rs,ps=>match prog[k]? with
  | none=>⟨rs,ps,K4 regs 0,0⟩
  | some i=>bif i.a9==6 then T9 l prog f (bif decide (K4 regs i.A<K4 regs i.B) then k+i.N.toNat+1 else k+1) regs rs ps
   else bif i.a9==7 then ⟨rs,[],0,1⟩
   else bif (D8 l i regs rs ps).1.all H5 then T9 l prog f (k+1) (D8 l i regs rs ps).1 (D8 l i regs rs ps).2.1 (D8 l i regs rs ps).2.2
   else ⟨(D8 l i regs rs ps).2.1,[],0,2⟩
def B3(l:List m9)(prog:List n8):n7:=bif C6 l&&E4 prog then T9 l prog (prog.length+1) 0 [0,0,0,0] [] [] else ⟨[],[],0,3⟩
section
variable {l:List m9} {regs:List Int} {rs:List r9} {ps:List p8} {k:Nat} {i:n8}
theorem c2n(h:regs.length=4):(D8 l i regs rs ps).1.length=4:=by
 unfold D8;cases i.a9==1<;>cases i.a9==2<;>cases i.a9==3<;>cases i.a9==4<;>cases i.a9==5<;>simp only [g0Z,g00,f9Z,h]
 all_goals
  split
  ·split<;>simp [h]
  ·split<;>simp [h]
theorem d31(h:rs.length<=k):(D8 l i regs rs ps).2.1.length<=k+1:=by
 unfold D8;cases i.a9==1<;>cases i.a9==2<;>cases i.a9==3<;>cases i.a9==4<;>cases i.a9==5<;>simp only [g0Z,g00]<;>try omega
 all_goals
  split
  ·split<;>(simp only;omega)
  ·split
   ·cases J7 rs i.B<;>simp only [g0Z,g00,f8M,f9K]<;>omega
   ·simp only;omega
theorem c9c(h:ps.length<=k):(D8 l i regs rs ps).2.2.length<=k+1:=by
 unfold D8;cases i.a9==1<;>cases i.a9==2<;>cases i.a9==3<;>cases i.a9==4<;>cases i.a9==5<;>simp only [g0Z,g00]<;>try omega
 all_goals (repeat' split)
 all_goals (try simp only [f9Z,f8M,f9K])
 all_goals omega
theorem EI.next(h:EI regs rs ps k)(ha:(D8 l i regs rs ps).1.all H5=true):EI (D8 l i regs rs ps).1 (D8 l i regs rs ps).2.1 (D8 l i regs rs ps).2.2 (k+1):=
 ⟨c2n h.len,ha,d31 h.rl,c9c h.pl⟩
theorem b9M{x:Int}(h:-1000000<=x/\x<=1000000){y:Int}(h':-1000000<=y/\y<=1000000):m7 (x+y)=x+y/\m7 (x-y)=x-y:=⟨C4 (by omega) (by omega),C4 (by omega) (by omega)⟩
theorem f3W(hl:C6 l=true)(he:EI regs rs ps k)(hk:k<=100)(hi:P8 i=true)(h6:i.a9≠6)(h7:i.a9≠7) :
  a9Z l ⟨rs,ps,0,0⟩ regs i=some (⟨(D8 l i regs rs ps).2.1,(D8 l i regs rs ps).2.2,0,bif (D8 l i regs rs ps).1.all H5 then 0 else 2⟩,(D8 l i regs rs ps).1):=by
 have hfr:=he.fr hk;have hfp:=he.fp hk;have hrl:=he.rl;have hpl:=he.pl;have n1:(rs.length+1)*16<=140737488355328:=by omega
 have n2:(ps.length+1)*16<=140737488355328:=by omega
 have fin:∀(a v:Int) (rs':List r9) (ps':List p8),0<=a/\a<=3->i.a9≠2->i.A=a->a7W i (regs.set a.toNat v) rs' ps' 0 0=some (⟨rs',ps',0,bif (regs.set a.toNat v).all H5 then 0 else 2⟩,regs.set a.toNat v):=by
  intro a v rs' ps' ha h2 hia;unfold a7W b2h;rw [show (i.a9 != 2)=true from by simpa using h2,g0Z,hia,M9 (by simpa using he.len) ha,f8y,a73,f8y,e7t he.len ha,f5b he.len he.rng ha];unfold H5;cases p9 v (-1000000) 1000000<;>rfl
 unfold a9Z D8;rcases b3j hi with ⟨h,ha,hb⟩|⟨h,ha,hb⟩|⟨h,ha,hn⟩|⟨h,ha,hb⟩|⟨h,ha,hb⟩|⟨h,_⟩|⟨h,_⟩
 ·simp only [h,show ((1:Int)==1)=true from rfl,g0Z];unfold c6q c1z;rw [d7O hfp,f8y];cases hp:W5 ps i.B with
  | some j=>
   have hj:=b3f hp;simp only [b7e,g0Z,f8z hj];simp only [atI,t0 hj,f8y,M9 he.len ha,l9.go];exact fin i.A _ rs ps ha (by omega) rfl
  | none=>
   obtain ⟨b,hb1,hb2,_⟩:=a4N hl hb;simp only [b53,g00,d65 hfr,f8y,hb1,hb2,v5 n1];cases hs:J7 rs i.B
   ·simp only [f9j,g0Z,g00,f8y,l9.go,hb1,M9 he.len ha];exact fin i.A _ _ _ ha (by omega) rfl
   ·simp only [f8F,g0Z,g00,f8y,l9.go,hb1,M9 he.len ha];exact fin i.A _ _ _ ha (by omega) rfl
 ·simp only [h,show ((2:Int)==1)=false from rfl,show ((2:Int)==2)=true from rfl,g0Z,g00,M9 he.len hb,f8y];unfold c2O;rw [d7O hfp,f8y];have fin2:∀ps':List p8,a7W i regs rs ps' 0 0=some (⟨rs,ps',0,bif regs.all H5 then 0 else 2⟩,regs):=by
   intro ps';unfold a7W b2h;rw [he.rng,h];rfl
  cases hp:W5 ps i.A with
  | some j=>
   have hj:=b3f hp;simp only [b7e,g0Z,f8z hj];simp only [atI,t0 hj,f8y,l9.go,f9b];exact fin2 _
  | none=>
   simp only [b53,g00,v5 n2,f8y,l9.go];exact fin2 _
 ·simp only [h,show ((3:Int)==1)=false from rfl,show ((3:Int)==2)=false from rfl,show ((3:Int)==3)=true from rfl,g0Z,g00,M9 he.len ha,f8y,l9.go];exact fin i.A _ _ _ ha (by omega) rfl
 ·simp only [h,show ((4:Int)==1)=false from rfl,show ((4:Int)==2)=false from rfl,show ((4:Int)==3)=false from rfl,show ((4:Int)==4)=true from rfl,g0Z,g00,M9 he.len ha,M9 he.len hb,f8y,l9.go,(b9M (a2J he.len he.rng ha) (a2J he.len he.rng hb)).1];exact fin i.A _ _ _ ha (by omega) rfl
 ·simp only [h,show ((5:Int)==1)=false from rfl,show ((5:Int)==2)=false from rfl,show ((5:Int)==3)=false from rfl,show ((5:Int)==4)=false from rfl,show ((5:Int)==5)=true from rfl,g0Z,g00,M9 he.len ha,M9 he.len hb,f8y,l9.go,(b9M (a2J he.len he.rng ha) (a2J he.len he.rng hb)).2];exact fin i.A _ _ _ ha (by omega) rfl
 ·exact absurd h h6
 ·exact absurd h h7
theorem f8l(hi:i.a9=7)(ha:i.A=0)(he:EI regs rs ps k):a9Z l ⟨rs,ps,0,0⟩ regs i=some (⟨rs,ps,0,1⟩,regs):=by
 have hin:=a2J he.len he.rng (a:=0) (by omega);unfold a9Z a7W b2h;simp only [hi,ha,show ((7:Int)==1)=false from rfl,show ((7:Int)==2)=false from rfl,show ((7:Int)==3)=false from rfl,show ((7:Int)==4)=false from rfl,show ((7:Int)==5)=false from rfl,show ((7:Int)==7)=true from rfl,show ((7:Int) != 2)=true from rfl,g0Z,g00,f8y,l9.go,M9 he.len (a:=0) (by omega),a73];rw [show p9 (K4 regs 0) (-1000000) 1000000=true from by simp [p9];exact hin];rfl
theorem c8H(l:List m9){prog:List n8}{f k:Nat}{regs:List Int}{rs:List r9}{ps:List p8}(h:prog.length<=k):T9 l prog f k regs rs ps=⟨rs,ps,K4 regs 0,0⟩:=by
 cases f with
 | zero=>rfl
 | succ f=>
  unfold T9;rw [f8Y h]
theorem c2b{prog:List n8}(hp:E4 prog=true):prog.length<=10/\∀i∈prog,P8 i=true:=by
 unfold E4 at hp;simpa using hp
theorem d4X(l:List m9)(prog:List n8)(regs:List Int)(rs:List r9)(ps:List p8)(k c:Int)(hc:(c==0)=false) :
  ((o8 (fun s:(List Int)×(List r9)×(List p8)×Int×Int×Int=>a1V l prog s.1 s.2.1 s.2.2.1 s.2.2.2.1 s.2.2.2.2.1 s.2.2.2.2.2) (regs,rs,ps,k,0,c)).bind fun x=>x.go (fun r=>some r) fun s=>a7B s.1 s.2.1 s.2.2.1 s.2.2.2.1 s.2.2.2.2)=some ⟨rs,[],0,c⟩:=by
 rw [C8 (b:=(rs,ps,regs,0,c))]
 ·simp only [f8y,l9.go];unfold a7B;rw [bne,hc];rfl
 ·unfold a1V;simp only [hc,g00];cases decide (k<(prog.length:Int))<;>rfl
theorem f4d(hl:C6 l=true){prog:List n8}(hp:E4 prog=true):∀(f k:Nat) (regs:List Int) (rs:List r9) (ps:List p8),EI regs rs ps k->prog.length<k+f->k<=prog.length+10->
  ((o8 (fun s:(List Int)×(List r9)×(List p8)×Int×Int×Int=>a1V l prog s.1 s.2.1 s.2.2.1 s.2.2.2.1 s.2.2.2.2.1 s.2.2.2.2.2) (regs,rs,ps,(k:Int),0,0)).bind fun x=>x.go (fun r=>some r) fun s=>a7B s.1 s.2.1 s.2.2.1 s.2.2.2.1 s.2.2.2.2)=some (T9 l prog f k regs rs ps):=by
 obtain ⟨hlen,hins⟩:=c2b hp;intro f;induction f with
 | zero=>
  intro k regs rs ps he hf hk;rw [C8 (b:=(rs,ps,regs,0,0))]
  ·simp only [f8y,l9.go];unfold a7B;rw [show ((0:Int) != 0)=false from rfl,g00,M9 he.len (a:=0) (by omega)];rfl
  ·unfold a1V;rw [show decide ((k:Int)<(prog.length:Int))=false from by simp;omega];rfl
 | succ f ih=>
  intro k regs rs ps he hf hk;by_cases hlt:k<prog.length
  ·have hi:=hins _ (f8C hlt);unfold T9;rw [f8z hlt];simp only;by_cases h6:prog[k].a9=6
   ·obtain ⟨ha,hb,hn⟩:(0<=prog[k].A/\prog[k].A<=3)/\(0<=prog[k].B/\prog[k].B<=3)/\1<=prog[k].N/\prog[k].N<=10:=by
     rcases b3j hi with ⟨h,_⟩|⟨h,_⟩|⟨h,_⟩|⟨h,_⟩|⟨h,_⟩|⟨h,x⟩|⟨h,_⟩
     all_goals first|(exact x)|(exfalso;omega)
    have hb1:a1V l prog regs rs ps (k:Int) 0 0=some (.nxt (regs,rs,ps,((bif decide (K4 regs prog[k].A<K4 regs prog[k].B) then k+prog[k].N.toNat+1 else k+1:Nat):Int),0,0)):=by
     unfold a1V c5V;rw [w6 _ k hlt,t0 hlt];simp only [g0Z,f8y,h6,show ((6:Int)==6)=true from rfl,show ((0:Int)==0)=true from rfl,M9 he.len ha,M9 he.len hb];cases decide (K4 regs prog[k].A<K4 regs prog[k].B)
     ·simp only [g00,f8y,l9.go];rw [C4 (by omega) (by omega)];rfl
     ·simp only [g0Z,f8y,l9.go];rw [C4 (n:=(k:Int)+prog[k].N) (by omega) (by omega),C4 (by omega) (by omega),show ((k+prog[k].N.toNat+1:Nat):Int)=(k:Int)+prog[k].N+1 from by omega]
    rw [E7 hb1,h6];simp only [show ((6:Int)==6)=true from rfl,g0Z];refine ih _ _ _ _ ⟨he.len,he.rng,?_,?_⟩ ?_ ?_;all_goals
     have h1:=he.rl;have h2:=he.pl;cases decide (K4 regs prog[k].A<K4 regs prog[k].B)<;>simp only [g0Z,g00]<;>omega
   by_cases h7:prog[k].a9=7
   ·have ha:prog[k].A=0:=by
     rcases b3j hi with ⟨h,_⟩|⟨h,_⟩|⟨h,_⟩|⟨h,_⟩|⟨h,_⟩|⟨h,_⟩|⟨h,x⟩
     all_goals first|(exact x)|(exfalso;omega)
    have hb1:a1V l prog regs rs ps (k:Int) 0 0=some (.nxt (regs,rs,ps,m7 ((k:Int)+1),0,1)):=by
     unfold a1V;rw [w6 _ k hlt,t0 hlt];simp only [g0Z,f8y,show ((0:Int)==0)=true from rfl,f8l h7 ha he,h7,show ((7:Int)==6)=false from rfl,g00];rw [v5 trivial]
    rw [E7 hb1,d4X _ _ _ _ _ _ _ rfl,h7];rfl
   ·have hs:=f3W hl he (by omega) hi h6 h7;have hb1:a1V l prog regs rs ps (k:Int) 0 0=some (.nxt ((D8 l prog[k] regs rs ps).1,(D8 l prog[k] regs rs ps).2.1,(D8 l prog[k] regs rs ps).2.2,((k+1:Nat):Int),0,bif (D8 l prog[k] regs rs ps).1.all H5 then 0 else 2)):=by
     unfold a1V;rw [w6 _ k hlt,t0 hlt];simp only [g0Z,f8y,show ((0:Int)==0)=true from rfl,hs,show (prog[k].a9==6)=false from by simpa using h6,g00];rw [v5 (by rw [c2n he.len];exact he.len),C4 (by omega) (by omega)];rfl
    rw [E7 hb1,show (prog[k].a9==6)=false from by simpa using h6,show (prog[k].a9==7)=false from by simpa using h7,g00,g00];cases hall:(D8 l prog[k] regs rs ps).1.all H5
    ·rw [g00,g00,d4X _ _ _ _ _ _ _ rfl]
    ·rw [g0Z,g0Z];exact ih _ _ _ _ (he.next hall) (by omega) (by omega)
  ·rw [c8H l (by omega),C8 (b:=(rs,ps,regs,0,0))]
   ·simp only [f8y,l9.go];unfold a7B;rw [show ((0:Int) != 0)=false from rfl,g00,M9 he.len (a:=0) (by omega)];rfl
   ·unfold a1V;rw [show decide ((k:Int)<(prog.length:Int))=false from by simp;omega];rfl
theorem ei0:EI [0,0,0,0] [] [] 0:=⟨rfl,by decide,by simp,by simp⟩
theorem d2g{l:List m9}{prog:List n8}(hl:s8 l)(hp:s8 prog):b4T l prog=some (B3 l prog):=by
 unfold b4T B3;rw [c3k hl,f8y,c3e hp,f8y];cases hb:C6 l
 ·rfl
 cases ho:E4 prog
 ·rfl
 rw [f8F,g00,g00,v5 (by decide)];have:=f4d hb ho (prog.length+1) 0 [0,0,0,0] [] [] ei0 (by omega) (by omega);exact this
theorem f3n{regs:List Int}{Reads1:List r9}{ins:n8}{put1:p8}(h:regs.length=4)(hr:Reads1.length<=1000):o8 (fun s:Int=>b2S regs Reads1 ins put1 s) 0=some (bif (regs.set ins.A.toNat put1.d9).all H5 then .brk () else .ret ⟨Reads1,[],0,2⟩):=by
 have hl:(regs.set ins.A.toNat put1.d9).length=4:=by simpa using h
 refine c1a (regs.set ins.A.toNat put1.d9) (by unfold s8;omega) H5 _ () (fun k hk => ?_) ?_
 ·have hk4:(k:Int)<4:=by omega
  unfold b2S;rw [decide_eq_true hk4,t0 hk,g0Z,f8y,v5 hk4,N8,f8y,b3K hr];unfold H5;cases p9 (regs.set ins.A.toNat put1.d9)[k] (-1000000) 1000000<;>rfl
 ·unfold b2S;rw [hl];rfl
theorem c8I{regs:List Int}{Reads1:List r9}{ins:n8}{box:m9}(h:regs.length=4)(hr:Reads1.length<=1000):o8 (fun s:Int=>b38 regs ins Reads1 box s) 0=some (bif (regs.set ins.A.toNat box.d9).all H5 then .brk () else .ret ⟨Reads1,[],0,2⟩):=by
 have hl:(regs.set ins.A.toNat box.d9).length=4:=by simpa using h
 refine c1a (regs.set ins.A.toNat box.d9) (by unfold s8;omega) H5 _ () (fun k hk => ?_) ?_
 ·have hk4:(k:Int)<4:=by omega
  unfold b38;rw [decide_eq_true hk4,t0 hk,g0Z,f8y,v5 hk4,N8,f8y,b3K hr];unfold H5;cases p9 (regs.set ins.A.toNat box.d9)[k] (-1000000) 1000000<;>rfl
 ·unfold b38;rw [hl];rfl
theorem c2f{regs:List Int}{Reads1:List r9}(h:regs.length=4)(hr:Reads1.length<=1000):o8 (fun s:Int=>b1U Reads1 regs s) 0=some (bif regs.all H5 then .brk () else .ret ⟨Reads1,[],0,2⟩):=by
 refine c1a regs (by unfold s8;omega) H5 _ () (fun k hk => ?_) ?_
 ·have hk4:(k:Int)<4:=by omega
  unfold b1U;rw [decide_eq_true hk4,t0 hk,g0Z,f8y,v5 hk4,N8,f8y,b3K hr];unfold H5;cases p9 regs[k] (-1000000) 1000000<;>rfl
 ·unfold b1U;rw [h];rfl
theorem f6o(hl:C6 l=true)(he:EI regs rs ps k)(hk:k<=100){prog:List n8}(hkl:k<prog.length)(hpl:prog.length<=10)(R:List r9)(P:List p8)(hi:P8 prog[k]=true)(h6:prog[k].a9≠6)(h7:prog[k].a9≠7) :
  a3y l prog regs R P rs ps (k:Int)=some (bif (D8 l prog[k] regs rs ps).1.all H5 then .nxt ((D8 l prog[k] regs rs ps).1,R,P,(D8 l prog[k] regs rs ps).2.1,(D8 l prog[k] regs rs ps).2.2,((k+1:Nat):Int)) else .ret ⟨(D8 l prog[k] regs rs ps).2.1,[],0,2⟩):=by
 have hfr:=he.fr hk;have hfp:=he.fp hk;have hrl:=he.rl;have hpl:=he.pl;have n1:(rs.length+1)*16<=140737488355328:=by omega
 have n2:(ps.length+1)*16<=140737488355328:=by omega
 have hw:m7 ((k:Int)+1)=((k+1:Nat):Int):=by rw [C4 (by omega) (by omega)];rfl
 have fin:∀(regs':List Int) (ps':List p8),regs'.length=4->a9L R P rs regs' ps' (k:Int)=some (bif regs'.all H5 then .nxt (regs',R,P,rs,ps',((k+1:Nat):Int)) else .ret ⟨rs,[],0,2⟩):=by
  intro regs' ps' h;unfold a9L b4c;rw [c2f h (by omega),hw];cases regs'.all H5<;>rfl
 have hset:∀(a:Nat) (v:Int),(regs.set a v).length=4:=fun a v=>by simpa using he.len
 unfold a3y D8;generalize hin:prog[k]=i at hi h6 h7;rw [w6 _ k hkl,t0 hkl,hin,g0Z,f8y];rcases b3j hi with ⟨h,ha,hb⟩|⟨h,ha,hb⟩|⟨h,ha,hn⟩|⟨h,ha,hb⟩|⟨h,ha,hb⟩|⟨h,_⟩|⟨h,_⟩
 ·have na:i.A<4:=by omega
  simp only [h,show ((1:Int)==1)=true from rfl,g0Z];rw [d3i (x:=⟨rs,ps,0,0⟩) hfp,f8y];simp only;cases hp:W5 ps i.B with
  | some j=>
   have hj:=b3f hp;simp only [b7e,g0Z,f8z hj];simp only [atI,t0 hj,f8y,M9 he.len ha];rw [v5 na,f3n he.len (by omega)];unfold c4H;rw [hw];cases (regs.set i.A.toNat ps[j].d9).all H5<;>rfl
  | none=>
   obtain ⟨b,hb1,hb2,_⟩:=a4N hl hb;obtain ⟨v,hv1,hv2⟩:=e41 (x:=⟨rs,ps,0,0⟩) hfr i.B;simp only [b53,g00,hv1,hv2,f8y,hb1,hb2,v5 n1];cases hs:J7 rs i.B
   ·simp only [f9j,g0Z,g00,f8y,l9.go];unfold b6G b8r;rw [hb1,f8y,M9 he.len ha,f8y,v5 na,c8I he.len (by simp;omega),hw];cases (regs.set i.A.toNat b.d9).all H5<;>rfl
   ·simp only [f8F,g0Z,g00,f8y,l9.go];unfold b6G b8r;rw [hb1,f8y,M9 he.len ha,f8y,v5 na,c8I he.len (by omega),hw];cases (regs.set i.A.toNat b.d9).all H5<;>rfl
 ·have nb:i.B<4:=by omega
  simp only [h,show ((2:Int)==1)=false from rfl,show ((2:Int)==2)=true from rfl,g0Z,g00];rw [d3i (x:=⟨rs,ps,0,0⟩) hfp,f8y];simp only;cases hp:W5 ps i.A with
  | some j=>
   have hj:=b3f hp;simp only [b7e,g0Z,f8z hj];simp only [atI,t0 hj,f8y,M9 he.len hb,f9b];rw [v5 nb];simp only [f8y,l9.go];exact fin _ _ he.len
  | none=>
   simp only [b53,g00,f8y,M9 he.len hb];rw [v5 nb,v5 n2];simp only [f8y,l9.go];exact fin _ _ he.len
 ·have na:i.A<4:=by omega
  simp only [h,show ((3:Int)==1)=false from rfl,show ((3:Int)==2)=false from rfl,show ((3:Int)==3)=true from rfl,g0Z,g00,M9 he.len ha,f8y];rw [v5 na];simp only [f8y,l9.go];exact fin _ _ (hset _ _)
 ·have na:i.A<4:=by omega
  have nb:i.B<4:=by omega
  simp only [h,show ((4:Int)==1)=false from rfl,show ((4:Int)==2)=false from rfl,show ((4:Int)==3)=false from rfl,show ((4:Int)==4)=true from rfl,g0Z,g00,M9 he.len ha,M9 he.len hb,f8y,(b9M (a2J he.len he.rng ha) (a2J he.len he.rng hb)).1,v5 na,v5 nb,l9.go];exact fin _ _ (hset _ _)
 ·have na:i.A<4:=by omega
  have nb:i.B<4:=by omega
  simp only [h,show ((5:Int)==1)=false from rfl,show ((5:Int)==2)=false from rfl,show ((5:Int)==3)=false from rfl,show ((5:Int)==4)=false from rfl,show ((5:Int)==5)=true from rfl,g0Z,g00,M9 he.len ha,M9 he.len hb,f8y,(b9M (a2J he.len he.rng ha) (a2J he.len he.rng hb)).2,v5 na,v5 nb,l9.go];exact fin _ _ (hset _ _)
 ·exact absurd h h6
 ·exact absurd h h7
theorem e1Q(hl:C6 l=true){prog:List n8}(hp:E4 prog=true)(R:List r9)(P:List p8):∀(f k:Nat) (regs:List Int) (rs:List r9) (ps:List p8),EI regs rs ps k->prog.length<k+f->k<=prog.length+10->
  ((o8 (fun s:(List Int)×(List r9)×(List p8)×(List r9)×(List p8)×Int=>a3y l prog s.1 s.2.1 s.2.2.1 s.2.2.2.1 s.2.2.2.2.1 s.2.2.2.2.2) (regs,R,P,rs,ps,(k:Int))).bind fun x=>x.go (fun r=>some r) fun s=>b4M s.1 s.2.1 s.2.2.1 s.2.2.2.1 s.2.2.2.2)=some (T9 l prog f k regs rs ps):=by
 obtain ⟨hlen,hins⟩:=c2b hp;have stop:∀(k:Nat) (regs:List Int) (rs:List r9) (ps:List p8),EI regs rs ps k->prog.length<=k->k<=prog.length+10->((o8 (fun s:(List Int)×(List r9)×(List p8)×(List r9)×(List p8)×Int=>a3y l prog s.1 s.2.1 s.2.2.1 s.2.2.2.1 s.2.2.2.2.1 s.2.2.2.2.2) (regs,R,P,rs,ps,(k:Int))).bind fun x=>x.go (fun r=>some r) fun s=>b4M s.1 s.2.1 s.2.2.1 s.2.2.2.1 s.2.2.2.2)=some ⟨rs,ps,K4 regs 0,0⟩:=by
  intro k regs rs ps he h1 h2;have h3:=he.rl;have h4:=he.pl;rw [C8 (b:=(R,P,regs,rs,ps))]
  ·simp only [f8y,l9.go];unfold b4M;rw [b3K (by omega),f8y,e4Y (by omega),f8y,M9 he.len (a:=0) (by omega),f8y,v5 (by decide)]
  ·unfold a3y;rw [show decide ((k:Int)<(prog.length:Int))=false from by simp;omega];rfl
 intro f;induction f with
 | zero=>
  intro k regs rs ps he hf hk;exact stop k regs rs ps he (by omega) hk
 | succ f ih=>
  intro k regs rs ps he hf hk;by_cases hlt:k<prog.length
  ·have hi:=hins _ (f8C hlt);unfold T9;rw [f8z hlt];simp only;by_cases h6:prog[k].a9=6
   ·obtain ⟨ha,hb,hn⟩:(0<=prog[k].A/\prog[k].A<=3)/\(0<=prog[k].B/\prog[k].B<=3)/\1<=prog[k].N/\prog[k].N<=10:=by
     rcases b3j hi with ⟨h,_⟩|⟨h,_⟩|⟨h,_⟩|⟨h,_⟩|⟨h,_⟩|⟨h,x⟩|⟨h,_⟩
     all_goals first|(exact x)|(exfalso;omega)
    have hrl:=he.rl;have hb1:a3y l prog regs R P rs ps (k:Int)=some (.nxt (regs,R,P,rs,ps,((bif decide (K4 regs prog[k].A<K4 regs prog[k].B) then k+prog[k].N.toNat+1 else k+1:Nat):Int))):=by
     have na:prog[k].A<4:=by omega
     have nb:prog[k].B<4:=by omega
     unfold a3y;rw [w6 _ k hlt,t0 hlt];simp only [g0Z,f8y,h6,show ((6:Int)==1)=false from rfl,show ((6:Int)==2)=false from rfl,show ((6:Int)==3)=false from rfl,show ((6:Int)==4)=false from rfl,show ((6:Int)==5)=false from rfl,show ((6:Int)==6)=true from rfl,g00,M9 he.len ha,M9 he.len hb,v5 na,v5 nb];cases decide (K4 regs prog[k].A<K4 regs prog[k].B)
     ·simp only [g00,f8y,l9.go];unfold a9L b4c;rw [c2f he.len (by omega),he.rng,C4 (by omega) (by omega)];rfl
     ·simp only [g0Z,f8y,l9.go];unfold a9L b4c;rw [c2f he.len (by omega),he.rng,C4 (n:=(k:Int)+prog[k].N) (by omega) (by omega),C4 (by omega) (by omega),show ((k+prog[k].N.toNat+1:Nat):Int)=(k:Int)+prog[k].N+1 from by omega];rfl
    rw [E7 hb1,h6];simp only [show ((6:Int)==6)=true from rfl,g0Z];refine ih _ _ _ _ ⟨he.len,he.rng,?_,?_⟩ ?_ ?_;all_goals
     have h1:=he.rl;have h2:=he.pl;cases decide (K4 regs prog[k].A<K4 regs prog[k].B)<;>simp only [g0Z,g00]<;>omega
   by_cases h7:prog[k].a9=7
   ·have hrl:=he.rl;have hb1:a3y l prog regs R P rs ps (k:Int)=some (.ret ⟨rs,[],0,1⟩):=by
     unfold a3y;rw [w6 _ k hlt,t0 hlt];simp only [g0Z,f8y,h7,show ((7:Int)==1)=false from rfl,show ((7:Int)==2)=false from rfl,show ((7:Int)==3)=false from rfl,show ((7:Int)==4)=false from rfl,show ((7:Int)==5)=false from rfl,show ((7:Int)==6)=false from rfl,show ((7:Int)==7)=true from rfl,g00];rw [b3K (by omega)];rfl
    rw [W3 hb1,h7];rfl
   ·have hb1:=f6o hl he (by omega) hlt hlen R P hi h6 h7;rw [show (prog[k].a9==6)=false from by simpa using h6,show (prog[k].a9==7)=false from by simpa using h7,g00,g00];cases hall:(D8 l prog[k] regs rs ps).1.all H5
    ·rw [hall,g00] at hb1;rw [W3 hb1];rfl
    ·rw [hall,g0Z] at hb1;rw [E7 hb1,g0Z];exact ih _ _ _ _ (he.next hall) (by omega) (by omega)
  ·rw [c8H l (by omega)];exact stop k regs rs ps he (by omega) hk
theorem d4j{l:List m9}{prog:List n8}(hl:s8 l)(hp:s8 prog):b4E l prog=some (B3 l prog):=by
 unfold b4E B3;rw [b5k hl,f8y,c0m hp,f8y];cases hb:C6 l
 ·rfl
 cases ho:E4 prog
 ·rfl
 rw [f8F,g00,g00];exact e1Q hb ho [] [] (prog.length+1) 0 [0,0,0,0] [] [] ei0 (by omega) (by omega)
end
theorem b8f{l:List m4}(hl:l.length<=40)(he:l.all z4=true){k:Nat}(hk:k<=l.length):(told l (p6 l).2 k).length<=40:=by
 obtain ⟨_,hlen,hc⟩:=P5 hl he l.length (f8R _);rw [f8Q] at hlen hc;have h1:=b6c hlen k hk;have h2:=c6V ((p6 l).2.take k) 0;rw [f8S] at h2;omega
theorem e6J{l:List m4}(h:A2 88 a09 l):b8L l=some (z9 l):=by
 unfold b8L z9;rw [d2F h,f8y];cases hok:G4 l
 ·rfl
 have hf:s8 l:=h.fits (by decide);obtain ⟨hl,he⟩:=W8 hok;obtain ⟨_,hlen,hc⟩:=P5 hl he l.length (f8R _);rw [f8Q] at hlen hc;rw [f8F,g00,g0Z,c0s,f8y];have hloop:=V9 (body:=fun s:(List n5)×(List m9)×Int×Int×List q9=>a7X l s.1 s.2.1 s.2.2.1 s.2.2.2.1 s.2.2.2.2) (fun k=>(told l (p6 l).2 k,(p6 (l.take k)).1.g7,(k:Int),(p6 (l.take k)).1.At,(p6 (l.take k)).1.i8)) l.length (by
  intro k hk;have hk2:k<(p6 l).2.length:=by omega
  have hs:=b8f hl he (k:=k) (by omega);obtain ⟨h1,h2,h3⟩:=P5 hl he k (by omega);have n1:((told l (p6 l).2 k).length+1)*16<=140737488355328:=by omega
  have hcode:=b1v hl he hk;rw [f8z hk2] at hcode;have hcode:=f9V hcode;show a7X l (told l (p6 l).2 k) (p6 (l.take k)).1.g7 (k:Int) (p6 (l.take k)).1.At (p6 (l.take k)).1.i8=some (.nxt (told l (p6 l).2 k++b2z l (p6 l).2 k,(p6 (l.take (k+1))).1.g7,((k+1:Nat):Int),(p6 (l.take (k+1))).1.At,(p6 (l.take (k+1))).1.i8))
  rw [b2b hk hk2,a0K hk,hcode];unfold a7X c5q;rw [w6 _ k hk,t0 hk,E6 hf hk];simp only [g0Z,f8y];rw [show (⟨(p6 (l.take k)).1.At,(p6 (l.take k)).1.g7,(p6 (l.take k)).1.i8⟩:u5)=(p6 (l.take k)).1 from rfl,b9L h1 (by omega) (f8E.1 he _ (f8C hk)) (h.2 _ (f8C hk)),f8y,v5 n1];cases (apply (p6 (l.take k)).1 l[k]).2==0
  ·simp only [g00,f8y,l9.go,f9o];rfl
  ·rfl)
 rw [f9p,f8Q,show told l (p6 l).2 0=[] from rfl,show ((0:Nat):Int)=0 from rfl] at hloop;rw [show o8 (fun s:(List n5)×(List m9)×Int×Int×List q9=>a7X l s.1 s.2.1 s.2.2.1 s.2.2.2.1 s.2.2.2.2) (([]:List n5),P7.g7,0,P7.At,P7.i8)=_ from hloop,C8 (b:=told l (p6 l).2 l.length)]
 ·rfl
 ·unfold a7X;rw [z8];rfl
theorem d7a(l:List m4):s8 (z9 l):=by
 unfold z9;cases hok:G4 l
 ·simp [s8]
 ·obtain ⟨hl,he⟩:=W8 hok;have:=b8f hl he (f8R _);show s8 (told l (p6 l).2 l.length)
  unfold s8;omega
def H0(l:List m9)(p:List n8):List m9×Int×Int:=bif (B3 l p).Code==3 then ([],0,3) else (a0Q l (B3 l p).b7,(B3 l p).d9,(B3 l p).Code)
theorem d8C{l:List m9}{i:n8}{regs:List Int}{rs:List r9}{ps:List p8}(hl:C6 l=true)(h4:regs.length=4)(hr:regs.all H5=true)(hi:P8 i=true)(h1:a4o rs=true)(h2:a13 ps=true):a4o (D8 l i regs rs ps).2.1=true/\a13 (D8 l i regs rs ps).2.2=true:=by
 unfold D8;cases k1:i.a9==1
 ·simp only [g00];cases k2:i.a9==2
  ·simp only [g00];cases i.a9==3
   ·cases i.a9==4
    ·cases i.a9==5<;>exact ⟨h1,h2⟩
    ·exact ⟨h1,h2⟩
   ·exact ⟨h1,h2⟩
  ·simp only [g0Z];unfold P8 at hi;rw [k1,k2] at hi;simp only [g0Z,g00,f8D,H7] at hi;have hv:=a2J h4 hr hi.2.1;refine ⟨h1,?_⟩;cases hp:W5 ps i.A with
   | some k=>
    have hk:=b3f hp;simp only [f8z hk];exact e8B h2 hk hv
   | none=>
    simp only;refine e3t h2 ⟨hi.1.1,hi.1.2,hv⟩ ?_;unfold K8;rw [f9q];intro x hx;have:=g0t.1 hp x hx;simpa using this
 ·simp only [g0Z];unfold P8 at hi;rw [k1] at hi;simp only [g0Z,f8D,H7] at hi;cases W5 ps i.B with
  | some k=>
   simp only;cases ps[k]?<;>exact ⟨h1,h2⟩
  | none=>
   simp only;cases hb:l[i.B.toNat]? with
   | none=>exact ⟨h1,h2⟩
   | some b=>
    simp only;cases hs:J7 rs i.B
    ·obtain ⟨b',b1,_,b3⟩:=a4N hl hi.2.1;unfold idx at b1;rw [if_pos hi.2.1.1,hb] at b1;injection b1 with b1;subst b1;rw [b2w] at b3;exact ⟨f1o h1 ⟨hi.2.1.1,hi.2.1.2,b3.1⟩ hs,h2⟩
    ·exact ⟨h1,h2⟩
theorem c5D{l:List m9}(hl:C6 l=true){prog:List n8}(hi:∀i∈prog,P8 i=true):∀(f k c:Nat) (regs:List Int) (rs:List r9) (ps:List p8),regs.length=4->regs.all H5=true->a4o rs=true->a13 ps=true->rs.length<=c->ps.length<=c->c+f<=40->Ran (T9 l prog f k regs rs ps)
 | 0,k,c,regs,rs,ps,h4,hr,h1,h2,h5,h6,h7=>by
  have w:Way ⟨rs,ps,0,0⟩ 40:=⟨rfl,h1,h2,by simp only;omega,by simp only;omega⟩
  exact b7O w (by omega) (.inl rfl) (fun _=>a2J h4 hr (a:=0) ⟨by omega,by omega⟩)
 | f+1,k,c,regs,rs,ps,h4,hr,h1,h2,h5,h6,h7=>by
  have w:∀c,Way ⟨rs,ps,0,c⟩ 40:=fun c=>⟨rfl,h1,h2,by simp only;omega,by simp only;omega⟩
  unfold T9;cases hk:prog[k]? with
  | none=>exact b7O (w 0) (by omega) (.inl rfl) (fun _=>a2J h4 hr (a:=0) ⟨by omega,by omega⟩)
  | some i=>
   have hin:=hi i (f8O hk);simp only;cases i.a9==6
   ·cases i.a9==7
    ·obtain ⟨a1,a2⟩:=d8C hl h4 hr hin h1 h2;have l4:=c2n (l:=l) (i:=i) (rs:=rs) (ps:=ps) h4;have lr:=d31 (l:=l) (i:=i) (regs:=regs) (ps:=ps) h5;have lp:=c9c (l:=l) (i:=i) (regs:=regs) (rs:=rs) h6;simp only [g00];cases ha:(D8 l i regs rs ps).1.all H5
     ·have w2:Way ⟨(D8 l i regs rs ps).2.1,(D8 l i regs rs ps).2.2,0,2⟩ 40:=⟨rfl,a1,a2,by simp only;omega,by simp only;omega⟩
      exact b7O w2 (by omega) (.inr (.inr rfl)) (v:=0) (fun q=>absurd (show (2:Int)=0 from q) (by decide))
     ·exact c5D hl hi f (k+1) (c+1) _ _ _ l4 ha a1 a2 lr lp (by omega)
    ·exact b7O (w 1) (by omega) (.inr (.inl rfl)) (v:=0) (fun q=>absurd (show (1:Int)=0 from q) (by decide))
   ·exact c5D hl hi f _ c _ _ _ h4 hr h1 h2 h5 h6 (by omega)
theorem b7f{l:List m9}{p:List n8}(hl:C6 l=true)(hp:s8 p):Ran (B3 l p):=by
 unfold B3;rw [hl,f8K];cases hpo:E4 p
 ·exact (⟨by decide,by simp,by simp⟩:Ran ⟨[],[],0,3⟩)
 unfold E4 at hpo;simp only [f8D,decide_eq_true_eq] at hpo;exact c5D hl (f8E.1 hpo.2) _ 0 0 _ [] [] rfl (by decide) rfl rfl (by simp) (by simp) (by omega)
theorem Ran.f{r:n7}(h:Ran r):a1z r:=by
 have h1:=h.rlen;have h2:=h.plen;exact ⟨⟨by omega,fun _ _=>trivial⟩,⟨by omega,fun _ _=>trivial⟩,trivial⟩
theorem Ran.puts{r:n7}(h:Ran r):∀p∈r.b7,a0n p:=by
 have:=h.ok;rw [a9B] at this;simp only [f8D] at this;exact (b20.1 this.2.2.2.2.2).1
theorem d7J{l:List m9}{p:List n8}(hl:C6 l=false):(B3 l p).Code=3:=by
 unfold B3;rw [hl];rfl
theorem d0X{l:List m9}(h:C6 l=true):b4L l=some l:=by
 have:=a7r h;unfold b4L;rw [v5 (by simp;omega)];rfl
theorem e9x{l:List m9}{p:List n8}(hl:s8 l)(hp:s8 p):c0P l p=some (H0 l p):=by
 unfold c0P H0;rw [d2g hl hp,f8y];cases hc:(B3 l p).Code==3
 ·have hb:C6 l=true:=by
   cases hb:C6 l
   ·rw [d7J hb] at hc;cases hc
   ·rfl
  have hr:=b7f hb hp;simp only [g00,d0X hb,f8y,c97 hb hr.f hr.puts]
 ·rfl
theorem d9V{l:List m9}{p:List n8}(hl:s8 l)(hp:s8 p):b9G l p=some (H0 l p):=by
 unfold b9G H0;rw [d4j hl hp,f8y];cases hc:(B3 l p).Code==3
 ·have hb:C6 l=true:=by
   cases hb:C6 l
   ·rw [d7J hb] at hc;cases hc
   ·rfl
  have hr:=b7f hb hp;simp only [g00,f8y,d4f hb hr.f hr.ok]
 ·rfl
theorem c7s{l:List m9}{p:List n8}(hl:C6 l=true)(hp:s8 p)(h:((H0 l p).2.2==3)=false):C6 (H0 l p).1=true:=by
 have hr:=b7f hl hp;unfold H0 at h ⊢;cases hc:(B3 l p).Code==3
 ·rw [g00];exact b7Q hl hr.puts
 ·rw [hc,g0Z] at h;cases h
def a1M:List (List n8)->List m9->List Int->List m9×List Int
 | [],b,vs=>(b,vs)
 | p::ps,b,vs=>bif (H0 b p).2.2==3 then ([],[]) else a1M ps (H0 b p).1 (vs++[(H0 b p).2.1])
def F5(l:List m9)(progs:List (List n8)):List m9×List Int:=bif C6 l&&decide (progs.length<=100) then a1M progs l [] else ([],[])
theorem e7k{progs:List (List n8)}(hp:∀p∈progs,s8 p)(hn:progs.length<=100):∀(m k:Nat) (b:List m9) (vs:List Int),k+m=progs.length->C6 b=true->vs.length=k->
  ((o8 (fun s:(List Int)×(List m9)×Int=>a90 progs s.1 s.2.1 s.2.2) (vs,b,(k:Int))).bind fun x=>x.go (fun r=>some r) fun s=>c2j s.1 s.2)=some (a1M (progs.drop k) b vs):=by
 intro m;induction m with
 | zero=>
  intro k b vs hk hb hv;have:k=progs.length:=by omega
  subst this;rw [g0O,C8 (b:=(vs,b))]
  ·rfl
  ·unfold a90;simp only [z8];rfl
 | succ m ih=>
  intro k b vs hk hb hv;have hlt:k<progs.length:=by omega
  have hpk:=hp _ (f8C hlt);have n1:(vs.length+1)*8<=140737488355328:=by omega
  have hw:m7 ((k:Int)+1)=((k+1:Nat):Int):=by rw [C4 (by omega) (by omega)];rfl
  have hb1:a90 progs vs b (k:Int)=some (bif (H0 b progs[k]).2.2==3 then .ret ([],[]) else .nxt (vs++[(H0 b progs[k]).2.1],(H0 b progs[k]).1,((k+1:Nat):Int))):=by
   unfold a90;simp only [w6 _ k hlt,t0 hlt,g0Z,f8y,e9x (a3k hb) hpk,v5 n1,hw];cases (H0 b progs[k]).2.2==3<;>rfl
  rw [f8W hlt];unfold a1M;cases hc:(H0 b progs[k]).2.2==3
  ·rw [hc,g00] at hb1;rw [E7 hb1,g00];exact ih (k+1) _ _ (by omega) (c7s hb hpk hc) (by simp;omega)
  ·rw [hc,g0Z] at hb1;rw [W3 hb1];rfl
theorem e3q{l:List m9}{progs:List (List n8)}(hl:s8 l)(hp:∀p∈progs,s8 p):b9E l progs=some (F5 l progs):=by
 unfold b9E F5;rw [c3k hl,f8y];cases hb:C6 l
 ·rfl
 rw [f8F,g00,f8K];by_cases hn:progs.length<=100
 ·have h1:¬((progs.length:Int)>100):=by omega
  rw [decide_eq_false h1,g00,decide_eq_true hn,g0Z,d0X hb,f8y];have:=e7k hp hn progs.length 0 l [] (by omega) hb rfl;rwa [f9M] at this
 ·have h1:(progs.length:Int)>100:=by omega
  rw [decide_eq_true h1,decide_eq_false hn];rfl
theorem e6H{l:List Int}(h:l.length<=1000):b5Q l=some l:=by
 unfold b5Q;cases hl:((l.length:Int)==0)
 ·rw [g00,v5 (by constructor<;>omega),v5 (by simp)]
 ·simp only [beq_iff_eq] at hl;have:l=[]:=f8N (by omega);rw [this];rfl
theorem e73{progs:List (List n8)}(hp:∀p∈progs,s8 p)(hn:progs.length<=100):∀(m k:Nat) (b:List m9) (vs:List Int),k+m=progs.length->C6 b=true->vs.length=k->
  ((o8 (fun s:(List Int)×Int×List m9=>b0M progs s.1 s.2.1 s.2.2) (vs,(k:Int),b)).bind fun x=>x.go (fun r=>some r) fun s=>b8n s.1 s.2)=some (a1M (progs.drop k) b vs):=by
 intro m;induction m with
 | zero=>
  intro k b vs hk hb hv;have:k=progs.length:=by omega
  subst this;rw [g0O,C8 (b:=(vs,b))]
  ·simp only [f8y,l9.go];unfold b8n;rw [e6H (by omega)];rfl
  ·unfold b0M;simp only [z8];rfl
 | succ m ih=>
  intro k b vs hk hb hv;have hlt:k<progs.length:=by omega
  have hpk:=hp _ (f8C hlt);have n1:(vs.length+1)*8<=140737488355328:=by omega
  have hw:m7 ((k:Int)+1)=((k+1:Nat):Int):=by rw [C4 (by omega) (by omega)];rfl
  have hb1:b0M progs vs (k:Int) b=some (bif (H0 b progs[k]).2.2==3 then .ret ([],[]) else .nxt (vs++[(H0 b progs[k]).2.1],((k+1:Nat):Int),(H0 b progs[k]).1)):=by
   unfold b0M;simp only [w6 _ k hlt,t0 hlt,g0Z,f8y,d9V (a3k hb) hpk,v5 n1,hw];cases (H0 b progs[k]).2.2==3<;>rfl
  rw [f8W hlt];unfold a1M;cases hc:(H0 b progs[k]).2.2==3
  ·rw [hc,g00] at hb1;rw [E7 hb1,g00];exact ih (k+1) _ _ (by omega) (c7s hb hpk hc) (by simp;omega)
  ·rw [hc,g0Z] at hb1;rw [W3 hb1];rfl
theorem f2W{l:List m9}{progs:List (List n8)}(hl:s8 l)(hp:∀p∈progs,s8 p):b8R l progs=some (F5 l progs):=by
 unfold b8R F5;rw [b5k hl,f8y];cases hb:C6 l
 ·rfl
 rw [f8F,g00,f8K];by_cases hn:progs.length<=100
 ·have h1:¬((progs.length:Int)>100):=by omega
  rw [decide_eq_false h1,g00,decide_eq_true hn,g0Z,c3E (by rw [a7r hb];decide),f8y];have:=e73 hp hn progs.length 0 l [] (by omega) hb rfl;rwa [f9M] at this
 ·have h1:(progs.length:Int)>100:=by omega
  rw [decide_eq_true h1,decide_eq_false hn];rfl
def b4H(w:m5)(q:n5):Option x8:=w.d8.find? fun a=>(([a.a5.b9,a.a5.Seq]:List Int)==[q.b9,q.Seq])
def R8(w:m5)(q:n5):List n8×Bool:=match b4H w q with
 | some a=>(a.i6,true)
 | none=>([],false)
theorem e87{l:List n8}(h:l.length*32<=140737488351232):a9g l=some l:=by
 unfold a9g;cases hl:((l.length:Int)==0)
 ·rw [g00,v5 (by constructor<;>omega),v5 (by simp)]
 ·simp only [beq_iff_eq] at hl;have:l=[]:=f8N (by omega);rw [this];rfl
theorem c6J{w:m5}(h:L3 w){a:x8}(ha:a∈w.d8):a.i6.length*32<=140737488351232:=(h.2.2.1.2 a ha).2.1
theorem f5Q{w:m5}(h:L3 w)(q:n5):b6A w q=some (R8 w q):=by
 have hf:s8 w.d8:=h.2.2.1.fits (by decide);unfold b6A R8 b4H;rw [b4V w.d8 hf (fun a=>(([a.a5.b9,a.a5.Seq]:List Int)==[q.b9,q.Seq])) (fun a=>(a.i6,true)) ()]
 ·cases w.d8.find? (fun a=>(([a.a5.b9,a.a5.Seq]:List Int)==[q.b9,q.Seq]))<;>rfl
 ·intro k hk;have:=c6J h (f8C hk);unfold b86;rw [w6 _ k hk,t0 hk];simp only [g0Z,f8y];rw [v5 (by simp;omega)];cases (([w.d8[k].a5.b9,w.d8[k].a5.Seq]:List Int)==[q.b9,q.Seq])<;>rfl
 ·unfold b86;rw [z8];rfl
theorem e6d{w:m5}(h:L3 w)(q:n5):b6n w q=some (R8 w q):=by
 have hf:s8 w.d8:=h.2.2.1.fits (by decide);unfold b6n R8 b4H;rw [b4V w.d8 hf (fun a=>(([a.a5.b9,a.a5.Seq]:List Int)==[q.b9,q.Seq])) (fun a=>(a.i6,true)) ()]
 ·cases w.d8.find? (fun a=>(([a.a5.b9,a.a5.Seq]:List Int)==[q.b9,q.Seq]))<;>rfl
 ·intro k hk;have:=c6J h (f8C hk);unfold b54;rw [w6 _ k hk,t0 hk];simp only [g0Z,f8y,e87 this];cases (([w.d8[k].a5.b9,w.d8[k].a5.Seq]:List Int)==[q.b9,q.Seq])<;>rfl
 ·unfold b54;rw [z8];rfl
theorem e1b{w:m5}(h:L3 w)(q:n5):s8 (R8 w q).1:=by
 unfold R8 b4H;cases hf:w.d8.find? (fun a=>(([a.a5.b9,a.a5.Seq]:List Int)==[q.b9,q.Seq])) with
 | none=>simp [s8]
 | some a=>
  have:=c6J h (g0T hf);show a.i6.length<=_
  omega
def a2d(w:m5):List n5->List (List n8)->Option (List (List n8))
 | [],o=>some o
 | q::qs,o=>bif (R8 w q).2 then a2d w qs (o++[(R8 w q).1]) else none
theorem c2i{w:m5}(h:L3 w):∀{qs:List n5} {o ps:List (List n8)},a2d w qs o=some ps->(∀p∈o,s8 p)->∀p∈ps,s8 p
 | [],o,ps,hs,ho=>by
  injection hs with hs;subst hs;exact ho
 | q::qs,o,ps,hs,ho=>by
  unfold a2d at hs;cases hq:(R8 w q).2
  ·rw [hq] at hs;cases hs
  ·rw [hq,g0Z] at hs;refine c2i h hs fun p hp => ?_
   rcases f8B.1 hp with hp|hp
   ·exact ho p hp
   ·rw [f8H.1 hp];exact e1b h q
theorem f7A{w:m5}(h:L3 w){l:List n5}(hl:l.length<=1000):∀(m k:Nat) (o:List (List n8)),k+m=l.length->o.length=k->
  ((o8 (fun s:(List (List n8))×Int=>a7v w l s.1 s.2) (o,(k:Int))).bind fun x=>x.go (fun r=>some r) fun s=>c4Z s)=some (match a2d w (l.drop k) o with|some ps=>(ps,true)|none=>([],false)):=by
 intro m;induction m with
 | zero=>
  intro k o hk ho;have:k=l.length:=by omega
  subst this;rw [g0O,C8 (b:=o)]
  ·rfl
  ·unfold a7v;simp only [z8];rfl
 | succ m ih=>
  intro k o hk ho;have hlt:k<l.length:=by omega
  have n1:(o.length+1)*24<=140737488355328:=by omega
  have hw:m7 ((k:Int)+1)=((k+1:Nat):Int):=by rw [C4 (by omega) (by omega)];rfl
  have hb1:a7v w l o (k:Int)=some (bif (R8 w l[k]).2 then .nxt (o++[(R8 w l[k]).1],((k+1:Nat):Int)) else .ret ([],false)):=by
   unfold a7v;simp only [w6 _ k hlt,t0 hlt,g0Z,f8y,f5Q h,v5 n1,hw];cases (R8 w l[k]).2<;>rfl
  rw [f8W hlt];unfold a2d;cases hc:(R8 w l[k]).2
  ·rw [hc,g00] at hb1;rw [W3 hb1];rfl
  ·rw [hc,g0Z] at hb1;rw [E7 hb1,g0Z];exact ih (k+1) _ (by omega) (by simp;omega)
def a5E(a b:List m9):Bool:=(a.length==b.length)&&(f8I a.length).all fun k=>match a[k]?,b[k]? with
 | some x,some y=>(([x.j4,x.d9]:List Int)==[y.j4,y.d9])
 | _,_=>false
theorem e4c{a b:List m9}(h:s8 a):b8Q a b=some (a5E a b):=by
 unfold b8Q a5E;rw [b0v];cases hl:a.length==b.length
 ·rfl
 have hl:a.length=b.length:=by simpa using hl
 rw [f8F,g00,f8K,V8 a h (fun k=>match a[k]?,b[k]? with|some x,some y=>(([x.j4,x.d9]:List Int)==[y.j4,y.d9])|_,_=>false) false ()]
 ·cases (f8I a.length).all _<;>rfl
 ·intro k hk _;unfold b7p;rw [w6 _ k hk,t0 hk,t0 (hl▸hk),f8z hk,f8z (hl▸hk)];simp only [g0Z,f8y];cases (([a[k].j4,a[k].d9]:List Int)==[(b[k]'(hl▸hk)).j4,(b[k]'(hl▸hk)).d9])<;>rfl
 ·unfold b7p;rw [z8];rfl
theorem f1j{a b:List m9}(h:s8 a):c0Z a b=some (a5E a b):=by
 unfold c0Z c4j a5E;rw [b0v];cases hl:a.length==b.length
 ·rfl
 have hl:a.length=b.length:=by simpa using hl
 rw [f8F,g00,f8K,V8 a h (fun k=>match a[k]?,b[k]? with|some x,some y=>(([x.j4,x.d9]:List Int)==[y.j4,y.d9])|_,_=>false) false ()]
 ·cases (f8I a.length).all _<;>rfl
 ·intro k hk _;unfold b7g;rw [w6 _ k hk,t0 hk,t0 (hl▸hk),f8z hk,f8z (hl▸hk)];simp only [g0Z,f8y];cases (([a[k].j4,a[k].d9]:List Int)==[(b[k]'(hl▸hk)).j4,(b[k]'(hl▸hk)).d9])<;>rfl
 ·unfold b7g;rw [z8];rfl
theorem e2q{s:u5}{e:m4}(h:e.i7=true):(apply s e).2=5:=by
 unfold apply;rw [h];rfl
theorem d0j{l:List m4}(hl:l.length<=40)(he:l.all z4=true):∀k,k<=l.length->∀q∈told l (p6 l).2 k,∃e∈l,D6 q e=true
 | 0,_,q,hq=>by cases hq
 | k+1,hk,q,hq=>by
  have h1:k<l.length:=by omega
  have hlen:=(P5 hl he l.length (f8R _)).2.1;rw [f8Q] at hlen;have h2:k<(p6 l).2.length:=by omega
  unfold told at hq;rcases f8B.1 hq with hq|hq
  ·exact d0j hl he k (by omega) q hq
  ·rw [b2b h1 h2] at hq;cases hc:(p6 l).2[k]==0
   ·rw [hc] at hq;cases hq
   ·rw [hc,g0Z,f8H] at hq;refine ⟨l[k],f8C h1,?_⟩;have hco:=b1v hl he h1;rw [f8z h2] at hco;have hco:=f9V hco;rw [hq];unfold D6;cases hn:l[k].i7
    ·simp
    ·rw [e2q hn] at hco;rw [hco] at hc;cases hc
theorem e9c{l:List m4}{q:n5}(hq:q∈z9 l):∃i,∃h:i<l.length,l.findIdx? (D6 q)=some i:=by
 unfold z9 at hq;cases hok:G4 l
 ·rw [hok] at hq;cases hq
 ·rw [hok,g0Z] at hq;obtain ⟨hl,he⟩:=W8 hok;obtain ⟨e,h1,h2⟩:=d0j hl he _ (f8R _) q hq;cases hf:l.findIdx? (D6 q) with
  | none=>
   have:=(g0t.1 hf) e h1;rw [h2] at this;cases this
  | some i=>exact ⟨i,(f9x.1 hf).1,rfl⟩
def Q5(l:List m4)(q:n5):Int:=match l.findIdx? (D6 q) with
 | some k=>(match l[k]? with|some e=>e.b6.d9|none=>0)
 | none=>0
theorem e29{l:List m4}(h:s8 l)(q:n5):b0Y l q=some (Q5 l q):=d6Y h q
def c0D(l:List m4)(done:List n5)(vals:List Int):Bool:=(f8I done.length).all fun i=>match vals[i]?,done[i]? with
 | some v,some q=>v==Q5 l q
 | _,_=>false
def W0:List m9:=f8A 4 ⟨0,0⟩
def b5F(l:List m4)(ps:List (List n8)):Bool:=
 ((F5 W0 ps).2.length==(z9 l).length)&&(a5E (F5 W0 ps).1 (p6 l).1.g7&&c0D l (z9 l) (F5 W0 ps).2)
def a2x(w:m5):Bool:=A0 w&&match a2d w (z9 (u6 w)) [] with
 | some ps=>b5F (u6 w) ps
 | none=>false
theorem b8D:C6 W0=true:=by decide
theorem d6X:∀{ps:List (List n8)} {b:List m9} {vs:List Int},C6 b=true->(∀p∈ps,s8 p)->s8 (a1M ps b vs).1
 | [],b,vs,hb,_=>a3k hb
 | p::ps,b,vs,hb,hp=>by
  unfold a1M;cases hc:(H0 b p).2.2==3
  ·rw [g00];exact d6X (c7s hb (hp p (by simp)) hc) fun q hq=>hp q (by simp [hq])
  ·simp [s8]
theorem c9F{ps:List (List n8)}(hp:∀p∈ps,s8 p):s8 (F5 W0 ps).1:=by
 unfold F5;cases (C6 W0&&decide (ps.length<=100))
 ·simp [s8]
 ·exact d6X b8D hp
theorem e2J{w:m5}(h:L3 w){lg:List m4}{l:List n5}(hl:l.length<=1000):∀(m k:Nat) (o:List (List n8)),k+m=l.length->o.length=k->
  ((o8 (fun s:(List (List n8))×Int=>a7j w l s.1 s.2) (o,(k:Int))).bind fun x=>x.go (fun r=>some r) fun s=>b5r lg l s)=(match a2d w (l.drop k) o with|some ps=>b5r lg l ps|none=>some false):=by
 intro m;induction m with
 | zero=>
  intro k o hk ho;have:k=l.length:=by omega
  subst this;rw [g0O,C8 (b:=o)]
  ·rfl
  ·unfold a7j;simp only [z8];rfl
 | succ m ih=>
  intro k o hk ho;have hlt:k<l.length:=by omega
  have n1:(o.length+1)*24<=140737488355328:=by omega
  have hw:m7 ((k:Int)+1)=((k+1:Nat):Int):=by rw [C4 (by omega) (by omega)];rfl
  have hb1:a7j w l o (k:Int)=some (bif (R8 w l[k]).2 then .nxt (o++[(R8 w l[k]).1],((k+1:Nat):Int)) else .ret false):=by
   unfold a7j;simp only [w6 _ k hlt,t0 hlt,g0Z,f8y,e6d h,v5 n1,hw];cases (R8 w l[k]).2<;>rfl
  rw [f8W hlt];unfold a2d;cases hc:(R8 w l[k]).2
  ·rw [hc,g00] at hb1;rw [W3 hb1];rfl
  ·rw [hc,g0Z] at hb1;rw [E7 hb1,g0Z];exact ih (k+1) _ (by omega) (by simp;omega)
theorem f6A:b1N=some W0:=rfl
theorem f1x:b3z=some W0:=rfl
theorem f0R{w:m5}(h:L3 w):b8b w=some (a2x w):=by
 unfold b8b a2x;rw [a6b h,f8y];cases hw:A0 w
 ·rfl
 obtain ⟨h0,hlo,hok⟩:=b94 h hw;have hs:=d4c h h0;obtain ⟨hl,he⟩:=W8 hok;have hf:=okEntries.f hlo;have hfl:s8 (u6 w):=hlo.fits (by decide);have hd:(z9 (u6 w)).length<=40:=by
  unfold z9;rw [hok];exact b8f hl he (f8R _)
 have hdf:s8 (z9 (u6 w)):=d7a _;simp only [f8F,g00,hs,f8y,e6J hf,f8K];have hpg:=f7A h (l:=z9 (u6 w)) (by omega) (z9 (u6 w)).length 0 [] (by omega) rfl;rw [f9M] at hpg;unfold c3a;rw [show o8 (fun s:(List (List n8))×Int=>a7v w (z9 (u6 w)) s.1 s.2) (([]:List (List n8)),0)=o8 (fun s:(List (List n8))×Int=>a7v w (z9 (u6 w)) s.1 s.2) (([]:List (List n8)),((0:Nat):Int)) from rfl,hpg,f8y];cases hps:a2d w (z9 (u6 w)) [] with
 | none=>rfl
 | some ps=>
  have hpf:=c2i h hps (by simp);simp only [f8F,g00,f6A,f8y,e3q (a3k b8D) hpf,b0v];unfold b5F;cases hle:(F5 W0 ps).2.length==(z9 (u6 w)).length
  ·rfl
  have hle:(F5 W0 ps).2.length=(z9 (u6 w)).length:=by simpa using hle
  simp only [f8F,g00,c85 hf hok,f8y,e4c (c9F hpf),f8K];cases a5E (F5 W0 ps).1 (p6 (u6 w)).1.g7
  ·rfl
  simp only [f8F,g00,f8K];unfold c0D;rw [V8 (z9 (u6 w)) hdf (fun i=>match (F5 W0 ps).2[i]?,(z9 (u6 w))[i]? with|some v,some q=>v==Q5 (u6 w) q|_,_=>false) false ()]
  ·cases (f8I (z9 (u6 w)).length).all _<;>rfl
  ·intro k hk _;unfold b93;rw [w6 _ k hk,t0 hk,t0 (hle▸hk),f8z hk,f8z (hle▸hk)];simp only [g0Z,f8y,e29 hfl];rw [bne];cases ((F5 W0 ps).2[k]'(hle▸hk))==Q5 (u6 w) (z9 (u6 w))[k]<;>rfl
  ·unfold b93;rw [z8];rfl
theorem f3h{w:m5}(h:L3 w):b7k w=some (a2x w):=by
 unfold b7k a2x;rw [a6A h,f8y];cases hw:A0 w
 ·rfl
 obtain ⟨h0,hlo,hok⟩:=b94 h hw;have hi:=d57 h h0;obtain ⟨hl,he⟩:=W8 hok;have hf:=okEntries.f hlo;have hfl:s8 (u6 w):=hlo.fits (by decide);have hd:(z9 (u6 w)).length<=40:=by
  unfold z9;rw [hok];exact b8f hl he (f8R _)
 have hdf:s8 (z9 (u6 w)):=d7a _;simp only [f8F,g00,hi,f8y,e78 hf,f8K];have hpg:=e2J h (lg:=u6 w) (l:=z9 (u6 w)) (by omega) (z9 (u6 w)).length 0 [] (by omega) rfl;rw [f9M] at hpg;rw [show o8 (fun s:(List (List n8))×Int=>a7j w (z9 (u6 w)) s.1 s.2) ([],0)=o8 (fun s:(List (List n8))×Int=>a7j w (z9 (u6 w)) s.1 s.2) ([],((0:Nat):Int)) from rfl,hpg];cases hps:a2d w (z9 (u6 w)) [] with
 | none=>rfl
 | some ps=>
  have hpf:=c2i h hps (by simp);simp only;unfold b5r;simp only [f1x,f8y,f2W (a3k b8D) hpf,d0n hf,hok,g0Z,f1j (c9F hpf),b0v];unfold b5F;cases a5E (F5 W0 ps).1 (p6 (u6 w)).1.g7
  ·simp
  cases hle:(F5 W0 ps).2.length==(z9 (u6 w)).length
  ·rfl
  have hle:(F5 W0 ps).2.length=(z9 (u6 w)).length:=by simpa using hle
  simp only [f8F,g00,f8K];unfold c0D;rw [V8 (z9 (u6 w)) hdf (fun i=>match (F5 W0 ps).2[i]?,(z9 (u6 w))[i]? with|some v,some q=>v==Q5 (u6 w) q|_,_=>false) false ()]
  ·cases (f8I (z9 (u6 w)).length).all _<;>rfl
  ·intro k hk _;obtain ⟨i,hi,hfi⟩:=e9c (f8C hk);unfold b8F Q5;rw [w6 _ k hk,t0 hk,t0 (hle▸hk),f8z hk,f8z (hle▸hk)];simp only [g0Z,f8y,b1P hfl,hfi,t0 hi,f8z hi];rw [bne];cases ((F5 W0 ps).2[k]'(hle▸hk))==(u6 w)[i].b6.d9<;>rfl
  ·unfold b8F;rw [z8];rfl
theorem b6z{a b:m4}(h:E9 a):a8J a b=some (I9 a b):=by
 unfold a8J I9;simp only [b8O h.f.2,f8y,a3u]
theorem c68{α β:Type}{a:List α}{b:List β}(h:s8 a):s8 (a.zip b):=by
 unfold s8 at h ⊢;rw [g0U];omega
theorem b0g{α β:Type}{a:List α}{b:List β}{k:Nat}(hk:k<(a.zip b).length):∃ (h1:k<a.length) (h2:k<b.length),(a.zip b)[k]=(a[k],b[k]):=by
 rw [g0U] at hk;exact ⟨by omega,by omega,by simp⟩
theorem e3g{α β:Type}(a:List α)(b:List β):decide (((a.zip b).length:Int)<(a.length:Int))=true->decide (((a.zip b).length:Int)<(b.length:Int))=false:=by
 rw [g0U];simp only [decide_eq_true_eq,decide_eq_false_iff_not];omega
theorem c45{α β R S:Type}(a:List α)(b:List β)(X:Option (j7 R S Unit)):(bif decide (((a.zip b).length:Int)<(a.length:Int)) then (bif decide (((a.zip b).length:Int)<(b.length:Int)) then X else some (.brk ())) else some (.brk ()))=some (.brk ()):=by
 cases h:decide (((a.zip b).length:Int)<(a.length:Int))
 ·rfl
 ·rw [e3g a b h];rfl
def U6(a b:List m4):Bool:=(a.zip b).all fun p=>I9 p.1 p.2
theorem e6t{a b:List m4}(ha:A2 88 E9 a):b9H a b=some (U6 a b):=by
 unfold b9H U6;rw [I5 (a.zip b) (c68 (ha.fits (by decide))) (fun p=>I9 p.1 p.2) false ()]
 ·cases (a.zip b).all (fun p=>I9 p.1 p.2)<;>rfl
 ·intro k hk;obtain ⟨h1,h2,e⟩:=b0g hk;unfold c0W;rw [w6 _ k h1,w6 _ k h2,t0 h1,t0 h2,e];simp only [g0Z,f8y,b6z (ha.2 _ (f8C h1))];cases I9 a[k] b[k]<;>rfl
 ·unfold c0W;exact c45 _ _ _
theorem f8b{x y:j6}(ha:A2 88 E9 x.a6):o8 (fun s:Int=>b1I x y s) 0=some (bif U6 x.a6 y.a6 then .brk () else .ret false):=by
 rw [I5 (x.a6.zip y.a6) (c68 (ha.fits (by decide))) (fun p=>I9 p.1 p.2) false ()]
 ·rfl
 ·intro k hk;obtain ⟨h1,h2,e⟩:=b0g hk;unfold b1I;rw [w6 _ k h1,w6 _ k h2,t0 h1,t0 h2,e];simp only [g0Z,f8y,a6t (ha.2 _ (f8C h1))];cases I9 x.a6[k] y.a6[k]<;>rfl
 ·unfold b1I;exact c45 _ _ _
def b0Z{α:Type}(l:List α)(p:α->α->Bool)(i:Nat):Bool:=match l[i]? with
 | some x=>(l.take i).all (p x)
 | none=>true
theorem c0R{α:Type}{l:List α}{p:α->α->Bool}{k:Nat}(hk:k<l.length):b0Z l p k=(l.take k).all (p l[k]):=by
 unfold b0Z;rw [f8z hk]
def a2E{α:Type}(l:List α)(p:α->α->Bool):Bool:=(f8I l.length).all (b0Z l p)
theorem c2U{α:Type}{l:List α}{p:α->α->Bool}:a2E l p=true ↔ ∀(i k:Nat) (hi:i<l.length) (hk:k<i),p l[i] (l[k]'(by omega))=true:=by
 unfold a2E;simp only [f8E,f9B];constructor
 ·intro h i k hi hk;have:=h i hi;rw [c0R hi] at this;simp only [f8E] at this;refine this _ (g0u.2 ⟨k,by simp;omega,by simp⟩)
 ·intro h i hi;rw [c0R hi];simp only [f8E];intro y hy;obtain ⟨k,hk,rfl⟩:=f9a hy;simp only [f8S] at hk;simp only [g0F];exact h i k hi (by omega)
theorem f1S{w:m5}(h:L3 w):b47 w=some (a2E w.a0 (fun a b=>U6 a.a6 b.a6)&&A0 w):=by
 have hf:s8 w.a0:=h.1.fits (by decide);have hin:∀(i:Nat) (hi:i<w.a0.length),o8 (fun s:Int=>b5f w (i:Int) s) 0=some (bif (w.a0.take i).all (fun b=>U6 w.a0[i].a6 b.a6) then .brk () else .ret false):=by
  intro i hi;have hl:(w.a0.take i).length=i:=by simp;omega
  refine I5 (w.a0.take i) (b4p hf i) (fun b=>U6 w.a0[i].a6 b.a6) false () ?_ ?_
  ·intro k hk;have hki:k<i:=by omega
   unfold b5f;rw [show decide ((k:Int)<(i:Int))=true from by simpa using hki,t0 hi,t0 (show k<w.a0.length by omega)];simp only [g0Z,f8y,e6t (h.1.2 _ (f8C hi)).2.2.1,g0F];cases U6 w.a0[i].a6 w.a0[k].a6<;>rfl
  ·unfold b5f;rw [hl,show decide ((i:Int)<(i:Int))=false from by simp];rfl
 unfold b47;rw [V8 w.a0 hf (b0Z w.a0 fun a b=>U6 a.a6 b.a6) false ()]
 ·unfold c6g a2E;rw [a6b h];simp only [f8y];cases (f8I w.a0.length).all (b0Z w.a0 fun a b=>U6 a.a6 b.a6)<;>rfl
 ·intro k hk _;unfold b82;rw [w6 _ k hk,hin k hk,c0R hk];simp only [g0Z,f8y];cases (w.a0.take k).all (fun b=>U6 w.a0[k].a6 b.a6)<;>rfl
 ·unfold b82;rw [z8];rfl
theorem f4l{w:m5}(h:L3 w):b3H w=some (A0 w&&w.a0.all fun a=>w.a0.all fun b=>U6 a.a6 b.a6):=by
 have hf:s8 w.a0:=h.1.fits (by decide);have hin:∀a:j6,O6 a->o8 (fun s:Int=>b4B w a s) 0=some (bif w.a0.all (fun b=>U6 a.a6 b.a6) then .brk () else .ret false):=by
  intro a ha;refine I5 w.a0 hf (fun b=>U6 a.a6 b.a6) false () ?_ ?_
  ·intro k hk;unfold b4B;rw [w6 _ k hk,t0 hk];simp only [g0Z,f8y];rw [f8b ha.2.2.1];cases U6 a.a6 w.a0[k].a6<;>rfl
  ·unfold b4B;rw [z8];rfl
 unfold b3H;rw [a6A h,f8y];cases A0 w
 ·rfl
 ·simp only [f8F,g00,f8K];rw [I5 w.a0 hf (fun a=>w.a0.all fun b=>U6 a.a6 b.a6) false ()]
  ·cases w.a0.all (fun a=>w.a0.all fun b=>U6 a.a6 b.a6)<;>rfl
  ·intro k hk;unfold c0G;rw [w6 _ k hk,t0 hk];simp only [g0Z,f8y];rw [hin _ (h.1.2 _ (f8C hk))];cases w.a0.all (fun b=>U6 w.a0[k].a6 b.a6)<;>rfl
  ·unfold c0G;rw [z8];rfl
theorem b5I{a b:List m4}:U6 a b=true ↔ ∀(i:Nat) (h1:i<a.length) (h2:i<b.length),a[i]=b[i]:=by
 unfold U6;rw [f8E];constructor
 ·intro h i h1 h2;have:=h (a[i],b[i]) (g0u.2 ⟨i,by rw [g0U];omega,by simp⟩);exact (a0Z _ _).1 this
 ·intro h p hp;obtain ⟨i,hi,rfl⟩:=f9a hp;obtain ⟨h1,h2,e⟩:=b0g hi;rw [e];exact (a0Z _ _).2 (h i h1 h2)
theorem e45{α:Type}{l:List α}{p:α->α->Bool}(hr:∀x∈l,p x x=true)(hs:∀x∈l,∀y∈l,p x y=true->p y x=true):a2E l p=l.all fun a=>l.all (p a):=by
 rw [f9S,c2U];simp only [f8E];constructor
 ·intro h a ha b hb;obtain ⟨i,hi,rfl⟩:=f9a ha;obtain ⟨k,hk,rfl⟩:=f9a hb;rcases Nat.lt_trichotomy i k with q|q|q
  ·exact hs _ hb _ ha (h k i hk q)
  ·subst q;exact hr _ ha
  ·exact h i k hi q
 ·intro h i k hi hk;exact h _ (f8C hi) _ (f8C _)
abbrev zV:m8:=⟨0,zE⟩
def C3(n:j6)(k:Nat):m8:=n.Acc.a7[k]?.getD zV
theorem e9S:E9 zE:=by
 refine ⟨⟨by simp [H3],by simp [H3]⟩,⟨by simp,by simp⟩,⟨by simp,by simp⟩,by simp [H3],by simp [H3]⟩
theorem c2T{n:j6}(h:O6 n)(k:Nat):T7 (C3 n k):=by
 unfold C3;cases hv:n.Acc.a7[k]? with
 | none=>exact ⟨by simp [H3],e9S⟩
 | some v=>exact h.2.1.2.2 v (f8O hv)
theorem c6j{n:j6}(k:Nat):a9c n (k:Int)=some (C3 n k):=by
 unfold a9c C3;by_cases hk:k<n.Acc.a7.length
 ·rw [w6 _ k hk,t0 hk,f8z hk];rfl
 ·rw [show decide ((k:Int)<(n.Acc.a7.length:Int))=false from by simpa using hk,f8Y (by omega)];rfl
def a1O(a b:m8):Bool := !(decide (a.a8>0)&&((a.a8==b.a8) && !I9 a.g9 b.g9))
def a1j(a b:m8):Bool := !((a.a8 != 0)&&((a.a8==b.a8) && !I9 a.g9 b.g9))
theorem f3s{w:m5}(h:L3 w):b3U w=some (A0 w&&(f8I 40).all fun s=>a2E w.a0 fun a b=>a1O (C3 a s) (C3 b s)):=by
 have hf:s8 w.a0:=h.1.fits (by decide);have hin:∀(s i:Nat) (hi:i<w.a0.length),o8 (fun t:Int=>b4e w (s:Int) (i:Int) t) 0=some (bif (w.a0.take i).all (fun b=>a1O (C3 w.a0[i] s) (C3 b s)) then .brk () else .ret false):=by
  intro s i hi;have hl:(w.a0.take i).length=i:=by simp;omega
  refine I5 (w.a0.take i) (b4p hf i) (fun b=>a1O (C3 w.a0[i] s) (C3 b s)) false () ?_ ?_
  ·intro k hk;have hki:k<i:=by omega
   unfold b4e c2w;rw [show decide ((k:Int)<(i:Int))=true from by simpa using hki,t0 hi,t0 (show k<w.a0.length by omega)];simp only [g0Z,f8y,c6j,b6z (c2T (h.1.2 _ (f8C hi)) s).2,g0F];unfold a1O;cases decide ((C3 w.a0[i] s).a8>0)<;>cases ((C3 w.a0[i] s).a8==(C3 w.a0[k] s).a8)<;>cases I9 (C3 w.a0[i] s).g9 (C3 w.a0[k] s).g9<;>rfl
  ·unfold b4e;rw [hl,show decide ((i:Int)<(i:Int))=false from by simp];rfl
 have hmid:∀s:Nat,o8 (fun t:Int=>b4S w (s:Int) t) 0=some (bif a2E w.a0 (fun a b=>a1O (C3 a s) (C3 b s)) then .brk () else .ret false):=by
  intro s;unfold a2E;refine V8 w.a0 hf (b0Z w.a0 fun a b=>a1O (C3 a s) (C3 b s)) false () ?_ ?_
  ·intro k hk _;unfold b4S c2Y;rw [w6 _ k hk,hin s k hk,c0R hk];simp only [g0Z,f8y];cases (w.a0.take k).all (fun b=>a1O (C3 w.a0[k] s) (C3 b s))<;>rfl
  ·unfold b4S;rw [z8];rfl
 unfold b3U;rw [a6b h,f8y];cases A0 w
 ·rfl
 ·simp only [f8F,g00,f8K];have:=V8 (body:=fun s:Int=>b2O w s) (f8A 40 ()) (by unfold s8;simp) (fun s=>a2E w.a0 (fun a b=>a1O (C3 a s) (C3 b s))) false ()
   (fun k hk _=>by
    have hk':k<40:=by simpa using hk
    unfold b2O c19;rw [show decide ((k:Int)<40)=true from by simp;omega,hmid k];simp only [g0Z,f8y];cases a2E w.a0 (fun a b=>a1O (C3 a k) (C3 b k))<;>rfl)
   (by unfold b2O;simp)
  rw [this];simp only [g0o];cases (f8I 40).all (fun s=>a2E w.a0 (fun a b=>a1O (C3 a s) (C3 b s)))<;>rfl
theorem e3D{w:m5}(h:L3 w):b2B w=some (A0 w&&w.a0.all fun a=>w.a0.all fun b=>(a.Acc.a7.zip b.Acc.a7).all fun p=>a1j p.1 p.2):=by
 have hf:s8 w.a0:=h.1.fits (by decide);have hv:∀x y:j6,O6 x->o8 (fun s:Int=>b3i x y s) 0=some (bif (x.Acc.a7.zip y.Acc.a7).all (fun p=>a1j p.1 p.2) then .brk () else .ret false):=by
  intro x y hx;refine I5 (x.Acc.a7.zip y.Acc.a7) (c68 (hx.2.1.2.fits (by decide))) (fun p=>a1j p.1 p.2) false () ?_ ?_
  ·intro k hk;obtain ⟨h1,h2,e⟩:=b0g hk;unfold b3i c55;rw [w6 _ k h1,w6 _ k h2,t0 h1,t0 h2,e];simp only [g0Z,f8y,a6t (hx.2.1.2.2 _ (f8C h1)).2];unfold a1j;cases (x.Acc.a7[k].a8 != 0)<;>cases (x.Acc.a7[k].a8==y.Acc.a7[k].a8)<;>cases I9 x.Acc.a7[k].g9 y.Acc.a7[k].g9<;>rfl
  ·unfold b3i;exact c45 _ _ _
 have hin:∀a:j6,O6 a->o8 (fun s:Int=>b3r w a s) 0=some (bif w.a0.all (fun b=>(a.Acc.a7.zip b.Acc.a7).all fun p=>a1j p.1 p.2) then .brk () else .ret false):=by
  intro a ha;refine I5 w.a0 hf (fun b=>(a.Acc.a7.zip b.Acc.a7).all fun p=>a1j p.1 p.2) false () ?_ ?_
  ·intro k hk;unfold b3r c6u;rw [w6 _ k hk,t0 hk];simp only [g0Z,f8y];rw [hv a _ ha];cases (a.Acc.a7.zip w.a0[k].Acc.a7).all (fun p=>a1j p.1 p.2)<;>rfl
  ·unfold b3r;rw [z8];rfl
 unfold b2B;rw [a6A h,f8y];cases A0 w
 ·rfl
 ·simp only [f8F,g00,f8K];rw [I5 w.a0 hf (fun a=>w.a0.all fun b=>(a.Acc.a7.zip b.Acc.a7).all fun p=>a1j p.1 p.2) false ()]
  ·cases w.a0.all (fun a=>w.a0.all fun b=>(a.Acc.a7.zip b.Acc.a7).all fun p=>a1j p.1 p.2)<;>rfl
  ·intro k hk;unfold b7x c2P;rw [w6 _ k hk,t0 hk];simp only [g0Z,f8y];rw [hin _ (h.1.2 _ (f8C hk))];cases w.a0.all (fun b=>(w.a0[k].Acc.a7.zip b.Acc.a7).all fun p=>a1j p.1 p.2)<;>rfl
  ·unfold b7x;rw [z8];rfl
theorem c2t{a b:m8}:a1O a b=true↔(0<a.a8->a.a8=b.a8->a.g9=b.g9):=by
 unfold a1O;rw [f9h,<-g0c,f8D,f8D,f9h,<-g0c,a0Z,decide_eq_true_eq,beq_iff_eq];constructor
 ·intro h h1 h2;exact g0s fun q=>h ⟨h1,h2,q⟩
 ·rintro h ⟨h1,h2,h3⟩
  exact h3 (h h1 h2)
theorem c2m{a b:m8}:a1j a b=true↔(a.a8≠0->a.a8=b.a8->a.g9=b.g9):=by
 unfold a1j;rw [f9h,<-g0c,f8D,f8D,f9h,<-g0c,a0Z,bne_iff_ne,beq_iff_eq];constructor
 ·intro h h1 h2;exact g0s fun q=>h ⟨h1,h2,q⟩
 ·rintro h ⟨h1,h2,h3⟩
  exact h3 (h h1 h2)
theorem f0V{w:m5}(hw:A0 w=true):(w.a0.all fun a=>w.a0.all fun b=>(a.Acc.a7.zip b.Acc.a7).all fun p=>a1j p.1 p.2)=((f8I 40).all fun s=>a2E w.a0 fun a b=>a1O (C3 a s) (C3 b s)):=by
 rw [f9S];have hn:=(c1p hw).2;have hacc:∀n∈w.a0,n.Acc.a7.length<=40/\∀v∈n.Acc.a7,0<=v.a8:=fun n hm=>e5c (b1x (hn n hm)).2.1
 have hnn:∀n∈w.a0,∀k,0<=(C3 n k).a8:=by
  intro n hm k;unfold C3;cases hv:n.Acc.a7[k]? with
  | none=>exact f8Z 0
  | some v=>exact (hacc n hm).2 v (f8O hv)
 simp only [f8E,f9B];constructor
 ·intro q s hs;rw [c2U];intro i k hi hk;rw [c2t];intro h1 h2;have hia:=f8C (l:=w.a0) hi;have hka:=f8C (l:=w.a0) (show k<w.a0.length by omega);unfold C3 at h1 h2 ⊢;cases hv:w.a0[i].Acc.a7[s]? with
  | none=>rw [hv] at h1;simp at h1
  | some v=>
   cases hu:(w.a0[k]'(by omega)).Acc.a7[s]? with
   | none=>
    rw [hv,hu] at h2;rw [hv] at h1;simp at h1 h2;omega
   | some u=>
    rw [hv,hu] at h2;rw [hv] at h1;obtain ⟨l1,e1⟩:=f8G.1 hv;obtain ⟨l2,e2⟩:=f8G.1 hu;have:=q _ hia _ hka (v,u) (g0u.2 ⟨s,by rw [g0U];omega,by simp [e1,e2]⟩);simp only [f9P] at h1 h2 ⊢;exact (c2m.1 this) (fun z=>by have z':v.a8=0:=z;omega) h2
 ·intro q a ha b hb p hp;obtain ⟨s,hs,rfl⟩:=f9a hp;obtain ⟨l1,l2,e⟩:=b0g hs;rw [e,c2m];intro h1 h2;simp only at h1 h2;have hs40:s<40:=by have:=(hacc a ha).1;omega
  have hpq:=c2U.1 (q s hs40);obtain ⟨i,hi,rfl⟩:=f9a ha;obtain ⟨k,hk,rfl⟩:=f9a hb;have ei:C3 w.a0[i] s=w.a0[i].Acc.a7[s]:=by unfold C3;rw [f8z l1];rfl
  have ek:C3 w.a0[k] s=w.a0[k].Acc.a7[s]:=by unfold C3;rw [f8z l2];rfl
  have p1:=(hacc _ ha).2 _ (f8C l1);rcases Nat.lt_trichotomy i k with z|z|z
  ·have:=c2t.1 (hpq k i hk z);rw [ei,ek] at this;exact (this (by omega) h2.symm).symm
  ·subst z;rfl
  ·have:=c2t.1 (hpq i k hi z);rw [ei,ek] at this;exact this (by omega) h2
def a8R(n:j6):Bool:=bif n.d6 != 3 then true else decide ((C3 n n.a6.length).a8>=n.a8)&&(decide ((C3 n n.a6.length).a8>n.a8)||I9 (C3 n n.a6.length).g9 n.c8)
theorem d8G{n:j6}(h:O6 n):c0K n=some (a8R n):=by
 unfold c0K a8R;rw [c6j,f8y,b6z (c2T h _).2];cases n.d6 != 3<;>cases decide ((C3 n n.a6.length).a8>=n.a8)<;>cases decide ((C3 n n.a6.length).a8>n.a8)<;>rfl
def other(a b:j6):Bool := !(decide (a.a8>0)&&(a.a8==b.a8))
def a81(a b:j6):Bool := !((a.a8 != 0)&&(a.a8==b.a8))
def a4g(w:m5)(i:Nat):Bool:=match w.a0[i]? with
 | some n=>a8R n&&(w.a0.take i).all (other n)
 | none=>true
theorem e1V{w:m5}(h:L3 w):b3L w=some (A0 w&&(f8I w.a0.length).all (a4g w)):=by
 have hf:s8 w.a0:=h.1.fits (by decide);have hin:∀(i:Nat) (hi:i<w.a0.length),o8 (fun t:Int=>b3o w (i:Int) t) 0=some (bif (w.a0.take i).all (other w.a0[i]) then .brk () else .ret false):=by
  intro i hi;have hl:(w.a0.take i).length=i:=by simp;omega
  refine I5 (w.a0.take i) (b4p hf i) (other w.a0[i]) false () ?_ ?_
  ·intro k hk;have hki:k<i:=by omega
   unfold b3o c5W;rw [show decide ((k:Int)<(i:Int))=true from by simpa using hki,t0 hi,t0 (show k<w.a0.length by omega)];simp only [g0Z,f8y,g0F];unfold other;cases decide (w.a0[i].a8>0)<;>cases (w.a0[i].a8==w.a0[k].a8)<;>rfl
  ·unfold b3o;rw [hl,show decide ((i:Int)<(i:Int))=false from by simp];rfl
 unfold b3L;rw [a6b h,f8y];cases A0 w
 ·rfl
 ·simp only [f8F,g00,f8K];rw [V8 w.a0 hf (a4g w) false ()]
  ·cases (f8I w.a0.length).all (a4g w)<;>rfl
  ·intro k hk _;unfold c0N c5y a4g;rw [w6 _ k hk,t0 hk,f8z hk];simp only [g0Z,f8y,d8G (h.1.2 _ (f8C hk))];rw [hin k hk];cases a8R w.a0[k]<;>cases (w.a0.take k).all (other w.a0[k])<;>rfl
  ·unfold c0N;rw [z8];rfl
def b0r(n:j6):Bool:=bif n.d6 != 3 then true else bif decide ((n.a6.length:Int)>=(n.Acc.a7.length:Int)) then false else
 !decide ((C3 n n.a6.length).a8<n.a8) && !(((C3 n n.a6.length).a8==n.a8) && !I9 (C3 n n.a6.length).g9 n.c8)
def a6h(w:m5)(i:Nat):Bool:=match w.a0[i]? with
 | some n=>(w.a0.drop (i+1)).all (a81 n)&&b0r n
 | none=>true
theorem e4f{w:m5}(h:L3 w):b5o w=some (A0 w&&(f8I w.a0.length).all (a6h w)):=by
 have hf:s8 w.a0:=h.1.fits (by decide);have hin:∀(i:Nat) (hi:i<w.a0.length) (a:j6),o8 (fun t:Int=>b39 w (i:Int) a t) 0=some (bif (w.a0.drop (i+1)).all (a81 a) then .brk () else .ret false):=by
  intro i hi a;have e:(m7 ((i:Int)+1)).toNat=i+1:=by rw [E6 hf hi];rfl
  have e2:((w.a0.drop (i+1)).take (w.a0.length-(i+1)))=w.a0.drop (i+1):=by rw [<-g0P,f8Q]
  have hfd:s8 (w.a0.drop (i+1)):=by
   unfold s8 at hf ⊢;rw [g0P];omega
  refine I5 (w.a0.drop (i+1)) hfd (a81 a) false () ?_ ?_
  ·intro k hk;unfold b39 c7p;rw [e,e2,w6 _ k hk,t0 hk];simp only [g0Z,f8y];unfold a81;cases (a.a8 != 0)<;>cases (a.a8==(w.a0.drop (i+1))[k].a8)<;>rfl
  ·unfold b39;rw [e,e2,z8];rfl
 unfold b5o;rw [a6A h,f8y];cases A0 w
 ·rfl
 ·simp only [f8F,g00,f8K];rw [V8 w.a0 hf (a6h w) false ()]
  ·cases (f8I w.a0.length).all (a6h w)<;>rfl
  ·intro k hk _;have hok:=h.1.2 _ (f8C hk);have hk6:c0E (k:Int) w.a0[k]=some (bif b0r w.a0[k] then .nxt (m7 ((k:Int)+1)) else .ret false):=by
    unfold c0E c1t b0r;cases (w.a0[k].d6 != 3)
    ·simp only [g00];by_cases hl:w.a0[k].a6.length<w.a0[k].Acc.a7.length
     ·rw [show decide ((w.a0[k].a6.length:Int)>=(w.a0[k].Acc.a7.length:Int))=false from by simpa using hl,t0 hl];have ev:C3 w.a0[k] w.a0[k].a6.length=w.a0[k].Acc.a7[w.a0[k].a6.length]:=by unfold C3;rw [f8z hl];rfl
      rw [ev];simp only [g00,f8y,a6t (hok.2.1.2.2 _ (f8C hl)).2];cases decide (w.a0[k].Acc.a7[w.a0[k].a6.length].a8<w.a0[k].a8)<;>cases (w.a0[k].Acc.a7[w.a0[k].a6.length].a8==w.a0[k].a8)<;>cases I9 w.a0[k].Acc.a7[w.a0[k].a6.length].g9 w.a0[k].c8<;>rfl
     ·rw [show decide ((w.a0[k].a6.length:Int)>=(w.a0[k].Acc.a7.length:Int))=true from by simp;omega];rfl
    ·rfl
   unfold b55 a6h;rw [w6 _ k hk,t0 hk,f8z hk];simp only [g0Z,f8y];rw [v5 (by rw [E6 hf hk];omega),hin k hk,hk6];cases (w.a0.drop (k+1)).all (a81 w.a0[k])<;>cases b0r w.a0[k]<;>rfl
  ·unfold b55;rw [z8];rfl
theorem c1k{a b:j6}:other a b=true ↔ ¬(0<a.a8/\a.a8=b.a8):=by
 unfold other;rw [f9h,<-g0c,f8D,decide_eq_true_eq,beq_iff_eq]
theorem d4i{a b:j6}:a81 a b=true ↔ ¬(a.a8≠0/\a.a8=b.a8):=by
 unfold a81;rw [f9h,<-g0c,f8D,bne_iff_ne,beq_iff_eq]
theorem c9A{n:j6}(h:D7 n=true):b0r n=a8R n:=by
 unfold a8R b0r;cases hp:(n.d6 != 3)
 ·simp only [g00];have hb:=(d4l (b1x h).1 (b1x h).2.2.2.1).2 (by simpa [bne] using hp);by_cases hl:n.a6.length<n.Acc.a7.length
  ·rw [show decide ((n.a6.length:Int)>=(n.Acc.a7.length:Int))=false from by simpa using hl,g00];rw [f9S];generalize C3 n n.a6.length=v;cases I9 v.g9 n.c8
   ·simp<;>omega
   ·simp<;>omega
  ·rw [show decide ((n.a6.length:Int)>=(n.Acc.a7.length:Int))=true from by simp;omega,g0Z];have:C3 n n.a6.length=zV:=by unfold C3;rw [f8Y (by omega)];rfl
   rw [this,show decide ((zV.a8)>=n.a8)=false from by simp;omega];try rfl
 ·rfl
theorem e8C{w:m5}(hw:A0 w=true):((f8I w.a0.length).all (a6h w))=((f8I w.a0.length).all (a4g w)):=by
 rw [f9S];have hn:=(c1p hw).2;have hb:∀n∈w.a0,0<=n.a8:=fun n hm=>(d4l (b1x (hn n hm)).1 (b1x (hn n hm)).2.2.2.1).1
 simp only [f8E,f9B];constructor
 ·intro q i hi;have qi:=q i hi;unfold a6h at qi;unfold a4g;rw [f8z hi] at qi ⊢;simp only [f8D] at qi ⊢;refine ⟨by rw [<-c9A (hn _ (f8C hi))];exact qi.2,?_⟩;rw [f8E];intro m hm;obtain ⟨k,hk,rfl⟩:=f9a hm;rw [f8S] at hk;rw [g0F,c1k];have hkl:k<w.a0.length:=by omega
  have qk:=q k hkl;unfold a6h at qk;rw [f8z hkl] at qk;simp only [f8D] at qk;have:=d4i.1 (f8E.1 qk.1 w.a0[i] (g0u.2 ⟨i-(k+1),by rw [g0P];omega,by simp only [List.getElem_drop];congr 1;omega⟩));rintro ⟨h1,h2⟩
  exact this ⟨by omega,h2.symm⟩
 ·intro q i hi;have qi:=q i hi;unfold a4g at qi;unfold a6h;rw [f8z hi] at qi ⊢;simp only [f8D] at qi ⊢;refine ⟨?_,by rw [c9A (hn _ (f8C hi))];exact qi.1⟩;rw [f8E];intro m hm;obtain ⟨k,hk,rfl⟩:=f9a hm;rw [g0P] at hk;rw [List.getElem_drop,d4i];have hkl:i+1+k<w.a0.length:=by omega
  have qk:=q (i+1+k) hkl;unfold a4g at qk;rw [f8z hkl] at qk;simp only [f8D] at qk;have:=c1k.1 (f8E.1 qk.2 w.a0[i] (g0u.2 ⟨i,by rw [f8S];omega,by simp⟩));rintro ⟨h1,h2⟩
  have:=hb _ (f8C hi);omega
theorem d5U(a b:n5):(([a.b9,a.Seq]:List Int)==[b.b9,b.Seq])=(F9 a==F9 b):=rfl
def a3b(l:List n6)(i:Nat):Bool:=match l[i]? with
 | some t=>(f8I i).all fun k=>match l[k]? with
  | some s => !(F9 s.a5==F9 t.a5)
  | none=>true
 | none=>true
theorem c8Y{l:List n6}{i:Nat}(h:i<l.length):a3b l i = !((l.take i).any fun s=>F9 s.a5==F9 l[i].a5):=by
 unfold a3b;rw [f8z h];simp only;rw [f9S,f8E,f9h,f9q];constructor
 ·intro hh s hs;obtain ⟨k,hk,rfl⟩:=f9a hs;rw [f8S] at hk;have:=hh k (by simp;omega);rw [f8z (by omega)] at this;simpa using this
 ·intro hh k hk;have hk:k<i:=by simpa using hk
  rw [f8z (show k<l.length by omega)];have:=hh l[k] (f9G.2 ⟨k,by omega,rfl⟩);simpa using this
def a94(l:List n6):Bool:=(f8I l.length).all (a3b l)
theorem e0z{w:m5}(h:L3 w):b4Z w=some (a94 w.Told&&A0 w):=by
 have hf:s8 w.Told:=h.2.2.2.fits (by decide);have hl:=hf;unfold s8 at hl;unfold b4Z;rw [V8 w.Told hf (a3b w.Told) false ()]
 ·unfold a94;cases (f8I w.Told.length).all (a3b w.Told)
  ·rfl
  ·simp only [g0Z,f8y,l9.go];unfold c4h;rw [a6b h];rfl
 ·intro i hi _;unfold b8g;rw [w6 _ i hi,g0Z];have hc:=a45 (body:=fun s:Int=>b1L w (i:Int) s) (fun k=>(k:Int)) i (fun k=>match w.Told[k]? with|some s => !(F9 s.a5==F9 w.Told[i].a5)|none=>true) (fun _=>false) () (by
   intro k hk _;have hkl:k<w.Told.length:=by omega
   unfold b1L;rw [show decide ((k:Int)<(i:Int))=true from by simpa using hk,g0Z,t0 hkl,f8y,t0 hi,f8y,d5U,f8z hkl,E6 hf hkl];simp only;cases F9 w.Told[k].a5==F9 w.Told[i].a5<;>rfl) (by
   intro _;unfold b1L;rw [show decide ((i:Int)<(i:Int))=false from by simp];rfl)
  rw [show ((0:Nat):Int)=0 from rfl] at hc;unfold a3b;rw [f8z hi];simp only;rcases hc with ⟨hc,hall⟩|⟨k,hk,ho,_,hc⟩
  ·rw [hc,show (f8I i).all (fun k=>match w.Told[k]? with|some s => !(F9 s.a5==F9 w.Told[i].a5)|none=>true)=true from f8E.2 fun k hk=>hall k (by simpa using hk)];rfl
  ·rw [hc,show (f8I i).all (fun k=>match w.Told[k]? with|some s => !(F9 s.a5==F9 w.Told[i].a5)|none=>true)=false from g0g.2 ⟨k,by simpa using hk,by rw [ho];simp⟩];rfl
 ·unfold b8g;rw [z8];rfl
theorem e0T{l:List n5}{y:n5}(h:(l.any fun x=>F9 y==F9 x)=false):a9x F9 l y=l++[y]:=by
 unfold a9x;rw [if_neg (by rw [h];simp)]
theorem e9q{w:m5}(h:L3 w):b16 w=some (A0 w&&a94 w.Told):=by
 have hf:s8 w.Told:=h.2.2.2.fits (by decide);unfold b16;rw [a6A h,f8y];cases A0 w
 ·rfl
 rw [f8F,g00,f8K];have hc:=a45 (body:=fun s:(List n5)×Int=>b3m w s.1 s.2) (fun k=>((w.Told.take k).map (·.a5),(k:Int))) w.Told.length (a3b w.Told) (fun _=>false) () (by
  intro k hk _;unfold b3m;simp only [w6 _ k hk,g0Z,t0 hk,f8y,E6 hf hk];have he:(((w.Told.take k).map (·.a5)).any fun x=>F9 w.Told[k].a5==F9 x) = !a3b w.Told k:=by
   rw [c8Y hk,g0W,List.any_map];congr 1
   funext s
   show (F9 w.Told[k].a5==F9 s.a5)=_
   rw [f9S,beq_iff_eq,beq_iff_eq];exact eq_comm
  rw [he];cases ho:a3b w.Told k
  ·rfl
  ·rw [ho] at he;rw [e0T he,f9e hk,f9R];rfl) (by
  intro _;unfold b3m;simp only [z8];rfl)
 rw [f9p,List.map_nil,show ((0:Nat):Int)=0 from rfl] at hc;unfold a94;rcases hc with ⟨hc,hall⟩|⟨k,hk,ho,_,hc⟩
 ·rw [hc,show (f8I w.Told.length).all (a3b w.Told)=true from f8E.2 fun k hk=>hall k (by simpa using hk)];rfl
 ·rw [hc,show (f8I w.Told.length).all (a3b w.Told)=false from g0g.2 ⟨k,by simpa using hk,by rw [ho];simp⟩];rfl
theorem b5L{α:Type}{p q:α->Bool}(h:∀x,p x=true->q x=true):∀l:List α,(l.filter q).find? p=l.find? p
 | []=>rfl
 | x::l=>by
  cases hq:q x with
  | true=>
   rw [List.filter_cons_of_pos hq,g0m,g0m,b5L h l]
  | false=>
   have hp:p x=false:=by
    cases hp:p x with
    | false=>rfl
    | true=>rw [h x hp] at hq;cases hq
   rw [List.filter_cons_of_neg (by simp [hq]),g0m,hp,b5L h l]
theorem c5C{α:Type}{p q:α->Bool}(h:∀x,p x=true->q x=false)(l:List α):(l.filter q).find? p=none:=by
 rw [g0V];intro x hx;have hq:=(f9H.1 hx).2;intro hp;rw [h x hp] at hq;cases hq
theorem c58{l:List q9}(h:a3c l)(d:q9)(w:Int):(a0k l d).find? (fun x=>x.a5.b9==w)=bif d.a5.b9==w then some d else l.find? (fun x=>x.a5.b9==w):=by
 rw [c0A d h,List.find?_append,g0m];by_cases hw:d.a5.b9=w
 ·subst hw;rw [c5C (by intro x hx;simp at hx;simp;omega)];simp
 ·have hne:(d.a5.b9==w)=false:=by simpa using hw
  rw [hne];simp only [g00];by_cases hlt:w<d.a5.b9
  ·rw [b5L (by intro x hx;simp at hx;simp;omega),c5C (by intro x hx;simp at hx;simp;omega),Option.or_none]
  ·rw [c5C (by intro x hx;simp at hx;simp;omega),b5L (by intro x hx;simp at hx;simp;omega),Option.none_or]
def a0j(s:u5)(w:Int):Option q9:=s.i8.find? (fun x=>x.a5.b9==w)
theorem c9J{s:u5}{k:Nat}{e:m4}(hs:X5 s k)(w:Int):∃d,d.a5=e.a5/\a0j (O3 s e).1 w=bif e.a5.b9==w then some d else a0j s w:=by
 unfold O3 a0j;cases a0P s.g7 e.b6
 ·exact ⟨⟨e.a5,1,0⟩,rfl,c58 hs.sorted _ w⟩
 ·cases e.b6.Code==0
  ·exact ⟨⟨e.a5,2,0⟩,rfl,c58 hs.sorted _ w⟩
  ·exact ⟨⟨e.a5,0,e.b6.d9⟩,rfl,c58 hs.sorted _ w⟩
theorem e4j{s:u5}{k:Nat}{e:m4}(hs:X5 s k)(hn:e.i7=false):∃d,a0j (apply s e).1 e.a5.b9=some d/\e.a5.Seq<=d.a5.Seq:=by
  obtain ⟨d,h1,h2⟩:=c9J (e:=e) hs e.a5.b9;rw [beq_self_eq_true,g0Z] at h2;have hfr:∃d,a0j (O3 s e).1 e.a5.b9=some d/\e.a5.Seq<=d.a5.Seq:=⟨d,h2,by rw [h1];exact f8Z _⟩
  unfold apply;rw [hn,g00];cases hf:s.i8.find? fun d=>d.a5.b9==e.a5.b9 with
  | none=>exact hfr
  | some d=>
    simp only;cases h3:d.a5.Seq==e.a5.Seq
    · by_cases h4:d.a5.Seq>e.a5.Seq
      · simp only [h4,decide_true,g0Z,g00];exact ⟨d,hf,by omega⟩
      · simp only [h4,decide_false,g00];exact hfr
    · exact ⟨d, hf, by have:d.a5.Seq=e.a5.Seq:=by simpa using h3
                       omega⟩
theorem e55{s:u5}{k:Nat}{e:m4}(hs:X5 s k){w:Int}{d:q9}(hd:a0j s w=some d):∃d',a0j (apply s e).1 w=some d'/\d.a5.Seq<=d'.a5.Seq:=by
 have same:∃d',a0j s w=some d'/\d.a5.Seq<=d'.a5.Seq:=⟨d,hd,f8Z _⟩
 have hfr:(∀d',a0j s e.a5.b9=some d'->d'.a5.Seq<=e.a5.Seq)->∃d',a0j (O3 s e).1 w=some d'/\d.a5.Seq<=d'.a5.Seq:=by
  intro hle;obtain ⟨d2,h1,h2⟩:=c9J (e:=e) hs w;by_cases hw:e.a5.b9=w
  ·subst hw;rw [beq_self_eq_true,g0Z] at h2;exact ⟨d2,h2,by rw [h1];exact hle d hd⟩
  ·have:(e.a5.b9==w)=false:=by simpa using hw
   rw [this,g00] at h2;exact ⟨d,h2.trans hd,f8Z _⟩
 unfold apply;cases hn:e.i7
 ·simp only [g00];cases hf:s.i8.find? fun d=>d.a5.b9==e.a5.b9 with
  | none=>exact hfr fun d' h=>by unfold a0j at h;rw [hf] at h;cases h
  | some d0=>
   simp only;cases h3:d0.a5.Seq==e.a5.Seq
   ·by_cases h4:d0.a5.Seq>e.a5.Seq
    ·simp only [h4,decide_true,g0Z,g00];exact same
    ·simp only [h4,decide_false,g00];refine hfr fun d' h => ?_
     unfold a0j at h;rw [hf] at h;injection h with h;subst h;omega
   ·exact same
 ·exact same
theorem e47{s:u5}{e:m4}{d:q9}(hd:a0j s e.a5.b9=some d)(h:e.a5.Seq<=d.a5.Seq):(apply s e).2≠0:=by
 unfold a0j at hd;unfold apply;cases hn:e.i7
 ·simp only [g00,hd];cases h3:d.a5.Seq==e.a5.Seq
  ·have hne:d.a5.Seq≠e.a5.Seq:=by simpa using h3
   have hgt:d.a5.Seq>e.a5.Seq:=by omega
   simp only [hgt,decide_true,g0Z,g00];decide
  ·exact show (3:Int)≠0 from by decide
 ·exact show (5:Int)≠0 from by decide
theorem e9L{l:List m4}(hl:l.length<=40)(he:l.all z4=true){i m:Nat}(him:i<m)(hm:m<l.length)(hn:(l[i]'(by omega)).i7=false)(hq:l[m].a5=(l[i]'(by omega)).a5):(p6 l).2[m]?≠some 0:=by
 have hi:i<l.length:=by omega
 have key:∀n,i<n->n<=l.length->∃d,a0j (p6 (l.take n)).1 l[i].a5.b9=some d/\l[i].a5.Seq<=d.a5.Seq:=by
  intro n;induction n with
  | zero=>intro h;omega
  | succ n ih=>
   intro h1 h2;have hin:=(P5 hl he n (by omega)).1;rw [a0K (show n<l.length by omega)];show ∃d,a0j (apply (p6 (l.take n)).1 l[n]).1 l[i].a5.b9=some d/\_
   by_cases hq:i=n
   ·subst hq;exact e4j hin hn
   ·obtain ⟨d,h3,h4⟩:=ih (by omega) (by omega);obtain ⟨d',h5,h6⟩:=e55 (e:=l[n]) hin h3;exact ⟨d',h5,by omega⟩
 obtain ⟨d,h1,h2⟩:=key m him (by omega);rw [b1v hl he hm];intro h;injection h with h;exact e47 (e:=l[m]) (by rw [hq];exact h1) (by rw [hq];exact h2) h
def eN:m4:=⟨true,⟨0,0⟩,⟨[],[],0,0⟩⟩
def v0:m8:=⟨0,zE⟩
def b1q(b:Int):Bool:=p9 b 1 3000
def I6(a:z0)(b:Int):Option z0:=bif b1q b&&decide (a.i0<=b) then some ⟨b,a.a7⟩ else none
def U1(vs:List m8)(n:Nat):List m8:=vs++f8A (n-vs.length) v0
def L2(a:z0)(b slot:Int)(e:m4):Option z0:=
 bif p9 slot 0 39&&z4 e then (I6 a b).map fun x=>⟨x.i0,(U1 x.a7 (slot.toNat+1)).set slot.toNat ⟨b,e⟩⟩ else none
def E0:List m8->List m8->List m8
 | [],b=>b
 | a,[]=>a
 | x::a,y::b=>(bif decide (y.a8>x.a8) then y else x)::E0 a b
def M2(b who:Int):Int:=
 bif decide (b+1<=3000)&&(f9c (b+1) 3==who) then b+1 else
 bif decide (b+2<=3000)&&(f9c (b+2) 3==who) then b+2 else
 bif decide (b+3<=3000)&&(f9c (b+3) 3==who) then b+3 else -1
def a4s(n:j6):j6:={n with d6:=0,a8:=0,c9:=[],i4:=[],c8:=zE,a7:=[]}
def a58(n:j6):j6:={n with i9:=false,i6:=[],b8:=zE}
def N6(l:List m4)(q:n5):Bool:=l.any (D6 q)
def a1y(id:Int):List Bool:=(f8A 3 false).set id.toNat true
def N7(l:List Bool):Bool:=decide (2<=(l.filter (· == true)).length)
def I8(id:Int)(m:l8):List l8:=(([0,1,2]:List Int).filter (· != id)).map fun t=>{m with c9:=id,To:=t}
def M4(m out:l8):l8:={out with c9:=m.To,To:=m.c9}
def N9(n:j6)(b:Int):j6:=bif n.d6 != 0&&decide (b>n.a8) then a4s n else n
def T4(known:List m4):List m4->List m4×Option m4
 | []=>([],none)
 | e::q=>bif N6 known e.a5 then T4 known q else (q,some e)
def a5j(n:j6):j6×Option m4:=
 bif (n.i4.drop n.a6.length).any (fun v=>decide (v.a8>0)) then (n,some eN)
 else bif n.i9 && !N6 n.a6 n.b8.a5 then (n,some n.b8)
 else ({n with f0:=(T4 n.a6 n.f0).1},(T4 n.a6 n.f0).2)
def a02(n:j6):j6×Option m4:=match n.i4[n.a6.length]? with
 | some v=>bif decide (v.a8>0) then (n,some v.g9) else a5j n
 | none=>a5j n
def a7k(x:j6)(e:m4):j6×List l8:=match L2 x.Acc x.a8 (x.a6.length:Int) e with
 | some a=>({x with Acc:=a,d6:=3,c8:=e,a7:=a1y x.Id},I8 x.Id ⟨3,0,0,x.a8,(x.a6.length:Int),e,[]⟩)
 | none=>(a4s x,[])
def M1(n:j6):j6×List l8:=
 bif n.d6 != 2||decide (40<=n.a6.length) then (n,[]) else match a02 n with
  | (x,some e)=>a7k x e
  | (x,none)=>(x,[])
def U7(n:j6):j6×List n6:=
 bif n.i9 then (match n.a6.findIdx? (D6 n.b8.a5) with
  | some k=>(a58 n,[⟨n.Id,n.b8.a5,L4 n.a6 k,bif L4 n.a6 k==0 then Q5 n.a6 n.b8.a5 else 0⟩])
  | none=>(n,[]))
 else (n,[])
def E3(n:j6)(e:m4):j6:=
 bif n.d6==3 then {n with a6:=n.a6++[e],d6:=2,c8:=zE,a7:=[]} else {n with a6:=n.a6++[e]}
def Y5(n:j6)(e:m4):j6×List l8×List n6:=
 ((M1 (U7 (E3 n e)).1).1,(M1 (U7 (E3 n e)).1).2,(U7 (E3 n e)).2)
def a2g(n:j6)(m:l8):j6×List l8:=match I6 n.Acc m.a8 with
 | some a=>(N9 {n with Acc:=a} m.a8,[M4 m ⟨2,0,0,m.a8,m.g8,zE,a.a7.drop m.g8.toNat⟩])
 | none=>(n,[M4 m ⟨6,0,0,n.Acc.i0,0,zE,[]⟩])
def a1I(n:j6)(m:l8):j6×List l8:=match L2 n.Acc m.a8 m.g8 m.g9 with
 | some a=>(N9 {n with Acc:=a} m.a8,[M4 m ⟨4,0,0,m.a8,m.g8,zE,[]⟩])
 | none=>(n,[M4 m ⟨6,0,0,n.Acc.i0,0,zE,[]⟩])
def a1A(n:j6)(m:l8):j6×List l8:=
 bif n.d6 != 1||m.a8 != n.a8 then (n,[]) else
 bif N7 (n.c9.set m.c9.toNat true) then
  M1 {n with c9:=[],i4:=E0 n.i4 (f8A m.g8.toNat v0++m.a7),d6:=2}
 else ({n with c9:=n.c9.set m.c9.toNat true,i4:=E0 n.i4 (f8A m.g8.toNat v0++m.a7)},[])
def a2M(n:j6)(m:l8):j6×List l8×List n6:=
 bif n.d6 != 3||(m.a8 != n.a8||m.g8 != (n.a6.length:Int)) then (n,[],[]) else
 bif N7 (n.a7.set m.c9.toNat true) then
  ((Y5 {n with a7:=n.a7.set m.c9.toNat true} n.c8).1,I8 n.Id ⟨5,0,0,0,(n.a6.length:Int),n.c8,[]⟩++(Y5 {n with a7:=n.a7.set m.c9.toNat true} n.c8).2.1,(Y5 {n with a7:=n.a7.set m.c9.toNat true} n.c8).2.2)
 else ({n with a7:=n.a7.set m.c9.toNat true},[],[])
def a2I(n:j6)(m:l8):j6×List l8×List n6:=
 bif decide (m.g8<(n.a6.length:Int)) then (n,[],[]) else
 bif decide (m.g8>(n.a6.length:Int)) then (n,[M4 m ⟨8,0,0,0,(n.a6.length:Int),zE,[]⟩],[])
 else Y5 n m.g9
def a1H(n:j6)(m:l8):j6×List l8:=
 bif n.d6==0||(decide (4<=n.f0.length)||N6 n.a6 m.g9.a5) then (n,[]) else M1 {n with f0:=n.f0++[m.g9]}
def a1l(n:j6)(m:l8)(s:Nat):List l8:=match n.a6[s]? with
 | some e=>[M4 m ⟨5,0,0,0,(s:Int),e,[]⟩]
 | none=>[]
def a4j(n:j6)(m:l8):List l8:=((f8I (n.a6.length-m.g8.toNat)).map fun j=>a1l n m (m.g8.toNat+j)).flatten
def W7(n:j6)(m:l8):j6×List l8×List n6:=
 bif m.a9==1 then ((a2g n m).1,(a2g n m).2,[]) else
 bif m.a9==2 then ((a1A n m).1,(a1A n m).2,[]) else
 bif m.a9==3 then ((a1I n m).1,(a1I n m).2,[]) else
 bif m.a9==4 then a2M n m else
 bif m.a9==5 then a2I n m else
 bif m.a9==6 then (N9 {n with Acc:=(I6 n.Acc m.a8).getD n.Acc} m.a8,[],[]) else
 bif m.a9==7 then ((a1H n m).1,(a1H n m).2,[]) else
 bif m.a9==8 then (n,a4j n m,[]) else (n,[],[])
def K9(n:j6)(prog:List n8):j6×List l8:=
 bif n.i9||(n.Seq==1000||(B3 (p6 n.a6).1.g7 prog).Code==3) then (n,[]) else
 bif n.d6==2 then M1 {n with Seq:=n.Seq+1,i9:=true,i6:=prog,b8:=⟨false,⟨n.Id,n.Seq+1⟩,B3 (p6 n.a6).1.g7 prog⟩}
 else ({n with Seq:=n.Seq+1,i9:=true,i6:=prog,b8:=⟨false,⟨n.Id,n.Seq+1⟩,B3 (p6 n.a6).1.g7 prog⟩},
  bif n.d6==0 then I8 n.Id ⟨7,0,0,0,0,⟨false,⟨n.Id,n.Seq+1⟩,B3 (p6 n.a6).1.g7 prog⟩,[]⟩ else [])
def Y7(n:j6):j6×List l8:=
 bif decide (M2 n.Acc.i0 n.Id<0) then (n,[]) else
 ({a4s n with Acc:=⟨M2 n.Acc.i0 n.Id,n.Acc.a7⟩,d6:=1,a8:=M2 n.Acc.i0 n.Id,c9:=a1y n.Id,i4:=n.Acc.a7},
  I8 n.Id ⟨1,0,0,M2 n.Acc.i0 n.Id,(n.a6.length:Int),zE,[]⟩)
def W2(n:j6):j6×List l8:=
 bif n.d6==1 then (n,I8 n.Id ⟨8,0,0,0,(n.a6.length:Int),zE,[]⟩++I8 n.Id ⟨1,0,0,n.a8,(n.a6.length:Int),zE,[]⟩) else
 bif n.d6==2 then ((M1 n).1,I8 n.Id ⟨8,0,0,0,(n.a6.length:Int),zE,[]⟩++(M1 n).2) else
 bif n.d6==3 then (n,I8 n.Id ⟨8,0,0,0,(n.a6.length:Int),zE,[]⟩++I8 n.Id ⟨3,0,0,n.a8,(n.a6.length:Int),n.c8,[]⟩) else
 bif n.i9 then (n,I8 n.Id ⟨8,0,0,0,(n.a6.length:Int),zE,[]⟩++I8 n.Id ⟨7,0,0,0,0,n.b8,[]⟩) else
 (n,I8 n.Id ⟨8,0,0,0,(n.a6.length:Int),zE,[]⟩)
def D4(id:Int):j6:=⟨id,⟨0,[]⟩,[],0,0,0,[],[],zE,[],false,[],zE,[]⟩
def a1d(n:j6):j6:={D4 n.Id with Acc:=n.Acc,a6:=n.a6,Seq:=n.Seq}
def R7:m5:=⟨[D4 0,D4 1,D4 2],[],[],[]⟩
def a00(w:m5)(l:List l8):m5:={w with d7:=w.d7++l.take (40-w.d7.length)}
def a9p(w:m5)(l:List n6):m5:={w with Told:=w.Told++l.take (60-w.Told.length)}
def O0(w:m5)(i:Int)(n:j6):m5:={w with a0:=w.a0.set i.toNat n}
def a3I(w:m5)(i:Int):m5:={w with d7:=w.d7.take i.toNat++w.d7.drop (i.toNat+1)}
def I1(w:m5)(i:Int):j6:=w.a0.getD i.toNat (D4 0)
def a32(w:m5)(i:Int)(prog:List n8):m5:=
 bif decide (60<=w.d8.length) then w else
 a00 (O0 (bif decide ((K9 (I1 w i) prog).1.Seq>(I1 w i).Seq) then {w with d8:=w.d8++[⟨(K9 (I1 w i) prog).1.b8.a5,prog⟩]} else w) i (K9 (I1 w i) prog).1) (K9 (I1 w i) prog).2
def a1f(w:m5)(e:s6):m5:=bif decide (0<=e.A) then (match w.d7[e.A.toNat]? with
 | some m=>bif e.a9==4 then a00 w [m] else bif e.a9==3 then a3I w e.A else
  a9p (a00 (O0 (a3I w e.A) m.To (W7 (I1 w m.To) m).1) (W7 (I1 w m.To) m).2.1) (W7 (I1 w m.To) m).2.2
 | none=>w) else w
def E8(w:m5)(e:s6):m5:=
 bif e.a9==2||(e.a9==3||e.a9==4) then a1f w e else
 bif !p9 e.A 0 2 then w else
 bif e.a9==1 then a32 w e.A e.i6 else
 bif e.a9==5 then a00 (O0 w e.A (Y7 (I1 w e.A)).1) (Y7 (I1 w e.A)).2 else
 bif e.a9==6 then a00 (O0 w e.A (W2 (I1 w e.A)).1) (W2 (I1 w e.A)).2 else
 bif e.a9==7 then O0 w e.A (a1d (I1 w e.A)) else w
theorem a0q:H3 0:=⟨by decide,by decide⟩
theorem U2{α:Type}{b:Nat}{ok:α->Prop}:A2 b ok ([]:List α):=⟨by simp,fun x hx=>by cases hx⟩
theorem a1u:E9 zE:=⟨⟨a0q,a0q⟩,U2,U2,a0q,a0q⟩
theorem d0b:E9 eN:=⟨⟨a0q,a0q⟩,U2,U2,a0q,a0q⟩
theorem d1g:T7 v0:=⟨a0q,a1u⟩
theorem a60{α R B:Type}{body:List α×Int->Option (j7 R (List α×Int) B)}(l:List α)(hl:s8 l)(f:List α->B)(h1:∀(k:Nat) (h:k<l.length),body (l.take k,(k:Int))=some (.nxt (l.take k++[l[k]],m7 ((k:Int)+1))))(h2:body (l,(l.length:Int))=some (.brk (f l))):o8 body ([],0)=some (.brk (f l)):=by
 have h:=V9 (body:=body) (fun k=>(l.take k,(k:Int))) l.length (by
  intro k hk;rw [h1 k hk,E6 hl hk,f9e hk])
 rw [show ((0:Nat):Int)=0 from rfl,f9p] at h;rw [h,f8Q];exact C8 h2
theorem b64{l:List m8}(h:A2 96 T7 l):a8S l=some l:=by
 have hf:s8 l:=h.fits (by decide);have hb:=h.1;unfold a8S;rw [a60 (body:=fun s:(List m8)×Int=>b2T l s.1 s.2) l hf (fun l=>l) (by
  intro k hk;unfold b2T;rw [w6 _ k hk,t0 hk];simp only [g0Z,f8y,a0D (h.2 _ (f8C hk)).2];rw [v5 (by rw [f8S];omega)]) (by
  unfold b2T;rw [z8];rfl)]
 rfl
theorem f07{l:List m8}(h:A2 96 T7 l):b9T l=some (l,l):=by
 have hf:s8 l:=h.fits (by decide);have hb:=h.1;unfold b9T;rw [a60 (body:=fun s:(List m8)×Int=>b5c l s.1 s.2) l hf (fun l=>l) (by
  intro k hk;unfold b5c;rw [w6 _ k hk,t0 hk];simp only [g0Z,f8y,a0D (h.2 _ (f8C hk)).2];rw [v5 (by rw [f8S];omega)]) (by
  unfold b5c;rw [z8];rfl)]
 rfl
theorem f3J{e:m4}(h:E9 e):b9I e=some e:=by
 have h1:=h.2.1.1;have h2:=h.2.2.1.1;unfold b9I c2I;rw [v5 (by simp;omega),v5 (by simp;omega)];rfl
theorem e0J{l:List m8}(h:A2 96 T7 l):b9i l=some l:=by
 have hf:s8 l:=h.fits (by decide);have hb:=h.1;unfold b9i;rw [a60 (body:=fun s:(List m8)×Int=>b3Q l s.1 s.2) l hf (fun l=>l) (by
  intro k hk;unfold b3Q;rw [w6 _ k hk,t0 hk];simp only [g0Z,f8y,f3J (h.2 _ (f8C hk)).2];rw [v5 (by rw [f8S];omega)]) (by
  unfold b3Q;rw [z8];rfl)]
 rfl
theorem b7i{m:l8}(h:a0x m):a8g m=some m:=by
 unfold a8g;rw [a0D h.2.2.2.2.2.1,f8y,b64 h.2.2.2.2.2.2];rfl
theorem b5p{α:Type}{b:Nat}{ok:α->Prop}{l:List α}(h:A2 b ok l):(([]:List α).length+l.length)*b<=140737488355328:=by
 have:=h.1;simp only [g0n,f9I];omega
theorem b3k{n:j6}(h:O6 n):a6v n=some n:=by
 obtain ⟨h1,h2,h3,h4,h5,h6,h7,h8,h9,h10,h11,h12,h13⟩:=h;unfold a6v c2H;rw [b64 h2.2,f8y,f8y,c1q h3,f8y,v5 (b5p h7),b64 h8,f8y,a0D h9,f8y,v5 (b5p h10),v5 (b5p h11),a0D h12,f8y,c1q h13];rfl
theorem c3v{a:z0}{b:Int}:b0N a b=match I6 a b with|some _=>none|none=>some (a,false):=by
 unfold b0N I6 b1q;rw [b0d,f8y];cases p9 b 1 3000
 ·rfl
 ·by_cases h:b<a.i0
  ·simp [h,show ¬a.i0<=b by omega]
  ·simp [h,show a.i0<=b by omega]
theorem b6f{a:z0}{b:Int}:a7N a b=some (match I6 a b with|some x=>(x,true)|none=>(a,false)):=by
 unfold a7N I6 b1q;rw [b0d,f8y];cases p9 b 1 3000
 ·rfl
 ·by_cases h:b<a.i0
  ·simp [h,show ¬a.i0<=b by omega]
  ·simp [h,show a.i0<=b by omega]
theorem d1v{a:z0}{b s:Int}{e:m4}(he:E9 e):b4A a b s e=match L2 a b s e with|some _=>none|none=>some (a,false):=by
 unfold b4A L2;rw [a4k he.f,f8y,c3v];by_cases h1:s<0
 ·simp [h1,p9,show ¬(0<=s/\s<=39) by omega]
 ·by_cases h2:s>=40
  ·simp [h1,h2,p9,show ¬(0<=s/\s<=39) by omega]
  ·simp only [h1,h2,decide_false,g00,p9,show (0<=s/\s<=39) by omega,and_self,decide_true,f8K];cases z4 e
   ·rfl
   ·simp only [f8F,g00,g0Z];cases I6 a b<;>rfl
theorem c8q(slot:Nat)(hs:slot<40):∀(m:Nat) (vs:List m8),slot+1-vs.length=m->o8 (fun s:List m8=>a8c (slot:Int) s) vs=some (.brk (U1 vs (slot+1)))
 | 0,vs,h=>by
  refine C8 ?_;unfold a8c U1;rw [h,show decide ((vs.length:Int)<=(slot:Int))=false by simp;omega];simp
 | m+1,vs,h=>by
  have hb:a8c (slot:Int) vs=some (.nxt (vs++[v0])):=by
   unfold a8c;rw [show decide ((vs.length:Int)<=(slot:Int))=true by simp;omega,g0Z,v5 (by omega)];rfl
  rw [E7 (body:=fun s:List m8=>a8c (slot:Int) s) hb,c8q slot hs m (vs++[v0]) (by simp;omega)];congr 2
  unfold U1;rw [h,f8M,show slot+1-(vs.length+[v0].length)=m by simp;omega,f8U];rfl
theorem b51(vs:List m8)(n:Nat):(U1 vs n).length=max vs.length n:=by
 unfold U1;simp;omega
theorem d2s{a:z0}{b s:Int}{e:m4}(he:E9 e):b3X a b s e=some (match L2 a b s e with|some x=>(x,true)|none=>(a,false)):=by
 unfold b3X L2;rw [a4k he.f,f8y,c3v,b6f,f8y];by_cases h1:s<0
 ·simp [h1,p9,show ¬(0<=s/\s<=39) by omega]
 ·by_cases h2:s>=40
  ·simp [h1,h2,p9,show ¬(0<=s/\s<=39) by omega]
  ·simp only [h1,h2,decide_false,g00,p9,show (0<=s/\s<=39) by omega,and_self,decide_true,f8K];cases z4 e
   ·rfl
   ·simp only [f8F,g00,g0Z];cases I6 a b with
    | none=>rfl
    | some x=>
     obtain ⟨k,rfl⟩:∃k:Nat,s=(k:Int):=⟨s.toNat,by omega⟩
     have hk:k<(U1 x.a7 (k+1)).length:=by rw [b51];omega
     simp only [a5e,f8F,g00,c8q k (by omega) _ _ rfl,f8y,l9.go,c2z,a0D he,t0 hk,f9U,f9b]
theorem b5G{n:j6}{q:n5}(h:s8 n.a6):a9w n q=some (N6 n.a6 q):=by
  unfold a9w;rw [show o8 (fun s:Int=>b1d n q s) 0=_ from b4V (body:=fun s:Int=>b1d n q s) n.a6 h (D6 q) (fun _=>true) () (by
      intro k hk;unfold b1d c5u D6;rw [w6 _ k hk,t0 hk];simp only [g0Z,f8y];cases n.a6[k].i7<;>cases (([n.a6[k].a5.b9,n.a6[k].a5.Seq]:List Int)==[q.b9,q.Seq])<;>rfl) (by
      unfold b1d;rw [z8];rfl)]
  unfold N6;cases hf:n.a6.find? (D6 q) with
  | none=>
    have:n.a6.any (D6 q)=false:=by
      rw [f9q];intro x hx;exact g0V.1 hf x hx
    rw [this];rfl
  | some x=>
    have:n.a6.any (D6 q)=true:=g0b.2 ⟨x,g0T hf,List.find?_some hf⟩;rw [this];rfl
def a1i(id:Int)(m:l8)(o:List l8)(t:Int):List l8:=bif t != id then o++[{m with c9:=id,To:=t}] else o
theorem d6m(id:Int)(m:l8)(o:List l8)(t:Int):(a1i id m o t).length<=o.length+1:=by
 unfold a1i;cases t != id<;>simp
theorem a6J{id:Int}(hid:0<=id/\id<=2){m:l8}(h:a0x m):a3z id m=some (I8 id m):=by
 have e:∀(o:List l8) (t:Int),o.length<=3->0<=t->t<3->a4V id m o t=some (.nxt (a1i id m o t,t+1)):=by
  intro o t ho ht0 ht;unfold a4V c3U a1i;rw [show decide (t<3)=true by simpa using ht,g0Z,b7i h,f8y,v5 (by omega),C4 (by omega) (by omega)];cases t != id<;>rfl
 have l1:=d6m id m [] 0;have l2:=d6m id m (a1i id m [] 0) (0+1);have h0:=E7 (body:=fun s:(List l8)×Int=>a4V id m s.1 s.2) (s:=([],0)) (e [] 0 (by simp) (by omega) (by omega));have h1:=E7 (body:=fun s:(List l8)×Int=>a4V id m s.1 s.2) (s:=(a1i id m [] 0,0+1)) (e (a1i id m [] 0) (0+1) (by simp at l1;omega) (by omega) (by omega));have h2:=E7 (body:=fun s:(List l8)×Int=>a4V id m s.1 s.2) (s:=(a1i id m (a1i id m [] 0) (0+1),0+1+1)) (e (a1i id m (a1i id m [] 0) (0+1)) (0+1+1) (by simp at l1;omega) (by omega) (by omega));have h3:=C8 (body:=fun s:(List l8)×Int=>a4V id m s.1 s.2) (s:=(a1i id m (a1i id m (a1i id m [] 0) (0+1)) (0+1+1),0+1+1+1)) (show a4V id m _ (0+1+1+1)=_ from rfl);unfold a3z;rw [h0,h1,h2,h3];obtain rfl|rfl|rfl:id=0\/id=1\/id=2:=by omega
 all_goals rfl
theorem c8a:∀(l:List Bool) (hl:s8 l) (m k:Nat) (c:Int),k+m=l.length->0<=c->c<=k->o8 (fun s:Int×Int=>a4S l s.1 s.2) (c,(k:Int))=some (.brk (c+(((l.drop k).filter (· == true)).length:Int)))
 | l,hl,0,k,c,hk,h0,h1=>by
  have:k=l.length:=by omega
  subst this;refine C8 ?_;show a4S l c (l.length:Int)=_
  unfold a4S;rw [z8];simp
 | l,hl,m+1,k,c,hk,h0,h1=>by
  have hlt:k<l.length:=by omega
  have hfl:(l.length:Int)<=140737488351232:=by have:=hl;unfold s8 at this;omega
  have hb:a4S l c (k:Int)=some (.nxt (c+(bif l[k] then 1 else 0),((k+1:Nat):Int))):=by
   unfold a4S c5k;rw [w6 _ k hlt,t0 hlt,g0Z,f8y,E6 hl hlt];cases l[k]<;>simp only [g0Z,g00,f8y]<;>rw [C4 (by omega) (by omega)]
  rw [E7 (body:=fun s:Int×Int=>a4S l s.1 s.2) hb,c8a l hl m (k+1) _ (by omega) (by cases l[k]<;>simp<;>omega) (by cases l[k]<;>simp<;>omega),f8W hlt];cases l[k]<;>simp
  omega
theorem d4F{l:List Bool}(h:s8 l):b4F l=some (N7 l):=by
 unfold b4F;rw [show o8 (fun s:Int×Int=>a4S l s.1 s.2) (0,0)=_ from c8a l h l.length 0 0 (by omega) (by omega) (by omega)];simp only [f8y,l9.go,c4u,N7,f9M];congr 1
 simp;omega
theorem f1N{l:List m8}{s:Int}(h:A2 96 T7 l)(hl:l.length<=40)(hs:0<=s/\s<=40):b9n l s=some (f8A s.toNat v0++l):=by
 unfold b9n;rw [v5 (by omega),b64 h,f8y,v5 (by simp;omega)];rfl
theorem a71:∀a b:List m8,(E0 a b).length=max a.length b.length
 | [],b=>by simp [E0]
 | x::a,[]=>by simp [E0]
 | x::a,y::b=>by simp only [E0,f9J,a71 a b];omega
theorem b08:∀(a b:List m8) (k:Nat),(E0 a b)[k]?=match a[k]?,b[k]? with
  | some x,some y=>some (bif decide (y.a8>x.a8) then y else x)
  | some x,none=>some x
  | none,some y=>some y
  | none,none=>none
 | [],b,k=>by simp [E0];cases b[k]?<;>rfl
 | x::a,[],k=>by simp [E0];cases (x::a)[k]?<;>rfl
 | x::a,y::b,0=>by simp [E0]
 | x::a,y::b,k+1=>by simp only [E0,f9T];exact b08 a b k
theorem b1c{a b:List m8}{v:m8}(h:v∈E0 a b):v∈a\/v∈b:=by
 obtain ⟨k,hk⟩:=g0q h;rw [b08] at hk;cases ha:a[k]? with
 | none=>
  cases hb:b[k]? with
  | none=>rw [ha,hb] at hk;cases hk
  | some y=>rw [ha,hb] at hk;injection hk with hk;subst hk;exact .inr (f8O hb)
 | some x=>
  cases hb:b[k]? with
  | none=>rw [ha,hb] at hk;injection hk with hk;subst hk;exact .inl (f8O ha)
  | some y=>
   rw [ha,hb] at hk;simp only at hk;cases hd:decide (y.a8>x.a8)
   ·rw [hd] at hk;injection hk with hk;subst hk;exact .inl (f8O ha)
   ·rw [hd] at hk;injection hk with hk;subst hk;exact .inr (f8O hb)
theorem f2E{a b:List m8}(ha:A2 96 T7 a)(hb:A2 96 T7 b)(hla:a.length<=80)(hlb:b.length<=80)(hz:∀v∈b,v.a8<=0->v=v0):b9y a b=some (E0 a b):=by
 have hlen:=a71 a b;unfold b9y;rw [a60 (body:=fun s:(List m8)×Int=>a54 a b s.1 s.2) (E0 a b) (by unfold s8;omega) (fun l=>l) (by
  intro k hk;have hget:=b08 a b k;rw [f8z hk] at hget;have hent:∀v,v∈a\/v∈b->E9 v.g9:=fun v hv=>hv.elim (fun q=>(ha.2 v q).2) (fun q=>(hb.2 v q).2)
  have hj1:∀v:m8,E9 v.g9->b7A ((E0 a b).take k) (k:Int) v=some (.nxt ((E0 a b).take k++[v],m7 ((k:Int)+1))):=by
   intro v hv;unfold b7A;rw [a0D hv,f8y,v5 (by rw [f8S];omega)]
  show a54 a b ((E0 a b).take k) (k:Int)=_
  have hkk:k<a.length\/k<b.length:=by omega
  have hstart:a54 a b ((E0 a b).take k) (k:Int)=b5x a b ((E0 a b).take k) (k:Int):=by
   unfold a54;by_cases h1:k<a.length
   ·rw [w6 _ k h1];rfl
   ·rw [show decide ((k:Int)<(a.length:Int))=false by simp;omega,w6 _ k (by omega)];rfl
  rw [hstart];unfold b5x;by_cases h1:k<a.length
  ·rw [w6 _ k h1,t0 h1];simp only [g0Z,f8y,l9.go];unfold b6h;rw [f8z h1] at hget;by_cases h2:k<b.length
   ·rw [w6 _ k h2,t0 h2];rw [f8z h2] at hget;simp only [g0Z,f8y];injection hget with hget;rw [hget];cases decide (b[k].a8>a[k].a8)
    ·simp only [g00,f8y,l9.go];exact hj1 _ (hent _ (.inl (f8C h1)))
    ·simp only [g0Z,f8y,l9.go];exact hj1 _ (hent _ (.inr (f8C h2)))
   ·rw [show decide ((k:Int)<(b.length:Int))=false by simp;omega];rw [f8Y (by omega)] at hget;injection hget with hget;rw [hget];simp only [g00,f8y,l9.go];exact hj1 _ (hent _ (.inl (f8C h1)))
  ·have h2:k<b.length:=by omega
   rw [show decide ((k:Int)<(a.length:Int))=false by simp;omega];simp only [g00,f8y,l9.go];unfold b6h;rw [w6 _ k h2,t0 h2];rw [f8Y (by omega),f8z h2] at hget;injection hget with hget;rw [hget];simp only [g0Z,f8y];by_cases h3:b[k].a8>0
   ·rw [show decide (b[k].a8>0)=true by simpa using h3];simp only [g0Z,f8y,l9.go];exact hj1 _ (hent _ (.inr (f8C h2)))
   ·have hv:=hz _ (f8C h2) (by omega);rw [show decide (b[k].a8>0)=false by simpa using h3];simp only [g00,f8y,l9.go];rw [hv];exact hj1 v0 a1u) (by
  show a54 a b (E0 a b) ((E0 a b).length:Int)=_
  unfold a54;rw [show decide (((E0 a b).length:Int)<(a.length:Int))=false by simp;omega,show decide (((E0 a b).length:Int)<(b.length:Int))=false by simp;omega];rfl)]
 rfl
theorem d9v{b who:Int}(hb:0<=b/\b<=3000)(hw:0<=who/\who<=2):b8N b who=some (M2 b who):=by
 have e:∀i:Int,1<=i->i<=3->a3Z b who (b+i)=some (bif decide (b+i<=3000) then (bif f9c (b+i) 3==who then .ret (b+i) else .nxt (b+(i+1))) else .brk ()):=by
  intro i h1 h3;unfold a3Z;rw [C4 (by omega) (by omega),show decide (b+i<=b+3)=true by simp;omega,g0Z,C4 (by omega) (by omega),Int.add_assoc];cases decide (b+i<=3000)
  ·rfl
  ·cases f9c (b+i) 3==who<;>rfl
 have e4:a3Z b who (b+4)=some (.brk ()):=by
  unfold a3Z;rw [C4 (by omega) (by omega),show decide (b+4<=b+3)=false by simp];rfl
 have e1:=e 1 (by omega) (by omega);have e2:=e 2 (by omega) (by omega);have e3:=e 3 (by omega) (by omega);unfold b8N M2;rw [show decide (b<0)=false by simp;omega,show decide (b>3000)=false by simp;omega,show decide (who<0)=false by simp;omega,show decide (who>=3)=false by simp;omega,C4 (by omega) (by omega)];simp only [g00];have hb4:o8 (fun s:Int=>a3Z b who s) (b+4)=some (.brk ()):=C8 e4;have h3:o8 (fun s:Int=>a3Z b who s) (b+3)=some (bif decide (b+3<=3000)&&(f9c (b+3) 3==who) then .ret (b+3) else .brk ()):=by
  cases q:decide (b+3<=3000)
  ·rw [q] at e3;exact C8 e3
  ·rw [q] at e3;cases t:f9c (b+3) 3==who
   ·rw [t] at e3;rw [E7 e3];exact hb4
   ·rw [t] at e3;exact W3 e3
 have h2:o8 (fun s:Int=>a3Z b who s) (b+2)=some (bif decide (b+2<=3000)&&(f9c (b+2) 3==who) then .ret (b+2) else bif decide (b+3<=3000)&&(f9c (b+3) 3==who) then .ret (b+3) else .brk ()):=by
  cases q:decide (b+2<=3000)
  ·rw [q] at e2;rw [show decide (b+3<=3000)=false by simp at q ⊢;omega];exact C8 e2
  ·rw [q] at e2;cases t:f9c (b+2) 3==who
   ·rw [t] at e2;rw [E7 e2];exact h3
   ·rw [t] at e2;exact W3 e2
 have h1:o8 (fun s:Int=>a3Z b who s) (b+1)=some (bif decide (b+1<=3000)&&(f9c (b+1) 3==who) then .ret (b+1) else bif decide (b+2<=3000)&&(f9c (b+2) 3==who) then .ret (b+2) else bif decide (b+3<=3000)&&(f9c (b+3) 3==who) then .ret (b+3) else .brk ()):=by
  cases q:decide (b+1<=3000)
  ·rw [q] at e1;rw [show decide (b+2<=3000)=false by simp at q ⊢;omega,show decide (b+3<=3000)=false by simp at q ⊢;omega];exact C8 e1
  ·rw [q] at e1;cases t:f9c (b+1) 3==who
   ·rw [t] at e1;rw [E7 e1];exact h2
   ·rw [t] at e1;exact W3 e1
 rw [h1];cases decide (b+1<=3000)&&(f9c (b+1) 3==who)<;>cases decide (b+2<=3000)&&(f9c (b+2) 3==who)<;>cases decide (b+3<=3000)&&(f9c (b+3) 3==who)<;>rfl
theorem A5{n:Int}(h:-1000000000<=n/\n<=1000000000):H3 n:=⟨by omega,by omega⟩
theorem a0l{α:Type}{b:Nat}{ok:α->Prop}{l:List α}(hl:l.length*b<=1000000000)(h:∀x∈l,ok x):A2 b ok l:=⟨by omega,h⟩
theorem d9W{α:Type}{b:Nat}{ok:α->Prop}{l l':List α}(h:A2 b ok l)(hl:l'.length<=l.length)(hs:∀x∈l',x∈l):A2 b ok l':=
 ⟨f9m (f9g _ hl) h.1,fun x hx=>h.2 x (hs x hx)⟩
theorem c3g{l:List m4}{q:n5}:N6 l q=(l.findIdx? (D6 q)).isSome:=by
 unfold N6;cases h:l.findIdx? (D6 q) with
 | none=>
  rw [g0t] at h;rw [Option.isSome_none,f9q];intro x hx;rw [h x hx];simp
 | some k=>
  rw [f9x] at h;obtain ⟨hk,h1,_⟩:=h;rw [Option.isSome_some];exact g0b.2 ⟨l[k],f8C hk,h1⟩
theorem e3u{n:j6}(h:A2 88 E9 n.a6)(hok:G4 n.a6=true):b5U n=some (U7 n):=by
 obtain ⟨hl,he⟩:=W8 hok;have hf:s8 n.a6:=h.fits (by decide);unfold b5U U7;rw [b5G hf,f8y,c3g];cases n.i9
 ·rfl
 simp only [f8F,g00,g0Z];cases hfi:n.a6.findIdx? (D6 n.b8.a5) with
 | none=>rfl
 | some kk=>
 simp only [Option.isSome_some,f8F,g00,c0s,f8y];have:=b0o (body:=fun s:(List m9)×Int×Int×List q9=>b1b n s.1 s.2.1 s.2.2.1 s.2.2.2) (fun k=>((p6 (n.a6.take k)).1.g7,(k:Int),(p6 (n.a6.take k)).1.At,(p6 (n.a6.take k)).1.i8)) n.a6 (D6 n.b8.a5) (fun k=>(a58 n,[⟨n.Id,n.b8.a5,L4 n.a6 k,bif L4 n.a6 k==0 then (match n.a6[k]? with|some e=>e.b6.d9|none=>0) else 0⟩])) () (by
   intro k hk;obtain ⟨h1,h2,h3⟩:=P5 hl he k (by omega);unfold b1b c3B D6 L4;rw [w6 _ k hk,t0 hk,c1T hl he hk,a0K hk,<-E6 hf hk,f8z hk];simp only [g0Z,f8y];rw [show (⟨(p6 (n.a6.take k)).1.At,(p6 (n.a6.take k)).1.g7,(p6 (n.a6.take k)).1.i8⟩:u5)=(p6 (n.a6.take k)).1 from rfl,b9L h1 (by omega) (f8E.1 he _ (f8C hk)) (h.2 _ (f8C hk)).f,f8y];cases n.a6[k].i7<;>cases (([n.a6[k].a5.b9,n.a6[k].a5.Seq]:List Int)==[n.b8.a5.b9,n.b8.a5.Seq])<;>first|rfl|skip
   simp only [g00,f8F,f9j,f8K,g0Z,f9P];cases ((apply (p6 (n.a6.take k)).1 n.a6[k]).2==0)<;>rfl) (by
   unfold b1b;rw [z8];rfl)
 rw [f9p,hfi] at this;rw [show o8 (fun s:(List m9)×Int×Int×List q9=>b1b n s.1 s.2.1 s.2.2.1 s.2.2.2) (P7.g7,0,P7.At,P7.i8)=_ from this];simp only [f8y,l9.go,Q5,hfi];all_goals rfl
theorem f4R{l:List m8}(hf:s8 l)(k:Nat):b5w l (k:Int)=some ((l.drop k).any fun v=>decide (v.a8>0)):=by
 have key:∀(m k:Nat),l.length-k=m->o8 (fun s:Int=>a79 l s) (k:Int)=some (bif (l.drop k).any (fun v=>decide (v.a8>0)) then .ret true else .brk ()):=by
  intro m;induction m with
  | zero=>
   intro k hk;rw [f9d (by omega)];refine C8 ?_;unfold a79;rw [show decide ((k:Int)<(l.length:Int))=false by simp;omega];rfl
  | succ m ih=>
   intro k hk;have hlt:k<l.length:=by omega
   rw [f8W hlt,g0R];cases hd:decide (l[k].a8>0)
   ·rw [E7 (body:=fun s:Int=>a79 l s) (t:=((k+1:Nat):Int)) (by
     unfold a79;rw [w6 _ k hlt,t0 hlt,g0Z,f8y,hd,E6 hf hlt];rfl),ih (k+1) (by omega),f9n]
   ·refine W3 ?_;unfold a79;rw [w6 _ k hlt,t0 hlt,g0Z,f8y,hd];rfl
 unfold b5w;rw [key _ k rfl];cases (l.drop k).any fun v=>decide (v.a8>0)<;>rfl
theorem c8d(n:j6)(hk:s8 n.a6):∀(q:List m4),A2 88 E9 q->o8 (fun s:List m4=>b04 n s) q=some (match T4 n.a6 q with
  | (q',some e)=>.ret ({n with f0:=q'},e,true)
  | (q',none)=>.brk q')
 | [],h=>C8 rfl
 | e::q,h=>by
  have hb:=h.1;rw [f9J,f9N] at hb;have h':A2 88 E9 q:=⟨by omega,fun x hx=>h.2 x (g0Q _ hx)⟩
  have ht:(([]:List m4)++((e::q).drop (0+(1:Int).toNat)).take ((e::q).length-(1:Int).toNat))=q:=by
   simp
  have hs:b04 n (e::q)=some (bif N6 n.a6 e.a5 then .nxt q else .ret ({n with f0:=q},e,true)):=by
   unfold b04;rw [show decide (((e::q).length:Int)>0)=true by simp,g0Z,show idx (e::q) 0=some e from rfl,f8y,v5 (by simp;omega),v5 (by simp;omega),ht,b5G (n:={n with f0:=q}) hk,f8y];cases N6 n.a6 e.a5<;>rfl
  unfold T4;cases hd:N6 n.a6 e.a5
  ·rw [hd] at hs;exact W3 hs
  ·rw [hd] at hs;rw [E7 (body:=fun s:List m4=>b04 n s) hs];exact c8d n hk q h'
def b6E(x:j6×Option m4):j6×m4×Bool:=match x with
 | (n,some e)=>(n,e,true)
 | (n,none)=>(n,zE,false)
theorem e7W{n:j6}(h:O6 n):b8y n=some (b6E (a02 n)):=by
 obtain ⟨h1,h2,h3,h4,h5,h6,h7,h8,h9,h10,h11,h12,h13⟩:=h;have hk:s8 n.a6:=h3.fits (by decide);have j1:b7N n=some (b6E ({n with f0:=(T4 n.a6 n.f0).1},(T4 n.a6 n.f0).2)):=by
  unfold b7N;rw [c8d n hk _ h13];obtain ⟨q,o⟩:=T4 n.a6 n.f0;cases o<;>rfl
 have j2:b5t n=some (b6E (a5j n)):=by
  unfold b5t a5j;rw [f4R (h8.fits (by decide)),f8y,b5G hk,a0D h12];generalize (({n with f0:=(T4 n.a6 n.f0).1},(T4 n.a6 n.f0).2):j6×Option m4)=X at j1 ⊢;cases (n.i4.drop n.a6.length).any fun v=>decide (v.a8>0)
  ·simp only [g00];cases n.i9
   ·exact j1
   ·cases N6 n.a6 n.b8.a5
    ·rfl
    ·exact j1
  ·rfl
 unfold b8y a02;by_cases hl:n.a6.length<n.i4.length
 ·rw [w6 _ _ hl,t0 hl,f8z hl];simp only [g0Z,f8y];cases decide (n.i4[n.a6.length].a8>0)
  ·exact j2
  ·simp only [g0Z,a0D (h8.2 _ (f8C hl)).2,f8y,l9.go];rfl
 ·rw [show decide ((n.a6.length:Int)<(n.i4.length:Int))=false by simp;omega,f8Y (by omega)];exact j2
theorem c9S(known:List m4):∀(q:List m4),(T4 known q).1.length<=q.length/\(∀x∈(T4 known q).1,x∈q)/\∀e,(T4 known q).2=some e->e∈q/\N6 known e.a5=false/\(T4 known q).1.length<q.length
 | []=>⟨f8R _,fun x hx=>hx,fun e he=>by cases he⟩
 | e::q=>by
  unfold T4;cases hk:N6 known e.a5
  ·refine ⟨by simp,fun x hx=>by simpa using .inr hx,fun e' he => ?_⟩;injection he with he;subst he;exact ⟨by simp,hk,by simp⟩
  ·obtain ⟨a,b,c⟩:=c9S known q;refine ⟨by simp only [g0Z,f9J];omega,fun x hx=>g0Q _ (b x hx),fun e' he => ?_⟩;obtain ⟨x,y,z⟩:=c e' he;exact ⟨g0Q _ x,y,by simp only [g0Z,f9J];omega⟩
inductive a2n (n:j6):m4->Prop
 | best (v) (h:n.i4[n.a6.length]?=some v) (hb:v.a8>0):a2n n v.g9
 | gap (v) (h:v∈n.i4.drop n.a6.length) (hb:v.a8>0) (hn:∀v,n.i4[n.a6.length]?=some v->¬v.a8>0):a2n n eN
 | want (h:n.i9=true) (hk:N6 n.a6 n.b8.a5=false) (hn:∀v∈n.i4.drop n.a6.length,¬v.a8>0):a2n n n.b8
 | queue (e) (h:e∈n.f0) (hk:N6 n.a6 e.a5=false) (hn:∀v∈n.i4.drop n.a6.length,¬v.a8>0):a2n n e
theorem a9I(n:j6):∃q:List m4,(a02 n).1={n with f0:=q}/\q.length<=n.f0.length/\(∀x∈q,x∈n.f0)/\∀e,(a02 n).2=some e->a2n n e:=by
 have rest:(∀v,n.i4[n.a6.length]?=some v->¬v.a8>0)->∃q:List m4,(a5j n).1={n with f0:=q}/\q.length<=n.f0.length/\(∀x∈q,x∈n.f0)/\∀e,(a5j n).2=some e->a2n n e:=by
  intro hn;unfold a5j;cases ha:(n.i4.drop n.a6.length).any fun v=>decide (v.a8>0)
  ·have hnv:∀v∈n.i4.drop n.a6.length,¬v.a8>0:=fun v hv=>by simpa using f9q.1 ha v hv
   cases hb:n.i9 && !N6 n.a6 n.b8.a5
   ·obtain ⟨a,b,c⟩:=c9S n.a6 n.f0;exact ⟨_,rfl,a,b,fun e he=>.queue e (c e he).1 (c e he).2.1 hnv⟩
   ·simp only [f8D,f9h] at hb;refine ⟨n.f0,rfl,f8R _,fun _ h=>h,fun e he => ?_⟩;injection he with he;subst he;exact .want hb.1 hb.2 hnv
  ·obtain ⟨v,hv,hb⟩:=g0b.1 ha;refine ⟨n.f0,rfl,f8R _,fun _ h=>h,fun e he => ?_⟩;injection he with he;subst he;exact .gap v hv (by simpa using hb) hn
 unfold a02;cases hg:n.i4[n.a6.length]? with
 | none=>exact rest (by rw [hg];simp)
 | some v=>
  simp only;cases hb:decide (v.a8>0)
  ·exact rest (by rw [hg];intro w hw;injection hw with hw;subst hw;simpa using hb)
  ·refine ⟨n.f0,rfl,f8R _,fun _ h=>h,fun e he => ?_⟩;injection he with he;subst he;exact .best v hg (by simpa using hb)
theorem a2n.ok{n:j6}(h:O6 n){e:m4}(hn:a2n n e):E9 e:=by
 cases hn with
 | best v hv hb=>exact (h.2.2.2.2.2.2.2.1.2 v (f8O hv)).2
 | gap=>exact d0b
 | want=>exact h.2.2.2.2.2.2.2.2.2.2.2.1
 | queue e hq=>exact h.2.2.2.2.2.2.2.2.2.2.2.2.2 e hq
theorem a7I{k b s:Int}{e:m4}{vs:List m8}(hk:H3 k)(hb:H3 b)(hs:H3 s)(he:E9 e)(hv:A2 96 T7 vs):a0x ⟨k,0,0,b,s,e,vs⟩:=⟨hk,a0q,a0q,hb,hs,he,hv⟩
theorem c3K{id:Int}(h:0<=id/\id<=2):∃y,idx (f8A (3:Int).toNat false) id=some y:=by
 obtain rfl|rfl|rfl:id=0\/id=1\/id=2:=by omega
 all_goals exact ⟨false,rfl⟩
theorem b5h{n:j6}(h:O6 n)(hid:0<=n.Id/\n.Id<=2):a6z n=some (M1 n):=by
 unfold a6z M1;rw [show decide ((n.a6.length:Int)>=40)=decide (40<=n.a6.length) by simp;omega];cases n.d6 != 2
 ·simp only [g00,f9n];cases hlt:decide (40<=n.a6.length)
  ·simp only [g00,e7W h,f8y];obtain ⟨q,hq,hql,hqm,hqe⟩:=a9I n;cases hx:a02 n with
   | mk x o=>
   rw [hx] at hq hqe;have hq:x={n with f0:=q}:=hq;cases o with
   | none=>rfl
   | some e=>
    have he:=(hqe e rfl).ok h;have hlen:n.a6.length<40:=by simpa using hlt
    subst hq;simp only [b6E,f8F,g00,d1v he,d2s he,a7k];cases L2 n.Acc n.a8 (n.a6.length:Int) e with
    | none=>rfl
    | some a=>
     obtain ⟨y,hy⟩:=c3K hid;simp only [a5e,f8y,f8F,g00,a0D he,hy];rw [v5 (by omega),a6J hid (a7I (A5 (by omega)) h.2.2.2.2.2.1 (A5 (by omega)) he U2)];rfl
  ·rfl
 ·rfl
theorem e3L{n:j6}(h:O6 n):O6 (a58 n):=by
 obtain ⟨h1,h2,h3,h4,h5,h6,h7,h8,h9,h10,h11,h12,h13⟩:=h;exact ⟨h1,h2,h3,h4,h5,h6,h7,h8,h9,h10,U2,a1u,h13⟩
theorem f0W{n:j6}(h:O6 n){e:m4}(he:E9 e)(hl:n.a6.length<=40):O6 (E3 n e):=by
 obtain ⟨h1,h2,h3,h4,h5,h6,h7,h8,h9,h10,h11,h12,h13⟩:=h;have hk:A2 88 E9 (n.a6++[e]):=a0l (by simp;omega) (by
  intro x hx;rcases f8B.1 hx with q|q
  ·exact h3.2 x q
  ·rw [f8H.1 q];exact he)
 unfold E3;cases n.d6==3
 ·exact ⟨h1,h2,hk,h4,h5,h6,h7,h8,h9,h10,h11,h12,h13⟩
 ·exact ⟨h1,h2,hk,h4,A5 (n:=2) (by omega),h6,h7,h8,a1u,U2,h11,h12,h13⟩
theorem a9M(n:j6):(U7 n=(n,[]))\/∃k,n.i9=true/\n.a6.findIdx? (D6 n.b8.a5)=some k/\U7 n=(a58 n,[⟨n.Id,n.b8.a5,L4 n.a6 k,bif L4 n.a6 k==0 then Q5 n.a6 n.b8.a5 else 0⟩]):=by
 unfold U7;cases n.i9
 ·exact .inl rfl
 ·cases h:n.a6.findIdx? (D6 n.b8.a5) with
  | none=>exact .inl rfl
  | some k=>exact .inr ⟨k,rfl,rfl,rfl⟩
theorem e8Q{n:j6}(h:O6 n):O6 (U7 n).1:=by
 rcases a9M n with q|⟨k,_,_,q⟩<;>rw [q]
 ·exact h
 ·exact e3L h
theorem d2L(n:j6):(U7 n).1.Id=n.Id:=by
 rcases a9M n with q|⟨k,_,_,q⟩<;>rw [q];rfl
theorem c0T(n:j6)(e:m4):(E3 n e).Id=n.Id:=by
 unfold E3;cases n.d6==3<;>rfl
theorem c1i(n:j6)(e:m4):(E3 n e).a6=n.a6++[e]:=by
 unfold E3;cases n.d6==3<;>rfl
theorem d3R{n:j6}(h:O6 n)(hid:0<=n.Id/\n.Id<=2)(hk:G4 n.a6=true)(hl:n.a6.length<40){e:m4}(he:E9 e)(hok:z4 e=true):b4R n e=some (Y5 n e):=by
 have hkn:=f0W h he (by omega);have hko:G4 (E3 n e).a6=true:=by
  rw [c1i];obtain ⟨a,b⟩:=W8 hk;unfold G4;simp only [f8M,f9K,List.all_append,List.all_cons,List.all_nil,b,hok,f9Y,Bool.and_self,decide_eq_true_eq];omega
 have hj:∀(p:Int) (c:m4) (vs:List Bool),(⟨n.Id,n.Acc,n.a6++[e],n.Seq,p,n.a8,n.c9,n.i4,c,vs,n.i9,n.i6,n.b8,n.f0⟩:j6)=E3 n e->b8p n e vs c.a5.b9 c.a5.Seq c.b6.b5 c.b6.b7 c.b6.d9 c.b6.Code p c.i7=some (Y5 n e):=by
  intro p c vs hq;unfold b8p;rw [show (j6.mk n.Id n.Acc (n.a6++[e]) n.Seq p n.a8 n.c9 n.i4 (m4.mk c.i7 (n5.mk c.a5.b9 c.a5.Seq) (n7.mk c.b6.b5 c.b6.b7 c.b6.d9 c.b6.Code)) vs n.i9 n.i6 n.b8 n.f0)=E3 n e from hq,e3u hkn.2.2.1 hko,f8y,b5h (e8Q hkn) (by rw [d2L,c0T];exact hid),f8y];rfl
 unfold b4R;rw [a0D he,f8y,v5 (by omega)];cases hp:n.d6==3
 ·exact hj n.d6 n.c8 n.a7 (by unfold E3;rw [hp];rfl)
 ·exact hj 2 zE [] (by unfold E3;rw [hp];rfl)
theorem f7G{r:n7}(h:V3 r=true):r.b5.length<=4:=by
 have h0:a4o r.b5=true:=by
  rw [a9B] at h;simp only [f8D] at h;exact h.2.2.2.2.1
 obtain ⟨h1,h2⟩:=d59.1 h0;let ps:List p8:=r.b5.map fun x=>⟨x.i5,0⟩
 have hp:∀p∈ps,a0n p:=by
  intro p hp;obtain ⟨x,hx,rfl⟩:=f9i.1 hp;exact ⟨(h1 x hx).1,(h1 x hx).2.1,by simp,by simp⟩
 have hpw:ps.Pairwise fun p q=>p.i5≠q.i5:=List.pairwise_map.2 h2
 have hl:=c4I hp;have a:=a6E hpw 0;have b:=a6E hpw 1;have c:=a6E hpw 2;have d:=a6E hpw 3;have:ps.length=r.b5.length:=f9u ..;omega
theorem e2z{r:n7}(h:a4X r ⟨[],[],0,0⟩=true):r=⟨[],[],0,0⟩:=(c87 _ _).1 h
theorem e6p{e:m4}(h:z4 e=true)(hn:e.i7=true):e=eN:=by
 unfold z4 at h;rw [hn] at h;simp only [g0Z,f8D,beq_iff_eq,List.cons.injEq,and_true] at h;obtain ⟨⟨h1,h2⟩,h3⟩:=h;have h4:=e2z h3;clear h3;obtain ⟨n,⟨a,b⟩,r⟩:=e;simp only at hn h1 h2 h4;subst hn h1 h2 h4;rfl
theorem f2n{r:n7}(h:V3 r=true):b78 r:=by
 obtain ⟨h1,h2,_,h4,h5⟩:=a2W h;have r4:=f7G h;have p4:=e4S h;exact ⟨a0l (by omega) fun x hx=>by have:=h4 x hx;exact ⟨A5 (by omega),A5 (by omega)⟩,
  a0l (by omega) fun x hx=>by have:=h5 x hx;exact ⟨A5 (by omega),A5 (by omega)⟩,A5 (by omega),A5 (by omega)⟩
theorem a3n{e:m4}(h:z4 e=true):E9 e:=by
 cases hn:e.i7 with
 | true=>rw [e6p h hn];exact d0b
 | false=>
  obtain ⟨h1,h2,h3,_⟩:=a3V h hn;exact ⟨⟨A5 (by omega),A5 (by omega)⟩,f2n h3⟩
theorem d1U{l:List m4}(hl:l.length<=1000)(h:∀e∈l,z4 e=true):A2 88 E9 l:=a0l (by omega) fun e he=>a3n (h e he)
def VI(v:m8):Prop:=v=v0\/(1<=v.a8/\v.a8<=3000/\z4 v.g9=true)
theorem e1S{v:m8}:Z7 v=true↔VI v:=by
 unfold Z7 VI;by_cases hb:v.a8=0
 ·simp only [hb,beq_self_eq_true,g0Z,a0Z];constructor
  ·intro h;left;obtain ⟨b,e⟩:=v;simp only at hb h;subst hb h;rfl
  ·rintro (h|h)
   ·rw [h];rfl
   ·omega
 ·have:(v.a8==0)=false:=by simpa using hb
  simp only [this,g00,f8D,H7];constructor
  ·intro h;exact .inr ⟨h.1.1,h.1.2,h.2⟩
  ·rintro (h|h)
   ·rw [h] at hb;exact absurd rfl hb
   ·exact ⟨⟨h.1,h.2.1⟩,h.2.2⟩
theorem VI.ok{v:m8}(h:VI v):T7 v:=by
 rcases h with rfl|⟨h1,h2,h3⟩
 ·exact d1g
 ·exact ⟨A5 (by omega),a3n h3⟩
theorem VI.bal{v:m8}(h:VI v):0<=v.a8/\v.a8<=3000:=by
 rcases h with rfl|⟨h1,h2,h3⟩
 ·exact ⟨by decide,by decide⟩
 ·exact ⟨by omega,h2⟩
theorem VI.zero{v:m8}(h:VI v)(hb:v.a8<=0):v=v0:=by
 rcases h with rfl|⟨h1,_⟩
 ·rfl
 ·omega
theorem VI.pos{v:m8}(h:VI v)(hb:v.a8>0):z4 v.g9=true:=by
 rcases h with rfl|⟨_,_,h⟩
 ·exact absurd hb (by decide)
 ·exact h
theorem a4n{l:List m8}(hl:l.length<=1000)(h:∀v∈l,VI v):A2 96 T7 l:=a0l (by omega) fun v hv=>(h v hv).ok
theorem a7R{l:List m8}:L1 l=true↔l.length<=40/\∀v∈l,VI v:=by
 unfold L1;simp only [f8D,decide_eq_true_eq,f8E,e1S]
structure e6b(id bal pr:Int)(best:List m8):Prop where
 b1:1<=bal
 b2:bal<=3000
 mod:f9c bal 3=id
 pr:bal<=pr
 bl:best.length<=40
 bs:∀v∈best,VI v
abbrev Own(n:j6):Prop:=e6b n.Id n.a8 n.Acc.i0 n.i4
def a0B(n:j6):Prop:=
 (n.d6=0/\n.a8=0/\n.c9=[]/\n.i4=[]/\n.c8=zE/\n.a7=[])\/
 (n.d6=1/\Own n/\n.c9.length=3/\n.c9[n.Id.toNat]?=some true/\n.c8=zE/\n.a7=[])\/
 (n.d6=2/\Own n/\n.c9=[]/\n.c8=zE/\n.a7=[])\/
 (n.d6=3/\Own n/\n.c9=[]/\z4 n.c8=true/\n.a7.length=3/\n.a7[n.Id.toNat]?=some true/\n.a6.length<40)
def c2o(n:j6):Prop:=
 (n.i9=true/\E4 n.i6=true/\z4 n.b8=true/\n.b8.i7=false/\n.b8.a5=⟨n.Id,n.Seq⟩)\/(n.i9=false/\n.i6=[]/\n.b8=zE)
structure NI(n:j6):Prop where
 id:0<=n.Id/\n.Id<=2
 pr:0<=n.Acc.i0/\n.Acc.i0<=3000
 vl:n.Acc.a7.length<=40
 vs:∀v∈n.Acc.a7,VI v/\v.a8<=n.Acc.i0
 kl:n.a6.length<=40
 ks:∀e∈n.a6,z4 e=true
 sq:0<=n.Seq/\n.Seq<=1000
 ql:n.f0.length<=4
 qs:∀e∈n.f0,z4 e=true/\e.i7=false
 ld:a0B n
 wt:c2o n
theorem b2A{α:Type}{l:List α}:((l.length:Int)==0)=true↔l=[]:=by
 rw [beq_iff_eq];constructor
 ·intro h;exact f8N (by omega)
 ·rintro rfl;rfl
theorem f6R{α:Type}{l:List α}:((l.length:Int)=0)↔l=[]:=by rw [<-b2A,beq_iff_eq]
theorem d1y{l:List Bool}{id:Int}(h:0<=id/\id<=2):a4K l id=true↔l.length=3/\l[id.toNat]?=some true:=by
 unfold a4K b7l;have e:idx l id=l[id.toNat]?:=by unfold idx;rw [if_pos h.1]
 rw [e,f8D,beq_iff_eq];constructor
 ·rintro ⟨h1,h2⟩
  refine ⟨by omega,?_⟩;cases hq:l[id.toNat]? with
  | none=>rw [hq] at h2;cases h2
  | some b=>rw [hq] at h2;simp at h2;rw [h2]
 ·rintro ⟨h1,h2⟩
  exact ⟨by omega,by rw [h2];rfl⟩
theorem c4T{n:j6}:a4w n=true↔n.c8=zE/\n.a7=[]:=by
 unfold a4w;rw [f8D,a0Z,b2A]
theorem d2M{n:j6}(hid:0<=n.Id/\n.Id<=2):a0t n=true↔a0B n:=by
 have hown:(a0i n.a8==n.Id)=true/\n.a8<=n.Acc.i0/\L1 n.i4=true↔Own n:=by
  rw [a7R];constructor
  ·rintro ⟨h1,h2,h3⟩
   have hb:=H7.1 (c2V (H7.2 hid) h1);unfold a0i at h1;rw [H7.2 hb] at h1;exact ⟨hb.1,hb.2,by simpa using h1,h2,h3.1,h3.2⟩
  ·intro h;refine ⟨?_,h.pr,h.bl,h.bs⟩;unfold a0i;rw [H7.2 ⟨h.b1,h.b2⟩];simpa using h.mod
 unfold a0t a0B;by_cases p0:n.d6=0
 ·simp only [p0,beq_self_eq_true,g0Z,f8D,c4T,beq_iff_eq,f6R];constructor
  ·rintro ⟨a,b,c,d,e⟩;exact .inl ⟨trivial,a,b,c,d,e⟩
  ·rintro (h|h|h|h)
   ·exact ⟨h.2.1,h.2.2.1,h.2.2.2.1,h.2.2.2.2.1,h.2.2.2.2.2⟩
   all_goals exact absurd h.1 (by omega)
 ·have q0:(n.d6==0)=false:=by simpa using p0
  simp only [q0,g00,f8D,decide_eq_true_eq];rw [<-and_assoc,<-and_assoc,and_assoc (a:=(a0i n.a8==n.Id)=true),hown];by_cases p1:n.d6=1
  ·simp only [p1,beq_self_eq_true,g0Z,f8D,d1y hid,c4T];constructor
   ·rintro ⟨a,⟨b,c⟩,d,e⟩;exact .inr (.inl ⟨trivial,a,b,c,d,e⟩)
   ·rintro (h|h|h|h)
    ·exact absurd h.1 (by omega)
    ·exact ⟨h.2.1,⟨h.2.2.1,h.2.2.2.1⟩,h.2.2.2.2.1,h.2.2.2.2.2⟩
    all_goals exact absurd h.1 (by omega)
  ·have q1:(n.d6==1)=false:=by simpa using p1
   by_cases p2:n.d6=2
   ·have q2:(n.d6==2)=true:=by simpa using p2
    simp only [q1,q2,g0Z,g00,f8D,b2A,c4T];constructor
    ·rintro ⟨a,b,c,d⟩;exact .inr (.inr (.inl ⟨p2,a,b,c,d⟩))
    ·rintro (h|h|h|h)
     ·exact absurd h.1 (by omega)
     ·exact absurd h.1 (by omega)
     ·exact ⟨h.2.1,h.2.2.1,h.2.2.2.1,h.2.2.2.2⟩
     ·exact absurd h.1 (by omega)
   ·have q2:(n.d6==2)=false:=by simpa using p2
    by_cases p3:n.d6=3
    ·have q3:(n.d6==3)=true:=by simpa using p3
     simp only [q1,q2,q3,g0Z,g00,f8D,b2A,d1y hid,decide_eq_true_eq];constructor
     ·rintro ⟨a,b,c,⟨d,e⟩,f⟩;exact .inr (.inr (.inr ⟨p3,a,b,c,d,e,by omega⟩))
     ·rintro (h|h|h|h)
      ·exact absurd h.1 (by omega)
      ·exact absurd h.1 (by omega)
      ·exact absurd h.1 (by omega)
      ·exact ⟨h.2.1,h.2.2.1,h.2.2.2.1,⟨h.2.2.2.2.1,h.2.2.2.2.2.1⟩,by omega⟩
    ·have q3:(n.d6==3)=false:=by simpa using p3
     simp only [q1,q2,q3,g00,f9W,and_false,false_iff];rintro (h|h|h|h)<;>omega
theorem b1B{a b:n5}:(([a.b9,a.Seq]:List Int)==[b.b9,b.Seq])=true↔a=b:=by
 obtain ⟨a1,a2⟩:=a;obtain ⟨b1,b2⟩:=b;simp
theorem c9a{n:j6}:a3U n=true↔c2o n:=by
 unfold a3U c2o;cases n.i9
 ·simp only [g00,f8D,b2A,a0Z,f9W,false_and,false_or,true_and]
 ·simp only [g0Z,f8D,f9h,Bool.true_eq_false,false_and,or_false,true_and];rw [show (([n.b8.a5.b9,n.b8.a5.Seq]:List Int)==[n.Id,n.Seq])=true↔n.b8.a5=⟨n.Id,n.Seq⟩ from b1B (b:=⟨n.Id,n.Seq⟩)]
theorem a1t{n:j6}:D7 n=true↔NI n:=by
 unfold D7 O2 G4 c0C;simp only [f8D,H7,a7R,f8E,decide_eq_true_eq,f9h,decide_eq_false_iff_not];constructor
 ·rintro ⟨h1,⟨h2,h3,h4⟩,⟨h5,h6⟩,h7,h8,h9,h10,h11⟩
  exact ⟨h1,h2,h3.1,fun v hv=>⟨h3.2 v hv,by have:=h4 v hv;omega⟩,h5,h6,h7,by omega,h11,(d2M h1).1 h9,c9a.1 h10⟩
 ·intro h;exact ⟨h.id,⟨h.pr,⟨h.vl,fun v hv=>(h.vs v hv).1⟩,fun v hv=>by have:=(h.vs v hv).2;omega⟩,⟨h.kl,h.ks⟩,h.sq,by have:=h.ql;omega,(d2M h.id).2 h.ld,c9a.2 h.wt,h.qs⟩
theorem f6B{i:n8}(h:P8 i=true):b2H i:=by
 unfold P8 at h;by_cases k1:i.a9=1
 ·simp [k1,p9] at h;exact ⟨A5 (by omega),A5 (by omega),A5 (by omega),A5 (by omega)⟩
 by_cases k2:i.a9=2
 ·simp [k2,p9] at h;exact ⟨A5 (by omega),A5 (by omega),A5 (by omega),A5 (by omega)⟩
 by_cases k3:i.a9=3
 ·simp [k3,p9] at h;exact ⟨A5 (by omega),A5 (by omega),A5 (by omega),A5 (by omega)⟩
 by_cases k4:i.a9=4
 ·simp [k4,p9] at h;exact ⟨A5 (by omega),A5 (by omega),A5 (by omega),A5 (by omega)⟩
 by_cases k5:i.a9=5
 ·simp [k5,p9] at h;exact ⟨A5 (by omega),A5 (by omega),A5 (by omega),A5 (by omega)⟩
 by_cases k6:i.a9=6
 ·simp [k6,p9] at h;exact ⟨A5 (by omega),A5 (by omega),A5 (by omega),A5 (by omega)⟩
 by_cases k7:i.a9=7
 ·simp [k7] at h;exact ⟨A5 (by omega),A5 (by omega),A5 (by omega),A5 (by omega)⟩
 ·simp [k1,k2,k3,k4,k5,k6,k7] at h
theorem d7V{l:List n8}(h:E4 l=true):A2 32 b2H l:=by
 obtain ⟨h1,h2⟩:=c2b h;exact a0l (by omega) fun i hi=>f6B (h2 i hi)
theorem a0B.phase{n:j6}(h:a0B n):0<=n.d6/\n.d6<=3:=by
 rcases h with h|h|h|h<;>omega
theorem a0B.bal{n:j6}(h:a0B n):0<=n.a8/\n.a8<=3000:=by
 rcases h with h|h|h|h
 ·omega
 all_goals exact ⟨by have:=h.2.1.b1;omega,h.2.1.b2⟩
theorem a0B.best{n:j6}(h:a0B n):n.i4.length<=40/\∀v∈n.i4,VI v:=by
 rcases h with h|h|h|h
 ·rw [h.2.2.2.1];exact ⟨by simp,by simp⟩
 all_goals exact ⟨h.2.1.bl,h.2.1.bs⟩
theorem a0B.from3{n:j6}(h:a0B n):n.c9.length<=3/\n.a7.length<=3/\E9 n.c8:=by
 rcases h with h|h|h|h
 ·rw [h.2.2.1,h.2.2.2.2.2,h.2.2.2.2.1];exact ⟨by simp,by simp,a1u⟩
 ·rw [h.2.2.2.2.2,h.2.2.2.2.1];exact ⟨by omega,by simp,a1u⟩
 ·rw [h.2.2.1,h.2.2.2.1,h.2.2.2.2];exact ⟨by simp,by simp,a1u⟩
 ·rw [h.2.2.1];exact ⟨by simp,by omega,a3n h.2.2.2.1⟩
theorem NI.ok{n:j6}(h:NI n):O6 n:=by
 have hf:=h.ld.from3;have hb:=h.ld.best;have hw:E9 n.b8/\A2 32 b2H n.i6:=by
  rcases h.wt with q|q
  ·exact ⟨a3n q.2.2.1,d7V q.2.1⟩
  ·rw [q.2.1,q.2.2];exact ⟨a1u,U2⟩
 have hph:=h.ld.phase;have hbl:=h.ld.bal;have h1:=h.id;have h2:=h.pr;have h3:=h.sq;have h4:=h.vl;have h5:=h.kl;have h6:=h.ql;exact ⟨A5 (by omega),⟨A5 (by omega),a4n (by omega) fun v hv=>(h.vs v hv).1⟩,d1U (by omega) h.ks,A5 (by omega),A5 (by omega),A5 (by omega),
  a0l (by omega) (fun _ _=>trivial),a4n (by omega) hb.2,hf.2.2,a0l (by omega) (fun _ _=>trivial),hw.2,hw.1,d1U (by omega) fun e he=>(h.qs e he).1⟩
theorem NI.list{n:j6}(h:NI n):G4 n.a6=true:=by
 unfold G4;simp only [f8D,decide_eq_true_eq,f8E];exact ⟨h.kl,h.ks⟩
def V4(m:l8):Prop:=
 ((m.a9=1\/m.a9=4)/\(1<=m.a8/\m.a8<=3000)/\m.g9=zE/\m.a7=[])\/
 (m.a9=2/\(1<=m.a8/\m.a8<=3000)/\m.g9=zE/\(m.a7.length<=40/\∀v∈m.a7,VI v)/\m.g8+m.a7.length<=40)\/
 (m.a9=3/\(1<=m.a8/\m.a8<=3000)/\m.g8<40/\z4 m.g9=true/\m.a7=[])\/
 (m.a9=5/\m.a8=0/\m.g8<40/\z4 m.g9=true/\m.a7=[])\/
 (m.a9=6/\(1<=m.a8/\m.a8<=3000)/\m.g8=0/\m.g9=zE/\m.a7=[])\/
 (m.a9=7/\m.a8=0/\m.g8=0/\z4 m.g9=true/\m.g9.i7=false/\m.a7=[])\/
 (m.a9=8/\m.a8=0/\m.g9=zE/\m.a7=[])
structure MI(m:l8):Prop where
 fr:0<=m.c9/\m.c9<=2
 to:0<=m.To/\m.To<=2
 ne:m.c9≠m.To
 sl:0<=m.g8/\m.g8<=40
 kd:V4 m
theorem d2v{m:l8}:Q7 m=true↔MI m:=by
 have hk:(0<=m.g8/\m.g8<=40)->(a7q m=true↔V4 m):=by
  intro hs;have hw:L1 m.a7=true->m7 (m.g8+(m.a7.length:Int))=m.g8+(m.a7.length:Int):=by
   intro hv;have:=(a7R.1 hv).1;exact C4 (by omega) (by omega)
  unfold a7q V4;simp only [Bool.cond_eq_ite];by_cases k1:m.a9=1
  ·simp [k1,H7,a0Z]
  by_cases k4:m.a9=4
  ·simp [k4,H7,a0Z]
  by_cases k2:m.a9=2
  ·simp only [k2,H7,a0Z,beq_self_eq_true,if_true,f8D,decide_eq_true_eq];simp only [show ((2:Int)==1)=false from rfl,show ((2:Int)==4)=false from rfl,f9W,if_false,f8D,H7,a0Z,decide_eq_true_eq];constructor
   ·rintro ⟨a,b,c,d⟩
    rw [hw c] at d;exact .inr (.inl ⟨trivial,a,b,a7R.1 c,d⟩)
   ·rintro (h|h|h|h|h|h|h)
    ·omega
    ·have c:=a7R.2 h.2.2.2.1;exact ⟨h.2.1,h.2.2.1,c,by rw [hw c];exact h.2.2.2.2⟩
    all_goals exact absurd h.1 (by omega)
  by_cases k3:m.a9=3
  ·simp [k3,H7]
  by_cases k5:m.a9=5
  ·simp [k5]
  by_cases k6:m.a9=6
  ·simp [k6,H7,a0Z]
  by_cases k7:m.a9=7
  ·simp [k7]
  by_cases k8:m.a9=8
  ·simp [k8,a0Z]
  ·simp [k1,k2,k3,k4,k5,k6,k7,k8]
 unfold Q7;simp only [f8D,H7,f9h,beq_eq_false_iff_ne];constructor
 ·rintro ⟨a,b,c,d,e⟩;exact ⟨a,b,c,d,(hk d).1 e⟩
 ·intro h;exact ⟨h.fr,h.to,h.ne,h.sl,(hk h.sl).2 h.kd⟩
theorem MI.ok{m:l8}(h:MI m):a0x m:=by
 have hf:=h.fr;have ht:=h.to;have hs:=h.sl;have hk:H3 m.a9/\H3 m.a8/\E9 m.g9/\A2 96 T7 m.a7:=by
  rcases h.kd with q|q|q|q|q|q|q
  ·rw [q.2.2.1,q.2.2.2];exact ⟨A5 (by omega),A5 (by omega),a1u,U2⟩
  ·rw [q.2.2.1];exact ⟨A5 (by omega),A5 (by omega),a1u,a4n (by omega) q.2.2.2.1.2⟩
  ·rw [q.2.2.2.2];exact ⟨A5 (by omega),A5 (by omega),a3n q.2.2.2.1,U2⟩
  ·rw [q.2.2.2.2];exact ⟨A5 (by omega),A5 (by omega),a3n q.2.2.2.1,U2⟩
  ·rw [q.2.2.2.2,q.2.2.2.1];exact ⟨A5 (by omega),A5 (by omega),a1u,U2⟩
  ·rw [q.2.2.2.2.2];exact ⟨A5 (by omega),A5 (by omega),a3n q.2.2.2.1,U2⟩
  ·rw [q.2.2.1,q.2.2.2];exact ⟨A5 (by omega),A5 (by omega),a1u,U2⟩
 exact ⟨hk.1,A5 (by omega),A5 (by omega),hk.2.1,A5 (by omega),hk.2.2.1,hk.2.2.2⟩
structure WI(w:m5):Prop where
 nl:w.a0.length=3
 ns:∀(i:Nat) (n:j6),w.a0[i]?=some n->n.Id=(i:Int)/\NI n
 ml:w.d7.length<=40
 ms:∀m∈w.d7,MI m
 al:w.d8.length<=60
 aq:∀a∈w.d8,Z9 a=true
 tl:w.Told.length<=60
 ts:∀t∈w.Told,T3 t=true
theorem Y6{w:m5}:A0 w=true↔WI w:=by
 unfold A0;simp only [f8D,beq_iff_eq,decide_eq_true_eq,f8E,f9B,d2v];constructor
 ·rintro ⟨h1,h2,h3,h4,h5,h6,h7,h8⟩
  refine ⟨by omega,?_,by omega,h6,by omega,h7,by omega,h8⟩;intro i n hn;have hi:=(f8G.1 hn).1;have:=h5 i hi;unfold a39 at this;rw [hn] at this;simp only [f8D,beq_iff_eq,a1t] at this;exact this
 ·intro h;have h2:=h.ml;have h3:=h.al;have h4:=h.tl;refine ⟨by have:=h.nl;omega,by omega,by omega,by omega,?_,h.ms,h.aq,h.ts⟩;intro i hi;unfold a39;rw [f8z hi];simp only [f8D,beq_iff_eq,a1t];exact h.ns i _ (f8z hi)
theorem f3l{a:x8}(h:Z9 a=true):d4B a:=by
 unfold Z9 at h;simp only [f8D,H7] at h;exact ⟨⟨A5 (by omega),A5 (by omega)⟩,d7V h.2⟩
theorem d9o{t:n6}(h:T3 t=true):c9n t:=by
 unfold T3 at h;simp only [f8D,H7] at h;exact ⟨A5 (by omega),⟨A5 (by omega),A5 (by omega)⟩,A5 (by omega),A5 (by omega)⟩
theorem WI.ok{w:m5}(h:WI w):L3 w:=by
 have h1:=h.nl;have h2:=h.ml;have h3:=h.al;have h4:=h.tl;refine ⟨a0l (by omega) ?_,a0l (by omega) fun m hm=>(h.ms m hm).ok,a0l (by omega) fun a ha=>f3l (h.aq a ha),a0l (by omega) fun t ht=>d9o (h.ts t ht)⟩;intro n hn;obtain ⟨i,hi⟩:=g0q hn;exact (h.ns i n hi).2.ok
theorem b9e(m o:l8):a5w m o=some [M4 m o]:=rfl
theorem d7L(n:j6)(b:Int):b4y n b=some (N9 n b):=by
 unfold b4y N9;cases n.d6 != 0
 ·rfl
 ·simp only [g0Z,f8K];cases decide (b>n.a8)<;>rfl
theorem e5J(n:j6)(b:Int):b2g n b=some (N9 n b):=by
 unfold b2g N9;cases n.d6 != 0
 ·rfl
 ·simp only [g0Z,f8K];cases decide (b>n.a8)<;>rfl
theorem d4O(n:j6)(b:Int):(N9 n b).Acc=n.Acc:=by
 unfold N9;cases n.d6 != 0&&decide (b>n.a8)<;>rfl
theorem a4q{a x:z0}{b:Int}(h:I6 a b=some x):x=⟨b,a.a7⟩/\1<=b/\b<=3000/\a.i0<=b:=by
 unfold I6 b1q at h;cases hq:p9 b 1 3000&&decide (a.i0<=b)
 ·rw [hq] at h;cases h
 ·rw [hq] at h;simp only [f8D,H7,decide_eq_true_eq] at hq;injection h with h;exact ⟨h.symm,hq.1.1,hq.1.2,hq.2⟩
theorem c28{α:Type}(l:List α)(k:Nat):(l.drop k).take (l.length-k)=l.drop k:=by
 rw [f9r];simp
theorem e9D{n:j6}(h:O6 n){m:l8}(hs:0<=m.g8):b6X n m=some (a2g n m):=by
 unfold b6X a2g;rw [c3v,b6f];cases hp:I6 n.Acc m.a8 with
 | none=>rfl
 | some a=>
  obtain ⟨rfl,_⟩:=a4q hp;simp only [a5e,f8y,f8F,g00,e5J];have ha:=d4O {n with Acc:=⟨m.a8,n.Acc.a7⟩} m.a8;have hy:∀y:j6,y.Acc=⟨m.a8,n.Acc.a7⟩->(j6.mk y.Id (z0.mk y.Acc.i0 n.Acc.a7) y.a6 y.Seq y.d6 y.a8 y.c9 y.i4 y.c8 y.a7 y.i9 y.i6 y.b8 y.f0)=y:=by
   intro y hy;obtain ⟨y1,y2,y3,y4,y5,y6,y7,y8,y9,y10,y11,y12,y13,y14⟩:=y;simp only at hy;subst hy;rfl
  rw [hy _ ha];obtain ⟨k,hk⟩:∃k:Nat,m.g8=(k:Int):=⟨m.g8.toNat,by omega⟩
  rw [hk,f9b,c28];cases hd:decide ((k:Int)<(n.Acc.a7.length:Int))
  ·simp only [g00,b9e,f8y];rw [f9d (by simp at hd;omega)]
  ·simp only [g0Z];rw [v5 (by simp at hd;omega),e0J (d9W h.2.1.2 (by simp) fun x hx=>f9E hx),f8y,b9e,f8y]
theorem f1Y{n:j6}{m:l8}(hm:a0x m):b9q n m=some (a1I n m):=by
 have he:E9 m.g9:=hm.2.2.2.2.2.1;unfold b9q a1I;rw [d1v he,d2s he];cases L2 n.Acc m.a8 m.g8 m.g9 with
 | none=>rfl
 | some a=>simp only [a5e,f8y,f8F,g00,d7L,b9e]
theorem b9Y{l:List Bool}(h:l.length<=3):s8 l:=by unfold s8;omega
theorem e69{n:j6}(h:NI n){m:l8}(hm:MI m)(hk:m.a9=2):b8h n m=some (a1A n m):=by
 have hkd:(m.a7.length<=40/\∀v∈m.a7,VI v)/\m.g8+m.a7.length<=40:=by
  rcases hm.kd with q|q|q|q|q|q|q
  ·omega
  ·exact ⟨q.2.2.2.1,q.2.2.2.2⟩
  all_goals exact absurd q.1 (by omega)
 have hs:=hm.sl;have hf:=hm.fr;unfold b8h a1A;by_cases p1:n.d6=1
 ·rw [show (n.d6 != 1)=false by simp [p1],f9n];simp only [g00];cases hb:m.a8 != n.a8
  ·simp only [g00];have hl:n.c9.length=3/\Own n:=by
    rcases h.ld with q|q|q|q
    ·omega
    ·exact ⟨q.2.2.1,q.2.1⟩
    all_goals exact absurd q.1 (by omega)
   obtain ⟨f,hff⟩:∃f:Nat,m.c9=(f:Int):=⟨m.c9.toNat,by omega⟩
   have hvo:A2 96 T7 (f8A m.g8.toNat v0++m.a7):=a4n (by simp;omega) (by
    intro v hv;rcases f8B.1 hv with q|q
    ·rw [(f9v.1 q).2];exact .inl rfl
    ·exact hkd.1.2 v q)
   have hz:∀v∈f8A m.g8.toNat v0++m.a7,v.a8<=0->v=v0:=by
    intro v hv hb;rcases f8B.1 hv with q|q
    ·exact (f9v.1 q).2
    ·exact (hkd.1.2 v q).zero hb
   rw [hff,t0 (show f<n.c9.length by omega),f8y,f1N (a4n (by omega) hkd.1.2) hkd.1.1 hs,f8y,f2E (a4n (by have:=hl.2.bl;omega) hl.2.bs) hvo (by have:=hl.2.bl;omega) (by simp;omega) hz,f8y,d4F (b9Y (by simp;omega)),f8y];cases htw:N7 (n.c9.set (f:Int).toNat true)
   ·simp only [f9j,g0Z,g00]
   ·simp only [f8F,g00,g0Z];have hbl:=a71 n.i4 (f8A m.g8.toNat v0++m.a7);have hob:=hl.2.bl;have hlen:(f8A m.g8.toNat v0++m.a7).length<=40:=by simp;omega
    obtain ⟨h1,h2,h3,h4,h5,h6,h7,h8,h9,h10,h11,h12,h13⟩:=h.ok;rw [b5h (n:=⟨n.Id,n.Acc,n.a6,n.Seq,2,n.a8,[],E0 n.i4 (f8A m.g8.toNat v0++m.a7),n.c8,n.a7,n.i9,n.i6,n.b8,n.f0⟩) ⟨h1,h2,h3,h4,A5 (n:=2) (by omega),h6,U2,a4n (by show (E0 n.i4 (f8A m.g8.toNat v0++m.a7)).length<=1000;omega) (fun v hv=>(b1c hv).elim (fun q=>hl.2.bs v q) (fun q=>(f8B.1 q).elim (fun q=>by rw [(f9v.1 q).2];exact .inl rfl) (hkd.1.2 v))),h9,h10,h11,h12,h13⟩ h.id,f8y]
  ·rfl
 ·rw [show (n.d6 != 1)=true by simpa using p1];rfl
theorem a06(id:Int)(m:l8):(I8 id m).length<=3:=by
 unfold I8;rw [f9u];exact List.length_filter_le _ _
theorem a8b(n:j6):(M1 n).2.length<=3:=by
 unfold M1 a7k;cases n.d6 != 2||decide (40<=n.a6.length)
 ·simp only [g00];cases a02 n with
  | mk x o=>
   cases o with
   | none=>simp
   | some e=>
    simp only;cases L2 x.Acc x.a8 (x.a6.length:Int) e with
    | none=>simp
    | some a=>exact a06 _ _
 ·simp
theorem e7e{n:j6}(h:NI n){m:l8}(hm:MI m):b5u n m=some (a2M n m):=by
 have hf:=hm.fr;unfold b5u a2M;by_cases p3:n.d6=3
 ·rw [show (n.d6 != 3)=false by simp [p3],f9n];simp only [g00];cases hb:m.a8 != n.a8
  ·simp only [g00,f9n];cases hs:m.g8 != (n.a6.length:Int)
   ·simp only [g00];have hl:n.a7.length=3/\z4 n.c8=true/\n.a6.length<40:=by
     rcases h.ld with q|q|q|q
     ·omega
     ·omega
     ·omega
     ·exact ⟨q.2.2.2.2.1,q.2.2.2.1,q.2.2.2.2.2.2⟩
    obtain ⟨f,hff⟩:∃f:Nat,m.c9=(f:Int):=⟨m.c9.toNat,by omega⟩
    have hcur:=a3n hl.2.1;rw [hff,t0 (show f<n.a7.length by omega),f8y,d4F (b9Y (by simp;omega)),f8y];cases htw:N7 (n.a7.set (f:Int).toNat true)
    ·simp only [f9j,g0Z,g00]
    ·simp only [f8F,g00,g0Z];obtain ⟨h1,h2,h3,h4,h5,h6,h7,h8,h9,h10,h11,h12,h13⟩:=h.ok;rw [a0D hcur,f8y,a6J h.id (a7I (A5 (by omega)) a0q (A5 (by omega)) hcur U2),f8y,
      d3R (n:={n with a7:=n.a7.set (f:Int).toNat true}) ⟨h1,h2,h3,h4,h5,h6,h7,h8,h9,a0l (by simp;omega) (fun _ _=>trivial),h11,h12,h13⟩ h.id h.list hl.2.2 hcur hl.2.1,f8y,v5]
     have e1:=a06 n.Id ⟨5,0,0,0,(n.a6.length:Int),n.c8,[]⟩;have e2:=a8b (U7 (E3 {n with a7:=n.a7.set (f:Int).toNat true} n.c8)).1;have e3:(Y5 {n with a7:=n.a7.set (f:Int).toNat true} n.c8).2.1.length<=3:=e2;omega
   ·rfl
  ·rfl
 ·rw [show (n.d6 != 3)=true by simpa using p3];rfl
theorem f5Z{n:j6}(h:NI n){m:l8}(hm:MI m)(hk:m.a9=5):b6P n m=some (a2I n m):=by
 have hkd:m.g8<40/\z4 m.g9=true:=by
  rcases hm.kd with q|q|q|q|q|q|q
  ·omega
  ·omega
  ·omega
  ·exact ⟨q.2.2.1,q.2.2.2.1⟩
  all_goals exact absurd q.1 (by omega)
 unfold b6P a2I;cases h1:decide (m.g8<(n.a6.length:Int))
 ·cases h2:decide (m.g8>(n.a6.length:Int))
  ·simp only [g00];have hl:n.a6.length<40:=by simp at h1 h2;omega
   rw [d3R h.ok h.id h.list hl (a3n hkd.2) hkd.2,f8y]
  ·rfl
 ·rfl
theorem e4C{n:j6}(h:NI n){m:l8}(hm:MI m):b5D n m=some (a1H n m):=by
 have he:E9 m.g9:=hm.ok.2.2.2.2.2.1;have hql:=h.ql;unfold b5D a1H;rw [show decide ((n.f0.length:Int)>=4)=decide (4<=n.f0.length) by simp;omega,b5G (h.ok.2.2.1.fits (by decide)),a0D he];cases n.d6==0
 ·simp only [g00,f9n];cases decide (4<=n.f0.length)
  ·simp only [g00,f9n,f8y];cases N6 n.a6 m.g9.a5
   ·obtain ⟨h1,h2,h3,h4,h5,h6,h7,h8,h9,h10,h11,h12,h13⟩:=h.ok;simp only [g00];rw [v5 (by omega),b5h (n:={n with f0:=n.f0++[m.g9]}) ⟨h1,h2,h3,h4,h5,h6,h7,h8,h9,h10,h11,h12,a0l (by simp;omega) (by
     intro x hx;rcases f8B.1 hx with q|q
     ·exact h13.2 x q
     ·rw [f8H.1 q];exact he)⟩ h.id,f8y]
   ·rfl
  ·rfl
 ·rfl
theorem b8q{n:j6}(m:l8){k:Nat}(hk:k<n.a6.length):a1l n m k=[M4 m ⟨5,0,0,0,(k:Int),n.a6[k],[]⟩]:=by
 unfold a1l;rw [f8z hk]
theorem d3G{n:j6}(h:NI n)(m:l8):∀(d k:Nat) (o:List l8),n.a6.length-k=d->o.length<=k->o8 (fun s:(List l8)×Int=>a5X n m s.1 s.2) (o,(k:Int))=some (.brk (o++((f8I d).map fun j=>a1l n m (k+j)).flatten))
 | 0,k,o,hd,ho=>by
  have hkl:=h.kl;refine (C8 (b:=o) ?_).trans (by simp);show a5X n m o (k:Int)=_
  unfold a5X;rw [show decide ((k:Int)<(n.a6.length:Int))=false by simp;omega];rfl
 | d+1,k,o,hd,ho=>by
  have hkl:=h.kl;have hlt:k<n.a6.length:=by omega
  have hb:a5X n m o (k:Int)=some (.nxt (o++a1l n m k,((k+1:Nat):Int))):=by
   unfold a5X;rw [w6 _ k hlt,t0 hlt,g0Z,f8y,a0D (a3n (h.ks _ (f8C hlt))),f8y,b9e,f8y,v5 (by simp;omega),b8q m hlt,E6 (h.ok.2.2.1.fits (by decide)) hlt]
  rw [E7 (body:=fun s:(List l8)×Int=>a5X n m s.1 s.2) (s:=(o,(k:Int))) hb,d3G h m d (k+1) _ (by omega) (by rw [b8q m hlt];simp;omega)];rw [List.range_succ_eq_map,f9l,f9f,f8U,g0H];simp only [g0l,Function.comp_def,Nat.succ_eq_add_one,Nat.add_assoc,Nat.add_comm 1]
theorem f1t{n:j6}(h:NI n){m:l8}(hs:0<=m.g8):b6Q n m=some (a4j n m,n):=by
 unfold b6Q a4j;obtain ⟨k,hk⟩:∃k:Nat,m.g8=(k:Int):=⟨m.g8.toNat,by omega⟩
 rw [hk];have:=d3G h m (n.a6.length-k) k [] rfl (by simp);rw [this];rfl
theorem e68{n:j6}(h:NI n){m:l8}(hm:MI m):b9N n m=some (W7 n m):=by
 unfold b9N W7;rw [e9D h.ok hm.sl.1,f1Y hm.ok,e7e h hm,e4C h hm,f1t h hm.sl.1,b6f];by_cases k1:m.a9=1
 ·simp [k1];rfl
 rw [show (m.a9==1)=false by simpa using k1];by_cases k2:m.a9=2
 ·rw [e69 h hm k2];simp [k2];rfl
 rw [show (m.a9==2)=false by simpa using k2];by_cases k3:m.a9=3
 ·simp [k3];rfl
 rw [show (m.a9==3)=false by simpa using k3];by_cases k4:m.a9=4
 ·simp [k4];rfl
 rw [show (m.a9==4)=false by simpa using k4];by_cases k5:m.a9=5
 ·rw [f5Z h hm k5];simp [k5];rfl
 rw [show (m.a9==5)=false by simpa using k5];by_cases k6:m.a9=6
 ·rw [show (m.a9==6)=true by simpa using k6];simp only [g0Z,g00,f8y];cases I6 n.Acc m.a8<;>simp only [d7L,f8y,Option.getD_none,f9P]<;>rfl
 rw [show (m.a9==6)=false by simpa using k6];by_cases k7:m.a9=7
 ·simp [k7];rfl
 rw [show (m.a9==7)=false by simpa using k7];cases m.a9==8
 ·rfl
 ·simp only [g0Z,g00,f8y];rw [v5 trivial,v5 trivial,v5 trivial,v5 trivial,v5 trivial];rfl
theorem b6O{a x:z0}{b s:Int}{e:m4}(h:L2 a b s e=some x):∃k:Nat,s=(k:Int)/\k<40/\z4 e=true/\1<=b/\b<=3000/\a.i0<=b/\x=⟨b,(U1 a.a7 (k+1)).set k ⟨b,e⟩⟩:=by
 unfold L2 at h;cases hq:p9 s 0 39&&z4 e
 ·rw [hq] at h;cases h
 ·rw [hq,g0Z] at h;simp only [f8D,H7] at hq;cases hp:I6 a b with
  | none=>rw [hp] at h;cases h
  | some y=>
   rw [hp] at h;obtain ⟨rfl,h1,h2,h3⟩:=a4q hp;injection h with h;refine ⟨s.toNat,by omega,by omega,hq.2,h1,h2,h3,h.symm⟩
theorem b89{a:z0}{b:Int}(h1:1<=b)(h2:b<=3000)(h3:a.i0<=b):I6 a b=some ⟨b,a.a7⟩:=by
 unfold I6 b1q;rw [H7.2 ⟨h1,h2⟩,show decide (a.i0<=b)=true by simpa using h3];rfl
theorem e0s{a:z0}{b:Int}{k:Nat}{e:m4}(hk:k<40)(he:z4 e=true)(h1:1<=b)(h2:b<=3000)(h3:a.i0<=b):L2 a b (k:Int) e=some ⟨b,(U1 a.a7 (k+1)).set k ⟨b,e⟩⟩:=by
 unfold L2;rw [H7.2 (show 0<=(k:Int)/\(k:Int)<=39 by omega),he,b89 h1 h2 h3];rfl
theorem c5v{vs:List m8}{n:Nat}{v:m8}(h:v∈U1 vs n):v∈vs\/v=v0:=by
 rcases f8B.1 h with q|q
 ·exact .inl q
 ·exact .inr (f9v.1 q).2
theorem d2l{α:Type}{l:List α}{k:Nat}{x v:α}(h:v∈l.set k x):v∈l\/v=x:=f9k h
theorem NI.queue{n:j6}(h:NI n){q:List m4}(hl:q.length<=4)(hm:∀e∈q,z4 e=true/\e.i7=false):NI {n with f0:=q}:=
 ⟨h.id,h.pr,h.vl,h.vs,h.kl,h.ks,h.sq,hl,hm,h.ld,h.wt⟩
theorem NI.down{n:j6}(h:NI n):NI (a4s n):=
 ⟨h.id,h.pr,h.vl,h.vs,h.kl,h.ks,h.sq,h.ql,h.qs,.inl ⟨rfl,rfl,rfl,rfl,rfl,rfl⟩,h.wt⟩
theorem NI.freeN{n:j6}(h:NI n):NI (a58 n):=
 ⟨h.id,h.pr,h.vl,h.vs,h.kl,h.ks,h.sq,h.ql,h.qs,h.ld,.inr ⟨rfl,rfl,rfl⟩⟩
theorem NI.acc{n:j6}(h:NI n){a:z0}(h1:0<=a.i0/\a.i0<=3000)(h2:a.a7.length<=40)(h3:∀v∈a.a7,VI v/\v.a8<=a.i0)(h4:n.Acc.i0<=a.i0):NI {n with Acc:=a}:=by
 have ho:Own n->Own {n with Acc:=a}:=fun o=>⟨o.b1,o.b2,o.mod,f9z o.pr h4,o.bl,o.bs⟩
 refine ⟨h.id,h1,h2,h3,h.kl,h.ks,h.sq,h.ql,h.qs,?_,h.wt⟩;rcases h.ld with q|q|q|q
 ·exact .inl q
 ·exact .inr (.inl ⟨q.1,ho q.2.1,q.2.2⟩)
 ·exact .inr (.inr (.inl ⟨q.1,ho q.2.1,q.2.2⟩))
 ·exact .inr (.inr (.inr ⟨q.1,ho q.2.1,q.2.2⟩))
theorem NI.promise{n:j6}(h:NI n){b:Int}{x:z0}(hp:I6 n.Acc b=some x):NI {n with Acc:=x}:=by
 obtain ⟨rfl,h1,h2,h3⟩:=a4q hp;exact h.acc ⟨by simp only;omega,h2⟩ h.vl (fun v hv=>⟨(h.vs v hv).1,f9z (h.vs v hv).2 h3⟩) h3
theorem f1p{vs:List m8}{p b:Int}{k:Nat}{e:m4}(hk:k<40)(hl:vs.length<=40)(hv:∀v∈vs,VI v/\v.a8<=p)(he:z4 e=true)(h1:1<=b)(h2:b<=3000)(h3:p<=b) :
  ((U1 vs (k+1)).set k ⟨b,e⟩).length<=40/\∀v∈(U1 vs (k+1)).set k ⟨b,e⟩,VI v/\v.a8<=b:=by
 refine ⟨by rw [f9Z,b51];omega,fun v hm => ?_⟩;rcases d2l hm with q|q
 ·rcases c5v q with q|q
  ·exact ⟨(hv v q).1,f9z (hv v q).2 h3⟩
  ·rw [q];exact ⟨.inl rfl,by show (0:Int)<=b;omega⟩
 ·rw [q];exact ⟨.inr ⟨h1,h2,he⟩,f8Z _⟩
theorem NI.cast{n:j6}(h:NI n){b s:Int}{e:m4}{x:z0}(hc:L2 n.Acc b s e=some x):NI {n with Acc:=x}:=by
 obtain ⟨k,rfl,hk,he,h1,h2,h3,rfl⟩:=b6O hc;obtain ⟨a,b'⟩:=f1p hk h.vl h.vs he h1 h2 h3;exact h.acc ⟨by simp only;omega,h2⟩ a b' h3
theorem NI.yield{n:j6}(h:NI n)(b:Int):NI (N9 n b):=by
 unfold N9;cases n.d6 != 0&&decide (b>n.a8)
 ·exact h
 ·exact h.down
theorem c1g{id:Int}(h:0<=id/\id<=2):(a1y id).length=3/\(a1y id)[id.toNat]?=some true:=by
 unfold a1y;refine ⟨by simp,?_⟩;rw [f9Q (by simp;omega)]
theorem a2n.right{n:j6}(h:NI n){e:m4}(hn:a2n n e):z4 e=true:=by
 cases hn with
 | best v hv hb=>exact (h.ld.best.2 v (f8O hv)).pos hb
 | gap=>rfl
 | want hb=>
  rcases h.wt with q|q
  ·exact q.2.2.1
  ·rw [hb] at q;cases q.1
 | queue e hq=>exact (h.qs e hq).1
theorem a4r{id:Int}{m x:l8}(hid:0<=id/\id<=2)(h:x∈I8 id m):∃t:Int,0<=t/\t<=2/\t≠id/\x={m with c9:=id,To:=t}:=by
 unfold I8 at h;obtain ⟨t,ht,rfl⟩:=f9i.1 h;obtain ⟨h1,h2⟩:=f9H.1 ht;refine ⟨t,?_,?_,by simpa using h2,rfl⟩;all_goals simp at h1;omega
theorem a55{id:Int}{m:l8}(hid:0<=id/\id<=2)(hk:V4 m)(hs:0<=m.g8/\m.g8<=40):∀x∈I8 id m,MI x:=by
 intro x hx;obtain ⟨t,h1,h2,h3,rfl⟩:=a4r hid hx;exact ⟨hid,⟨h1,h2⟩,fun q=>h3 q.symm,hs,hk⟩
theorem a9A{m o:l8}(hm:MI m)(hk:V4 o)(hs:0<=o.g8/\o.g8<=40):MI (M4 m o):=⟨hm.to,hm.fr,fun q=>hm.ne q.symm,hs,hk⟩
theorem V4.one{k b s:Int}(hk:k=1\/k=4)(hb:1<=b/\b<=3000):V4 ⟨k,0,0,b,s,zE,[]⟩:=.inl ⟨hk,hb,rfl,rfl⟩
theorem V4.accept{b s:Int}{e:m4}(hb:1<=b/\b<=3000)(hs:s<40)(he:z4 e=true):V4 ⟨3,0,0,b,s,e,[]⟩:=.inr (.inr (.inl ⟨rfl,hb,hs,he,rfl⟩))
theorem V4.chosen{s:Int}{e:m4}(hs:s<40)(he:z4 e=true):V4 ⟨5,0,0,0,s,e,[]⟩:=.inr (.inr (.inr (.inl ⟨rfl,rfl,hs,he,rfl⟩)))
theorem V4.refuse{b:Int}(hb:1<=b/\b<=3000):V4 ⟨6,0,0,b,0,zE,[]⟩:=.inr (.inr (.inr (.inr (.inl ⟨rfl,hb,rfl,rfl,rfl⟩))))
theorem V4.ask{e:m4}(he:z4 e=true)(hn:e.i7=false):V4 ⟨7,0,0,0,0,e,[]⟩:=.inr (.inr (.inr (.inr (.inr (.inl ⟨rfl,rfl,rfl,he,hn,rfl⟩)))))
theorem V4.need{s:Int}:V4 ⟨8,0,0,0,s,zE,[]⟩:=.inr (.inr (.inr (.inr (.inr (.inr ⟨rfl,rfl,rfl,rfl⟩)))))
structure S7(n:j6)(x:j6×List l8):Prop where
 ni:NI x.1
 id:x.1.Id=n.Id
 ms:∀m∈x.2,MI m
theorem S7.same{n:j6}(h:NI n):S7 n (n,[]):=⟨h,rfl,by simp⟩
theorem S7.to{n n':j6}(hi:n'.Id=n.Id){x:j6×List l8}(h:S7 n' x):S7 n x:=⟨h.ni,h.id.trans hi,h.ms⟩
theorem a9C{n:j6}(h:NI n):S7 n (M1 n):=by
 unfold M1;cases hc:n.d6 != 2||decide (40<=n.a6.length)
 ·simp only [g00];simp only [f9O,bne_eq_false_iff_eq,decide_eq_false_iff_not] at hc;obtain ⟨q,hq,hql,hqm,hqe⟩:=a9I n;cases hx:a02 n with
  | mk x o=>
  rw [hx] at hq hqe;have hq:x={n with f0:=q}:=hq;have hn:NI {n with f0:=q}:=h.queue (by have:=h.ql;omega) fun e he=>h.qs e (hqm e he)
  subst hq;cases o with
  | none=>exact ⟨hn,rfl,by simp⟩
  | some e=>
   have he:=(hqe e rfl).right h;simp only [a7k];have ho:Own n:=by
    rcases h.ld with q|q|q|q
    ·omega
    ·omega
    ·exact q.2.1
    ·omega
   cases hcs:L2 n.Acc n.a8 (n.a6.length:Int) e with
   | none=>exact ⟨hn.down,rfl,by simp⟩
   | some a=>
    have hac:=hn.cast (b:=n.a8) (s:=(n.a6.length:Int)) (e:=e) hcs;obtain ⟨k,hk,hk40,_,h1,h2,h3,rfl⟩:=b6O hcs;refine ⟨⟨h.id,hac.pr,hac.vl,hac.vs,h.kl,h.ks,h.sq,hn.ql,hn.qs,?_,h.wt⟩,rfl,a55 h.id (.accept ⟨h1,h2⟩ (by omega) he) (by simp only;omega)⟩;refine .inr (.inr (.inr ⟨rfl,⟨ho.b1,ho.b2,ho.mod,f8Z _,ho.bl,ho.bs⟩,?_,he,(c1g h.id).1,(c1g h.id).2,by simp only;omega⟩));rcases h.ld with q|q|q|q
    ·omega
    ·omega
    ·exact q.2.2.1
    ·omega
 ·exact .same h
theorem NI.know{n:j6}(h:NI n){e:m4}(he:z4 e=true)(hl:n.a6.length<40):NI (E3 n e):=by
 have hks:∀x∈n.a6++[e],z4 x=true:=by
  intro x hx;rcases f8B.1 hx with q|q
  ·exact h.ks x q
  ·rw [f8H.1 q];exact he
 have hkl:(n.a6++[e]).length<=40:=by simp;omega
 unfold E3;by_cases p3:n.d6=3
 ·rw [show (n.d6==3)=true by simpa using p3];refine ⟨h.id,h.pr,h.vl,h.vs,hkl,hks,h.sq,h.ql,h.qs,?_,h.wt⟩;rcases h.ld with q|q|q|q
  ·omega
  ·omega
  ·omega
  ·exact .inr (.inr (.inl ⟨rfl,⟨q.2.1.b1,q.2.1.b2,q.2.1.mod,q.2.1.pr,q.2.1.bl,q.2.1.bs⟩,q.2.2.1,rfl,rfl⟩))
 ·rw [show (n.d6==3)=false by simpa using p3];refine ⟨h.id,h.pr,h.vl,h.vs,hkl,hks,h.sq,h.ql,h.qs,?_,h.wt⟩;rcases h.ld with q|q|q|q
  ·exact .inl q
  ·exact .inr (.inl ⟨q.1,⟨q.2.1.b1,q.2.1.b2,q.2.1.mod,q.2.1.pr,q.2.1.bl,q.2.1.bs⟩,q.2.2⟩)
  ·exact .inr (.inr (.inl ⟨q.1,⟨q.2.1.b1,q.2.1.b2,q.2.1.mod,q.2.1.pr,q.2.1.bl,q.2.1.bs⟩,q.2.2⟩))
  ·exact absurd q.1 p3
theorem f3b{s:u5}{e:m4}(hn:e.i7=false):0<=(apply s e).2/\(apply s e).2<=4:=by
 have hf:0<=(O3 s e).2/\(O3 s e).2<=4:=by
  unfold O3;cases a0P s.g7 e.b6
  ·exact ⟨by simp,by simp⟩
  ·cases e.b6.Code==0<;>exact ⟨by simp,by simp⟩
 unfold apply;rw [hn];simp only [g00];cases s.i8.find? fun d=>d.a5.b9==e.a5.b9 with
 | none=>exact hf
 | some d=>
  simp only;cases d.a5.Seq==e.a5.Seq
  ·cases decide (d.a5.Seq>e.a5.Seq)
   ·exact hf
   ·exact ⟨by simp,by simp⟩
  ·exact ⟨by simp,by simp⟩
theorem b4d{l:List m4}{q:n5}{k:Nat}(h:l.findIdx? (D6 q)=some k):∃hk:k<l.length,l[k].i7=false/\l[k].a5=q:=by
 rw [f9x] at h;obtain ⟨hk,h1,_⟩:=h;unfold D6 at h1;simp only [f8D,f9h] at h1;exact ⟨hk,h1.1,b1B.1 h1.2⟩
theorem c3i{l:List m4}(h:G4 l=true){k:Nat}(hk:k<l.length):L4 l k=(apply (p6 (l.take k)).1 l[k]).2:=by
 obtain ⟨a,b⟩:=W8 h;unfold L4;rw [c1T a b hk];rfl
theorem e9C{l:List m4}(h:∀e∈l,z4 e=true)(q:n5):-1000000<=Q5 l q/\Q5 l q<=1000000:=by
 unfold Q5;cases hf:l.findIdx? (D6 q) with
 | none=>exact ⟨by simp,by simp⟩
 | some k=>
  obtain ⟨hk,h1,h2⟩:=b4d hf;simp only [f8z hk];exact (a2W (a3V (h _ (f8C hk)) h1).2.2.1).2.1
theorem e1e{n:j6}(h:NI n):NI (U7 n).1/\∀t∈(U7 n).2,T3 t=true:=by
 rcases a9M n with q|⟨k,hb,hk,q⟩<;>rw [q]
 ·exact ⟨h,by simp⟩
 ·refine ⟨h.freeN,fun t ht => ?_⟩;obtain ⟨hkl,h1,h2⟩:=b4d hk;have ht:=f8H.1 ht;subst ht;have hw:n.b8.a5=⟨n.Id,n.Seq⟩/\z4 n.b8=true/\n.b8.i7=false:=by
   rcases h.wt with q|q
   ·exact ⟨q.2.2.2.2,q.2.2.1,q.2.2.2.1⟩
   ·rw [hb] at q;cases q.1
  obtain ⟨w1,w2,_⟩:=a3V hw.2.1 hw.2.2;have hc:=f3b (s:=(p6 (n.a6.take k)).1) h1;rw [<-c3i h.list hkl] at hc;have hv:=e9C h.ks n.b8.a5;unfold T3;simp only [f8D,H7,beq_iff_eq];refine ⟨h.id,⟨w1,w2⟩,by rw [hw.1],hc,?_⟩;cases L4 n.a6 k==0
  ·exact ⟨by simp,by simp⟩
  ·exact hv
structure a5O(n:j6)(x:j6×List l8×List n6):Prop where
 ni:NI x.1
 id:x.1.Id=n.Id
 ms:∀m∈x.2.1,MI m
 ts:∀t∈x.2.2,T3 t=true
theorem S7.three{n:j6}{x:j6×List l8}(h:S7 n x):a5O n (x.1,x.2,[]):=⟨h.ni,h.id,h.ms,by simp⟩
theorem a5O.same{n:j6}(h:NI n):a5O n (n,[],[]):=⟨h,rfl,by simp,by simp⟩
theorem d1D{n:j6}(h:NI n){e:m4}(he:z4 e=true)(hl:n.a6.length<40):a5O n (Y5 n e):=by
 have h1:=h.know he hl;obtain ⟨h2,h3⟩:=e1e h1;have h4:=a9C h2;exact ⟨h4.ni,h4.id.trans ((d2L _).trans (c0T _ _)),h4.ms,h3⟩
theorem e7s{a:z0}{b:Int}(h:I6 a b=none)(hb:1<=b/\b<=3000):b<a.i0:=by
 by_cases q:a.i0<=b
 ·rw [b89 hb.1 hb.2 q] at h;cases h
 ·omega
theorem d5S{n:j6}(h:NI n){m:l8}(hm:MI m)(hk:m.a9=1):S7 n (a2g n m):=by
 have hb:1<=m.a8/\m.a8<=3000:=by
  rcases hm.kd with q|q|q|q|q|q|q
  ·exact q.2.1
  all_goals exact absurd q.1 (by omega)
 have hs:=hm.sl;unfold a2g;cases hp:I6 n.Acc m.a8 with
 | none=>
  have:=e7s hp hb;refine ⟨h,rfl,fun x hx => ?_⟩;rw [f8H.1 hx];exact a9A hm (.refuse (by have:=h.pr;omega)) (by simp)
 | some a=>
  have hn:=(h.promise hp).yield m.a8;obtain ⟨rfl,_⟩:=a4q hp;refine ⟨hn,?_,fun x hx => ?_⟩
  ·simp only [N9];cases n.d6 != 0&&decide (m.a8>n.a8)<;>rfl
  ·rw [f8H.1 hx];have hvl:=h.vl;refine a9A hm (.inr (.inl ⟨rfl,hb,rfl,⟨by simp;omega,fun v hv=>(h.vs v (f9E hv)).1⟩,by simp;omega⟩)) hs
theorem a6X(n:j6)(b:Int):(N9 n b).Id=n.Id:=by
 unfold N9;cases n.d6 != 0&&decide (b>n.a8)<;>rfl
theorem f7F{a:z0}{b:Int}{k:Nat}{e:m4}(h:L2 a b (k:Int) e=none)(hk:k<40)(he:z4 e=true)(hb:1<=b/\b<=3000):b<a.i0:=by
 by_cases q:a.i0<=b
 ·rw [e0s hk he hb.1 hb.2 q] at h;cases h
 ·omega
theorem d67{n:j6}(h:NI n){m:l8}(hm:MI m)(hk:m.a9=3):S7 n (a1I n m):=by
 have hb:(1<=m.a8/\m.a8<=3000)/\m.g8<40/\z4 m.g9=true:=by
  rcases hm.kd with q|q|q|q|q|q|q
  ·omega
  ·omega
  ·exact ⟨q.2.1,q.2.2.1,q.2.2.2.1⟩
  all_goals exact absurd q.1 (by omega)
 have hs:=hm.sl;obtain ⟨k,hsk⟩:∃k:Nat,m.g8=(k:Int):=⟨m.g8.toNat,by omega⟩
 unfold a1I;cases hp:L2 n.Acc m.a8 m.g8 m.g9 with
 | none=>
  rw [hsk] at hp;have:=f7F hp (by omega) hb.2.2 hb.1;refine ⟨h,rfl,fun x hx => ?_⟩;rw [f8H.1 hx];exact a9A hm (.refuse (by have:=h.pr;omega)) (by simp)
 | some a=>
  refine ⟨(h.cast hp).yield m.a8,a6X _ _,fun x hx => ?_⟩;rw [f8H.1 hx];exact a9A hm (.one (.inr rfl) hb.1) hs
theorem c4P{n:j6}(h:NI n){m:l8}(hm:MI m)(hk:m.a9=2):S7 n (a1A n m):=by
 have hkd:(m.a7.length<=40/\∀v∈m.a7,VI v)/\m.g8+m.a7.length<=40:=by
  rcases hm.kd with q|q|q|q|q|q|q
  ·omega
  ·exact ⟨q.2.2.2.1,q.2.2.2.2⟩
  all_goals exact absurd q.1 (by omega)
 have hs:=hm.sl;have hf:=hm.fr;unfold a1A;cases hc:n.d6 != 1||m.a8 != n.a8
 ·simp only [f9O,bne_eq_false_iff_eq] at hc;simp only [g00];have hl:Own n/\n.c9.length=3/\n.c9[n.Id.toNat]?=some true/\n.c8=zE/\n.a7=[]:=by
   rcases h.ld with q|q|q|q
   ·omega
   ·exact q.2
   all_goals exact absurd q.1 (by omega)
  have hbl:=a71 n.i4 (f8A m.g8.toNat v0++m.a7);have hob:=hl.1.bl;have hlen:(f8A m.g8.toNat v0++m.a7).length<=40:=by simp;omega
  have hbs:∀v∈E0 n.i4 (f8A m.g8.toNat v0++m.a7),VI v:=fun v hv=>(b1c hv).elim (fun q=>hl.1.bs v q) (fun q=>(f8B.1 q).elim (fun q=>by rw [(f9v.1 q).2];exact .inl rfl) (hkd.1.2 v))
  cases N7 (n.c9.set m.c9.toNat true)
  ·simp only [g00];refine ⟨⟨h.id,h.pr,h.vl,h.vs,h.kl,h.ks,h.sq,h.ql,h.qs,.inr (.inl ⟨hc.1,⟨hl.1.b1,hl.1.b2,hl.1.mod,hl.1.pr,by show (E0 _ _).length<=40;omega,hbs⟩,by simp [hl.2.1],?_,hl.2.2.2.1,hl.2.2.2.2⟩),h.wt⟩,rfl,by simp⟩;show (n.c9.set m.c9.toNat true)[n.Id.toNat]?=some true
   by_cases q:m.c9.toNat=n.Id.toNat
   ·rw [q,f9Q (by have:=h.id;omega)]
   ·rw [f8V q];exact hl.2.2.1
  ·simp only [g0Z];refine S7.to (n:=n) (n':={n with c9:=[],i4:=E0 n.i4 (f8A m.g8.toNat v0++m.a7),d6:=2}) rfl (a9C ?_);exact ⟨h.id,h.pr,h.vl,h.vs,h.kl,h.ks,h.sq,h.ql,h.qs,.inr (.inr (.inl ⟨rfl,⟨hl.1.b1,hl.1.b2,hl.1.mod,hl.1.pr,by show (E0 _ _).length<=40;omega,hbs⟩,rfl,hl.2.2.2.1,hl.2.2.2.2⟩)),h.wt⟩
 ·exact .same h
theorem d8v{n:j6}(h:NI n){m:l8}(hm:MI m):a5O n (a2M n m):=by
 have hf:=hm.fr;unfold a2M;cases hc:n.d6 != 3||(m.a8 != n.a8||m.g8 != (n.a6.length:Int))
 ·simp only [f9O,bne_eq_false_iff_eq] at hc;simp only [g00];have hl:Own n/\n.c9=[]/\z4 n.c8=true/\n.a7.length=3/\n.a7[n.Id.toNat]?=some true/\n.a6.length<40:=by
   rcases h.ld with q|q|q|q
   ·omega
   ·omega
   ·omega
   ·exact q.2
  have hn:NI {n with a7:=n.a7.set m.c9.toNat true}:=by
   refine ⟨h.id,h.pr,h.vl,h.vs,h.kl,h.ks,h.sq,h.ql,h.qs,.inr (.inr (.inr ⟨hc.1,⟨hl.1.b1,hl.1.b2,hl.1.mod,hl.1.pr,hl.1.bl,hl.1.bs⟩,hl.2.1,hl.2.2.1,by simp [hl.2.2.2.1],?_,hl.2.2.2.2.2⟩)),h.wt⟩;show (n.a7.set m.c9.toNat true)[n.Id.toNat]?=some true
   by_cases q:m.c9.toNat=n.Id.toNat
   ·rw [q,f9Q (by have:=h.id;omega)]
   ·rw [f8V q];exact hl.2.2.2.2.1
  cases N7 (n.a7.set m.c9.toNat true)
  ·exact ⟨hn,rfl,by simp,by simp⟩
  ·simp only [g0Z];have hr:=d1D hn hl.2.2.1 hl.2.2.2.2.2;refine ⟨hr.ni,hr.id,fun x hx => ?_,hr.ts⟩;rcases f8B.1 hx with q|q
   ·exact a55 h.id (.chosen (by omega) hl.2.2.1) (by simp only;omega) x q
   ·exact hr.ms x q
 ·exact .same h
theorem d6l{n:j6}(h:NI n){m:l8}(hm:MI m)(hk:m.a9=5):a5O n (a2I n m):=by
 have hkd:m.g8<40/\z4 m.g9=true:=by
  rcases hm.kd with q|q|q|q|q|q|q
  ·omega
  ·omega
  ·omega
  ·exact ⟨q.2.2.1,q.2.2.2.1⟩
  all_goals exact absurd q.1 (by omega)
 have hkl:=h.kl;unfold a2I;cases h1:decide (m.g8<(n.a6.length:Int))
 ·cases h2:decide (m.g8>(n.a6.length:Int))
  ·simp only [decide_eq_false_iff_not] at h1 h2;exact d1D h hkd.2 (by omega)
  ·refine ⟨h,rfl,fun x hx => ?_,by simp⟩;rw [f8H.1 hx];exact a9A hm .need (by simp only;omega)
 ·exact .same h
theorem d9h{n:j6}(h:NI n){m:l8}(hm:MI m)(hk:m.a9=7):S7 n (a1H n m):=by
 have hkd:z4 m.g9=true/\m.g9.i7=false:=by
  rcases hm.kd with q|q|q|q|q|q|q
  ·omega
  ·omega
  ·omega
  ·omega
  ·omega
  ·exact ⟨q.2.2.2.1,q.2.2.2.2.1⟩
  ·omega
 unfold a1H;cases hc:n.d6==0||(decide (4<=n.f0.length)||N6 n.a6 m.g9.a5)
 ·simp only [g00];simp only [f9O,decide_eq_false_iff_not] at hc;refine S7.to (n:=n) (n':={n with f0:=n.f0++[m.g9]}) rfl (a9C (h.queue (by simp;omega) ?_));intro e he;rcases f8B.1 he with q|q
  ·exact h.qs e q
  ·rw [f8H.1 q];exact hkd
 ·exact .same h
theorem d3c{n:j6}(h:NI n){m:l8}(hm:MI m):∀x∈a4j n m,MI x:=by
 intro x hx;unfold a4j at hx;obtain ⟨l,hl,hx⟩:=f9C.1 hx;obtain ⟨j,hj,rfl⟩:=f9i.1 hl;have hkl:=h.kl;unfold a1l at hx;cases hg:n.a6[m.g8.toNat+j]? with
 | none=>rw [hg] at hx;cases hx
 | some e=>
  rw [hg] at hx;have hlt:=(f8G.1 hg).1;rw [f8H.1 hx];exact a9A hm (.chosen (by omega) (h.ks e (f8O hg))) (by simp only;omega)
theorem b3C{n:j6}(h:NI n){m:l8}(hm:MI m):a5O n (W7 n m):=by
 unfold W7;by_cases k1:m.a9=1
 ·rw [show (m.a9==1)=true by simpa using k1];exact (d5S h hm k1).three
 rw [show (m.a9==1)=false by simpa using k1];by_cases k2:m.a9=2
 ·rw [show (m.a9==2)=true by simpa using k2];exact (c4P h hm k2).three
 rw [show (m.a9==2)=false by simpa using k2];by_cases k3:m.a9=3
 ·rw [show (m.a9==3)=true by simpa using k3];exact (d67 h hm k3).three
 rw [show (m.a9==3)=false by simpa using k3];by_cases k4:m.a9=4
 ·rw [show (m.a9==4)=true by simpa using k4];exact d8v h hm
 rw [show (m.a9==4)=false by simpa using k4];by_cases k5:m.a9=5
 ·rw [show (m.a9==5)=true by simpa using k5];exact d6l h hm k5
 rw [show (m.a9==5)=false by simpa using k5];by_cases k6:m.a9=6
 ·rw [show (m.a9==6)=true by simpa using k6];simp only [g0Z,g00];cases hp:I6 n.Acc m.a8 with
  | none=>exact ⟨h.yield _,a6X _ _,by simp,by simp⟩
  | some a=>exact ⟨(h.promise hp).yield _,a6X _ _,by simp,by simp⟩
 rw [show (m.a9==6)=false by simpa using k6];by_cases k7:m.a9=7
 ·rw [show (m.a9==7)=true by simpa using k7];exact (d9h h hm k7).three
 rw [show (m.a9==7)=false by simpa using k7];cases m.a9==8
 ·exact .same h
 ·exact ⟨h,rfl,d3c h hm,by simp⟩
structure e0P(n x:j6):Prop where
 id:x.Id=n.Id
 known:x.a6=n.a6
 seq:x.Seq=n.Seq
 busy:x.i9=n.i9
 prog:x.i6=n.i6
 want:x.b8=n.b8
theorem b5C(n:j6):e0P n (M1 n).1:=by
 unfold M1;cases n.d6 != 2||decide (40<=n.a6.length)
 ·simp only [g00];obtain ⟨q,hq,_⟩:=a9I n;cases hx:a02 n with
  | mk x o=>
  rw [hx] at hq;have hq:x={n with f0:=q}:=hq;subst hq;cases o with
  | none=>exact ⟨rfl,rfl,rfl,rfl,rfl,rfl⟩
  | some e=>
   simp only [a7k];cases L2 n.Acc n.a8 (n.a6.length:Int) e<;>exact ⟨rfl,rfl,rfl,rfl,rfl,rfl⟩
 ·exact ⟨rfl,rfl,rfl,rfl,rfl,rfl⟩
def a2q(n:j6):List m9:=(p6 n.a6).1.g7
theorem b8X{n:j6}(h:NI n):C6 (a2q n)=true:=by
 obtain ⟨a,b⟩:=W8 h.list;have:=(P5 a b n.a6.length (f8R _)).1.boxes;rwa [f8Q] at this
theorem e2l{n:j6}(h:NI n):b8s n=some (p6 n.a6).1:=by
 unfold b8s;rw [b1G h.ok,f8y,a1t.2 h];simp only [f8F,g00];rw [c85 (okEntries.f h.ok.2.2.1) h.list];rfl
theorem d8T{l:List m9}{p:List n8}(h:(B3 l p).Code≠3):E4 p=true:=by
 unfold B3 at h;cases hp:E4 p
 ·rw [hp,Bool.and_false] at h;exact absurd rfl h
 ·rfl
def Q2(n:j6)(prog:List n8):j6:={n with Seq:=n.Seq+1,i9:=true,i6:=prog,b8:=⟨false,⟨n.Id,n.Seq+1⟩,B3 (a2q n) prog⟩}
def L6(n:j6)(prog:List n8):Bool := !(n.i9||(n.Seq==1000||(B3 (a2q n) prog).Code==3))
theorem b97{n:j6}{prog:List n8}:L6 n prog=true↔n.i9=false/\n.Seq≠1000/\(B3 (a2q n) prog).Code≠3:=by
 unfold L6;simp
theorem b2q{n:j6}(h:NI n){prog:List n8}(hp:s8 prog)(hc:L6 n prog=true):z4 (Q2 n prog).b8=true/\E4 prog=true:=by
 obtain ⟨h1,h2,h3⟩:=b97.1 hc;have hr:=(b7f (b8X h) hp).ok;have hs:=h.sq;have hid:=h.id;refine ⟨?_,d8T h3⟩;unfold z4 Q2;simp only [g00,f8D,H7,hr,true_and,bne_iff_ne,ne_eq];exact ⟨⟨hid,by omega⟩,h3⟩
theorem NI.asked{n:j6}(h:NI n){prog:List n8}(hp:s8 prog)(hc:L6 n prog=true):NI (Q2 n prog):=by
 obtain ⟨h1,h2,h3⟩:=b97.1 hc;obtain ⟨h4,h5⟩:=b2q h hp hc;have hs:=h.sq;exact ⟨h.id,h.pr,h.vl,h.vs,h.kl,h.ks,by show 0<=n.Seq+1/\n.Seq+1<=1000;omega,h.ql,h.qs,h.ld,.inl ⟨rfl,h5,h4,rfl,rfl⟩⟩
theorem a2r(n:j6)(prog:List n8):K9 n prog=bif L6 n prog then (bif n.d6==2 then M1 (Q2 n prog) else (Q2 n prog,bif n.d6==0 then I8 n.Id ⟨7,0,0,0,0,(Q2 n prog).b8,[]⟩ else [])) else (n,[]):=by
 unfold K9 L6 Q2 a2q;cases n.i9||(n.Seq==1000||(B3 (p6 n.a6).1.g7 prog).Code==3)<;>rfl
theorem e6O{n:j6}(h:NI n){prog:List n8}(hp:A2 32 okT prog):b8I n prog=some ((K9 n prog).1,(K9 n prog).2,[]):=by
 have hf:s8 prog:=hp.fits (by decide);have hs:=h.sq;unfold b8I;rw [b1G h.ok,f8y,a1t.2 h,b3k h.ok,e2l h,a2r];simp only [f8F,g00,f8y];rw [show (p6 n.a6).1.g7=a2q n from rfl,d2g (a3k (b8X h)) hf,f8y];cases hb:n.i9
 ·cases hq:n.Seq==1000
  ·cases hc:(B3 (a2q n) prog).Code==3
   ·have hca:L6 n prog=true:=by unfold L6;rw [hb,hq,hc];rfl
    have hn:=h.asked hf hca;rw [hca];simp only [g0Z,g00];rw [v5 (by have:=hp.1;simp;omega),C4 (by omega) (by omega)];cases h2:n.d6==2
    ·cases h0:n.d6==0
     ·rfl
     ·simp only [g00,g0Z];rw [a6J h.id (show a0x ⟨7,0,0,0,0,⟨false,⟨n.Id,n.Seq+1⟩,B3 (a2q n) prog⟩,[]⟩ from a7I (A5 (by omega)) a0q a0q (a3n (b2q h hf hca).1) U2)];rfl
    ·simp only [g0Z];rw [show (⟨n.Id,n.Acc,n.a6,n.Seq+1,n.d6,n.a8,n.c9,n.i4,n.c8,n.a7,true,[]++prog,⟨false,⟨n.Id,n.Seq+1⟩,B3 (a2q n) prog⟩,n.f0⟩:j6)=Q2 n prog from rfl,b5h hn.ok hn.id,f8y]
   ·have hca:L6 n prog=false:=by unfold L6;rw [hb,hq,hc];rfl
    rw [hca];rfl
  ·have hca:L6 n prog=false:=by unfold L6;rw [hb,hq];rfl
   rw [hca];rfl
 ·have hca:L6 n prog=false:=by unfold L6;rw [hb];rfl
  rw [hca];rfl
theorem b1E{n:j6}(h:NI n){prog:List n8}(hp:s8 prog):S7 n (K9 n prog):=by
 rw [a2r];cases hc:L6 n prog
 ·exact .same h
 ·have hn:=h.asked hp hc;simp only [g0Z];cases n.d6==2
  ·refine ⟨hn,rfl,fun x hx => ?_⟩;simp only [g00] at hx;cases h0:n.d6==0
   ·rw [h0] at hx;cases hx
   ·rw [h0] at hx;exact a55 h.id (.ask (b2q h hp hc).1 rfl) (by simp) x hx
  ·exact S7.to (n:=n) (n':=Q2 n prog) rfl (a9C hn)
theorem c0Q{b who:Int}(hb:0<=b/\b<=3000)(hw:0<=who/\who<=2):M2 b who=-1\/(b<M2 b who/\M2 b who<=b+3/\M2 b who<=3000/\f9c (M2 b who) 3=who):=by
 unfold M2;cases h1:decide (b+1<=3000)&&(f9c (b+1) 3==who)
 ·cases h2:decide (b+2<=3000)&&(f9c (b+2) 3==who)
  ·cases h3:decide (b+3<=3000)&&(f9c (b+3) 3==who)
   ·exact .inl rfl
   ·simp only [f8D,decide_eq_true_eq,beq_iff_eq] at h3;exact .inr ⟨by simp only [g0Z,g00];omega,by simp only [g0Z,g00];omega,h3.1,h3.2⟩
  ·simp only [f8D,decide_eq_true_eq,beq_iff_eq] at h2;exact .inr ⟨by simp only [g0Z,g00];omega,by simp only [g0Z,g00];omega,h2.1,h2.2⟩
 ·simp only [f8D,decide_eq_true_eq,beq_iff_eq] at h1;exact .inr ⟨by simp only [g0Z,g00];omega,by simp only [g0Z,g00];omega,h1.1,h1.2⟩
theorem e1Y{n:j6}(h:NI n):c00 n=some (Y7 n):=by
 unfold c00 Y7;rw [b1G h.ok,f8y,a1t.2 h,b3k h.ok];simp only [f8F,g00,f8y];rw [d9v h.pr h.id,f8y];cases hd:decide (M2 n.Acc.i0 n.Id<0)
 ·simp only [decide_eq_false_iff_not] at hd;rcases c0Q h.pr h.id with q|⟨q1,q2,q3,q4⟩
  ·omega
  ·have hpr:=h.pr;have hkl:=h.kl;obtain ⟨y,hy⟩:=c3K h.id;simp only [g00,b5e,f8y,b6f,b89 (a:=n.Acc) (show 1<=M2 n.Acc.i0 n.Id by omega) q3 (by omega),hy,f07 h.ok.2.1.2];rw [v5 (by omega),v5 trivial,a6J h.id (a7I (A5 (by omega)) (A5 (by omega)) (A5 (by omega)) a1u U2)];rfl
 ·rfl
theorem a91{n:j6}(h:NI n):S7 n (Y7 n):=by
 unfold Y7;cases hd:decide (M2 n.Acc.i0 n.Id<0)
 ·simp only [decide_eq_false_iff_not] at hd;have hpr:=h.pr;have hkl:=h.kl;rcases c0Q h.pr h.id with q|⟨q1,q2,q3,q4⟩
  ·omega
  ·obtain ⟨m1,m2⟩:=c1g h.id;refine ⟨⟨h.id,⟨by simp only [g00];omega,q3⟩,h.vl,fun v hv=>⟨(h.vs v hv).1,f9z (h.vs v hv).2 (Int.le_of_lt q1)⟩,h.kl,h.ks,h.sq,h.ql,h.qs,.inr (.inl ⟨rfl,⟨by simp only [g00];omega,q3,q4,f8Z _,h.vl,fun v hv=>(h.vs v hv).1⟩,m1,m2,rfl,rfl⟩),h.wt⟩,rfl,?_⟩;exact a55 h.id (.one (.inl rfl) ⟨by omega,q3⟩) (by simp only;omega)
 ·exact .same h
theorem d3f{k b s:Int}(hk:0<=k/\k<=8)(hb:0<=b/\b<=3000)(hs:0<=s/\s<=40):a0x ⟨k,0,0,b,s,zE,[]⟩:=a7I (A5 (by omega)) (A5 (by omega)) (A5 (by omega)) a1u U2
theorem f5i{n:j6}(h:NI n):b8J n=some ((W2 n).1,(W2 n).2,[]):=by
 have hkl:=h.kl;have hb:=h.ld.bal;have l1:=a06 n.Id ⟨8,0,0,0,(n.a6.length:Int),zE,[]⟩;unfold b8J W2;rw [b1G h.ok,f8y,a1t.2 h,b3k h.ok];simp only [f8F,g00,f8y];rw [a6J h.id (d3f (by omega) (by omega) (by omega)),f8y];cases h1:n.d6==1
 ·cases h2:n.d6==2
  ·cases h3:n.d6==3
   ·cases hbz:n.i9
    ·rfl
    ·simp only [g0Z,g00];have l2:=a06 n.Id ⟨7,0,0,0,0,n.b8,[]⟩;have hw:E9 n.b8:=h.ok.2.2.2.2.2.2.2.2.2.2.2.1;rw [a6J h.id (a7I (A5 (by omega)) a0q a0q hw U2),f8y,v5 (by omega)];rfl
   ·simp only [g0Z,g00];have l2:=a06 n.Id ⟨3,0,0,n.a8,(n.a6.length:Int),n.c8,[]⟩;rw [a6J h.id (a7I (A5 (by omega)) (A5 (by omega)) (A5 (by omega)) h.ld.from3.2.2 U2),f8y,v5 (by omega)];rfl
  ·simp only [g0Z,g00];have l2:=a8b n;rw [b5h h.ok h.id,f8y,v5 (by omega)];rfl
 ·simp only [g0Z,g00];have l2:=a06 n.Id ⟨1,0,0,n.a8,(n.a6.length:Int),zE,[]⟩;rw [a6J h.id (d3f (by omega) (by omega) (by omega)),f8y,v5 (by omega)];rfl
theorem a9R{n:j6}(h:NI n):S7 n (W2 n):=by
 have hkl:=h.kl;have hb:=h.ld.bal;have a1:∀x∈I8 n.Id ⟨8,0,0,0,(n.a6.length:Int),zE,[]⟩,MI x:=a55 h.id .need (by simp only;omega)
 have N7:∀{l:List l8},(∀x∈l,MI x)->∀x∈I8 n.Id ⟨8,0,0,0,(n.a6.length:Int),zE,[]⟩++l,MI x:=by
  intro l hl x hx;rcases f8B.1 hx with q|q
  ·exact a1 x q
  ·exact hl x q
 unfold W2;by_cases h1:n.d6=1
 ·rw [show (n.d6==1)=true by simpa using h1];refine ⟨h,rfl,N7 (a55 h.id (.one (.inl rfl) ?_) (by simp only;omega))⟩;rcases h.ld with q|q|q|q
  ·omega
  ·exact ⟨q.2.1.b1,q.2.1.b2⟩
  all_goals exact absurd q.1 (by omega)
 rw [show (n.d6==1)=false by simpa using h1];by_cases h2:n.d6=2
 ·rw [show (n.d6==2)=true by simpa using h2];have:=a9C h;exact ⟨this.ni,this.id,N7 this.ms⟩
 rw [show (n.d6==2)=false by simpa using h2];by_cases h3:n.d6=3
 ·rw [show (n.d6==3)=true by simpa using h3];rcases h.ld with q|q|q|q
  ·omega
  ·omega
  ·omega
  ·exact ⟨h,rfl,N7 (a55 h.id (.accept ⟨q.2.1.b1,q.2.1.b2⟩ (by omega) q.2.2.2.1) (by simp only;omega))⟩
 rw [show (n.d6==3)=false by simpa using h3];cases hbz:n.i9
 ·exact ⟨h,rfl,a1⟩
 ·rcases h.wt with q|q
  ·exact ⟨h,rfl,N7 (a55 h.id (.ask q.2.2.1 q.2.2.2.1) (by simp))⟩
  ·rw [hbz] at q;cases q.1
theorem f3e{n:j6}(h:NI n):b65 n=some (a1d n):=by
 unfold b65;rw [b1G h.ok,f8y,a1t.2 h,b3k h.ok];rfl
theorem NI.open{id:Int}(h:0<=id/\id<=2):NI (D4 id):=
 ⟨h,⟨by simp [D4],by simp [D4]⟩,by simp [D4],by simp [D4],by simp [D4],by simp [D4],⟨by simp [D4],by simp [D4]⟩,by simp [D4],by simp [D4],.inl ⟨rfl,rfl,rfl,rfl,rfl,rfl⟩,.inr ⟨rfl,rfl,rfl⟩⟩
theorem NI.fall{n:j6}(h:NI n):NI (a1d n):=
 ⟨h.id,h.pr,h.vl,h.vs,h.kl,h.ks,h.sq,by simp [a1d,D4],by simp [a1d,D4],.inl ⟨rfl,rfl,rfl,rfl,rfl,rfl⟩,.inr ⟨rfl,rfl,rfl⟩⟩
theorem c7Y{l:List l8}(hl:s8 l)(ho:∀m∈l,a0x m):∀(d k:Nat) (net:List l8),l.length-k=d->o8 (fun s:(List l8)×Int=>a26 l s.1 s.2) (net,(k:Int))=some (.brk (net++(l.drop k).take (40-net.length)))
 | 0,k,net,hd=>by
  rw [f9d (by omega)];refine (C8 (b:=net) ?_).trans (by simp);show a26 l net (k:Int)=_
  unfold a26;rw [show decide ((k:Int)<(l.length:Int))=false by simp;omega];rfl
 | d+1,k,net,hd=>by
  have hlt:k<l.length:=by omega
  by_cases hn:net.length<40
  ·have hb:a26 l net (k:Int)=some (.nxt (net++[l[k]],((k+1:Nat):Int))):=by
    unfold a26;rw [w6 _ k hlt,show decide ((net.length:Int)<40)=true by simp;omega,g0Z,g0Z,t0 hlt,f8y,b7i (ho _ (f8C hlt)),f8y,v5 (by omega),E6 hl hlt]
   rw [E7 (body:=fun s:(List l8)×Int=>a26 l s.1 s.2) (s:=(net,(k:Int))) hb,c7Y hl ho d (k+1) _ (by omega),f8W hlt];rw [show 40-net.length=(40-(net++[l[k]]).length)+1 by simp;omega,g0A,f8U];rfl
  ·refine (C8 (b:=net) ?_).trans (by rw [show 40-net.length=0 by omega];simp);show a26 l net (k:Int)=_
   unfold a26;rw [w6 _ k hlt,show decide ((net.length:Int)<40)=false by simp;omega];rfl
theorem a6s(w:m5){l:List l8}(hl:s8 l)(ho:∀m∈l,a0x m):a3E w l=some (a00 w l):=by
 unfold a3E;rw [show o8 (fun s:(List l8)×Int=>a26 l s.1 s.2) (w.d7,0)=_ from c7Y hl ho l.length 0 w.d7 rfl];rfl
theorem d8b{l:List n6}(hl:s8 l):∀(d k:Nat) (o:List n6),l.length-k=d->o8 (fun s:(List n6)×Int=>a3B l s.1 s.2) (o,(k:Int))=some (.brk (o++(l.drop k).take (60-o.length)))
 | 0,k,o,hd=>by
  rw [f9d (by omega)];refine (C8 (b:=o) ?_).trans (by simp);show a3B l o (k:Int)=_
  unfold a3B;rw [show decide ((k:Int)<(l.length:Int))=false by simp;omega];rfl
 | d+1,k,o,hd=>by
  have hlt:k<l.length:=by omega
  by_cases hn:o.length<60
  ·have hb:a3B l o (k:Int)=some (.nxt (o++[l[k]],((k+1:Nat):Int))):=by
    unfold a3B;rw [w6 _ k hlt,show decide ((o.length:Int)<60)=true by simp;omega,g0Z,g0Z,t0 hlt,f8y,v5 (by omega),E6 hl hlt]
   rw [E7 (body:=fun s:(List n6)×Int=>a3B l s.1 s.2) (s:=(o,(k:Int))) hb,d8b hl d (k+1) _ (by omega),f8W hlt];rw [show 60-o.length=(60-(o++[l[k]]).length)+1 by simp;omega,g0A,f8U];rfl
  ·refine (C8 (b:=o) ?_).trans (by rw [show 60-o.length=0 by omega];simp);show a3B l o (k:Int)=_
   unfold a3B;rw [w6 _ k hlt,show decide ((o.length:Int)<60)=false by simp;omega];rfl
theorem a9n(w:m5){l:List n6}(hl:s8 l):a3Y w l=some (a9p w l):=by
 unfold a3Y;rw [show o8 (fun s:(List n6)×Int=>a3B l s.1 s.2) (w.Told,0)=_ from d8b hl l.length 0 w.Told rfl];rfl
theorem a3h(w:m5):a9p w []=w:=by
 unfold a9p;simp
theorem c7b(w:m5):a00 w []=w:=by
 unfold a00;simp
theorem e8u{w:m5}{k:Nat}(hk:k<w.d7.length)(hl:w.d7.length<=40):b5q w (k:Int)=some (a3I w (k:Int)):=by
 unfold b5q a3I;rw [v5 (by omega),v5 (by simp;omega),C4 (by omega) (by omega),v5 (by omega),v5 (by simp;omega)];simp only [f9y,g0l,f9M,Nat.sub_zero,f9b,f9I,show ((k:Int)+1).toNat=k+1 by omega];rw [f9r (l:=w.d7.drop (k+1)) (by simp)]
theorem a4z{w:m5}(h:WI w){i:Nat}(hi:i<3):∃n,w.a0[i]?=some n/\I1 w (i:Int)=n/\n.Id=(i:Int)/\NI n/\i<w.a0.length:=by
 have hl:=h.nl;have hg:=f8z (l:=w.a0) (i:=i) (by omega);obtain ⟨h1,h2⟩:=h.ns i _ hg;refine ⟨_,hg,?_,h1,h2,by omega⟩;unfold I1;rw [f9b,f8P,hg];rfl
theorem WI.put{w:m5}(h:WI w){i:Nat}{n:j6}(hid:n.Id=(i:Int))(hn:NI n):WI (O0 w (i:Int) n):=by
 refine ⟨by simp [O0,h.nl],?_,h.ml,h.ms,h.al,h.aq,h.tl,h.ts⟩;intro j m hm;simp only [O0,f9b] at hm;by_cases q:i=j
 ·subst q;have hlt:=(f8G.1 hm).1;rw [f9Z] at hlt;rw [f9Q hlt] at hm;injection hm with hm;subst hm;exact ⟨hid,hn⟩
 ·rw [f8V q] at hm;exact h.ns j m hm
theorem WI.send{w:m5}(h:WI w){l:List l8}(hl:∀m∈l,MI m):WI (a00 w l):=by
 have:=h.ml;refine ⟨h.nl,h.ns,by simp only [a00,f8M,f8S];omega,?_,h.al,h.aq,h.tl,h.ts⟩;intro m hm;rcases f8B.1 hm with q|q
 ·exact h.ms m q
 ·exact hl m (f9F q)
theorem WI.tell{w:m5}(h:WI w){l:List n6}(hl:∀t∈l,T3 t=true):WI (a9p w l):=by
 have:=h.tl;refine ⟨h.nl,h.ns,h.ml,h.ms,h.al,h.aq,by simp only [a9p,f8M,f8S];omega,?_⟩;intro m hm;rcases f8B.1 hm with q|q
 ·exact h.ts m q
 ·exact hl m (f9F q)
theorem WI.off{w:m5}(h:WI w)(i:Int):WI (a3I w i):=by
 have:=h.ml;refine ⟨h.nl,h.ns,by simp only [a3I,f8M,f8S,g0P];omega,?_,h.al,h.aq,h.tl,h.ts⟩;intro m hm;rcases f8B.1 hm with q|q
 ·exact h.ms m (f9F q)
 ·exact h.ms m (f9E q)
theorem b0F{l:List l8}(h:l.length<=100):s8 l:=by unfold s8;omega
theorem c1D(n:j6)(p:List n8):(K9 n p).2.length<=3:=by
 rw [a2r];cases L6 n p
 ·simp
 ·cases n.d6==2
  ·cases n.d6==0
   ·simp
   ·exact a06 _ _
  ·exact a8b _
theorem MI.okl{l:List l8}(h:∀m∈l,MI m):∀m∈l,a0x m:=fun m hm=>(h m hm).ok
theorem c7t(n:j6)(p:List n8):decide ((K9 n p).1.Seq>n.Seq)=L6 n p:=by
 rw [a2r];cases L6 n p
 ·simp
 ·simp only [g0Z];cases n.d6==2
  ·simp [Q2];omega
  ·have:=(b5C (Q2 n p)).seq;simp only [g0Z,this];simp [Q2];omega
theorem b6k{n:j6}{p:List n8}(h:L6 n p=true):(K9 n p).1.b8=(Q2 n p).b8:=by
 rw [a2r,h];simp only [g0Z];cases n.d6==2
 ·rfl
 ·exact (b5C (Q2 n p)).want
def e0h(w:m5)(a:x8):m5:={w with d8:=w.d8++[a]}
theorem WI.addAsked{w:m5}(h:WI w){a:x8}(hl:w.d8.length<60)(ha:Z9 a=true):WI (e0h w a):=by
 refine ⟨h.nl,h.ns,h.ml,h.ms,by simp only [e0h,f8M,f9K];omega,?_,h.tl,h.ts⟩;intro x hx;rcases f8B.1 hx with q|q
 ·exact h.aq x q
 ·rw [f8H.1 q];exact ha
theorem e8x{w:m5}(h:WI w){i:Nat}(hi:i<3){p:List n8}(hp:A2 32 okT p):b95 w (i:Int) p=some (a32 w (i:Int) p)/\WI (a32 w (i:Int) p):=by
 obtain ⟨n,hg,hn,hid,hni,hlt⟩:=a4z h hi;have hf:s8 p:=hp.fits (by decide);have hr:=b1E hni hf;have hln:=c1D n p;have hms:=MI.okl hr.ms;have hal:=h.al;unfold b95 a32;rw [hn,show decide ((w.d8.length:Int)>=60)=decide (60<=w.d8.length) by simp;omega,a9l,hg,f8y,e6O hni hp,f8y];cases hd:decide (60<=w.d8.length)
 ·simp only [g00];simp only [decide_eq_false_iff_not] at hd;rw [c7t];cases hc:L6 n p
  ·simp only [g00];rw [a6s _ (b0F (by omega)) hms,f8y,a9n _ (by simp [s8]),a3h];exact ⟨rfl,(h.put (hr.id.trans hid) hr.ni).send hr.ms⟩
  ·simp only [g0Z];rw [v5 (by have:=hp.1;simp;omega),v5 (by omega),a6s _ (b0F (by omega)) hms,f8y,a9n _ (by simp [s8]),a3h];refine ⟨rfl,WI.send (w:=O0 (e0h w ⟨(K9 n p).1.b8.a5,p⟩) (i:Int) (K9 n p).1) (WI.put (w:=e0h w ⟨(K9 n p).1.b8.a5,p⟩) (h.addAsked (by omega) ?_) (hr.id.trans hid) hr.ni) hr.ms⟩;rw [b6k hc];obtain ⟨w1,w2⟩:=b2q hni hf hc;obtain ⟨c1,c2,c3⟩:=b97.1 hc;unfold Z9;have:=hni.id;have:=hni.sq;simp only [f8D,H7,w2,and_true];show (0<=n.Id/\n.Id<=2)/\1<=n.Seq+1/\n.Seq+1<=1000
   omega
 ·exact ⟨rfl,h⟩
theorem c0u{n:j6}(h:NI n)(m:l8):(W7 n m).2.1.length<=60/\(W7 n m).2.2.length<=1:=by
 have hkl:=h.kl;have al:∀n:j6,(U7 n).2.length<=1:=fun n=>by
  rcases a9M n with q|⟨k,_,_,q⟩<;>rw [q]<;>simp
 have ll:∀(n:j6) (e:m4),(Y5 n e).2.1.length<=3/\(Y5 n e).2.2.length<=1:=fun n e=>⟨a8b _,al _⟩
 have nl:(a4j n m).length<=40:=by
  unfold a4j;have:∀d k:Nat,((f8I d).map fun j=>a1l n m (k+j)).flatten.length<=d:=by
   intro d k;rw [List.length_flatten,g0H];have hs:∀(l:List Nat),((l.map (List.length ∘ fun j=>a1l n m (k+j))).sum)<=l.length:=by
    intro l;induction l with
    | nil=>simp
    | cons x l ih=>
     simp only [f9l,List.sum_cons,f9J,Function.comp];have:(a1l n m (k+x)).length<=1:=by
      unfold a1l;cases n.a6[k+x]?<;>simp
     omega
   have:=hs (f8I d);rwa [List.length_range] at this
  have:=this (n.a6.length-m.g8.toNat) m.g8.toNat;omega
 unfold W7;cases m.a9==1
 ·cases m.a9==2
  ·cases m.a9==3
   ·cases m.a9==4
    ·cases m.a9==5
     ·cases m.a9==6
      ·cases m.a9==7
       ·cases m.a9==8
        ·exact ⟨by simp,by simp⟩
        ·exact ⟨by simp only [g0Z,g00];omega,by simp⟩
       ·refine ⟨?_,by simp⟩;simp only [g0Z,g00,a1H];cases n.d6==0||(decide (4<=n.f0.length)||N6 n.a6 m.g9.a5)
        ·exact f9m (a8b _) (by omega)
        ·simp
      ·exact ⟨by simp,by simp⟩
     ·simp only [g0Z,g00,a2I];cases decide (m.g8<(n.a6.length:Int))
      ·cases decide (m.g8>(n.a6.length:Int))
       ·have:=ll n m.g9;exact ⟨by simp only [g00];omega,by simp only [g00];omega⟩
       ·exact ⟨by simp,by simp⟩
      ·exact ⟨by simp,by simp⟩
    ·simp only [g0Z,g00,a2M];cases n.d6 != 3||(m.a8 != n.a8||m.g8 != (n.a6.length:Int))
     ·cases N7 (n.a7.set m.c9.toNat true)
      ·exact ⟨by simp,by simp⟩
      ·have h1:=ll {n with a7:=n.a7.set m.c9.toNat true} n.c8;have h2:=a06 n.Id ⟨5,0,0,0,(n.a6.length:Int),n.c8,[]⟩;exact ⟨by simp only [g0Z,g00,f8M];omega,by simp only [g0Z,g00];omega⟩
     ·exact ⟨by simp,by simp⟩
   ·refine ⟨?_,by simp⟩;simp only [g0Z,g00,a1I];cases L2 n.Acc m.a8 m.g8 m.g9<;>simp
  ·refine ⟨?_,by simp⟩;simp only [g0Z,g00,a1A];cases n.d6 != 1||m.a8 != n.a8
   ·cases N7 (n.c9.set m.c9.toNat true)
    ·simp
    ·exact f9m (a8b _) (by omega)
   ·simp
 ·refine ⟨?_,by simp⟩;simp only [g0Z,a2g];cases I6 n.Acc m.a8<;>simp
theorem e4Z{w:m5}(h:WI w)(e:s6):a9K w e=some (a1f w e)/\WI (a1f w e):=by
 have hml:=h.ml;unfold a9K a1f;by_cases h0:e.A<0
 ·rw [show decide (e.A<0)=true by simpa using h0,show decide (0<=e.A)=false by simp;omega];exact ⟨rfl,h⟩
 ·obtain ⟨k,hk⟩:∃k:Nat,e.A=(k:Int):=⟨e.A.toNat,by omega⟩
  rw [hk,show decide ((k:Int)<0)=false by simp,show decide (0<=(k:Int))=true by simp,f9b];simp only [g0Z,g00];by_cases hl:k<w.d7.length
  ·rw [show decide ((k:Int)>=(w.d7.length:Int))=false by simp;omega,t0 hl,f8z hl];have hm:=h.ms _ (f8C hl);generalize w.d7[k]=m at hm;simp only [g00,f8y,b7i hm.ok];cases e.a9==4
   ·simp only [g00];rw [e8u hl hml];cases e.a9==3
    ·simp only [g00,f8y];have ho:=h.off (k:Int);have ht:=hm.to;obtain ⟨t,htt⟩:∃t:Nat,m.To=(t:Int):=⟨m.To.toNat,by omega⟩
     obtain ⟨n,hg,hn,hid,hni,hlt⟩:=a4z ho (i:=t) (by omega);have hn':I1 w (t:Int)=n:=hn;have hr:=b3C hni hm;obtain ⟨l1,l2⟩:=c0u hni m;rw [htt,a9l,hg,f8y,e68 hni hm,f8y,hn'];rw [a6s _ (b0F (by omega)) (MI.okl hr.ms),f8y,a9n _ (by unfold s8;omega)];exact ⟨rfl,((ho.put (hr.id.trans hid) hr.ni).send hr.ms).tell hr.ts⟩
    ·exact ⟨rfl,h.off _⟩
   ·simp only [g0Z];have hs:∀x∈[m],MI x:=fun x hx=>by rw [f8H.1 hx];exact hm
    rw [a6s _ (b0F (by simp)) (MI.okl hs)];exact ⟨rfl,h.send hs⟩
  ·rw [show decide ((k:Int)>=(w.d7.length:Int))=true by simp;omega,f8Y (by omega)];exact ⟨rfl,h⟩
def R9(e:s6):Prop:=A2 32 okT e.i6
theorem c47(n:j6):(W2 n).2.length<=6:=by
 have l0:=a06 n.Id ⟨8,0,0,0,(n.a6.length:Int),zE,[]⟩;unfold W2;cases n.d6==1
 ·cases n.d6==2
  ·cases n.d6==3
   ·cases n.i9
    ·simp only [g00];omega
    ·have:=a06 n.Id ⟨7,0,0,0,0,n.b8,[]⟩;simp only [g0Z,g00,f8M];omega
   ·have:=a06 n.Id ⟨3,0,0,n.a8,(n.a6.length:Int),n.c8,[]⟩;simp only [g0Z,g00,f8M];omega
  ·have:=a8b n;simp only [g0Z,g00,f8M];omega
 ·have:=a06 n.Id ⟨1,0,0,n.a8,(n.a6.length:Int),zE,[]⟩;simp only [g0Z,f8M];omega
theorem b9t(n:j6):(Y7 n).2.length<=3:=by
 unfold Y7;cases decide (M2 n.Acc.i0 n.Id<0)
 ·exact a06 _ _
 ·simp
theorem c6O{w:m5}{i:Nat}{n:j6}(h:w.a0[i]?=some n):O0 w (i:Int) n=w:=by
 unfold O0;rw [f9b];obtain ⟨hi,rfl⟩:=f8G.1 h;rw [g0J]
theorem e7o{w:m5}(h:WI w){i:Nat}(hi:i<3){p:List n8}(hp:A2 32 okT p):WI (a32 w (i:Int) p):=by
 obtain ⟨n,hg,hn,hid,hni,hlt⟩:=a4z h hi;have hf:s8 p:=hp.fits (by decide);have hr:=b1E hni hf;unfold a32;rw [hn];cases hd:decide (60<=w.d8.length)
 ·simp only [g00];simp only [decide_eq_false_iff_not] at hd;rw [c7t];cases hc:L6 n p
  ·simp only [g00];exact (h.put (hr.id.trans hid) hr.ni).send hr.ms
  ·simp only [g0Z];refine WI.send (w:=O0 (e0h w ⟨(K9 n p).1.b8.a5,p⟩) (i:Int) (K9 n p).1) (WI.put (w:=e0h w ⟨(K9 n p).1.b8.a5,p⟩) (h.addAsked (by omega) ?_) (hr.id.trans hid) hr.ni) hr.ms;rw [b6k hc];obtain ⟨w1,w2⟩:=b2q hni hf hc;obtain ⟨c1,c2,c3⟩:=b97.1 hc;unfold Z9;have:=hni.id;have:=hni.sq;simp only [f8D,H7,w2,and_true];show (0<=n.Id/\n.Id<=2)/\1<=n.Seq+1/\n.Seq+1<=1000
   omega
 ·exact h
theorem e5D{w:m5}(h:WI w)(e:s6):WI (a1f w e):=by
 unfold a1f;by_cases h0:e.A<0
 ·rw [show decide (0<=e.A)=false by simp;omega];exact h
 ·obtain ⟨k,hk⟩:∃k:Nat,e.A=(k:Int):=⟨e.A.toNat,by omega⟩
  rw [hk,show decide (0<=(k:Int))=true by simp,f9b];simp only [g0Z];by_cases hl:k<w.d7.length
  ·rw [f8z hl];have hm:=h.ms _ (f8C hl);generalize w.d7[k]=m at hm;simp only;cases e.a9==4
   ·simp only [g00];cases e.a9==3
    ·simp only [g00];have ho:=h.off (k:Int);have ht:=hm.to;obtain ⟨t,htt⟩:∃t:Nat,m.To=(t:Int):=⟨m.To.toNat,by omega⟩
     obtain ⟨n,hg,hn,hid,hni,hlt⟩:=a4z ho (i:=t) (by omega);have hn':I1 w (t:Int)=n:=hn;have hr:=b3C hni hm;rw [htt,hn'];exact ((ho.put (hr.id.trans hid) hr.ni).send hr.ms).tell hr.ts
    ·exact h.off _
   ·simp only [g0Z];have hs:∀x∈[m],MI x:=fun x hx=>by rw [f8H.1 hx];exact hm
    exact h.send hs
  ·rw [f8Y (by omega)];exact h
theorem d4W{w:m5}(h:WI w){e:s6}(he:A2 32 okT e.i6):WI (E8 w e):=by
 have n2:=e5D h e;unfold E8;cases e.a9==2||(e.a9==3||e.a9==4)
 ·simp only [g00];cases hA:p9 e.A 0 2
  ·exact h
  rw [H7] at hA;obtain ⟨i,hi⟩:∃i:Nat,e.A=(i:Int):=⟨e.A.toNat,by omega⟩
  obtain ⟨n,hg,hn,hid,hni,hlt⟩:=a4z h (i:=i) (by omega);rw [hi,hn];simp only [f8F,g00];cases e.a9==1
  ·cases e.a9==5
   ·cases e.a9==6
    ·cases e.a9==7
     ·exact h
     ·exact h.put hid hni.fall
    ·have hr:=a9R hni;exact (h.put (hr.id.trans hid) hr.ni).send hr.ms
   ·have hr:=a91 hni;exact (h.put (hr.id.trans hid) hr.ni).send hr.ms
  ·exact e7o h (by omega) he
 ·exact n2
theorem c8N{w:m5}(h:WI w){e:s6}(he:R9 e):b3n w e=some (E8 w e)/\WI (E8 w e):=by
 obtain ⟨n1,n2⟩:=e4Z h e;unfold b3n E8;rw [n1];cases e.a9==2
 ·cases e.a9==3
  ·cases e.a9==4
   ·simp only [g00,Bool.or_self];by_cases h0:e.A<0
    ·rw [show decide (e.A<0)=true by simpa using h0,show p9 e.A 0 2=false by unfold p9;simp;omega];exact ⟨rfl,h⟩
    ·by_cases h3:e.A>=3
     ·rw [show decide (e.A<0)=false by simpa using h0,show decide (e.A>=3)=true by simpa using h3,show p9 e.A 0 2=false by unfold p9;simp;omega];exact ⟨rfl,h⟩
     ·obtain ⟨i,hi⟩:∃i:Nat,e.A=(i:Int):=⟨e.A.toNat,by omega⟩
      rw [show decide (e.A<0)=false by simpa using h0,show decide (e.A>=3)=false by simpa using h3,show p9 e.A 0 2=true by unfold p9;simp;omega,hi];simp only [g00,f8F];obtain ⟨n,hg,hn,hid,hni,hlt⟩:=a4z h (i:=i) (by omega);rw [a9l,hg,f8y,hn];cases e.a9==1
      ·simp only [g00];cases e.a9==5
       ·simp only [g00];cases e.a9==6
        ·simp only [g00];cases e.a9==7
         ·simp only [g00];rw [a6s _ (by simp [s8]) (by simp),f8y,a9n _ (by simp [s8]),a3h,c7b];exact ⟨congrArg some (c6O hg),h⟩
         ·simp only [g0Z];rw [f3e hni,f8y,a6s _ (by simp [s8]) (by simp),f8y,a9n _ (by simp [s8]),a3h,c7b];exact ⟨rfl,h.put hid hni.fall⟩
        ·simp only [g0Z];have hr:=a9R hni;have hl:=c47 n;rw [f5i hni,f8y,a6s _ (b0F (by omega)) (MI.okl hr.ms),f8y,a9n _ (by simp [s8]),a3h];exact ⟨rfl,(h.put (hr.id.trans hid) hr.ni).send hr.ms⟩
       ·simp only [g0Z];have hr:=a91 hni;have hl:=b9t n;rw [e1Y hni,f8y,a6s _ (b0F (by omega)) (MI.okl hr.ms),f8y,a9n _ (by simp [s8]),a3h];exact ⟨rfl,(h.put (hr.id.trans hid) hr.ni).send hr.ms⟩
      ·simp only [g0Z];obtain ⟨a1,a2⟩:=e8x h (i:=i) (by omega) he;unfold c6I;rw [hi,show (⟨w.a0.set (i:Int).toNat n,w.d7,w.d8,w.Told⟩:m5)=w from c6O hg,a1];exact ⟨rfl,a2⟩
   ·exact ⟨rfl,n2⟩
  ·exact ⟨rfl,n2⟩
 ·exact ⟨rfl,n2⟩
theorem WI.open:WI R7:=by
 refine ⟨rfl,?_,by simp [R7],by simp [R7],by simp [R7],by simp [R7],by simp [R7],by simp [R7]⟩;intro i n hn;match i,hn with
 | 0,hn=>injection hn with hn;subst hn;exact ⟨rfl,.open (by omega)⟩
 | 1,hn=>injection hn with hn;subst hn;exact ⟨rfl,.open (by omega)⟩
 | 2,hn=>injection hn with hn;subst hn;exact ⟨rfl,.open (by omega)⟩
 | i+3,hn=>simp [R7] at hn
theorem e40:c07=some R7:=by
 have e:∀(ns:List j6) (i:Nat),i<3->ns.length<=3->a4v ns (i:Int)=some (.nxt (ns++[D4 (i:Int)],((i+1:Nat):Int))):=by
  intro ns i hi hn;unfold a4v c2M;rw [show decide ((i:Int)<3)=true by simp;omega,show decide ((i:Int)<0)=false by simp,show decide ((i:Int)>=3)=false by simp;omega];simp only [g0Z,g00,f8y];rw [v5 (by omega),C4 (by omega) (by omega)];rfl
 have h0:=E7 (body:=fun s:(List j6)×Int=>a4v s.1 s.2) (s:=([],((0:Nat):Int))) (e [] 0 (by omega) (by simp));have h1:=E7 (body:=fun s:(List j6)×Int=>a4v s.1 s.2) (s:=([D4 0],((1:Nat):Int))) (e [D4 0] 1 (by omega) (by simp));have h2:=E7 (body:=fun s:(List j6)×Int=>a4v s.1 s.2) (s:=([D4 0,D4 1],((2:Nat):Int))) (e [D4 0,D4 1] 2 (by omega) (by simp));have h3:=C8 (body:=fun s:(List j6)×Int=>a4v s.1 s.2) (s:=([D4 0,D4 1,D4 2],((3:Nat):Int))) (show a4v [D4 0,D4 1,D4 2] 3=_ from rfl);unfold c07;rw [show o8 (fun s:(List j6)×Int=>a4v s.1 s.2) ([],0)=_ from h0.trans (h1.trans (h2.trans h3))];rfl
theorem e2T{w:m5}(h:L3 w):c03 w=some w:=by
 obtain ⟨h1,h2,h3,h4⟩:=h;have b1:=h1.1;have b2:=h2.1;have b3:=h3.1;unfold c03;rw [v5 (b5p h4),a60 (body:=fun s:(List j6)×Int=>b2p w s.1 s.2) w.a0 (h1.fits (by decide)) (fun l=>l) (by
  intro k hk;have hn:((w.a0.take k).length+1)*392<=140737488355328:=f9m (f9g 392 (show (w.a0.take k).length+1<=w.a0.length by rw [f8S];omega)) (f9m b1 (by decide));unfold b2p;rw [w6 _ k hk,t0 hk];simp only [g0Z,f8y,b3k (h1.2 _ (f8C hk)),v5 hn]) (by
  unfold b2p;rw [z8];rfl)]
 simp only [f8y,l9.go];unfold c42;rw [a60 (body:=fun s:(List l8)×Int=>b2t w s.1 s.2) w.d7 (h2.fits (by decide)) (fun l=>l) (by
  intro k hk;have hn:((w.d7.take k).length+1)*152<=140737488355328:=f9m (f9g 152 (show (w.d7.take k).length+1<=w.d7.length by rw [f8S];omega)) (f9m b2 (by decide));unfold b2t;rw [w6 _ k hk,t0 hk];simp only [g0Z,f8y,b7i (h2.2 _ (f8C hk)),v5 hn]) (by
  unfold b2t;rw [z8];rfl)]
 simp only [f8y,l9.go];unfold c1H;rw [a60 (body:=fun s:(List x8)×Int=>b2J w s.1 s.2) w.d8 (h3.fits (by decide)) (fun l=>l) (by
  intro k hk;unfold b2J;have hp:=(h3.2 _ (f8C hk)).2;have hn:((w.d8.take k).length+1)*40<=140737488355328:=f9m (f9g 40 (show (w.d8.take k).length+1<=w.d8.length by rw [f8S];omega)) (f9m b3 (by decide));rw [w6 _ k hk,t0 hk];simp only [g0Z,f8y,v5 (b5p hp),v5 hn,f9y]) (by
  unfold b2J;rw [z8];rfl)]
 rfl
theorem Y2{k a:Int}{p:List n8}(h:p.length<=10):R9 ⟨k,a,p⟩:=⟨by show p.length*32<=_;omega,fun _ _=>trivial⟩
theorem e0I(n:Int):∃v,b7V 1 n=some v:=by
 unfold b7V;cases decide ((1:Int)>n)<;>exact ⟨_,rfl⟩
theorem e3N{r:t8}{m:Nat}(h:Rd r m)(hm:m<=1000000)(w:m5):∃e r',b73 r w=some (e,r',w)/\Rd r' (m+210)/\R9 e:=by
 obtain ⟨v,hv⟩:=e0I (w.d7.length:Int);obtain ⟨a,r1,e1,h1,_⟩:=J2 h (by omega) v;obtain ⟨b,r2,e2,h2,_⟩:=J2 h1 (by omega) 24;have ask:∃e r',((G2 r2 3).bind fun p=>(a5A p.2).bind fun q=>some (s6.mk 1 p.1 q.1,q.2,w))=some (e,r',w)/\Rd r' (m+210)/\R9 e:=by
  obtain ⟨c,r3,e3,h3,_⟩:=J2 h2 (by omega) 3;obtain ⟨p,r4,e4,h4,hp⟩:=c1b h3 (by omega);rw [e3,f8y,e4,f8y];exact ⟨_,_,rfl,h4.mono (by omega),Y2 hp⟩
 obtain ⟨c3,r3,e3,h3,_⟩:=J2 h2 (by omega) 3;obtain ⟨c4,r4,e4,h4,_⟩:=J2 h2 (by omega) 2;obtain ⟨c5,r5,e5,h5,_⟩:=J2 h4 (by omega) 3;obtain ⟨c6,r6,e6,h6,_⟩:=J2 h3 (by omega) 10;obtain ⟨c7,r7,e7,h7,_⟩:=J2 h6 (by omega) 5;obtain ⟨p,r8,e8,h8,hp⟩:=c1b h3 (by omega);have z:∀(k x:Int) (r:t8) (j:Nat),Rd r j->j<=m+210->∃e r',(some (s6.mk k x [],r,w):Option (s6×t8×m5))=some (e,r',w)/\Rd r' (m+210)/\R9 e:=fun k x r j hr hj=>⟨_,_,rfl,hr.mono hj,Y2 (by simp)⟩
 unfold b73;rw [hv,f8y,e1,f8y,e2,f8y];simp only [e3,e4,e5,e6,e7,e8,f8y];cases b==0
 ·cases b==1
  ·cases b==2
   ·cases b==3
    ·cases b==4
     ·cases b==5
      ·cases b==6
       ·cases b==7
        ·cases b==8
         ·cases b==9
          ·cases b==10
           ·exact z _ _ _ _ h2 (by omega)
           ·cases c3==0
            ·exact z _ _ _ _ h3 (by omega)
            ·exact z _ _ _ _ h7 (by omega)
          ·exact z _ _ _ _ h2 (by omega)
         ·exact z _ _ _ _ h2 (by omega)
        ·cases c4==0
         ·exact z _ _ _ _ h4 (by omega)
         ·exact z _ _ _ _ h5 (by omega)
       ·exact z _ _ _ _ h3 (by omega)
      ·exact z _ _ _ _ h3 (by omega)
     ·exact z _ _ _ _ h3 (by omega)
    ·exact ⟨_,_,rfl,h8.mono (by omega),Y2 hp⟩
   ·exact ⟨_,_,rfl,h8.mono (by omega),Y2 hp⟩
  ·exact ⟨_,_,rfl,h8.mono (by omega),Y2 hp⟩
 ·exact ⟨_,_,rfl,h8.mono (by omega),Y2 hp⟩
structure V6(w:m5)(out:List s6)(b:Nat):Prop where
 w:WI w
 e:∀x∈out,R9 x
 l:out.length<=b
theorem d43{out:List s6}{e:s6}(h:∀x∈out,R9 x)(he:R9 e):∀x∈out++[e],R9 x:=by
 intro x hx;rcases f8B.1 hx with q|q
 ·exact h x q
 ·rw [f8H.1 q];exact he
theorem a2j{w:m5}{out:List s6}{b:Nat}(h:V6 w out b)(hb:b<=1000){e:s6}(he:R9 e):a1r w out e=some (E8 w e,out++[e])/\V6 (E8 w e) (out++[e]) (b+1):=by
 obtain ⟨h1,h2⟩:=c8N h.w he;have hl:=h.l;unfold a1r;rw [h1,f8y,v5 (by omega)];exact ⟨rfl,h2,d43 h.e he,by simp;omega⟩
theorem f8a{r:t8}{m:Nat}(h:Rd r m)(hm:m<=1000){w:m5}(hw:WI w){n:Nat}(hn:n<=90):∃l r',c0r r w (n:Int)=some (l,r')/\(∀e∈l,R9 e)/\l.length<=90/\Rd r' 1000000:=by
 have hloop:=c5r (body:=fun s:t8×(List s6)×(List n6)×(List x8)×(List l8)×(List j6)×Int=>b8E (n:Int) s.1 s.2.1 s.2.2.1 s.2.2.2.1 s.2.2.2.2.1 s.2.2.2.2.2.1 s.2.2.2.2.2.2)
  (fun k s=>k<=n/\s.2.2.2.2.2.2=((n-k:Nat):Int)/\WI ⟨s.2.2.2.2.2.1,s.2.2.2.2.1,s.2.2.2.1,s.2.2.1⟩/\(∀e∈s.2.1,R9 e)/\s.2.1.length=n-k/\Rd s.1 (m+210*(n-k)))
  (fun x => ∃ (r':t8) (l:List s6),x=.brk (r',l)/\(∀e∈l,R9 e)/\l.length<=90/\Rd r' 1000000) (by
   rintro k ⟨r1,out,told,asked,net,nodes,i⟩ ⟨hk,hi,hw,he,hl,hr⟩
   simp only at hi hw he hl hr;unfold b8E;rw [hi];cases k with
   | zero=>
    rw [show decide (((n-0:Nat):Int)<(n:Int))=false by simp];exact ⟨_,rfl,_,_,rfl,he,by simp only;omega,hr.mono (by omega)⟩
   | succ k=>
    rw [show decide (((n-(k+1):Nat):Int)<(n:Int))=true by simp;omega];obtain ⟨e,r2,ee,hr2,hee⟩:=e3N hr (by omega) ⟨nodes,net,asked,told⟩;obtain ⟨d1,d2⟩:=c8N hw hee;simp only [g0Z,ee,f8y];rw [v5 trivial,v5 trivial,v5 trivial,v5 trivial,v5 (by omega),a6b hw.ok,Y6.2 hw,e2T hw.ok];simp only [f8y,g0Z,d1,l9.go,c1V];refine ⟨_,rfl,k,by omega,by omega,?_,d2,d43 he hee,by simp;omega,hr2.mono (by omega)⟩;rw [C4 (by omega) (by omega)];simp only;omega) (k:=n) (s:=(r,[],w.Told,w.d8,w.d7,w.a0,0)) ⟨f8R _,by simp,hw,by simp,by simp,by simpa using h⟩
 obtain ⟨x,hx,r',l,rfl,h1,h2⟩:=hloop;unfold c0r;rw [hx];exact ⟨l,r',rfl,h1,h2⟩
theorem e89{w:m5}(h:0<w.d7.length):E8 w ⟨3,0,[]⟩=a3I w 0:=by
 unfold E8 a1f;simp only [show ((3:Int)==2)=false from rfl,show ((3:Int)==3)=true from rfl,show ((3:Int)==4)=false from rfl,Bool.or_false,f9n,g0Z,g00,show decide ((0:Int)<=0)=true from rfl,Int.toNat_zero];rw [f8z h]
theorem f5W(w:m5)(a:Int)(p:List n8):(E8 w ⟨5,a,p⟩).d7.length<=w.d7.length+3:=by
 unfold E8;simp only [show ((5:Int)==2)=false from rfl,show ((5:Int)==3)=false from rfl,show ((5:Int)==4)=false from rfl,show ((5:Int)==1)=false from rfl,show ((5:Int)==5)=true from rfl,Bool.or_false,g0Z,g00];cases !p9 a 0 2
 ·have:=b9t (I1 w a);simp only [g00,a00,O0,f8M,f8S];omega
 ·simp
theorem c9K{b:Nat}:∀(d:Nat) (w:m5) (out:List s6),w.d7.length=d->V6 w out b->b+d<=1000->∃w' out',o8 (fun s:(List s6)×(List j6)×(List l8)×(List x8)×List n6=>a7p s.1 s.2.1 s.2.2.1 s.2.2.2.1 s.2.2.2.2) (out,w.a0,w.d7,w.d8,w.Told)=some (.brk (out',w'.a0,w'.d7,w'.d8,w'.Told))/\w'.d7=[]/\V6 w' out' (b+d)
 | 0,w,out,hd,h,hb=>by
  refine ⟨w,out,C8 ?_,f8N hd,h⟩;show a7p out w.a0 w.d7 w.d8 w.Told=_
  unfold a7p;rw [show decide ((w.d7.length:Int)>0)=false from decide_eq_false (by omega)];rfl
 | d+1,w,out,hd,h,hb=>by
  obtain ⟨t1,t2⟩:=a2j h (by omega) (e:=⟨3,0,[]⟩) (Y2 (by simp));have hs:a7p out w.a0 w.d7 w.d8 w.Told=some (.nxt (out++[⟨3,0,[]⟩],(E8 w ⟨3,0,[]⟩).a0,(E8 w ⟨3,0,[]⟩).d7,(E8 w ⟨3,0,[]⟩).d8,(E8 w ⟨3,0,[]⟩).Told)):=by
   unfold a7p;rw [show decide ((w.d7.length:Int)>0)=true from decide_eq_true (by omega),g0Z,show (⟨w.a0,w.d7,w.d8,w.Told⟩:m5)=w from rfl,t1];rfl
  rw [E7 (body:=fun s:(List s6)×(List j6)×(List l8)×(List x8)×List n6=>a7p s.1 s.2.1 s.2.2.1 s.2.2.2.1 s.2.2.2.2) (s:=(out,w.a0,w.d7,w.d8,w.Told)) hs];obtain ⟨w',out',e1,e2,e3⟩:=c9K (b:=b+1) d (E8 w ⟨3,0,[]⟩) _ (by rw [e89 (by omega)];simp [a3I];omega) t2 (by omega);exact ⟨w',out',e1,e2,⟨e3.w,e3.e,by have:=e3.l;omega⟩⟩
theorem d4K{p:Int×t8}{B:Nat}(hB:B<=900):∀(i:Nat) (w:m5) (out:List s6) (b:Nat),V6 w out b->b+w.d7.length+4*i<=B->i<=100->∃w' out',o8 (fun s:(List n6)×(List x8)×(List l8)×(List j6)×(List s6)×Int=>b05 p s.1 s.2.1 s.2.2.1 s.2.2.2.1 s.2.2.2.2.1 s.2.2.2.2.2) (w.Told,w.d8,w.d7,w.a0,out,(i:Int))=some (.brk (out',w'.a0,w'.d7,w'.d8,w'.Told))/\V6 w' out' B
 | 0,w,out,b,h,hb,hi=>by
  refine ⟨w,out,C8 ?_,h.w,h.e,by have:=h.l;omega⟩;rfl
 | i+1,w,out,b,h,hb,hi=>by
  obtain ⟨w1,out1,e1,e2,e3⟩:=c9K (b:=b) w.d7.length w out rfl h (by omega);obtain ⟨t1,t2⟩:=a2j e3 (by omega) (e:=⟨5,p.1,[]⟩) (Y2 (by simp));have hs:b05 p w.Told w.d8 w.d7 w.a0 out ((i+1:Nat):Int)=some (.nxt ((E8 w1 ⟨5,p.1,[]⟩).Told,(E8 w1 ⟨5,p.1,[]⟩).d8,(E8 w1 ⟨5,p.1,[]⟩).d7,(E8 w1 ⟨5,p.1,[]⟩).a0,out1++[⟨5,p.1,[]⟩],(i:Int))):=by
   unfold b05;rw [show decide (((i+1:Nat):Int)>0)=true from decide_eq_true (by omega),g0Z,e1];simp only [f8y,l9.go,c7o];rw [show (⟨w1.a0,w1.d7,w1.d8,w1.Told⟩:m5)=w1 from rfl,t1,f8y,C4 (by omega) (by omega),show ((i+1:Nat):Int)-1=(i:Int) by omega]
  rw [E7 (body:=fun s:(List n6)×(List x8)×(List l8)×(List j6)×(List s6)×Int=>b05 p s.1 s.2.1 s.2.2.1 s.2.2.2.1 s.2.2.2.2.1 s.2.2.2.2.2) (s:=(w.Told,w.d8,w.d7,w.a0,out,((i+1:Nat):Int))) hs];have hn:=f5W w1 p.1 [];rw [e2] at hn;simp only [g0n,f9I] at hn;exact d4K hB i _ _ _ t2 (by omega) (by omega)
theorem f1a{r:t8}{m:Nat}(h:Rd r m)(hm:m<=1000){w:m5}{out:List s6}(hw:V6 w out 1):∃w' out' r',b8k r w out=some (w',out',r')/\V6 w' out' 130/\Rd r' (m+3):=by
 obtain ⟨a,r1,e1,h1,_⟩:=J2 h (by omega) 3;obtain ⟨v,r2,e2,h2,hv⟩:=b35 h1 (by omega) [3,8,20] (by simp) (by simp);obtain ⟨i,hi,hi20⟩:∃i:Nat,v=(i:Int)/\i<=20:=by
  simp at hv;rcases hv with rfl|rfl|rfl
  ·exact ⟨3,rfl,by omega⟩
  ·exact ⟨8,rfl,by omega⟩
  ·exact ⟨20,rfl,by omega⟩
 have hml:=hw.w.ml;obtain ⟨w',out',e3,e4⟩:=d4K (p:=(a,r1)) (B:=125) (by omega) i w out 1 hw (by omega) (by omega);have e4':V6 w' out' 125:=e4;unfold b8k;rw [e1,f8y,e2,f8y,hi,e3];simp only [f8y,l9.go,c61];cases decide ((w'.d7.length:Int)>0)
 ·simp only [g00,f8y,l9.go,c0c];obtain ⟨t1,t2⟩:=a2j e4' (by omega) (e:=⟨7,a,[]⟩) (Y2 (by simp));rw [show (⟨w'.a0,w'.d7,w'.d8,w'.Told⟩:m5)=w' from rfl,t1];exact ⟨_,_,_,rfl,⟨t2.w,t2.e,by have:=t2.l;simp only;omega⟩,h2.mono (by omega)⟩
 ·obtain ⟨c,r3,e5,h5,_⟩:=J2 h2 (by omega) (w'.d7.length:Int);obtain ⟨t1,t2⟩:=a2j e4' (by omega) (e:=⟨2,c,[]⟩) (Y2 (by simp));obtain ⟨u1,u2⟩:=a2j t2 (by omega) (e:=⟨7,a,[]⟩) (Y2 (by simp));simp only [g0Z,e5,f8y];rw [show (⟨w'.a0,w'.d7,w'.d8,w'.Told⟩:m5)=w' from rfl,t1];simp only [f8y,l9.go,c0c];rw [show (⟨(E8 w' ⟨2,c,[]⟩).a0,(E8 w' ⟨2,c,[]⟩).d7,(E8 w' ⟨2,c,[]⟩).d8,(E8 w' ⟨2,c,[]⟩).Told⟩:m5)=E8 w' ⟨2,c,[]⟩ from rfl,u1];exact ⟨_,_,_,rfl,⟨u2.w,u2.e,by have:=u2.l;simp only;omega⟩,h5.mono (by omega)⟩
theorem f7S{M:Nat}(hM:M<=100000){r:t8}{w:m5}{out:List s6}(h:V6 w out 290)(hr:Rd r (M+10*out.length)):∃w' out' r',o8 (fun s:t8×(List j6)×(List l8)×(List x8)×(List n6)×List s6=>b3g s.1 s.2.1 s.2.2.1 s.2.2.2.1 s.2.2.2.2.1 s.2.2.2.2.2) (r,w.a0,w.d7,w.d8,w.Told,out)=some (.brk (r',w'.a0,w'.d7,w'.d8,w'.Told,out'))/\V6 w' out' (max out.length 201)/\Rd r' (M+10*out'.length+2):=by
 have hloop:=c5r (body:=fun s:t8×(List j6)×(List l8)×(List x8)×(List n6)×List s6=>b3g s.1 s.2.1 s.2.2.1 s.2.2.2.1 s.2.2.2.2.1 s.2.2.2.2.2)
  (fun k s => ∃w:m5,s.2=(w.a0,w.d7,w.d8,w.Told,s.2.2.2.2.2)/\V6 w s.2.2.2.2.2 (max out.length 201)/\k=300-s.2.2.2.2.2.length/\Rd s.1 (M+10*s.2.2.2.2.2.length))
  (fun x => ∃ (w':m5) (out':List s6) (r':t8),x=.brk (r',w'.a0,w'.d7,w'.d8,w'.Told,out')/\V6 w' out' (max out.length 201)/\Rd r' (M+10*out'.length+2)) (by
   rintro k ⟨r1,s⟩ ⟨w1,hs,hf,hk,hr1⟩
   simp only at hs hf hk hr1;obtain ⟨nodes,net,asked,told,o⟩:=s;simp only at hs hf hk hr1;injection hs with e1 e2;injection e2 with e2 e3;injection e3 with e3 e4;injection e4 with e4 e5;subst e1;subst e2;subst e3;subst e4;have hl:=hf.l;have hol:=h.l;unfold b3g;cases decide ((w1.d7.length:Int)>0)
   ·exact ⟨_,rfl,w1,o,r1,rfl,hf,hr1.mono (by omega)⟩
   ·obtain ⟨a,r2,p1,p2,_⟩:=J2 hr1 (by omega) 9;simp only [g0Z,p1,f8y];cases decide (a>0)
    ·exact ⟨_,rfl,w1,o,r2,rfl,hf,p2.mono (by omega)⟩
    ·simp only [g0Z];by_cases h200:o.length<200
     ·rw [show decide ((o.length:Int)<200)=true from decide_eq_true (by omega)];obtain ⟨b,r3,q1,q2,_⟩:=J2 p2 (by omega) 8;have go:∀(w2:m5) (o2:List s6) (r4:t8) (j:Nat),V6 w2 o2 (max out.length 201)->o2.length<=200->Rd r4 j->j<=M+10*o2.length+4->o.length<=o2.length->∃st,b63 r4 w2.a0 w2.d7 w2.d8 w2.Told o2=some st/\match st with
        | .ret _=>False
        | .brk _=>False
        | .nxt t => ∃k',k'<k/\∃w:m5,t.2=(w.a0,w.d7,w.d8,w.Told,t.2.2.2.2.2)/\V6 w t.2.2.2.2.2 (max out.length 201)/\k'=300-t.2.2.2.2.2.length/\Rd t.1 (M+10*t.2.2.2.2.2.length):=by
       intro w2 o2 r4 j hf2 ho2 hr4 hj hle;obtain ⟨c,r5,x1,x2,_⟩:=J2 hr4 (by omega) (w2.d7.length:Int);obtain ⟨d,r6,y1,y2,_⟩:=b35 x2 (by omega) [0,0,c] (by simp) (by simp);obtain ⟨t1,t2⟩:=a2j (b:=200) ⟨hf2.w,hf2.e,ho2⟩ (by omega) (e:=⟨2,d,[]⟩) (Y2 (by simp));unfold b63;rw [x1,f8y,y1,f8y,show (⟨w2.a0,w2.d7,w2.d8,w2.Told⟩:m5)=w2 from rfl,t1];refine ⟨_,rfl,300-(o2++[(⟨2,d,[]⟩:s6)]).length,by simp;omega,E8 w2 ⟨2,d,[]⟩,rfl,⟨t2.w,t2.e,by simp;omega⟩,rfl,y2.mono (by simp;omega)⟩
      simp only [g0Z,q1,f8y];cases b==0
      ·obtain ⟨st,g1,g2⟩:=go w1 o r3 _ hf (by omega) q2 (by omega) (f8R _);refine ⟨st,g1,?_⟩;cases st with
       | ret _=>exact g2.elim
       | brk _=>exact g2.elim
       | nxt t=>exact g2
      ·obtain ⟨c,r4,x1,x2,_⟩:=J2 q2 (by omega) (w1.d7.length:Int);obtain ⟨t1,t2⟩:=a2j (b:=199) ⟨hf.w,hf.e,by omega⟩ (by omega) (e:=⟨4,c,[]⟩) (Y2 (by simp));simp only [g0Z,x1,f8y];rw [show (⟨w1.a0,w1.d7,w1.d8,w1.Told⟩:m5)=w1 from rfl,t1];simp only [f8y,l9.go];have hl2:(o++[(⟨4,c,[]⟩:s6)]).length=o.length+1:=by simp
       obtain ⟨st,g1,g2⟩:=go (E8 w1 ⟨4,c,[]⟩) (o++[⟨4,c,[]⟩]) r4 _ ⟨t2.w,t2.e,by omega⟩ (by omega) x2 (by omega) (by omega);refine ⟨st,g1,?_⟩;cases st with
       | ret _=>exact g2.elim
       | brk _=>exact g2.elim
       | nxt t=>exact g2
     ·rw [show decide ((o.length:Int)<200)=false from decide_eq_false (by omega)];exact ⟨_,rfl,w1,o,r2,rfl,hf,p2.mono (by omega)⟩) (k:=300-out.length) (s:=(r,w.a0,w.d7,w.d8,w.Told,out)) ⟨w,rfl,⟨h.w,h.e,by simp only;omega⟩,rfl,hr⟩
 obtain ⟨x,hx,w',out',r',rfl,h1,h2⟩:=hloop;exact ⟨w',out',r',hx,h1,h2⟩
theorem d42:∀(i:Nat) (r:t8) (w:m5) (out:List s6),i<=6->V6 w out (201+3*(6-i))->Rd r (10000-1000*i+10*out.length)->∃r' out',o8 (fun s:t8×(List j6)×(List l8)×(List x8)×(List n6)×(List s6)×Int=>b0H s.1 s.2.1 s.2.2.1 s.2.2.2.1 s.2.2.2.2.1 s.2.2.2.2.2.1 s.2.2.2.2.2.2) (r,w.a0,w.d7,w.d8,w.Told,out,(i:Int))=some (.brk (r',out'))/\(∀e∈out',R9 e)/\out'.length<=300/\Rd r' 1000000
 | 0,r,w,out,hi,h,hr=>⟨r,out,C8 rfl,h.e,by have:=h.l;omega,hr.mono (by have:=h.l;omega)⟩
 | i+1,r,w,out,hi,h,hr=>by
  have hl:=h.l;obtain ⟨a,r1,p1,p2,_⟩:=J2 hr (by omega) 3;obtain ⟨pr,r2,q1,q2,q3⟩:=c1b p2 (by omega);obtain ⟨t1,t2⟩:=a2j h (by omega) (e:=⟨1,a,pr⟩) (Y2 q3);have hlen:(out++[(⟨1,a,pr⟩:s6)]).length=out.length+1:=by simp
  obtain ⟨w3,o3,r3,x1,x2,x3⟩:=f7S (M:=10000-1000*(i+1)+201) (by omega) (w:=E8 w ⟨1,a,pr⟩) (out:=out++[⟨1,a,pr⟩]) (r:=r2) ⟨t2.w,t2.e,by omega⟩ (q2.mono (by omega));have x2l:=x2.l;obtain ⟨b,r4,y1,y2,_⟩:=J2 x3 (by omega) 4;have fin:∀(w4:m5) (o4:List s6) (r5:t8) (j:Nat),V6 w4 o4 (201+3*(6-(i+1))+2)->Rd r5 j->j<=10000-1000*(i+1)+300+10*o4.length->∃w5 o5 r6,b6M ((i+1:Nat):Int) r5 w4.a0 w4.d7 w4.d8 w4.Told o4=some (.nxt (r6,w5.a0,w5.d7,w5.d8,w5.Told,o5,(i:Int)))/\V6 w5 o5 (201+3*(6-i))/\Rd r6 (10000-1000*i+10*o5.length):=by
   intro w4 o4 r5 j hf hr5 hj;have hfl:=hf.l;obtain ⟨c,r6,z1,z2,_⟩:=J2 hr5 (by omega) 3;obtain ⟨u1,u2⟩:=a2j hf (by omega) (e:=⟨6,c,[]⟩) (Y2 (by simp));refine ⟨E8 w4 ⟨6,c,[]⟩,o4++[⟨6,c,[]⟩],r6,?_,⟨u2.w,u2.e,by have:=u2.l;omega⟩,z2.mono (by simp;omega)⟩;unfold b6M;rw [z1,f8y,show (⟨w4.a0,w4.d7,w4.d8,w4.Told⟩:m5)=w4 from rfl,u1,f8y,C4 (by omega) (by omega),show ((i+1:Nat):Int)-1=(i:Int) by omega]
  have hstep:∃w5 o5 r6,b0H r w.a0 w.d7 w.d8 w.Told out ((i+1:Nat):Int)=some (.nxt (r6,w5.a0,w5.d7,w5.d8,w5.Told,o5,(i:Int)))/\V6 w5 o5 (201+3*(6-i))/\Rd r6 (10000-1000*i+10*o5.length):=by
   unfold b0H;rw [show decide (((i+1:Nat):Int)>0)=true from decide_eq_true (by omega),g0Z,p1,f8y,q1,f8y,show (⟨w.a0,w.d7,w.d8,w.Told⟩:m5)=w from rfl,t1,f8y,x1];simp only [f8y,l9.go];unfold c1m;rw [y1,f8y];cases b==0
   ·cases b==1
    ·simp only [g00,f8y,l9.go];exact fin w3 o3 r4 _ ⟨x2.w,x2.e,by omega⟩ y2 (by omega)
    ·obtain ⟨c,r5,z1,z2,_⟩:=J2 y2 (by omega) 3;obtain ⟨u1,u2⟩:=a2j x2 (by omega) (e:=⟨5,c,[]⟩) (Y2 (by simp));simp only [g00,g0Z,z1,f8y];rw [show (⟨w3.a0,w3.d7,w3.d8,w3.Told⟩:m5)=w3 from rfl,u1];simp only [f8y,l9.go];exact fin (E8 w3 ⟨5,c,[]⟩) _ r5 _ ⟨u2.w,u2.e,by have:=u2.l;omega⟩ z2 (by simp;omega)
   ·obtain ⟨c,r5,z1,z2,_⟩:=J2 y2 (by omega) 3;obtain ⟨u1,u2⟩:=a2j x2 (by omega) (e:=⟨7,c,[]⟩) (Y2 (by simp));simp only [g0Z,z1,f8y];rw [show (⟨w3.a0,w3.d7,w3.d8,w3.Told⟩:m5)=w3 from rfl,u1];simp only [f8y,l9.go];exact fin (E8 w3 ⟨7,c,[]⟩) _ r5 _ ⟨u2.w,u2.e,by have:=u2.l;omega⟩ z2 (by simp;omega)
  obtain ⟨w5,o5,r6,s1,s2,s3⟩:=hstep;rw [E7 (body:=fun s:t8×(List j6)×(List l8)×(List x8)×(List n6)×(List s6)×Int=>b0H s.1 s.2.1 s.2.2.1 s.2.2.2.1 s.2.2.2.2.1 s.2.2.2.2.2.1 s.2.2.2.2.2.2) (s:=(r,w.a0,w.d7,w.d8,w.Told,out,((i+1:Nat):Int))) s1];exact d42 i r6 w5 o5 (by omega) s2 s3
theorem e6E{r:t8}{m:Nat}(h:Rd r m)(hm:m<=100):∃l r',b9D r=some (l,r')/\(∀e∈l,R9 e)/\l.length<=300/\Rd r' 1000000:=by
 obtain ⟨a,r1,p1,p2,_⟩:=J2 h (by omega) 3;obtain ⟨t1,t2⟩:=a2j (w:=R7) (out:=[]) (b:=0) ⟨WI.open,by simp,by simp⟩ (by omega) (e:=⟨5,a,[]⟩) (Y2 (by simp));obtain ⟨b,r2,q1,q2,_⟩:=J2 p2 (by omega) 3;unfold b9D;rw [e40,f8y,p1,f8y,t1,f8y,q1,f8y];have tail:∀(w:m5) (out:List s6) (r3:t8) (j:Nat),V6 w out 130->Rd r3 j->j<=200->∃l r',c0a r3 w.a0 w.d7 w.d8 w.Told out=some (l,r')/\(∀e∈l,R9 e)/\l.length<=300/\Rd r' 1000000:=by
  intro w out r3 j hf hr3 hj;obtain ⟨c,r4,x1,x2,x3,x4⟩:=J2 hr3 (by omega) 3;obtain ⟨i,hi,hi6⟩:∃i:Nat,m7 (3+c)=(i:Int)/\i<=6:=⟨(3+c).toNat,by rw [C4 (by omega) (by omega)];omega,by omega⟩
  obtain ⟨r',out',e1,e2,e3⟩:=d42 i r4 w out hi6 ⟨hf.w,hf.e,by have:=hf.l;omega⟩ (x2.mono (by omega));unfold c0a;rw [x1,f8y,hi,e1];exact ⟨out',r',rfl,e2,e3⟩
 have tf:V6 (E8 R7 ⟨5,a,[]⟩) ([]++[(⟨5,a,[]⟩:s6)]) 1:=t2;cases decide (b>0)
 ·obtain ⟨c,r3,x1,x2,_⟩:=J2 q2 (by omega) 5;simp only [g00,x1,f8y];cases c==0
  ·exact tail _ _ r3 _ ⟨tf.w,tf.e,by simp⟩ x2 (by omega)
  ·obtain ⟨w',o',r',y1,y2,y3⟩:=f1a x2 (by omega) tf;simp only [g0Z];rw [y1];exact tail w' o' r' _ y2 y3 (by omega)
 ·obtain ⟨v,r3,x1,x2,x3⟩:=b35 q2 (by omega) [10,30,60,90] (by simp) (by simp);obtain ⟨n,hn,hn90⟩:∃n:Nat,v=(n:Int)/\n<=90:=by
   simp at x3;rcases x3 with rfl|rfl|rfl|rfl
   ·exact ⟨10,rfl,by omega⟩
   ·exact ⟨30,rfl,by omega⟩
   ·exact ⟨60,rfl,by omega⟩
   ·exact ⟨90,rfl,by omega⟩
  obtain ⟨l,r4,y1,y2,y3,y4⟩:=f8a x2 (by omega) tf.w hn90;simp only [g0Z,x1,f8y];rw [hn,y1,f8y,v5 (by simp;omega)];refine ⟨_,_,rfl,?_,by simp;omega,y4⟩;intro e he;rcases f8B.1 he with q|q
  ·exact tf.e e q
  ·exact y2 e q
theorem e5o{code:List Int}(h:∀x∈code,a50 x):∃l,b8C code=some l/\(∀e∈l,R9 e)/\l.length<=300:=by
 obtain ⟨r,h1,h2⟩:=e9k h;obtain ⟨l,r',e1,e2,e3,_⟩:=e6E h2 (by omega);unfold b8C;rw [h1,f8y,e1];exact ⟨l,rfl,e2,e3⟩
def a6D(e:m4)(v:m8):Bool:=decide (v.a8>0)&&I9 v.g9 e
def V5(l:List j6)(s:Nat)(e:m4):Nat:=(l.filter fun n=>a6D e (C3 n s)).length
theorem c8P{l:List j6}(s:Nat)(e:m4){k:Nat}(hk:k<l.length):V5 (l.take (k+1)) s e=V5 (l.take k) s e+(bif a6D e (C3 l[k] s) then 1 else 0):=by
 unfold V5;rw [f9e hk,List.filter_append,f8M,List.filter_cons,List.filter_nil];cases a6D e (C3 l[k] s)<;>rfl
theorem d6b(l:List j6)(s:Nat)(e:m4)(k:Nat):V5 (l.take k) s e<=k:=by
 unfold V5;refine f9m (List.length_filter_le _ _) ?_;rw [f8S];omega
theorem e6f{w:m5}(h:L3 w)(s:Nat)(e:m4):b8a w (s:Int) e=some ((V5 w.a0 s e:Nat):Int):=by
 have hf:s8 w.a0:=h.1.fits (by decide);have hloop:=V9 (body:=fun t:Int×Int=>b0A w (s:Int) e t.1 t.2) (fun k=>(((V5 (w.a0.take k) s e:Nat):Int),(k:Int))) w.a0.length (by
  intro k hk;have hb:=d6b w.a0 s e k;have hle:=hf;unfold s8 at hle;have hn:m7 (((V5 (w.a0.take k) s e:Nat):Int)+1)=((V5 (w.a0.take k) s e+1:Nat):Int):=by rw [C4 (by omega) (by omega)];omega
  simp only;unfold b0A c3o;rw [w6 _ k hk,t0 hk,E6 hf hk];simp only [g0Z,f8y,c6j,b6z (c2T (h.1.2 _ (f8C hk)) s).2,hn,c8P s e hk];unfold a6D;cases decide ((C3 w.a0[k] s).a8>0)<;>cases I9 (C3 w.a0[k] s).g9 e<;>rfl)
 rw [f8Q,show ((0:Nat):Int)=0 from rfl] at hloop;unfold b8a;rw [show o8 (fun t:Int×Int=>b0A w (s:Int) e t.1 t.2) (0,0)=_ from hloop,C8 (b:=((V5 w.a0 s e:Nat):Int))]
 ·rfl
 ·unfold b0A;rw [z8];rfl
theorem e25{w:m5}(h:L3 w)(hw:WI w)(s:Nat)(e:m4):b9k w (s:Int) e=some ((V5 w.a0 s e:Nat):Int):=by
 have hf:s8 w.a0:=h.1.fits (by decide);have hloop:=V9 (body:=fun t:Int×Int=>b1F w (s:Int) e t.1 t.2) (fun k=>((k:Int),((V5 (w.a0.take k) s e:Nat):Int))) w.a0.length (by
  intro k hk;have hb:=d6b w.a0 s e k;have hle:=hf;unfold s8 at hle;have hn:m7 (((V5 (w.a0.take k) s e:Nat):Int)+1)=((V5 (w.a0.take k) s e+1:Nat):Int):=by rw [C4 (by omega) (by omega)];omega
  have hni:=(hw.ns k w.a0[k] (f8z hk)).2;simp only;unfold b1F c2F;rw [w6 _ k hk,t0 hk,E6 hf hk];simp only [g0Z,f8y,c8P s e hk];by_cases hs:s<w.a0[k].Acc.a7.length
  ·have hva:C3 w.a0[k] s=w.a0[k].Acc.a7[s]:=by unfold C3;rw [f8z hs];rfl
   have hvi:=(hni.vs _ (f8C hs)).1;have hpos:(w.a0[k].Acc.a7[s].a8 != 0)=decide (w.a0[k].Acc.a7[s].a8>0):=by
    have h0:0<=w.a0[k].Acc.a7[s].a8:=hvi.bal.1;by_cases hz:w.a0[k].Acc.a7[s].a8=0
    ·rw [hz];rfl
    ·rw [decide_eq_true (show w.a0[k].Acc.a7[s].a8>0 by omega)];simpa using hz
   rw [hva,w6 _ s hs,t0 hs];simp only [g0Z,f8y,hpos];unfold a6D;cases decide (w.a0[k].Acc.a7[s].a8>0)
   ·rfl
   ·simp only [g0Z,a6t ((h.1.2 _ (f8C hk)).2.1.2.2 _ (f8C hs)).2,f8y,hn];cases I9 w.a0[k].Acc.a7[s].g9 e<;>rfl
  ·have hva:C3 w.a0[k] s=zV:=by unfold C3;rw [f8Y (by omega)];rfl
   rw [hva,decide_eq_false (show ¬((s:Int)<(w.a0[k].Acc.a7.length:Int)) by omega)];rfl)
 rw [f8Q,show ((0:Nat):Int)=0 from rfl] at hloop;unfold b9k;rw [show o8 (fun t:Int×Int=>b1F w (s:Int) e t.1 t.2) (0,0)=_ from hloop,C8 (b:=((V5 w.a0 s e:Nat):Int))]
 ·rfl
 ·unfold b1F;rw [z8];rfl
def b4K(w:m5)(n:j6)(k:Nat):Bool:=match n.a6[k]? with
 | some e => !decide (((V5 w.a0 k e:Nat):Int)<2)
 | none=>true
def a2P(w:m5)(n:j6):Bool:=(f8I n.a6.length).all (b4K w n)
theorem c2L{w:m5}{n:j6}{k:Nat}(hk:k<n.a6.length):b4K w n k = !decide (((V5 w.a0 k n.a6[k]:Nat):Int)<2):=by
 unfold b4K;rw [f8z hk]
theorem f04{w:m5}(h:L3 w):b3E w=some (A0 w&&w.a0.all (a2P w)):=by
 have hf:s8 w.a0:=h.1.fits (by decide);have hin:∀(i:Nat) (hi:i<w.a0.length),o8 (fun t:Int=>b4g w (i:Int) t) 0=some (bif a2P w w.a0[i] then .brk () else .ret false):=by
  intro i hi;have hk0:s8 w.a0[i].a6:=(h.1.2 _ (f8C hi)).2.2.1.fits (by decide);refine V8 w.a0[i].a6 hk0 (b4K w w.a0[i]) false () ?_ ?_
  ·intro k hk _;unfold b4g;rw [t0 hi,f8y,w6 _ k hk,t0 hk,c2L hk];simp only [g0Z,f8y,e6f h];cases decide (((V5 w.a0 k w.a0[i].a6[k]:Nat):Int)<2)<;>rfl
  ·unfold b4g;rw [t0 hi,f8y,z8];rfl
 unfold b3E;rw [a6b h,f8y];cases A0 w
 ·rfl
 simp only [f8F,g00,f8K];rw [I5 w.a0 hf (a2P w) false ()]
 ·cases w.a0.all (a2P w)<;>rfl
 ·intro k hk;unfold b5S c7i;rw [w6 _ k hk,hin k hk];cases a2P w w.a0[k]<;>rfl
 ·unfold b5S;rw [z8];rfl
theorem e7Y{w:m5}(h:L3 w):b3I w=some (A0 w&&w.a0.all (a2P w)):=by
 have hf:s8 w.a0:=h.1.fits (by decide);unfold b3I;rw [a6A h,f8y];cases hwo:A0 w
 ·rfl
 have hw:WI w:=Y6.1 hwo;have hin:∀(i:Nat) (hi:i<w.a0.length),o8 (fun t:Int=>b4Q w w.a0[i] t) 0=some (bif a2P w w.a0[i] then .brk () else .ret false):=by
  intro i hi;have hk0:s8 w.a0[i].a6:=(h.1.2 _ (f8C hi)).2.2.1.fits (by decide);refine V8 w.a0[i].a6 hk0 (b4K w w.a0[i]) false () ?_ ?_
  ·intro k hk _;unfold b4Q;rw [w6 _ k hk,t0 hk,c2L hk];simp only [g0Z,f8y,e25 h hw];cases decide (((V5 w.a0 k w.a0[i].a6[k]:Nat):Int)<2)<;>rfl
  ·unfold b4Q;rw [z8];rfl
 simp only [f8F,g00,f8K];rw [I5 w.a0 hf (a2P w) false ()]
 ·cases w.a0.all (a2P w)<;>rfl
 ·intro k hk;unfold b7Z c37;rw [w6 _ k hk,t0 hk];simp only [g0Z,f8y,hin k hk];cases a2P w w.a0[k]<;>rfl
 ·unfold b7Z;rw [z8];rfl
theorem a7K{α:Type}{l:List α}(z:α)(b:Nat)(h:l.length*b<=140737488351232):(bif ((l.length:Int)==0) then some [] else t5 (0<=(l.length:Int)/\(l.length:Int)*(b:Int)<=140737488355328) (t5 (l.length=(f8A (l.length:Int).toNat z).length) (some l)))=some l:=by
 cases hl:((l.length:Int)==0)
 ·have:(l.length:Int)*(b:Int)=((l.length*b:Nat):Int):=by rw [Int.natCast_mul]
  rw [g00,v5 ⟨by omega,by omega⟩,v5 (by simp)]
 ·simp only [beq_iff_eq] at hl;rw [f8N (by omega:l.length=0)];rfl
theorem b8x{α R:Type}{body:List α×Int->Option (j7 R (List α×Int) (List α))}(l:List α)(hl:s8 l)(h1:∀(k:Nat) (hk:k<l.length),body (l,(k:Int))=some (.nxt (l.set k l[k],m7 ((k:Int)+1))))(h2:body (l,(l.length:Int))=some (.brk l)):o8 body (l,0)=some (.brk l):=by
 have:=V9 (body:=body) (fun k=>(l,(k:Int))) l.length fun k hk=>by rw [h1 k hk,E6 hl hk,g0J]
 exact this.trans (C8 h2)
theorem b77{l:List m8}(h:A2 96 T7 l):a9s l=some l:=by
 unfold a9s;rw [show c2p l=some l from a7K _ 96 h.1,f8y,b8x l (h.fits (by decide))]
 ·rfl
 ·intro k hk;unfold b7z;rw [w6 _ k hk,g0Z,t0 hk,f8y,b4s (h.2 _ (f8C hk)).2];rfl
 ·unfold b7z;rw [z8];rfl
theorem c0F{x:z0}(h:a7c x):a5C x=some x:=by
 unfold a5C;rw [b77 h.2];rfl
theorem d54{l:List Bool}(h:A2 1 okT l):b7u l=some l:=a7K _ 1 h.1
theorem d2Y{l:List n8}(h:l.length*32<=140737488351232):a9g l=some l:=a7K _ 32 h
theorem d4z{l:List n6}(h:l.length*40<=140737488351232):b7P l=some l:=a7K _ 40 h
theorem c0M{n:j6}(h:O6 n):a80 n=some n:=by
 obtain ⟨h1,h2,h3,h4,h5,h6,h7,h8,h9,h10,h11,h12,h13⟩:=h;unfold a80;rw [c0F h2,f8y,c5R h3,f8y,d54 h7,f8y,b77 h8,f8y,b4s h9,f8y,d54 h10,f8y,d2Y h11.1,f8y,b4s h12,f8y,c5R h13];rfl
theorem f0v{m:l8}(h:a0x m):b7B m=some m:=by
 unfold b7B;rw [b4s h.2.2.2.2.2.1,f8y,b77 h.2.2.2.2.2.2];rfl
theorem c9q{l:List l8}(h:A2 152 a0x l):b12 l=some l:=by
 unfold b12;rw [show c7d l=some l from a7K _ 152 h.1,f8y,b8x l (h.fits (by decide))]
 ·rfl
 ·intro k hk;unfold b8i;rw [w6 _ k hk,g0Z,t0 hk,f8y,f0v (h.2 _ (f8C hk))];rfl
 ·unfold b8i;rw [z8];rfl
theorem c44{w:m5}(h:L3 w):a2i w=some w:=by
 obtain ⟨h1,h2,h3,h4⟩:=h;unfold a2i c5t;rw [show c2G w.a0=some w.a0 from a7K _ 392 h1.1,f8y,c9q h2,f8y,show c4B w.d8=some w.d8 from a7K _ 40 h3.1,f8y,d4z h4.1,f8y,b8x w.a0 (h1.fits (by decide))]
 ·simp only [f8y,l9.go];rw [b8x w.d8 (h3.fits (by decide))]
  ·rfl
  ·intro k hk;unfold b7D;rw [w6 _ k hk,g0Z,t0 hk,f8y,d2Y (h3.2 _ (f8C hk)).2.1];rfl
  ·unfold b7D;rw [z8];rfl
 ·intro k hk;unfold b9d;rw [w6 _ k hk,g0Z,t0 hk,f8y,c0M (h1.2 _ (f8C hk))];rfl
 ·unfold b9d;rw [z8];rfl
theorem e1L:c0H=some R7:=by
 unfold c0H;have e:∀i:Int,0<=i->i<=2->b7w i=some (D4 i):=fun i h1 h2=>by
  unfold b7w;rw [N8,f8y,p9,decide_eq_true ⟨h1,h2⟩];rfl
 rw [E7 (t:=([D4 0],1)) (by unfold b00;rw [e 0 (by omega) (by omega)];rfl),E7 (t:=([D4 0,D4 1],2)) (by unfold b00;rw [e 1 (by omega) (by omega)];rfl),E7 (t:=([D4 0,D4 1,D4 2],3)) (by unfold b00;rw [e 2 (by omega) (by omega)];rfl),C8 (b:=[D4 0,D4 1,D4 2]) (by unfold b00;rfl)];show (a2i R7).bind _=_
 rw [c44 WI.open.ok];rfl
theorem d3v{a:p7}(h:s8 a.n.a6)(q:n5):b44 a q=some (N6 a.n.a6 q,a):=by
 unfold b44;rw [b1P h,f8y,c3g];cases a.n.a6.findIdx? (D6 q) with
 | none=>rfl
 | some k=>simp
theorem f5J{a:p7}(h:s8 a.n.a6)(q:n5):b7d a q=some (N6 a.n.a6 q,a):=by
 unfold b7d;rw [b1P h,f8y,c3g];cases a.n.a6.findIdx? (D6 q) with
 | none=>rfl
 | some k=>simp
def qA(a:p7)(q:List m4):p7:=⟨{a.n with f0:=q},a.out,a.told⟩
theorem e9B{a:p7}{q:List m4}(h:a.n.f0=q):qA a q=a:=by
 subst h;rfl
theorem c91{known:List m4}(hk:s8 known):∀(q:List m4) (a:p7),a.n.a6=known->A2 88 E9 q->a.n.f0=q->o8 (fun s:p7=>a4I s) a=some (match T4 known q with
  | (q',some e)=>.ret (e,true,qA a q')
  | (q',none)=>.brk (qA a q'))
 | [],a,h1,_,h2=>by
  rw [C8 (body:=fun s:p7=>a4I s) (b:=a) (by unfold a4I;rw [h2];rfl)];show _=some (l9.brk (qA a []))
  rw [e9B h2]
 | e::q,a,h1,hq,h2=>by
  have hl:(e::q).length*88<=140737488351232:=hq.1;rw [f9J] at hl;have hb:a4I a=some (bif N6 known e.a5 then .nxt (qA a q) else .ret (e,true,qA a q)):=by
   unfold a4I;rw [h2,show idx (e::q) 0=some e from rfl,show decide ((((e::q).length:Nat):Int)>0)=true by simp,g0Z,f8y,v5 (by simp;omega),show ((e::q).drop (1:Int).toNat).take ((e::q).length-(1:Int).toNat)=q by simp];rw [show (⟨⟨a.n.Id,a.n.Acc,a.n.a6,a.n.Seq,a.n.d6,a.n.a8,a.n.c9,a.n.i4,a.n.c8,a.n.a7,a.n.i9,a.n.i6,a.n.b8,q⟩,a.out,a.told⟩:p7)=qA a q from rfl,d3v (a:=qA a q) (by show s8 a.n.a6;rw [h1];exact hk),f8y,show (qA a q).n.a6=known from h1];cases N6 known e.a5<;>rfl
  unfold T4;cases hkn:N6 known e.a5
  ·rw [W3 (body:=fun s:p7=>a4I s) (r:=(e,true,qA a q)) (by rw [hb,hkn];rfl)];rfl
  ·rw [E7 (body:=fun s:p7=>a4I s) (t:=qA a q) (by rw [hb,hkn];rfl),c91 hk q (qA a q) h1 ⟨by omega,fun x hx=>hq.2 x (g0Q _ hx)⟩ rfl];rfl
def b2i(a:p7)(x:j6×Option m4):m4×Bool×p7:=match x with
 | (n,some e)=>(e,true,⟨n,a.out,a.told⟩)
 | (n,none)=>(zE,false,⟨n,a.out,a.told⟩)
theorem e9b{a:p7}(hf:s8 a.n.i4)(hv:∀v∈a.n.i4,0<=v.a8):∀(m k:Nat),a.n.i4.length-k=m->o8 (fun s:Int=>a4U a s) (k:Int)=some (bif (a.n.i4.drop k).any (fun v=>decide (v.a8>0)) then .ret (eN,true,a) else .brk ()):=by
 intro m;induction m with
 | zero=>
  intro k hk;rw [C8 (body:=fun s:Int=>a4U a s) (b:=()) (by unfold a4U;rw [show decide ((k:Int)<(a.n.i4.length:Int))=false by simp;omega];rfl),f9d (by omega)];rfl
 | succ m ih=>
  intro k hk;have hlt:k<a.n.i4.length:=by omega
  have hb:a4U a (k:Int)=some (bif decide (a.n.i4[k].a8>0) then .ret (eN,true,a) else .nxt ((k+1:Nat):Int)):=by
   have h0:=hv _ (f8C hlt);unfold a4U;rw [w6 _ k hlt,g0Z,t0 hlt,f8y,E6 hf hlt,show (a.n.i4[k].a8 != 0)=decide (a.n.i4[k].a8>0) by
    rw [f9S];simp;omega]
   cases decide (a.n.i4[k].a8>0)<;>rfl
  rw [f8W hlt,g0R];cases hd:decide (a.n.i4[k].a8>0)
  ·rw [hd] at hb;rw [E7 (body:=fun s:Int=>a4U a s) hb,ih (k+1) (by omega),f9n]
  ·rw [hd] at hb;rw [W3 (body:=fun s:Int=>a4U a s) hb,g0K];rfl
theorem f2Y{a:p7}(h:O6 a.n)(hv:∀v∈a.n.i4,0<=v.a8):b9W a=some (b2i a (a02 a.n)):=by
 obtain ⟨h1,h2,h3,h4,h5,h6,h7,h8,h9,h10,h11,h12,h13⟩:=h;have hk:s8 a.n.a6:=h3.fits (by decide);have hbf:s8 a.n.i4:=h8.fits (by decide);have j1:b9x a=some (b2i a ({a.n with f0:=(T4 a.n.a6 a.n.f0).1},(T4 a.n.a6 a.n.f0).2)):=by
  unfold b9x;rw [c91 hk _ a rfl h13 rfl];obtain ⟨q,o⟩:=T4 a.n.a6 a.n.f0;cases o<;>rfl
 have j2:(∀v,a.n.i4[a.n.a6.length]?=some v->¬v.a8>0)->b6L a=some (b2i a (a5j a.n)):=by
  intro hn;have hd:(a.n.i4.drop (a.n.a6.length+1)).any (fun v=>decide (v.a8>0))=(a.n.i4.drop a.n.a6.length).any (fun v=>decide (v.a8>0)):=by
   by_cases hl:a.n.a6.length<a.n.i4.length
   ·rw [f8W hl,g0R,show decide (a.n.i4[a.n.a6.length].a8>0)=false by
     simpa using hn _ (f8z hl),f9n]
   ·rw [f9d (by omega),f9d (by omega)]
  unfold b6L a5j;rw [C4 (by omega) (by have:=h3.1;omega),show ((a.n.a6.length:Int)+1)=((a.n.a6.length+1:Nat):Int) from rfl,e9b hbf hv _ _ rfl,hd];generalize (({a.n with f0:=(T4 a.n.a6 a.n.f0).1},(T4 a.n.a6 a.n.f0).2):j6×Option m4)=X at j1 ⊢;cases (a.n.i4.drop a.n.a6.length).any fun v=>decide (v.a8>0)
  ·simp only [g00,f8y,l9.go];unfold c5c;cases a.n.i9
   ·exact j1
   ·simp only [g0Z,d3v hk,f8y,f8K];cases N6 a.n.a6 a.n.b8.a5
    ·rfl
    ·exact j1
  ·rfl
 unfold b9W a02;by_cases hl:a.n.a6.length<a.n.i4.length
 ·rw [w6 _ _ hl,t0 hl,f8z hl];have h0:=hv _ (f8C hl);rw [g0Z,f8y,show (a.n.i4[a.n.a6.length].a8 != 0)=decide (a.n.i4[a.n.a6.length].a8>0) by rw [f9S];simp;omega];simp only;cases hd:decide (a.n.i4[a.n.a6.length].a8>0)
  ·exact j2 (by rw [f8z hl];intro v hv;injection hv with hv;subst hv;simpa using hd)
  ·rfl
 ·rw [show decide ((a.n.a6.length:Int)<(a.n.i4.length:Int))=false by simp;omega,f8Y (by omega)];exact j2 (by rw [f8Y (by omega)];simp)
theorem NI.accOk{n:j6}(h:NI n):O2 n.Acc=true/\a7c n.Acc:=by
 have:=a1t.2 h;unfold D7 at this;simp only [f8D] at this;exact ⟨by simp_all,h.ok.2.1⟩
theorem c0o{a:z0}(h:O2 a=true)(ho:a7c a)(b:Int):b1u a b=some (match I6 a b with|some x=>(x,true)|none=>(a,false)):=by
 unfold b1u I6 b1q;rw [d5x ho,f8y,h,c0F ho,N8];simp only [f8F,g00,f8y];cases p9 b 1 3000
 ·rfl
 ·cases hd:decide (b<a.i0)
  ·rw [show decide (a.i0<=b)=true by simp at hd ⊢;omega];rfl
  ·rw [show decide (a.i0<=b)=false by simp at hd ⊢;omega];rfl
theorem e5L{a:z0}(h:O2 a=true)(ho:a7c a)(b:Int):c39 a b=some (match I6 a b with|some x=>(x,true)|none=>(a,false)):=c0o h ho b
theorem c7F(slot:Nat)(hs:slot<40):∀(m:Nat) (vs:List m8),slot+1-vs.length=m->o8 (fun s:List m8=>a8L (slot:Int) s) vs=some (.brk (U1 vs (slot+1)))
 | 0,vs,hm=>by
  rw [C8 (body:=fun s:List m8=>a8L (slot:Int) s) (b:=vs) (by unfold a8L;rw [show decide ((vs.length:Int)<=(slot:Int))=false by simp;omega];rfl)];unfold U1;rw [hm];simp
 | m+1,vs,hm=>by
  rw [E7 (body:=fun s:List m8=>a8L (slot:Int) s) (t:=vs++[v0]) (by unfold a8L;rw [show decide ((vs.length:Int)<=(slot:Int))=true by simp;omega,g0Z,v5 (by omega)];rfl),c7F slot hs m _ (by simp;omega)];unfold U1;rw [f8M,f9K,show slot+1-vs.length=(slot+1-(vs.length+1))+1 by omega,g0B,f8U];rfl
theorem d5j{a:z0}(h:O2 a=true)(ho:a7c a)(hl:a.a7.length<=40){b s:Int}(hb:H3 b){e:m4}(he:E9 e):b5j a b s e=some (match L2 a b s e with|some x=>(x,true)|none=>(a,false)):=by
 unfold b5j L2;rw [e5L h ho,f8y,N8,a7t he.f,c0F ho];cases hp:I6 a b with
 | none=>cases p9 s 0 39&&z4 e<;>rfl
 | some x=>
  obtain ⟨rfl,hb1,hb2,hb3⟩:=a4q hp;simp only [f8F,g00,f8y];cases hs:p9 s 0 39
  ·rfl
  cases z4 e
  ·rfl
  obtain ⟨k,rfl⟩:∃k:Nat,s=(k:Int):=⟨s.toNat,by rw [H7] at hs;omega⟩
  rw [H7] at hs;have hlen:=b51 a.a7 (k+1);have hk:k<(U1 a.a7 (k+1)).length:=by rw [hlen];omega
  simp only [f8F,Bool.and_self,g00,g0Z,f8y,f9U,f9b];rw [c7F k (by omega) _ _ rfl];simp only [f8y,l9.go,c1s];rw [t0 hk,f8y,f9b,c0F (x:=⟨b,(U1 a.a7 (k+1)).set k ⟨b,e⟩⟩) ⟨hb,a0l (by rw [f9Z,hlen];omega) (by
   intro v hv;rcases f9k hv with q|q
   ·rcases c5v q with q|q
    ·exact ho.2.2 v q
    ·rw [q];exact d1g
   ·rw [q];exact ⟨hb,he⟩)⟩]
  rfl
theorem a8l{a:p7}(h:a.out.length<=1000)(to:Int)(m:l8):a4h a to m=some ⟨a.n,a.out++[{m with c9:=a.n.Id,To:=to}],a.told⟩:=by
 unfold a4h;rw [v5 (by omega)]
def a0Y(m:l8)(a:p7)(t:Int):p7:=bif t != a.n.Id then ⟨a.n,a.out++[{m with c9:=a.n.Id,To:=t}],a.told⟩ else a
theorem d0d(m:l8)(a:p7)(t:Int):(a0Y m a t).out.length<=a.out.length+1:=by
 unfold a0Y;cases t != a.n.Id<;>simp
theorem a66{a:p7}(hid:0<=a.n.Id/\a.n.Id<=2)(h:a.out.length<=900)(m:l8):a3w a m=some ⟨a.n,a.out++I8 a.n.Id m,a.told⟩:=by
 have e:∀(a:p7) (t:Int),a.out.length<=1000->0<=t->t<3->a4Y m t a=some (.nxt (t+1,a0Y m a t)):=by
  intro a t ho h0 h1;unfold a4Y c2h a0Y;rw [show decide (t<3)=true by simpa using h1,g0Z,a8l ho,C4 (by omega) (by omega)];cases t != a.n.Id<;>rfl
 have l1:=d0d m a 0;have l2:=d0d m (a0Y m a 0) (0+1);have h0:=E7 (body:=fun s:Int×p7=>a4Y m s.1 s.2) (s:=(0,a)) (e a 0 (by omega) (by omega) (by omega));have h1:=E7 (body:=fun s:Int×p7=>a4Y m s.1 s.2) (s:=(0+1,a0Y m a 0)) (e (a0Y m a 0) (0+1) (by omega) (by omega) (by omega));have h2:=E7 (body:=fun s:Int×p7=>a4Y m s.1 s.2) (s:=(0+1+1,a0Y m (a0Y m a 0) (0+1))) (e (a0Y m (a0Y m a 0) (0+1)) (0+1+1) (by omega) (by omega) (by omega));have h3:=W3 (body:=fun s:Int×p7=>a4Y m s.1 s.2) (s:=(0+1+1+1,a0Y m (a0Y m (a0Y m a 0) (0+1)) (0+1+1))) (show a4Y m (0+1+1+1) _=_ from rfl);unfold a3w;rw [h0,h1,h2,h3];obtain ⟨n,o,t⟩:=a;simp only [f8y,l9.go];have hid':n.Id=0\/n.Id=1\/n.Id=2:=by have:=hid.1;have:=hid.2;simp only at *;omega
 rcases hid' with q|q|q<;>simp [a0Y,I8,q]
theorem c8Z{a:p7}(h:0<=a.n.Id/\a.n.Id<=2):b4f a=some (a1y a.n.Id,a):=by
 obtain ⟨y,hy⟩:=c3K h;unfold b4f;rw [v5 (by decide),hy];rfl
theorem c1N(a:p7):b3p a=some ⟨a4s a.n,a.out,a.told⟩:=rfl
theorem b6D(a:p7)(b:Int):b1A a b=some ⟨N9 a.n b,a.out,a.told⟩:=by
 unfold b1A N9;rw [c1N];cases a.n.d6 != 0
 ·rfl
 ·cases decide (b>a.n.a8)<;>rfl
theorem a0B.bal0{n:j6}(h:a0B n):∀v∈n.i4,0<=v.a8:=fun v hv=>(h.best.2 v hv).bal.1
def a0c(a:p7)(x:j6×List l8):p7:=⟨x.1,a.out++x.2,a.told⟩
theorem a7F(a:p7):a0c a (a.n,[])=a:=by
 unfold a0c;rw [f9o]
theorem b4Y{a:p7}(h:NI a.n)(ho:a.out.length<=900):a7x a=some (a0c a (M1 a.n)):=by
 unfold a7x M1;rw [show decide ((a.n.a6.length:Int)>=40)=decide (40<=a.n.a6.length) by simp;omega];cases a.n.d6 != 2
 ·simp only [g00,f9n];cases hlt:decide (40<=a.n.a6.length)
  ·simp only [g00,f2Y h.ok h.ld.bal0,f8y];obtain ⟨q,hq,hql,hqm,hqe⟩:=a9I a.n;cases hx:a02 a.n with
   | mk x o=>
   rw [hx] at hq hqe;have hq:x={a.n with f0:=q}:=hq;subst hq;cases o with
   | none=>
    simp only [b2i,f9j,g0Z,a0c];rw [f9o]
   | some e=>
    have he:=(hqe e rfl).ok h.ok;obtain ⟨c1,c2⟩:=h.accOk;simp only [b2i,f8F,g00];rw [d5j (a:=a.n.Acc) c1 c2 h.vl h.ok.2.2.2.2.2.1 he,f8y];simp only [a7k];cases hc:L2 a.n.Acc a.n.a8 (a.n.a6.length:Int) e with
    | none=>
     simp only [f9j,g0Z,c1N,f8y,a0c];rw [f9o]
    | some x=>
     simp only [f8F,g00];rw [c8Z (by exact h.id),f8y];simp only;rw [a66 (by exact h.id) (by exact ho)];rfl
  ·simp only [g0Z];rw [a7F]
 ·simp only [g0Z,g0K];rw [a7F]
def a2T(a:p7)(x:j6×List l8×List n6):p7:=⟨x.1,a.out++x.2.1,a.told++x.2.2⟩
theorem b6m(a:p7):a2T a (a.n,[],[])=a:=by
 unfold a2T;rw [f9o,f9o]
theorem e1i{a:p7}(h:NI a.n)(ho:a.out.length<=900)(ht:a.told.length<=900):b7L a=some (a2T a ((M1 (U7 a.n).1).1,(M1 (U7 a.n).1).2,(U7 a.n).2)):=by
 have hk:s8 a.n.a6:=h.ok.2.2.1.fits (by decide);obtain ⟨hl,he⟩:=W8 h.list;have j1:∀b:p7,NI b.n->b.out.length<=900->b60 b=some (a0c b (M1 b.n)):=by
  intro b hb hbo;unfold b60;rw [b4Y hb hbo];rfl
 unfold b7L U7;rw [b1P hk,f8y];cases hb:a.n.i9
 ·simp only [g00,f8y,l9.go];rw [j1 a h ho];simp only [a0c,a2T,f9o]
 ·cases hf:a.n.a6.findIdx? (D6 a.n.b8.a5) with
  | none=>
   simp only [g0Z];rw [show decide ((-1:Int)>=0)=false from rfl];simp only [g00,f8y,l9.go];rw [j1 a h ho];simp only [a0c,a2T,f9o]
  | some k=>
   obtain ⟨hkl,h1,h2⟩:=b4d hf;have hlen:(p6 a.n.a6).2.length=a.n.a6.length:=by
    have:=(P5 hl he a.n.a6.length (f8R _)).2.1;rwa [f8Q] at this
   have hc:idx (p6 a.n.a6).2 (k:Int)=some (L4 a.n.a6 k):=by
    rw [t0 (by omega)];unfold L4;rw [f8z (by omega)];rfl
   have hj2:∀v:Int,b6Y a (L4 a.n.a6 k) v=some (.brk ⟨a58 a.n,a.out,a.told++[⟨a.n.Id,a.n.b8.a5,L4 a.n.a6 k,v⟩]⟩):=by
    intro v;unfold b6Y;rw [v5 (by omega)];rfl
   have hv:Q5 a.n.a6 a.n.b8.a5=a.n.a6[k].b6.d9:=by
    unfold Q5;rw [hf];simp only [f8z hkl]
   simp only [g0Z];rw [show decide ((k:Int)>=0)=true by simp];simp only [g0Z];rw [b9Z (okEntries.f h.ok.2.2.1) hl he,f8y,hc,f8y,t0 hkl,hv];cases L4 a.n.a6 k==0
   ·simp only [g00,f8y,l9.go,hj2];exact j1 ⟨a58 a.n,a.out,_⟩ h.freeN ho
   ·simp only [g0Z,f8y,l9.go,hj2];exact j1 ⟨a58 a.n,a.out,_⟩ h.freeN ho
theorem d7D{a:p7}(h:NI a.n)(hl:a.n.a6.length<40){e:m4}(he:z4 e=true)(ho:a.out.length<=900)(ht:a.told.length<=900):b3v a e=some (a2T a (Y5 a.n e)):=by
 have hk:=e1i (a:=⟨E3 a.n e,a.out,a.told⟩) (h.know he hl) ho ht;unfold b3v;rw [v5 (by omega)];unfold E3 at hk;cases hp:a.n.d6==3
 ·rw [hp] at hk;simp only [g00,f8y,l9.go] at hk ⊢;refine hk.trans ?_;unfold Y5 E3;rw [hp];rfl
 ·rw [hp] at hk;simp only [g0Z,f8y,l9.go] at hk ⊢;refine hk.trans ?_;unfold Y5 E3;rw [hp];rfl
theorem V4.two{m:l8}(h:V4 m)(hk:m.a9=2):(m.a7.length<=40/\∀v∈m.a7,VI v)/\m.g8+m.a7.length<=40:=by
 rcases h with q|q|q|q|q|q|q
 ·omega
 ·exact ⟨q.2.2.2.1,q.2.2.2.2⟩
 all_goals exact absurd q.1 (by omega)
theorem V4.five{m:l8}(h:V4 m)(hk:m.a9=5):m.g8<40/\z4 m.g9=true:=by
 rcases h with q|q|q|q|q|q|q
 ·omega
 ·omega
 ·omega
 ·exact ⟨q.2.2.1,q.2.2.2.1⟩
 all_goals exact absurd q.1 (by omega)
theorem e6s{a:p7}(h:NI a.n){m:l8}(hm:MI m)(ho:a.out.length<=900)(hto:m.To=a.n.Id):b8U a m=some (a0c a (a2g a.n m)):=by
 obtain ⟨c1,c2⟩:=h.accOk;have hs:=hm.sl;unfold b8U a2g;rw [c0o c1 c2,f8y];cases hp:I6 a.n.Acc m.a8 with
 | none=>
  simp only [f9j,g0Z];rw [a8l (by omega)];simp only [f8y,a0c,M4,hto]
 | some x=>
  obtain ⟨rfl,_⟩:=a4q hp;simp only [f8F,g00,b6D,f8y];have hy:∀(n:j6) (vs:List m8),n.Id=a.n.Id->b6t m ⟨n,a.out,a.told⟩ vs=some ⟨n,a.out++[M4 m ⟨2,0,0,m.a8,m.g8,zE,vs⟩],a.told⟩:=by
   intro n vs hn;unfold b6t;rw [a8l (a:=⟨n,a.out,a.told⟩) (by exact f9m ho (by decide))];simp only [f8y,M4,hto,hn]
  have hid:(N9 (⟨a.n.Id,⟨m.a8,a.n.Acc.a7⟩,a.n.a6,a.n.Seq,a.n.d6,a.n.a8,a.n.c9,a.n.i4,a.n.c8,a.n.a7,a.n.i9,a.n.i6,a.n.b8,a.n.f0⟩) m.a8).Id=a.n.Id:=a6X _ _;obtain ⟨k,hk⟩:∃k:Nat,m.g8=(k:Int):=⟨m.g8.toNat,by omega⟩
  cases hd:decide (m.g8<(a.n.Acc.a7.length:Int))
  ·simp only [g00,f8y,l9.go];rw [hy _ _ hid,f9d (by simp at hd;omega)];rfl
  ·simp only [g0Z];rw [v5 (by simp at hd;omega)];simp only [f8y,l9.go];rw [hy _ _ hid,c28];rfl
theorem e1u{a:p7}(h:NI a.n){m:l8}(hm:MI m)(ho:a.out.length<=900)(hto:m.To=a.n.Id):b9X a m=some (a0c a (a1I a.n m)):=by
 obtain ⟨c1,c2⟩:=h.accOk;unfold b9X a1I;rw [d5j c1 c2 h.vl hm.ok.2.2.2.1 hm.ok.2.2.2.2.2.1,f8y];cases L2 a.n.Acc m.a8 m.g8 m.g9 with
 | none=>
  simp only [f9j,g0Z];rw [a8l (by omega)];simp only [f8y,a0c,M4,hto]
 | some x=>
  simp only [f8F,g00,b6D,f8y];rw [a8l (by simp only;omega)];simp only [f8y,a0c,M4,hto,a6X]
theorem d0T:∀(l:List Bool) (hl:s8 l) (m k:Nat) (c:Int),k+m=l.length->0<=c->c<=k->o8 (fun s:Int×Int=>a5o l s.1 s.2) (c,(k:Int))=some (.brk (c+(((l.drop k).filter (· == true)).length:Int)))
 | l,hl,0,k,c,hk,h0,h1=>by
  have:k=l.length:=by omega
  subst this;rw [C8 (body:=fun s:Int×Int=>a5o l s.1 s.2) (b:=c) (by unfold a5o;rw [z8];rfl)];simp
 | l,hl,m+1,k,c,hk,h0,h1=>by
  have hlt:k<l.length:=by omega
  have hf:=hl;unfold s8 at hf;have hb:a5o l c (k:Int)=some (.nxt (bif l[k] then c+1 else c,((k+1:Nat):Int))):=by
   unfold a5o c43;rw [w6 _ k hlt,g0Z,t0 hlt,f8y,E6 hl hlt,C4 (by omega) (by omega)];cases l[k]<;>rfl
  rw [E7 (body:=fun s:Int×Int=>a5o l s.1 s.2) hb,d0T l hl m (k+1) _ (by omega) (by cases l[k]<;>simp<;>omega) (by cases l[k]<;>simp<;>omega),f8W hlt];cases l[k]<;>simp<;>omega
theorem d15{l:List Bool}(h:s8 l):∃c,b3d l=some c/\decide (c>=2)=N7 l:=by
 unfold b3d;rw [show o8 (fun s:Int×Int=>a5o l s.1 s.2) (0,0)=_ from d0T l h l.length 0 0 (by omega) (by omega) (by omega)];refine ⟨_,rfl,?_⟩;unfold N7;rw [f9S];simp only [f9M,decide_eq_true_eq];omega
theorem f4u{a b:List m8}(ha:a.length<=40/\∀v∈a,VI v)(hb:b.length<=40/\∀v∈b,VI v):b7X a b=some (E0 a b):=by
 have oa:=a4n (by omega) ha.2;have ob:=a4n (by omega) hb.2;have hlen:=a71 a b;have hok:A2 96 T7 (E0 a b):=a4n (by omega) fun v hv=>(b1c hv).elim (ha.2 v) (hb.2 v)
 unfold b7X;rw [b4w oa,f8y,a7R.2 ha,b4w ob,f8y,a7R.2 hb];simp only [f8F,g00];rw [a60 (body:=fun s:(List m8)×Int=>a5Q a b s.1 s.2) (E0 a b) (by unfold s8;omega) (fun l=>l) (by
  intro k hk;have hget:=b08 a b k;rw [f8z hk] at hget;have hj1:∀l:List m8,c5A (k:Int) l=some (.nxt (l,m7 ((k:Int)+1))):=fun _=>rfl
  have htl:(((E0 a b).take k).length+1)*96<=140737488355328:=by rw [f8S];omega
  show a5Q a b ((E0 a b).take k) (k:Int)=_
  have hstart:a5Q a b ((E0 a b).take k) (k:Int)=b9g a b ((E0 a b).take k) (k:Int):=by
   unfold a5Q;by_cases h1:k<a.length
   ·rw [w6 _ k h1];rfl
   ·rw [show decide ((k:Int)<(a.length:Int))=false by simp;omega,w6 _ k (by omega)];rfl
  rw [hstart];unfold b9g;by_cases h1:k<a.length
  ·rw [show decide ((k:Int)>=(a.length:Int))=false by simp;omega,t0 h1];rw [f8z h1] at hget;by_cases h2:k<b.length
   ·rw [show decide ((k:Int)>=(b.length:Int))=false by simp;omega,t0 h2];rw [f8z h2] at hget;injection hget with hget;simp only [g00,f8y,v5 htl];rw [hget,show decide (a[k].a8>=b[k].a8) = !decide (b[k].a8>a[k].a8) by rw [f9S];simp];cases decide (b[k].a8>a[k].a8)<;>rfl
   ·rw [show decide ((k:Int)>=(b.length:Int))=true by simp;omega];rw [f8Y (by omega)] at hget;injection hget with hget;simp only [g00,g0Z,f8y,v5 htl];rw [hget];rfl
  ·have h2:k<b.length:=by omega
   rw [show decide ((k:Int)>=(a.length:Int))=true by simp;omega,t0 h2];rw [f8Y (by omega),f8z h2] at hget;injection hget with hget;simp only [g0Z,f8y,v5 htl];rw [hget];rfl) (by
  show a5Q a b (E0 a b) ((E0 a b).length:Int)=_
  unfold a5Q;rw [show decide (((E0 a b).length:Int)<(a.length:Int))=false by simp;omega,show decide (((E0 a b).length:Int)<(b.length:Int))=false by simp;omega];rfl)]
 simp only [f8y,l9.go,c4l,b77 hok]
theorem f0l{a:p7}(h:NI a.n){m:l8}(hm:MI m)(hk:m.a9=2)(ho:a.out.length<=900):b6R a m=some (a0c a (a1A a.n m)):=by
 have hkd:=hm.kd.two hk;have hs:=hm.sl;have hf:=hm.fr;have hright:=c4P h hm hk;unfold b6R;unfold a1A at hright ⊢;by_cases p1:a.n.d6=1
 ·rw [show (a.n.d6 != 1)=false by simp [p1],f9n] at hright;rw [show (a.n.d6 != 1)=false by simp [p1],f9n];cases hb:m.a8 != a.n.a8
  ·rw [hb] at hright;simp only [g00] at hright ⊢;have hl:a.n.c9.length=3/\Own a.n:=by
    rcases h.ld with q|q|q|q
    ·omega
    ·exact ⟨q.2.2.1,q.2.1⟩
    all_goals exact absurd q.1 (by omega)
   obtain ⟨f,hff⟩:∃f:Nat,m.c9=(f:Int):=⟨m.c9.toNat,by omega⟩
   have hvo:(f8A m.g8.toNat v0++m.a7).length<=40/\∀v∈f8A m.g8.toNat v0++m.a7,VI v:=⟨by simp;omega,fun v hv=>(f8B.1 hv).elim (fun q=>by rw [(f9v.1 q).2];exact .inl rfl) (hkd.1.2 v)⟩
   obtain ⟨c,c1,c2⟩:=d15 (l:=a.n.c9.set (f:Int).toNat true) (b9Y (by simp;omega));rw [hff] at hright;rw [hff,t0 (show f<a.n.c9.length by omega),f8y,v5 (by omega),v5 (by simp;omega),show (⟨0,⟨false,⟨0,0⟩,⟨[],[],0,0⟩⟩⟩:m8)=v0 from rfl,f4u ⟨hl.2.bl,hl.2.bs⟩ hvo,f8y,c1,f8y,c2];cases htw:N7 (a.n.c9.set (f:Int).toNat true)
   ·simp only [g00,a0c];rw [f9o]
   ·rw [htw] at hright;simp only [g0Z] at hright ⊢;have hni:NI ⟨a.n.Id,a.n.Acc,a.n.a6,a.n.Seq,2,a.n.a8,[],E0 a.n.i4 (f8A m.g8.toNat v0++m.a7),a.n.c8,a.n.a7,a.n.i9,a.n.i6,a.n.b8,a.n.f0⟩:=by
     rcases h.ld with q|q|q|q
     ·omega
     ·exact ⟨h.id,h.pr,h.vl,h.vs,h.kl,h.ks,h.sq,h.ql,h.qs,.inr (.inr (.inl ⟨rfl,⟨q.2.1.b1,q.2.1.b2,q.2.1.mod,q.2.1.pr,by have:=a71 a.n.i4 (f8A m.g8.toNat v0++m.a7);have:=hl.2.bl;have:=hvo.1;simp only at *;omega,fun v hv=>(b1c hv).elim (hl.2.bs v) (hvo.2 v)⟩,rfl,q.2.2.2.2.1,q.2.2.2.2.2⟩)),h.wt⟩
     all_goals exact absurd q.1 (by omega)
    rw [b4Y (a:=⟨⟨a.n.Id,a.n.Acc,a.n.a6,a.n.Seq,2,a.n.a8,[],E0 a.n.i4 (f8A m.g8.toNat v0++m.a7),a.n.c8,a.n.a7,a.n.i9,a.n.i6,a.n.b8,a.n.f0⟩,a.out,a.told⟩) hni ho];rfl
  ·simp only [g0Z,g00];rw [a7F]
 ·rw [show (a.n.d6 != 1)=true by simpa using p1];simp only [g0Z,g0K];rw [a7F]
theorem f1Q{a:p7}(h:NI a.n){m:l8}(hm:MI m)(ho:a.out.length<=800)(ht:a.told.length<=800):b8e a m=some (a2T a (a2M a.n m)):=by
 have hf:=hm.fr;unfold b8e a2M;by_cases p3:a.n.d6=3
 ·rw [show (a.n.d6 != 3)=false by simp [p3],f9n];cases hb:m.a8 != a.n.a8
  ·simp only [g00,f9n];cases hs:m.g8 != (a.n.a6.length:Int)
   ·simp only [g00];have hsl:m.g8=(a.n.a6.length:Int):=by simpa using hs
    obtain ⟨q1,q2,q3,q4,q5,q6,q7⟩:a.n.d6=3/\Own a.n/\a.n.c9=[]/\z4 a.n.c8=true/\a.n.a7.length=3/\a.n.a7[a.n.Id.toNat]?=some true/\a.n.a6.length<40:=by
     rcases h.ld with q|q|q|q
     ·omega
     ·omega
     ·omega
     ·exact q
    obtain ⟨f,hff⟩:∃f:Nat,m.c9=(f:Int):=⟨m.c9.toNat,by omega⟩
    obtain ⟨c,c1,c2⟩:=d15 (l:=a.n.a7.set (f:Int).toNat true) (b9Y (by simp;omega));rw [hff,t0 (show f<a.n.a7.length by omega),f8y,c1,f8y,c2];cases htw:N7 (a.n.a7.set (f:Int).toNat true)
    ·simp only [g00,a2T,f9o]
    ·simp only [g0Z];have hid:=h.id;have hni:NI ⟨a.n.Id,a.n.Acc,a.n.a6,a.n.Seq,a.n.d6,a.n.a8,a.n.c9,a.n.i4,a.n.c8,a.n.a7.set (f:Int).toNat true,a.n.i9,a.n.i6,a.n.b8,a.n.f0⟩:=
      ⟨h.id,h.pr,h.vl,h.vs,h.kl,h.ks,h.sq,h.ql,h.qs,.inr (.inr (.inr ⟨q1,q2,q3,q4,by simpa using q5,by
       show (a.n.a7.set f true)[a.n.Id.toNat]?=some true
       rw [g0f];split
       ·rw [if_pos (by omega)]
       ·exact q6,q7⟩)),h.wt⟩
     have l1:=a06 a.n.Id ⟨5,0,0,0,m.g8,a.n.c8,[]⟩;rw [a66 (by exact hid) (by simp only;omega),f8y];simp only;rw [d7D (a:=⟨⟨a.n.Id,a.n.Acc,a.n.a6,a.n.Seq,a.n.d6,a.n.a8,a.n.c9,a.n.i4,a.n.c8,a.n.a7.set (f:Int).toNat true,a.n.i9,a.n.i6,a.n.b8,a.n.f0⟩,a.out++I8 a.n.Id ⟨5,0,0,0,m.g8,a.n.c8,[]⟩,a.told⟩) hni q7 q4 (by simp only [f8M];omega) (by simp only;omega),f8y,hsl];simp only [a2T,f8U]
   ·simp only [g0Z];rw [b6m]
  ·simp only [g0Z,g00,g0K];rw [b6m]
 ·rw [show (a.n.d6 != 3)=true by simpa using p3];simp only [g0Z,g0K];rw [b6m]
theorem f2e{a:p7}(h:NI a.n){m:l8}(hm:MI m)(hk:m.a9=5)(ho:a.out.length<=800)(ht:a.told.length<=800)(hto:m.To=a.n.Id):b62 a m=some (a2T a (a2I a.n m)):=by
 have hkd:=hm.kd.five hk;unfold b62 a2I;cases h1:decide (m.g8<(a.n.a6.length:Int))
 ·cases h2:decide (m.g8>(a.n.a6.length:Int))
  ·simp only [g00];have hl:a.n.a6.length<40:=by simp at h1 h2;omega
   rw [d7D h hl hkd.2 (by omega) (by omega)];rfl
  ·simp only [g00,g0Z];rw [a8l (by omega)];simp only [f8y,a2T,M4,hto,f9o]
 ·simp only [g0Z];rw [b6m]
theorem e3d{a:p7}(h:NI a.n){m:l8}(hm:MI m)(hk:m.a9=7)(ho:a.out.length<=800):c0I a m=some (a0c a (a1H a.n m)):=by
 have hql:=h.ql;obtain ⟨e1,e2⟩:z4 m.g9=true/\m.g9.i7=false:=by
  rcases hm.kd with q|q|q|q|q|q|q
  ·omega
  ·omega
  ·omega
  ·omega
  ·omega
  ·exact ⟨q.2.2.2.1,q.2.2.2.2.1⟩
  ·omega
 unfold c0I a1H;rw [show decide ((a.n.f0.length:Int)>=4)=decide (4<=a.n.f0.length) by simp;omega,f5J (h.ok.2.2.1.fits (by decide))];cases a.n.d6==0
 ·simp only [g00,f9n];cases h4:decide (4<=a.n.f0.length)
  ·simp only [g00,f9n,f8y];cases N6 a.n.a6 m.g9.a5
   ·simp only [g00];have hni:NI {a.n with f0:=a.n.f0++[m.g9]}:=h.queue (by simp at h4 ⊢;omega) (by
     intro e he;rcases f8B.1 he with q|q
     ·exact h.qs e q
     ·rw [f8H.1 q];exact ⟨e1,e2⟩)
    rw [v5 (by omega),b4Y (a:=⟨{a.n with f0:=a.n.f0++[m.g9]},a.out,a.told⟩) hni (by simp only;omega)];rfl
   ·simp only [g0Z];rw [a7F]
  ·simp only [g0Z,g0K];rw [a7F]
 ·simp only [g0Z,g0K];rw [a7F]
theorem b6U{n:j6}(h:NI n):a74 n=some ⟨n,[],[]⟩:=by
 unfold a74;rw [c0M h.ok];rfl
theorem f7B{l:List l8}(hl:l.length<=1000)(h:∀m∈l,MI m):A2 152 a0x l:=a0l (by omega) fun m hm=>(h m hm).ok
theorem c7q{a:p7}(h:NI a.n)(ho:a.out.length<=1000)(hm:∀m∈a.out,MI m)(ht:a.told.length<=1000):a1E a=some (a.n,a.out,a.told,a):=by
 unfold a1E;rw [c0M h.ok,f8y,c9q (f7B ho hm),f8y,d4z (by omega)];rfl
theorem c5S{n:j6}{x:j6×List l8}(h:S7 n x)(hl:x.2.length<=1000):a1E ⟨x.1,x.2,[]⟩=some (x.1,x.2,[],⟨x.1,x.2,[]⟩):=c7q h.ni hl h.ms (by simp)
theorem c5e(l:List m9)(prog:List n8):∀(f k:Nat) (regs:List Int) (rs:List r9) (ps:List p8),(T9 l prog f k regs rs ps).Code≠3
 | 0,_,_,_,_=>by simp [T9]
 | f+1,k,regs,rs,ps=>by
  unfold T9;cases prog[k]? with
  | none=>simp
  | some i=>
   simp only;cases i.a9==6
   ·cases i.a9==7
    ·cases (D8 l i regs rs ps).1.all H5
     ·simp
     ·exact c5e l prog f _ _ _ _
    ·simp
   ·exact c5e l prog f _ _ _ _
theorem f0c{l:List m9}(hb:C6 l=true)(p:List n8):((B3 l p).Code==3) = !E4 p:=by
 unfold B3;rw [hb,f8K];cases E4 p
 ·rfl
 ·simpa using c5e l p _ _ _ _ _
theorem e1q{n:j6}(h:NI n):b6u n=some (p6 n.a6).1:=by
 unfold b6u;rw [a85 h.ok,f8y,a1t.2 h];simp only [f8F,g00];rw [d0n (okEntries.f h.ok.2.2.1),h.list];rfl
theorem c9k{prog:List n8}(h:A2 32 okT prog):s8 prog:=h.fits (by decide)
theorem e6Q{n:j6}(h:NI n){prog:List n8}(hp:A2 32 okT prog):b6K n prog=some ((K9 n prog).1,(K9 n prog).2,[]):=by
 have hf:=c9k hp;have hs:=h.sq;have hr:=b1E h hf;have hlen:=c1D n prog;have e0:=c7q (a:=⟨n,[],[]⟩) h (by simp) (by simp) (by simp);rw [a2r] at hr hlen;unfold b6K;rw [a85 h.ok,f8y,a1t.2 h,b6U h,a2r,c0m hf,e1q h];simp only [f8F,g00,f8y];have hc:((B3 (a2q n) prog).Code==3) = !E4 prog:=f0c (b8X h) prog;rw [show (p6 n.a6).1.g7=a2q n from rfl,d4j (a3k (b8X h)) hf];unfold L6 at hr hlen ⊢;rw [hc] at hr hlen ⊢;cases hb:n.i9
 ·cases hq:n.Seq==1000
  ·cases hpo:E4 prog
   ·simp only [f9j,g0Z,g00,e0,f8y];rfl
   ·rw [hb,hq,hpo] at hr hlen;have hca:L6 n prog=true:=by unfold L6;rw [hc,hb,hq,hpo];rfl
    have hn:=h.asked hf hca;simp only [f8F,f9j,Bool.or_false,g0Z,g00,f8y] at hr hlen ⊢;rw [C4 (by omega) (by omega)];have ha:(⟨⟨n.Id,n.Acc,n.a6,n.Seq+1,n.d6,n.a8,n.c9,n.i4,n.c8,n.a7,true,prog,⟨false,⟨n.Id,n.Seq+1⟩,B3 (a2q n) prog⟩,n.f0⟩,[],[]⟩:p7)=⟨Q2 n prog,[],[]⟩:=rfl;have hj:∀x:j6×List l8,S7 n x->x.2.length<=3->c01 ⟨x.1,x.2,[]⟩=some (x.1,x.2,[]):=by
     intro x hx hl;unfold c01;rw [c5S hx (by omega)];rfl
    rw [ha];cases h2:n.d6==2
    ·rw [h2] at hr hlen;cases h0:n.d6==0
     ·rw [h0] at hr hlen;simp only [g00,f8y,l9.go] at hr hlen ⊢;exact hj _ hr hlen
     ·rw [h0] at hr hlen;simp only [g00,g0Z] at hr hlen ⊢;rw [a66 (a:=⟨Q2 n prog,[],[]⟩) (by exact h.id) (by simp)];simp only [f8y,l9.go,f9y];exact hj (Q2 n prog,_) hr hlen
    ·rw [h2] at hr hlen;simp only [g0Z] at hr hlen ⊢;rw [b4Y (a:=⟨Q2 n prog,[],[]⟩) hn (by simp)];simp only [f8y,l9.go,a0c,f9y];exact hj _ hr hlen
  ·simp only [g0Z,g00,e0,f8y];rfl
 ·simp only [g0Z,e0,f8y];rfl
theorem d8W{b who:Int}(hb:0<=b/\b<=3000)(hw:0<=who/\who<=2):c08 b who=some (M2 b who):=by
 have e:∀i:Int,1<=i->i<=4->a2N who (b+i)=some (bif decide (b+i<=3000) then (bif f9c (b+i) 3==who then .ret (b+i) else .nxt (b+(i+1))) else .brk ()):=by
  intro i h1 h3;unfold a2N;rw [show decide (b+i>0)=true by simp;omega,d2h,C4 (by omega) (by omega),Int.add_assoc];cases hd:decide (b+i<=3000)
  ·rfl
  ·rw [show a0i (b+i)=f9c (b+i) 3 by
    unfold a0i;rw [H7.2 ⟨by omega,by simpa using hd⟩];rfl]
   simp only [g0Z,f8y];cases f9c (b+i) 3==who<;>rfl
 have hmod:∀i:Int,1<=i->f9c (b+i) 3=(b+i) % 3:=fun i hi=>Int.tmod_eq_emod_of_nonneg (by omega)
 have e1:=e 1 (by omega) (by omega);have e2:=e 2 (by omega) (by omega);have e3:=e 3 (by omega) (by omega);have m1:=hmod 1 (by omega);have m2:=hmod 2 (by omega);have m3:=hmod 3 (by omega);unfold c08 M2;rw [show decide (b<0)=false by simp;omega,N8,show p9 who 0 2=true from H7.2 hw,C4 (by omega) (by omega)];simp only [g00,f8y,f8F];cases q1:decide (b+1<=3000)
 ·rw [q1] at e1;rw [C8 (body:=fun s:Int=>a2N who s) e1,show decide (b+2<=3000)=false by simp at q1 ⊢;omega,show decide (b+3<=3000)=false by simp at q1 ⊢;omega];rfl
 rw [q1] at e1;cases t1:f9c (b+1) 3==who;case true=>rw [t1] at e1;rw [W3 (body:=fun s:Int=>a2N who s) e1];rfl
 rw [t1] at e1;rw [E7 (body:=fun s:Int=>a2N who s) e1];cases q2:decide (b+2<=3000)
 ·rw [show (1:Int)+1=2 from rfl];rw [q2] at e2;rw [C8 (body:=fun s:Int=>a2N who s) e2,show decide (b+3<=3000)=false by simp at q2 ⊢;omega];rfl
 rw [q2] at e2;rw [show (1:Int)+1=2 from rfl];cases t2:f9c (b+2) 3==who;case true=>rw [t2] at e2;rw [W3 (body:=fun s:Int=>a2N who s) e2];rfl
 rw [t2] at e2;rw [E7 (body:=fun s:Int=>a2N who s) e2,show (2:Int)+1=3 from rfl];cases q3:decide (b+3<=3000)
 ·rw [q3] at e3;rw [C8 (body:=fun s:Int=>a2N who s) e3];rfl
 rw [q3] at e3;have t3:(f9c (b+3) 3==who)=true:=by
  simp only [beq_eq_false_iff_ne,beq_iff_eq] at t1 t2 ⊢;omega
 rw [t3] at e3;rw [W3 (body:=fun s:Int=>a2N who s) e3,t3];rfl
theorem e1d{n:j6}(h:NI n):b9m n=some (Y7 n):=by
 have hr:=a91 h;have hl:=b9t n;have hj:∀x:j6×List l8,S7 n x->x.2.length<=3->b43 ⟨x.1,x.2,[]⟩=some x:=by
  intro x hx hl;unfold b43;rw [c5S hx (by omega)];rfl
 unfold b9m;unfold Y7 at hr hl ⊢;rw [a85 h.ok,f8y,a1t.2 h,b6U h,d8W h.pr h.id];simp only [f8F,g00,f8y];cases hd:decide (M2 n.Acc.i0 n.Id<0)
 ·rw [hd] at hr hl;simp only [decide_eq_false_iff_not] at hd;obtain ⟨c1,c2⟩:=h.accOk;rcases c0Q h.pr h.id with q|⟨q1,q2,q3,q4⟩
  ·omega
  ·have hpr:=h.pr;rw [show decide (M2 n.Acc.i0 n.Id>=0)=true by simp;omega];simp only [g0Z,g00,c1N,f8y] at hr hl ⊢;rw [c0o (a:=(a4s n).Acc) c1 c2,show I6 (a4s n).Acc (M2 n.Acc.i0 n.Id)=some ⟨M2 n.Acc.i0 n.Id,n.Acc.a7⟩ from b89 (a:=n.Acc) (by omega) q3 (by omega),f8y,c8Z (by exact h.id),f8y];simp only;have ha:=a66 (a:=⟨⟨n.Id,⟨M2 n.Acc.i0 n.Id,n.Acc.a7⟩,n.a6,n.Seq,1,M2 n.Acc.i0 n.Id,a1y n.Id,n.Acc.a7,zE,[],n.i9,n.i6,n.b8,n.f0⟩,[],[]⟩) h.id (by simp) ⟨1,0,0,M2 n.Acc.i0 n.Id,(n.a6.length:Int),zE,[]⟩;refine (congrArg (fun x:Option p7=>((x.bind fun all=>some (l9.brk all)).bind fun x:l9 (j6×List l8) p7=>x.go some fun j=>b43 j)) ha).trans ?_;simp only [f8y,l9.go,f9y];have e:=hj _ hr hl;exact e
 ·rw [hd] at hr hl;rw [show decide (M2 n.Acc.i0 n.Id>=0)=false by simp at hd ⊢;omega];simp only [g00,g0Z,f8y,l9.go] at hr hl ⊢;exact hj (n,[]) hr hl
theorem f5K{n:j6}(h:NI n):b87 n=some ((W2 n).1,(W2 n).2,[]):=by
 have hr:=a9R h;have hl:=c47 n;have hj:∀x:j6×List l8,S7 n x->x.2.length<=6->b7R ⟨x.1,x.2,[]⟩=some (x.1,x.2,[]):=by
  intro x hx hl;unfold b7R;rw [c5S hx (by omega)];rfl
 have l0:=a06 n.Id ⟨8,0,0,0,(n.a6.length:Int),zE,[]⟩;unfold b87;unfold W2 at hr hl ⊢;rw [a85 h.ok,f8y,a1t.2 h,b6U h];simp only [f8F,g00,f8y];rw [a66 (a:=⟨n,[],[]⟩) (by exact h.id) (by simp)];simp only [f8y,f9y];have l1:(I8 n.Id ⟨8,0,0,0,(n.a6.length:Int),⟨false,⟨0,0⟩,⟨[],[],0,0⟩⟩,[]⟩).length<=3:=l0;cases h1:n.d6==1
 ·cases h2:n.d6==2
  ·cases h3:n.d6==3
   ·cases hbz:n.i9
    ·rw [h1,h2,h3,hbz] at hr hl;simp only [g00,f8y,l9.go] at hr hl ⊢;have e:=hj _ hr hl;exact e
    ·rw [h1,h2,h3,hbz] at hr hl;simp only [g00,g0Z] at hr hl ⊢;rw [a66 (by exact h.id) (by simp only;omega)];simp only [f8y,l9.go];have e:=hj _ hr hl;exact e
   ·rw [h1,h2,h3] at hr hl;simp only [g00,g0Z] at hr hl ⊢;rw [a66 (by exact h.id) (by simp only;omega)];simp only [f8y,l9.go];have e:=hj _ hr hl;exact e
  ·rw [h1,h2] at hr hl;simp only [g00,g0Z] at hr hl ⊢;rw [b4Y (by exact h) (by simp only;omega)];simp only [f8y,l9.go];have e:=hj _ hr hl;exact e
 ·rw [h1] at hr hl;simp only [g0Z] at hr hl ⊢;rw [a66 (by exact h.id) (by simp only;omega)];simp only [f8y,l9.go];have e:=hj _ hr hl;exact e
theorem f0L{n:j6}(h:NI n):b6v n=some (a1d n):=by
 unfold b6v;rw [a85 h.ok,f8y,a1t.2 h];simp only [f8F,g00];rw [show (⟨n.Id,n.Acc,n.a6,n.Seq,0,0,[],[],⟨false,⟨0,0⟩,⟨[],[],0,0⟩⟩,[],false,[],⟨false,⟨0,0⟩,⟨[],[],0,0⟩⟩,[]⟩:j6)=a1d n from rfl,c0M h.fall.ok];rfl
theorem c8G{n:j6}(h:NI n){m:l8}(hto:m.To=n.Id):∀(d k:Nat) (o:List l8),n.a6.length-k=d->o.length<=k->o8 (fun s:Int×p7=>a7i m s.1 s.2) ((k:Int),⟨n,o,[]⟩)=some (.brk ⟨n,o++((f8I d).map fun j=>a1l n m (k+j)).flatten,[]⟩)
 | 0,k,o,hd,ho=>by
  have hkl:=h.kl;refine (C8 (body:=fun s:Int×p7=>a7i m s.1 s.2) (b:=⟨n,o,[]⟩) ?_).trans (by simp);unfold a7i;rw [show decide ((k:Int)<(n.a6.length:Int))=false by simp;omega];rfl
 | d+1,k,o,hd,ho=>by
  have hkl:=h.kl;have hlt:k<n.a6.length:=by omega
  have hb:a7i m (k:Int) ⟨n,o,[]⟩=some (.nxt (((k+1:Nat):Int),⟨n,o++a1l n m k,[]⟩)):=by
   unfold a7i;rw [w6 _ k hlt,g0Z];simp only;rw [t0 hlt,f8y,a8l (by simp only;omega),b8q m hlt,E6 (h.ok.2.2.1.fits (by decide)) hlt];simp only [f8y,M4,hto]
  rw [E7 (body:=fun s:Int×p7=>a7i m s.1 s.2) (s:=((k:Int),⟨n,o,[]⟩)) hb,c8G h hto d (k+1) _ (by omega) (by rw [b8q m hlt];simp;omega)];rw [List.range_succ_eq_map,f9l,f9f,f8U,g0H];simp only [g0l,Function.comp_def,Nat.succ_eq_add_one,Nat.add_assoc,Nat.add_comm 1]
theorem f4F{n:j6}(h:NI n){m:l8}(hm:MI m)(hto:m.To=n.Id):b5W n m=some (W7 n m):=by
 have hr:=b3C h hm;have hl:=c0u h m;have hj:∀x:j6×List l8×List n6,a5O n x->x.2.1.length<=60->x.2.2.length<=1->b75 ⟨x.1,x.2.1,x.2.2⟩=some x:=by
  intro x hx h1 h2;unfold b75;rw [c7q hx.ni (by simp only;omega) hx.ms (by simp only;omega)];rfl
 have hz:NI (⟨n,[],[]⟩:p7).n:=h;unfold b5W;unfold W7 at hr hl ⊢;rw [a85 h.ok,f8y,a1t.2 h,b6U h,c8o hm.ok,d2v.2 hm,show (m.To != n.Id)=false by simpa using hto];simp only [f8F,g00,f8y];by_cases k1:m.a9=1
 ·rw [show (m.a9==1)=true by simpa using k1] at hr hl ⊢;simp only [g0Z] at hr hl ⊢;rw [e6s (a:=⟨n,[],[]⟩) h hm (by simp) hto];have e:=hj _ hr hl.1 hl.2;exact e
 rw [show (m.a9==1)=false by simpa using k1] at hr hl ⊢;by_cases k2:m.a9=2
 ·rw [show (m.a9==2)=true by simpa using k2] at hr hl ⊢;simp only [g0Z,g00] at hr hl ⊢;rw [f0l (a:=⟨n,[],[]⟩) h hm k2 (by simp)];have e:=hj _ hr hl.1 hl.2;exact e
 rw [show (m.a9==2)=false by simpa using k2] at hr hl ⊢;by_cases k3:m.a9=3
 ·rw [show (m.a9==3)=true by simpa using k3] at hr hl ⊢;simp only [g0Z,g00] at hr hl ⊢;rw [e1u (a:=⟨n,[],[]⟩) h hm (by simp) hto];have e:=hj _ hr hl.1 hl.2;exact e
 rw [show (m.a9==3)=false by simpa using k3] at hr hl ⊢;by_cases k4:m.a9=4
 ·rw [show (m.a9==4)=true by simpa using k4] at hr hl ⊢;simp only [g0Z,g00] at hr hl ⊢;rw [f1Q (a:=⟨n,[],[]⟩) h hm (by simp) (by simp)];have e:=hj _ hr hl.1 hl.2;exact e
 rw [show (m.a9==4)=false by simpa using k4] at hr hl ⊢;by_cases k5:m.a9=5
 ·rw [show (m.a9==5)=true by simpa using k5] at hr hl ⊢;simp only [g0Z,g00] at hr hl ⊢;rw [f2e (a:=⟨n,[],[]⟩) h hm k5 (by simp) (by simp) hto];have e:=hj _ hr hl.1 hl.2;exact e
 rw [show (m.a9==5)=false by simpa using k5] at hr hl ⊢;by_cases k6:m.a9=6
 ·rw [show (m.a9==6)=true by simpa using k6] at hr hl ⊢;obtain ⟨c1,c2⟩:=h.accOk;simp only [g0Z,g00] at hr hl ⊢;rw [c0o c1 c2];cases hp:I6 n.Acc m.a8
  ·rw [hp] at hr;simp only [f8y,b6D,l9.go];have e:=hj _ hr hl.1 hl.2;exact e
  ·rw [hp] at hr;simp only [f8y,b6D,l9.go];have e:=hj _ hr hl.1 hl.2;exact e
 rw [show (m.a9==6)=false by simpa using k6] at hr hl ⊢;by_cases k7:m.a9=7
 ·rw [show (m.a9==7)=true by simpa using k7] at hr hl ⊢;simp only [g0Z,g00] at hr hl ⊢;rw [e3d (a:=⟨n,[],[]⟩) h hm k7 (by simp)];have e:=hj _ hr hl.1 hl.2;exact e
 rw [show (m.a9==7)=false by simpa using k7] at hr hl ⊢;cases k8:m.a9==8
 ·rw [k8] at hr hl;simp only [g00,f8y,l9.go] at hr hl ⊢;have e:=hj _ hr hl.1 hl.2;exact e
 ·rw [k8] at hr hl;have hs:=hm.sl;obtain ⟨k,hk⟩:∃k:Nat,m.g8=(k:Int):=⟨m.g8.toNat,by omega⟩
  simp only [g00,g0Z] at hr hl ⊢;unfold a4j at hr hl ⊢;rw [hk] at hr hl ⊢;rw [f9b] at hr hl ⊢;rw [c8G h hto (n.a6.length-k) k [] rfl (by simp)];have e:=hj _ hr hl.1 hl.2;exact e
theorem c2y{l:List l8}(hl:s8 l):∀(d k:Nat) (net:List l8),net.length<=40->l.length-k=d->o8 (fun s:(List l8)×Int=>a4e l s.1 s.2) (net,(k:Int))=some (.brk (net++(l.drop k).take (40-net.length)))
 | 0,k,net,hn,hd=>by
  refine (C8 (body:=fun s:(List l8)×Int=>a4e l s.1 s.2) (b:=net) ?_).trans (by rw [f9d (by omega)];simp);unfold a4e;rw [show decide ((k:Int)<(l.length:Int))=false by simp;omega];rfl
 | d+1,k,net,hn,hd=>by
  have hlt:k<l.length:=by omega
  rw [f8W hlt];by_cases h40:net.length<40
  ·rw [E7 (body:=fun s:(List l8)×Int=>a4e l s.1 s.2) (t:=(net++[l[k]],((k+1:Nat):Int))) (by
    unfold a4e b8W;rw [w6 _ k hlt,g0Z,t0 hlt,f8y,show decide ((net.length:Int)<40)=true by simp;omega,g0Z,v5 (by simp only;omega),E6 hl hlt];rfl),c2y hl d (k+1) _ (by simp;omega) (by omega),f8M,f9K,show 40-net.length=(40-(net.length+1))+1 by omega,g0A,f8U]
   rfl
  ·rw [E7 (body:=fun s:(List l8)×Int=>a4e l s.1 s.2) (t:=(net,((k+1:Nat):Int))) (by
    unfold a4e b8W;rw [w6 _ k hlt,g0Z,t0 hlt,f8y,show decide ((net.length:Int)<40)=false by simp;omega,g00,E6 hl hlt];rfl),c2y hl d (k+1) _ hn (by omega),show 40-net.length=0 by omega,f9p,f9p]
theorem c6a{l:List n6}(hl:s8 l):∀(d k:Nat) (net:List n6),net.length<=60->l.length-k=d->o8 (fun s:(List n6)×Int=>a34 l s.1 s.2) (net,(k:Int))=some (.brk (net++(l.drop k).take (60-net.length)))
 | 0,k,net,hn,hd=>by
  refine (C8 (body:=fun s:(List n6)×Int=>a34 l s.1 s.2) (b:=net) ?_).trans (by rw [f9d (by omega)];simp);unfold a34;rw [show decide ((k:Int)<(l.length:Int))=false by simp;omega];rfl
 | d+1,k,net,hn,hd=>by
  have hlt:k<l.length:=by omega
  rw [f8W hlt];by_cases h40:net.length<60
  ·rw [E7 (body:=fun s:(List n6)×Int=>a34 l s.1 s.2) (t:=(net++[l[k]],((k+1:Nat):Int))) (by
    unfold a34 b5E;rw [w6 _ k hlt,g0Z,t0 hlt,f8y,show decide ((net.length:Int)<60)=true by simp;omega,g0Z,v5 (by simp only;omega),E6 hl hlt];rfl),c6a hl d (k+1) _ (by simp;omega) (by omega),f8M,f9K,show 60-net.length=(60-(net.length+1))+1 by omega,g0A,f8U]
   rfl
  ·rw [E7 (body:=fun s:(List n6)×Int=>a34 l s.1 s.2) (t:=(net,((k+1:Nat):Int))) (by
    unfold a34 b5E;rw [w6 _ k hlt,g0Z,t0 hlt,f8y,show decide ((net.length:Int)<60)=false by simp;omega,g00,E6 hl hlt];rfl),c6a hl d (k+1) _ hn (by omega),show 60-net.length=0 by omega,f9p,f9p]
theorem b0f{w:m5}(hn:w.a0.length=3)(f6n:w.d7.length<=40)(htl:w.Told.length<=60){n:j6}(hid:0<=n.Id/\n.Id<=2){l:List l8}(hl:l.length<=100){t:List n6}(ht:t.length<=100):a4W w n l t=some (a9p (a00 (O0 w n.Id n) l) t):=by
 obtain ⟨k,hk⟩:∃k:Nat,n.Id=(k:Int):=⟨n.Id.toNat,by omega⟩
 unfold a4W;rw [hk,t0 (show k<w.a0.length by omega),f8y];rw [show o8 (fun s:(List l8)×Int=>a4e l s.1 s.2) (w.d7,0)=_ from c2y (by unfold s8;omega) l.length 0 w.d7 f6n (by omega)];simp only [f8y,l9.go,c3D];rw [show o8 (fun s:(List n6)×Int=>a34 t s.1 s.2) (w.Told,0)=_ from c6a (by unfold s8;omega) t.length 0 w.Told htl (by omega)];simp only [f8y,l9.go,c4W,f9M,hk];rfl
theorem e5e{l:List l8}{k:Nat}(hk:k<l.length)(hl:l.length<=100):b3b l (k:Int)=some (l.take k++l.drop (k+1)):=by
 unfold b3b;rw [C4 (by omega) (by omega)];have e1:((k:Int)+1).toNat=k+1:=by omega
 have l1:((l.drop 0).take ((k:Int).toNat-0)).length<=100:=by simp;omega
 have l2:((l.drop (k+1)).take (l.length-(k+1))).length<=100:=by simp;omega
 rw [v5 (by omega),v5 (by simp only [g0n];omega),v5 (by omega),e1,v5 (by simp only [f8M,g0n];omega)];rw [c28];simp
theorem f7Y(n:j6)(p:List n8):(L6 n p=true/\(K9 n p).1.Seq=n.Seq+1/\(K9 n p).1.b8.a5=⟨n.Id,n.Seq+1⟩)\/(L6 n p=false/\K9 n p=(n,[])):=by
 cases hc:L6 n p
 ·right
  rw [a2r,hc];exact ⟨rfl,rfl⟩
 ·left
  refine ⟨rfl,?_,?_⟩
  ·rw [a2r,hc];simp only [g0Z];cases n.d6==2
   ·rfl
   ·exact (b5C (Q2 n p)).seq
  ·rw [b6k hc];rfl
def onN(w:m5)(e:s6):m5:=
 bif e.a9==1 then a32 w e.A e.i6 else
 bif e.a9==5 then a00 (O0 w e.A (Y7 (I1 w e.A)).1) (Y7 (I1 w e.A)).2 else
 bif e.a9==6 then a00 (O0 w e.A (W2 (I1 w e.A)).1) (W2 (I1 w e.A)).2 else
 bif e.a9==7 then O0 w e.A (a1d (I1 w e.A)) else w
theorem c54(w:m5)(e:s6):E8 w e=bif e.a9==2||(e.a9==3||e.a9==4) then a1f w e else bif p9 e.A 0 2 then onN w e else w:=by
 unfold E8 onN;cases e.a9==2||(e.a9==3||e.a9==4)
 ·cases p9 e.A 0 2<;>rfl
 ·rfl
theorem f0F{w:m5}(h:WI w){e:s6}(he:R9 e)(hi:p9 e.A 0 2=true):a6P w e=some (onN w e):=by
 rw [H7] at hi;obtain ⟨i,hA⟩:∃i:Nat,e.A=(i:Int):=⟨e.A.toNat,by omega⟩
 obtain ⟨n,hg,hn,hid,hni,hlt⟩:=a4z h (i:=i) (by omega);have hal:=h.al;unfold a6P onN;rw [hA,a9l,hg,f8y,hn];cases e.a9==1
 ·cases e.a9==5
  ·cases e.a9==6
   ·cases e.a9==7
    ·rfl
    ·simp only [g0Z,g00];rw [f0L hni,f8y,b0f h.nl h.ml h.tl (by exact hni.id) (by simp) (by simp),f8y,a3h,c7b];simp only [f8y,l9.go,b8u];rw [show (a1d n).Id=(i:Int) from hid]
   ·simp only [g0Z,g00];have hr:=a9R hni;have hl:=c47 n;rw [f5K hni,f8y];simp only;rw [b0f h.nl h.ml h.tl (by rw [hr.id];exact hni.id) (by omega) (by simp),f8y,a3h,hr.id,hid];rfl
  ·simp only [g0Z,g00];have hr:=a91 hni;have hl:=b9t n;rw [e1d hni,f8y,b0f h.nl h.ml h.tl (by rw [hr.id];exact hni.id) (by omega) (by simp),f8y,a3h,hr.id,hid];rfl
 ·simp only [g0Z];unfold a32;rw [show decide ((w.d8.length:Int)>=60)=decide (60<=w.d8.length) by simp;omega];cases decide (60<=w.d8.length)
  ·simp only [g00];have hr:=b1E hni (c9k he);have hl:=c1D n e.i6;rw [e6Q hni he,f8y];simp only;rw [b0f h.nl h.ml h.tl (by rw [hr.id];exact hni.id) (by omega) (by simp),f8y,a3h,hr.id,hid,hn];rcases f7Y n e.i6 with ⟨c1,c2,c3⟩|⟨c1,c2⟩
   ·rw [show ((K9 n e.i6).1.Seq != n.Seq)=true by rw [c2];simp;omega,show decide ((K9 n e.i6).1.Seq>n.Seq)=true by rw [c2];simp;omega];simp only [g0Z];rw [v5 (by show (w.d8.length+1)*40<=_;omega)];simp only [f8y,l9.go,b8u];rw [c3,c2,hid];rfl
   ·rw [c2,show (n.Seq != n.Seq)=false by simp,show decide (n.Seq>n.Seq)=false by simp];rfl
  ·rfl
theorem f0C{w:m5}(h:WI w){e:s6}{k:Nat}(hA:e.A=(k:Int))(hk:k<w.d7.length)(hkd:(e.a9==2||(e.a9==3||e.a9==4))=true):a8n w e=some (a1f w e):=by
 have hml:=h.ml;unfold a8n a1f;rw [hA,t0 hk,f8y,show decide (0<=(k:Int))=true by simp,f9b,f8z hk];have hm:=h.ms _ (f8C hk);generalize w.d7[k]=m at hm;have hof:=e5e hk (by omega);have ht:=hm.to;obtain ⟨t,htt⟩:∃t:Nat,m.To=(t:Int):=⟨m.To.toNat,by omega⟩
 simp only [g0Z];by_cases k2:e.a9=2
 ·rw [show (e.a9==2)=true by simpa using k2,show (e.a9==4)=false by simp [k2],show (e.a9==3)=false by simp [k2]];simp only [g0Z,g00];have ho:=h.off (k:Int);obtain ⟨n,hg,hn,hid,hni,hlt⟩:=a4z ho (i:=t) (by omega);have hn':I1 w (t:Int)=n:=hn;have hg':w.a0[t]?=some n:=hg;have hr:=b3C hni hm;obtain ⟨l1,l2⟩:=c0u hni m;rw [hof,f8y,htt,a9l,hg',f8y,f4F hni hm (htt.trans hid.symm),f8y,b0f (w:=⟨w.a0,w.d7.take k++w.d7.drop (k+1),w.d8,w.Told⟩) h.nl ho.ml h.tl (by rw [hr.id];exact hni.id) (by omega) (by omega),f8y,hn',hr.id,hid];rfl
 ·rw [show (e.a9==2)=false by simpa using k2];cases k3:e.a9==3
  ·rw [show (e.a9==4)=true by rw [show (e.a9==2)=false by simpa using k2,k3] at hkd;simpa using hkd];simp only [g0Z,g00];obtain ⟨n,hg,hn,hid,hni,hlt⟩:=a4z h (i:=t) (by omega);rw [htt,a9l,hg,f8y,b0f h.nl h.ml h.tl hni.id (by simp) (by simp),f8y,a3h,hid,c6O hg];rfl
  ·rw [show (e.a9==4)=false by simp only [beq_iff_eq] at k3;simp [k3]];simp only [g0Z,g00];rw [hof];rfl
theorem e2U{w:m5}(h:WI w){e:s6}(he:R9 e):c0d w e=some (E8 w e):=by
 have hd:=d4W h he;have hml:=h.ml;have hcp:a2i w=some w:=c44 h.ok;have hcd:a2i (E8 w e)=some (E8 w e):=c44 hd.ok;have hin:m7 ((w.a0.length:Int)-1)=2:=by rw [h.nl];rfl
 have hnode:(e.a9==2||(e.a9==3||e.a9==4))=false->((D9 e.A 0 2).bind fun in_=>bif in_ then (a6P w e).bind fun o=>some (l9.brk o) else some (l9.brk w):Option (l9 m5 m5))=some (.brk (E8 w e)):=by
  intro hk;rw [N8,f8y,c54,hk];cases hi:p9 e.A 0 2
  ·rfl
  ·simp only [g0Z,g00];rw [f0F h he hi];rfl
 have hmsg:(e.a9==2||(e.a9==3||e.a9==4))=true->((D9 e.A 0 (m7 ((w.d7.length:Int)-1))).bind fun in_=>bif in_ then (a8n w e).bind fun o=>some (l9.brk o) else some (l9.brk w):Option (l9 m5 m5))=some (.brk (E8 w e)):=by
  intro hk;rw [C4 (by omega) (by omega),N8,f8y,c54,hk];cases hi:p9 e.A 0 ((w.d7.length:Int)-1)
  ·simp only [g0Z,g00];rw [show a1f w e=w by
    unfold a1f;cases h0:decide (0<=e.A)
    ·rfl
    ·have:¬(0<=e.A/\e.A<=(w.d7.length:Int)-1):=fun q=>by rw [H7.2 q] at hi;cases hi
     have h0':0<=e.A:=of_decide_eq_true h0;rw [f8Y (by omega)];rfl]
  ·rw [H7] at hi;simp only [g0Z];rw [f0C h (k:=e.A.toNat) (by omega) (by omega) hk];rfl
 unfold c0d;rw [hcp,f8y,hin];by_cases k1:e.a9=1
 ·have hf:(e.a9==2||(e.a9==3||e.a9==4))=false:=by simp [k1]
  rw [show (e.a9==1)=true by simpa using k1];simp only [g0Z];rw [hnode hf];simp only [f8y,l9.go,c10,hcd]
 rw [show (e.a9==1)=false by simpa using k1];by_cases k5:e.a9=5
 ·have hf:(e.a9==2||(e.a9==3||e.a9==4))=false:=by simp [k5]
  rw [show (e.a9==5)=true by simpa using k5];simp only [g0Z,g00];rw [hnode hf];simp only [f8y,l9.go,c1I,hcd]
 rw [show (e.a9==5)=false by simpa using k5];by_cases k6:e.a9=6
 ·have hf:(e.a9==2||(e.a9==3||e.a9==4))=false:=by simp [k6]
  rw [show (e.a9==6)=true by simpa using k6];simp only [g0Z,g00];rw [hnode hf];simp only [f8y,l9.go,c6W,hcd]
 rw [show (e.a9==6)=false by simpa using k6];simp only [g00];have fin:∀X:Option (l9 m5 m5),X=some (.brk (E8 w e))->(X.bind fun x=>x.go some fun j=>b58 j)=some (E8 w e):=by
  intro X hX;rw [hX];simp only [f8y,l9.go,b58,hcd]
 refine fin _ ?_;by_cases k7:e.a9=7
 ·rw [show (e.a9==7)=true by simpa using k7];exact hnode (by simp [k7])
 rw [show (e.a9==7)=false by simpa using k7];by_cases k2:e.a9=2
 ·rw [show (e.a9==2)=true by simpa using k2];exact hmsg (by simp [k2])
 by_cases k3:e.a9=3
 ·rw [show (e.a9==2)=false by simpa using k2,show (e.a9==3)=true by simpa using k3];exact hmsg (by simp [k3])
 by_cases k4:e.a9=4
 ·rw [show (e.a9==2)=false by simpa using k2,show (e.a9==3)=false by simpa using k3,show (e.a9==4)=true by simpa using k4];exact hmsg (by simp [k4])
 have e2:(e.a9==2)=false:=by simpa using k2
 have e3:(e.a9==3)=false:=by simpa using k3
 have e4:(e.a9==4)=false:=by simpa using k4
 rw [e2,e3,e4,c54,e2,e3,e4];have:onN w e=w:=by
  unfold onN;rw [show (e.a9==1)=false by simpa using k1,show (e.a9==5)=false by simpa using k5,show (e.a9==6)=false by simpa using k6,show (e.a9==7)=false by simpa using k7];rfl
 rw [this];cases p9 e.A 0 2<;>rfl
theorem e7U{w:m5}(h:WI w){e:s6}(he:R9 e):b6I w e=some (E8 w e):=by
 unfold b6I;rw [a6A h.ok,f8y,Y6.2 h];simp only [f8F,g00];rw [e2U h he];rfl
def D3(i:Int):Prop:=0<=i/\i<=2
abbrev VR:=Int->Nat->Int->m4->Prop
abbrev PR:=Int->Nat->m4->Prop
abbrev MS:=l8->Prop
def a1K(V:VR)(s:Nat)(e:m4):Prop := ∃b p q,D3 p/\D3 q/\p≠q/\V p s b e/\V q s b e
structure Cov(N:Int->j6)(V:VR)(n:j6)(q:Int):Prop where
 pr:n.a8<=(N q).Acc.i0
 cv:∀s b e,n.a6.length<=s->b<n.a8->V q s b e->∃v,n.i4[s]?=some v/\b<=v.a8
def Quo(p:Int->Prop):Prop := ∃a b,D3 a/\D3 b/\a≠b/\p a/\p b
structure LD(N:Int->j6)(V:VR)(P:PR)(n:j6):Prop where
 bs:n.d6≠0->∀s v,n.i4[s]?=some v->v.a8>0->v.a8<n.a8/\∃q,V q s v.a8 v.g9
 l1:n.d6=1->(∀s e,¬P n.a8 s e)/\∀q,D3 q->n.c9[q.toNat]?=some true->Cov N V n q
 l2:n.d6=2->(∀s e,P n.a8 s e->s<n.a6.length)/\Quo (Cov N V n)
 l3:n.d6=3->P n.a8 n.a6.length n.c8/\(∀s e,P n.a8 s e->s<=n.a6.length)/\Quo (Cov N V n)/\∀q,D3 q->n.a7[q.toNat]?=some true->V q n.a6.length n.a8 n.c8
structure MV(N:Int->j6)(V:VR)(P:PR)(m:l8):Prop where
 k1:m.a9=1->f9c m.a8 3=m.c9/\m.g8<=(N m.c9).a6.length
 k2:m.a9=2->m.g8<=(N m.To).a6.length/\m.a8<=(N m.c9).Acc.i0/\(∀s b e,m.g8.toNat<=s->b<m.a8->V m.c9 s b e->∃v,m.a7[s-m.g8.toNat]?=some v/\b<=v.a8)/\∀k v,m.a7[k]?=some v->v.a8>0->v.a8<=m.a8/\V m.c9 (m.g8.toNat+k) v.a8 v.g9
 k3:m.a9=3->P m.a8 m.g8.toNat m.g9
 k4:m.a9=4->∃e,V m.c9 m.g8.toNat m.a8 e
 k5:m.a9=5->a1K V m.g8.toNat m.g9
def Sf(N:Int->j6)(V:VR)(b:Int)(s:Nat)(e:m4)(q:Int):Prop:=
 b<=(N q).Acc.i0/\∀b' e',b'<b->V q s b' e'->∃b1 q1,b'<=b1/\b1<b/\V q1 s b1 e
structure PX(N:Int->j6)(V:VR)(P:PR)(M:MS):Prop where
 ni:∀i,D3 i->NI (N i)/\(N i).Id=i
 vp:∀i s b e,V i s b e->D3 i/\P b s e/\1<=b/\b<=(N i).Acc.i0
 cur:∀i s v,D3 i->(N i).Acc.a7[s]?=some v->v.a8>0->V i s v.a8 v.g9
 max:∀i s b e,V i s b e->∃v,(N i).Acc.a7[s]?=some v/\b<=v.a8
 pu:∀b s e e',P b s e->P b s e'->e=e'
 po:∀b s e,P b s e->1<=b/\b<=(N (f9c b 3)).Acc.i0
 safe:∀b s e,P b s e->Quo (Sf N V b s e)
 ld:∀i,D3 i->LD N V P (N i)
 kn:∀i s e,D3 i->(N i).a6[s]?=some e->a1K V s e
 ms:∀m,M m->MI m/\MV N V P m
theorem f2R{p q:Int->Prop}(hp:Quo p)(hq:Quo q):∃a,D3 a/\p a/\q a:=by
 obtain ⟨a,b,ha,hb,hab,pa,pb⟩:=hp;obtain ⟨c,d,hc,hd,hcd,qc,qd⟩:=hq;unfold D3 at *;by_cases h1:a=c
 ·exact ⟨a,ha,pa,h1▸qc⟩
 by_cases h2:a=d
 ·exact ⟨a,ha,pa,h2▸qd⟩
 by_cases h3:b=c
 ·exact ⟨b,hb,pb,h3▸qc⟩
 by_cases h4:b=d
 ·exact ⟨b,hb,pb,h4▸qd⟩
 omega
section
variable {N:Int->j6} {V:VR} {P:PR} {M:MS}
theorem PX.later(h:PX N V P M){s:Nat}{b0:Int}{e0:m4}(hc:Quo fun q=>V q s b0 e0):∀(k:Nat) (b:Int) (e:m4),b.toNat=k->b0<=b->P b s e->e=e0:=by
 have h0:P b0 s e0:=by obtain ⟨p,q,_,_,_,v,_⟩:=hc;exact (h.vp _ _ _ _ v).2.1
 intro k;induction k using Nat.strongRecOn with
 | _ k ih=>
  intro b e hb hle hp;by_cases hq:b0=b
  ·subst hq;exact h.pu _ _ _ _ hp h0
  ·obtain ⟨a,ha,v,s1,s2⟩:=f2R hc (h.safe b s e hp);obtain ⟨b1,q1,h1,h2,h3⟩:=s2 b0 e0 (by omega) v;obtain ⟨_,p1,p2,_⟩:=h.vp _ _ _ _ h3;exact ih b1.toNat (by omega) b1 e rfl h1 p1
theorem PX.one(h:PX N V P M){s:Nat}{e e':m4}(h1:a1K V s e)(h2:a1K V s e'):e=e':=by
 obtain ⟨b,p,q,hp,hq,hpq,v1,v2⟩:=h1;obtain ⟨b',p',q',hp',hq',hpq',w1,w2⟩:=h2;have c1:Quo fun q=>V q s b e:=⟨p,q,hp,hq,hpq,v1,v2⟩
 have c2:Quo fun q=>V q s b' e':=⟨p',q',hp',hq',hpq',w1,w2⟩
 rcases Int.le_total b b' with hl|hl
 ·exact (h.later c1 _ b' e' rfl hl (h.vp _ _ _ _ w1).2.1).symm
 ·exact h.later c2 _ b e rfl hl (h.vp _ _ _ _ v1).2.1
theorem PX.still(h:PX N V P M){s:Nat}{e:m4}(hc:a1K V s e):Quo fun q => ∃v,(N q).Acc.a7[s]?=some v/\v.a8>0/\v.g9=e:=by
 obtain ⟨b,p,q,hp,hq,hpq,v1,v2⟩:=hc;have c1:Quo fun q=>V q s b e:=⟨p,q,hp,hq,hpq,v1,v2⟩
 have key:∀a,D3 a->V a s b e->∃v,(N a).Acc.a7[s]?=some v/\v.a8>0/\v.g9=e:=by
  intro a ha va;obtain ⟨v,x1,x2⟩:=h.max _ _ _ _ va;have hb:=(h.vp _ _ _ _ va).2.2.1;have vv:=h.cur a s v ha x1 (by omega);exact ⟨v,x1,by omega,h.later c1 _ v.a8 v.g9 rfl x2 (h.vp _ _ _ _ vv).2.1⟩
 exact ⟨p,q,hp,hq,hpq,key p hp v1,key q hq v2⟩
end
def upd(N:Int->j6)(i:Int)(n:j6):Int->j6:=fun j=>if j=i then n else N j
theorem T5(N:Int->j6)(i:Int)(n:j6):upd N i n i=n:=if_pos rfl
theorem a9S{N:Int->j6}{i j:Int}(n:j6)(h:j≠i):upd N i n j=N j:=if_neg h
theorem a3o(N:Int->j6)(i:Int)(a b:j6):upd (upd N i a) i b=upd N i b:=by
 funext j;unfold upd;split<;>rfl
theorem a8X(N:Int->j6)(i:Int):upd N i (N i)=N:=by
 funext j;unfold upd;split
 ·rename_i h;rw [h]
 ·rfl
theorem a0B.own{n:j6}(h:a0B n)(hp:n.d6≠0):Own n:=by
 rcases h with q|q|q|q
 ·exact absurd q.1 hp
 ·exact q.2.1
 ·exact q.2.1
 ·exact q.2.1
structure Chg(N:Int->j6)(V:VR)(P:PR)(M:MS)(i:Int)(n':j6)(V':VR)(P':PR)(M':MS):Prop where
 ni:NI n'
 id:n'.Id=i
 pr:(N i).Acc.i0<=n'.Acc.i0
 kl:(N i).a6.length<=n'.a6.length
 v1:∀q s b e,V q s b e->V' q s b e
 v2:∀q s b e,V' q s b e->V q s b e\/(q=i/\(N i).Acc.i0<=b/\1<=b/\b<=n'.Acc.i0/\P' b s e)
 p1:∀b s e,P b s e->P' b s e
 p2:∀b s e,P' b s e->P b s e\/(b=n'.a8/\n'.d6=3/\(∀e',P' b s e'->e'=e)/\Quo (Sf (upd N i n') V' b s e))
 cur:∀s v,n'.Acc.a7[s]?=some v->v.a8>0->V' i s v.a8 v.g9
 max:∀s b e,V' i s b e->∃v,n'.Acc.a7[s]?=some v/\b<=v.a8
 ld:LD (upd N i n') V' P' n'
 kn:∀s e,n'.a6[s]?=some e->a1K V' s e
 ms:∀m,M' m->M m\/(MI m/\MV (upd N i n') V' P' m)
section
variable {N:Int->j6} {V:VR} {P:PR} {M:MS} {i:Int} {n':j6} {V':VR} {P':PR} {M':MS}
theorem Chg.prm(c:Chg N V P M i n' V' P' M')(q:Int):(N q).Acc.i0<=(upd N i n' q).Acc.i0:=by
 unfold upd;split
 ·rename_i h;rw [h];exact c.pr
 ·exact f8Z _
theorem Chg.len(c:Chg N V P M i n' V' P' M')(q:Int):(N q).a6.length<=(upd N i n' q).a6.length:=by
 unfold upd;split
 ·rename_i h;rw [h];exact c.kl
 ·exact f8R _
theorem Chg.old(c:Chg N V P M i n' V' P' M'){q:Int}{s:Nat}{b x:Int}{e:m4}(hx:x<=(N q).Acc.i0)(hb:b<x)(v:V' q s b e):V q s b e:=by
 rcases c.v2 q s b e v with v|⟨rfl,v1,_⟩
 ·exact v
 ·omega
theorem Chg.cov(c:Chg N V P M i n' V' P' M'){n:j6}{q:Int}(h:Cov N V n q):Cov (upd N i n') V' n q:=
 ⟨f9z h.pr (c.prm q),fun s b e hs hb v=>h.cv s b e hs hb (c.old h.pr hb v)⟩
theorem Quo.imp{p q:Int->Prop}(h:Quo p)(hi:∀a,D3 a->p a->q a):Quo q:=by
 obtain ⟨a,b,ha,hb,hab,pa,pb⟩:=h;exact ⟨a,b,ha,hb,hab,hi a ha pa,hi b hb pb⟩
theorem Chg.sf(c:Chg N V P M i n' V' P' M'){b:Int}{s:Nat}{e:m4}{q:Int}(h:Sf N V b s e q):Sf (upd N i n') V' b s e q:=
 ⟨f9z h.1 (c.prm q),fun b' e' hb v=>by
  obtain ⟨b1,q1,x1,x2,x3⟩:=h.2 b' e' hb (c.old h.1 hb v);exact ⟨b1,q1,x1,x2,c.v1 _ _ _ _ x3⟩⟩
theorem a1K.mono(h:∀q s b e,V q s b e->V' q s b e){s:Nat}{e:m4}(hc:a1K V s e):a1K V' s e:=by
 obtain ⟨b,p,q,hp,hq,hpq,v1,v2⟩:=hc;exact ⟨b,p,q,hp,hq,hpq,h _ _ _ _ v1,h _ _ _ _ v2⟩
theorem Chg.ldo(c:Chg N V P M i n' V' P' M')(hi:D3 i){n:j6}(hn:NI n)(hne:n.Id≠i)(h:LD N V P n):LD (upd N i n') V' P' n:=by
 have hp:n.d6≠0->∀s e,P' n.a8 s e->P n.a8 s e:=by
  intro h0 s e hp;rcases c.p2 _ _ _ hp with q|⟨hb,h3,_⟩
  ·exact q
  ·exfalso
   have o1:=(hn.ld.own h0).mod;have o2:=(c.ni.ld.own (by omega)).mod;rw [<-hb,o1,c.id] at o2;exact hne o2
 refine ⟨fun h0 s v hs hv => ?_,fun h1 => ?_,fun h2 => ?_,fun h3 => ?_⟩
 ·obtain ⟨x1,q,x2⟩:=h.bs h0 s v hs hv;exact ⟨x1,q,c.v1 _ _ _ _ x2⟩
 ·obtain ⟨x1,x2⟩:=h.l1 h1;exact ⟨fun s e q=>x1 s e (hp (by omega) s e q),fun q hq hf=>c.cov (x2 q hq hf)⟩
 ·obtain ⟨x1,x2⟩:=h.l2 h2;exact ⟨fun s e q=>x1 s e (hp (by omega) s e q),x2.imp fun a _=>c.cov⟩
 ·obtain ⟨x1,x2,x3,x4⟩:=h.l3 h3;exact ⟨c.p1 _ _ _ x1,fun s e q=>x2 s e (hp (by omega) s e q),x3.imp fun a _=>c.cov,fun q hq hv=>c.v1 _ _ _ _ (x4 q hq hv)⟩
theorem Chg.msg(c:Chg N V P M i n' V' P' M'){m:l8}(h:MV N V P m):MV (upd N i n') V' P' m:=by
 refine ⟨fun k => ?_,fun k => ?_,fun k=>c.p1 _ _ _ (h.k3 k),fun k => ?_,fun k=>(h.k5 k).mono c.v1⟩
 ·obtain ⟨x1,x2⟩:=h.k1 k;have:=c.len m.c9;exact ⟨x1,by omega⟩
 ·obtain ⟨x1,x2,x3,x4⟩:=h.k2 k;have:=c.len m.To;refine ⟨by omega,f9z x2 (c.prm _),fun s b e hs hb v=>x3 s b e hs hb (c.old x2 hb v),fun k v hk hv => ?_⟩;obtain ⟨y1,y2⟩:=x4 k v hk hv;exact ⟨y1,c.v1 _ _ _ _ y2⟩
 ·obtain ⟨e,x⟩:=h.k4 k;exact ⟨e,c.v1 _ _ _ _ x⟩
theorem PX.step(h:PX N V P M)(hi:D3 i)(c:Chg N V P M i n' V' P' M'):PX (upd N i n') V' P' M':=by
 have hpo:∀b s e,P' b s e->1<=b/\b<=(upd N i n' (f9c b 3)).Acc.i0:=by
  intro b s e hp;rcases c.p2 _ _ _ hp with q|⟨rfl,h3,_⟩
  ·obtain ⟨x1,x2⟩:=h.po _ _ _ q;exact ⟨x1,f9z x2 (c.prm _)⟩
  ·have o:=c.ni.ld.own (by omega);have ho:=o.mod;rw [c.id] at ho;rw [ho,T5];exact ⟨o.b1,o.pr⟩
 refine ⟨fun j hj => ?_,fun j s b e v => ?_,fun j s v hj hs hv => ?_,fun j s b e v => ?_,fun b s e e' p p' => ?_,hpo,fun b s e p => ?_,fun j hj => ?_,fun j s e hj hk => ?_,fun m hm => ?_⟩
 ·by_cases q:j=i
  ·subst q;rw [T5];exact ⟨c.ni,c.id⟩
  ·rw [a9S _ q];exact h.ni j hj
 ·rcases c.v2 _ _ _ _ v with v|⟨rfl,x1,x2,x3,x4⟩
  ·obtain ⟨x1,x2,x3,x4⟩:=h.vp _ _ _ _ v;exact ⟨x1,c.p1 _ _ _ x2,x3,f9z x4 (c.prm _)⟩
  ·rw [T5];exact ⟨hi,x4,x2,x3⟩
 ·by_cases q:j=i
  ·subst q;rw [T5] at hs;exact c.cur s v hs hv
  ·rw [a9S _ q] at hs;exact c.v1 _ _ _ _ (h.cur j s v hj hs hv)
 ·by_cases q:j=i
  ·subst q;rw [T5];exact c.max s b e v
  ·rw [a9S _ q];rcases c.v2 _ _ _ _ v with v|⟨x,_⟩
   ·exact h.max _ _ _ _ v
   ·exact absurd x q
 ·rcases c.p2 _ _ _ p with p|⟨_,_,x,_⟩
  ·rcases c.p2 _ _ _ p' with p'|⟨_,_,x,_⟩
   ·exact h.pu _ _ _ _ p p'
   ·exact x e (c.p1 _ _ _ p)
  ·exact (x e' p').symm
 ·rcases c.p2 _ _ _ p with p|⟨_,_,_,x⟩
  ·exact (h.safe _ _ _ p).imp fun a _=>c.sf
  ·exact x
 ·by_cases q:j=i
  ·subst q;rw [T5];exact c.ld
  ·rw [a9S _ q];exact c.ldo hi (h.ni j hj).1 (by rw [(h.ni j hj).2];exact q) (h.ld j hj)
 ·by_cases q:j=i
  ·subst q;rw [T5] at hk;exact c.kn s e hk
  ·rw [a9S _ q] at hk;exact (h.kn j s e hj hk).mono c.v1
 ·rcases c.ms m hm with q|q
  ·exact ⟨(h.ms m q).1,c.msg (h.ms m q).2⟩
  ·exact q
end
def snd(M:MS)(l:List l8):MS:=fun m=>M m\/m∈l
def N3(N:Int->j6)(M:MS)(i:Int)(n':j6)(l:List l8):Prop := ∃V' P',PX (upd N i n') V' P' (snd M l)
section
variable {N N':Int->j6} {V V':VR} {P P':PR} {M:MS} {i:Int} {n n':j6}
theorem PX.send(h:PX N V P M){l:List l8}(hl:∀m∈l,MI m/\MV N V P m):PX N V P (snd M l):=
 {h with ms:=fun m hm=>hm.elim (h.ms m) (hl m)}
theorem a8D(M:MS):snd M []=M:=by
 funext m;unfold snd;simp
theorem d7S(M:MS)(a b:List l8):snd (snd M a) b=snd M (a++b):=by
 funext m;unfold snd;simp [or_assoc]
theorem N3.same(h:PX N V P M):N3 N M i (N i) []:=⟨V,P,by rw [a8X,a8D];exact h⟩
theorem LD.same(h:LD N V P n)(hpr:∀q,(N q).Acc.i0<=(N' q).Acc.i0)(hV:∀q s b e,V q s b e->V' q s b e)(hold:∀q s b x e,x<=(N q).Acc.i0->b<x->V' q s b e->V q s b e)(hP:∀b s e,P b s e->P' b s e)(hP':∀s e,P' n.a8 s e->P n.a8 s e)(e1:n'.d6=n.d6)(e2:n'.a8=n.a8)(e3:n'.i4=n.i4)(e4:n'.a6=n.a6)(e5:n'.c9=n.c9)(e6:n'.c8=n.c8)(e7:n'.a7=n.a7):LD N' V' P' n':=by
 have hc:∀q,Cov N V n q->Cov N' V' n' q:=fun q c=>by
  refine ⟨by rw [e2];exact f9z c.pr (hpr q),?_⟩;rw [e2,e3,e4];exact fun s b e hs hb v=>c.cv s b e hs hb (hold _ _ _ _ _ c.pr hb v)
 refine ⟨?_,?_,?_,?_⟩
 ·rw [e1,e2,e3];intro h0 s v hs hv;obtain ⟨x1,q,x2⟩:=h.bs h0 s v hs hv;exact ⟨x1,q,hV _ _ _ _ x2⟩
 ·rw [e1,e2,e5];intro h1;obtain ⟨x1,x2⟩:=h.l1 h1;exact ⟨fun s e p=>x1 s e (hP' s e p),fun q hq hf=>hc q (x2 q hq hf)⟩
 ·rw [e1,e2,e4];intro h2;obtain ⟨x1,x2⟩:=h.l2 h2;exact ⟨fun s e p=>x1 s e (hP' s e p),x2.imp fun q _=>hc q⟩
 ·rw [e1,e2,e4,e6,e7];intro h3;obtain ⟨x1,x2,x3,x4⟩:=h.l3 h3;exact ⟨hP _ _ _ x1,fun s e p=>x2 s e (hP' s e p),x3.imp fun q _=>hc q,fun q hq hv=>hV _ _ _ _ (x4 q hq hv)⟩
theorem LD.none(h:n.d6=0):LD N V P n:=⟨fun q=>absurd h q,fun q=>by omega,fun q=>by omega,fun q=>by omega⟩
theorem a89(hpr:(N i).Acc.i0<=n'.Acc.i0)(q:Int):(N q).Acc.i0<=(upd N i n' q).Acc.i0:=by
 unfold upd;split
 ·rename_i h;rw [h];exact hpr
 ·exact f8Z _
theorem PX.quiet(h:PX N V P M)(hi:D3 i)(hni:NI n')(hid:n'.Id=i)(hpr:(N i).Acc.i0<=n'.Acc.i0)(hvt:n'.Acc.a7=(N i).Acc.a7)(hk:n'.a6=(N i).a6)(hld:LD (upd N i n') V P n'):PX (upd N i n') V P M:=
 h.step hi ⟨hni,hid,hpr,by rw [hk];exact f8R _,fun _ _ _ _ v=>v,fun _ _ _ _ v=>.inl v,fun _ _ _ p=>p,fun _ _ _ p=>.inl p,by rw [hvt];exact fun s v=>h.cur i s v hi,by rw [hvt];exact fun s b e=>h.max i s b e,hld,by rw [hk];exact fun s e=>h.kn i s e hi,fun m hm=>.inl hm⟩
theorem PX.keep(h:PX N V P M)(hi:D3 i)(hni:NI n')(hid:n'.Id=i)(hpr:(N i).Acc.i0<=n'.Acc.i0)(hvt:n'.Acc.a7=(N i).Acc.a7)(hk:n'.a6=(N i).a6)(e1:n'.d6=(N i).d6)(e2:n'.a8=(N i).a8)(e3:n'.i4=(N i).i4)(e5:n'.c9=(N i).c9)(e6:n'.c8=(N i).c8)(e7:n'.a7=(N i).a7):PX (upd N i n') V P M:=
 h.quiet hi hni hid hpr hvt hk ((h.ld i hi).same (a89 hpr) (fun _ _ _ _ v=>v) (fun _ _ _ _ _ _ _ v=>v) (fun _ _ _ p=>p) (fun _ _ p=>p) e1 e2 e3 hk e5 e6 e7)
theorem PX.down(h:PX N V P M)(hi:D3 i):PX (upd N i (a4s (N i))) V P M:=
 h.quiet hi (h.ni i hi).1.down (h.ni i hi).2 (f8Z _) rfl rfl (.none rfl)
theorem PX.promise(h:PX N V P M)(hi:D3 i){b:Int}{x:z0}(hp:I6 (N i).Acc b=some x):PX (upd N i {N i with Acc:=x}) V P M:=by
 obtain ⟨rfl,h1,h2,h3⟩:=a4q hp;exact h.keep hi ((h.ni i hi).1.promise hp) (h.ni i hi).2 h3 rfl rfl rfl rfl rfl rfl rfl rfl
theorem PX.yield(h:PX N V P M)(hi:D3 i)(b:Int):PX (upd N i (N9 (N i) b)) V P M:=by
 unfold N9;cases (N i).d6 != 0&&decide (b>(N i).a8)
 ·simp only [g00];rw [a8X];exact h
 ·exact h.down hi
theorem PX.free(h:PX N V P M)(hi:D3 i):PX (upd N i (U7 (N i)).1) V P M:=by
 rcases a9M (N i) with q|⟨k,_,_,q⟩<;>rw [q]
 ·rw [a8X];exact h
 ·exact h.keep hi (h.ni i hi).1.freeN (h.ni i hi).2 (f8Z _) rfl rfl rfl rfl rfl rfl rfl rfl
theorem e9Z{vs:List m8}{n s:Nat}{v:m8}(h:(U1 vs n)[s]?=some v):vs[s]?=some v\/v=v0:=by
 unfold U1 at h;rw [g0L] at h;split at h
 ·exact .inl h
 ·rw [List.getElem?_replicate] at h;split at h
  ·injection h with h;exact .inr h.symm
  ·cases h
theorem e1M{vs:List m8}{s:Nat}{v:m8}(n:Nat)(h:vs[s]?=some v):(U1 vs n)[s]?=some v:=by
 unfold U1;rw [f8X (f8G.1 h).1];exact h
def a7T(V:VR)(i:Int)(k:Nat)(b:Int)(e:m4):VR:=fun q s c f=>V q s c f\/(q=i/\s=k/\c=b/\f=e)
theorem d0U(h:PX N V P M)(hi:D3 i){b s:Int}{e:m4}{x:z0}(hc:L2 (N i).Acc b s e=some x):∃k:Nat,s=(k:Int)/\k<40/\1<=b/\b<=3000/\(N i).Acc.i0<=b/\x.i0=b/\z4 e=true/\
  (∀s v,x.a7[s]?=some v->v.a8>0->a7T V i k b e i s v.a8 v.g9)/\(∀s c f,a7T V i k b e i s c f->∃v,x.a7[s]?=some v/\c<=v.a8):=by
 obtain ⟨k,rfl,hk,he,h1,h2,h3,rfl⟩:=b6O hc;have hlen:k<(U1 (N i).Acc.a7 (k+1)).length:=by rw [b51];omega
 refine ⟨k,rfl,hk,h1,h2,h3,rfl,he,fun s v hs hv => ?_,fun s c f v => ?_⟩
 ·simp only [g0f] at hs;split at hs
  ·rename_i hq;injection hs with hs;subst hs;exact .inr ⟨rfl,hq.symm,rfl,rfl⟩
  ·rcases e9Z hs with q|q
   ·exact .inl (h.cur i s v hi q hv)
   ·rw [q] at hv;exact absurd hv (by decide)
 ·simp only [g0f];by_cases hq:k=s
  ·subst hq;rw [if_pos rfl,if_pos hlen];refine ⟨_,rfl,?_⟩;rcases v with v|⟨_,_,rfl,_⟩
   ·have:=(h.vp _ _ _ _ v).2.2.2;simp only;omega
   ·exact f8Z _
  ·rw [if_neg hq];rcases v with v|⟨_,x,_⟩
   ·obtain ⟨v',y1,y2⟩:=h.max _ _ _ _ v;exact ⟨v',e1M _ y1,y2⟩
   ·exact absurd x.symm hq
theorem c5x{k:Nat}{b:Int}{e:m4}(hb:(N i).Acc.i0<=b){q:Int}{s:Nat}{c x:Int}{f:m4}(hx:x<=(N q).Acc.i0)(hc:c<x)(v:a7T V i k b e q s c f):V q s c f:=by
 rcases v with v|⟨rfl,_,rfl,_⟩
 ·exact v
 ·omega
theorem PX.vote(h:PX N V P M)(hi:D3 i){b s:Int}{e:m4}{x:z0}(hc:L2 (N i).Acc b s e=some x)(hp:P b s.toNat e):PX (upd N i {N i with Acc:=x}) (a7T V i s.toNat b e) P M:=by
 obtain ⟨k,rfl,hk,h1,h2,h3,h4,he,c1,c2⟩:=d0U h hi hc;rw [f9b] at hp ⊢;have hpr:(N i).Acc.i0<=({N i with Acc:=x}:j6).Acc.i0:=by show _<=x.i0;rw [h4];exact h3
 refine h.step hi ⟨(h.ni i hi).1.cast hc,(h.ni i hi).2,hpr,f8R _,fun _ _ _ _ v=>.inl v,fun q s c f v => ?_,fun _ _ _ p=>p,fun _ _ _ p=>.inl p,c1,c2,?_,fun s e hk=>(h.kn i s e hi hk).mono fun _ _ _ _ v=>.inl v,fun m hm=>.inl hm⟩
 ·rcases v with v|⟨rfl,rfl,rfl,rfl⟩
  ·exact .inl v
  ·exact .inr ⟨rfl,h3,h1,by show _<=x.i0;rw [h4];exact f8Z _,hp⟩
 ·exact (h.ld i hi).same (a89 hpr) (fun _ _ _ _ v=>.inl v) (fun q s c x f hx hc v=>c5x h3 hx hc v) (fun _ _ _ p=>p) (fun _ _ p=>p) rfl rfl rfl rfl rfl rfl rfl
theorem PX.know(h:PX N V P M)(hi:D3 i){e:m4}(he:z4 e=true)(hl:(N i).a6.length<40)(hc:a1K V (N i).a6.length e):PX (upd N i (E3 (N i) e)) V P M:=by
 have hk:=c1i (N i) e;have hacc:(E3 (N i) e).Acc=(N i).Acc:=by unfold E3;cases (N i).d6==3<;>rfl
 have hb:(E3 (N i) e).a8=(N i).a8:=by unfold E3;cases (N i).d6==3<;>rfl
 have hbe:(E3 (N i) e).i4=(N i).i4:=by unfold E3;cases (N i).d6==3<;>rfl
 have hpr:(N i).Acc.i0<=(E3 (N i) e).Acc.i0:=by rw [hacc];exact f8Z _
 have hcov:∀q,Cov N V (N i) q->Cov (upd N i (E3 (N i) e)) V (E3 (N i) e) q:=fun q c=>by
  refine ⟨by rw [hb];exact f9z c.pr (a89 hpr q),?_⟩;rw [hb,hbe,hk,f8M];exact fun s b e hs hb v=>c.cv s b e (by omega) hb v
 refine h.step hi ⟨(h.ni i hi).1.know he hl,(c0T _ _).trans (h.ni i hi).2,hpr,by rw [hk];simp,fun _ _ _ _ v=>v,fun _ _ _ _ v=>.inl v,fun _ _ _ p=>p,fun _ _ _ p=>.inl p,by rw [hacc];exact fun s v=>h.cur i s v hi,by rw [hacc];exact fun s b e=>h.max i s b e,?_,fun s f hs => ?_,fun m hm=>.inl hm⟩
 ·have hld:=h.ld i hi;refine ⟨?_,?_,?_,?_⟩
  ·intro h0;rw [hb,hbe];refine hld.bs ?_;intro q;apply h0;unfold E3;rw [show ((N i).d6==3)=false by simp [q]];exact q
  ·intro h1;have h1':(N i).d6=1:=by
    by_cases q:(N i).d6=3
    ·unfold E3 at h1;rw [show ((N i).d6==3)=true by simpa using q] at h1;cases h1
    ·unfold E3 at h1;rw [show ((N i).d6==3)=false by simpa using q] at h1;exact h1
   have hf:(E3 (N i) e).c9=(N i).c9:=by unfold E3;cases (N i).d6==3<;>rfl
   rw [hb,hf];exact ⟨(hld.l1 h1').1,fun q hq hf=>hcov q ((hld.l1 h1').2 q hq hf)⟩
  ·intro h2;rw [hb,hk,f8M,f9K];by_cases q:(N i).d6=3
   ·obtain ⟨x1,x2,x3,x4⟩:=hld.l3 q;exact ⟨fun s f p=>by have:=x2 s f p;omega,x3.imp fun q _=>hcov q⟩
   ·have h2':(N i).d6=2:=by
     unfold E3 at h2;rw [show ((N i).d6==3)=false by simpa using q] at h2;exact h2
    obtain ⟨x1,x2⟩:=hld.l2 h2';exact ⟨fun s f p=>by have:=x1 s f p;omega,x2.imp fun q _=>hcov q⟩
  ·intro h3;exfalso
   by_cases q:(N i).d6=3
   ·unfold E3 at h3;rw [show ((N i).d6==3)=true by simpa using q] at h3;cases h3
   ·unfold E3 at h3;rw [show ((N i).d6==3)=false by simpa using q] at h3;exact q h3
 ·rw [hk,g0L] at hs;split at hs
  ·exact h.kn i s f hi hs
  ·rename_i hge;rw [List.getElem?_singleton] at hs;split at hs
   ·injection hs with hs;subst hs;rw [show s=(N i).a6.length by omega];exact hc
   ·cases hs
end
end
end Go.Proofs.YtmceicmlkgpmpaaGreat
