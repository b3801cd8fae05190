/- Abstract values and states of the program, functions of the program and what their calls come to, and what follows from it: part 2 of the text that the law leans on; long names are written short. -/
import Derived.Test.YtmceicmlkgpmpaaGreatP1
import Derived.WideKeyRuns
import Derived.Below
import Derived.Carry
import Derived.ChangeArms
import Derived.Deep.Slices
import Derived.WideShapes
import Derived.Test.YtmceicmlkgpmpaaGreatProg
set_option linter.unusedVariables false
set_option linter.unusedSimpArgs false
set_option linter.unnecessarySimpa false
namespace Go.Proofs.YtmceicmlkgpmpaaGreat
open Go
open List renaming getElem?_eq_getElem->f8z,replicate->f8A,mem_append->f8B,getElem_mem->f8C,all_eq_true->f8E,getElem?_eq_some_iff->f8G,mem_singleton->f8H,range->f8I,mem_cons->f8J,nodup_append->f8L,length_append->f8M,eq_nil_of_length_eq_zero->f8N,mem_of_getElem?->f8O,getD_eq_getElem?_getD->f8P,getElem?_append_right->f8T,append_assoc->f8U,getElem?_set_ne->f8V,drop_eq_getElem_cons->f8W,getElem?_append_left->f8X,flatten_cons->f9f,mem_map->f9i,mem_or_eq_of_mem_set->f9k,map_cons->f9l,append_nil->f9o,take_of_length_le->f9r,length_map->f9u,mem_replicate->f9v,nil_append->f9y,take_append_drop->f9A,mem_range->f9B,mem_flatten->f9C,getElem?_map->f9D,mem_of_mem_drop->f9E,mem_of_mem_take->f9F,mem_filter->f9H,getElem?_cons_zero->f9L,map_append->f9R,getElem?_cons_succ->f9T,pairwise_cons->f9X,nodup_cons->g0a,any_eq_true->g0b,sublist_append_right->g0p,pairwise_append->g0r,Perm->g0w,drop_drop->g0x,cons_append->g0y,replicate_succ->g0B,size_toArray->g0E,toArray->g0G,map_map->g0H,Sublist->g0I,not_mem_nil->g0M,any_cons->g0R,flatten_append->g0S
open Bool renaming and_eq_true->f8D,true_and->f8K,not_eq_true'->f9h,not_false->f9j,false_or->f9n,false_eq_true->f9W,and_assoc->g0X
open Nat renaming le_refl->f8R,mul_le_mul_right->f9g,le_trans->f9m,eq_of_beq_eq_true->f9w,zero_add->f9I,succ_mul->f9N,le_mul_of_pos_right->g0h,add_zero->g0l,zero_le->g0v
open Int renaming tmod->f9c,tdiv->g0N
open Option renaming getD_some->f9P,map_some->f9U,map_eq_some_iff->g0i
open Option.some renaming inj->f9V
noncomputable section
section
variable {cx:Cx} {Γ:P3} {F:Nat->Prop} {ι:Nat->Nat->Value} {S:St} {a:Act} {w:World}
theorem u7.writeX(h:u7 Γ F ι S a w){g j:Nat}{e e':s9}(he:S.ent g j=some e)(hl:e.live=true){w':World}(hk:w'.os=w.os/\w'.tape=w.tape/\w'.output=w.output)(hsz:w'.heap.size=w.heap.size)(hb:∀k,¬EB w e (ι g j) k->w'.heap[k]?=w.heap[k]?)(hn:I0 w w' F->RE w' F (S.setE g j e').D ι e' (ι g j)){X:List Nat}(hX:∀k∈X,¬F k/\(Γ.own k\/Γ.w0.heap.size<=k)/\∀g' j' e'',S.ent g' j'=some e''->e''.live=true->¬EB w e'' (ι g' j') k)(hin:∀k,EB w' e' (ι g j) k->EB w e (ι g j) k\/k∈X):u7 Γ F ι (S.setE g j e') a w':=by
  have hs:I0 w w' F:=a1v fun k hF=>hb k fun q=>(h.sep g j e k he hl q).1 hF
  have hD:∀k,S.D k->(S.setE g j e').D k:=fun k x=>R2.2 x
  have hoth:∀g' j' e'',S.ent g' j'=some e''->e''.live=true->¬(g'=g/\j'=j)->∀k,EB w e'' (ι g' j') k->w'.heap[k]?=w.heap[k]?:=fun g' j' e'' he'' hl'' q k a2a=>hb k fun q'=>q (h.inj g' j' e'' g j e k he'' he hl'' hl a2a q')
  have hone:∀g2 j2 e2 k,S.ent g2 j2=some e2->e2.live=true->¬(g2=g/\j2=j)->EB w' e' (ι g j) k->EB w' e2 (ι g2 j2) k->False:=by
    intro g2 j2 e2 k h2 l2 q2 k1 k2;have k2':=(h.ents g2 j2 e2 h2).back (hoth g2 j2 e2 h2 l2 q2) k2;rcases hin k k1 with x|x
    · exact q2 (h.inj g2 j2 e2 g j e k h2 he l2 hl k2' x)
    · exact (hX k x).2.2 g2 j2 e2 h2 l2 k2'
  exact
    { F0:=h.F0
      F1:=fun k hF=>hsz▸h.F1 k hF
      F2:=h.F2
      kept:=⟨hk.1.trans h.kept.os,hk.2.1.trans h.kept.tape,hk.2.2.trans h.kept.output,hsz▸h.kept.size,fun k hk' hno=>by
        rw [hb k fun q => ?_]
        · exact h.kept.block k hk' hno
        · rcases (h.sep g j e k he hl q).2 with x|x
          · exact hno x
          · omega⟩
      tmps:=by rw [a78];exact h.tmps.imp fun _ _ x=>x.mono hs (fun _ y=>y) hD (fun _ _ _=>rfl)
      ents:=fun g' j' e'' he''=>by
        rw [Q8 he] at he'';split at he''
        · rename_i q;obtain ⟨rfl,rfl⟩:=q;injection he'' with he'';subst he'';exact hn hs
        · rename_i q;exact (h.ents g' j' e'' he'').mono hs (fun _ y=>y) hD (fun _ _ _=>rfl) fun k hl'' a2a=>hoth g' j' e'' he'' hl'' q k a2a
      sep:=fun g' j' e'' k he'' hl'' a2a=>by
        rw [Q8 he] at he'';split at he''
        · rename_i q;obtain ⟨rfl,rfl⟩:=q;injection he'' with he'';subst he'';rcases hin k a2a with x|x
          · exact h.sep g' j' e k he hl x
          · exact ⟨(hX k x).1,(hX k x).2.1⟩
        · rename_i q;exact h.sep g' j' e'' k he'' hl'' ((h.ents g' j' e'' he'').back (hoth g' j' e'' he'' hl'' q) a2a)
      inj:=fun g1 j1 e1 g2 j2 e2 k h1 h2 l1 l2 k1 k2=>by
        rw [Q8 he] at h1 h2;split at h1<;>split at h2
        · rename_i q1 q2;exact ⟨q1.1.trans q2.1.symm,q1.2.trans q2.2.symm⟩
        · rename_i q1 q2;obtain ⟨rfl,rfl⟩:=q1;injection h1 with h1;subst h1;exact (hone g2 j2 e2 k h2 l2 q2 k1 k2).elim
        · rename_i q1 q2;obtain ⟨rfl,rfl⟩:=q2;injection h2 with h2;subst h2;exact (hone g1 j1 e1 k h1 l1 q1 k2 k1).elim
        · rename_i q1 q2;exact h.inj g1 j1 e1 g2 j2 e2 k h1 h2 l1 l2 ((h.ents g1 j1 e1 h1).back (hoth g1 j1 e1 h1 l1 q1) k1) ((h.ents g2 j2 e2 h2).back (hoth g2 j2 e2 h2 l2 q2) k2)
      defers:=h.defers
      pins:=fun j c hc=>⟨hD _ (h.pins j c hc).1,(h.pins j c hc).2⟩}
theorem I2.splice{rows:List (List V)}(h:I2 rows){idx off:Nat}{r vs:List V}(hr:rows[idx]?=some r)(hv:∀v∈vs,v.isRef=false):I2 (rows.set idx (A7 r off vs)):=by
 intro q hq v hm;rcases f9k hq with hq|rfl
 ·exact h q hq v hm
 ·unfold A7 at hm;have hrr:=h r (f8O hr);rcases f8B.1 hm with hm|hm
  ·rcases f8B.1 hm with hm|hm
   ·exact hrr v (f9F hm)
   ·exact hv v hm
  ·exact hrr v (f9E hm)
theorem u7.dput(h:u7 Γ F ι S a w){g j t sz n:Nat}{o:Bool}{rows:List (List V)}(he:S.ent g j=some (.deep o t sz n rows)){idx off:Nat}{r vs:List V}{ds:List Value}{fp:List Nat}{ks:List (Nat×Nat)}(hr:rows[idx]?=some r)(hoff:off+vs.length<=sz)(hbl:BL w F vs ds fp)(hfps:M5 S w ι ks fp)(hks:ks.Nodup)(hgj:(g,j) ∉ ks){w':World}(hw:w'.os=w.os/\w'.tape=w.tape/\w'.output=w.output)(hsz:w'.heap.size=w.heap.size)(hb:∀k,B8 (ι g j)≠some k->w'.heap[k]?=w.heap[k]?)(hnew:∀flat,w.ownsRow 0 t sz (ι g j) n flat->w'.ownsRow 0 t sz (ι g j) n (A7 flat (idx*sz+off) ds)) :
  u7 Γ F ι (S.upds (G5 ks++[((g,j),.deep o t sz n (rows.set idx (A7 r off vs)))])) a w':=by
 obtain ⟨flat,fs,hor,hkl,hn,hl,hnd,hnr⟩:=h.ents g j _ he;have h1:=h.killAll ks fun id hid=>by
  obtain ⟨e,he,_⟩:=hfps.live id hid;exact ⟨e,he⟩
 have he1:(S.upds (G5 ks)).ent g j=some (.deep o t sz n rows):=by rw [d2K hgj];exact he
 have hidx:=(f8G.1 hr).1;have hpos:idx*sz+sz<=n*sz:=by rw [<-f9N];exact f9g _ (by omega)
 obtain ⟨fa,fm,fb,rfl,hrow,_⟩:=hkl.splice (k:=idx*sz+off) hbl.kl (by rw [a3N hl,hn];omega);rw [<-a8P hl hr hoff] at hrow;have hfpx:∀k∈fp,¬F k/\(Γ.own k\/Γ.w0.heap.size<=k)/\k ∉ E2 (ι g j)++(fa++(fm++fb))/\∀g' j' e'',(S.upds (G5 ks)).ent g' j'=some e''->e''.live=true->¬EB w e'' (ι g' j') k:=by
  intro k hk;obtain ⟨id,hid,e',he',hl',hb'⟩:=hfps.mem hk;obtain ⟨z1,z2⟩:=h.sep _ _ e' k he' hl' hb';refine ⟨z1,z2,?_,?_⟩
  ·intro q;obtain ⟨y1,y2⟩:=h.inj _ _ _ _ _ _ k he he' rfl hl' ((EB.deep_iff hor hkl).2 q) hb';exact hgj (by rw [show (g,j)=id from Prod.ext y1 y2];exact hid)
  ·intro g' j' e'' he'' hl'' hb'';rcases b0u _ he'' with ⟨_,rfl⟩|⟨q1,q2⟩
   ·cases hl''
   ·obtain ⟨y1,y2⟩:=h.inj _ _ _ _ _ _ k q2 he' hl'' hl' hb'' hb';exact q1 (by rw [show (g',j')=id from Prod.ext y1 y2];exact hid)
 have hnd2:(E2 (ι g j)++(fa++fb)).Nodup:=by
  refine List.Nodup.sublist ?_ hnd;exact g0I.append_left (g0I.append_left (g0p _ _) _) _
 have hnd':(E2 (ι g j)++(fa++(fp++fb))).Nodup:=by
  refine (a8x (a8x (g0w.refl (fp++fb)))).nodup_iff.2 ?_;refine f8L.2 ⟨M5.nodup h hfps hks,hnd2,?_⟩;intro k hk k' hk' hkk;subst hkk;refine (hfpx k hk).2.2.1 ?_;simp only [f8B] at hk' ⊢;rcases hk' with q|q|q<;>simp [q]
 have hre:I0 w w' F->RE w' F ((S.upds (G5 ks)).setE g j (.deep o t sz n (rows.set idx (A7 r off vs)))).D ι (.deep o t sz n (rows.set idx (A7 r off vs))) (ι g j):=by
  intro hs;refine ⟨_,_,hnew flat hor,hrow.mono hs (fun _ x=>x) (fun k x=>R2.2 ((a0r S k _).2 x)) (fun _ _ _=>rfl) ?_,by simpa using hn,?_,hnd',fun q=>(hnr q).splice hr hbl.noRef⟩
  ·intro k hk;refine hb k fun q => ?_
   exact (f8L.1 hnd').2.2 k (R3.2 q) k hk rfl
  ·intro q hq;rcases f9k hq with hq|rfl
   ·exact hl q hq
   ·have:=hl r (f8O hr);rw [a2X _ _ _ (by omega)];exact this
 rw [St.upds_append];refine h1.writeX he1 rfl hw hsz (fun k hk=>hb k fun q=>hk (EB.top q)) hre (X:=fp) (fun k hk=>⟨(hfpx k hk).1,(hfpx k hk).2.1,(hfpx k hk).2.2.2⟩) ?_;intro k hk;have hs:I0 w w' F:=a1v fun k hF=>hb k fun q=>(h.sep g j _ k he rfl (EB.top q)).1 hF
 obtain ⟨flat2,fs2,ho2,hkl2,_⟩:=hre hs;have hk2:=(EB.deep_iff ho2 hkl2).1 hk;have hkl3:=hrow.mono (w':=w') hs (fun _ x=>x) (fun k x=>x) (fun _ _ _=>rfl) (fun k hk=>hb k fun q=>(f8L.1 hnd').2.2 k (R3.2 q) k hk rfl);have hfl:=b1C ho2 (hnew flat hor) (fun _ _=>rfl);subst hfl;rw [hkl2.det hkl3 (fun _ _=>rfl)] at hk2;simp only [f8B] at hk2;rw [EB.deep_iff hor hkl];simp only [f8B];rcases hk2 with q|q|q|q<;>simp [q]
def b0E(cx:Cx)(ty:Nat)(x y:V)(r:List V)(ck om:List (Option Nat)):j8 B6:=
 match cx.T ty,y.cells with
 | some ti,some vs=>match x with
  | .eptr g j sz idx off=>j8.bind (j8.rd g j) fun e=>j8.bind (a19 ck om vs) fun f=>match e with
   | .deep o t sz' n rows=>if sz'=sz/\vs.length=ti.size/\off+vs.length<=sz/\f.ls.isEmpty/\a3l f.ks/\a1T f.ks (g,j)=false then
     j8.pure {v:=.bot,upd:=G5 f.ks++[((g,j),.deep o t sz n (rows.set idx (A7 r off f.v)))],obl:=(rows[idx]?=some r)::f.obl}
    else j8.no
   | _=>j8.no
  | _=>j8.no
 | _,_=>j8.no
theorem BL.len{F:Nat->Prop}:∀{vs:List V} {cs:List Value} {f:List Nat},BL w F vs cs f->vs.length=cs.length
 | _,_,_,.nil=>rfl
 | _,_,_,.cons _ _ _ _ _ _ _ t=>by simp [BL.len t]
theorem d6z(h:u7 Γ F ι S a w){grp:Nat}{ob:Oper}{ty:Nat}{x y:Operand}{r:List V}{ck om:List (Option Nat)}(ho:ob.op=.store ty x y)(hd:ob.dst=none){out:B6}{lg:List (Nat×Nat)}(hp:b0E cx ty (t7 S.t x) (t7 S.t y) r ck om S.ent=some (out,lg))(hob:∀p∈out.obl,p):U4 cx.P Γ ι S grp ob out a w:=by
 have hx:=E1 h.tmps x;have hy:=E1 h.tmps y;unfold b0E at hp;cases hti:cx.T ty with
 | none=>rw [hti] at hp;cases hp
 | some ti=>
 cases hvs:(t7 S.t y).cells with
 | none=>rw [hti,hvs] at hp;cases hp
 | some vs=>
 rw [hti,hvs] at hp;simp only at hp;obtain ⟨i,d,z,htf⟩:=cx.tf hti;have hcells:=hy.cells hvs;have hone:=hcells.all_one;have hclen:vs.length=(a.eval y).cells.size:=by simpa using hcells.length
 generalize t7 S.t x=xv at hp hx;cases xv<;>try (cases hp;done)
 case eptr g j sz idx off=>
  obtain ⟨hD,b,hι,hc⟩:=hx.inv_eptr;obtain ⟨e,l1,l2,hrd,hp',hl12⟩:=j8.bind_some hp;clear hp;have he:=(j8.rd_some hrd).1;simp only at he;obtain ⟨f,l3,l4,hf,hp'',hl34⟩:=j8.bind_some hp';clear hp';cases e<;>try (cases hp'';done)
  rename_i o t sz' n rows;simp only at hp'';split at hp''<;>try (cases hp'';done)
  rename_i hcond;obtain ⟨rfl,hc1,hc2,hc3,hc4,hc5⟩:=hcond;have:=j8.pure_some hp'';injection this with h2 h3;subst h2;have hr:rows[idx]?=some r:=hob _ (f8J.2 (.inl rfl));have hls:f.ls=[]:=List.isEmpty_iff.1 hc3;obtain ⟨fp,hbl,hfps,hh⟩:=b4i (F1:=F) h (fun _ x=>x) hcells hf (fun p hp=>hob p (f8J.2 (.inr hp))) (by rw [hls];intro id hid;cases hid);obtain ⟨flat0,fs0,hor0,hkl0,hn0,hl0,_⟩:=h.ents g j _ he;have hidx:=(f8G.1 hr).1;have hvl:f.v.length=vs.length:=by rw [hbl.len,hclen];simp
  rcases hor0.2 with ⟨hv,h0⟩|⟨g0,cap,cur,hv,hbg,hg,hnc,hcm,hcs,ht⟩
  ·omega
  ·have hb:b=g0:=by rw [hv] at hι;simp [B8] at hι;omega
   subst hb;have hcl:n*sz'<=cur.size:=by rw [hcs];exact f9g _ hnc
   have hpos:idx*sz'+sz'<=n*sz':=by rw [<-f9N];exact f9g _ (by omega)
   have hrun:=c0S (P:=cx.P) ho htf hc hg (by omega) (by omega) hone;refine ⟨_,undef,_,F,ι,hrun,.inr ⟨rfl,rfl⟩,?_⟩;rw [hd,b3A,b2X];refine h.dput he hr (by omega) hbl hfps (a5c hc4) (fun q=>by rw [a6p.2 q] at hc5;cases hc5) ⟨rfl,rfl,rfl⟩ (b19 _ _ _) (fun k hk=>setRow_other w b k _ fun q=>hk (by rw [hι,q])) ?_;intro flat hor;have hfl:=b1C hor hor0 (fun _ _=>rfl);subst hfl;have hflat:flat.length=n*sz':=hor.1;refine ⟨?_,.inr ⟨b,cap,_,hv,hbg,setRow_heap w b cur _ t (0,0) hg,hnc,hcm,?_,?_⟩⟩
   ·rw [a2X _ _ _ (by simp;omega)];exact hor.1
   ·rw [g0E,a2X _ _ _ (by simp;omega)];simpa using hcs
   ·rw [<-ht];exact c1F _ _ _ _ (by simp;omega) (by simpa using hcl)
theorem c6Y{t sz n:Nat}{rows:List (List V)}{c:Value}{flat:List Value}{b idx off m:Nat}{r:List V}(ho:w.ownsRow 0 t sz c n flat)(hn:rows.length=n)(hl:∀r∈rows,r.length=sz)(hb:B8 c=some b)(hr:rows[idx]?=some r)(hoff:off+m<=sz) :
  P4 w b (idx*sz+off) ((flat.drop (idx*sz+off)).take m)/\((rows.flatten.drop (idx*sz+off)).take m=(r.drop off).take m)/\idx*sz+off+m<=rows.flatten.length:=by
 have hidx:=(f8G.1 hr).1;have hpos:idx*sz+sz<=n*sz:=by rw [<-f9N];exact f9g _ (by omega)
 refine ⟨?_,?_,by rw [a3N hl,hn];omega⟩
 ·rcases ho.2 with ⟨hv,h0⟩|⟨g0,cap,cur,hv,_,hg,hnc,hcm,hcs,ht⟩
  ·rw [hv] at hb;cases hb
  ·rw [hv] at hb;simp [B8] at hb;subst hb;have hseg:P4 w g0 0 flat:=by
    rw [<-ht];have:=(a7d hg 0).take (n*sz);simpa using this
   have:=(hseg.drop (idx*sz+off)).take m;simpa using this
 ·rw [<-b22 hl hr,List.drop_take,List.take_take,g0x];congr 1
  omega
def b1K(cx:Cx)(grp ty:Nat)(x:V)(r:List V):j8 B6:=
 match cx.T ty with
 | none=>j8.no
 | some ti=>match x with
  | .eptr g j sz idx off=>j8.bind (j8.rd g j) fun e=>match e with
   | .deep _ t sz' n rows=>
    let m:=if ti.agg then ti.size else 1
    let y:=L7 grp 0 ((r.drop off).take m);if sz'=sz/\off+m<=sz/\((r.drop off).take m).all (fun v => !v.isRef) then
     match S5 ti y.1 with
     | some v=>j8.pure {v:=v,new:=some y.2,upd:=[((g,j),.deep true t sz n (rows.set idx (A7 r off y.1)))],obl:=[rows[idx]?=some r]}
     | none=>j8.no
    else j8.no
   | _=>j8.no
  | _=>j8.no
theorem KL.toBL{w:World}{F D:Nat->Prop}{ι:Nat->Nat->Value}{vs:List V}{cs:List Value}{f:List Nat}(h:KL w F D ι vs cs f)(hv:vs.all (fun v => !v.isRef)=true):BL w F vs cs f:=by
 refine h.blOf fun v hm => ?_
 have:=f8E.1 hv v hm;simpa using this
theorem d7M(grp:Nat):∀(vs:List V) (j:Nat),(L7 grp j vs).1.length=vs.length
 | [],_=>rfl
 | v::vs,j=>by simp [L7,d7M grp vs]
theorem d91{S:St}{g j:Nat}{e e':s9}:(S.setE g j e).setE g j e'=S.setE g j e':=by
 cases hx:S.h[g]? with
 | none=>unfold St.setE;simp [hx]
 | some o=>cases o with
  | none=>unfold St.setE;simp [hx]
  | some l=>
   have hlt:=(f8G.1 hx).1;rw [a21 hx,a21 hx,a21 (l:=l.set j e) (by simp [hlt])];simp only [List.set_set]
set_option maxHeartbeats 800000 in
theorem d8X(h:u7 Γ F ι S a w){grp:Nat}(hg:grp<S.h.length)(hn:¬S.D grp){ob:Oper}{ty:Nat}{x:Operand}{r:List V}(ho:ob.op=.load ty x){out:B6}{lg:List (Nat×Nat)}(hp:b1K cx grp ty (t7 S.t x) r S.ent=some (out,lg))(hob:∀p∈out.obl,p):U4 cx.P Γ ι S grp ob out a w:=by
 have hx:=E1 h.tmps x;unfold b1K at hp;cases hti:cx.T ty with
 | none=>rw [hti] at hp;cases hp
 | some ti=>
 rw [hti] at hp;obtain ⟨i,d,z,htf⟩:=cx.tf hti;generalize t7 S.t x=xv at hp hx;cases xv<;>try (cases hp;done)
 case eptr g j sz idx off=>
  obtain ⟨hD,b,hι,hc⟩:=hx.inv_eptr;obtain ⟨e,l1,l2,hrd,hp',hl12⟩:=j8.bind_some hp;clear hp;have he:=(j8.rd_some hrd).1;simp only at he;cases e<;>try (cases hp';done)
  rename_i o t sz' n rows;simp only at hp';obtain ⟨m,hm⟩:∃m,(if ti.agg=true then ti.size else 1)=m:=⟨_,rfl⟩
  rw [hm] at hp';split at hp'<;>try (cases hp';done)
  rename_i hcond;obtain ⟨rfl,hc1,hc2⟩:=hcond;obtain ⟨y,hy⟩:∃y,L7 grp 0 ((r.drop off).take m)=y:=⟨_,rfl⟩
  rw [hy] at hp';cases hrv:S5 ti y.1 with
  | none=>rw [hrv] at hp';cases hp'
  | some v=>
  rw [hrv] at hp';have:=j8.pure_some hp';injection this with h2 h3;subst h2;have hr:rows[idx]?=some r:=hob _ (by simp);obtain ⟨flat,fs,hor,hkl,hrn,hl,hnd,hnr⟩:=h.ents g j _ he;obtain ⟨hseg,hmid,hle⟩:=c6Y hor hrn hl hι hr hc1;have hrl:=hl r (f8O hr);have hml:((r.drop off).take m).length=m:=by simp;omega
  have hgg:g≠grp:=fun q=>hn (q▸hD)
  obtain ⟨k,hk⟩:∃k,idx*sz'+off=k:=⟨_,rfl⟩
  rw [hk] at hseg hmid hle;obtain ⟨fa,fm,fb,rfl,ka,km,kb⟩:=hkl.cut (k:=k) (m:=m) hle;rw [hmid] at km;have hbl:=km.toBL hc2;have hds:(flat.drop k).take m=((flat.drop k).take m):=rfl;have hflen:flat.length=rows.flatten.length:=hkl.len.symm;have hspl:∀us:List V,us.length=m->(rows.set idx (A7 r off us)).flatten=rows.flatten.take k++(us++rows.flatten.drop (k+m)):=by
   intro us hus;rw [a8P hl hr (by omega),hk];unfold A7;rw [hus,f8U]
  have hfs:flat=flat.take k++((flat.drop k).take m++flat.drop (k+m)):=by
   rw [<-g0x,f9A,f9A]
  have hrl':∀us:List V,us.length=m->∀q∈rows.set idx (A7 r off us),q.length=sz':=by
   intro us hus q hq;rcases f9k hq with hq|rfl
   ·exact hl q hq
   ·rw [a2X _ _ _ (by omega)];exact hrl
  have hnd2:(E2 (ι g j)++(fa++fb)).Nodup:=List.Nodup.sublist (g0I.append_left (g0I.append_left (g0p _ _) _) _) hnd;have hndm:fm.Nodup:=(f8L.1 (f8L.1 (f8L.1 hnd).2.1).2.1).1;have hdm:∀k∈fm,k ∉ E2 (ι g j)++(fa++fb):=by
   intro q hq hq';have hp:=(a8x (C:=E2 (ι g j)) (a8x (C:=fa) (g0w.refl (fm++fb)))).nodup_iff.1 hnd;exact (f8L.1 hp).2.2 q hq q hq' rfl
  obtain ⟨us0,hus0⟩:∃us:List V,us=((r.drop off).take m).map fun _=>V.bot:=⟨_,rfl⟩
  have hus0l:us0.length=m:=by rw [hus0,f9u,hml]
  have kl0:∀{D':Nat->Prop} {ι':Nat->Nat->Value},(∀k,S.D k->D' k)->(∀g j,S.D g->ι' g j=ι g j)->∀{us:List V},us.length=m->KL w F D' ι' us ((flat.drop k).take m) []->KL w F D' ι' (rows.set idx (A7 r off us)).flatten flat (fa++([]++fb)):=by
   intro D' ι' h1 h2 us hus hku;rw [hspl us hus,hfs];have l1:(flat.take k).length=k:=by simp;omega
   have e1:(flat.take k++((flat.drop k).take m++flat.drop (k+m)))=flat:=hfs.symm;exact (ka.mono (fun _ _ _=>rfl) (fun _ x=>x) h1 h2 (fun _ _=>rfl)).app (hku.app (kb.mono (fun _ _ _=>rfl) (fun _ x=>x) h1 h2 (fun _ _=>rfl)))
  have hmem0:∀q,q∈E2 (ι g j)++(fa++([]++fb))->q∈E2 (ι g j)++(fa++(fm++fb)):=by
   intro q hq;simp only [f8B,g0M,false_or] at hq ⊢;rcases hq with x|x|x<;>simp [x]
  have rel1:u7 Γ F ι (S.setE g j (.deep true t sz' n (rows.set idx (A7 r off us0)))) a w:=by
   have k1:=kl0 (D':=S.D) (ι':=ι) (fun _ x=>x) (fun _ _ _=>rfl) hus0l (hus0▸km.bots);refine h.write he rfl ⟨rfl,rfl,rfl⟩ rfl (fun _ _=>rfl) (fun _ => ?_) ?_
   ·exact ⟨flat,_,hor,k1.mono (fun _ _ _=>rfl) (fun _ x=>x) (fun k x=>R2.2 x) (fun _ _ _=>rfl) (fun _ _=>rfl),by simpa using hrn,hrl' _ hus0l,by simpa using hnd2,fun q=>by cases q⟩
   ·intro q hq;exact (EB.deep_iff hor hkl).2 (hmem0 q ((EB.deep_iff hor k1).1 hq))
  have he1:(S.setE g j (.deep true t sz' n (rows.set idx (A7 r off us0)))).ent g j=some (.deep true t sz' n (rows.set idx (A7 r off us0))):=by rw [Q8 he];simp
  obtain ⟨bs,hbsl,hhas,hth⟩:=a8W (grp:=grp) hbl 0;rw [hy] at hbsl hhas hth;obtain ⟨ι',hι'⟩:∃ι',ι'=a4M ι grp bs:=⟨_,rfl⟩
  have hne:∀g j,g≠grp->ι' g j=ι g j:=fun g j q=>by rw [hι'];exact c3s q
  have hlenS:grp<(S.setE g j (.deep true t sz' n (rows.set idx (A7 r off us0)))).h.length:=by rw [b0D];exact hg
  have hnD:¬(S.setE g j (.deep true t sz' n (rows.set idx (A7 r off us0)))).D grp:=fun q=>hn (R2.1 q)
  have hDg:=a0V (S:=S.setE g j (.deep true t sz' n (rows.set idx (A7 r off us0)))) (new:=y.2) hlenS;obtain ⟨hrc,hlie⟩:=hth ((S.setE g j (.deep true t sz' n (rows.set idx (A7 r off us0)))).lay grp y.2).D ι' hDg (fun q c hq=>by rw [hι',f9I];exact a5b hq) hndm;have hvb:∀(q:Nat) (e:s9),y.2[q]?=some e->bs[q]?=some (ι' grp q):=by
   intro q e hq;have hlt:q<bs.length:=by rw [hbsl];exact (f8G.1 hq).1
   have hv:ι' grp q=bs[q]:=by rw [hι'];exact a5b (f8z hlt)
   rw [hv];exact f8z hlt
  have hmB:∀k∈fm,EB w (.deep o t sz' n rows) (ι g j) k:=fun k hk=>(EB.deep_iff hor hkl).2 (by simp [hk])
  have k1:=kl0 (D':=S.D) (ι':=ι) (fun _ x=>x) (fun _ _ _=>rfl) hus0l (hus0▸km.bots);have rel2:=rel1.lay hlenS hnD (new:=y.2) (ι':=ι') hne (fun q e he=>hlie q e _ he (hvb q e he))
   (fun q e k he hl hk=>h.sep _ _ _ k ‹S.ent g j=some (.deep o t sz' n rows)› rfl (hmB k (hhas.mem he (hvb q e he) hk)))
   (fun q e q' e' k he he' hl hl' hk hk'=>hhas.inj hndm he (hvb q e he) hk he' (hvb q' e' he') hk')
   (fun q e g' j' e' k he0 he' hl hl' hk hk'=>by
    have hkm:=hhas.mem he0 (hvb q e he0) hk;rw [Q8 he] at he';split at he'
    ·rename_i qq;obtain ⟨rfl,rfl⟩:=qq;injection he' with he';subst he';exact hdm k hkm (by simpa using (EB.deep_iff hor k1).1 hk')
    ·rename_i qq;exact qq (h.inj _ _ _ _ _ _ k he' he hl' rfl hk' (hmB k hkm)))
  have he2:((S.setE g j (.deep true t sz' n (rows.set idx (A7 r off us0)))).lay grp y.2).ent g j=some (.deep true t sz' n (rows.set idx (A7 r off us0))):=by rw [a7z hgg];exact he1
  have hyl:y.1.length=m:=by rw [<-hy,d7M,hml]
  have hor':w.ownsRow 0 t sz' (ι' g j) n flat:=by rw [hne g j hgg];exact hor
  have hDD:∀k,S.D k->((S.setE g j (.deep true t sz' n (rows.set idx (A7 r off us0)))).lay grp y.2).D k:=fun k x=>b5s (R2.2 x)
  have hιD:∀g' j',S.D g'->ι' g' j'=ι g' j':=fun g' j' x=>hne g' j' fun q=>hn (q▸x)
  have k2:=kl0 (D':=((S.setE g j (.deep true t sz' n (rows.set idx (A7 r off us0)))).lay grp y.2).D) (ι':=ι') hDD hιD hyl (KL.ofRC hrc);have k1':=kl0 (D':=((S.setE g j (.deep true t sz' n (rows.set idx (A7 r off us0)))).lay grp y.2).D) (ι':=ι') hDD hιD hus0l (hus0▸km.bots.mono (fun _ _ _=>rfl) (fun _ x=>x) hDD hιD (fun _ _=>rfl));have rel3:=rel2.write he2 rfl (e':=.deep true t sz' n (rows.set idx (A7 r off y.1))) ⟨rfl,rfl,rfl⟩ rfl (fun _ _=>rfl)
   (fun _=>⟨flat,_,hor',k2.mono (fun _ _ _=>rfl) (fun _ x=>x) (fun k x=>R2.2 x) (fun _ _ _=>rfl) (fun _ _=>rfl),by simpa using hrn,hrl' _ hyl,by rw [hne g j hgg];simpa using hnd2,fun q=>by cases q⟩)
   (fun q hq=>(EB.deep_iff hor' k1').2 ((EB.deep_iff hor' k2).1 hq))
  obtain ⟨c,hrd',hvc⟩:=a6K hrc hrv;refine ⟨_,c,w,F,ι',a6l ho htf (by rw [hc,hk]) hseg hrd',.inl rfl,?_⟩;have hput:=rel3.put ob.dst (hvc.mono (fun _ _ _=>rfl) (fun _ x=>x) (fun k x=>R2.2 x) (fun _ _ _=>rfl));rw [<-d1x hgg,d91] at hput;exact hput
def V.plainO:V->Bool
 | .own .. => true
 | v=>v.plain
theorem KL.plainO{w:World}{F D:Nat->Prop}{ι:Nat->Nat->Value}:∀{vs:List V} {cs:List Value} {f:List Nat},KL w F D ι vs cs f->vs.all V.plainO=true->x9 (RC w F D ι) vs cs
 | _,_,_,.nil,_=>.nil
 | _,_,_,.cons v c f vs cs fs h t,hp=>by
  simp only [List.all_cons,f8D] at hp;refine .cons ?_ (KL.plainO t hp.2);have hv:=hp.1;cases h with
  | rc h=>exact h
  | bc _ h=>cases h with
   | fv v c h=>exact .fv _ _ h
   | _=>cases hv
def b2Z(cx:Cx)(ty:Nat)(x:V)(r:List V):j8 B6:=
 match cx.T ty with
 | none=>j8.no
 | some ti=>match x with
  | .eptr g j sz idx off=>j8.bind (j8.rd g j) fun e=>match e with
   | .deep _ t sz' n rows=>
    let m:=if ti.agg then ti.size else 1
    if sz'=sz/\off+m<=sz/\((r.drop off).take m).all V.plainO then
     match S5 ti ((r.drop off).take m) with
     | some v=>j8.pure {v:=v,obl:=[rows[idx]?=some r]}
     | none=>j8.no
    else j8.no
   | _=>j8.no
  | _=>j8.no
theorem f0j(h:u7 Γ F ι S a w){grp:Nat}{ob:Oper}{ty:Nat}{x:Operand}{r:List V}(ho:ob.op=.load ty x){out:B6}{lg:List (Nat×Nat)}(hp:b2Z cx ty (t7 S.t x) r S.ent=some (out,lg))(hob:∀p∈out.obl,p):U4 cx.P Γ ι S grp ob out a w:=by
 have hx:=E1 h.tmps x;unfold b2Z at hp;cases hti:cx.T ty with
 | none=>rw [hti] at hp;cases hp
 | some ti=>
 rw [hti] at hp;obtain ⟨i,d,z,htf⟩:=cx.tf hti;generalize t7 S.t x=xv at hp hx;cases xv<;>try (cases hp;done)
 case eptr g j sz idx off=>
  obtain ⟨hD,b,hι,hc⟩:=hx.inv_eptr;obtain ⟨e,l1,l2,hrd,hp',hl12⟩:=j8.bind_some hp;clear hp;have he:=(j8.rd_some hrd).1;simp only at he;cases e<;>try (cases hp';done)
  rename_i o t sz' n rows;simp only at hp';obtain ⟨m,hm⟩:∃m,(if ti.agg=true then ti.size else 1)=m:=⟨_,rfl⟩
  rw [hm] at hp';split at hp'<;>try (cases hp';done)
  rename_i hcond;obtain ⟨rfl,hc1,hc2⟩:=hcond;cases hrv:S5 ti ((r.drop off).take m) with
  | none=>rw [hrv] at hp';cases hp'
  | some v=>
  rw [hrv] at hp';have:=j8.pure_some hp';injection this with h2 h3;subst h2;have hr:rows[idx]?=some r:=hob _ (by simp);obtain ⟨flat,fs,hor,hkl,hrn,hl,hnd,hnr⟩:=h.ents g j _ he;obtain ⟨hseg,hmid,hle⟩:=c6Y hor hrn hl hι hr hc1;obtain ⟨fa,fm,fb,rfl,ka,km,kb⟩:=hkl.cut hle;rw [hmid] at km;obtain ⟨c,hrd',hvc⟩:=a6K (D:=S.D) (ι:=ι) (km.plainO hc2) hrv;exact ⟨_,c,w,F,ι,a6l ho htf hc hseg hrd',.inl rfl,by rw [a6B];exact h.put ob.dst hvc⟩
def b42(cx:Cx)(grp ty:Nat)(l c:V)(ck om:List (Option Nat)):j8 B6:=
 match cx.T ty with
 | some ti=>match ti.sl with
  | some e=>match cx.T e with
   | some ei=>match l,c with
    | .i _ n,.i _ n'=>j8.bind (a19 ck om ei.zero) fun f=>
     if f.ks.isEmpty/\f.ls.isEmpty then
      j8.pure {v:=.own grp 0 ei.size 0 n.toNat,new:=some [.deep false e ei.size n.toNat (f8A n.toNat f.v)],obl:=[0<=n,n'=n,n*ei.bytes<=140737488355328/\0<ei.bytes,ei.zero.length=ei.size]++f.obl}
     else j8.no
    | _,_=>j8.no
   | none=>j8.no
  | none=>j8.no
 | none=>j8.no
theorem BL.replicate{w:World}{F D:Nat->Prop}{ι:Nat->Nat->Value}{vs:List V}{cs:List Value}(h:KL w F D ι vs cs []):∀n,KL w F D ι (f8A n vs).flatten (f8A n cs).flatten []
 | 0=>.nil
 | n+1=>by
  rw [g0B,g0B,f9f,f9f];exact h.app (BL.replicate h n)
theorem e7n(h:u7 Γ F ι S a w){grp:Nat}(hg:grp<S.h.length)(hn:¬S.D grp){ob:Oper}{ty:Nat}{l c:Operand}(ho:ob.op=.makeSlice ty l c){ck om:List (Option Nat)}{out:B6}{lg:List (Nat×Nat)}(hp:b42 cx grp ty (t7 S.t l) (t7 S.t c) ck om S.ent=some (out,lg))(hob:∀p∈out.obl,p):U4 cx.P Γ ι S grp ob out a w:=by
 have hl:=E1 h.tmps l;have hc:=E1 h.tmps c;unfold b42 at hp;cases hti:cx.T ty with
 | none=>rw [hti] at hp;cases hp
 | some ti=>
 rw [hti] at hp;simp only at hp;cases hs:ti.sl with
 | none=>rw [hs] at hp;cases hp
 | some e=>
 rw [hs] at hp;simp only at hp;cases hei:cx.T e with
 | none=>rw [hei] at hp;cases hp
 | some ei=>
 rw [hei] at hp;simp only at hp;generalize t7 S.t l=lv at hp hl;generalize t7 S.t c=cv at hp hc;cases lv<;>try (cases hp;done)
 cases cv<;>try (cases hp;done)
 rename_i k n k' n';simp only at hp;obtain ⟨f,l1,l2,hf,hp',_⟩:=j8.bind_some hp;clear hp;split at hp'<;>try (cases hp';done)
 rename_i hcond;have:=j8.pure_some hp';injection this with h3 h4;subst h3;have p1:0<=n:=hob _ (by simp);have p2:n'=n:=hob _ (by simp);have p3:n*ei.bytes<=140737488355328/\0<ei.bytes:=hob _ (by simp);have p4:ei.zero.length=ei.size:=hob _ (by simp);have p5:∀p∈f.obl,p:=fun p hp=>hob p (f8B.2 (.inr hp))
 subst p2;obtain ⟨m,rfl⟩:=Int.eq_ofNat_of_zero_le p1;obtain ⟨i,d,z,htf⟩:=cx.tf hti;obtain ⟨i',d',z',hef⟩:=cx.tf hei;obtain rfl:=htf.isSl hs;have hzs:z'.cells.size=ei.size:=by rw [<-p4,<-hef.zeros];simp
 have hb1:m*ei.bytes<=140737488355328:=by
  have:=p3.1;rw [<-Int.natCast_mul] at this;omega
 have hb2:m<=140737488355328:=f9m (g0h _ p3.2) hb1;obtain ⟨w',hr,hown,hgr⟩:=run_make_full (P:=cx.P) w 0 ty e i' z' ei.size htf.und hef.info hef.zero hef.size k k' m (by rw [hef.bytes,Nat.mul_comm];omega) (by unfold maxLen;omega) (g0v _);have hrun:(execOp a.eval ob).run cx.P w=.ok (.value (.slice (some ⟨w.heap.size,0,none⟩) m m)) w':=by
  simp [execOp,ho,hl.inv_i,hc.inv_i,hr]
 have hz:x9 (RC w F S.D ι) ei.zero z'.cells.toList:=by
  rw [<-hef.zeros];exact (FL.ofCells (w:=w) (F:=F) _ hef.one).all2.imp fun _ _ x=>.fv _ _ x
 obtain ⟨fp,hbl,hfps,hh⟩:=b4i (F1:=F) h (fun _ x=>x) hz hf p5 (by rw [List.isEmpty_iff.1 hcond.2];intro id hid;cases hid);have hfp:fp=[]:=by
  rw [List.isEmpty_iff.1 hcond.1] at hfps;cases hfps;rfl
 subst hfp;have hs':I0 w w' F:=a1v fun g hg=>hgr.block g (h.F1 g hg) (by simp)
 have hbl':BL w' F f.v z'.cells.toList []:=hbl.mono hs' (fun _ x=>x) (fun k hk=>by cases hk);have hrowl:∀r∈f8A m f.v,r.length=ei.size:=fun r hr=>by
  rw [(f9v.1 hr).2,hbl.len];simpa using hzs
 have hkl:∀{D:Nat->Prop} {ι:Nat->Nat->Value},KL w' F D ι (f8A m f.v).flatten (f8A m z'.cells.toList).flatten []:=BL.replicate hbl'.kl m
 have hown':=hown;rw [<-hzs,b6x,hzs] at hown';have hor:RE w' F (S.lay grp [.deep false e ei.size m (f8A m f.v)]).D (N2 ι grp (.slice (some ⟨w.heap.size,0,none⟩) m m)) (.deep false e ei.size m (f8A m f.v)) (.slice (some ⟨w.heap.size,0,none⟩) m m):=
  ⟨_,[],hown',hkl,by simp,hrowl,by simp [E2,B8],fun _=>I2.of_flat fun v hv=>by
   obtain ⟨q,hq,hv⟩:=f9C.1 hv;rw [(f9v.1 hq).2] at hv;exact hbl.noRef v hv⟩
 have hrel:=h.new1 hg hn hgr (ent:=.deep false e ei.size m (f8A m f.v)) (c0:=.slice (some ⟨w.heap.size,0,none⟩) m m) (by
  intro q hq;have:=(EB.deep_iff (D:=fun _=>True) (ι:=fun _ _=>.nilFunc) hown' hkl).1 hq;simp [E2,B8] at this;omega) hor
 refine ⟨_,_,_,F,N2 ι grp (.slice (some ⟨w.heap.size,0,none⟩) m m),hrun,.inl rfl,?_⟩;exact hrel.put ob.dst (.cell (RC.wholeO (a0V hg) Q0 hown'))
end
def a27:List (List Int×V)->List Int->V->V
 | [],_,z=>z
 | p::es,k,z=>if k==p.1 then p.2 else a27 es k z
def a1X:List (List Int×V)->List Int->V->List (List Int×V)
 | [],k,v=>[(k,v)]
 | p::es,k,v=>if k==p.1 then (p.1,v)::es else p::a1X es k v
def a0p:List (List Int×V)->List Int->Nat->Option (Nat×Value)
 | [],_,_=>none
 | p::es,k,i=>if k==p.1 then some (i,p.2.conc) else a0p es k (i+1)
theorem d7H{P:Program}{w:World}{r:Nat}{es:Array MapEntry}{clock:Nat}(o:Obj)(hb:w.heap[r]?=some (.map es clock)):(setObj r o).run P w=.ok () {w with heap:=w.heap.setIfInBounds r o}:=by
 simp [setObj,Sem.run,hb]
theorem d00{w:World}{r:Nat}{o o':Obj}(hb:w.heap[r]?=some o):(w.heap.setIfInBounds r o')[r]?=some o'/\∀r',r'≠r->(w.heap.setIfInBounds r o')[r']?=w.heap[r']?:=by
 have hlt:=(Array.getElem?_eq_some_iff.1 hb).1;exact ⟨by simp [hlt],fun r' q=>by rw [Array.getElem?_setIfInBounds_ne (Ne.symm q)]⟩
theorem c9z(z:V)(k:List Int):∀(es:List (List Int×V)) (i:Nat),(a27 es k z).conc=match a0p es k i with
  | some (_,v)=>v
  | none=>z.conc
 | [],_=>rfl
 | p::es,i=>by
  unfold a27 a0p;split
  ·rfl
  ·exact c9z z k es (i+1)
theorem RV.simple{w:World}{F D:Nat->Prop}{ι:Nat->Nat->Value}{v:V}{c:Value}(h:RV w F D ι v c)(hv:v.simple=true):c=v.conc:=by
 cases h with
 | one v c h=>
  cases h with
  | cell v c h=>
   cases h with
   | fv v c h=>cases h<;>first|rfl|(cases hv;done)
   | _=>cases hv
  | agg cs ds h=>cases hv
 | tup cs ds h=>cases hv
 | any c=>cases hv
section
variable {P:Program} {kt m:Nat} {w:World}
theorem c59(hE:∀(xs ys:List Int) (w:World),xs.length=m->ys.length=m->(Op.equal kt (kv xs) (kv ys)).run P w=.ok (xs==ys) w){k:List Int}(hk:k.length=m):∀(es:List (List Int×V)) (l:List MapEntry) (i:Nat),l.map (fun e=>(e.key,e.val))=es.map (fun p=>(kv p.1,p.2.conc))->(∀p∈es,p.1.length=m)->(Instr.findAsking kt (kv k) l i).run P w=.ok (a0p es k i) w
 | [],[],i,_,_=>by simp [Instr.findAsking,a0p]
 | [],_::_,_,h,_=>by cases h
 | _::_,[],_,h,_=>by cases h
 | p::es,e::l,i,h,hl=>by
  simp only [f9l,List.cons.injEq,Prod.mk.injEq] at h;obtain ⟨⟨h1,h2⟩,h3⟩:=h;unfold Instr.findAsking;rw [h1];simp only [Sem.run_bind,hE k p.1 w hk (hl p (by simp)),Result.andThen_ok];unfold a0p;by_cases q:(k==p.1)=true
  ·rw [if_pos q,if_pos q,h2];rfl
  ·rw [if_neg q,if_neg q];exact c59 hE hk es l (i+1) h3 fun p hp=>hl p (by simp [hp])
theorem e4n:∀(n:Nat) (xs:List Int),Instr.sameBits (n+2) (kv xs) (kv xs)=true:=by
 intro n xs;unfold kv Instr.sameBits;simp only [g0E,beq_self_eq_true,f8K];induction xs with
 | nil=>rfl
 | cons x xs ih=>
  simp only [f9l,List.zip_cons_cons,List.all_cons,f8D];exact ⟨by simp [Instr.sameBits],by simpa using ih⟩
theorem d4I{k:List Int}{j:Nat}{v:Value}:∀{es:List (List Int×V)} {i:Nat},a0p es k i=some (j,v)->i<=j
 | [],_,h=>by cases h
 | p::es,i,h=>by
  unfold a0p at h;split at h
  ·injection h with h;injection h with h;omega
  ·have:=d4I h;omega
theorem d3w{k:List Int}{x:V}{v:Value}:∀{es:List (List Int×V)} {l:List MapEntry} {i j:Nat},l.map (fun e=>(e.key,e.val))=es.map (fun p=>(kv p.1,p.2.conc))->a0p es k i=some (j,v)->
  (∃e,l[j-i]?=some e/\e.key=kv k)/\((l.modify (j-i) fun e=>{e with key:=kv k,val:=x.conc}).map (fun e=>(e.key,e.val))=(a1X es k x).map (fun p=>(kv p.1,p.2.conc)))
 | [],_,_,_,_,h=>by cases h
 | _::_,[],_,_,h,_=>by cases h
 | p::es,e::l,i,j,h,hf=>by
  simp only [f9l,List.cons.injEq,Prod.mk.injEq] at h;obtain ⟨⟨h1,h2⟩,h3⟩:=h;unfold a0p at hf;unfold a1X;split at hf
  ·rename_i q;injection hf with hf;injection hf with hf1 hf2;subst hf1;have:k=p.1:=by simpa using q
   rw [Nat.sub_self,if_pos q];exact ⟨⟨e,rfl,by rw [h1,this]⟩,by simp [List.modify_cons,h3,this]⟩
  ·rename_i q;rw [if_neg q];have hge:=d4I hf;obtain ⟨⟨e',h4,h5⟩,h6⟩:=d3w (x:=x) h3 hf;obtain ⟨d,hd⟩:∃d,j-i=d+1:=⟨j-i-1,by omega⟩
   have hd':j-(i+1)=d:=by omega
   rw [hd'] at h4 h6;rw [hd];refine ⟨⟨e',by simpa using h4,h5⟩,?_⟩;rw [List.modify_succ_cons];simp only [f9l,h1,h2,h6]
theorem c8i{k:List Int}{x:V}:∀{es:List (List Int×V)} {i:Nat},a0p es k i=none->a1X es k x=es++[(k,x)]
 | [],_,_=>rfl
 | p::es,i,h=>by
  unfold a0p at h;unfold a1X;split at h
  ·cases h
  ·rename_i q;rw [if_neg q,c8i h];rfl
theorem d56{k:List Int}{x:V}{p:List Int×V->Prop}:∀{es:List (List Int×V)},(∀q∈es,p q)->(∀q∈es,p (q.1,x))->p (k,x)->∀q∈a1X es k x,p q
 | [],_,_,h3,q,hq=>by
  simp only [a1X,f8H] at hq;subst hq;exact h3
 | e::es,h1,h2,h3,q,hq=>by
  unfold a1X at hq;split at hq
  ·rcases f8J.1 hq with rfl|hq
   ·exact h2 e (by simp)
   ·exact h1 q (by simp [hq])
  ·rcases f8J.1 hq with rfl|hq
   ·exact h1 _ (by simp)
   ·exact d56 (fun q hq=>h1 q (by simp [hq])) (fun q hq=>h2 q (by simp [hq])) h3 q hq
end
theorem e7h{P:Program}{w:World}{em:Bool}{n kt:Nat}{fs:Array Field}{xs:Array Value}(hu:P.underlying kt=some (.struct fs))(h:∀f∈fs.toList,∃a,(part f.type xs f.offset).run P w=.ok a w/\(Instr.checkKey em n f.type a).run P w=.ok () w):(Instr.checkKey em (n+1) kt (.agg xs)).run P w=.ok () w:=by
 rw [Instr.checkKey];simp only [Sem.run_bind,run_underlying hu,Result.andThen_ok];rw [<-Array.forIn_toList];generalize fs.toList=l at h;induction l with
 | nil=>rfl
 | cons f l ih=>
  obtain ⟨a,h1,h2⟩:=h f (by simp);have ih':=ih fun f hf=>h f (by simp [hf])
  simp only [List.forIn_cons,Sem.run_bind];by_cases q:f.name = "_"
  ·simp [q];simpa using ih'
  ·simp [q,Sem.run_bind,h1,h2];simpa using ih'
theorem d3A{P:Program}{w:World}{em:Bool}{n t:Nat}{k j:IntKind}{x:Int}(hu:P.underlying t=some (.int k)):(Instr.checkKey em (n+1) t (.int j x)).run P w=.ok () w:=by
 rw [Instr.checkKey];simp [Sem.run_bind,run_underlying hu]
section
variable {cx:Cx} {Γ:P3} {F:Nat->Prop} {ι:Nat->Nat->Value} {S S':St} {a:Act} {w:World}
theorem RV.inv_mp{D:Nat->Prop}{g j:Nat}{c:Value}(h:RV w F D ι (.mp g j) c):D g/\∃b,ι g j=.map (some b)/\c=.map (some b):=by
 cases h with
 | one v c h=>cases h with
  | cell v c h=>cases h with
   | fv v c h=>cases h
   | mp g j b h1 h2=>exact ⟨h1,b,h2,rfl⟩
def c57(cx:Cx)(grp ty:Nat):Option B6:=
 match cx.M ty with
 | some (_,m,_)=>some {v:=.mp grp 0,new:=some [.map ty m []]}
 | none=>none
theorem e4b(h:u7 Γ F ι S a w){grp:Nat}(hg:grp<S.h.length)(hn:¬S.D grp){ob:Oper}{ty:Nat}(ho:ob.op=.makeMap ty none){out:B6}(hp:c57 cx grp ty=some out):U4 cx.P Γ ι S grp ob out a w:=by
 unfold c57 at hp;split at hp<;>try (cases hp;done)
 injection hp with hp;subst hp;rename_i kt m z hM;have hrun:(execOp a.eval ob).run cx.P w=.ok (.value (.map (some w.heap.size))) (w.alloc (.map #[] 0)):=by
  simp only [execOp,ho,Option.map_none];rfl
 have hrel:=h.new1 hg hn (a5g w (.map #[] 0)) (ent:=.map ty m []) (c0:=.map (some w.heap.size))
  (by intro k hk;simp [EB,B8] at hk;omega) ⟨w.heap.size,#[],0,rfl,a8w w _,rfl,fun p hp=>by cases hp⟩
 refine ⟨_,_,_,F,N2 ι grp (.map (some w.heap.size)),hrun,.inl rfl,?_⟩;exact hrel.put ob.dst (.cell (.mp grp 0 w.heap.size (a0V hg) Q0))
def b4q(cx:Cx)(ty:Nat)(x ix:V):j8 B6:=
 match cx.M ty with
 | none=>j8.no
 | some (kt,m,z)=>match x,ix with
  | .mp g j,.agg ks=>match a2l ks with
   | some xs=>j8.bind (j8.rd g j) fun e=>match e with
    | .map t' m' es=>if m'=m/\xs.length=m then j8.pure {v:=a27 es xs z} else j8.no
    | _=>j8.no
   | none=>j8.no
  | _,_=>j8.no
theorem d1p{xs:List Int}{z:V}(hz:z.simple=true):∀{es:List (List Int×V)},(∀p∈es,p.2.simple=true)->(a27 es xs z).simple=true
 | [],_=>hz
 | p::es,h=>by
  unfold a27;split
  ·exact h p (by simp)
  ·exact d1p hz fun p hp=>h p (by simp [hp])
theorem e4x(h:u7 Γ F ι S a w){grp:Nat}{ob:Oper}{ty:Nat}{x ix:Operand}(ho:ob.op=.lookup ty x ix false){out:B6}{lg:List (Nat×Nat)}(hp:b4q cx ty (t7 S.t x) (t7 S.t ix) S.ent=some (out,lg)):U4 cx.P Γ ι S grp ob out a w:=by
 have hx:=E1 h.tmps x;have hi:=E1 h.tmps ix;unfold b4q at hp;cases hM:cx.M ty with
 | none=>rw [hM] at hp;cases hp
 | some q=>
 obtain ⟨kt,m,z⟩:=q;rw [hM] at hp;simp only at hp;generalize t7 S.t x=xv at hp hx;generalize t7 S.t ix=iv at hp hi;cases xv<;>try (cases hp;done)
 cases iv<;>try (cases hp;done)
 rename_i g j ks;simp only at hp;cases hks:a2l ks with
 | none=>rw [hks] at hp;cases hp
 | some xs=>
 rw [hks] at hp;obtain ⟨e,l1,l2,hrd,hp',hl12⟩:=j8.bind_some hp;clear hp;have he:=(j8.rd_some hrd).1;simp only at he hp';cases e<;>try (cases hp';done)
 rename_i t' m' es;simp only at hp';split at hp'<;>try (cases hp';done)
 rename_i hcond;obtain ⟨rfl,hlen⟩:=hcond;have:=j8.pure_some hp';injection this with h2 h3;subst h2;obtain ⟨hD,b,hι,hc⟩:=hx.inv_mp;obtain ⟨ds,hds,hall⟩:=hi.inv_agg;have hints:=b9c hall hks;subst hints;obtain ⟨b',arr,clock,hb,hheap,hes,hok⟩:=h.ents g j _ he;rw [hι] at hb;injection hb with hb;injection hb with hb;subst hb;obtain ⟨vt,hu,hE,hwide,hz,hzs,hck⟩:=cx.hM ty kt m' z hM;have hck':∀em,(Instr.checkKey em 10000 kt (kv xs)).run cx.P w=.ok () w:=fun em=>hck em xs w hlen
 have hfind:(Instr.findKey kt (kv xs) arr.toList).run cx.P w=.ok (a0p es xs 0) w:=by
  rw [run_findKey_eq w (by unfold b7T at hwide;exact hwide)];exact c59 (fun xs ys w h1 h2=>cx.hE kt m' hE xs ys w h1 h2) hlen es arr.toList 0 hes fun p hp=>(hok p hp).1
 have hrun:(execOp a.eval ob).run cx.P w=.ok (.value (a27 es xs z).conc) w:=by
  rw [c9z z xs es 0];simp only [execOp,ho,hc,hds,Instr.lookup,Sem.run_bind,run_underlying hu,Result.andThen_ok,run_getObj_map w b arr clock hheap];rw [show (Value.agg (xs.map (Value.int .i64)).toArray)=kv xs from rfl];simp only [Sem.run_pure,Sem.run_bind,hck',Result.andThen_ok,hfind];cases a0p es xs 0 with
  | none=>simp [hz,Sem.run_bind]
  | some q=>simp
 have hs:=d1p (xs:=xs) hzs fun p hp=>(hok p hp).2
 refine ⟨_,_,w,F,ι,hrun,.inl rfl,?_⟩;rw [a6B];exact h.put ob.dst (.fv (FV.conc hs))
def b4v(cx:Cx)(ty:Nat)(x ix y:V):j8 B6:=
 match cx.M ty with
 | none=>j8.no
 | some (kt,m,z)=>match x,ix with
  | .mp g j,.agg ks=>match a2l ks with
   | some xs=>j8.bind (j8.rd g j) fun e=>match e with
    | .map t' m' es=>if m'=m/\xs.length=m/\y.simple=true then j8.pure {v:=.bot,upd:=[((g,j),.map t' m (a1X es xs y))]} else j8.no
    | _=>j8.no
   | none=>j8.no
  | _,_=>j8.no
theorem f6i(h:u7 Γ F ι S a w){grp:Nat}{ob:Oper}{ty:Nat}{x ix y:Operand}(ho:ob.op=.mapUpdate ty x ix y)(hd:ob.dst=none){out:B6}{lg:List (Nat×Nat)}(hp:b4v cx ty (t7 S.t x) (t7 S.t ix) (t7 S.t y) S.ent=some (out,lg)):U4 cx.P Γ ι S grp ob out a w:=by
 have hx:=E1 h.tmps x;have hi:=E1 h.tmps ix;have hy:=E1 h.tmps y;unfold b4v at hp;cases hM:cx.M ty with
 | none=>rw [hM] at hp;cases hp
 | some q=>
 obtain ⟨kt,m,z⟩:=q;rw [hM] at hp;simp only at hp;generalize t7 S.t x=xv at hp hx;generalize t7 S.t ix=iv at hp hi;generalize t7 S.t y=yv at hp hy;cases xv<;>try (cases hp;done)
 cases iv<;>try (cases hp;done)
 rename_i g j ks;simp only at hp;cases hks:a2l ks with
 | none=>rw [hks] at hp;cases hp
 | some xs=>
 rw [hks] at hp;obtain ⟨e,l1,l2,hrd,hp',hl12⟩:=j8.bind_some hp;clear hp;have he:=(j8.rd_some hrd).1;simp only at he hp';cases e<;>try (cases hp';done)
 rename_i t' m' es;simp only at hp';split at hp'<;>try (cases hp';done)
 rename_i hcond;obtain ⟨rfl,hlen,hys⟩:=hcond;have:=j8.pure_some hp';injection this with h2 h3;subst h2;obtain ⟨hD,b,hι,hc⟩:=hx.inv_mp;obtain ⟨ds,hds,hall⟩:=hi.inv_agg;have hints:=b9c hall hks;subst hints;have hyc:=hy.simple hys;obtain ⟨b',arr,clock,hb,hheap,hes,hok⟩:=h.ents g j _ he;rw [hι] at hb;injection hb with hb;injection hb with hb;subst hb;obtain ⟨vt,hu,hE,hwide,hz,hzs,hck⟩:=cx.hM ty kt m' z hM;have hck':∀em,(Instr.checkKey em 10000 kt (kv xs)).run cx.P w=.ok () w:=fun em=>hck em xs w hlen
 have hfind:(Instr.findKey kt (kv xs) arr.toList).run cx.P w=.ok (a0p es xs 0) w:=by
  rw [run_findKey_eq w (by unfold b7T at hwide;exact hwide)];exact c59 (fun xs ys w h1 h2=>cx.hE kt m' hE xs ys w h1 h2) hlen es arr.toList 0 hes fun p hp=>(hok p hp).1
 have hlt:b<w.heap.size:=(Array.getElem?_eq_some_iff.1 hheap).1;obtain ⟨arr',clock',hrun,hes'⟩:∃arr' clock',(execOp a.eval ob).run cx.P w=.ok .skip {w with heap:=w.heap.setIfInBounds b (.map arr' clock')}/\arr'.toList.map (fun e=>(e.key,e.val))=(a1X es xs yv).map (fun p=>(kv p.1,p.2.conc)):=by
  have e0:(Value.agg (xs.map (Value.int .i64)).toArray)=kv xs:=rfl;cases hf:a0p es xs 0 with
  | none=>
   refine ⟨arr.push {key:=kv xs,val:=yv.conc,born:=clock},clock+1,?_,?_⟩
   ·simp only [execOp,ho,hc,hds,hyc,Instr.mapUpdate,Sem.run_bind,run_underlying hu,Result.andThen_ok,run_getObj_map w b arr clock hheap];rw [e0];simp only [Sem.run_pure,Sem.run_bind,hck',Result.andThen_ok,hfind,hf,d7H _ hheap]
   ·rw [c8i hf];simp [hes]
  | some q=>
   obtain ⟨i,v⟩:=q;obtain ⟨⟨e,he1,he2⟩,he3⟩:=d3w (x:=yv) hes hf;rw [Nat.sub_zero] at he1 he3;have hkey:((arr[i]?).map (·.key)).getD (kv xs)=kv xs:=by
    have:arr[i]?=some e:=by simpa using he1
    rw [this];exact he2
   refine ⟨arr.modify i fun e=>{e with key:=kv xs,val:=yv.conc},clock,?_,?_⟩
   ·simp only [execOp,ho,hc,hds,hyc,Instr.mapUpdate,Sem.run_bind,run_underlying hu,Result.andThen_ok,run_getObj_map w b arr clock hheap];rw [e0];simp only [Sem.run_pure,Sem.run_bind,hck',Result.andThen_ok,hfind,hf,hkey,Instr.keyThatStays,e4n 9998,if_true,d7H _ hheap]
   ·rw [Array.toList_modify];exact he3
 refine ⟨_,undef,_,F,ι,hrun,.inr ⟨rfl,rfl⟩,?_⟩;rw [hd,b3A,b2X];have hsz:(w.heap.setIfInBounds b (.map arr' clock')).size=w.heap.size:=by simp
 refine h.write he rfl ⟨rfl,rfl,rfl⟩ hsz (fun k hk => ?_) (fun _ => ?_) (fun k hk=>hk)
 ·refine (d00 hheap).2 k fun q=>hk ?_
  rw [q,hι];rfl
 ·exact ⟨b,arr',clock',hι,(d00 hheap).1,hes',d56 hok (fun q hq=>⟨(hok q hq).1,hys⟩) ⟨hlen,hys⟩⟩
end
theorem c6n{α:Type}(key:α->List Int)(k:List Int):∀l:List α,a27 (l.map fun x=>(key x,.b true)) k (.b false)=.b (l.any fun x=>k==key x)
 | []=>rfl
 | x::l=>by
  simp only [f9l,a27,g0R];by_cases q:(k==key x)=true
  ·simp [q]
  ·simp only [q,if_false,f9n,c6n key k l];rfl
def a9x{α:Type}(key:α->List Int)(l:List α)(y:α):List α:=if l.any (fun x=>key y==key x) then l else l++[y]
theorem d0L{α:Type}(key:α->List Int)(y:α):∀l:List α,a1X (l.map fun x=>(key x,.b true)) (key y) (.b true)=(a9x key l y).map fun x=>(key x,.b true)
 | []=>rfl
 | x::l=>by
  have ih:=d0L key y l;unfold a9x at ih ⊢;simp only [f9l,a1X,g0R];by_cases q:(key y==key x)=true
  ·simp [q]
  ·have q':(key y==key x)=false:=by simpa using q
   simp only [q',f9n];rw [if_neg (by simp),ih];by_cases c:(l.any fun x=>key y==key x)=true
   ·rw [if_pos c,if_pos c];rfl
   ·rw [if_neg c,if_neg c];rfl
section
variable {cx:Cx} {Γ:P3} {F:Nat->Prop} {ι:Nat->Nat->Value} {S S':St} {a:Act} {w:World}
theorem u7.killsR:∀{ks:List (Nat×Nat)} {S:St},u7 Γ F ι S a w->(∀id∈ks,∃e,S.ent id.1 id.2=some e)->u7 Γ F ι (S.upds (G5 ks)) a w
 | [],S,h,_=>h
 | id::ks,S,h,hk=>by
  obtain ⟨e,he⟩:=hk id (by simp);refine u7.killsR (S:=S.setE id.1 id.2 .dead) (h.kill he) fun id' hid => ?_
  obtain ⟨e',he'⟩:=hk id' (by simp [hid]);rw [Q8 he];split
  ·exact ⟨_,rfl⟩
  ·exact ⟨e',he'⟩
theorem I2.flatB{rows:List (List V)}(h:I2 rows):rows.flatten.all (fun v => !v.isRef)=true:=by
 rw [f8E];intro v hv;obtain ⟨r,hr,hv⟩:=f9C.1 hv;rw [h r hr v hv];rfl
theorem u7.layDeep(h:u7 Γ F ι S a w){grp:Nat}(hgl:grp<S.h.length)(hn:¬S.D grp){X:Option Nat}{w':World}(hgr:w.grownBy w' X)(hX:∀k,X=some k->¬F k/\(Γ.own k\/Γ.w0.heap.size<=k)/\∀g j e,S.ent g j=some e->e.live=true->¬EB w e (ι g j) k){e sz n:Nat}{rows:List (List V)}{sv:Value}{flat:List Value}{fs:List Nat}(hown:w'.ownsRow 0 e sz sv n flat)(hbl:BL w F rows.flatten flat fs)(hlen:rows.length=n)(hl:∀r∈rows,r.length=sz)(hsv:∀k,B8 sv=some k->X=some k\/w.heap.size<=k)(hfs:∀k∈fs,¬F k/\(Γ.own k\/Γ.w0.heap.size<=k)/\(∀g j e,S.ent g j=some e->e.live=true->¬EB w e (ι g j) k)/\X≠some k)(hnd:fs.Nodup) :
  u7 Γ F (N2 ι grp sv) (S.lay grp [.deep false e sz n rows]) a w'/\RC w' F (S.lay grp [.deep false e sz n rows]).D (N2 ι grp sv) (.own grp 0 sz 0 n) sv:=by
 have hs:I0 w w' F:=a1v fun g hF=>hgr.block g (h.F1 g hF) fun q=>(hX g q.symm).1 hF
 have hlt:=hbl.lt;have hbl':BL w' F rows.flatten flat fs:=hbl.mono hs (fun _ x=>x) fun k hk=>hgr.block k (hlt k hk) fun q=>(hfs k hk).2.2.2 q.symm
 have hkl:∀{D:Nat->Prop} {ι:Nat->Nat->Value},KL w' F D ι rows.flatten flat fs:=hbl'.kl
 have hEB:∀k,EB w' (.deep false e sz n rows) sv k->(X=some k\/w.heap.size<=k)\/k∈fs:=by
  intro k hk;rcases f8B.1 ((EB.deep_iff (D:=fun _=>True) (ι:=fun _ _=>.nilFunc) hown hkl).1 hk) with q|q
  ·exact .inl (hsv k (R3.1 q))
  ·exact .inr q
 have h':=h.world2 hgr hX;have hback:∀{g' j' e' k},S.ent g' j'=some e'->e'.live=true->EB w' e' (ι g' j') k->EB w e' (ι g' j') k:=fun he' hl' hk'=>
  (h.ents _ _ _ he').back (fun k q=>hgr.block k (h.lt he' hl' q) fun z=>(hX k z.symm).2.2 _ _ _ he' hl' q) hk'
 refine ⟨h'.lay hgl hn (fun g j q=>b1r q) ?_ ?_ ?_ ?_,RC.wholeO (a0V hgl) Q0 hown⟩
 ·intro j e1 he;cases j with
  | succ j=>simp at he
  | zero=>
   simp at he;subst he;rw [Q0];refine ⟨flat,fs,hown,hkl,hlen,hl,f8L.2 ⟨c4A sv,hnd,?_⟩,fun _=>I2.of_flat hbl.noRef⟩;intro k hk k' hk' hkk;subst hkk;rcases hsv k (R3.1 hk) with q|q
   ·exact (hfs k hk').2.2.2 q
   ·have:=hlt k hk';omega
 ·intro j e1 k he hl1 hk;rw [Q0] at hk;cases j with
  | succ j=>simp at he
  | zero=>
   simp at he;subst he;rcases hEB k hk with (q|q)|q
   ·exact ⟨(hX k q).1,(hX k q).2.1⟩
   ·refine ⟨fun hF => ?_,.inr (f9m h.kept.size q)⟩;have:=h.F1 k hF;omega
   ·exact ⟨(hfs k q).1,(hfs k q).2.1⟩
 ·intro j e1 j' e1' k he he' _ _ _ _;cases j<;>cases j'<;>simp_all
 ·intro j e1 g' j' e' k he he' _ hl' hk hk';rw [Q0] at hk;cases j with
  | succ j=>simp at he
  | zero=>
   simp at he;subst he;have hk2:=hback he' hl' hk';rcases hEB k hk with (q|q)|q
   ·exact (hX k q).2.2 g' j' e' he' hl' hk2
   ·have:=h.lt he' hl' hk2;omega
   ·exact (hfs k q).2.2.1 g' j' e' he' hl' hk2
def b1j:V->V
 | .osl .. | .dsl .. => .bot
 | v=>v
theorem KL.holes:∀{vs:List V} {cs:List Value} {f:List Nat} {D:Nat->Prop} {ι:Nat->Nat->Value},KL w F D ι vs cs f->vs.all (fun v => !v.isRef)=true->KL w F D ι (vs.map b1j) cs []
 | _,_,_,_,_,.nil,_=>.nil
 | _,_,_,D,ι,.cons v c f vs cs fs h t,hv=>by
  simp only [List.all_cons,f8D] at hv;have h1:KC w F D ι (b1j v) c []:=by
   have hone:=h.one;cases h with
   | rc h=>
    have:b1j v=v:=by
     cases h with
     | fv v c h=>cases h<;>rfl
     | _=>rfl
    rw [this];exact .rc _ _ h
   | bc _ h=>cases h with
    | fv _ _ h=>
     have:b1j v=v:=by cases h<;>rfl
     rw [this];exact .rc _ _ (.fv _ _ h)
    | _=>exact .rc _ _ (.fv _ _ (.bot _ hone))
  exact .cons _ _ [] _ _ [] h1 (KL.holes t hv.2)
def b5l(cx:Cx)(grp ty:Nat)(x:V)(r:List V):j8 B6:=
 match cx.T ty with
 | none=>j8.no
 | some ti=>match x with
  | .eptr g j sz idx off=>j8.bind (j8.rd g j) fun e=>match e with
   | .deep _ t sz' n rows=>
    let m:=if ti.agg then ti.size else 1
    let y:=L7 grp 0 ((r.drop off).take m);if sz'=sz/\off+m<=sz/\((r.drop off).take m).all (fun v => !v.isRef) then
     match S5 ti y.1 with
     | some v=>j8.pure {v:=v,new:=some y.2,upd:=[((g,j),.deep true t sz n (rows.set idx (A7 r off (((r.drop off).take m).map b1j))))],obl:=[rows[idx]?=some r]}
     | none=>j8.no
    else j8.no
   | _=>j8.no
  | _=>j8.no
set_option maxHeartbeats 800000 in
theorem f0D(h:u7 Γ F ι S a w){grp:Nat}(hg:grp<S.h.length)(hn:¬S.D grp){ob:Oper}{ty:Nat}{x:Operand}{r:List V}(ho:ob.op=.load ty x){out:B6}{lg:List (Nat×Nat)}(hp:b5l cx grp ty (t7 S.t x) r S.ent=some (out,lg))(hob:∀p∈out.obl,p):U4 cx.P Γ ι S grp ob out a w:=by
 have hx:=E1 h.tmps x;unfold b5l at hp;cases hti:cx.T ty with
 | none=>rw [hti] at hp;cases hp
 | some ti=>
 rw [hti] at hp;obtain ⟨i,d,z,htf⟩:=cx.tf hti;generalize t7 S.t x=xv at hp hx;cases xv<;>try (cases hp;done)
 case eptr g j sz idx off=>
  obtain ⟨hD,b,hι,hc⟩:=hx.inv_eptr;obtain ⟨e,l1,l2,hrd,hp',hl12⟩:=j8.bind_some hp;clear hp;have he:=(j8.rd_some hrd).1;simp only at he;cases e<;>try (cases hp';done)
  rename_i o t sz' n rows;simp only at hp';obtain ⟨m,hm⟩:∃m,(if ti.agg=true then ti.size else 1)=m:=⟨_,rfl⟩
  rw [hm] at hp';split at hp'<;>try (cases hp';done)
  rename_i hcond;obtain ⟨rfl,hc1,hc2⟩:=hcond;obtain ⟨y,hy⟩:∃y,L7 grp 0 ((r.drop off).take m)=y:=⟨_,rfl⟩
  rw [hy] at hp';cases hrv:S5 ti y.1 with
  | none=>rw [hrv] at hp';cases hp'
  | some v=>
  rw [hrv] at hp';have:=j8.pure_some hp';injection this with h2 h3;subst h2;have hr:rows[idx]?=some r:=hob _ (by simp);obtain ⟨flat,fs,hor,hkl,hrn,hl,hnd,hnr⟩:=h.ents g j _ he;obtain ⟨hseg,hmid,hle⟩:=c6Y hor hrn hl hι hr hc1;have hrl:=hl r (f8O hr);have hml:((r.drop off).take m).length=m:=by simp;omega
  have hgg:g≠grp:=fun q=>hn (q▸hD)
  obtain ⟨k,hk⟩:∃k,idx*sz'+off=k:=⟨_,rfl⟩
  rw [hk] at hseg hmid hle;obtain ⟨fa,fm,fb,rfl,ka,km,kb⟩:=hkl.cut (k:=k) (m:=m) hle;rw [hmid] at km;have hbl:=km.toBL hc2;have hds:(flat.drop k).take m=((flat.drop k).take m):=rfl;have hflen:flat.length=rows.flatten.length:=hkl.len.symm;have hspl:∀us:List V,us.length=m->(rows.set idx (A7 r off us)).flatten=rows.flatten.take k++(us++rows.flatten.drop (k+m)):=by
   intro us hus;rw [a8P hl hr (by omega),hk];unfold A7;rw [hus,f8U]
  have hfs:flat=flat.take k++((flat.drop k).take m++flat.drop (k+m)):=by
   rw [<-g0x,f9A,f9A]
  have hrl':∀us:List V,us.length=m->∀q∈rows.set idx (A7 r off us),q.length=sz':=by
   intro us hus q hq;rcases f9k hq with hq|rfl
   ·exact hl q hq
   ·rw [a2X _ _ _ (by omega)];exact hrl
  have hnd2:(E2 (ι g j)++(fa++fb)).Nodup:=List.Nodup.sublist (g0I.append_left (g0I.append_left (g0p _ _) _) _) hnd;have hndm:fm.Nodup:=(f8L.1 (f8L.1 (f8L.1 hnd).2.1).2.1).1;have hdm:∀k∈fm,k ∉ E2 (ι g j)++(fa++fb):=by
   intro q hq hq';have hp:=(a8x (C:=E2 (ι g j)) (a8x (C:=fa) (g0w.refl (fm++fb)))).nodup_iff.1 hnd;exact (f8L.1 hp).2.2 q hq q hq' rfl
  obtain ⟨us0,hus0⟩:∃us:List V,us=((r.drop off).take m).map b1j:=⟨_,rfl⟩
  have hus0l:us0.length=m:=by rw [hus0,f9u,hml]
  have kl0:∀{D':Nat->Prop} {ι':Nat->Nat->Value},(∀k,S.D k->D' k)->(∀g j,S.D g->ι' g j=ι g j)->∀{us:List V},us.length=m->KL w F D' ι' us ((flat.drop k).take m) []->KL w F D' ι' (rows.set idx (A7 r off us)).flatten flat (fa++([]++fb)):=by
   intro D' ι' h1 h2 us hus hku;rw [hspl us hus,hfs];have l1:(flat.take k).length=k:=by simp;omega
   have e1:(flat.take k++((flat.drop k).take m++flat.drop (k+m)))=flat:=hfs.symm;exact (ka.mono (fun _ _ _=>rfl) (fun _ x=>x) h1 h2 (fun _ _=>rfl)).app (hku.app (kb.mono (fun _ _ _=>rfl) (fun _ x=>x) h1 h2 (fun _ _=>rfl)))
  have hmem0:∀q,q∈E2 (ι g j)++(fa++([]++fb))->q∈E2 (ι g j)++(fa++(fm++fb)):=by
   intro q hq;simp only [f8B,g0M,false_or] at hq ⊢;rcases hq with x|x|x<;>simp [x]
  have rel1:u7 Γ F ι (S.setE g j (.deep true t sz' n (rows.set idx (A7 r off us0)))) a w:=by
   have k1:=kl0 (D':=S.D) (ι':=ι) (fun _ x=>x) (fun _ _ _=>rfl) hus0l (hus0▸km.holes hc2);refine h.write he rfl ⟨rfl,rfl,rfl⟩ rfl (fun _ _=>rfl) (fun _ => ?_) ?_
   ·exact ⟨flat,_,hor,k1.mono (fun _ _ _=>rfl) (fun _ x=>x) (fun k x=>R2.2 x) (fun _ _ _=>rfl) (fun _ _=>rfl),by simpa using hrn,hrl' _ hus0l,by simpa using hnd2,fun q=>by cases q⟩
   ·intro q hq;exact (EB.deep_iff hor hkl).2 (hmem0 q ((EB.deep_iff hor k1).1 hq))
  have he1:(S.setE g j (.deep true t sz' n (rows.set idx (A7 r off us0)))).ent g j=some (.deep true t sz' n (rows.set idx (A7 r off us0))):=by rw [Q8 he];simp
  obtain ⟨bs,hbsl,hhas,hth⟩:=a8W (grp:=grp) hbl 0;rw [hy] at hbsl hhas hth;obtain ⟨ι',hι'⟩:∃ι',ι'=a4M ι grp bs:=⟨_,rfl⟩
  have hne:∀g j,g≠grp->ι' g j=ι g j:=fun g j q=>by rw [hι'];exact c3s q
  have hlenS:grp<(S.setE g j (.deep true t sz' n (rows.set idx (A7 r off us0)))).h.length:=by rw [b0D];exact hg
  have hnD:¬(S.setE g j (.deep true t sz' n (rows.set idx (A7 r off us0)))).D grp:=fun q=>hn (R2.1 q)
  have hDg:=a0V (S:=S.setE g j (.deep true t sz' n (rows.set idx (A7 r off us0)))) (new:=y.2) hlenS;obtain ⟨hrc,hlie⟩:=hth ((S.setE g j (.deep true t sz' n (rows.set idx (A7 r off us0)))).lay grp y.2).D ι' hDg (fun q c hq=>by rw [hι',f9I];exact a5b hq) hndm;have hvb:∀(q:Nat) (e:s9),y.2[q]?=some e->bs[q]?=some (ι' grp q):=by
   intro q e hq;have hlt:q<bs.length:=by rw [hbsl];exact (f8G.1 hq).1
   have hv:ι' grp q=bs[q]:=by rw [hι'];exact a5b (f8z hlt)
   rw [hv];exact f8z hlt
  have hmB:∀k∈fm,EB w (.deep o t sz' n rows) (ι g j) k:=fun k hk=>(EB.deep_iff hor hkl).2 (by simp [hk])
  have k1:=kl0 (D':=S.D) (ι':=ι) (fun _ x=>x) (fun _ _ _=>rfl) hus0l (hus0▸km.holes hc2);have rel2:=rel1.lay hlenS hnD (new:=y.2) (ι':=ι') hne (fun q e he=>hlie q e _ he (hvb q e he))
   (fun q e k he hl hk=>h.sep _ _ _ k ‹S.ent g j=some (.deep o t sz' n rows)› rfl (hmB k (hhas.mem he (hvb q e he) hk)))
   (fun q e q' e' k he he' hl hl' hk hk'=>hhas.inj hndm he (hvb q e he) hk he' (hvb q' e' he') hk')
   (fun q e g' j' e' k he0 he' hl hl' hk hk'=>by
    have hkm:=hhas.mem he0 (hvb q e he0) hk;rw [Q8 he] at he';split at he'
    ·rename_i qq;obtain ⟨rfl,rfl⟩:=qq;injection he' with he';subst he';exact hdm k hkm (by simpa using (EB.deep_iff hor k1).1 hk')
    ·rename_i qq;exact qq (h.inj _ _ _ _ _ _ k he' he hl' rfl hk' (hmB k hkm)))
  have he2:((S.setE g j (.deep true t sz' n (rows.set idx (A7 r off us0)))).lay grp y.2).ent g j=some (.deep true t sz' n (rows.set idx (A7 r off us0))):=by rw [a7z hgg];exact he1
  obtain ⟨c,hrd',hvc⟩:=a6K hrc hrv;refine ⟨_,c,w,F,ι',a6l ho htf (by rw [hc,hk]) hseg hrd',.inl rfl,?_⟩;have hput:=rel2.put ob.dst hvc;rw [hus0] at hput;exact hput
theorem u7.shut(h:u7 Γ F ι S a w){g j t sz n:Nat}{o:Bool}{rows:List (List V)}(he:S.ent g j=some (.deep o t sz n rows))(hn:I2 rows):u7 Γ F ι (S.setE g j (.deep false t sz n rows)) a w:=by
 refine h.write he rfl ⟨rfl,rfl,rfl⟩ rfl (fun _ _=>rfl) (fun _ => ?_) (fun k hk=>hk);obtain ⟨flat,fs,q1,q2,q3,q4,q5,q6⟩:=h.ents g j _ he;exact ⟨flat,fs,q1,q2.mono (fun _ _ _=>rfl) (fun _ x=>x) (fun k x=>R2.2 x) (fun _ _ _=>rfl) (fun _ _=>rfl),q3,q4,q5,fun _=>hn⟩
theorem c4V{g j:Nat}:∀{us:List P6} {S:St} {e:s9},S.ent g j=some e->∃e',(S.upds us).ent g j=some e'
 | [],_,e,h=>⟨e,h⟩
 | ((g',j'),e')::us,S,e,h=>by
  cases hx:S.ent g' j' with
  | none=>
   have:(S.setE g' j' e').ent g j=some e:=by
    by_cases q:g=g'/\j=j'
    ·rw [q.1,q.2,hx] at h;cases h
    ·rw [a7w q];exact h
   exact c4V (us:=us) (S:=S.setE g' j' e') this
  | some e0=>
   have:∃e1,(S.setE g' j' e').ent g j=some e1:=by
    rw [Q8 hx];split
    ·exact ⟨_,rfl⟩
    ·exact ⟨e,h⟩
   obtain ⟨e1,h1⟩:=this;exact c4V (us:=us) (S:=S.setE g' j' e') h1
def b2U(cx:Cx)(ty:Nat)(x y:V)(r:List V)(ck om:List (Option Nat)):j8 B6:=
 j8.bind (b0E cx ty x y r ck om) fun o=>match o.new,o.upd.reverse with
  | none,((g,j),.deep b t sz n rows)::us=>j8.bind (j8.rd g j) fun _=>j8.pure {v:=o.v,upd:=o.upd++[((g,j),.deep false t sz n rows)],obl:=I2 rows::o.obl}
  | _,_=>j8.no
theorem e35{S:St}{g j:Nat}{e:s9}{t:List V}:({S with t:=t}:St).setE g j e={S.setE g j e with t:=t}:=by
 unfold St.setE;cases S.h[g]? with
 | none=>rfl
 | some o=>cases o<;>rfl
theorem e6x(h:u7 Γ F ι S a w){grp:Nat}{ob:Oper}{ty:Nat}{x y:Operand}{r:List V}{ck om:List (Option Nat)}(ho:ob.op=.store ty x y)(hd:ob.dst=none){out:B6}{lg:List (Nat×Nat)}(hp:b2U cx ty (t7 S.t x) (t7 S.t y) r ck om S.ent=some (out,lg))(hob:∀p∈out.obl,p):U4 cx.P Γ ι S grp ob out a w:=by
 unfold b2U at hp;obtain ⟨o,l1,l2,hd1,hp',_⟩:=j8.bind_some hp;clear hp;simp only at hp';cases hnew:o.new with
 | some _=>rw [hnew] at hp';cases hp'
 | none=>
 rw [hnew] at hp';cases hrev:o.upd.reverse with
 | nil=>rw [hrev] at hp';cases hp'
 | cons u us=>
 rw [hrev] at hp';obtain ⟨⟨g,j⟩,e⟩:=u;cases e<;>try (cases hp';done)
 rename_i b t sz n rows;simp only at hp';obtain ⟨e0,l3,l4,hrd,hp'',_⟩:=j8.bind_some hp';have he0:=(j8.rd_some hrd).1;simp only at he0;have:=j8.pure_some hp'';injection this with h2 h3;subst h2;have hnr:I2 rows:=hob _ (by simp);obtain ⟨nx,c,w',F',ι',hrun,hnx,hrel⟩:=d6z h (grp:=grp) ho hd hd1 (fun p hp=>hob p (by simp [hp]));refine ⟨nx,c,w',F',ι',hrun,hnx,?_⟩;have hu:o.upd=us.reverse++[((g,j),.deep b t sz n rows)]:=by
  have:=congrArg List.reverse hrev;simpa using this
 have happ:S.apply grp ob.dst o={S.upds o.upd with t:=U0 S.t ob.dst o.v}:=by
  unfold St.apply;rw [hnew];simp only [St.upds_t]
 rw [happ] at hrel;have hent:({S.upds o.upd with t:=U0 S.t ob.dst o.v}:St).ent g j=some (.deep b t sz n rows):=by
  show (S.upds o.upd).ent g j=_
  rw [hu,St.upds_append];obtain ⟨e1,he1⟩:=c4V (us:=us.reverse) he0;show ((S.upds us.reverse).setE g j _).ent g j=_
  rw [Q8 he1];simp
 have hs:=hrel.shut hent hnr;rw [e35] at hs;unfold St.apply;simp only [St.upds_append,St.upds_t];exact hs
def b2r(cx:Cx)(grp ty len:Nat)(parts:List (Nat×V))(ck om:List (Option Nat)):j8 B6:=
 match cx.T ty with
 | some ti=>match ti.sl with
  | some e=>match cx.T e with
   | some ei=>match parts with
    | [(0,x)]=>match x.cells with
     | some cs=>j8.bind (a19 ck om cs) fun f=>
      if len=1/\cs.length=ei.size/\ei.zero.length=ei.size/\0<ei.size/\ei.size<=16777216/\a3l f.ks=true/\f.ls.isEmpty=true then
       j8.pure {v:=.own grp 0 ei.size 0 1,new:=some [.deep false e ei.size 1 [f.v]],upd:=G5 f.ks,obl:=f.obl}
      else j8.no
     | none=>j8.no
    | []=>
     if len=0/\ei.zero.length=ei.size/\0<ei.size/\ei.size<=16777216 then
      j8.pure {v:=.own grp 0 ei.size 0 0,new:=some [.deep false e ei.size 0 []]}
     else j8.no
    | _=>j8.no
   | none=>j8.no
  | none=>j8.no
 | none=>j8.no
theorem f4A{u:Value}{ds:Array Value}{sz:Nat}(hu:u.cells.size=sz)(hd:ds.size=sz):∃es:Array Value,Instr.fill (fun i=>some (i*sz,sz)) ds [(0,u)]=some es/\es.toList=u.cells.toList:=by
 have hout:=c3t u.cells.toList 0 (0*sz) ds (by simp only [Array.length_toList];omega);refine ⟨u.cells.toList.zipIdx.foldl (fun (cs:Array Value) (x:Value×Nat)=>cs.setIfInBounds (0*sz+x.2) x.1) ds,?_,?_⟩
 ·have hcond':(u.cells.size≠sz||0*sz+u.cells.size>ds.size)=false:=by
   simp [hu];omega
  simp only [Instr.fill,hcond'];simp only [f9W,if_false];congr 1
  rw [<-Array.foldl_toList,Array.toList_zipIdx]
 ·rw [hout,Nat.zero_mul,g0l,d5V];simp only [Array.length_toList];omega
theorem f05(h:u7 Γ F ι S a w){grp:Nat}(hg:grp<S.h.length)(hn:¬S.D grp){ob:Oper}{ty len:Nat}{parts:Array (Nat×Operand)}{ck om:List (Option Nat)}(ho:ob.op=.buildSlice ty len parts){out:B6}{lg:List (Nat×Nat)}(hp:b2r cx grp ty len (parts.toList.map fun (i,x)=>(i,t7 S.t x)) ck om S.ent=some (out,lg))(hob:∀p∈out.obl,p):U4 cx.P Γ ι S grp ob out a w:=by
 unfold b2r at hp;cases hti:cx.T ty with
 | none=>rw [hti] at hp;cases hp
 | some ti=>
 rw [hti] at hp;simp only at hp;cases hsl:ti.sl with
 | none=>rw [hsl] at hp;cases hp
 | some e=>
 rw [hsl] at hp;simp only at hp;cases hei:cx.T e with
 | none=>rw [hei] at hp;cases hp
 | some ei=>
 rw [hei] at hp;simp only at hp;have hrel:=c50 h.tmps parts.toList;generalize hpl:(parts.toList.map fun (i,x)=>(i,t7 S.t x))=pl at hp hrel;generalize hql:(parts.toList.map fun (i,x)=>(i,a.eval x))=ql at hrel;cases hrel with
 | nil=>
  simp only at hp;split at hp<;>try (cases hp;done)
  rename_i hcond;obtain ⟨rfl,hc2,hc3,hc4⟩:=hcond;have:=j8.pure_some hp;injection this with h3 h4;subst h3;obtain ⟨ti',d,z,htf⟩:=cx.tf hti;obtain ⟨ti2,d',z',hef⟩:=cx.tf hei;obtain rfl:=htf.isSl hsl;have hmd:(madeCells z'.cells (0*ei.size)) = #[]:=by simp [madeCells]
  have hrun:(execOp a.eval ob).run cx.P w=.ok (.value (.slice (some ⟨w.heap.size,0,none⟩) 0 0)) (w.alloc (.cells #[] e)):=by
   have:=c6X (w:=w) (len:=0) htf rfl hef (by omega) (qs:=parts.map fun (i,x)=>(i,a.eval x)) (es := #[]) (by rw [Array.toList_map,hql,hmd];rfl);simp [execOp,ho,this]
  have hgr:=a5g w (.cells #[] e);have hown:(w.alloc (.cells #[] e)).ownsRow 0 e ei.size (.slice (some ⟨w.heap.size,0,none⟩) 0 0) 0 []:=
   ⟨by simp,.inr ⟨w.heap.size,0,#[],rfl,g0v _,a8w w _,f8R _,by simp,by simp,by simp⟩⟩
  obtain ⟨r1,r2⟩:=h.layDeep hg hn hgr (fun k q=>by cases q) (rows:=[]) (sv:=.slice (some ⟨w.heap.size,0,none⟩) 0 0) hown (show BL w F [].flatten [] [] from .nil) rfl (by simp) (by intro k hk;simp [B8] at hk;exact .inr (by omega)) (by simp) .nil;exact ⟨_,_,_,F,N2 ι grp (.slice (some ⟨w.heap.size,0,none⟩) 0 0),hrun,.inl rfl,r1.put ob.dst (.cell r2)⟩
 | @cons p q pl ql hpq ht=>
 obtain ⟨i,x⟩:=p;obtain ⟨i',u⟩:=q;obtain ⟨hii,hxu⟩:=hpq;simp only at hii hxu;subst hii;cases ht with
 | cons _ _=>cases i<;>cases hp
 | nil=>
 cases i with
 | succ i=>cases hp
 | zero=>
 simp only at hp;cases hcs:x.cells with
 | none=>rw [hcs] at hp;cases hp
 | some cs=>
 rw [hcs] at hp;obtain ⟨f,l1,l2,hf,hp',_⟩:=j8.bind_some hp;clear hp;split at hp'<;>try (cases hp';done)
 rename_i hcond;obtain ⟨rfl,hc1,hc2,hc3,hc4,hc5,hc6⟩:=hcond;have:=j8.pure_some hp';injection this with h3 h4;subst h3;obtain ⟨ti',d,z,htf⟩:=cx.tf hti;obtain ⟨ti2,d',z',hef⟩:=cx.tf hei;obtain rfl:=htf.isSl hsl;have hrc:=hxu.cells hcs;obtain ⟨fp,hbl,hfps,hh⟩:=b4i (F1:=F) h (fun _ x=>x) hrc hf hob (by rw [List.isEmpty_iff.1 hc6];intro id hid;cases hid);have hul:u.cells.size=ei.size:=by rw [<-hc1,hrc.length];simp
 have hzs:z'.cells.size=ei.size:=by rw [<-hc2,<-hef.zeros];simp
 have hmd:(madeCells z'.cells (1*ei.size)).size=ei.size:=by simp [madeCells]
 obtain ⟨es,hfill,hes⟩:=f4A (u:=u) (ds:=madeCells z'.cells (1*ei.size)) hul hmd;have hel:es.size=1*ei.size:=by
  have:=congrArg List.length hes;simp only [Array.length_toList] at this;omega
 have hrun:(execOp a.eval ob).run cx.P w=.ok (.value (.slice (some ⟨w.heap.size,0,none⟩) 1 1)) (w.alloc (.cells es e)):=by
  have:=c6X (w:=w) (len:=1) htf rfl hef (by omega) (qs:=parts.map fun (i,x)=>(i,a.eval x)) (es:=es) (by rw [Array.toList_map,hql];exact hfill);simp [execOp,ho,this]
 have hgr:=a5g w (.cells es e);have hown:(w.alloc (.cells es e)).ownsRow 0 e ei.size (.slice (some ⟨w.heap.size,0,none⟩) 1 1) 1 u.cells.toList:=by
  refine ⟨by simp only [Array.length_toList];omega,.inr ⟨w.heap.size,1,es,rfl,g0v _,a8w w _,f8R _,by unfold maxLen;omega,hel,?_⟩⟩;rw [hes,f9r (by simp only [Array.length_toList];omega)]
 have hkl:=h.killsR (fun id hid=>(hfps.live id hid).imp fun _ x=>x.1);have hnd:=M5.nodup h hfps (a5c hc5);have hgk:grp<(S.upds (G5 f.ks)).h.length:=by rw [St.upds_len];exact hg
 have hnk:¬(S.upds (G5 f.ks)).D grp:=fun q=>hn ((a0r S grp _).1 q)
 obtain ⟨r1,r2⟩:=hkl.layDeep hgk hnk hgr (fun k q=>by cases q) (rows:=[f.v]) (sv:=.slice (some ⟨w.heap.size,0,none⟩) 1 1) hown (by simpa using hbl) rfl (by
   intro r hr;rw [f8H.1 hr,hbl.len];simp only [Array.length_toList];exact hul) (by intro k hk;simp [B8] at hk;exact .inr (by omega)) (by
   intro k hk;obtain ⟨id,hid,e1,he1,hl1,hk1⟩:=hfps.mem hk;obtain ⟨x1,x2⟩:=h.sep _ _ _ k he1 hl1 hk1;refine ⟨x1,x2,?_,by simp⟩;intro g' j' e' he' hl' hk';rcases b0u _ he' with ⟨_,rfl⟩|⟨hni,he2⟩
   ·cases hl'
   ·obtain ⟨y1,y2⟩:=h.inj _ _ _ _ _ _ k he2 he1 hl' hl1 hk' hk1;exact hni (by rw [y1,y2];exact hid)) hnd
 exact ⟨_,_,_,F,N2 ι grp (.slice (some ⟨w.heap.size,0,none⟩) 1 1),hrun,.inl rfl,r1.put ob.dst (.cell r2)⟩
def b4r(cx:Cx)(grp ty:Nat)(s x:V):j8 B6:=
 match cx.T ty with
 | some ti=>match ti.sl with
  | some e=>match cx.T e with
   | some ei=>match x with
    | .own g2 j2 sz2 0 m=>j8.bind (j8.rd g2 j2) fun e2=>match e2 with
     | .deep false t2 sz2' m' rows2=>
      if t2=e/\sz2=ei.size/\sz2'=ei.size/\0<ei.size/\0<ei.bytes/\ei.zero.length=ei.size/\0<m' then
       match s with
       | .nil=>j8.pure {v:=.own grp 0 ei.size 0 m',new:=some [.deep false e ei.size m' rows2],upd:=G5 [(g2,j2)],obl:=[m=m',m'*ei.bytes<=140737488355328]}
       | .own g j sz 0 n=>j8.bind (j8.rd g j) fun e1=>match e1 with
        | .deep false t sz' n' rows=>
         if t=e/\sz=ei.size/\sz'=ei.size/\a3l [(g,j),(g2,j2)]=true then
          j8.pure {v:=.own grp 0 ei.size 0 (n'+m'),new:=some [.deep false e ei.size (n'+m') (rows++rows2)],upd:=G5 [(g,j),(g2,j2)],obl:=[n=n',(n'+m')*ei.bytes<=140737488355328,m=m']}
         else j8.no
        | _=>j8.no
       | _=>j8.no
      else j8.no
     | _=>j8.no
    | _=>j8.no
   | none=>j8.no
  | none=>j8.no
 | none=>j8.no
theorem c7m{g j sz n e sz':Nat}{c:Value}{flat:List Value}(hs:RV w F S.D ι (.own g j sz 0 n) c)(hown:w.ownsRow 0 e sz' (ι g j) n flat):c=ι g j:=by
 obtain ⟨hD,⟨b,nn,cap,hι,hlo,hb0,hb1,hc⟩|⟨hl0',_⟩⟩:=hs.inv_own;case inr=>omega
 rcases hown.2 with ⟨hv,hz⟩|⟨g0,cap0,cur,hv,_⟩
 ·rw [hι] at hv;injection hv with e1 e2 e3;subst e1;subst e2;subst e3;subst hz;rw [hc,hι];simp
 ·rw [hι] at hv;injection hv with e1 e2 e3;subst e1;subst e2;subst e3;rw [hc,hι];by_cases q:cap=0
  ·simp [q]
  ·simp [q,Addr.add]
theorem d4V{P:Program}{ty e:Nat}{ti ei:TI}{i i':TypeInfo}{d d':TypeDesc}{z z':Value}(htf:TF P ty ti i d z)(hd:d=.slice e)(hef:TF P e ei i' d' z')(h0:0<ei.size)(hb0:0<ei.bytes)(hzl:ei.zero.length=ei.size){sv sv2:Value}{n m:Nat}{flat flat2:List Value}(hown:w.ownsRow 0 e ei.size sv n flat)(hown2:w.ownsRow 0 e ei.size sv2 m flat2)(hm:0<m)(hone:∀u∈flat2,u.oneCell'=true)(hb:(n+m)*ei.bytes<=140737488355328)(rt:Nat) :
  ∃v' w',(Builtin.append_ #[ty,ty] rt #[sv,sv2]).run P w=.ok v' w'/\w'.ownsRow 0 e ei.size v' (n+m) (flat++flat2)/\w.grownBy w' sv.ownBlock/\(v'.ownBlock=sv.ownBlock\/v'.ownBlock=some w.heap.size):=by
 subst hd;have hzs:z'.cells.size=ei.size:=by rw [<-hzl,<-hef.zeros];simp
 have hm63:n+m<=maxLen:=by
  have:n+m<=140737488355328:=f9m (g0h _ hb0) hb;unfold maxLen;omega
 rcases hown2.2 with ⟨_,q⟩|⟨g2,cap2,cur2,rfl,_,hg2,hnc2,_,hcs2,ht2⟩
 ·omega
 ·have hseg:P4 w g2 0 flat2:=by
   rw [<-ht2];have:=(a7d hg2 0).take (m*ei.size);simpa using this
  obtain ⟨v',w',h1,h2,h3,_,h5⟩:=run_append_own_at (P:=P) w 0 ty rt e i' z' ei.size ei.bytes htf.und hef.info hef.zero hef.size hef.bytes hzs h0 sv n flat hown ⟨g2,0,none⟩ m cap2 flat2 hown2.1 (by
   intro j u hu;rw [a3i];exact hseg j u hu) hone hm63 hb (g0v _)
  exact ⟨v',w',h1,h2,h3,h5⟩
theorem BL.ones:∀{vs:List V} {cs:List Value} {f:List Nat},BL w F vs cs f->∀u∈cs,u.oneCell'=true
 | _,_,_,.cons v c f vs cs fs h t,u,hu=>by
  rcases f8J.1 hu with rfl|hu
  ·exact h.one
  ·exact BL.ones t u hu
theorem BL.app:∀{vs vs':List V} {cs cs':List Value} {f f':List Nat},BL w F vs cs f->BL w F vs' cs' f'->BL w F (vs++vs') (cs++cs') (f++f')
 | _,_,_,_,_,_,.nil,k=>k
 | _,_,_,_,_,_,.cons v c f vs cs fs h t,k=>by
  rw [f8U];exact .cons v c f _ _ _ h (BL.app t k)
theorem e4V(h:u7 Γ F ι S a w){grp:Nat}(hg:grp<S.h.length)(hn:¬S.D grp){ob:Oper}{ty:Nat}{s x:Operand}(ho:ob.op=.call {callee:=.builtin .append,args := #[s,x],argTypes := #[ty,ty]}){out:B6}{lg:List (Nat×Nat)}(hp:b4r cx grp ty (t7 S.t s) (t7 S.t x) S.ent=some (out,lg))(hob:∀p∈out.obl,p):U4 cx.P Γ ι S grp ob out a w:=by
 have hs:=E1 h.tmps s;have hx:=E1 h.tmps x;unfold b4r at hp;cases hti:cx.T ty with
 | none=>rw [hti] at hp;cases hp
 | some ti=>
 rw [hti] at hp;simp only at hp;cases hsl:ti.sl with
 | none=>rw [hsl] at hp;cases hp
 | some e=>
 rw [hsl] at hp;simp only at hp;cases hei:cx.T e with
 | none=>rw [hei] at hp;cases hp
 | some ei=>
 rw [hei] at hp;simp only at hp;obtain ⟨i,d,z,htf⟩:=cx.tf hti;obtain ⟨i',d',z',hef⟩:=cx.tf hei;have hd:=htf.isSl hsl;generalize t7 S.t s=sv at hp hs;generalize t7 S.t x=xv at hp hx;cases xv<;>try (cases hp;done)
 rename_i g2 j2 sz2 lo2 m;cases lo2 with
 | succ q=>cases hp
 | zero=>
 simp only at hp;obtain ⟨e2,l1,l2,hrd2,hp',_⟩:=j8.bind_some hp;clear hp;have he2:=(j8.rd_some hrd2).1;simp only at he2;cases e2<;>try (cases hp';done)
 rename_i o2 t2 sz2' m' rows2;cases o2 with
 | true=>cases hp'
 | false=>
 simp only at hp';split at hp'<;>try (cases hp';done)
 rename_i hcond;obtain ⟨rfl,rfl,rfl,hc3,hc4,hc5,hc6⟩:=hcond;obtain ⟨flat2,fs2,hown2,hkl2,hlen2,hl2,hnd2,hnr2⟩:=h.ents g2 j2 _ he2;have hbl2:=hkl2.toBL (hnr2 rfl).flatB;have hin2:∀k∈E2 (ι g2 j2)++fs2,EB w (.deep false t2 ei.size m' rows2) (ι g2 j2) k:=fun k hk=>(EB.deep_iff hown2 hkl2).2 hk
 cases sv<;>try (cases hp';done)
 case nil=>
  have:=j8.pure_some hp';injection this with h3 h4;subst h3;obtain hcs:=hs.inv_nil;have hmm:m=m':=hob _ (by simp);subst hmm;have hb:m*ei.bytes<=140737488355328:=hob _ (by simp);obtain ⟨v',w',hr,hown,hgr,hat⟩:=d4V htf hd hef hc3 hc4 hc5 (World.ownsRow_nil w 0 t2 ei.size) hown2 hc6 hbl2.ones (by simpa using hb) ob.type;have hxc:=c7m hx hown2;have hrun:(execOp a.eval ob).run cx.P w=.ok (.value v') w':=by
   simp [execOp,ho,resolve,invoke,builtin,hcs,hxc,hr]
  have hkl:=h.killsR (ks:=[(g2,j2)]) (fun id hid=>by rw [f8H.1 hid];exact ⟨_,he2⟩);have hgk:grp<(S.upds (G5 [(g2,j2)])).h.length:=by rw [St.upds_len];exact hg
  have hnk:¬(S.upds (G5 [(g2,j2)])).D grp:=fun q=>hn ((a0r S grp _).1 q)
  simp only [f9I,f9y] at hown;obtain ⟨r1,r2⟩:=hkl.layDeep hgk hnk hgr (fun k q=>by cases q) hown hbl2 hlen2 hl2 (by
   intro k hk;rw [<-a9J hown] at hk;rcases hat with q|q
   ·rw [q] at hk;cases hk
   ·rw [q] at hk;injection hk with hk;exact .inr (by omega)) (by
   intro k hk;have hk1:=hin2 k (f8B.2 (.inr hk));obtain ⟨x1,x2⟩:=h.sep _ _ _ k he2 rfl hk1;refine ⟨x1,x2,?_,by intro q;cases q⟩;intro g' j' e' he' hl' hk';rcases b0u _ he' with ⟨_,rfl⟩|⟨hni,he3⟩
   ·cases hl'
   ·obtain ⟨y1,y2⟩:=h.inj _ _ _ _ _ _ k he3 he2 hl' rfl hk' hk1;exact hni (by rw [y1,y2];simp)) (f8L.1 hnd2).2.1
  exact ⟨_,_,_,F,N2 ι grp v',hrun,.inl rfl,r1.put ob.dst (.cell r2)⟩
 case own g j sz lo n=>
  cases lo with
  | succ q=>cases hp'
  | zero=>
  simp only at hp';obtain ⟨e1,l3,l4,hrd1,hp'',_⟩:=j8.bind_some hp';clear hp';have he1:=(j8.rd_some hrd1).1;simp only at he1;cases e1<;>try (cases hp'';done)
  rename_i o1 t1 sz1 n' rows;cases o1 with
  | true=>cases hp''
  | false=>
  simp only at hp'';split at hp''<;>try (cases hp'';done)
  rename_i hcond;obtain ⟨rfl,rfl,rfl,hnod⟩:=hcond;have:=j8.pure_some hp'';injection this with h3 h4;subst h3;have hnn:n=n':=hob _ (by simp);subst hnn;have hb:(n+m')*ei.bytes<=140737488355328:=hob _ (by simp);have hmm:m=m':=hob _ (by simp);subst hmm;obtain ⟨flat1,fs1,hown1,hkl1,hlen1,hl1,hnd1,hnr1⟩:=h.ents g j _ he1;have hbl1:=hkl1.toBL (hnr1 rfl).flatB;have hin1:∀k∈E2 (ι g j)++fs1,EB w (.deep false t1 ei.size n rows) (ι g j) k:=fun k hk=>(EB.deep_iff hown1 hkl1).2 hk
  have hne:¬(g=g2/\j=j2):=by
   have:=a5c hnod;rw [g0a] at this;intro q;exact this.1 (by rw [q.1,q.2];simp)
  obtain ⟨v',w',hr,hown,hgr,hat⟩:=d4V htf hd hef hc3 hc4 hc5 hown1 hown2 hc6 hbl2.ones hb ob.type;have hxc:=c7m hx hown2;have hsc:=c7m hs hown1;have hrun:(execOp a.eval ob).run cx.P w=.ok (.value v') w':=by
   simp [execOp,ho,resolve,invoke,builtin,hsc,hxc,hr]
  have hkl:=h.killsR (ks:=[(g,j),(g2,j2)]) (fun id hid=>by
   rcases f8J.1 hid with rfl|hid
   ·exact ⟨_,he1⟩
   ·rw [f8H.1 hid];exact ⟨_,he2⟩)
  have hgk:grp<(S.upds (G5 [(g,j),(g2,j2)])).h.length:=by rw [St.upds_len];exact hg
  have hnk:¬(S.upds (G5 [(g,j),(g2,j2)])).D grp:=fun q=>hn ((a0r S grp _).1 q)
  have hob1:∀k,(ι g j).ownBlock=some k->k∈E2 (ι g j):=fun k hk=>R3.2 (by rw [<-a9J hown1];exact hk)
  have free1:∀k∈E2 (ι g j)++fs1,∀g' j' e',(S.upds (G5 [(g,j),(g2,j2)])).ent g' j'=some e'->e'.live=true->¬EB w e' (ι g' j') k:=by
   intro k hk g' j' e' he' hl' hk';rcases b0u _ he' with ⟨_,rfl⟩|⟨hni,he3⟩
   ·cases hl'
   ·obtain ⟨y1,y2⟩:=h.inj _ _ _ _ _ _ k he3 he1 hl' rfl hk' (hin1 k hk);exact hni (by rw [y1,y2];simp)
  have free2:∀k∈E2 (ι g2 j2)++fs2,∀g' j' e',(S.upds (G5 [(g,j),(g2,j2)])).ent g' j'=some e'->e'.live=true->¬EB w e' (ι g' j') k:=by
   intro k hk g' j' e' he' hl' hk';rcases b0u _ he' with ⟨_,rfl⟩|⟨hni,he3⟩
   ·cases hl'
   ·obtain ⟨y1,y2⟩:=h.inj _ _ _ _ _ _ k he3 he2 hl' rfl hk' (hin2 k hk);exact hni (by rw [y1,y2];simp)
  have hdis:∀k,k∈E2 (ι g j)++fs1->k∈E2 (ι g2 j2)++fs2->False:=by
   intro k q1 q2;obtain ⟨y1,y2⟩:=h.inj _ _ _ _ _ _ k he1 he2 rfl rfl (hin1 k q1) (hin2 k q2);exact hne ⟨y1,y2⟩
  obtain ⟨r1,r2⟩:=hkl.layDeep hgk hnk hgr (fun k q=>by
   have hk:k∈E2 (ι g j)++fs1:=f8B.2 (.inl (hob1 k q));obtain ⟨x1,x2⟩:=h.sep _ _ _ k he1 rfl (hin1 k hk);exact ⟨x1,x2,free1 k hk⟩) (rows:=rows++rows2) hown (by rw [g0S];exact hbl1.app hbl2) (by rw [f8M,hlen1,hlen2]) (by
   intro r hr';rcases f8B.1 hr' with q|q
   ·exact hl1 r q
   ·exact hl2 r q) (by
   intro k hk;rw [<-a9J hown] at hk;rcases hat with q|q
   ·rw [q] at hk;exact .inl hk
   ·rw [q] at hk;injection hk with hk;exact .inr (by omega)) (by
   intro k hk;rcases f8B.1 hk with q|q
   ·have hk1:k∈E2 (ι g j)++fs1:=f8B.2 (.inr q);obtain ⟨x1,x2⟩:=h.sep _ _ _ k he1 rfl (hin1 k hk1);exact ⟨x1,x2,free1 k hk1,fun z=>(f8L.1 hnd1).2.2 k (hob1 k z) k q rfl⟩
   ·have hk2:k∈E2 (ι g2 j2)++fs2:=f8B.2 (.inr q);obtain ⟨x1,x2⟩:=h.sep _ _ _ k he2 rfl (hin2 k hk2);exact ⟨x1,x2,free2 k hk2,fun z=>hdis k (f8B.2 (.inl (hob1 k z))) hk2⟩) (by
   rw [f8L];exact ⟨(f8L.1 hnd1).2.1,(f8L.1 hnd2).2.1,fun k q k' q' z=>by
    subst z;exact hdis k (f8B.2 (.inr q)) (f8B.2 (.inr q'))⟩)
  exact ⟨_,_,_,F,N2 ι grp v',hrun,.inl rfl,r1.put ob.dst (.cell r2)⟩
end
structure L5 where
 a:O5:=.none
 d:Option Bool:=none
 v:Option V:=none
 e:Option s9:=none
def c5g(d:Option Bool)(o:B6):Option B6:=
 match d with
 | some d=>match o.v with
  | .b x=>some {o with v:=.b d,obl:=(x=d)::o.obl}
  | _=>none
 | none=>some o
def b8Y(v:Option V)(o:B6):Option B6:=
 match v with
 | some v=>some {o with v:=v,obl:=(o.v=v)::o.obl}
 | none=>some o
def b2n(e:s9):List ((Nat×Nat)×s9)->Option (List ((Nat×Nat)×s9)×Prop)
 | []=>none
 | [u]=>some ([(u.1,e)],u.2=e)
 | u::us=>match b2n e us with
  | some (us',p)=>some (u::us',p)
  | none=>none
def b9p(e:Option s9)(o:B6):Option B6:=
 match e with
 | some e=>match o.new with
  | some [e0]=>some {o with new:=some [e],obl:=(e0=e)::o.obl}
  | some _=>none
  | none=>match b2n e o.upd with
   | some (us,p)=>some {o with upd:=us,obl:=p::o.obl}
   | none=>none
 | none=>some o
def c36(T:L5)(o:B6):Option B6:=
 match b9p T.e o with
 | some o1=>match b8Y T.v o1 with
  | some o2=>c5g T.d o2
  | none=>none
 | none=>none
def opM(cx:Cx)(grp:Nat)(ob:Oper)(t:List V)(A:O5):j8 B6:=
 match ob.op with
 | .alloc e=>j8.lift (c1c cx grp e)
 | .box e x=>j8.lift (c3j cx grp e (t7 t x))
 | .buildSlice ty len parts=>match A with
  | .dck ck om=>b2r cx grp ty len (parts.toList.map fun (i,x)=>(i,t7 t x)) ck om
  | A=>b2R cx grp ty len (parts.toList.map fun (i,x)=>(i,t7 t x)) A
 | .makeSlice ty l c=>match A with
  | .dck ck om=>b42 cx grp ty (t7 t l) (t7 t c) ck om
  | A=>j8.lift (c5Y cx grp ty (t7 t l) (t7 t c) (f2t A))
 | .load ty x=>match A with
  | .drow r=>b1K cx grp ty (t7 t x) r
  | .prow r=>b2Z cx ty (t7 t x) r
  | .dtak r=>b5l cx grp ty (t7 t x) r
  | A=>b30 cx ty (t7 t x) A
 | .store ty x y=>match ob.dst with
  | none=>match A with
   | .dst r ck om=>b0E cx ty (t7 t x) (t7 t y) r ck om
   | .dsc r ck om=>b2U cx ty (t7 t x) (t7 t y) r ck om
   | A=>b2s cx ty (t7 t x) (t7 t y) A
  | some _=>j8.no
 | .makeMap ty none=>j8.lift (c57 cx grp ty)
 | .lookup ty x ix false=>b4q cx ty (t7 t x) (t7 t ix)
 | .mapUpdate ty x ix y=>match ob.dst with
  | none=>b4v cx ty (t7 t x) (t7 t ix) (t7 t y)
  | some _=>j8.no
 | .call c=>match c.callee,c.args.toList,c.argTypes.toList with
  | .builtin .append,[s,x],[ty,ty']=>if ty=ty' then (match A with
   | .dck _ _=>b4r cx grp ty (t7 t s) (t7 t x)
   | .part=>b0j true cx grp ty (t7 t s) (t7 t x)
   | _=>b0j false cx grp ty (t7 t s) (t7 t x)) else j8.no
  | .builtin .copy,[s,x],[ty,_]=>b4z cx ty (t7 t s) (t7 t x)
  | .value fop,args,_=>match t7 t fop with
   | .fn f=>b2F cx.P grp f (args.map (t7 t)) A
   | _=>j8.no
  | _,_,_=>j8.lift ((T6 cx ob.op t A).map fun q=>{v:=q.1,obl:=q.2})
 | _=>j8.lift ((T6 cx ob.op t A).map fun q=>{v:=q.1,obl:=q.2})
section
variable {cx:Cx} {Γ:P3} {F:Nat->Prop} {ι:Nat->Nat->Value} {S:St} {a:Act} {w:World}
def c1J(P:Program)(Γ:P3)(S':St)(ob:Oper)(a:Act)(w:World):Prop:=
 (∃nx c w' F' ι',(execOp a.eval ob).run P w=.ok nx w'/\(nx=.value c\/(nx=.skip/\c=undef))/\u7 Γ F' ι' S' (a.put ob.dst c) w')\/
 (∃f args,(execOp a.eval ob).run P w=.ok (.enter f args) w/\Calls P f args w fun e w' => ∃c F' ι',e=.returned c/\u7 Γ F' ι' S' (a.put ob.dst c) w')
theorem f4G(h:u7 Γ F ι S a w){grp:Nat}(hg:grp<S.h.length)(hn:¬S.D grp){ob:Oper}{A:O5}{out:B6}{lg:List (Nat×Nat)}(hp:opM cx grp ob S.t A S.ent=some (out,lg))(hob:∀p∈out.obl,p):c1J cx.P Γ (S.apply grp ob.dst out) ob a w:=by
 have pure:∀{op:Op} {out:B6} {lg},ob.op=op->j8.lift ((T6 cx op S.t A).map fun q=>({v:=q.1,obl:=q.2}:B6)) S.ent=some (out,lg)->(∀p∈out.obl,p)->c1J cx.P Γ (S.apply grp ob.dst out) ob a w:=by
  intro op out lg hop hp hob;subst hop;obtain ⟨h1,_⟩:=j8.lift_some hp;obtain ⟨q,hq,he⟩:=g0i.1 h1;simp only at he;subst he;obtain ⟨c,hr,hv⟩:=e90 h.tmps hq hob;exact .inl ⟨_,c,w,F,ι,hr,.inl rfl,by rw [a6B];exact h.put ob.dst hv⟩
 unfold opM at hp;cases ho:ob.op;case alloc e=>
  rw [ho] at hp;exact .inl (f6P h hg hn ho (j8.lift_some hp).1 hob)
 case box e x=>
  rw [ho] at hp;exact .inl (e8N h hg hn ho (j8.lift_some hp).1)
 case buildSlice ty len parts=>
  rw [ho] at hp;cases A;case dck ck om=>exact .inl (f05 h hg hn ho hp hob)
  all_goals exact .inl (e8a h hg hn ho hp hob)
 case makeSlice ty l c=>
  rw [ho] at hp;cases A;case dck ck om=>exact .inl (e7n h hg hn ho hp hob)
  all_goals exact .inl (e4N h hg hn ho (j8.lift_some hp).1 hob)
 case load ty x=>
  rw [ho] at hp;cases A;case drow r=>exact .inl (d8X h hg hn ho hp hob)
  case prow r=>exact .inl (f0j h ho hp hob)
  case dtak r=>exact .inl (f0D h hg hn ho hp hob)
  all_goals exact .inl (e8Z h ho hp hob)
 case store ty x y=>
  rw [ho] at hp;cases hd:ob.dst with
  | some d=>rw [hd] at hp;cases hp
  | none=>
   rw [hd] at hp;have:U4 cx.P Γ ι S grp ob out a w:=by
    cases A;case dst r ck om=>exact d6z h (grp:=grp) ho hd hp hob
    case dsc r ck om=>exact e6x h (grp:=grp) ho hd hp hob
    all_goals exact f6L h (grp:=grp) ho hd hp hob
   rw [<-hd];exact .inl this
 case makeMap ty r=>
  rw [ho] at hp;cases r with
  | none=>exact .inl (e4b h hg hn ho (j8.lift_some hp).1)
  | some r=>exact pure ho hp hob
 case lookup ty x ix ok=>
  rw [ho] at hp;cases ok with
  | false=>exact .inl (e4x h ho hp)
  | true=>exact pure ho hp hob
 case mapUpdate ty x ix y=>
  rw [ho] at hp;cases hd:ob.dst with
  | some d=>rw [hd] at hp;cases hp
  | none=>
   rw [hd] at hp;have:U4 cx.P Γ ι S grp ob out a w:=f6i h (grp:=grp) ho hd hp;rw [<-hd];exact .inl this
 case call c=>
  rw [ho] at hp;obtain ⟨callee,args,tys⟩:=c;simp only at hp;cases callee with
  | invoke x m=>exact pure ho hp hob
  | value fop=>
   simp only at hp;generalize hfe:t7 S.t fop=fv at hp;cases fv<;>try (cases hp;done)
   rename_i f;obtain ⟨h1,h2⟩:=f0K h hg hn ho hfe hp hob;exact .inr ⟨f,_,h1,h2⟩
  | builtin b=>
   cases b;case append=>
    generalize hargs:args.toList=al at hp;generalize htys:tys.toList=tl at hp;rcases al with _|⟨s,_|⟨x,_|⟨y,al⟩⟩⟩<;>rcases tl with _|⟨ty,_|⟨ty',_|⟨ty3,tl⟩⟩⟩<;>try exact pure ho hp hob
    have ha:args = #[s,x]:=by simpa using congrArg g0G hargs
    have hy:tys = #[ty,ty']:=by simpa using congrArg g0G htys
    subst ha;subst hy;simp only at hp;by_cases q:ty=ty'
    ·subst q;rw [if_pos rfl] at hp;cases A;case dck ck om=>exact .inl (e4V h hg hn ho hp hob)
     all_goals exact .inl (e0q (rt:=0) h hg hn ho hp hob)
    ·rw [if_neg q] at hp;cases hp
   case copy=>
    generalize hargs:args.toList=al at hp;generalize htys:tys.toList=tl at hp;rcases al with _|⟨s,_|⟨x,_|⟨y,al⟩⟩⟩<;>rcases tl with _|⟨ty,_|⟨ty',_|⟨ty3,tl⟩⟩⟩<;>try exact pure ho hp hob
    have ha:args = #[s,x]:=by simpa using congrArg g0G hargs
    have hy:tys = #[ty,ty']:=by simpa using congrArg g0G htys
    subst ha;subst hy;exact .inl (e4K h ho hp hob)
   all_goals exact pure ho hp hob
 all_goals
  rw [ho] at hp;exact pure ho hp hob
theorem d5p{e:s9}:∀{us us':List ((Nat×Nat)×s9)} {p:Prop},b2n e us=some (us',p)->p->us'=us
 | [],_,_,h,_=>by cases h
 | [u],us',p,h,hp=>by
  unfold b2n at h;injection h with h;injection h with h1 h2;subst h1;subst h2;have:u.2=e:=hp;subst this;rfl
 | u::u2::us,us',p,h,hp=>by
  unfold b2n at h;split at h<;>try (cases h;done)
  rename_i us1 p1 h1;injection h with h;injection h with h2 h3;subst h2;subst h3;rw [d5p h1 hp]
theorem e7x{d:Option Bool}{o o':B6}(hd:c5g d o=some o')(hob:∀p∈o'.obl,p):(∀p∈o.obl,p)/\o'.new=o.new/\o'.upd=o.upd/\o'.v=o.v:=by
 unfold c5g at hd;split at hd
 ·split at hd<;>try (cases hd;done)
  rename_i d _ x hv;injection hd with hd;subst hd;have hx:x=d:=hob _ (by simp);exact ⟨fun p hp=>hob p (by simp [hp]),rfl,rfl,by simp [hv,hx]⟩
 ·injection hd with hd;subst hd;exact ⟨hob,rfl,rfl,rfl⟩
theorem f3N{v:Option V}{o o':B6}(hd:b8Y v o=some o')(hob:∀p∈o'.obl,p):(∀p∈o.obl,p)/\o'.new=o.new/\o'.upd=o.upd/\o'.v=o.v:=by
 unfold b8Y at hd;split at hd
 ·rename_i v;injection hd with hd;subst hd;have hx:o.v=v:=hob _ (by simp);exact ⟨fun p hp=>hob p (by simp [hp]),rfl,rfl,hx.symm⟩
 ·injection hd with hd;subst hd;exact ⟨hob,rfl,rfl,rfl⟩
theorem e2H{e:Option s9}{o o':B6}(hd:b9p e o=some o')(hob:∀p∈o'.obl,p):(∀p∈o.obl,p)/\o'.new=o.new/\o'.upd=o.upd/\o'.v=o.v:=by
 unfold b9p at hd;split at hd
 ·rename_i e;split at hd
  ·rename_i e0 hn;injection hd with hd;subst hd;have hx:e0=e:=hob _ (by simp);exact ⟨fun p hp=>hob p (by simp [hp]),by rw [hn,hx],rfl,rfl⟩
  ·cases hd
  ·split at hd<;>try (cases hd;done)
   rename_i us p h1;injection hd with hd;subst hd;have hx:p:=hob _ (by simp);exact ⟨fun p hp=>hob p (by simp [hp]),rfl,d5p h1 hx,rfl⟩
 ·injection hd with hd;subst hd;exact ⟨hob,rfl,rfl,rfl⟩
theorem f3H{T:L5}{o o':B6}(hd:c36 T o=some o')(hob:∀p∈o'.obl,p):(∀p∈o.obl,p)/\o'.new=o.new/\o'.upd=o.upd/\o'.v=o.v:=by
 unfold c36 at hd;cases h1:b9p T.e o with
 | none=>rw [h1] at hd;cases hd
 | some o1=>
 rw [h1] at hd;simp only at hd;cases h2:b8Y T.v o1 with
 | none=>rw [h2] at hd;cases hd
 | some o2=>
 rw [h2] at hd;obtain ⟨a1,a2,a3,a4⟩:=e7x hd hob;obtain ⟨b1,b2,b3,b4⟩:=f3N h2 a1;obtain ⟨c1,c2,c3,c4⟩:=e2H h1 b1;exact ⟨c1,a2.trans (b2.trans c2),a3.trans (b3.trans c3),a4.trans (b4.trans c4)⟩
def b0J(cx:Cx)(grp:Nat)(ob:Oper)(t:List V)(A:L5):j8 B6:=j8.bind (opM cx grp ob t A.a) fun o=>j8.lift (c36 A o)
theorem f6h{S:St}{grp:Nat}{dst:Option Nat}{o o':B6}(h1:o'.new=o.new)(h2:o'.upd=o.upd)(h3:o'.v=o.v):S.apply grp dst o'=S.apply grp dst o:=by
 unfold St.apply;rw [h1,h2,h3]
theorem e4I(h:u7 Γ F ι S a w){grp:Nat}(hg:grp<S.h.length)(hn:¬S.D grp){ob:Oper}{A:L5}{out:B6}{lg:List (Nat×Nat)}(hp:b0J cx grp ob S.t A S.ent=some (out,lg))(hob:∀p∈out.obl,p):c1J cx.P Γ (S.apply grp ob.dst out) ob a w:=by
 obtain ⟨o,l1,l2,h1,h2,_⟩:=j8.bind_some hp;obtain ⟨h3,_⟩:=j8.lift_some h2;simp only at h3;obtain ⟨h4,h5,h6,h7⟩:=f3H h3 hob;rw [f6h h5 h6 h7];exact f4G h hg hn h1 h4
def a6r(ops:Array Oper)(o:Oper)(t:List V):Option Bool:=
 match o.guard with
 | none=>some true
 | some (j,want)=>match (ops[j]?).bind (·.dst) with
  | some d=>match t[d]? with
   | some (.b x)=>some (x==want)
   | some (.tup [])=>some false
   | _=>none
  | none=>none
theorem c8X{ops:Array Oper}{o:Oper}{b:Bool}{D:Nat->Prop}{t:List V}(ht:x9 (RV w F D ι) t a.tmps.toList)(h:a6r ops o t=some b):Region.wanted o (yielded ops a.tmps)=b:=by
 unfold a6r at h;unfold Region.wanted;split at h
 ·rename_i hg;rw [hg];injection h
 ·rename_i j want hg;rw [hg];simp only;cases hd:(ops[j]?).bind (·.dst) with
  | none=>rw [hd] at h;cases h
  | some d=>
   rw [hd] at h;simp only at h;split at h<;>try (cases h;done)
   rename_i x hx;injection h with h;obtain ⟨c,hc,hv⟩:=ht.get hx;obtain rfl:=hv.inv_b;have:yielded ops a.tmps j=some x:=by
    unfold yielded;simp only [hd];rw [Array.getElem?_toList] at hc;simp [hc]
   rw [this,<-h];cases x<;>cases want<;>rfl
   ·rename_i hx;injection h with h;obtain ⟨c,hc,hv⟩:=ht.get hx;have hcc:c=undef:=by
     cases hv with
     | one v c hv=>cases hv with|cell v c hv=>cases hv with|fv v c hv=>cases hv
     | tup cs ds hv=>cases hv;rfl
    subst hcc;have:yielded ops a.tmps j=none:=by
     unfold yielded;simp only [hd];rw [Array.getElem?_toList] at hc;simp [hc,undef]
    rw [this,<-h];rfl
end
structure Z4 where
 rd:List (Nat×Nat)
 wr:List (Nat×Nat)
def Z8(cx:Cx)(ops:Array Oper)(base:Nat)(A:Nat->L5)(i:Nat)(S:St):Option (St×List Prop×Z4):=
 match ops[i]? with
 | none=>none
 | some o=>match a6r ops o S.t with
  | some true=>match b0J cx (base+i) o S.t (A i) S.ent with
   | some (out,lg)=>some (S.apply (base+i) o.dst out,out.obl,⟨lg,out.upd.map (·.1)⟩)
   | none=>none
  | some false=>some ({S with t:=U0 S.t o.dst (.tup [])},[],⟨[],[]⟩)
  | none=>none
section
variable {cx:Cx} {Γ:P3} {F:Nat->Prop} {ι:Nat->Nat->Value} {S S':St} {a:Act} {w:World} {ops:Array Oper} {base:Nat} {A:Nat->L5}
theorem e2m{grp:Nat}{dst:Option Nat}{out:B6}{g:Nat}(h:(S.apply grp dst out).D g):S.D g\/g=grp:=by
 unfold St.apply at h;simp only at h;split at h
 ·exact .inl ((a0r S g _).1 h)
 ·rename_i new hnew;by_cases q:g=grp
  ·exact .inr q
  ·left
   obtain ⟨l,hl⟩:=h;simp only [St.lay,f8V (Ne.symm q)] at hl;exact (a0r S g _).1 ⟨l,hl⟩
theorem f7X{grp:Nat}{dst:Option Nat}{out:B6}:(S.apply grp dst out).h.length=S.h.length:=by
 unfold St.apply;simp only;split
 ·exact St.upds_len S _
 ·simp [St.lay,St.upds_len]
theorem d6Z{i:Nat}{ps:List Prop}{ft:Z4}(h:Z8 cx ops base A i S=some (S',ps,ft)):(∀g,S'.D g->S.D g\/g=base+i)/\S'.h.length=S.h.length:=by
 unfold Z8 at h;split at h<;>try (cases h;done)
 split at h<;>try (cases h;done)
 ·split at h<;>try (cases h;done)
  injection h with h;injection h with h1 h2;subst h1;exact ⟨fun g x=>e2m x,f7X⟩
 ·injection h with h;injection h with h1 h2;subst h1;exact ⟨fun g x=>.inl x,rfl⟩
theorem c8C{Q:Exit->Act->World->Prop}{K:Act->World->Prop}{i:Nat}{ps:List Prop}{ft:Z4}(h:u7 Γ F ι S a w)(hg:base+i<S.h.length)(hn:¬S.D (base+i))(hs:Z8 cx ops base A i S=some (S',ps,ft))(hob:∀p∈ps,p)(hK:∀a' w' F' ι',u7 Γ F' ι' S' a' w'->K a' w'):wpOp cx.P ops Q i K a w:=by
 unfold Z8 at hs;unfold wpOp;split at hs<;>try (cases hs;done)
 rename_i o ho;rw [ho];simp only;split at hs<;>try (cases hs;done)
 ·rename_i hw;have hwant:=c8X h.tmps hw;rw [hwant];simp only [if_true];split at hs<;>try (cases hs;done)
  rename_i out lg hop;injection hs with hs;injection hs with h1 h2;injection h2 with h2 h3;subst h1;subst h2;left
  unfold Oper.wp;rcases e4I h hg hn hop hob with ⟨nx,c,w',F',ι',hr,hnx,hrel⟩|⟨f,args,hr,hcalls⟩
  ·rw [hr];rcases hnx with rfl|⟨rfl,rfl⟩
   ·exact hK _ _ _ _ hrel
   ·exact hK _ _ _ _ hrel
  ·rw [hr];refine hcalls.mono ?_;rintro e w' ⟨c,F',ι',rfl,hrel⟩
   exact hK _ _ _ _ hrel
 ·rename_i hw;have hwant:=c8X h.tmps hw;rw [hwant];simp only [f9W,if_false];injection hs with hs;injection hs with h1 h2;subst h1;exact hK _ _ _ _ (h.put o.dst (.tup [] [] .nil))
def a08(cx:Cx)(ops:Array Oper)(base:Nat)(A:Nat->L5):List Nat->St->Option (St×List (List Prop×Z4))
 | [],S=>some (S,[])
 | i::l,S=>match Z8 cx ops base A i S with
  | some (S1,r)=>match a08 cx ops base A l S1 with
   | some (S2,rs)=>some (S2,r::rs)
   | none=>none
  | none=>none
theorem b4G{i:Nat}{l:List Nat}{rs:List (List Prop×Z4)}(h:a08 cx ops base A (i::l) S=some (S',rs)):∃S1 r rs',Z8 cx ops base A i S=some (S1,r)/\a08 cx ops base A l S1=some (S',rs')/\rs=r::rs':=by
 unfold a08 at h;split at h<;>try (cases h;done)
 rename_i S1 r h1;split at h<;>try (cases h;done)
 rename_i S2 rs' h2;injection h with h;injection h with h3 h4;subst h3;subst h4;exact ⟨S1,r,rs',h1,h2,rfl⟩
theorem d7s{Q:Exit->Act->World->Prop}:∀{l:List Nat} {S:St} {F:Nat->Prop} {ι:Nat->Nat->Value} {a:Act} {w:World} {rs:List (List Prop×Z4)},u7 Γ F ι S a w->l.Nodup->(∀i∈l,base+i<S.h.length/\¬S.D (base+i))->a08 cx ops base A l S=some (S',rs)->(∀r∈rs,∀p∈r.1,p)->
  (∀a' w' F' ι',u7 Γ F' ι' S' a' w'->Q .normal a' w')->wpOps cx.P ops Q l a w
 | [],S,F,ι,a,w,rs,h,_,_,hr,_,hQ=>by
  unfold a08 at hr;injection hr with hr;injection hr with h1 h2;subst h1;exact hQ _ _ _ _ h
 | i::l,S,F,ι,a,w,rs,h,hn,hfree,hr,hob,hQ=>by
  obtain ⟨S1,r,rs',h1,h2,rfl⟩:=b4G hr;rw [wpOps_cons];have hn':=g0a.1 hn;obtain ⟨hD,hl⟩:=d6Z (ps:=r.1) (ft:=r.2) h1;refine c8C h (hfree i (by simp)).1 (hfree i (by simp)).2 (ps:=r.1) (ft:=r.2) h1 (hob r (by simp)) fun a' w' F' ι' hrel => ?_
  refine d7s hrel hn'.2 (fun j hj => ?_) h2 (fun r' hr'=>hob r' (by simp [hr'])) hQ;refine ⟨by rw [hl];exact (hfree j (by simp [hj])).1,fun x => ?_⟩;rcases hD _ x with y|y
  ·exact (hfree j (by simp [hj])).2 y
  ·have:i=j:=by omega
   exact hn'.1 (this▸hj)
end
def z6{α:Type}(m:j8 α):Prop := ∀(H H':Hp) r lg,m H=some (r,lg)->(∀id∈lg,H' id.1 id.2=H id.1 id.2)->m H'=some (r,lg)
namespace z6
variable {α β:Type}
theorem pure(a:α):z6 (j8.pure a):=fun _ _ _ _ h _=>h
theorem no:z6 (j8.no:j8 α):=fun _ _ _ _ h _=>h
theorem lift(o:Option α):z6 (j8.lift o):=by
 intro H H' r lg h _;unfold j8.lift at h ⊢;exact h
theorem rd(g j:Nat):z6 (j8.rd g j):=by
 intro H H' r lg h hH;obtain ⟨h1,h2⟩:=j8.rd_some h;simp only at h1 h2;subst h2;have:=hH (g,j) (by simp);unfold j8.rd;simp only at this;rw [this,h1]
theorem bind{m:j8 α}{f:α->j8 β}(hm:z6 m)(hf:∀a,z6 (f a)):z6 (j8.bind m f):=by
 intro H H' r lg h hH;obtain ⟨a,l,l',h1,h2,h3⟩:=j8.bind_some h;simp only at h2 h3;subst h3;unfold j8.bind;rw [hm H H' a l h1 (fun id hid=>hH id (f8B.2 (.inl hid)))];simp only;rw [hf a H H' r l' h2 (fun id hid=>hH id (f8B.2 (.inr hid)))]
theorem ite{c:Prop}[Decidable c]{m n:j8 α}(hm:z6 m)(hn:z6 n):z6 (if c then m else n):=by
 split<;>assumption
end z6
theorem f6O(ck:Option Nat)(v:V):z6 (fzP ck v):=by
 unfold fzP;cases v<;>try exact z6.no
 case own g j sz lo n=>
  refine .bind (.rd g j) fun e => ?_
  cases e<;>first|exact z6.no|exact .ite (.pure _) .no
 case nil=>cases ck<;>exact .pure _
 all_goals exact .pure _
theorem c1B:∀(vs:List V) (ck:List (Option Nat)),z6 (b2D ck vs)
 | [],ck=>by cases ck<;>exact .pure _
 | v::vs,ck=>.bind (f6O _ _) fun x=>.bind (c1B vs _) fun y=>.pure _
theorem e7A(cx:Cx)(ty:Nat)(x:V)(A:O5):z6 (b30 cx ty x A):=by
 unfold b30;cases cx.T ty with
 | none=>exact .no
 | some ti=>
  cases x<;>try exact z6.no
  case ptr g j off=>
   refine .bind (.rd g j) fun e => ?_
   cases e<;>try exact z6.no
   case var e cs=>simp only;cases S5 ti (cs.drop off)<;>first|exact .no|exact .pure _
   case arr e sz n rows=>exact .ite (.pure _) .no
  case eptr g j sz idx off=>
   refine .bind (.rd g j) fun e => ?_
   cases A<;>try exact z6.no
   case row r=>
    simp only;cases S5 ti (r.drop off) with
    | none=>exact .no
    | some v=>cases e<;>first|exact z6.no|exact .ite (.pure _) .no
  case fptr cs=>simp only;cases S5 ti cs<;>first|exact .no|exact .pure _
theorem d9Z(cx:Cx)(ty:Nat)(x y:V)(A:O5):z6 (b2s cx ty x y A):=by
 unfold b2s;cases cx.T ty with
 | none=>exact .no
 | some ti=>
  cases y.cells with
  | none=>exact .no
  | some vs=>
   cases x<;>try exact z6.no
   case ptr g j off=>
    refine .bind (.rd g j) fun e => ?_
    cases e<;>first|exact z6.no|exact .ite (.pure _) .no
   case eptr g j sz idx off=>
    refine .bind (.rd g j) fun e => ?_
    cases A<;>try exact z6.no
    case rowck r ck=>
     refine .bind (c1B _ _) fun f => ?_
     cases e<;>first|exact z6.no|exact .ite (.pure _) .no
theorem d3t(pt:Bool)(x:V):z6 (b0y pt x):=by
 unfold b0y;cases x<;>try first|exact z6.no|exact z6.pure _
 case own g j sz lo n=>
  refine .bind (.rd g j) fun e => ?_
  cases e<;>first|exact z6.no|exact .ite (.pure _) .no
theorem e5b(pt:Bool)(cx:Cx)(grp ty:Nat)(s x:V):z6 (b0j pt cx grp ty s x):=by
 unfold b0j;cases cx.T ty with
 | none=>exact .no
 | some ti=>
  simp only;cases ti.sl with
  | none=>exact .no
  | some e=>
   simp only;cases cx.T e with
   | none=>exact .no
   | some ei=>
    refine .bind (d3t _ x) fun q=>.ite ?_ .no
    cases s<;>try first|exact z6.no|exact z6.pure _
    case own g j sz lo n=>
     cases lo with
     | succ k=>exact .no
     | zero=>
      refine .bind (.rd g j) fun e => ?_
      cases e<;>first|exact z6.no|exact .ite (.pure _) .no
theorem e8c(cx:Cx)(ty:Nat)(s x:V):z6 (b4z cx ty s x):=by
 unfold b4z;cases cx.T ty with
 | none=>exact .no
 | some ti=>
  simp only;cases ti.sl with
  | none=>exact .no
  | some e=>
   simp only;cases cx.T e with
   | none=>exact .no
   | some ei=>
    refine .bind (d3t _ x) fun q => ?_
    cases s<;>try exact z6.no
    case own g j sz lo n=>
     cases lo with
     | succ k=>exact .no
     | zero=>
      refine .bind (.rd g j) fun e => ?_
      cases e<;>first|exact z6.no|exact .ite (.pure _) .no
theorem d8j(ck:List (Option Nat)):∀ps:List (Nat×V),z6 (b0W ck ps)
 | []=>.pure _
 | (i,v)::ps=>by
  unfold b0W;cases v.cells with
  | none=>exact .no
  | some cs=>exact .bind (c1B _ _) fun x=>.bind (d8j ck ps) fun y=>.pure _
theorem e7c(cx:Cx)(grp ty len:Nat)(parts:List (Nat×V))(A:O5):z6 (b2R cx grp ty len parts A):=by
 unfold b2R;cases cx.T ty with
 | none=>exact .no
 | some ti=>
  simp only;cases ti.sl with
  | none=>exact .no
  | some e=>
   simp only;cases cx.T e with
   | none=>exact .no
   | some ei=>
    cases A<;>try exact z6.no
    case ck ck=>
     refine .bind (d8j _ _) fun q => ?_
     cases a69 ei.size (f8A len ei.zero) q.1 with
     | none=>exact .no
     | some rows=>exact .ite (.pure _) .no
theorem d6T(ck om:Option Nat)(v:V):z6 (T8 ck om v):=by
 unfold T8;cases om with
 | some e=>
  refine .ite (.pure _) ?_;cases v<;>try first|exact z6.no|exact z6.pure _
  case own g j sz lo n=>
   cases lo with
   | succ k=>exact .no
   | zero=>
    refine .bind (.rd g j) fun e => ?_
    cases e<;>first|exact z6.no|exact .ite (.pure _) .no|(rename_i o _ _ _ _;cases o<;>first|exact z6.no|exact .ite (.pure _) .no)
 | none=>
  cases v<;>try first|exact z6.no|exact z6.pure _
  case own g j sz lo n=>
   refine .bind (.rd g j) fun e => ?_
   cases e<;>first|exact z6.no|exact .ite (.pure _) .no|(rename_i o _ _ _ _;cases o<;>first|exact z6.no|exact .ite (.pure _) .no)
  case nil=>cases ck<;>exact .pure _
theorem b1z:∀(vs:List V) (ck om:List (Option Nat)),z6 (a19 ck om vs)
 | [],ck,om=>by cases ck<;>cases om<;>exact .pure _
 | v::vs,ck,om=>.bind (d6T _ _ _) fun x=>.bind (b1z vs _ _) fun y=>.pure _
theorem f5t(m:PM)(v:V):z6 (a1q m v):=by
 unfold a1q;cases m with
 | val ck om=>
  cases v<;>try first|exact z6.no|exact d6T _ _ _
  case agg cs=>exact .bind (b1z _ _ _) fun x=>.pure _
 | ptr ck om=>
  cases v<;>try exact z6.no
  case ptr g j off=>
   cases off with
   | succ k=>exact .no
   | zero=>
    refine .bind (.rd g j) fun e => ?_
    cases e<;>try exact z6.no
    case var e cs=>exact .bind (b1z _ _ _) fun x=>.pure _
 | row=>
  cases v<;>try exact z6.no
  case own g j sz lo n=>
   cases lo with
   | succ k=>exact .no
   | zero=>
    refine .bind (.rd g j) fun e => ?_
    cases e<;>first|exact z6.no|exact .ite (.pure _) .no|(rename_i o _ _ _ _;cases o<;>first|exact z6.no|exact .ite (.pure _) .no)
 | part=>
  cases v<;>try exact z6.no
  case own g j sz lo n=>
   refine .bind (.rd g j) fun e => ?_
   cases e<;>first|exact z6.no|exact .ite (.pure _) .no|(rename_i o _ _ _ _;cases o<;>first|exact z6.no|exact .ite (.pure _) .no)
theorem d5N:∀(vs:List V) (ms:List PM),z6 (a1R ms vs)
 | [],ms=>by cases ms<;>exact .pure _
 | v::vs,[]=>.no
 | v::vs,m::ms=>.bind (f5t m v) fun x=>.bind (d5N vs ms) fun y=>.pure _
theorem c4q:∀ids:List (Nat×Nat),z6 (a4P ids)
 | []=>.pure _
 | (g,j)::ids=>by
  unfold a4P;refine .bind (.rd g j) fun e => ?_
  cases e<;>try exact z6.no
  case row t sz n rows=>exact .bind (c4q ids) fun us=>.pure _
  case deep o t sz n rows=>
   cases o
   ·exact .bind (c4q ids) fun us=>.pure _
   ·exact .no
theorem c9T(grp:Nat)(args:List V)(ms:List PM)(fr:Bool)(res:V)(outs:List (Option V))(p:List V->Prop):z6 (a8A grp args ms fr res outs p):=by
 unfold a8A;refine .bind (d5N _ _) fun r=>.bind (c4q _) fun fz => ?_
 simp only;cases S0 grp (I7 grp 0 res).2.length ms args outs with
 | none=>exact .no
 | some ue=>exact .ite (.pure _) .no
theorem f6v(P:Program)(grp f:Nat)(args:List V)(A:O5):z6 (b2F P grp f args A):=by
 unfold b2F;cases A<;>try exact z6.no
 case call ms fr res outs=>exact c9T _ _ _ _ _ _ _
 case callr k q ms fr res outs=>
  simp only;split
  ·split
   ·exact .bind (c9T _ _ _ _ _ _ _) fun o=>.pure _
   ·exact .no
  ·exact .no
theorem d2z(cx:Cx)(ty:Nat)(x y:V)(r:List V)(ck om:List (Option Nat)):z6 (b0E cx ty x y r ck om):=by
 unfold b0E;cases cx.T ty with
 | none=>exact .no
 | some ti=>
  cases y.cells with
  | none=>exact .no
  | some vs=>
   cases x<;>try exact z6.no
   case eptr g j sz idx off=>
    refine .bind (.rd g j) fun e=>.bind (b1z _ _ _) fun f => ?_
    cases e<;>try exact z6.no
    exact .ite (.pure _) .no
theorem e2f(cx:Cx)(grp ty:Nat)(x:V)(r:List V):z6 (b1K cx grp ty x r):=by
 unfold b1K;cases cx.T ty with
 | none=>exact .no
 | some ti=>
  cases x<;>try exact z6.no
  case eptr g j sz idx off=>
   refine .bind (.rd g j) fun e => ?_
   cases e<;>try exact z6.no
   simp only;refine .ite ?_ .no;cases S5 ti (L7 grp 0 ((r.drop off).take (if ti.agg=true then ti.size else 1))).1 with
   | none=>exact .no
   | some v=>exact .pure _
theorem e4J(cx:Cx)(grp ty:Nat)(x:V)(r:List V):z6 (b5l cx grp ty x r):=by
 unfold b5l;cases cx.T ty with
 | none=>exact .no
 | some ti=>
  cases x<;>try exact z6.no
  case eptr g j sz idx off=>
   refine .bind (.rd g j) fun e => ?_
   cases e<;>try exact z6.no
   simp only;refine .ite ?_ .no;cases S5 ti (L7 grp 0 ((r.drop off).take (if ti.agg=true then ti.size else 1))).1 with
   | none=>exact .no
   | some v=>exact .pure _
theorem e2Z(cx:Cx)(ty:Nat)(x y:V)(r:List V)(ck om:List (Option Nat)):z6 (b2U cx ty x y r ck om):=by
 unfold b2U;refine .bind (d2z _ _ _ _ _ _ _) fun o => ?_
 split
 ·exact .bind (.rd _ _) fun _=>.pure _
 ·exact .no
theorem e0p(cx:Cx)(ty:Nat)(x:V)(r:List V):z6 (b2Z cx ty x r):=by
 unfold b2Z;cases cx.T ty with
 | none=>exact .no
 | some ti=>
  cases x<;>try exact z6.no
  case eptr g j sz idx off=>
   refine .bind (.rd g j) fun e => ?_
   cases e<;>try exact z6.no
   simp only;refine .ite ?_ .no;cases S5 ti ((r.drop off).take (if ti.agg=true then ti.size else 1)) with
   | none=>exact .no
   | some v=>exact .pure _
theorem e2x(cx:Cx)(grp ty:Nat)(l c:V)(ck om:List (Option Nat)):z6 (b42 cx grp ty l c ck om):=by
 unfold b42;cases cx.T ty with
 | none=>exact .no
 | some ti=>
  simp only;cases ti.sl with
  | none=>exact .no
  | some e=>
   simp only;cases cx.T e with
   | none=>exact .no
   | some ei=>
    cases l<;>try exact z6.no
    cases c<;>try exact z6.no
    exact .bind (b1z _ _ _) fun f=>.ite (.pure _) .no
theorem f1q(cx:Cx)(grp ty len:Nat)(parts:List (Nat×V))(ck om:List (Option Nat)):z6 (b2r cx grp ty len parts ck om):=by
 unfold b2r;cases cx.T ty with
 | none=>exact .no
 | some ti=>
  simp only;cases ti.sl with
  | none=>exact .no
  | some e=>
   simp only;cases cx.T e with
   | none=>exact .no
   | some ei=>
    simp only;split
    ·split
     ·exact .bind (b1z _ _ _) fun f=>.ite (.pure _) .no
     ·exact .no
    ·exact .ite (.pure _) .no
    ·exact .no
theorem d9l(cx:Cx)(grp ty:Nat)(s x:V):z6 (b4r cx grp ty s x):=by
 unfold b4r;cases cx.T ty with
 | none=>exact .no
 | some ti=>
  simp only;cases ti.sl with
  | none=>exact .no
  | some e=>
   simp only;cases cx.T e with
   | none=>exact .no
   | some ei=>
    simp only;split
    ·refine .bind (.rd _ _) fun e2 => ?_
     split
     ·refine .ite ?_ .no;split
      ·exact .pure _
      ·refine .bind (.rd _ _) fun e1 => ?_
       split
       ·exact .ite (.pure _) .no
       ·exact .no
      ·exact .no
     ·exact .no
    ·exact .no
theorem f2c(cx:Cx)(ty:Nat)(x ix:V):z6 (b4q cx ty x ix):=by
 unfold b4q;cases cx.M ty with
 | none=>exact .no
 | some q=>
  obtain ⟨kt,m,z⟩:=q;cases x<;>try exact z6.no
  cases ix<;>try exact z6.no
  rename_i g j ks;simp only;cases a2l ks with
  | none=>exact .no
  | some xs=>
   refine .bind (.rd g j) fun e => ?_
   cases e<;>try exact z6.no
   exact .ite (.pure _) .no
theorem f1C(cx:Cx)(ty:Nat)(x ix y:V):z6 (b4v cx ty x ix y):=by
 unfold b4v;cases cx.M ty with
 | none=>exact .no
 | some q=>
  obtain ⟨kt,m,z⟩:=q;cases x<;>try exact z6.no
  cases ix<;>try exact z6.no
  rename_i g j ks;simp only;cases a2l ks with
  | none=>exact .no
  | some xs=>
   refine .bind (.rd g j) fun e => ?_
   cases e<;>try exact z6.no
   exact .ite (.pure _) .no
theorem f5q(cx:Cx)(grp:Nat)(ob:Oper)(t:List V)(A:O5):z6 (opM cx grp ob t A):=by
 unfold opM;cases ob.op<;>try exact z6.lift _
 case buildSlice ty len parts=>cases A<;>first|exact f1q _ _ _ _ _ _ _|exact e7c _ _ _ _ _ _
 case makeSlice ty l c=>cases A<;>first|exact e2x _ _ _ _ _ _ _|exact z6.lift _
 case load ty x=>cases A<;>first|exact e2f _ _ _ _ _|exact e4J _ _ _ _ _|exact e0p _ _ _ _|exact e7A _ _ _ _
 case store ty x y=>
  cases ob.dst
  ·cases A<;>first|exact d2z _ _ _ _ _ _ _|exact e2Z _ _ _ _ _ _ _|exact d9Z _ _ _ _ _
  ·exact .no
 case makeMap ty r=>cases r<;>exact z6.lift _
 case lookup ty x ix ok=>cases ok<;>first|exact f2c _ _ _ _|exact z6.lift _
 case mapUpdate ty x ix y=>
  cases ob.dst
  ·exact f1C _ _ _ _ _
  ·exact .no
 case call c=>
  obtain ⟨callee,args,tys⟩:=c;simp only;split
  ·refine .ite ?_ .no;cases A<;>first|exact d9l _ _ _ _ _|exact e5b _ _ _ _ _ _
  ·exact e8c _ _ _ _
  ·cases t7 t _<;>first|exact f6v _ _ _ _ _|exact z6.no
  ·exact .lift _
theorem f6U(cx:Cx)(grp:Nat)(ob:Oper)(t:List V)(A:L5):z6 (b0J cx grp ob t A):=.bind (f5q _ _ _ _ _) fun o=>.lift _
theorem c8j{t t':List V}:∀{xs:List Operand},(∀x∈xs,t7 t' x=t7 t x)->xs.map (t7 t')=xs.map (t7 t)
 | [],_=>rfl
 | x::xs,h=>by simp only [f9l];rw [h x (by simp),c8j fun y hy=>h y (by simp [hy])]
theorem c4i{t t':List V}:∀{ps:List (Nat×Operand)},(∀x∈ps.map (·.2),t7 t' x=t7 t x)->(ps.map fun (i,x)=>(i,t7 t' x))=(ps.map fun (i,x)=>(i,t7 t x))
 | [],_=>rfl
 | p::ps,h=>by
  simp only [f9l];rw [h p.2 (by simp),c4i fun y hy=>h y (by simp [hy])]
theorem d11{t t':List V}{o:Option Operand}(h:∀x∈o.toList,t7 t' x=t7 t x):o.map (t7 t')=o.map (t7 t):=by
 cases o with
 | none=>rfl
 | some x=>simp only [f9U];rw [h x (by simp)]
theorem f2l{cx:Cx}{op:Op}{t t':List V}{A:O5}(h:∀x∈op.operands.toList,t7 t' x=t7 t x):T6 cx op t' A=T6 cx op t A:=by
 cases op<;>try rfl
 case makeFunc fn first captured=>cases fn<;>rfl
 case move x=>simp only [T6];rw [h x (by simp [Op.operands])]
 case assign x=>simp only [T6];rw [h x (by simp [Op.operands])]
 case pick c x y=>simp only [T6];rw [h c (by simp [Op.operands]),h x (by simp [Op.operands]),h y (by simp [Op.operands])]
 case nilCheck x=>simp only [T6];rw [h x (by simp [Op.operands])]
 case binOp o ty x y ty'=>simp only [T6];rw [h x (by simp [Op.operands]),h y (by simp [Op.operands])]
 case unOp o ty x=>simp only [T6];rw [h x (by simp [Op.operands])]
 case convert s d x=>simp only [T6];rw [h x (by simp [Op.operands])]
 case extract x k=>simp only [T6];rw [h x (by simp [Op.operands])]
 case field ty x f=>simp only [T6];rw [h x (by simp [Op.operands])]
 case fieldAddr ty x f=>simp only [T6];rw [h x (by simp [Op.operands])]
 case build ty parts=>simp only [T6];rw [c4i (by simpa [Op.operands] using h)]
 case indexAddr ty x y=>simp only [T6];rw [h x (by simp [Op.operands]),h y (by simp [Op.operands])]
 case index ty x y=>simp only [T6];rw [h x (by simp [Op.operands]),h y (by simp [Op.operands])]
 case slice ty x lo hi mx=>
  cases mx with
  | some m=>rfl
  | none=>
   simp only [T6];rw [h x (by simp [Op.operands]),d11 (o:=lo) (fun y hy=>h y (by simp [Op.operands] at hy ⊢;simp [hy])),d11 (o:=hi) (fun y hy=>h y (by simp [Op.operands] at hy ⊢;simp [hy]))]
 case call c=>
  obtain ⟨callee,args,tys⟩:=c;simp only [T6];cases callee with
  | value x=>rfl
  | invoke x m=>rfl
  | builtin b=>
   have ha:∀x∈args.toList,t7 t' x=t7 t x:=fun x hx=>h x (by simpa [Op.operands,Call.operands] using hx)
   cases b<;>try rfl
   all_goals
    generalize args.toList=al at ha;generalize tys.toList=tl;rcases al with _|⟨s,_|⟨x,_|⟨y,al⟩⟩⟩<;>rcases tl with _|⟨ty,_|⟨ty',tl⟩⟩<;>try rfl
    all_goals simp only [ha s (by simp)]
    all_goals try simp only [ha x (by simp)]
theorem e1Z{cx:Cx}{grp:Nat}{ob:Oper}{t t':List V}{A:O5}(h:∀x∈ob.op.operands.toList,t7 t' x=t7 t x):opM cx grp ob t' A=opM cx grp ob t A:=by
 have hp:=f2l (cx:=cx) (A:=A) h;unfold opM;cases ho:ob.op<;>rw [ho] at h hp<;>simp only [hp]
 case box e x=>rw [h x (by simp [Op.operands])]
 case buildSlice ty len parts=>rw [c4i (by simpa [Op.operands] using h)]
 case makeSlice ty l c=>rw [h l (by simp [Op.operands]),h c (by simp [Op.operands])]
 case load ty x=>rw [h x (by simp [Op.operands])]
 case store ty x y=>rw [h x (by simp [Op.operands]),h y (by simp [Op.operands])]
 case makeMap ty r=>cases r<;>simp only [hp]
 case lookup ty x ix ok=>
  have h1:=h x (by simp [Op.operands]);have h2:=h ix (by simp [Op.operands]);cases ok<;>simp only [hp,h1,h2]
 case mapUpdate ty x ix y=>rw [h x (by simp [Op.operands]),h ix (by simp [Op.operands]),h y (by simp [Op.operands])]
 case call c=>
  obtain ⟨callee,args,tys⟩:=c;cases callee with
  | invoke x m=>rfl
  | value fop=>
   have h1:t7 t' fop=t7 t fop:=h fop (by simp [Op.operands,Call.operands]);have h2:args.toList.map (t7 t')=args.toList.map (t7 t):=c8j fun x hx=>h x (by simp [Op.operands,Call.operands] at hx ⊢;simp [hx])
   simp only [h1,h2]
  | builtin b=>
   have ha:∀x∈args.toList,t7 t' x=t7 t x:=fun x hx=>h x (by simpa [Op.operands,Call.operands] using hx)
   cases b<;>try rfl
   all_goals
    generalize args.toList=al at ha;generalize tys.toList=tl;rcases al with _|⟨s,_|⟨x,_|⟨y,al⟩⟩⟩<;>rcases tl with _|⟨ty,_|⟨ty',_|⟨ty3,tl⟩⟩⟩<;>try rfl
    all_goals simp only [ha s (by simp),ha x (by simp)]
theorem d2b{t:List V}{dst:Option Nat}{v:V}{x:Operand}(h:∀d,dst=some d->x ≠ .tmp d):t7 (U0 t dst v) x=t7 t x:=by
 cases dst with
 | none=>rfl
 | some d=>
  cases x with
  | tmp k=>
   have:d≠k:=fun q=>h d rfl (by rw [q])
   simp [t7,U0,f8V this]
  | _=>rfl
theorem e8I{S:St}{g j g' j':Nat}{e e':s9}(h:¬(g=g'/\j=j')):(S.setE g j e).setE g' j' e'=(S.setE g' j' e').setE g j e:=by
 by_cases q:g=g'
 ·subst q;have hj:j≠j':=fun z=>h ⟨rfl,z⟩
  cases hx:S.h[g]? with
  | none=>unfold St.setE;simp [hx]
  | some o=>cases o with
   | none=>unfold St.setE;simp [hx]
   | some l=>
    have hlt:=(f8G.1 hx).1;rw [a21 hx,a21 hx,a21 (l:=l.set j e) (by simp [hlt]),a21 (l:=l.set j' e') (by simp [hlt])];simp only [List.set_set];rw [List.set_comm _ _ hj]
 ·unfold St.setE;cases hx:S.h[g]? with
  | none=>
   cases hy:S.h[g']? with
   | none=>simp [hx,hy]
   | some o=>cases o with
    | none=>simp [hx,hy]
    | some l=>simp [hx,hy,f8V (Ne.symm q)]
  | some o=>cases o with
   | none=>
    cases hy:S.h[g']? with
    | none=>simp [hx,hy]
    | some o=>cases o with
     | none=>simp [hx,hy]
     | some l=>simp [hx,hy,f8V (Ne.symm q)]
   | some l=>
    cases hy:S.h[g']? with
    | none=>simp [hx,hy,f8V q]
    | some o=>cases o with
     | none=>simp [hx,hy,f8V q]
     | some l'=>simp [hx,hy,f8V q,f8V (Ne.symm q),List.set_comm _ _ q]
theorem d3B{g j:Nat}{e:s9}:∀{us:List P6} {S:St},(∀u∈us,¬(g=u.1.1/\j=u.1.2))->(S.setE g j e).upds us=(S.upds us).setE g j e
 | [],_,_=>rfl
 | ((g',j'),e')::us,S,h=>by
  simp only [St.upds];rw [e8I (h ((g',j'),e') (by simp)),d3B fun u hu=>h u (by simp [hu])]
theorem b2j:∀{us vs:List P6} {S:St},(∀u∈us,∀v∈vs,u.1≠v.1)->(S.upds us).upds vs=(S.upds vs).upds us
 | [],_,_,_=>rfl
 | ((g,j),e)::us,vs,S,h=>by
  simp only [St.upds];rw [b2j fun u hu=>h u (by simp [hu]),d3B fun v hv q=>h ((g,j),e) (by simp) v hv (Prod.ext q.1 q.2)]
theorem e7E{S:St}{g g':Nat}{n n':List s9}(h:g≠g'):(S.lay g n).lay g' n'=(S.lay g' n').lay g n:=by
 simp [St.lay,List.set_comm _ _ h]
theorem e8q{t:List V}{d d':Option Nat}{v v':V}(h:∀k,d=some k->d'≠some k):U0 (U0 t d v) d' v'=U0 (U0 t d' v') d v:=by
 cases d with
 | none=>rfl
 | some k=>cases d' with
  | none=>rfl
  | some k'=>
   have:k≠k':=fun q=>h k rfl (by rw [q])
   simp [U0,List.set_comm _ _ this]
def a3L(S:St)(t:List V):St:={S with t:=t}
def hp(S:St)(grp:Nat)(o:B6):St:=match o.new with
 | none=>S.upds o.upd
 | some new=>(S.upds o.upd).lay grp new
theorem c6R(S:St)(grp:Nat)(dst:Option Nat)(o:B6):S.apply grp dst o=a3L (hp S grp o) (U0 S.t dst o.v):=by
 unfold St.apply hp a3L;cases o.new with
 | none=>simp only [St.upds_t]
 | some new=>simp only [St.lay,St.upds_t]
theorem e9O(S:St)(t:List V)(g j:Nat)(e:s9):(a3L S t).setE g j e=a3L (S.setE g j e) t:=by
 unfold a3L St.setE;simp only;split<;>rfl
theorem c6f(t:List V):∀(us:List P6) (S:St),(a3L S t).upds us=a3L (S.upds us) t
 | [],_=>rfl
 | ((g,j),e)::us,S=>by simp only [St.upds];rw [e9O,c6f]
theorem f7K(S:St)(t:List V)(grp:Nat)(o:B6):hp (a3L S t) grp o=a3L (hp S grp o) t:=by
 unfold hp;cases o.new with
 | none=>simp only [c6f]
 | some new=>simp only [c6f];rfl
theorem f1w{S:St}{g g':Nat}{o o':B6}(hg:g≠g')(h1:∀u∈o.upd,∀v∈o'.upd,u.1≠v.1)(h2:∀u∈o.upd,u.1.1≠g')(h3:∀u∈o'.upd,u.1.1≠g):hp (hp S g o) g' o'=hp (hp S g' o') g o:=by
 unfold hp;cases o.new with
 | none=>cases o'.new with
  | none=>simp only;exact b2j h1
  | some n'=>simp only;rw [<-b0T o.upd _ h2,b2j h1]
 | some n=>cases o'.new with
  | none=>simp only;rw [<-b0T o'.upd _ h3,b2j h1]
  | some n'=>
   simp only;rw [<-b0T o'.upd _ h3,<-b0T o.upd _ h2,b2j h1,e7E hg]
theorem e9s{S:St}{grp:Nat}{o:B6}{g j:Nat}(h1:g≠grp)(h2:∀u∈o.upd,u.1≠(g,j)):(hp S grp o).ent g j=S.ent g j:=by
 have:(S.upds o.upd).ent g j=S.ent g j:=by
  refine c0k ?_;unfold b0c;rw [f8E];intro u hu;have:=h2 u hu;simp only [f9h,Bool.and_eq_false_iff,beq_eq_false_iff_ne];by_cases q:g=u.1.1
  ·right
   intro z;exact this (Prod.ext q.symm z.symm)
  ·exact .inl q
 unfold hp;cases o.new with
 | none=>exact this
 | some new=>simp only;rw [a7z h1];exact this
section
variable {cx:Cx} {ops:Array Oper} {base:Nat} {A:Nat->L5}
theorem d3U{i:Nat}{S S':St}{ps:List Prop}{ft:Z4}(h:Z8 cx ops base A i S=some (S',ps,ft)):∃o out,ops[i]?=some o/\S'=S.apply (base+i) o.dst out/\ft.wr=out.upd.map (·.1)/\
  ∀T:St,(∀x∈o.op.operands.toList,t7 T.t x=t7 S.t x)->a6r ops o T.t=a6r ops o S.t->(∀id∈ft.rd,T.ent id.1 id.2=S.ent id.1 id.2)->Z8 cx ops base A i T=some (T.apply (base+i) o.dst out,ps,ft):=by
 unfold Z8 at h;split at h<;>try (cases h;done)
 rename_i o ho;split at h<;>try (cases h;done)
 ·rename_i hw;split at h<;>try (cases h;done)
  rename_i out lg hop;injection h with h;injection h with h1 h2;injection h2 with h2 h3;subst h1;subst h2;subst h3;refine ⟨o,out,ho,rfl,rfl,?_⟩;intro T hx hwT hent;have hst:b0J cx (base+i) o T.t (A i)=b0J cx (base+i) o S.t (A i):=by
   unfold b0J;rw [e1Z hx]
  have:=f6U cx (base+i) o S.t (A i) S.ent T.ent out lg hop hent;unfold Z8;rw [ho];simp only [hwT,hw,hst,this]
 ·rename_i hw;injection h with h;injection h with h1 h2;injection h2 with h2 h3;subst h1;subst h2;subst h3;refine ⟨o,{v:=.tup []},ho,rfl,rfl,?_⟩;intro T hx hwT hent;unfold Z8;rw [ho];simp only [hwT,hw];rfl
structure Ind(ops:Array Oper)(base:Nat)(x i:Nat)(f1 f2:Z4):Prop where
 ne:x≠i
 apart:∀o1 o2,ops[x]?=some o1->ops[i]?=some o2->o1.apart ops o2=true
 w1:∀id∈f1.wr,id ∉ f2.rd/\id ∉ f2.wr
 w2:∀id∈f2.wr,id ∉ f1.rd
 g1:∀id∈f2.rd++f2.wr,id.1≠base+x
 g2:∀id∈f1.rd++f1.wr,id.1≠base+i
theorem c8V{o:Oper}{x:Operand}(hx:x∈o.op.operands.toList){d:Nat}(hd:d ∉ o.looksAt ops):x ≠ .tmp d:=by
 intro q;subst q;apply hd;unfold Oper.looksAt;exact f8B.2 (.inl (List.mem_filterMap.2 ⟨_,hx,rfl⟩))
theorem d1Y{o:Oper}{t:List V}{dst:Option Nat}{v:V}(hd:∀d,dst=some d->d ∉ o.looksAt ops):a6r ops o (U0 t dst v)=a6r ops o t:=by
 unfold a6r;split
 ·rfl
 ·rename_i j want hg;cases hj:(ops[j]?).bind (·.dst) with
  | none=>rfl
  | some d=>
   simp only;cases dst with
   | none=>rfl
   | some k=>
    have hk:k≠d:=by
     intro q;subst q;apply hd k rfl;unfold Oper.looksAt;rw [hg];exact f8B.2 (.inr (by simp [hj]))
    simp only [U0,f8V hk]
theorem b59{S:St}{grp:Nat}{dst:Option Nat}{o:B6}:(S.apply grp dst o).t=U0 S.t dst o.v:=by rw [c6R];rfl
theorem c7B{S:St}{grp:Nat}{dst:Option Nat}{o:B6}{g j:Nat}(h1:g≠grp)(h2:(g,j) ∉ o.upd.map (·.1)):(S.apply grp dst o).ent g j=S.ent g j:=by
 rw [c6R];show (hp S grp o).ent g j=_
 exact e9s h1 fun u hu q=>h2 (f9i.2 ⟨u,hu,q⟩)
theorem e2I{x i:Nat}{S S1 S2:St}{p1 p2:List Prop}{f1 f2:Z4}(hx:Z8 cx ops base A x S=some (S1,p1,f1))(hi:Z8 cx ops base A i S1=some (S2,p2,f2))(h:Ind ops base x i f1 f2) :
  ∃S1',Z8 cx ops base A i S=some (S1',p2,f2)/\Z8 cx ops base A x S1'=some (S2,p1,f1):=by
 obtain ⟨o1,out1,ho1,rfl,hw1,hr1⟩:=d3U hx;obtain ⟨o2,out2,ho2,rfl,hw2,hr2⟩:=d3U hi;obtain ⟨a1,a2,a3⟩:=Oper.apart_spec (h.apart o1 o2 ho1 ho2);have e1:=hr2 S (fun z hz=>by rw [b59,d2b fun d hd=>c8V (ops:=ops) hz (a1 d hd)]) (by rw [b59,d1Y a1]) (fun id hid=>by
  refine (c7B (h.g1 id (f8B.2 (.inl hid))) ?_).symm;rw [<-hw1];exact fun q=>(h.w1 id q).1 hid)
 refine ⟨_,e1,?_⟩;have e2:=hr1 (S.apply (base+i) o2.dst out2) (fun z hz=>by rw [b59,d2b fun d hd=>c8V (ops:=ops) hz (a3 d hd)]) (by rw [b59,d1Y a3]) (fun id hid=>by
  refine c7B (h.g2 id (f8B.2 (.inl hid))) ?_;rw [<-hw2];exact fun q=>h.w2 id q hid)
 rw [e2];congr 2
 simp only [c6R,f7K];have hh:hp (hp S (base+x) out1) (base+i) out2=hp (hp S (base+i) out2) (base+x) out1:=by
  refine f1w (fun q=>h.ne (by omega)) ?_ ?_ ?_
  ·intro u hu v hv q;have m1:u.1∈f1.wr:=by rw [hw1];exact f9i.2 ⟨u,hu,rfl⟩
   have m2:v.1∈f2.wr:=by rw [hw2];exact f9i.2 ⟨v,hv,rfl⟩
   exact (h.w1 _ m1).2 (q▸m2)
  ·intro u hu;exact h.g2 _ (f8B.2 (.inr (by rw [hw1];exact f9i.2 ⟨u,hu,rfl⟩)))
  ·intro u hu;exact h.g1 _ (f8B.2 (.inr (by rw [hw2];exact f9i.2 ⟨u,hu,rfl⟩)))
 rw [hh];unfold a3L;simp only;rw [e8q (fun k hk q=>a2 k hk q)]
abbrev Rc:=Nat->List Prop×Z4
theorem d4M{rc:Rc}{i:Nat}:∀{l m:List Nat} {S S':St},(∀x∈l,Ind ops base x i (rc x).2 (rc i).2)->a08 cx ops base A (l++i::m) S=some (S',(l++i::m).map rc)->a08 cx ops base A (i::(l++m)) S=some (S',(i::(l++m)).map rc)
 | [],m,S,S',_,h=>h
 | x::l,m,S,S',hind,h=>by
  obtain ⟨S1,r,rs,h1,h2,h3⟩:=b4G h;simp only [g0y,f9l] at h3;injection h3 with h3 h4;subst h3;subst h4;have h5:=d4M (fun y hy=>hind y (by simp [hy])) h2;obtain ⟨S2,r2,rs2,h6,h7,h8⟩:=b4G h5;simp only [f9l] at h8;injection h8 with h8 h9;subst h8;subst h9;obtain ⟨S1',e1,e2⟩:=e2I (p1:=(rc x).1) (f1:=(rc x).2) (p2:=(rc i).1) (f2:=(rc i).2) h1 h6 (hind x (by simp));have e2':Z8 cx ops base A x S1'=some (S2,rc x):=e2;have e1':Z8 cx ops base A i S=some (S1',rc i):=e1;simp only [g0y,a08,e1',e2',h7,f9l]
end
def a2Z(ops:Array Oper)(i:Nat):List Nat:=
 match ops[i]? with
 | some o=>(o.after.toList.filter (Region.binds .any)).map (·.on)
 | none=>[]
def a4D(ops:Array Oper):Nat->List (List Nat)
 | 0=>[]
 | k+1=>let L:=a4D ops k;L++[(a2Z ops k).flatMap fun e=>e::L.getD e []]
def a8d(ops:Array Oper)(i:Nat):List Nat:=(a4D ops (i+1)).getD i []
theorem a8v(ops:Array Oper):∀k,(a4D ops k).length=k
 | 0=>rfl
 | k+1=>by simp [a4D,a8v ops k]
theorem c7h(ops:Array Oper)(i:Nat):∀k,i<k->(a4D ops k).getD i []=a8d ops i
 | k+1,h=>by
  by_cases q:i=k
  ·subst q;rfl
  ·have:i<k:=by omega
   rw [<-c7h ops i k this];simp only [a4D,f8P];rw [f8X (by rw [a8v];exact this)]
theorem e2n(ops:Array Oper)(i:Nat):a8d ops i=(a2Z ops i).flatMap fun e=>e::(a4D ops i).getD e []:=by
 unfold a8d;simp only [a4D,f8P];rw [f8T (by rw [a8v];omega),a8v];simp
theorem d0G{ops:Array Oper}{a0h:Array Bool}{i:Nat}(h:i∈Region.ready .any ops a0h):i<ops.size/\a0h.getD i true=false/\∀e∈a2Z ops i,a0h.getD e false=true:=by
 unfold Region.ready at h;obtain ⟨h1,h2⟩:=f9H.1 h;have hlt:=f9B.1 h1;simp only [f8D,f9h] at h2;refine ⟨hlt,h2.1,?_⟩;intro e he;unfold a2Z at he;rw [Array.getElem?_eq_getElem hlt] at he h2;simp only [f9i,f9H] at he;obtain ⟨ed,⟨hm,hb⟩,rfl⟩:=he;have:=h2.2;simp only [f9U,f9P,Array.all_eq_true_iff_forall_mem] at this;have:=this ed (by simpa using hm);simpa [hb] using this
theorem f6W{ops:Array Oper}{a0h:Array Bool}{i:Nat}(hlt:i<ops.size)(hl:a0h.getD i true=false)(he:∀e∈a2Z ops i,a0h.getD e false=true):i∈Region.ready .any ops a0h:=by
 unfold Region.ready;refine f9H.2 ⟨f9B.2 hlt,?_⟩;rw [Array.getElem?_eq_getElem hlt];simp only [hl,f9j,f9U,f9P,f8K,Array.all_eq_true_iff_forall_mem];intro ed hm;by_cases hb:Region.binds .any ed=true
 ·have:ed.on∈a2Z ops i:=by
   unfold a2Z;rw [Array.getElem?_eq_getElem hlt];exact f9i.2 ⟨ed,f9H.2 ⟨by simpa using hm,hb⟩,rfl⟩
  simp [he _ this]
 ·simp [hb]
section
variable {cx:Cx} {Γ:P3} {ops:Array Oper} {base:Nat} {A:Nat->L5} {Q:Exit->Act->World->Prop} {S':St} {rc:Rc}
theorem f6f(d3k:∀i,i<ops.size->∀e∈a2Z ops i,e<i)(hind:∀x i,x<i->i<ops.size->x ∉ a8d ops i->Ind ops base x i (rc x).2 (rc i).2)(hob:∀i,i<ops.size->∀p∈(rc i).1,p)(hQ:∀a' w' F' ι',u7 Γ F' ι' S' a' w'->Q .normal a' w'):∀(fuel:Nat) (R:List Nat) (a0h:Array Bool) (S:St) (F:Nat->Prop) (ι:Nat->Nat->Value) (a:Act) (w:World),
  R.length=fuel->a0h.size=ops.size->R.Pairwise (· < ·)->(∀i,i<ops.size->(a0h.getD i true=false↔i∈R))->(∀i∈R,i<ops.size)->(∀i,i<ops.size->i ∉ R->∀x∈a8d ops i,x ∉ R)->
  u7 Γ F ι S a w->(∀i∈R,base+i<S.h.length/\¬S.D (base+i))->a08 cx ops base A R S=some (S',R.map rc)->wpAny cx.P .any ops Q fuel a0h a w:=by
 intro fuel;induction fuel with
 | zero=>
  intro R a0h S F ι a w hR hsz hpw hlist hlt hdown hrel hfree hrun;have:R=[]:=f8N hR;subst this;unfold a08 at hrun;injection hrun with hrun;injection hrun with h1 h2;subst h1;refine ⟨?_,hQ _ _ _ _ hrel⟩;rw [List.eq_nil_iff_forall_not_mem];intro i hi;obtain ⟨h1,h2,_⟩:=d0G hi;have:=(hlist i h1).1 h2;simp at this
 | succ fuel ih=>
  intro R a0h S F ι a w hR hsz hpw hlist hlt hdown hrel hfree hrun;refine ⟨fun d9e => ?_,fun i hi => ?_⟩
  ·exfalso
   cases R with
   | nil=>simp at hR
   | cons r R=>
    have hr:=hlt r (by simp);have hrd:r∈Region.ready .any ops a0h:=by
     refine f6W hr ((hlist r hr).2 (by simp)) ?_;intro e he;have hlt':=d3k r hr e he;have hen:e ∉ r::R:=by
      intro q;rcases f8J.1 q with q|q
      ·omega
      ·have:=(f9X.1 hpw).1 e q;omega
     have:=mt (hlist e (by omega)).1 hen;have hes:e<a0h.size:=by omega
     simp only [Array.getD_eq_getD_getElem?,Array.getElem?_eq_getElem hes,f9P] at this ⊢;simpa using this
    rw [d9e] at hrd;simp at hrd
  ·obtain ⟨hi1,hi2,hi3⟩:=d0G hi;have hiR:=(hlist i hi1).1 hi2;obtain ⟨A1,B1,hAB⟩:=List.append_of_mem hiR;have hpw':=hpw;rw [hAB] at hpw';obtain ⟨hpA,hpB,hpAB⟩:=g0r.1 hpw';have hcl:∀x∈a8d ops i,x ∉ R:=by
    intro x hx;rw [e2n] at hx;obtain ⟨e,he,hx⟩:=List.mem_flatMap.1 hx;have hel:=d3k i hi1 e he;have heR:e ∉ R:=by
     intro q;have h1:=(hlist e (by omega)).2 q;have h2:=hi3 e he;have hes:e<a0h.size:=by omega
     simp only [Array.getD_eq_getD_getElem?,Array.getElem?_eq_getElem hes,f9P] at h1 h2;rw [h1] at h2;cases h2
    rcases f8J.1 hx with rfl|hx
    ·exact heR
    ·rw [c7h ops e i hel] at hx;exact hdown e (by omega) heR x hx
   have hfront:=d4M (cx:=cx) (A:=A) (rc:=rc) (i:=i) (l:=A1) (m:=B1) (S:=S) (S':=S') (fun x hx=>by
    have hxR:x∈R:=by rw [hAB];simp [hx]
    exact hind x i (hpAB x hx i (by simp)) hi1 (fun q=>hcl x q hxR)) (by rw [<-hAB];exact hrun)
   obtain ⟨S1,r,rs,h1,h2,h3⟩:=b4G hfront;simp only [f9l] at h3;injection h3 with h3 h4;subst h3;subst h4;obtain ⟨hD,hl⟩:=d6Z (ps:=(rc i).1) (ft:=(rc i).2) h1;refine c8C hrel (hfree i hiR).1 (hfree i hiR).2 (ps:=(rc i).1) (ft:=(rc i).2) h1 (hob i hi1) fun a' w' F' ι' hrel' => ?_
   have hsub:∀j,j∈A1++B1↔(j∈R/\j≠i):=by
    intro j;rw [hAB];simp only [f8B,f8J];constructor
    ·intro hj;refine ⟨by rcases hj with q|q<;>simp [q],?_⟩;rintro rfl
     rcases hj with q|q
     ·have:=hpAB j q j (by simp);omega
     ·have:=(f9X.1 hpB).1 j q;omega
    ·rintro ⟨q|rfl|q,hne⟩
     ·exact .inl q
     ·exact absurd rfl hne
     ·exact .inr q
   refine ih (A1++B1) _ S1 F' ι' a' w' ?_ (by simp [hsz]) ?_ ?_ ?_ ?_ hrel' ?_ h2
   ·rw [hAB] at hR;simp at hR ⊢;omega
   ·refine g0r.2 ⟨hpA,(f9X.1 hpB).2,fun x hx y hy=>hpAB x hx y (by simp [hy])⟩
   ·intro j hj;rw [hsub];have hjs:j<a0h.size:=by omega
    simp only [Array.getD_eq_getD_getElem?];by_cases q:j=i
    ·subst q;simp [hjs]
    ·rw [Array.getElem?_setIfInBounds_ne (Ne.symm q),<-hlist j hj,Array.getD_eq_getD_getElem?];simp [q]
   ·intro j hj;exact hlt j ((hsub j).1 hj).1
   ·intro j hj hjn x hx hxm;have hxR:=((hsub x).1 hxm).1;by_cases q:j=i
    ·subst q;exact hcl x hx hxR
    ·exact hdown j hj (fun z=>hjn ((hsub j).2 ⟨z,q⟩)) x hx hxR
   ·intro j hj;have hjR:=((hsub j).1 hj)
    refine ⟨by rw [hl];exact (hfree j hjR.1).1,fun x => ?_⟩;rcases hD _ x with y|y
    ·exact (hfree j hjR.1).2 y
    ·exact hjR.2 (by omega)
end
def c09(l:List Nat)(x:Nat):Bool:=l.any fun y=>y==x
theorem f6K{l:List Nat}{x:Nat}:c09 l x=true↔x∈l:=by
 unfold c09;rw [g0b];constructor
 ·rintro ⟨y,hy,h⟩
  simp at h;exact h▸hy
 ·intro h;exact ⟨x,h,by simp⟩
def dnN:List Nat->List Nat
 | []=>[]
 | x::xs=>if c09 (dnN xs) x then dnN xs else x::dnN xs
theorem c5a{x:Nat}:∀{l:List Nat},x∈dnN l->x∈l
 | y::l,h=>by
  unfold dnN at h;split at h
  ·exact f8J.2 (.inr (c5a h))
  ·rcases f8J.1 h with rfl|h
   ·simp
   ·exact f8J.2 (.inr (c5a h))
def a70(ops:Array Oper):Nat->List (List Nat)
 | 0=>[]
 | k+1=>let L:=a70 ops k;L++[dnN ((a2Z ops k).flatMap fun e=>e::L.getD e [])]
theorem c0L(ops:Array Oper):∀k,(a70 ops k).length=k
 | 0=>rfl
 | k+1=>by simp [a70,c0L ops k]
theorem c6C(ops:Array Oper):∀k i,∀x∈(a70 ops k).getD i [],x∈(a4D ops k).getD i []
 | 0,i,x,h=>by simp [a70] at h
 | k+1,i,x,h=>by
  simp only [a70,a4D,f8P] at h ⊢;by_cases q:i<k
  ·rw [f8X (by rw [c0L];exact q)] at h;rw [f8X (by rw [a8v];exact q)];have:=c6C ops k i x (by rw [f8P];exact h);rwa [f8P] at this
  ·rw [f8T (by rw [c0L];omega),c0L] at h;rw [f8T (by rw [a8v];omega),a8v];by_cases q':i=k
   ·subst q';simp only [Nat.sub_self,f9L,f9P] at h ⊢;obtain ⟨e,he,hx⟩:=List.mem_flatMap.1 (c5a h);refine List.mem_flatMap.2 ⟨e,he,?_⟩;rcases f8J.1 hx with rfl|hx
    ·simp
    ·have:=c6C ops i e x (by rw [f8P];exact hx);rw [f8P] at this;exact f8J.2 (.inr this)
   ·have:i-k=(i-k-1)+1:=by omega
    rw [this] at h;simp at h
def c5L(ops:Array Oper)(base x i:Nat)(f1 f2:Z4):Bool:=
  (match ops[x]?,ops[i]? with
   | some o1,some o2=>o1.apart ops o2
   | _,_=>false) &&
  f1.wr.all (fun id => !a1T f2.rd id && !a1T f2.wr id)&&f2.wr.all (fun id => !a1T f1.rd id) &&
  f2.rd.all (fun id => !(id.1==base+x))&&f2.wr.all (fun id => !(id.1==base+x)) &&
  f1.rd.all (fun id => !(id.1==base+i))&&f1.wr.all (fun id => !(id.1==base+i))
theorem b7J{l:List (Nat×Nat)}{x:Nat×Nat}(h:(!a1T l x)=true):x ∉ l:=by
 intro q;rw [a6p.2 q] at h;cases h
theorem e3H{ops:Array Oper}{base x i:Nat}{f1 f2:Z4}(hne:x<i)(h:c5L ops base x i f1 f2=true):Ind ops base x i f1 f2:=by
 unfold c5L at h;simp only [f8D] at h;obtain ⟨⟨⟨⟨⟨⟨h1,h2⟩,h3⟩,h4⟩,h5⟩,h6⟩,h7⟩:=h;refine ⟨by omega,?_,?_,?_,?_,?_⟩
 ·intro o1 o2 e1 e2;rw [e1,e2] at h1;exact h1
 ·intro id hid;have:=f8E.1 h2 id hid;simp only [f8D] at this;exact ⟨b7J this.1,b7J this.2⟩
 ·intro id hid;exact b7J (f8E.1 h3 id hid)
 ·intro id hid;rcases f8B.1 hid with q|q
  ·have:=f8E.1 h4 id q;simpa using this
  ·have:=f8E.1 h5 id q;simpa using this
 ·intro id hid;rcases f8B.1 hid with q|q
  ·have:=f8E.1 h6 id q;simpa using this
  ·have:=f8E.1 h7 id q;simpa using this
def d1A(ops:Array Oper)(base:Nat)(L:List (List Nat))(fs:List Z4):Bool:=
 (f8I ops.size).all fun i=>
  (a2Z ops i).all (fun e=>Nat.blt e i) &&
  (f8I i).all fun x=>c09 (L.getD i []) x||c5L ops base x i (fs.getD x ⟨[],[]⟩) (fs.getD i ⟨[],[]⟩)
def c4s(A:List (Nat×L5))(i:Nat):L5:=
 match A with
 | []=>{}
 | (j,x)::A=>if j==i then x else c4s A i
def c06:List (List Prop×Z4)->List Prop
 | []=>[]
 | r::rs=>r.1++c06 rs
theorem d5Z{rs:List (List Prop×Z4)}(h:∀p∈c06 rs,p):∀r∈rs,∀p∈r.1,p:=by
 induction rs with
 | nil=>intro r hr;cases hr
 | cons r rs ih=>
  intro r' hr p hp;rcases f8J.1 hr with rfl|hr
  ·exact h p (f8B.2 (.inl hp))
  ·exact ih (fun p hp=>h p (f8B.2 (.inr hp))) r' hr p hp
def a4c:Nat->List (Option (List s9))
 | 0=>[]
 | n+1=>none::a4c n
theorem d7U:∀(n i:Nat) (l:List s9),(a4c n)[i]?≠some (some l)
 | 0,i,l=>by simp [a4c]
 | n+1,0,l=>by simp [a4c]
 | n+1,i+1,l=>by simpa [a4c] using d7U n i l
theorem d0D:∀n,(a4c n).length=n
 | 0=>rfl
 | n+1=>by simp [a4c,d0D n]
def St.more(S:St)(n:Nat):St:={S with h:=S.h++a4c n}
theorem c0j{S:St}{n g:Nat}{l:List s9}:(S.more n).h[g]?=some (some l)↔S.h[g]?=some (some l):=by
 unfold St.more;simp only;by_cases q:g<S.h.length
 ·rw [f8X q]
 ·rw [f8T (by omega)];constructor
  ·intro h;exact absurd h (d7U _ _ _)
  ·intro h;have:=(f8G.1 h).1;omega
theorem a9W{S:St}{n g:Nat}:(S.more n).D g↔S.D g:=by
 unfold St.D;constructor
 ·rintro ⟨l,h⟩
  exact ⟨l,c0j.1 h⟩
 ·rintro ⟨l,h⟩
  exact ⟨l,c0j.2 h⟩
theorem b3q{S:St}{n g j:Nat}:(S.more n).ent g j=S.ent g j:=by
 have key:∀e,(S.more n).ent g j=some e↔S.ent g j=some e:=by
  intro e;constructor
  ·intro h;obtain ⟨l,hl⟩:=St.D_of_ent h;rw [a2f hl] at h;rw [a2f (c0j.1 hl)];exact h
  ·intro h;obtain ⟨l,hl⟩:=St.D_of_ent h;rw [a2f hl] at h;rw [a2f (c0j.2 hl)];exact h
 cases h:S.ent g j with
 | some e=>exact (key e).2 h
 | none=>
  cases h':(S.more n).ent g j with
  | none=>rfl
  | some e=>rw [(key e).1 h'] at h;cases h
theorem u7.more{Γ:P3}{F:Nat->Prop}{ι:Nat->Nat->Value}{S:St}{a:Act}{w:World}(h:u7 Γ F ι S a w)(n:Nat):u7 Γ F ι (S.more n) a w:=
  { F0:=h.F0,F1:=h.F1,F2:=h.F2,kept:=h.kept
    tmps:=h.tmps.imp fun _ _ x=>x.mono (fun _ _ _=>rfl) (fun _ y=>y) (fun g y=>a9W.2 y) (fun _ _ _=>rfl)
    ents:=fun g j e he=>(h.ents g j e (b3q▸he)).mono (fun _ _ _=>rfl) (fun _ y=>y) (fun g y=>a9W.2 y) (fun _ _ _=>rfl) (fun _ _ _=>rfl)
    sep:=fun g j e k he=>h.sep g j e k (b3q▸he)
    inj:=fun g j e g' j' e' k he he'=>h.inj g j e g' j' e' k (b3q▸he) (b3q▸he')
    defers:=h.defers
    pins:=fun j c hc=>⟨a9W.2 (h.pins j c hc).1,(h.pins j c hc).2⟩}
def c6K(cx:Cx)(ops:Array Oper)(draw:Bool)(A:List (Nat×L5))(S:St):Option (St×List Prop):=
 match a08 cx ops S.h.length (c4s A) (f8I ops.size) (S.more ops.size) with
 | none=>none
 | some (S',rs)=>if draw then (if d1A ops S.h.length (a70 ops ops.size) (rs.map (·.2)) then some (S',c06 rs) else none) else some (S',c06 rs)
section
variable {cx:Cx} {Γ:P3} {F:Nat->Prop} {ι:Nat->Nat->Value} {S S':St} {a:Act} {w:World} {ops:Array Oper} {A:List (Nat×L5)}
theorem c7K{base:Nat}{B:Nat->L5}:∀{l:List Nat} {S S':St} {rs:List (List Prop×Z4)},a08 cx ops base B l S=some (S',rs)->rs.length=l.length
 | [],S,S',rs,h=>by
  unfold a08 at h;injection h with h;injection h with h1 h2;subst h2;rfl
 | i::l,S,S',rs,h=>by
  obtain ⟨S1,r,rs',h1,h2,rfl⟩:=b4G h;simp [c7K h2]
theorem e57{α:Type}(d:α):∀{rs:List α} {n:Nat},rs.length=n->rs=(f8I n).map fun i=>rs.getD i d:=by
 intro rs n h;apply List.ext_getElem
 ·simp [h]
 ·intro i h1 h2;simp [f8P,h1]
theorem e0U{draw:Bool}{id:Nat}{ps:List Prop}{Q:Exit->Act->World->Prop}(h:u7 Γ F ι S a w)(hr:c6K cx ops draw A S=some (S',ps))(hob:∀p∈ps,p)(hQ:∀a' w' F' ι',u7 Γ F' ι' S' a' w'->Q .normal a' w'):(Code.region id ops draw).wp cx.P Q a w:=by
 unfold c6K at hr;split at hr<;>try (cases hr;done)
 rename_i S1 rs hrun;have hfree:∀i∈f8I ops.size,S.h.length+i<(S.more ops.size).h.length/\¬(S.more ops.size).D (S.h.length+i):=by
  intro i hi;refine ⟨by simp [St.more,d0D,f9B.1 hi],fun q => ?_⟩;obtain ⟨l,hl⟩:=a9W.1 q;have:=(f8G.1 hl).1;omega
 cases draw with
 | false=>
  simp only [f9W,if_false] at hr;injection hr with hr;injection hr with h1 h2;subst h1;subst h2;exact wp_region (d7s (h.more ops.size) List.nodup_range hfree hrun (d5Z hob) hQ)
 | true=>
  simp only [if_true] at hr;split at hr<;>try (cases hr;done)
  rename_i hap;injection hr with hr;injection hr with h1 h2;subst h1;subst h2;have hw:u7 Γ F ι (S.more ops.size) a {w with drawn:=w.drawn+1}:=(h.more ops.size).world ⟨rfl,rfl,rfl⟩ (f8R _) (fun _ _=>rfl);have hlen:=c7K hrun;rw [List.length_range] at hlen;have hrs:=e57 (([],⟨[],[]⟩):List Prop×Z4) hlen;unfold d1A at hap;rw [f8E] at hap;have hap':∀i,i<ops.size->(∀e∈a2Z ops i,e<i)/\∀x,x<i->x ∉ a8d ops i->Ind ops S.h.length x i ((rs.getD x ([],⟨[],[]⟩)).2) ((rs.getD i ([],⟨[],[]⟩)).2):=by
   intro i hi;have:=hap i (f9B.2 hi);simp only [f8D] at this;refine ⟨fun e he => ?_,fun x hx hc => ?_⟩
   ·have:=f8E.1 this.1 e he;rwa [Nat.blt_eq] at this
   ·have h2:=f8E.1 this.2 x (f9B.2 hx);rcases Bool.or_eq_true_iff.1 h2 with q|q
    ·exfalso
     apply hc;have:=c6C ops ops.size i x (f6K.1 q);rwa [c7h ops i ops.size hi] at this
    ·have:=e3H hx q;have hm:∀j,j<rs.length->(rs.map (·.2)).getD j ⟨[],[]⟩=(rs.getD j ([],⟨[],[]⟩)).2:=by
      intro j hj;simp [f8P,hj]
     rw [hm x (by omega),hm i (by omega)] at this;exact this
  refine wp_region_any cx.mixed ?_;have hrange:∀i,i<ops.size->rs.getD i ([],⟨[],[]⟩)∈rs:=by
   intro i hi;have:i<rs.length:=by omega
   simp [f8P,this]
  refine f6f (rc:=fun i=>rs.getD i ([],⟨[],[]⟩)) (base:=S.h.length) (A:=c4s A) (fun i hi=>(hap' i hi).1) (fun x i hx hi hc=>(hap' i hi).2 x hx hc) (fun i hi p hp=>d5Z hob _ (hrange i hi) p hp) hQ
   ops.size (f8I ops.size) _ _ F ι a _ (by simp) (by simp) ?_ ?_ ?_ ?_ hw hfree ?_
  ·exact List.pairwise_lt_range
  ·intro i hi;simp [f9B,hi,Array.getD_eq_getD_getElem?]
  ·intro i hi;exact f9B.1 hi
  ·intro i hi hn;exact absurd (f9B.2 hi) hn
  ·rw [<-hrs];exact hrun
end
def mvM(t:List V):List Item->Option (List Item)
 | .code .skip::k=>some k
 | .inBlock _::k=>some k
 | .code (.seq x y)::k=>some (.code x :: .code y::k)
 | .code (.cond c x y)::k=>match t7 t c with
  | .b true=>some (.code x::k)
  | .b false=>some (.code y::k)
  | _=>none
 | .code (.block id c)::k=>some (.code c :: .inBlock id::k)
 | .code (.loop c)::k=>some (.code c :: .inLoop c::k)
 | .inLoop c::k=>some (.code c :: .inLoop c::k)
 | .code (.exit id)::k=>exitTo id k
 | _=>none
abbrev S8:=List (List (Nat×L5))
def goM(cx:Cx):Nat->List Item->St->S8->Option (List Item×St×List Prop)
 | 0,_,_,_=>none
 | n+1,k,S,sc=>
  match k with
  | .code (.region id ops draw)::k'=>match sc with
   | []=>some (k,S,[])
   | A::sc'=>match c6K cx ops draw A S with
    | some (S1,ps)=>match goM cx n k' S1 sc' with
     | some (k2,S2,qs)=>some (k2,S2,ps++qs)
     | none=>none
    | none=>none
  | k=>match mvM S.t k with
   | some k1=>goM cx n k1 S sc
   | none=>match sc with
    | []=>some (k,S,[])
    | _::_=>none
section
variable {cx:Cx} {Γ:P3} {F:Nat->Prop} {ι:Nat->Nat->Value} {S S':St} {a:Act} {w:World} {b:Frame} {cs:List Frame} {k k':List Item}
theorem e3T(h:u7 Γ F ι S a w)(hm:mvM S.t k=some k'):step cx.P (lone (b.at a k) cs w)=.next (lone (b.at a k') cs w):=by
 unfold mvM at hm;split at hm
 ·injection hm with hm;subst hm;exact step_skip
 ·injection hm with hm;subst hm;exact step_inBlock
 ·injection hm with hm;subst hm;exact step_seq
 ·rename_i c x y k0;have hc:=E1 h.tmps c;split at hm<;>try (cases hm;done)
  ·rename_i hx;injection hm with hm;subst hm;rw [hx] at hc;have:=step_cond (P:=cx.P) (b:=b) (k:=k0) (cs:=cs) (w:=w) (x:=x) (y:=y) hc.inv_b;simpa using this
  ·rename_i hx;injection hm with hm;subst hm;rw [hx] at hc;have:=step_cond (P:=cx.P) (b:=b) (k:=k0) (cs:=cs) (w:=w) (x:=x) (y:=y) hc.inv_b;simpa using this
 ·injection hm with hm;subst hm;exact step_block
 ·injection hm with hm;subst hm;exact step_loop
 ·injection hm with hm;subst hm;exact step_inLoop
 ·exact step_exit hm
 ·cases hm
theorem f7v:∀{n:Nat} {k:List Item} {S:St} {F:Nat->Prop} {ι:Nat->Nat->Value} {a:Act} {w:World} {sc:S8} {ps:List Prop},u7 Γ F ι S a w->goM cx n k S sc=some (k',S',ps)->(∀p∈ps,p)->
  ∃a' w' F' ι',Steps cx.P (lone (b.at a k) cs w) (lone (b.at a' k') cs w')/\u7 Γ F' ι' S' a' w':=by
 intro n;induction n with
 | zero=>intro k S F ι a w sc ps h hg hob;cases hg
 | succ n ih=>
  intro k S F ι a w sc ps h hg hob;unfold goM at hg;split at hg
  ·rename_i id ops draw k0;split at hg
   ·injection hg with hg;injection hg with h1 h2;injection h2 with h2 h3;subst h1;subst h2;exact ⟨a,w,F,ι,.refl _ _,h⟩
   ·rename_i A sc';split at hg<;>try (cases hg;done)
    rename_i S1 qs hr;split at hg<;>try (cases hg;done)
    rename_i k2 S2 rs hg2;injection hg with hg;injection hg with h1 h2;injection h2 with h2 h3;subst h1;subst h2;subst h3;have hwp:=e0U (cx:=cx) (draw:=draw) (id:=id) (Q:=fun e a' w'=>e=.normal/\∃F' ι',u7 Γ F' ι' S1 a' w') h hr (fun p hp=>hob p (f8B.2 (.inl hp)))
     (fun a' w' F' ι' hrel=>⟨rfl,F',ι',hrel⟩)
    obtain ⟨e,a1,w1,⟨he,F1,ι1,h1⟩,harr⟩:=hwp b k0 cs;subst he;obtain ⟨a2,w2,F2,ι2,hs,h2⟩:=ih h1 hg2 (fun p hp=>hob p (f8B.2 (.inr hp)));exact ⟨a2,w2,F2,ι2,Steps.trans harr hs,h2⟩
  ·split at hg
   ·rename_i k1 hm;obtain ⟨a2,w2,F2,ι2,hs,h2⟩:=ih h hg hob;exact ⟨a2,w2,F2,ι2,.head (e3T h hm) hs,h2⟩
   ·split at hg<;>try (cases hg;done)
    injection hg with hg;injection hg with h1 h2;injection h2 with h2 h3;subst h1;subst h2;exact ⟨a,w,F,ι,.refl _ _,h⟩
end
structure O9 where
 f:Nat
 fn:Func
 rms:List PM
 oms:List (Option (Nat×PM))
def d3N(w:World)(F:Nat->Prop)(fp:List Nat)(cargs:List Value)(res:V)(outs:List (Option V))(e:Ending)(w':World):Prop:=
 ∃ c F' fr fo,e=.returned c/\a3K (· ∈ fp) w w'/\(∀k,F k->F' k)/\(∀k,F' k->(F k\/k∈fp\/w.heap.size<=k)/\k<w'.heap.size)/\
   BR w' F' res c fr/\BO w' F' outs cargs fo/\(fr++fo).Nodup/\∀k∈fr++fo,¬F' k/\(k∈fp\/w.heap.size<=k)/\k<w'.heap.size
def PM.isVal:PM->Bool
 | .val .. => true
 | _=>false
def a6m(bs:List Value):List (Option Nat)->Nat->List Value->Prop
 | [],_,[]=>True
 | none::om,j,d::ds=>d.oneCell'=true/\a6m bs om j ds
 | some _::om,j,d::ds=>bs[j]?=some d/\a6m bs om (j+1) ds
 | _,_,_=>False
inductive a1G:List (Option (Nat×PM))->List Value->List Value->Prop
 | nil (bs):a1G [] [] bs
 | skip (oms c cs bs) (t:a1G oms cs bs):a1G (none::oms) (c::cs) bs
 | pin (j m oms c cs bs) (hm:m.isVal=false) (h:bs[j]?=some c) (t:a1G oms cs bs):a1G (some (j,m)::oms) (c::cs) bs
 | agg (j ck om oms ds cs bs) (h:a6m bs om j ds) (t:a1G oms cs bs):a1G (some (j,.val ck om)::oms) (.agg ds.toArray::cs) bs
def K6(cx:Cx)(X:O9)(res:V)(outs:List (Option V))(k:List Item)(S:St):Prop:=
 ∀(w0:World) (F0:Nat->Prop) (fp:List Nat) (cargs bs:List Value),a1G X.oms cargs bs->(∀k,F0 k->k<w0.heap.size)->
 ∀(F:Nat->Prop) (ι:Nat->Nat->Value) (a:Act) (w:World) (b:Frame) (cs:List Frame),u7 ⟨w0,F0,(· ∈ fp),bs⟩ F ι S a w->b.fn=X.f->b.kind=.normal->
  ∃e w' fr,d3N w0 F0 fp cargs res outs e w'/\Comes cx.P (lone (b.at a k) cs w) (lone fr cs w') e/\fr.fn=X.f/\fr.leaving cx.P w' e
theorem K6.go{cx:Cx}{X:O9}{res:V}{outs:List (Option V)}{k k':List Item}{S S':St}{n:Nat}{sc:S8}{ps:List Prop}(hg:goM cx n k S sc=some (k',S',ps))(hob:∀p∈ps,p)(h:K6 cx X res outs k' S'):K6 cx X res outs k S:=by
 intro w0 F0 fp cargs bs hp hF0 F ι a w b cs hrel hb1 hb2;obtain ⟨a',w',F',ι',hs,hrel'⟩:=f7v (b:=b) (cs:=cs) hrel hg hob;obtain ⟨e,w2,fr,h1,h2,h3,h4⟩:=h w0 F0 fp cargs bs hp hF0 F' ι' a' w' b cs hrel' hb1 hb2;exact ⟨e,w2,fr,h1,.of_steps hs h2,h3,h4⟩
def c2u(cx:Cx)(t:List V)(r:ResultVar):j8 V:=
 match r with
 | .tmp k=>j8.pure (t.getD k .bot)
 | .cell a ty=>match cx.T ty with
  | some ti=>match t.getD a .bot with
   | .ptr g j off=>j8.bind (j8.rd g j) fun e=>match e with
    | .var _ cs=>match S5 ti (cs.drop off) with
     | some v=>j8.pure v
     | none=>j8.no
    | _=>j8.no
   | _=>j8.no
  | none=>j8.no
def c4g(cx:Cx)(t:List V):List ResultVar->j8 (List V)
 | []=>j8.pure []
 | r::rs=>j8.bind (c2u cx t r) fun v=>j8.bind (c4g cx t rs) fun vs=>j8.pure (v::vs)
def b9J:List (Option Nat)->Nat->j8 (List V)
 | [],_=>j8.pure []
 | none::om,j=>j8.bind (b9J om j) fun vs=>j8.pure (.bot::vs)
 | some _::om,j=>j8.bind (j8.rd 0 j) fun e=>j8.bind (b9J om (j+1)) fun vs=>match e with
  | .row _ sz n _=>j8.pure (.own 0 j sz 0 n::vs)
  | .deep false _ sz n _=>j8.pure (.own 0 j sz 0 n::vs)
  | _=>j8.no
def a7U:List (Option (Nat×PM))->j8 (List V×List PM)
 | []=>j8.pure ([],[])
 | none::os=>a7U os
 | some (j,.val ck om)::os=>j8.bind (b9J om j) fun cs=>j8.bind (a7U os) fun x=>j8.pure (.agg cs::x.1,.val ck om::x.2)
 | some (j,m)::os=>j8.bind (j8.rd 0 j) fun e=>match m,e with
  | .ptr _ _,.var _ _=>j8.bind (a7U os) fun x=>j8.pure (.ptr 0 j 0::x.1,m::x.2)
  | .row,.row _ sz n _=>j8.bind (a7U os) fun x=>j8.pure (.own 0 j sz 0 n::x.1,m::x.2)
  | .row,.deep false _ sz n _=>j8.bind (a7U os) fun x=>j8.pure (.own 0 j sz 0 n::x.1,m::x.2)
  | _,_=>j8.no
def b9S:List V->V
 | [v]=>v
 | vs=>.tup vs
def a8u:List (Option (Nat×PM))->List V->List (Option V)
 | [],_=>[]
 | none::os,vs=>none::a8u os vs
 | some _::os,v::vs=>some v::a8u os vs
 | some _::os,[]=>none::a8u os []
def c32(cx:Cx)(X:O9)(t:List V):j8 (AR (List V)×Nat):=
 j8.bind (c4g cx t X.fn.results.toList) fun rv=>j8.bind (a7U X.oms) fun ov=>j8.bind (a1R (X.rms++ov.2) (rv++ov.1)) fun r=>
  if a3l r.ks&&r.ls.all (fun id => !a1T r.ks id)&&Nat.beq rv.length X.rms.length then j8.pure (r,rv.length) else j8.no
def c4m(cx:Cx)(X:O9)(k:List Item)(S:St):Option (V×List (Option V)×List Prop):=
 match k with
 | .code .ret::_|[]=>match c32 cx X S.t S.ent with
  | some ((r,n),_)=>some (b9S (r.v.take n),a8u X.oms (r.v.drop n),r.obl)
  | none=>none
 | _=>none
section
variable {cx:Cx} {Γ:P3} {F:Nat->Prop} {ι:Nat->Nat->Value} {S S':St} {a:Act} {w:World} {b:Frame} {cs:List Frame} {k k':List Item}
theorem d68(h:u7 Γ F ι S a w)(k:Nat):RV w F S.D ι (S.t.getD k .bot) (a.tmps.getD k undef):=E1 h.tmps (.tmp k)
def b7h(P:Program)(tmps:Array Value)(w:World)(r:ResultVar)(c:Value):Prop:=
  ((match r with
    | .tmp t=>pure (tmps.getD t undef)
    | .cell a t=>do loadVar t (<-asAddr (tmps.getD a undef))):Sem Value).run P w=.ok c w
theorem e2V(h:u7 Γ F ι S a w){r:ResultVar}{v:V}{lg:List (Nat×Nat)}(hr:c2u cx S.t r S.ent=some (v,lg)):∃c,b7h cx.P a.tmps w r c/\RV w F S.D ι v c:=by
 unfold c2u at hr;cases r with
 | tmp k=>
  have:=j8.pure_some hr;injection this with this h9;subst this;exact ⟨_,rfl,d68 h k⟩
 | cell ad ty=>
  simp only at hr;cases hti:cx.T ty with
  | none=>rw [hti] at hr;cases hr
  | some ti=>
  rw [hti] at hr;obtain ⟨i,d,z,htf⟩:=cx.tf hti;have hx:=d68 h ad;generalize S.t.getD ad .bot=xv at hr hx;cases xv<;>try (cases hr;done)
  case ptr g j off=>
   obtain ⟨hD,b,hι,hc⟩:=hx.inv_ptr;obtain ⟨e,l1,l2,hrd,hp',hl12⟩:=j8.bind_some hr;clear hr;have he:=(j8.rd_some hrd).1;simp only at he;have hre:=h.ents g j e he;split at hp'<;>try (cases hp';done)
   ·rename_i e0 cs;obtain ⟨g0,cur,h1,hg,hcs⟩:=hre;rw [hι] at h1;injection h1 with h1;injection h1 with h1;injection h1 with h1;subst h1;cases hrv:S5 ti (cs.drop off) with
    | none=>rw [hrv] at hp';cases hp'
    | some v'=>
    rw [hrv] at hp';have:=j8.pure_some hp';injection this with this h9;subst this;obtain ⟨c,hrd',hvc⟩:=a6K (hcs.drop off) hrv;refine ⟨c,?_,hvc⟩;unfold b7h;simp only [hc,asAddr];have:=d1a htf (a7d hg off) hrd';simpa [Sem.run_bind] using this
theorem c9Y(h:u7 Γ F ι S a w):∀{rs:List ResultVar} {vs:List V} {lg:List (Nat×Nat)},c4g cx S.t rs S.ent=some (vs,lg)->∃cs,x9 (b7h cx.P a.tmps w) rs cs/\x9 (RV w F S.D ι) vs cs
 | [],vs,lg,hr=>by
  have:=j8.pure_some hr;injection this with this h9;subst this;exact ⟨[],.nil,.nil⟩
 | r::rs,vs,lg,hr=>by
  obtain ⟨v,l1,l2,h1,h2,_⟩:=j8.bind_some hr;obtain ⟨vs',l3,l4,h3,h4,_⟩:=j8.bind_some h2;have:=j8.pure_some h4;injection this with this h9;subst this;obtain ⟨c,e1,e2⟩:=e2V h h1;obtain ⟨cs,e3,e4⟩:=c9Y h h3;exact ⟨c::cs,.cons e1 e3,.cons e2 e4⟩
def b5n:List Value->Value
 | [c]=>c
 | cs=>.tuple cs.toArray
theorem d5s{P:Program}{w:World}{α:Type}{f:α->Sem Value}:∀{l:List α} {cs:List Value},x9 (fun r c=>(f r).run P w=.ok c w) l cs->(l.mapM f).run P w=.ok cs w
 | _,_,.nil=>by simp [Sem.run]
 | _,_,.cons h t=>by
  rw [List.mapM_cons];have:=d5s t;simp [Sem.run_bind,h,this]
theorem f3g{P:Program}{fn:Func}{tmps:Array Value}{w:World}{cs:List Value}(h:x9 (b7h P tmps w) fn.results.toList cs):(results fn tmps).run P w=.ok (b5n cs) w:=by
 unfold results;have hm:=d5s (f:=fun r:ResultVar=>match r with
  | .tmp t=>pure (tmps.getD t undef)
  | .cell a t=>do loadVar t (<-asAddr (tmps.getD a undef))) (h.imp fun r c x=>x)
 have he:fn.results=fn.results.toList.toArray:=by simp
 rw [he,List.mapM_toArray];have hp:(if hh:cs.toArray.size=1 then cs.toArray[0] else Value.tuple cs.toArray)=b5n cs:=by
  rcases cs with _|⟨c,_|⟨c',cs⟩⟩
  ·rfl
  ·rfl
  ·have:¬(c::c'::cs).toArray.size=1:=by simp
   rw [dif_neg this];rfl
 simp only [map_eq_pure_bind,Sem.run_bind,bind_assoc,pure_bind];refine (congrArg (fun r=>Result.andThen r _) hm).trans ?_;simp only [Result.andThen];rw [<-hp];rfl
theorem c3x(h:u7 Γ F ι S a w):∀{om:List (Option Nat)} {j:Nat} {ds:List Value} {vs:List V} {lg:List (Nat×Nat)},a6m Γ.pins om j ds->b9J om j S.ent=some (vs,lg)->x9 (RC w F S.D ι) vs ds
 | [],j,[],vs,lg,_,hr=>by
  have:=j8.pure_some hr;injection this with h1 h2;subst h1;exact .nil
 | none::om,j,d::ds,vs,lg,hc,hr=>by
  obtain ⟨xs,l1,l2,h1,h2,_⟩:=j8.bind_some hr;have:=j8.pure_some h2;injection this with h3 h4;subst h3;exact .cons (.fv _ _ (.bot _ hc.1)) (c3x h hc.2 h1)
 | some _::om,j,d::ds,vs,lg,hc,hr=>by
  obtain ⟨e,l1,l2,hrd,hp,_⟩:=j8.bind_some hr;have he:=(j8.rd_some hrd).1;simp only at he;have hD:=St.D_of_ent he;have hι:=(h.pins j d hc.1).2;have hre:=h.ents 0 j e he;obtain ⟨xs,l3,l4,h1,h2,_⟩:=j8.bind_some hp;have ht:=c3x h hc.2 h1;split at h2<;>try (cases h2;done)
  ·have:=j8.pure_some h2;injection this with h3 h4;subst h3;refine .cons ?_ ht;have:=RC.whole hD rfl hre;rwa [hι] at this
  ·have:=j8.pure_some h2;injection this with h3 h4;subst h3;refine .cons ?_ ht;obtain ⟨flat,fs,ho,_⟩:=hre;have:=RC.wholeO (F:=F) (D:=S.D) hD rfl ho;rwa [hι] at this
 | [],_,_::_,_,_,hc,_=>hc.elim
 | none::_,_,[],_,_,hc,_=>hc.elim
 | some _::_,_,[],_,_,hc,_=>hc.elim
theorem b0n(h:u7 Γ F ι S a w):∀{oms:List (Option (Nat×PM))} {cargs:List Value} {vs:List V} {ms:List PM} {lg:List (Nat×Nat)},a1G oms cargs Γ.pins->a7U oms S.ent=some ((vs,ms),lg)->∃cs,x9 (RV w F S.D ι) vs cs/\
  ∀{F1:Nat->Prop} {us:List V} {f:List Nat},BS w F1 us cs f->BO w F1 (a8u oms us) cargs f
 | [],_,vs,ms,lg,.nil _,hr=>by
  have:=j8.pure_some hr;injection this with h1 h2;injection h1 with h1 h3;subst h1;exact ⟨[],.nil,fun hb=>by cases hb;exact .nil⟩
 | none::oms,_,vs,ms,lg,.skip _ c cs _ t,hr=>by
  obtain ⟨cs',e1,e2⟩:=b0n h t hr;exact ⟨cs',e1,fun {F1 us f} hb=>.skip _ _ _ _ (e2 hb)⟩
 | some (j,.val ck om)::oms,_,vs,ms,lg,.agg _ _ _ _ ds cs _ hc t,hr=>by
  obtain ⟨xs,l1,l2,hxs,hp,_⟩:=j8.bind_some hr;obtain ⟨x,l3,l4,h1,h2,_⟩:=j8.bind_some hp;have:=j8.pure_some h2;injection this with h3 h4;injection h3 with h3 h5;subst h3;obtain ⟨cs',e1,e2⟩:=b0n h t h1;refine ⟨.agg ds.toArray::cs',.cons (.one _ _ (.agg _ _ (c3x h hc hxs))) e1,?_⟩;intro F1 us f hb;cases hb with
  | cons v c f vs cs fs h t=>exact .cons _ _ _ _ _ _ h (e2 t)
 | some (j,.val ck om)::oms,_,vs,ms,lg,.pin _ _ _ c cs _ hm hc t,hr=>by cases hm
 | some (j,.part)::oms,_,vs,ms,lg,.pin _ _ _ c cs _ hm hc t,hr=>by
  obtain ⟨e,l1,l2,hrd,hp,_⟩:=j8.bind_some hr;cases e<;>cases hp
 | some (j,.ptr ck om)::oms,_,vs,ms,lg,.pin _ _ _ c cs _ hm hc t,hr=>by
  obtain ⟨e,l1,l2,hrd,hp,_⟩:=j8.bind_some hr;have he:=(j8.rd_some hrd).1;simp only at he;have hD:=St.D_of_ent he;have hι:=(h.pins j c hc).2;have hre:=h.ents 0 j e he;cases e<;>try (cases hp;done)
  obtain ⟨x,l3,l4,h1,h2,_⟩:=j8.bind_some hp;have:=j8.pure_some h2;injection this with h3 h4;injection h3 with h3 h5;subst h3;obtain ⟨cs',e1,e2⟩:=b0n h t h1;obtain ⟨g,cur,q1,q2,q3⟩:=hre;refine ⟨c::cs',.cons (.one _ _ (.cell _ _ ?_)) e1,?_⟩
  ·rw [<-hι,q1];exact .ptr 0 j 0 g hD q1
  ·intro F1 us f hb;cases hb with
   | cons v c f vs cs fs h t=>exact .cons _ _ _ _ _ _ h (e2 t)
 | some (j,.row)::oms,_,vs,ms,lg,.pin _ _ _ c cs _ hm hc t,hr=>by
  obtain ⟨e,l1,l2,hrd,hp,_⟩:=j8.bind_some hr;have he:=(j8.rd_some hrd).1;simp only at he;have hD:=St.D_of_ent he;have hι:=(h.pins j c hc).2;have hre:=h.ents 0 j e he;cases e<;>try (cases hp;done)
  case row=>
   obtain ⟨x,l3,l4,h1,h2,_⟩:=j8.bind_some hp;have:=j8.pure_some h2;injection this with h3 h4;injection h3 with h3 h5;subst h3;obtain ⟨cs',e1,e2⟩:=b0n h t h1;refine ⟨c::cs',.cons (.one _ _ (.cell _ _ ?_)) e1,?_⟩
   ·have:=RC.whole hD rfl hre;rwa [hι] at this
   ·intro F1 us f hb;cases hb with
    | cons v c f vs cs fs h t=>exact .cons _ _ _ _ _ _ h (e2 t)
  case deep o _ _ _ _=>
   cases o<;>try (cases hp;done)
   obtain ⟨x,l3,l4,h1,h2,_⟩:=j8.bind_some hp;have:=j8.pure_some h2;injection this with h3 h4;injection h3 with h3 h5;subst h3;obtain ⟨cs',e1,e2⟩:=b0n h t h1;obtain ⟨flat,fs,ho,_⟩:=hre;refine ⟨c::cs',.cons (.one _ _ (.cell _ _ ?_)) e1,?_⟩
   ·have:=RC.wholeO (F:=F) (D:=S.D) hD rfl ho;rwa [hι] at this
   ·intro F1 us f hb;cases hb with
    | cons v c f vs cs fs h t=>exact .cons _ _ _ _ _ _ h (e2 t)
theorem x9.app{α β:Type}{R:α->β->Prop}:∀{B7 bs cs ds},x9 R B7 bs->x9 R cs ds->x9 R (B7++cs) (bs++ds)
 | _,_,_,_,.nil,k=>k
 | _,_,_,_,.cons hx t,k=>.cons hx (t.app k)
theorem BS.split:∀{c1 c2:List Value} {vs:List V} {f:List Nat},BS w F vs (c1++c2) f->∃f1 f2,f=f1++f2/\BS w F (vs.take c1.length) c1 f1/\BS w F (vs.drop c1.length) c2 f2
 | [],c2,vs,f,h=>⟨[],f,rfl,by simpa using .nil,by simpa using h⟩
 | c::c1,c2,_,_,.cons v _ f vs _ fs h t=>by
  obtain ⟨f1,f2,rfl,h1,h2⟩:=BS.split t;exact ⟨f++f1,f2,by simp,.cons _ _ _ _ _ _ h h1,h2⟩
theorem BS.pack{vs:List V}{cs:List Value}{f:List Nat}(h:BS w F vs cs f):BR w F (b9S vs) (b5n cs) f:=by
 cases h with
 | nil=>exact .tup _ _ _ .nil
 | cons v c f vs cs fs h t=>
  cases t with
  | nil=>rw [f9o];exact .one _ _ _ h
  | cons v' c' f' vs' cs' fs' h' t'=>exact .tup _ _ _ (.cons _ _ _ _ _ _ h (.cons _ _ _ _ _ _ h' t'))
theorem K6.ret{X:O9}{res:V}{outs:List (Option V)}{ps:List Prop}(hf:cx.P.funcs[X.f]?=some X.fn)(hr:c4m cx X k S=some (res,outs,ps))(hob:∀p∈ps,p):K6 cx X res outs k S:=by
 obtain ⟨r,n,lg,hR,rfl,rfl,rfl,hk⟩:∃r n lg,c32 cx X S.t S.ent=some ((r,n),lg)/\b9S (r.v.take n)=res/\a8u X.oms (r.v.drop n)=outs/\r.obl=ps/\(k=[]\/∃k',k=.code .ret::k'):=by
  unfold c4m at hr;split at hr<;>try (cases hr;done)
  all_goals
   split at hr<;>try (cases hr;done)
   rename_i r n lg hR;injection hr with hr;injection hr with h1 h2;injection h2 with h2 h3;first|exact ⟨r,n,lg,hR,h1,h2,h3,.inr ⟨_,rfl⟩⟩|exact ⟨r,n,lg,hR,h1,h2,h3,.inl rfl⟩
 intro w0 F0 fp cargs bs hp hF0 F ι a w b cs h hb1 hb2;unfold c32 at hR;obtain ⟨rv,l1,l2,g1,g2,_⟩:=j8.bind_some hR;obtain ⟨⟨ov,om⟩,l3,l4,g3,g4,_⟩:=j8.bind_some g2;obtain ⟨r',l5,l6,g5,g6,_⟩:=j8.bind_some g4;simp only at g6;split at g6<;>try (cases g6;done)
 rename_i hchk;have:=j8.pure_some g6;injection this with e1 e2;injection e1 with e1 e3;subst e1;subst e3;simp only [f8D] at hchk;obtain ⟨⟨hnk,hls⟩,hlen⟩:=hchk;have hnk':=a5c hnk;have hdis:∀id∈r.ls,id ∉ r.ks:=fun id hid=>b7J (f8E.1 hls id hid)
 obtain ⟨rcs,q1,q2⟩:=c9Y h g1;obtain ⟨ocs,q3,q4⟩:=b0n h hp g3;let F1:Nat->Prop:=fun k=>F k\/∃id∈r.ls,∃e,S.ent id.1 id.2=some e/\EB w e (ι id.1 id.2) k
 obtain ⟨fpx,hbs,hfps,hhk,hhl⟩:=d19 (F1:=F1) h (fun k x=>.inl x) (q2.app q3) g5 hob (fun id hid e k he hk=>.inr ⟨id,hid,e,he,hk⟩);obtain ⟨f1,f2,hf12,b1,b2⟩:=hbs.split;have hl2:rcs.length=rv.length:=q2.length.symm;rw [hl2] at b1 b2;have hfpn:=M5.nodup h hfps hnk';have hF1lt:∀k,F1 k->k<w.heap.size:=by
  rintro k (x|⟨id,hid,e,he,hb⟩)
  ·exact h.F1 k x
  ·obtain ⟨e',he',hl'⟩:=hhl id hid;have:e=e':=by rw [he] at he';injection he'
   subst this;exact h.lt he hl' hb
 have hfin:d3N w0 F0 fp cargs (b9S (r.v.take rv.length)) (a8u X.oms (r.v.drop rv.length)) (.returned (b5n rcs)) w:=by
  refine ⟨b5n rcs,F1,f1,f2,rfl,h.kept,fun k x=>.inl (h.F0 k x),?_,b1.pack,q4 b2,?_,?_⟩
  ·rintro k x
   refine ⟨?_,hF1lt k x⟩;rcases x with x|⟨id,hid,e,he,hb⟩
   ·exact h.F2 k x
   ·obtain ⟨e',he',hl'⟩:=hhl id hid;have:e=e':=by rw [he] at he';injection he'
    subst this;exact .inr (h.sep _ _ _ k he hl' hb).2
  ·rw [<-hf12];exact hfpn
  ·intro k hk;rw [<-hf12] at hk;obtain ⟨id,hid,e,he,hl,hb⟩:=hfps.mem hk;obtain ⟨z1,z2⟩:=h.sep _ _ e k he hl hb;refine ⟨?_,z2,h.lt he hl hb⟩;rintro (x|⟨id',hid',e0,he0,hb'⟩)
   ·exact z1 x
   ·obtain ⟨e',he',hl'⟩:=hhl id' hid';have:e0=e':=by rw [he0] at he';injection he'
    subst this;obtain ⟨y1,y2⟩:=h.inj _ _ e _ _ _ k he he' hl hl' hb hb';have:id=id':=Prod.ext y1 y2;exact hdis id' hid' (this▸hid)
 have hres:=f3g (P:=cx.P) q1;rcases hk with rfl|⟨k',rfl⟩
 ·exact ⟨_,w,_,hfin,.one step_end,hb1,rfl,h.defers,hb2,X.fn,by show cx.P.funcs[b.fn]?=_;rw [hb1];exact hf,hres⟩
 ·exact ⟨_,w,_,hfin,.one step_ret,hb1,rfl,h.defers,hb2,X.fn,by show cx.P.funcs[b.fn]?=_;rw [hb1];exact hf,hres⟩
end
inductive Loc where
 | tmp (t:Nat)
 | sub (t i:Nat)
 | cell (g j i:Nat)
def St.get(S:St):Loc->Option V
 | .tmp t=>S.t[t]?
 | .sub t i=>match S.t[t]? with
  | some (.agg cs)=>cs[i]?
  | _=>none
 | .cell g j i=>match S.ent g j with
  | some (.var _ cs)=>cs[i]?
  | _=>none
def St.put(S:St)(l:Loc)(v:V):St:=
 match l with
 | .tmp t=>{S with t:=S.t.set t v}
 | .sub t i=>match S.t[t]? with
  | some (.agg cs)=>{S with t:=S.t.set t (.agg (cs.set i v))}
  | _=>S
 | .cell g j i=>match S.ent g j with
  | some (.var e cs)=>S.setE g j (.var e (cs.set i v))
  | _=>S
inductive Fix where
 | own (l:Loc) (e sz:Nat)
 | frz (l:Loc) (ck:Option Nat)
 | is (l:Loc) (v:V)
 | ent (g j:Nat) (e:s9)
 | plug (g j idx off:Nat) (r:List V) (e:Nat)
 | shut (g j n:Nat) (rows:List (List V))
 | ownD (l:Loc) (e sz:Nat)
 | kill (g j:Nat)
def V.isCell:V->Bool
 | .agg _ | .tup _ | .bot=>false
 | _=>true
def a7o(f:Fix)(S:St):Option (St×List Prop):=
 match f with
 | .own l e sz=>match S.get l with
  | some .nil=>some (((S.more 1).lay S.h.length [.row e sz 0 []]).put l (.own S.h.length 0 sz 0 0),[])
  | _=>none
 | .frz l ck=>match S.get l with
  | some v=>if v.isCell then match fzP ck v S.ent with
   | some ((v',us,ps),_)=>some ((S.upds us).put l v',ps)
   | none=>none else none
  | none=>none
 | .is l v'=>match S.get l with
  | some v=>if v.isCell then some (S.put l v',[v=v']) else none
  | none=>none
 | .ent g j e'=>match S.ent g j with
  | some e=>some (S.setE g j e',[e=e'])
  | none=>none
 | .plug g j idx off r e=>match S.ent g j,r[off]? with
  | some (.deep o t sz n rows),some (.own g' j' sz' lo n')=>match T8 none (some e) (.own g' j' sz' lo n') S.ent with
   | some (f,_)=>if off+1<=sz/\a3l f.ks/\a1T f.ks (g,j)=false then some (S.upds (G5 f.ks++[((g,j),.deep o t sz n (rows.set idx (A7 r off [f.v])))]),(rows[idx]?=some r)::f.obl) else none
   | none=>none
  | _,_=>none
 | .kill g j=>match S.ent g j with
  | some _=>some (S.setE g j .dead,[])
  | none=>none
 | .shut g j n' rows'=>match S.ent g j with
  | some (.deep o t sz n rows)=>some (S.setE g j (.deep false t sz n' rows'),[rows=rows',I2 rows',n=n'])
  | _=>none
 | .ownD l e sz=>match S.get l with
  | some .nil=>some (((S.more 1).lay S.h.length [.deep false e sz 0 []]).put l (.own S.h.length 0 sz 0 0),[])
  | _=>none
def b3D:List Fix->St->Option (St×List Prop)
 | [],S=>some (S,[])
 | f::fs,S=>match a7o f S with
  | some (S1,ps)=>match b3D fs S1 with
   | some (S2,qs)=>some (S2,ps++qs)
   | none=>none
  | none=>none
section
variable {cx:Cx} {Γ:P3} {F:Nat->Prop} {ι:Nat->Nat->Value} {S S':St} {a:Act} {w:World}
theorem RV.isCell{D:Nat->Prop}{v:V}{c:Value}(h:RV w F D ι v c)(hv:v.isCell=true):RC w F D ι v c:=by
 cases h with
 | one v c h=>
  cases h with
  | cell v c h=>exact h
  | agg cs ds h=>cases hv
 | tup cs ds h=>cases hv
 | any c=>cases hv
theorem u7.withT(h:u7 Γ F ι S a w){t:List V}(ht:x9 (RV w F S.D ι) t a.tmps.toList):u7 Γ F ι {S with t:=t} a w:=
 {F0:=h.F0,F1:=h.F1,F2:=h.F2,kept:=h.kept,tmps:=ht,ents:=h.ents,sep:=h.sep,inj:=h.inj,defers:=h.defers,pins:=h.pins}
theorem x9.set_left{α β:Type}{R:α->β->Prop}{B7:List α}{bs:List β}(h:x9 R B7 bs){i:Nat}{x y:α}(hx:B7[i]?=some x)(hy:∀b,R x b->R y b):x9 R (B7.set i y) bs:=by
 obtain ⟨b,hb,hr⟩:=h.get hx;have:=h.set i (hy b hr);rwa [a0y hb] at this
theorem u7.putL(h:u7 Γ F ι S a w){l:Loc}{v v':V}(hg:S.get l=some v)(hc:v.isCell=true)(hr:∀c,RC w F S.D ι v c->RC w F S.D ι v' c):u7 Γ F ι (S.put l v') a w:=by
 cases l with
 | tmp t=>
  exact h.withT (h.tmps.set_left hg fun c hv=>.one _ _ (.cell _ _ (hr c (hv.isCell hc))))
 | sub t i=>
  unfold St.get at hg;unfold St.put;simp only at hg ⊢;split at hg<;>try (cases hg;done)
  rename_i cs hcs;try rw [hcs]
  refine h.withT (h.tmps.set_left hcs fun c hv => ?_);cases hv with
  | one v c hv=>
   cases hv with
   | cell v c hv=>cases hv with|fv v c hv=>cases hv
   | agg cs ds hv=>exact .one _ _ (.agg _ _ (hv.set_left hg hr))
 | cell g j i=>
  unfold St.get at hg;unfold St.put;simp only at hg ⊢;split at hg<;>try (cases hg;done)
  rename_i e cs hcs;try rw [hcs]
  try simp only
  refine h.write hcs rfl ⟨rfl,rfl,rfl⟩ rfl (fun _ _=>rfl) (fun _ => ?_) (fun _ hk=>hk);obtain ⟨g0,cur,h1,h2,h3⟩:=h.ents g j _ hcs;exact ⟨g0,cur,h1,h2,(h3.set_left hg hr).imp fun _ _ x=>x.mono (fun _ _ _=>rfl) (fun _ y=>y) (fun k y=>R2.2 y) (fun _ _ _=>rfl)⟩
theorem c77{grp:Nat}{new:List s9}{l:Loc}{v:V}(h:S.get l=some v)(hn:¬S.D grp):(S.lay grp new).get l=some v:=by
 cases l with
 | tmp t=>exact h
 | sub t i=>exact h
 | cell g j i=>
  unfold St.get at h ⊢;simp only at h ⊢;split at h<;>try (cases h;done)
  rename_i e cs hcs;have:g≠grp:=fun q=>hn (q▸St.D_of_ent hcs)
  rw [a7z this,hcs];exact h
theorem c8F{n:Nat}{l:Loc}{v:V}(h:S.get l=some v):(S.more n).get l=some v:=by
 cases l with
 | tmp t=>exact h
 | sub t i=>exact h
 | cell g j i=>
  unfold St.get at h ⊢;simp only at h ⊢;rw [b3q];exact h
theorem f5u{e:Nat}{v:V}{H:Hp}{f:AR V}{lg:List (Nat×Nat)}(h:T8 none (some e) v H=some (f,lg)):f.ls=[]:=by
 unfold T8 at h;simp only at h;split at h
 ·have:=j8.pure_some h;injection this with h1 h2;rw [h1]
 cases v<;>try (cases h;done)
 case nil=>
  have:=j8.pure_some h;injection this with h1 h2;rw [h1]
 case own g j sz lo n=>
  cases lo with
  | succ q=>cases h
  | zero=>
   simp only at h;obtain ⟨en,l1,l2,hrd,hp,_⟩:=j8.bind_some h;cases en<;>try (cases hp;done)
   case row=>
    simp only at hp;split at hp<;>try (cases hp;done)
    have:=j8.pure_some hp;injection this with h1 h2;rw [h1]
   case deep o _ _ _ _=>
    cases o<;>try (cases hp;done)
    simp only at hp;split at hp<;>try (cases hp;done)
    have:=j8.pure_some hp;injection this with h1 h2;rw [h1]
theorem e7R{g j idx off e:Nat}{r:List V}{ps:List Prop}(h:u7 Γ F ι S a w)(hf:a7o (.plug g j idx off r e) S=some (S',ps))(hob:∀p∈ps,p):u7 Γ F ι S' a w:=by
 unfold a7o at hf;simp only at hf;split at hf<;>try (cases hf;done)
 rename_i o t sz n rows g' j' sz' lo n' he hv;split at hf<;>try (cases hf;done)
 rename_i f lg hm;split at hf<;>try (cases hf;done)
 rename_i hcond;injection hf with hf;injection hf with h1 h2;subst h1;subst h2;obtain ⟨hoff,hks,hgj⟩:=hcond;have hr:rows[idx]?=some r:=hob _ (by simp);obtain ⟨flat,fs,hor,hkl,hrn,hl,hnd,hnr⟩:=h.ents g j _ he;have hidx:=(f8G.1 hr).1;have hpos:idx*sz+sz<=n*sz:=by rw [<-f9N];exact f9g _ (by omega)
 have hle:idx*sz+off+1<=rows.flatten.length:=by rw [a3N hl,hrn];omega
 have hmid:(rows.flatten.drop (idx*sz+off)).take 1=[.own g' j' sz' lo n']:=by
  have:(rows.flatten.drop (idx*sz+off)).take 1=(r.drop off).take 1:=by
   rw [<-b22 hl hr,List.drop_take,List.take_take,g0x];congr 1
   omega
  rw [this];obtain ⟨hlt,hv'⟩:=f8G.1 hv;rw [f8W hlt,hv'];rfl
 obtain ⟨fa,fm,fb,rfl,ka,km,kb⟩:=hkl.cut hle;rw [hmid] at km;obtain ⟨c,hc,hkc⟩:∃c,(flat.drop (idx*sz+off)).take 1=[c]/\RC w F S.D ι (.own g' j' sz' lo n') c:=by
  generalize (flat.drop (idx*sz+off)).take 1=cs at km;cases km with
  | cons v c f vs cs fs h t=>
   cases t;refine ⟨c,rfl,?_⟩;cases h with
   | rc h=>exact h
   | bc _ h=>cases h with
    | fv _ _ h=>exact .fv _ _ h
 obtain ⟨fp,hb,hfps,_⟩:=c2q (F1:=F) h (fun _ x=>x) hkc hm (fun p hp=>hob p (f8J.2 (.inr hp))) (by rw [f5u hm];intro id hid;cases hid);have hbl:BL w F [f.v] [c] fp:=by
  have:=BL.cons _ _ _ _ _ _ hb .nil;simpa using this
 refine h.dput he hr (by simpa using hoff) hbl hfps (a5c hks) (fun q=>by rw [a6p.2 q] at hgj;cases hgj) ⟨rfl,rfl,rfl⟩ rfl (fun _ _=>rfl) ?_;intro flat2 ho2;have:=b1C ho2 hor (fun _ _=>rfl);subst this;have e1:A7 flat2 (idx*sz+off) [c]=flat2:=by
  unfold A7;rw [<-hc,f8U];have hl1:((flat2.drop (idx*sz+off)).take 1).length=1:=by rw [hc];rfl
  rw [hl1];have e2:∀k:Nat,flat2.take k++((flat2.drop k).take 1++flat2.drop (k+1))=flat2:=fun k=>by
   rw [<-g0x,f9A,f9A]
  exact e2 _
 rw [e1];exact ho2
theorem f8k{g j n':Nat}{rows':List (List V)}{ps:List Prop}(h:u7 Γ F ι S a w)(hf:a7o (.shut g j n' rows') S=some (S',ps))(hob:∀p∈ps,p):u7 Γ F ι S' a w:=by
 unfold a7o at hf;simp only at hf;split at hf<;>try (cases hf;done)
 rename_i o t sz n rows he;injection hf with hf;injection hf with h1 h2;subst h1;subst h2;have hrr:rows=rows':=hob _ (by simp);have hnr:I2 rows':=hob _ (by simp);have hnn:n=n':=hob _ (by simp);subst hrr;subst hnn;refine h.write he rfl ⟨rfl,rfl,rfl⟩ rfl (fun _ _=>rfl) (fun _ => ?_) (fun k hk=>hk);obtain ⟨flat,fs,q1,q2,q3,q4,q5,q6⟩:=h.ents g j _ he;exact ⟨flat,fs,q1,q2.mono (fun _ _ _=>rfl) (fun _ x=>x) (fun k x=>R2.2 x) (fun _ _ _=>rfl) (fun _ _=>rfl),q3,q4,q5,fun _=>hnr⟩
theorem d9M{f:Fix}{ps:List Prop}(h:u7 Γ F ι S a w)(hf:a7o f S=some (S',ps))(hob:∀p∈ps,p):∃F' ι',u7 Γ F' ι' S' a w:=by
 unfold a7o at hf;split at hf
 ·rename_i l e sz;split at hf<;>try (cases hf;done)
  rename_i hg;injection hf with hf;injection hf with hf hf2;subst hf;have hn:¬(S.more 1).D S.h.length:=fun q=>by
   obtain ⟨x,hx⟩:=a9W.1 q;have:=(f8G.1 hx).1;omega
  have hlen:S.h.length<(S.more 1).h.length:=by simp [St.more,a4c]
  have hor:OR w F e sz (.slice none 0 0) 0 []:=⟨[],⟨by simp,.inl ⟨rfl,rfl⟩⟩,.nil,rfl,by simp⟩
  have hno:∀(j:Nat) (e':s9) (k:Nat),([.row e sz 0 []]:List s9)[j]?=some e'->EB w e' (N2 ι S.h.length (.slice none 0 0) S.h.length j) k->False:=by
   intro j e' k he hk;rw [Q0] at hk;cases j with
   | zero=>
    simp at he;subst he;cases hk
   | succ j=>simp at he
  have h1:=(h.more 1).lay hlen hn (new:=[.row e sz 0 []]) (ι':=N2 ι S.h.length (.slice none 0 0)) (fun g j q=>b1r q)
   (fun j e' he=>by
    cases j with
    | zero=>
     simp at he;subst he;rw [Q0];exact hor
    | succ j=>simp at he)
   (fun j e' k he hl hk=>(hno j e' k he hk).elim)
   (fun j e' j' e'' k he he' hl hl' hk hk'=>(hno j e' k he hk).elim)
   (fun j e' g' j' e'' k he he' hl hl' hk=>(hno j e' k he hk).elim)
  refine ⟨F,_,h1.putL (c77 (c8F hg) hn) rfl fun c hc => ?_⟩;have hcn:c=.slice none 0 0:=by
   cases hc with
   | fv v c hc=>cases hc;rfl
  subst hcn;exact RC.whole (a0V hlen) Q0 hor
 ·rename_i l ck;split at hf<;>try (cases hf;done)
  rename_i v hg;split at hf<;>try (cases hf;done)
  rename_i hcell;split at hf<;>try (cases hf;done)
  rename_i v' us fps lg hz;injection hf with hf;injection hf with hf hf2;subst hf;subst hf2;have hfr:∀c,RC w F S.D ι v c->∃F',(∀k,F k->F' k)/\u7 Γ F' ι (S.upds us) a w/\Frz S (S.upds us)/\FV w F' v' c:=fun c hc=>b3M h (Frz.refl S) hc hz hob
  have hat:∃c,RC w F S.D ι v c:=by
   cases l with
   | tmp t=>
    obtain ⟨c,_,hv⟩:=h.tmps.get hg;exact ⟨c,hv.isCell hcell⟩
   | sub t i=>
    unfold St.get at hg;simp only at hg;split at hg<;>try (cases hg;done)
    rename_i cs hcs;obtain ⟨c,_,hv⟩:=h.tmps.get hcs;cases hv with
    | one v c hv=>
     cases hv with
     | cell v c hv=>cases hv with|fv v c hv=>cases hv
     | agg cs ds hv=>
      obtain ⟨c,_,hv⟩:=hv.get hg;exact ⟨c,hv⟩
   | cell g j i=>
    unfold St.get at hg;simp only at hg;split at hg<;>try (cases hg;done)
    rename_i e cs hcs;obtain ⟨g0,cur,h1,h2,h3⟩:=h.ents g j _ hcs;obtain ⟨c,_,hv⟩:=h3.get hg;exact ⟨c,hv⟩
  obtain ⟨c0,hc0⟩:=hat;obtain ⟨F',hF,hrel,hfz,hfv⟩:=hfr c0 hc0;clear hfr hfv;cases l with
  | tmp t=>
   obtain ⟨c,hct,hv⟩:=h.tmps.get hg;obtain ⟨F',hF,hrel,hfz,hfv⟩:=b3M h (Frz.refl S) (hv.isCell hcell) hz hob;refine ⟨F',ι,?_⟩;have ht:(S.upds us).t=S.t:=hfz.2.2.1;show u7 Γ F' ι {S.upds us with t:=(S.upds us).t.set t v'} a w
   refine hrel.withT ?_;have:=hrel.tmps.set t (b:=c) (.one _ _ (.cell _ _ (.fv _ _ hfv)));rwa [a0y hct] at this
  | sub t i=>
   unfold St.get at hg;simp only at hg;split at hg<;>try (cases hg;done)
   rename_i cs hcs;obtain ⟨c,hct,hv⟩:=h.tmps.get hcs;cases hv with
   | one v c hv=>
    cases hv with
    | cell v c hv=>cases hv with|fv v c hv=>cases hv
    | agg cs ds hv=>
     obtain ⟨c,hci,hvi⟩:=hv.get hg;obtain ⟨F',hF,hrel,hfz,hfv⟩:=b3M h (Frz.refl S) hvi hz hob;refine ⟨F',ι,?_⟩;have ht:(S.upds us).t=S.t:=hfz.2.2.1;unfold St.put;simp only [ht,hcs];have h2:=hrel.tmps;rw [ht] at h2;have:=hrel.withT (t:=S.t.set t (.agg (cs.set i v'))) ?_
     ·exact this
     ·have hagg:=h2.get hcs;obtain ⟨c',hct',hv'⟩:=hagg;rw [hct] at hct';injection hct' with hct';have hv2:x9 (RC w F' (S.upds us).D ι) cs ds:=by
       refine hv.imp fun _ _ x=>x.mono (fun _ _ _=>rfl) hF (fun k y=>(a0r S k us).2 y) (fun _ _ _=>rfl)
      have hset:=hv2.set i (b:=c) (.fv _ _ hfv);rw [a0y hci] at hset;have:=h2.set t (b:=.agg ds.toArray) (.one _ _ (.agg _ _ hset));rwa [a0y hct] at this
  | cell g j i=>
   unfold St.get at hg;simp only at hg;split at hg<;>try (cases hg;done)
   rename_i e cs hcs;obtain ⟨g0,cur,q1,q2,q3⟩:=h.ents g j _ hcs;obtain ⟨c,hci,hvi⟩:=q3.get hg;obtain ⟨F',hF,hrel,hfz,hfv⟩:=b3M h (Frz.refl S) hvi hz hob;refine ⟨F',ι,?_⟩;have hcs':(S.upds us).ent g j=some (.var e cs):=by
    rcases hfz.2.2.2 _ _ _ hcs with q|⟨e',sz,n,rows,q,_⟩
    ·exact q
    ·cases q
   unfold St.put;simp only [hcs'];refine hrel.write hcs' rfl ⟨rfl,rfl,rfl⟩ rfl (fun _ _=>rfl) (fun _ => ?_) (fun _ hk=>hk);have hset:=(q3.imp fun _ _ x=>RC.mono (D':=((S.upds us).setE g j (.var e (cs.set i v'))).D) (F':=F') (w':=w) (ι':=ι) (fun _ _ _=>rfl) hF (fun k y=>R2.2 ((a0r S k us).2 y)) (fun _ _ _=>rfl) x).set i (b:=c) (.fv _ _ hfv);rw [a0y hci] at hset;exact ⟨g0,cur,q1,q2,hset⟩
 ·rename_i l v';split at hf<;>try (cases hf;done)
  rename_i v hg;split at hf<;>try (cases hf;done)
  rename_i hcell;injection hf with hf;injection hf with hf hf2;subst hf;subst hf2;have:v=v':=hob _ (by simp);subst this;exact ⟨F,ι,h.putL hg hcell fun _ x=>x⟩
 ·rename_i g j e';split at hf<;>try (cases hf;done)
  rename_i e he;injection hf with hf;injection hf with hf hf2;subst hf;subst hf2;have:e=e':=hob _ (by simp);subst this;have hset:S.setE g j e=S:=by
   obtain ⟨l,hl⟩:=St.D_of_ent he;rw [a21 hl];rw [a2f hl] at he;rw [a0y he,a0y hl]
  rw [hset];exact ⟨F,ι,h⟩
 ·rename_i g j idx off r e;exact ⟨F,ι,e7R (g:=g) (j:=j) (idx:=idx) (off:=off) (r:=r) (e:=e) h hf hob⟩
 ·rename_i g j;split at hf<;>try (cases hf;done)
  rename_i e he;injection hf with hf;injection hf with hf hf2;subst hf;exact ⟨F,ι,h.kill he⟩
 ·rename_i g j n' rows';exact ⟨F,ι,f8k (g:=g) (j:=j) (n':=n') (rows':=rows') h hf hob⟩
 ·rename_i l e sz;split at hf<;>try (cases hf;done)
  rename_i hg;injection hf with hf;injection hf with hf hf2;subst hf;have hn:¬(S.more 1).D S.h.length:=fun q=>by
   obtain ⟨x,hx⟩:=a9W.1 q;have:=(f8G.1 hx).1;omega
  have hlen:S.h.length<(S.more 1).h.length:=by simp [St.more,a4c]
  have hor:OR w F e sz (.slice none 0 0) 0 []:=⟨[],⟨by simp,.inl ⟨rfl,rfl⟩⟩,.nil,rfl,by simp⟩
  have hno:∀(j:Nat) (e':s9) (k:Nat),([.deep false e sz 0 []]:List s9)[j]?=some e'->EB w e' (N2 ι S.h.length (.slice none 0 0) S.h.length j) k->False:=by
   intro j e' k he hk;rw [Q0] at hk;cases j with
   | zero=>
    simp at he;subst he;have:=(EB.deep_iff (F:=F) (D:=S.D) (ι:=ι) (flat:=[]) (fs:=[]) ⟨by simp,.inl ⟨rfl,rfl⟩⟩ .nil).1 hk;simp [E2,B8] at this
   | succ j=>simp at he
  have h1:=(h.more 1).lay hlen hn (new:=[.deep false e sz 0 []]) (ι':=N2 ι S.h.length (.slice none 0 0)) (fun g j q=>b1r q)
   (fun j e' he=>by
    cases j with
    | zero=>
     simp at he;subst he;rw [Q0];exact ⟨[],[],⟨by simp,.inl ⟨rfl,rfl⟩⟩,.nil,rfl,by simp,by simp [E2,B8],fun _=>by simp [I2]⟩
    | succ j=>simp at he)
   (fun j e' k he hl hk=>(hno j e' k he hk).elim)
   (fun j e' j' e'' k he he' hl hl' hk hk'=>(hno j e' k he hk).elim)
   (fun j e' g' j' e'' k he he' hl hl' hk=>(hno j e' k he hk).elim)
  refine ⟨F,_,h1.putL (c77 (c8F hg) hn) rfl fun c hc => ?_⟩;have hcn:c=.slice none 0 0:=by
   cases hc with
   | fv v c hc=>cases hc;rfl
  subst hcn;exact RC.whole (a0V hlen) Q0 hor
theorem f2v(fs:List Fix):∀{S:St} {F:Nat->Prop} {ι:Nat->Nat->Value} {ps:List Prop},u7 Γ F ι S a w->b3D fs S=some (S',ps)->(∀p∈ps,p)->∃F' ι',u7 Γ F' ι' S' a w:=by
 induction fs with
 | nil=>
  intro S F ι ps h hf hob;injection hf with hf;injection hf with hf hf2;subst hf;exact ⟨F,ι,h⟩
 | cons f fs ih=>
  intro S F ι ps h hf hob;unfold b3D at hf;cases h1:a7o f S with
  | none=>rw [h1] at hf;cases hf
  | some x1=>
  obtain ⟨S1,ps1⟩:=x1;rw [h1] at hf;simp only at hf;cases h2:b3D fs S1 with
  | none=>rw [h2] at hf;cases hf
  | some x2=>
  obtain ⟨S2,ps2⟩:=x2;rw [h2] at hf;simp only at hf;injection hf with hf;injection hf with hf hf2;subst hf;subst hf2;obtain ⟨F1,ι1,h3⟩:=d9M h h1 (fun p hp=>hob p (f8B.2 (.inl hp)));exact ih h3 h2 (fun p hp=>hob p (f8B.2 (.inr hp)))
end
def a8a:List (Nat×Nat)->Nat×Nat->Nat->Option Nat
 | [],_,_=>none
 | y::l,x,i=>if y.1==x.1&&y.2==x.2 then some i else a8a l x (i+1)
def a9T(gs:List (Nat×Nat))(g j:Nat):Option (Nat×Nat):=
 match a8a gs (g,j) 1 with
 | some i=>some (i,0)
 | none=>match g with
  | 0=>some (0,j)
  | _+1=>none
def X1(gs:List (Nat×Nat))(v:V):V:=
 match v with
 | .own g j sz lo n=>match a9T gs g j with
  | some (g',j')=>.own g' j' sz lo n
  | none=>.bot
 | .ptr g j off=>match a9T gs g j with
  | some (g',j')=>.ptr g' j' off
  | none=>.bot
 | .eptr g j sz idx off=>match a9T gs g j with
  | some (g',j')=>.eptr g' j' sz idx off
  | none=>.bot
 | .fptr _=>.bot
 | .mp g j=>match a9T gs g j with
  | some (g',j')=>.mp g' j'
  | none=>.bot
 | v=>v
def b32(gs:List (Nat×Nat))(v:V):V:=
 match v with
 | .agg cs=>.agg (cs.map (X1 gs))
 | v=>X1 gs v
def c7c(gs:List (Nat×Nat))(v:V):V:=
 match v with
 | .tup cs=>.tup (cs.map (b32 gs))
 | v=>b32 gs v
def a9u(gs:List (Nat×Nat))(e:s9):s9:=
 match e with
 | .var e cs=>.var e (cs.map (X1 gs))
 | .deep true _ _ _ _=>.dead
 | e=>e
def a8Q(gs:List (Nat×Nat)):Nat->List Nat->List V->List V
 | _,_,[]=>[]
 | i,[],_::vs=>.bot::a8Q gs (i+1) [] vs
 | i,k::ks,v::vs=>if Nat.beq k i then c7c gs v::a8Q gs (i+1) ks vs else .bot::a8Q gs (i+1) (k::ks) vs
def a8j(S:St)(gs0:List (Nat×Nat)):List (Nat×Nat)->List (Option (List s9))
 | []=>[]
 | id::gs=>some [match S.ent id.1 id.2 with
  | some e=>a9u gs0 e
  | none=>.dead]::a8j S gs0 gs
def b1y(gs:List (Nat×Nat)):Nat->List s9->List s9
 | _,[]=>[]
 | j,e::es=>(match a8a gs (0,j) 1 with
  | some _=>.dead
  | none=>a9u gs e)::b1y gs (j+1) es
def a1w(keep:List Nat)(gs:List (Nat×Nat))(S:St):Option St:=
 if a3l gs then
  some {t:=a8Q gs 0 keep S.t,h:=(match S.h with
   | some l::_=>some (b1y gs 0 l)
   | _=>none)::a8j S gs gs}
 else none
section
variable {cx:Cx} {Γ:P3} {F:Nat->Prop} {ι:Nat->Nat->Value} {S S':St} {a:Act} {w:World} {keep:List Nat}
theorem d2m:∀{l:List (Nat×Nat)} {x:Nat×Nat} {i k:Nat},a8a l x i=some k->i<=k/\l[k-i]?=some x
 | [],x,i,k,h=>by cases h
 | y::l,x,i,k,h=>by
  unfold a8a at h;split at h
  ·rename_i q;injection h with h;subst h;simp at q;have:y=x:=Prod.ext q.1 q.2;exact ⟨f8R _,by simp [this]⟩
  ·obtain ⟨h1,h2⟩:=d2m h;refine ⟨by omega,?_⟩;have:k-i=(k-(i+1))+1:=by omega
   rw [this];simpa using h2
def a5y(ι:Nat->Nat->Value)(gs:List (Nat×Nat))(g j:Nat):Value:=
 match g with
 | 0=>ι 0 j
 | g+1=>match gs[g]? with
  | some id=>ι id.1 id.2
  | none=>.nilFunc
theorem c4p{gs0:List (Nat×Nat)}:∀{gs:List (Nat×Nat)} {i:Nat} {id:Nat×Nat},gs[i]?=some id->(a8j S gs0 gs)[i]?=some (some [match S.ent id.1 id.2 with
  | some e=>a9u gs0 e
  | none=>.dead])
 | id'::gs,0,id,h=>by simp at h;subst h;simp [a8j]
 | id'::gs,i+1,id,h=>by simp at h;simp [a8j,c4p h]
theorem c83{gs0:List (Nat×Nat)}:∀{gs:List (Nat×Nat)},(a8j S gs0 gs).length=gs.length
 | []=>rfl
 | _::gs=>by simp [a8j,c83]
theorem d50{gs:List (Nat×Nat)}(hp:a1w keep gs S=some S')(hD:S.D 0):S'.D 0:=by
 unfold a1w at hp;split at hp<;>try (cases hp;done)
 injection hp with hp;subst hp;obtain ⟨l,hl⟩:=hD;have:∃t,S.h=some l::t:=by
  cases hh:S.h with
  | nil=>rw [hh] at hl;simp at hl
  | cons x t=>rw [hh] at hl;simp at hl;exact ⟨t,by rw [hl]⟩
 obtain ⟨t,ht⟩:=this;rw [ht];exact ⟨_,rfl⟩
theorem b4t{gs:List (Nat×Nat)}(hp:a1w keep gs S=some S'){g j g' j':Nat}(hn:a9T gs g j=some (g',j'))(hD:S.D g):S'.D g'/\a5y ι gs g' j'=ι g j:=by
 unfold a9T at hn;split at hn
 ·rename_i i hi;injection hn with hn;injection hn with h1 h2;subst h1;subst h2;unfold a1w at hp;split at hp<;>try (cases hp;done)
  injection hp with hp;subst hp;obtain ⟨h3,h4⟩:=d2m hi;obtain ⟨m,rfl⟩:∃m,i=m+1:=⟨i-1,by omega⟩
  simp only [Nat.add_sub_cancel] at h4;refine ⟨⟨_,(f9T).trans (c4p h4)⟩,?_⟩;simp [a5y,h4]
 ·split at hn<;>try (cases hn;done)
  injection hn with hn;injection hn with h1 h2;subst h1;subst h2;exact ⟨d50 hp hD,rfl⟩
theorem d1e:∀{l:List (Nat×Nat)} {x:Nat×Nat} {i:Nat},a8a l x i=none->x ∉ l
 | [],x,i,_=>by simp
 | y::l,x,i,h=>by
  unfold a8a at h;split at h
  ·cases h
  ·rename_i q;intro hx;rcases f8J.1 hx with rfl|hx
   ·simp at q
   ·exact d1e h hx
theorem d41{gs:List (Nat×Nat)}:∀{l:List s9} {i j:Nat} {e:s9},(b1y gs i l)[j]?=some e->e=.dead\/∃e0,l[j]?=some e0/\e=a9u gs e0/\(0,i+j) ∉ gs
 | [],i,j,e,h=>by simp [b1y] at h
 | e1::l,i,0,e,h=>by
  simp only [b1y,f9L] at h;injection h with h;split at h
  ·exact .inl h.symm
  ·rename_i hq;exact .inr ⟨e1,rfl,h.symm,by simpa using d1e hq⟩
 | e1::l,i,j+1,e,h=>by
  simp only [b1y,f9T] at h;rcases d41 h with h1|⟨e0,h1,h2,h3⟩
  ·exact .inl h1
  ·exact .inr ⟨e0,by simpa using h1,h2,by rw [show i+(j+1)=i+1+j by omega];exact h3⟩
theorem RC.ren{gs:List (Nat×Nat)}(hp:a1w keep gs S=some S'){v:V}{c:Value}(h:RC w F S.D ι v c):RC w F S'.D (a5y ι gs) (X1 gs v) c:=by
 cases h with
 | fv v c h=>
  have:X1 gs v=v:=by cases h<;>rfl
  rw [this];exact .fv _ _ h
 | own g j sz lo n b nn cap hD hι hlo hb0 hb1=>
  unfold X1;simp only;split
  ·rename_i g' j' hn;obtain ⟨h1,h2⟩:=b4t (ι:=ι) hp hn hD;exact .own g' j' sz lo n b nn cap h1 (h2.trans hι) hlo hb0 hb1
  ·exact .fv _ _ (.bot _ rfl)
 | own0 g j sz lo b cap hD hlo=>
  unfold X1;simp only;split
  ·rename_i g' j' hn;obtain ⟨h1,h2⟩:=b4t (ι:=ι) hp hn hD;exact .own0 g' j' sz lo b cap h1 hlo
  ·exact .fv _ _ (.bot _ rfl)
 | ptr g j off B8 hD hι=>
  unfold X1;simp only;split
  ·rename_i g' j' hn;obtain ⟨h1,h2⟩:=b4t (ι:=ι) hp hn hD;exact .ptr g' j' off B8 h1 (h2.trans hι)
  ·exact .fv _ _ (.bot _ rfl)
 | eptr g j sz idx off b hD hι=>
  unfold X1;simp only;split
  ·rename_i g' j' hn;obtain ⟨h1,h2⟩:=b4t (ι:=ι) hp hn hD;exact .eptr g' j' sz idx off b h1 (by rw [h2];exact hι)
  ·exact .fv _ _ (.bot _ rfl)
 | fptr cs g o ds hF h hs=>exact .fv _ _ (.bot _ rfl)
 | mp g j B8 hD hι=>
  unfold X1;simp only;split
  ·rename_i g' j' hn;obtain ⟨h1,h2⟩:=b4t (ι:=ι) hp hn hD;exact .mp g' j' B8 h1 (h2.trans hι)
  ·exact .fv _ _ (.bot _ rfl)
theorem x9.maps{α α' β:Type}{R:α->β->Prop}{R':α'->β->Prop}(f:α->α')(hf:∀x y,R x y->R' (f x) y):∀{B7 bs},x9 R B7 bs->x9 R' (B7.map f) bs
 | _,_,.nil=>.nil
 | _,_,.cons h t=>.cons (hf _ _ h) (t.maps f hf)
theorem RA.ren{gs:List (Nat×Nat)}(hp:a1w keep gs S=some S'){v:V}{c:Value}(h:RA w F S.D ι v c):RA w F S'.D (a5y ι gs) (b32 gs v) c:=by
 cases h with
 | cell v c h=>
  have:b32 gs v=X1 gs v:=by
   cases h with
   | fv v c h=>cases h<;>rfl
   | _=>rfl
  rw [this];exact .cell _ _ (h.ren hp)
 | agg cs ds h=>exact .agg _ _ (h.maps _ fun _ _ x=>x.ren hp)
theorem RV.ren{gs:List (Nat×Nat)}(hp:a1w keep gs S=some S'){v:V}{c:Value}(h:RV w F S.D ι v c):RV w F S'.D (a5y ι gs) (c7c gs v) c:=by
 cases h with
 | one v c h=>
  have:c7c gs v=b32 gs v:=by
   cases h with
   | cell v c h=>
    cases h with
    | fv v c h=>cases h<;>rfl
    | _=>rfl
   | agg cs ds h=>rfl
  rw [this];exact .one _ _ (h.ren hp)
 | tup cs ds h=>exact .tup _ _ (h.maps _ fun _ _ x=>x.ren hp)
 | any c=>exact .any c
theorem b7H{gs:List (Nat×Nat)}(hp:a1w keep gs S=some S'):∀{vs:List V} {cs:List Value},x9 (RV w F S.D ι) vs cs->∀(i:Nat) (ks:List Nat),x9 (RV w F S'.D (a5y ι gs)) (a8Q gs i ks vs) cs
 | _,_,.nil,i,ks=>by cases ks<;>exact .nil
 | _,_,.cons h t,i,[]=>.cons (.any _) (b7H hp t _ _)
 | _,_,.cons h t,i,k::ks=>by
  unfold a8Q;split
  ·exact .cons (h.ren hp) (b7H hp t _ _)
  ·exact .cons (.any _) (b7H hp t _ _)
theorem c04{gs:List (Nat×Nat)}(hp:a1w keep gs S=some S'){g j:Nat}{e:s9}(he:S'.ent g j=some e):e=.dead\/∃g0 j0 e0,S.ent g0 j0=some e0/\e=a9u gs e0/\a5y ι gs g j=ι g0 j0/\((g=0/\g0=0/\j=j0/\(0,j) ∉ gs)\/(∃i,g=i+1/\j=0/\gs[i]?=some (g0,j0))):=by
 unfold a1w at hp;split at hp<;>try (cases hp;done)
 injection hp with hp;subst hp;cases g with
 | zero=>
  unfold St.ent at he;simp only [f9L] at he;split at he<;>try (cases he;done)
  rename_i l hl;injection hl with hl;split at hl<;>try (cases hl;done)
  rename_i l0 t hh;injection hl with hl;subst hl;rcases d41 he with h1|⟨e0,h1,h2,h3⟩
  ·exact .inl h1
  ·exact .inr ⟨0,j,e0,by unfold St.ent;rw [hh];exact h1,h2,rfl,.inl ⟨rfl,rfl,rfl,by simpa using h3⟩⟩
 | succ i=>
  unfold St.ent at he;simp only [f9T] at he;split at he<;>try (cases he;done)
  rename_i l hl;have hlt:i<gs.length:=by
   have:=(f8G.1 hl).1;rwa [c83] at this
  have hgi:gs[i]?=some gs[i]:=f8z hlt;generalize gs[i]=id at hgi;rw [c4p hgi] at hl;injection hl with hl;injection hl with hl;subst hl;cases j with
  | succ j=>simp at he
  | zero=>
   simp only [f9L] at he;injection he with he;cases hx:S.ent id.1 id.2 with
   | none=>rw [hx] at he;exact .inl he.symm
   | some e0=>
    rw [hx] at he;exact .inr ⟨id.1,id.2,e0,hx,he.symm,by simp [a5y,hgi],.inr ⟨i,rfl,rfl,hgi⟩⟩
theorem e2M{α:Type}{l:List α}(h:l.Nodup){i j:Nat}{x:α}(hi:l[i]?=some x)(hj:l[j]?=some x):i=j:=by
 obtain ⟨h1,h2⟩:=f8G.1 hi;obtain ⟨h3,h4⟩:=f8G.1 hj;exact (List.getElem_inj h).1 (h2.trans h4.symm)
theorem e9Y{gs:List (Nat×Nat)}(h:u7 Γ F ι S a w)(hp:a1w keep gs S=some S'):∃ι',u7 Γ F ι' S' a w:=by
  have hnd:gs.Nodup:=by
    unfold a1w at hp;split at hp<;>try (cases hp;done)
    rename_i hchk;exact a5c hchk
  have hlive:∀e:s9,(a9u gs e).live=true->e.live=true/\∀c k,EB w (a9u gs e) c k->EB w e c k:=by
    intro e he;cases e with
    | deep o e sz n rows=>
      cases o with
      | true=>cases he
      | false=>exact ⟨rfl,fun _ _ hk=>hk⟩
    | _=>exact ⟨he,fun _ _ hk=>hk⟩
  have ht:S'.t=a8Q gs 0 keep S.t:=by
    unfold a1w at hp;split at hp<;>try (cases hp;done)
    injection hp with hp;subst hp;rfl
  refine ⟨a5y ι gs,?_⟩;exact
    { F0:=h.F0,F1:=h.F1,F2:=h.F2,kept:=h.kept
      tmps:=by rw [ht];exact b7H hp h.tmps 0 keep
      ents:=fun g j e he=>by
        rcases c04 (ι:=ι) hp he with rfl|⟨g0,j0,e0,h0,rfl,h2,_⟩
        · trivial
        · rw [h2];have hr:=h.ents _ _ _ h0;cases e0 with
          | var e cs=>
            obtain ⟨g1,cur,q1,q2,q3⟩:=hr;exact ⟨g1,cur,q1,q2,q3.maps _ fun _ _ x=>x.ren hp⟩
          | dead=>exact hr
          | arr e sz n rows=>exact hr
          | row e sz n rows=>exact hr
          | frz sz n rows=>exact hr
          | map t m es=>exact hr
          | deep o e sz n rows=>
            cases o with
            | true=>trivial
            | false=>
              obtain ⟨flat,fs,q1,q2,q3,q4,q5,q6⟩:=hr;exact ⟨flat,fs,q1,(q2.blOf (q6 rfl).flat).kl,q3,q4,q5,q6⟩
      sep:=fun g j e k he hl hk=>by
        rcases c04 (ι:=ι) hp he with rfl|⟨g0,j0,e0,h0,rfl,h2,_⟩
        · cases hl
        · rw [h2] at hk;exact h.sep _ _ _ k h0 (hlive _ hl).1 ((hlive _ hl).2 _ _ hk)
      inj:=fun g1 j1 e1 g2 j2 e2 k he1 he2 hl1 hl2 hk1 hk2=>by
        rcases c04 (ι:=ι) hp he1 with rfl|⟨x1,y1,z1,a1,rfl,b1,c1⟩
        · cases hl1
        rcases c04 (ι:=ι) hp he2 with rfl|⟨x2,y2,z2,a2,rfl,b2,c2⟩
        · cases hl2
        rw [b1] at hk1;rw [b2] at hk2;obtain ⟨q1,q2⟩:=h.inj _ _ _ _ _ _ k a1 a2 (hlive _ hl1).1 (hlive _ hl2).1 ((hlive _ hl1).2 _ _ hk1) ((hlive _ hl2).2 _ _ hk2);rcases c1 with ⟨u1,u2,u3,u4⟩|⟨i1,u1,u2,u3⟩<;>rcases c2 with ⟨v1,v2,v3,v4⟩|⟨i2,v1,v2,v3⟩
        · exact ⟨by omega,by omega⟩
        · refine absurd (f8O v3) ?_;rw [<-q1,<-q2,u2,<-u3];exact u4
        · refine absurd (f8O u3) ?_;rw [q1,q2,v2,<-v3];exact v4
        · rw [q1,q2] at u3;have:=e2M hnd u3 v3;exact ⟨by omega,by omega⟩
      defers:=h.defers
      pins:=fun j c hc=>by
        obtain ⟨h1,h2⟩:=h.pins j c hc;exact ⟨d50 hp h1,h2⟩}
end
def b1g(cx:Cx)(k:List Item)(S:St)(sc:S8)(fs:List Fix)(keep:List Nat)(gs:List (Nat×Nat)):Option (List Item×St×List Prop):=
 match goM cx 4000 k S sc with
 | some (k1,S1,ps)=>match b3D fs S1 with
  | some (S2,qs)=>match a1w keep gs S2 with
   | some S3=>some (k1,S3,ps++qs)
   | none=>none
  | none=>none
 | none=>none
theorem K6.seg0{cx:Cx}{X:O9}{res:V}{outs:List (Option V)}{k k':List Item}{S S':St}{sc:S8}{fs:List Fix}{keep:List Nat}{gs:List (Nat×Nat)}{ps:List Prop}(hg:b1g cx k S sc fs keep gs=some (k',S',ps))(hob:∀p∈ps,p)(h:K6 cx X res outs k' S'):K6 cx X res outs k S:=by
 unfold b1g at hg;split at hg<;>try (cases hg;done)
 rename_i k1 S1 ps' h1;split at hg<;>try (cases hg;done)
 rename_i S2 qs h2;split at hg<;>try (cases hg;done)
 rename_i S3 h3;injection hg with hg;injection hg with e1 e2;injection e2 with e2 e3;subst e1;subst e2;subst e3;refine K6.go h1 (fun p hp=>hob p (f8B.2 (.inl hp))) ?_;intro w0 F0 fp cargs bs hp hF0 F ι a w b cs hrel hb1 hb2;obtain ⟨F',ι',hrel'⟩:=f2v fs hrel h2 (fun p hp=>hob p (f8B.2 (.inr hp)));obtain ⟨ι2,hrel2⟩:=e9Y hrel' h3;exact h w0 F0 fp cargs bs hp hF0 F' ι2 a w b cs hrel2 hb1 hb2
def b0w(cx:Cx)(X:O9)(k:List Item)(S:St)(sc:S8):Option (V×List (Option V)×List Prop):=
 match goM cx 4000 k S sc with
 | some (k1,S1,ps)=>match c4m cx X k1 S1 with
  | some (res,outs,qs)=>some (res,outs,ps++qs)
  | none=>none
 | none=>none
theorem K6.fin0{cx:Cx}{X:O9}{res:V}{outs:List (Option V)}{k:List Item}{S:St}{sc:S8}{ps:List Prop}(hf:cx.P.funcs[X.f]?=some X.fn)(hg:b0w cx X k S sc=some (res,outs,ps))(hob:∀p∈ps,p):K6 cx X res outs k S:=by
 unfold b0w at hg;split at hg<;>try (cases hg;done)
 rename_i k1 S1 ps' h1;split at hg<;>try (cases hg;done)
 rename_i r o qs h2;injection hg with hg;injection hg with e1 e2;injection e2 with e2 e3;subst e1;subst e2;subst e3;exact K6.go h1 (fun p hp=>hob p (f8B.2 (.inl hp))) (K6.ret hf h2 fun p hp=>hob p (f8B.2 (.inr hp)))
def P9:List Prop->Prop
 | []=>True
 | p::ps=>p/\P9 ps
theorem P9.mem:∀{ps:List Prop},P9 ps->∀p∈ps,p
 | _::_,h,p,hp=>by
  rcases f8J.1 hp with rfl|hp
  ·exact h.1
  ·exact P9.mem h.2 p hp
theorem P9.nil:P9 []:=trivial
theorem K6.seg{cx:Cx}{X:O9}{res:V}{outs:List (Option V)}{k k':List Item}{S S':St}(sc:S8)(fs:List Fix)(keep:List Nat)(gs:List (Nat×Nat))(ps:List Prop)(hob:P9 ps)(h:K6 cx X res outs k' S')(hg:b1g cx k S sc fs keep gs=some (k',S',ps)):K6 cx X res outs k S:=
 K6.seg0 hg hob.mem h
theorem K6.fin{cx:Cx}{X:O9}{res:V}{outs:List (Option V)}{k:List Item}{S:St}(hf:cx.P.funcs[X.f]?=some X.fn)(sc:S8)(ps:List Prop)(hob:P9 ps)(hg:b0w cx X k S sc=some (res,outs,ps)):K6 cx X res outs k S:=
 K6.fin0 hf hg hob.mem
def a51:V->Bool
 | .osl .. | .dsl .. | .optr .. => true
 | _=>false
def a1L:List (Option Nat)->List V->Bool
 | [],[]=>true
 | none::om,.osl .. :: _=>false
 | none::om,.dsl .. :: _=>false
 | none::om,_::vs=>a1L om vs
 | some _::om,.osl .. :: vs=>a1L om vs
 | some _::om,.dsl .. :: vs=>a1L om vs
 | _,_=>false
def d2U:PM->V->Bool
 | .val _ om,.agg vs=>a1L om vs
 | .val ..,_=>false
 | .part,_=>false
 | _,v=>a51 v
def a4t:Nat->List (Option (Nat×PM))->List V->Bool
 | _,[],[]=>true
 | j,none::os,v::vs=>a4t (j+(K3 0 j v).2.length) os vs
 | j,some (j',m)::os,v::vs=>Nat.beq j' j&&d2U m v&&a4t (j+(K3 0 j v).2.length) os vs
 | _,_,_=>false
def b84:Nat->List V
 | 0=>[]
 | n+1=>.bot::b84 n
def b0O(X:O9)(args:List V):St:=
 let x:=X9 0 0 args
 {t:=x.1++b84 (X.fn.ntmps-args.length),h:=[some x.2]}
section
variable {w:World} {F:Nat->Prop}
theorem d8K{v:V}{c:Value}{f:List Nat}(h:BA w F v c f)(j:Nat):∃bs:List Value,bs.length=(K3 0 j v).2.length/\H8 w (K3 0 j v).2 bs f/\(a51 v=true->bs.head?=some c)/\
  ∀(D:Nat->Prop) (ι:Nat->Nat->Value),D 0->At ι 0 j bs->f.Nodup->RA w F D ι (K3 0 j v).1 c/\Lie w F D ι (K3 0 j v).2 bs:=by
 by_cases ho:a51 v=true
 ·cases h with
  | cell v c f h=>
   cases h with
   | fv v c h=>cases h<;>cases ho
   | osl e sz n rows c h=>
    refine ⟨[c],rfl,.one fun k hk=>R3.2 hk,fun _=>rfl,fun D ι hD hat _=>⟨.cell _ _ (RC.whole hD (hat 0 c rfl) h),?_⟩⟩;intro k e' b he hb;cases k with
    | zero=>
     simp [K3,K0] at he hb;subst he;subst hb;exact h
    | succ k=>simp [K3,K0] at he
   | dsl e sz n rows c flat fs h1 h2 h3 h4=>
    obtain ⟨bs,q1,q2,q3⟩:=b6a (grp:=0) (BC.dsl e sz n rows c flat fs h1 h2 h3 h4) j;refine ⟨[c],rfl,.one fun k hk=>(EB.deep_iff (D:=fun _=>True) (ι:=fun _ _=>.nilFunc) h1 h2.kl).1 hk,fun _=>rfl,fun D ι hD hat hnd=>⟨.cell _ _ (RC.wholeO hD (hat 0 c rfl) h1),?_⟩⟩;intro k e' b he hb;cases k with
    | zero=>
     simp [K3,K0] at he hb;subst he;subst hb;exact ⟨flat,fs,h1,h2.kl,h3,h4,hnd,fun _=>I2.of_flat h2.noRef⟩
    | succ k=>simp [K3,K0] at he
  | agg cs ds f h=>cases ho
  | optr e cs g cur f hg h=>
   obtain ⟨bs,h1,h2,h3⟩:=a8W (grp:=0) h (j+1);refine ⟨.pointer (some ⟨g,0,none⟩)::bs,by simp [K3,h1],?_,fun _=>rfl,fun D ι hD hat hnd => ?_⟩
   ·exact H8.cons (w:=w) (e:=.var e (L7 0 (j+1) cs).1) (b:=.pointer (some ⟨g,0,none⟩)) (f1:=[g]) (fun k hk=>by
     have hk:B8 (.pointer (some ⟨g,0,none⟩))=some k:=hk;simp [B8] at hk;simp [hk]) h2
   have hat':At ι 0 (j+1) bs:=fun k b hb=>by
    have:=hat (k+1) b (by simpa using hb);rw [<-this];congr 1;omega
   obtain ⟨x,y⟩:=h3 D ι hD hat' (g0a.1 hnd).2;refine ⟨.cell _ _ (.ptr 0 j 0 g hD (hat 0 _ rfl)),?_⟩;intro k e' b he hb;cases k with
   | zero=>
    simp [K3] at he hb;subst he;subst hb;exact ⟨g,cur,rfl,hg,x⟩
   | succ k=>exact y k e' b (by simpa [K3] using he) (by simpa using hb)
 ·obtain ⟨bs,h1,h2,h3⟩:=c1x (grp:=0) h j;exact ⟨bs,h1,h2,fun q=>absurd q ho,h3⟩
theorem c5p{pre b1 b2:List Value}:∀{om:List (Option Nat)} {j:Nat} {ds:List Value},a6m (pre++b1) om j ds->a6m (pre++(b1++b2)) om j ds
 | [],_,[],_=>trivial
 | none::om,j,d::ds,h=>⟨h.1,c5p h.2⟩
 | some _::om,j,d::ds,h=>by
  refine ⟨?_,c5p h.2⟩;have h1:=h.1;rw [<-f8U,f8X (f8G.1 h1).1];exact h1
 | [],_,_::_,h=>h.elim
 | none::_,_,[],h=>h.elim
 | some _::_,_,[],h=>h.elim
theorem d6H:∀{vs:List V} {cs:List Value} {f:List Nat},BL w F vs cs f->∀j,∃bs:List Value,bs.length=(L7 0 j vs).2.length/\H8 w (L7 0 j vs).2 bs f/\
    (∀(om:List (Option Nat)) (pre:List Value),pre.length=j->a1L om vs=true->a6m (pre++bs) om j cs)/\
    ∀(D:Nat->Prop) (ι:Nat->Nat->Value),D 0->At ι 0 j bs->f.Nodup->x9 (RC w F D ι) (L7 0 j vs).1 cs/\Lie w F D ι (L7 0 j vs).2 bs
  | _,_,_,.nil,j=>⟨[],rfl,.nil,fun om pre _ h=>by cases om with|nil=>trivial|cons o om=>cases o<;>simp [a1L] at h,fun D ι hD hat _=>⟨.nil,fun k e b he=>by simp [L7] at he⟩⟩
  | _,_,_,.cons v c f vs cs fs h t,j=>by
    have hone:=h.one;have hb:∃b1:List Value,b1.length=(K0 0 j v).2.length/\H8 w (K0 0 j v).2 b1 f/\(a51 v=true->b1=[c])/\(a51 v=false->b1=[])/\∀(D:Nat->Prop) (ι:Nat->Nat->Value),D 0->At ι 0 j b1->f.Nodup->RC w F D ι (K0 0 j v).1 c/\Lie w F D ι (K0 0 j v).2 b1:=by
      cases h with
      | fv v c h=>
        obtain ⟨b1,q1,q2,q3⟩:=b6a (grp:=0) (BC.fv (w:=w) v c h) j;have hv:(K0 0 j v).2=[]/\a51 v=false:=by cases h<;>exact ⟨rfl,rfl⟩
        have:b1=[]:=f8N (by rw [q1,hv.1];rfl);exact ⟨b1,q1,q2,fun q=>by (rw [hv.2] at q;cases q),fun _=>this,q3⟩
      | osl e sz n rows c h=>
        refine ⟨[c],rfl,.one fun k hk=>R3.2 hk,fun _=>rfl,(fun q=>by cases q),fun D ι hD hat _=>⟨RC.whole hD (hat 0 c rfl) h,?_⟩⟩;intro k e' b he hb;cases k with
        | zero=>
          simp [K0] at he hb;subst he;subst hb;exact h
        | succ k=>simp [K0] at he
      | dsl e sz n rows c flat fs h1 h2 h3 h4=>
        refine ⟨[c],rfl,.one fun k hk=>(EB.deep_iff (D:=fun _=>True) (ι:=fun _ _=>.nilFunc) h1 h2.kl).1 hk,fun _=>rfl,(fun q=>by cases q),fun D ι hD hat hnd=>⟨RC.wholeO hD (hat 0 c rfl) h1,?_⟩⟩;intro k e' b he hb;cases k with
        | zero=>
          simp [K0] at he hb;subst he;subst hb;exact ⟨flat,fs,h1,h2.kl,h3,h4,hnd,fun _=>I2.of_flat h2.noRef⟩
        | succ k=>simp [K0] at he
    obtain ⟨b1,hl1,hf1,hi1,hi0,h1⟩:=hb;obtain ⟨b2,hl2,hf2,hp2,h2⟩:=d6H t (j+(K0 0 j v).2.length);refine ⟨b1++b2,by simp [L7,hl1,hl2],hf1.append hf2 hl1,?_,fun D ι hD hat hnd => ?_⟩
    · intro om pre hpre hok;have hnext:∀om,a1L om vs=true->a6m (pre++(b1++b2)) om (j+(K0 0 j v).2.length) cs:=by
        intro om hok;have:=hp2 om (pre++b1) (by simp [hpre,hl1]) hok;rwa [f8U] at this
      cases om with
      | nil=>simp [a1L] at hok
      | cons o om=>
        by_cases hv:a51 v=true
        · obtain rfl:=hi1 hv;have hlen:(K0 0 j v).2.length=1:=by rw [<-hl1];rfl
          rw [hlen] at hnext;cases o with
          | none => cases v<;>first|(cases hv;done)|(simp [a1L] at hok;done)|skip
                    cases h;rename_i h;cases h
          | some e=>
            refine ⟨?_,hnext om ?_⟩
            · rw [f8T (by omega)];simp [hpre]
            · cases v<;>first|(cases hv;done)|(simpa [a1L] using hok)|(simp [a1L] at hok;done)
        · have hv:a51 v=false:=by simpa using hv
          obtain rfl:=hi0 hv;have hlen:(K0 0 j v).2.length=0:=by rw [<-hl1];rfl
          rw [hlen] at hnext;cases o with
          | none=>
            refine ⟨hone,hnext om ?_⟩;cases v<;>first|(cases hv;done)|(simpa [a1L] using hok)
          | some e=>cases v<;>first|(cases hv;done)|(simp [a1L] at hok;done)
    · rw [f8L] at hnd;obtain ⟨x1,y1⟩:=h1 D ι hD hat.left hnd.1;obtain ⟨x2,y2⟩:=h2 D ι hD (by rw [<-hl1];exact hat.right) hnd.2.1;exact ⟨.cons x1 x2,y1.append y2 hl1.symm⟩
theorem f7f{v:V}{c:Value}{f:List Nat}(h:BA w F v c f)(j:Nat):∃bs:List Value,bs.length=(K3 0 j v).2.length/\H8 w (K3 0 j v).2 bs f/\
  (∀(m:PM) (oms:List (Option (Nat×PM))) (cs pre b2:List Value),pre.length=j->d2U m v=true->a1G oms cs (pre++(bs++b2))->a1G (some (j,m)::oms) (c::cs) (pre++(bs++b2)))/\
  ∀(D:Nat->Prop) (ι:Nat->Nat->Value),D 0->At ι 0 j bs->f.Nodup->RA w F D ι (K3 0 j v).1 c/\Lie w F D ι (K3 0 j v).2 bs:=by
 by_cases hv:∃cs,v=.agg cs
 ·obtain ⟨cs,rfl⟩:=hv;cases h with
  | cell v c f h=>cases h with|fv v c h=>cases h
  | agg cs ds f h=>
   obtain ⟨bs,h1,h2,hp,h3⟩:=d6H h j;refine ⟨bs,h1,h2,?_,fun D ι hD hat hnd=>⟨.agg _ _ (h3 D ι hD hat hnd).1,(h3 D ι hD hat hnd).2⟩⟩;intro m oms cs' pre b2 hpre hm t;cases m with
   | val ck om=>exact .agg _ _ _ _ _ _ _ (c5p (hp om pre hpre hm)) t
   | ptr ck om=>cases hm
   | row=>cases hm
   | part=>cases hm
 ·obtain ⟨bs,h1,h2,hh,h3⟩:=d8K h j;refine ⟨bs,h1,h2,?_,h3⟩;intro m oms cs' pre b2 hpre hm t;cases m with
  | val ck om=>cases v<;>first|exact absurd ⟨_,rfl⟩ hv|cases hm
  | part=>cases hm
  | ptr ck om=>
   refine .pin _ _ _ _ _ _ rfl ?_ t;have:=hh hm;cases bs with
   | nil=>cases this
   | cons b b1=>
    injection this with this;subst this;rw [f8T (by omega)];simp [hpre]
  | row=>
   refine .pin _ _ _ _ _ _ rfl ?_ t;have:=hh hm;cases bs with
   | nil=>cases this
   | cons b b1=>
    injection this with this;subst this;rw [f8T (by omega)];simp [hpre]
theorem f2u{vs:List V}{cs:List Value}{f:List Nat}(h:BS w F vs cs f):∀j,∃bs:List Value,bs.length=(X9 0 j vs).2.length/\H8 w (X9 0 j vs).2 bs f/\
  (∀(oms:List (Option (Nat×PM))) (pre:List Value),pre.length=j->a4t j oms vs=true->a1G oms cs (pre++bs))/\
  ∀(D:Nat->Prop) (ι:Nat->Nat->Value),D 0->At ι 0 j bs->f.Nodup->x9 (RA w F D ι) (X9 0 j vs).1 cs/\Lie w F D ι (X9 0 j vs).2 bs:=by
 induction h with
 | nil=>
  refine fun j=>⟨[],rfl,.nil,fun oms pre _ hp => ?_,fun D ι hD hat _=>⟨.nil,fun k e b he=>by simp [X9] at he⟩⟩
  cases oms with
  | nil=>exact .nil _
  | cons o oms=>cases o<;>simp [a4t] at hp
 | cons v c f vs cs fs h t ih=>
  intro j;obtain ⟨b1,hl1,hf1,hh1,h1⟩:=f7f h j;obtain ⟨b2,hl2,hf2,hp2,h2⟩:=ih (j+(K3 0 j v).2.length);refine ⟨b1++b2,by simp [X9,hl1,hl2],hf1.append hf2 hl1,?_,fun D ι hD hat hnd => ?_⟩
  ·intro oms pre hpre hp;cases oms with
   | nil=>simp [a4t] at hp
   | cons o oms=>
    have hnext:∀oms,a4t (j+(K3 0 j v).2.length) oms vs=true->a1G oms cs (pre++(b1++b2)):=by
     intro oms hp;have:=hp2 oms (pre++b1) (by simp [hpre,hl1]) hp;rwa [f8U] at this
    cases o with
    | none=>exact .skip _ _ _ _ (hnext oms (by simpa [a4t] using hp))
    | some q=>
     obtain ⟨j',m⟩:=q;simp only [a4t,f8D] at hp;obtain ⟨⟨e1,e2⟩,e3⟩:=hp;have hj:j'=j:=f9w e1;subst hj;exact hh1 m oms cs pre b2 hpre e2 (hnext oms e3)
  ·rw [f8L] at hnd;obtain ⟨x1,y1⟩:=h1 D ι hD hat.left hnd.1;obtain ⟨x2,y2⟩:=h2 D ι hD (by rw [<-hl1];exact hat.right) hnd.2.1;exact ⟨.cons x1 x2,y1.append y2 hl1.symm⟩
theorem d0r{D:Nat->Prop}{ι:Nat->Nat->Value}:∀n,x9 (RV w F D ι) (b84 n) (f8A n undef)
 | 0=>.nil
 | n+1=>.cons (.any _) (d0r n)
theorem BS.len{vs:List V}{cs:List Value}{f:List Nat}(h:BS w F vs cs f):vs.length=cs.length:=by
 induction h with
 | nil=>rfl
 | cons _ _ _ _ _ _ _ _ ih=>simp [ih]
end
theorem a0I.of{cx:Cx}{X:O9}{args:List V}{res:V}{outs:List (Option V)}{c:Code}(hf:cx.P.funcs[X.f]?=some X.fn)(hb:X.fn.body=some c) (hn:(X.fn.name == "runtime.NumGoroutine")=false) (ho:a4t 0 X.oms args=true)
    (h:K6 cx X res outs [.code c] (b0O X args)):a0I cx.P X.f args res outs:=by
  refine ⟨⟨X.fn,hf,hn,by rw [hb];rfl⟩,?_⟩;intro w F cargs fp hbs hfpn hfp hF;obtain ⟨bs,hl,hbf,hpin,hlie⟩:=f2u hbs 0;have hpin':=hpin X.oms [] rfl ho;rw [f9y] at hpin';obtain ⟨hargs,hents⟩:=hlie (b0O X args).D (a4M (fun _ _=>.nilFunc) 0 bs) ⟨_,rfl⟩ (fun k b hb=>by rw [f9I];exact a5b hb) hfpn;have hent:∀g j e,(b0O X args).ent g j=some e->g=0/\(X9 0 0 args).2[j]?=some e:=by
    intro g j e he;unfold St.ent b0O at he;cases g with
    | zero=>exact ⟨rfl,he⟩
    | succ g=>simp at he
  have hget:∀j e,(X9 0 0 args).2[j]?=some e->∃b,bs[j]?=some b/\a4M (fun _ _=>.nilFunc) 0 bs 0 j=b:=by
    intro j e he;have hj:j<bs.length:=by rw [hl];exact (f8G.1 he).1
    exact ⟨bs[j],f8z hj,a5b (f8z hj)⟩
  have hrel:u7 ⟨w,F,(· ∈ fp),bs⟩ F (a4M (fun _ _=>.nilFunc) 0 bs) (b0O X args) {tmps:=cargs.toArray++Array.replicate (X.fn.ntmps-cargs.toArray.size) undef,defers:=[]} w:=
    { F0:=fun _ x=>x,F1:=hF,F2:=fun _ x=>.inl x,kept:=.refl _ _
      tmps:=by
        show x9 _ ((X9 0 0 args).1++b84 (X.fn.ntmps-args.length)) _
        simp only [Array.toList_append,Array.toList_replicate,g0E];rw [hbs.len];exact (hargs.imp fun _ _ x=>RV.one _ _ x).app (d0r _)
      ents:=fun g j e he=>by
        obtain ⟨rfl,he⟩:=hent g j e he;obtain ⟨b,hb,hv⟩:=hget j e he;rw [hv];exact hents j e b he hb
      sep:=fun g j e k he hl' hk=>by
        obtain ⟨rfl,he⟩:=hent g j e he;obtain ⟨b,hb,hv⟩:=hget j e he;rw [hv] at hk;have:=hbf.mem he hb hk;exact ⟨(hfp k this).1,.inl this⟩
      inj:=fun g j e g' j' e' k he he' hl1 hl2 hk hk'=>by
        obtain ⟨rfl,he⟩:=hent g j e he;obtain ⟨rfl,he'⟩:=hent g' j' e' he';obtain ⟨b,hb,hv⟩:=hget j e he;obtain ⟨b',hb',hv'⟩:=hget j' e' he';rw [hv] at hk;rw [hv'] at hk';exact ⟨rfl,hbf.inj hfpn he hb hk he' hb' hk'⟩
      defers:=rfl
      pins:=fun j c hc=>⟨⟨_,rfl⟩,a5b hc⟩}
  intro cs;let b:Frame:={ (default:Frame) with fn:=X.f,kind:=.normal}
  have henter:Frame.enter cx.P X.f cargs.toArray .normal =
      b.at {tmps:=cargs.toArray++Array.replicate (X.fn.ntmps-cargs.toArray.size) undef,defers:=[]} [.code c]:=by
    simp [Frame.enter,Frame.at,hf,hb,b]
  obtain ⟨e,w',fr,h1,h2,h3,h4⟩:=h w F fp cargs bs hpin' hF F _ _ w b cs hrel rfl rfl;rw [<-henter] at h2;exact ⟨e,w',fr,h1,h2,h3,h4⟩
inductive j7 (R S B:Type) where
 | ret (r:R)
 | brk (b:B)
 | nxt (s:S)
inductive l9 (R B:Type) where
 | ret (r:R)
 | brk (b:B)
def a03{R S B:Type}(body:S->Option (j7 R S B)):Nat->S->Option (l9 R B)
 | 0,_=>none
 | n+1,s=>match body s with
  | some (.ret r)=>some (.ret r)
  | some (.brk s)=>some (.brk s)
  | some (.nxt s)=>a03 body n s
  | none=>none
open Classical in
def o8{R S B:Type}(body:S->Option (j7 R S B))(s:S):Option (l9 R B):=
 if h:∃n r,a03 body n s=some r then some h.choose_spec.choose else none
theorem c1l{R S B:Type}{body:S->Option (j7 R S B)}:∀{n:Nat} {s:S} {r:l9 R B},a03 body n s=some r->∀m,n<=m->a03 body m s=some r
 | 0,s,r,h,_,_=>by cases h
 | n+1,s,r,h,0,hm=>by omega
 | n+1,s,r,h,m+1,hm=>by
  unfold a03 at h ⊢;cases hb:body s with
  | none=>rw [hb] at h;cases h
  | some st=>
   rw [hb] at h;cases st with
   | ret x=>exact h
   | brk x=>exact h
   | nxt x=>exact c1l h m (by omega)
theorem c2K{R S B:Type}{body:S->Option (j7 R S B)}{s:S}{r:l9 R B}:o8 body s=some r ↔ ∃n,a03 body n s=some r:=by
 unfold o8;constructor
 ·intro h;split at h
  ·rename_i hx;injection h with h;exact ⟨_,h▸hx.choose_spec.choose_spec⟩
  ·cases h
 ·rintro ⟨n,h⟩
  have hx:∃n r,a03 body n s=some r:=⟨n,r,h⟩
  rw [dif_pos hx];have h1:=hx.choose_spec.choose_spec;have h2:=c1l h1 _ (Nat.le_max_left _ n);have h3:=c1l h _ (Nat.le_max_right hx.choose n);rw [h2] at h3;exact h3
theorem c5o{R S B:Type}(body:S->Option (j7 R S B))(s:S):o8 body s=match body s with
  | some (.ret r)=>some (.ret r)
  | some (.brk s)=>some (.brk s)
  | some (.nxt s)=>o8 body s
  | none=>none:=by
 apply Option.ext;intro r;rw [c2K];cases hb:body s with
 | none=>
  constructor
  ·rintro ⟨n,h⟩
   cases n with
   | zero=>cases h
   | succ n=>unfold a03 at h;rw [hb] at h;cases h
  ·intro h;cases h
 | some st=>
  cases st with
  | ret x=>
   constructor
   ·rintro ⟨n,h⟩
    cases n with
    | zero=>cases h
    | succ n=>unfold a03 at h;rw [hb] at h;exact h
   ·intro h;exact ⟨1,by unfold a03;rw [hb];exact h⟩
  | brk x=>
   constructor
   ·rintro ⟨n,h⟩
    cases n with
    | zero=>cases h
    | succ n=>unfold a03 at h;rw [hb] at h;exact h
   ·intro h;exact ⟨1,by unfold a03;rw [hb];exact h⟩
  | nxt x=>
   simp only;rw [c2K];constructor
   ·rintro ⟨n,h⟩
    cases n with
    | zero=>cases h
    | succ n=>unfold a03 at h;rw [hb] at h;exact ⟨n,h⟩
   ·rintro ⟨n,h⟩
    exact ⟨n+1,by unfold a03;rw [hb];exact h⟩
def b0m{R S B:Type}(r:l9 R B)(I:S->Prop):j7 R S B->Prop
 | .ret x=>r=.ret x
 | .brk s=>r=.brk s
 | .nxt s=>I s
theorem f2h{R S B:Type}{body:S->Option (j7 R S B)}{I:S->Prop}{s:S}{r:l9 R B}(h:o8 body s=some r)(step:∀s st,body s=some st->b0m r I st->I s):I s:=by
 obtain ⟨n,h1⟩:=c2K.1 h;clear h;have h:=h1;clear h1;induction n generalizing s with
 | zero=>cases h
 | succ n ih=>
  unfold a03 at h;cases hb:body s with
  | none=>rw [hb] at h;cases h
  | some st=>
   rw [hb] at h;refine step s st hb ?_;cases st with
   | ret x=>injection h with h;exact h.symm
   | brk x=>injection h with h;exact h.symm
   | nxt x=>exact ih h
def l9.go{R B β:Type}(x:l9 R B)(kr:R->Option β)(ks:B->Option β):Option β:=
 match x with
 | .ret r=>kr r
 | .brk s=>ks s
def JC{B J:Type}(I:J->Prop)(r:B):l9 B J->Prop
 | .ret v=>some v=some r
 | .brk j=>I j
def idx{α:Type}(l:List α)(i:Int):Option α:=if 0<=i then l[i.toNat]? else none
def t5{β:Type}(p:Prop)[Decidable p](k:Option β):Option β:=if p then k else none
theorem b5K{α:Type}{l:List α}{i:Int}{x:α}(h:idx l i=some x):0<=i/\i<l.length/\l[i.toNat]?=some x:=by
 unfold idx at h;split at h
 ·rename_i hi;refine ⟨hi,?_,h⟩;have:=(f8G.1 h).1;omega
 ·cases h
section
variable {G:Prop} {α β R S:Type}
theorem B0{m:Option α}{f:α->Option β}{r:β}(h:m.bind f=some r)(k:∀x,m=some x->f x=some r->G):G:=by
 cases m with
 | none=>cases h
 | some x=>exact k x rfl h
theorem t9{p:Prop}[Decidable p]{a:Option β}{r:β}(h:t5 p a=some r)(k:p->a=some r->G):G:=by
 unfold t5 at h;split at h
 ·rename_i hp;exact k hp h
 ·cases h
theorem f5N{B:Type}{I:S->Prop}{r:l9 R B}{x:R}{st:j7 R S B}(h:some (j7.ret x)=some st)(hc:b0m r I st)(k:r=.ret x->G):G:=by
 injection h with h;subst h;exact k hc
theorem f6s{B:Type}{I:S->Prop}{r:l9 R B}{x:B}{st:j7 R S B}(h:some (j7.brk x)=some st)(hc:b0m r I st)(k:r=.brk x->G):G:=by
 injection h with h;subst h;exact k hc
theorem f0S{B:Type}{I:S->Prop}{r:l9 R B}{x:S}{st:j7 R S B}(h:some (j7.nxt x)=some st)(hc:b0m r I st)(k:I x->G):G:=by
 injection h with h;subst h;exact k hc
theorem f4y{B:Type}{I:S->Prop}{r:l9 R B}{x:R}{st:j7 R S B}(h:some (j7.ret x)=some st)(hc:b0m r I st):r=.ret x:=f5N h hc id
theorem A3{B J:Type}{T:Option (l9 B J)}{K:J->Option B}{r:B}{I:J->Prop}(h:(T.bind fun x=>x.go some K)=some r)(rest:∀j,K j=some r->I j)(e4H:∀x,T=some x->JC I r x->G):G:=by
 cases T with
 | none=>cases h
 | some x=>
  refine e4H x rfl ?_;cases x with
  | ret v=>exact h
  | brk j=>exact rest j h
theorem B2{B J:Type}{I:J->Prop}{r v:B}{x:l9 B J}(h:some (l9.ret v)=some x)(hc:JC I r x)(k:some v=some r->G):G:=by
 injection h with h;subst h;exact k hc
theorem f5v{B J:Type}{I:J->Prop}{r v:B}{x:l9 B J}(h:some (l9.ret v)=some x)(hc:JC I r x):some v=some r:=B2 h hc id
theorem o9{B J:Type}{I:J->Prop}{r:B}{x:l9 B J}{j:J}(h:some (l9.brk j)=some x)(hc:JC I r x)(k:I j->G):G:=by
 injection h with h;subst h;exact k hc
theorem e8W{B:Type}{body:S->Option (j7 R S B)}{s:S}{kr:R->Option β}{ks:B->Option β}{r:β}(h:((o8 body s).bind fun x=>x.go kr ks)=some r)(k:∀x,o8 body s=some x->(∀v,x=.ret v->kr v=some r)->(∀b,x=.brk b->ks b=some r)->G):G:=by
 cases hl:o8 body s with
 | none=>rw [hl] at h;cases h
 | some x=>
  rw [hl] at h;refine k x hl ?_ ?_
  ·intro v hv;subst hv;exact h
  ·intro b hb;subst hb;exact h
end
theorem K6.is{cx:Cx}{X:O9}{res b2C:V}{outs b18:List (Option V)}{k:List Item}{S:St}(h:K6 cx X b2C b18 k S)(h1:res=b2C)(h2:outs=b18):K6 cx X res outs k S:=by
 subst h1;subst h2;exact h
def vi(n:Int):V:=.i .i64 n
def bs:Nat->List V->List V
 | 0,l=>l
 | n+1,l=>.bot::bs n l
def j9{α:Type}(sz:Nat)(enc:α->List V)(l:List α):V:=.sl sz l.length (l.map enc)
def v6{α:Type}(e sz:Nat)(enc:α->List V)(l:List α):V:=.osl e sz l.length (l.map enc)
def m6{α:Type}(e sz:Nat)(enc:α->List V)(l:List α):s9:=.row e sz l.length (l.map enc)
def b4N{α:Type}(sz:Nat)(enc:α->List V)(l:List α):s9:=.frz sz l.length (l.map enc)
section
variable {α:Type} {enc:α->List V} {l:List α} {i:Int} {x:α}
theorem U5(h:idx l i=some x):(l.map enc)[i.toNat]?=some (enc x):=by
 rw [f9D,(b5K h).2.2];rfl
theorem b3l(h:idx l i=some x):(l.map enc)[0+i.toNat]?=some (enc x):=by
 rw [f9I];exact U5 h
theorem O8(h:idx l i=some x):0<=i:=(b5K h).1
theorem b3W(h:idx l i=some x):i<(l.length:Nat):=(b5K h).2.1
theorem e5M{e sz:Nat}{y:α}{cs:List V}(h:cs=enc y):s9.row e sz (l.length+1) (l.map enc++[cs])=m6 e sz enc (l++[y]):=by
 subst h;simp [m6]
theorem c40{e sz:Nat}{l':List α}{n:Nat}{rows:List (List V)}(h1:n=l'.length)(h2:rows=l'.map enc):s9.row e sz (l.length+n) (l.map enc++rows)=m6 e sz enc (l++l'):=by
 subst h1;subst h2;simp [m6]
theorem e8b{e sz:Nat}{k:Nat}{y:α}{cs:List V}(h:cs=enc y):s9.row e sz l.length ((l.map enc).set (0+k) cs)=m6 e sz enc (l.set k y):=by
 subst h;simp [m6,List.map_set]
theorem d28{sz:Nat}{a b:Nat}(ha:a<=b)(hb:b<=l.length):V.sl sz (b-a) (((l.map enc).drop a).take (b-a))=j9 sz enc ((l.drop a).take (b-a)):=by
 have:min (b-a) (l.length-a)=b-a:=by omega
 simp [j9,List.map_take,List.map_drop,this]
end
def d9r(f:Func):Code:=match f.body with
 | some c=>c
 | none=>.skip
def a31:Nat->Nat->List Bool->List Item->List Item
 | 0,_,_,k=>k
 | f+1,n,cs,k=>match k with
  | .code (.region id ops dr)::k'=>match n with
   | 0=>.code (.region id ops dr)::k'
   | n+1=>a31 f n cs k'
  | .code .skip::k'=>a31 f n cs k'
  | .inBlock _::k'=>a31 f n cs k'
  | .code (.seq x y)::k'=>a31 f n cs (.code x :: .code y::k')
  | .code (.cond o x y)::k'=>match cs with
   | c::cs=>a31 f n cs (.code (bif c then x else y)::k')
   | []=>.code (.cond o x y)::k'
  | .code (.block id c)::k'=>a31 f n cs (.code c :: .inBlock id::k')
  | .code (.loop c)::k'=>a31 f n cs (.code c :: .inLoop c::k')
  | .inLoop c::k'=>a31 f n cs (.code c :: .inLoop c::k')
  | .code (.exit id)::k'=>match exitTo id k' with
   | some k2=>a31 f n cs k2
   | none=>.code (.exit id)::k'
  | k=>k
def td(i:Nat)(d:Bool):Nat×L5:=(i,{d:=some d})
def tr(i:Nat)(cs:List V):Nat×L5:=(i,{a:=.row cs})
def m7(n:Int):Int:=IntKind.wrap .i64 n
section
variable {α:Type} {enc:α->List V} {l l':List α} {n:Nat} {x y:α} {cs:List V} {e sz:Nat}
theorem f4x(h:cs=enc x):s9.row e sz n (f8A n cs)=m6 e sz enc (f8A n x):=by
 subst h;simp [m6]
theorem a1p(h:l.length=n):s9.row e sz n (l.map enc)=m6 e sz enc l:=by
 subst h;rfl
theorem a7J{k:Nat}(h:cs=enc y):s9.arr e sz n ((l.map enc).set k cs)=.arr e sz n ((l.set k y).map enc):=by
 subst h;simp [List.map_set]
def C7(e sz:Nat)(enc:α->List V)(l:List α):s9:=.deep false e sz l.length (l.map enc)
def b0q(e sz:Nat)(enc:α->List V)(l:List α):V:=.dsl e sz l.length (l.map enc)
theorem a0N{k:Nat}(h:cs=enc y):(l.map enc).set (0+k) cs=(l.set k y).map enc:=by
 subst h;simp [List.map_set]
theorem a8G{rows:List (List V)}(h:rows=l.map enc)(hn:∀x,∀v∈enc x,v.isRef=false):I2 rows:=h▸I2.map hn l
theorem a9h{rows:List (List V)}{n:Nat}(h:rows=l.map enc)(hl:n=l.length):s9.deep false e sz n rows=C7 e sz enc l:=by
 subst h;subst hl;rfl
theorem c65(h:cs=enc y):s9.deep false e sz (l.length+1) (l.map enc++[cs])=C7 e sz enc (l++[y]):=by
 subst h;simp [C7]
theorem c5z{L l1:List α}{lo n:Nat}(h:lo+n<=L.length):s9.row e sz (l1.length+n) (l1.map enc++((L.map enc).drop lo).take n)=m6 e sz enc (l1++(L.drop lo).take n):=by
 have:((L.drop lo).take n).length=n:=by simp;omega
 simp [m6,List.map_take,List.map_drop];omega
theorem c5I{L l1:List α}{lo n g:Nat}(h:lo+n<=L.length):V.own g 0 sz 0 (l1.length+n)=V.own g 0 sz 0 (l1++(L.drop lo).take n).length:=by
 congr 1
 simp;omega
theorem X0{rows X:List (List V)}{k:Nat}{c c':List V}(h:rows.set k c'=X):(rows.set k c).set k c'=X:=by rw [List.set_set];exact h
theorem a15{rows:List (List V)}{k:Nat}(h:k<rows.length):(rows.set k cs)[k]?=some cs:=by simp [h]
theorem a3T{rows:List (List V)}{k j:Nat}(h:k<rows.length):k<(rows.set j cs).length:=by simpa using h
theorem a2e{i:Int}(h:idx l i=some y):0+i.toNat<(l.map enc).length:=by
 have:=(b3W h)
 have:=(O8 h)
 rw [f9u];omega
theorem c4f{i:Int}{f:α->V}(hf:∀x,enc x=[f x])(h:idx l i=some y):(l.map enc).flatten[i.toNat]?=some (f y):=by
 have e:(l.map enc).flatten=l.map f:=by
  induction l with
  | nil=>rfl
  | cons x l ih=>
   have ih':(l.map enc).flatten=l.map f:=by
    clear ih h;induction l with
    | nil=>rfl
    | cons x l ih=>simp [hf,ih]
   simp [hf,ih']
 rw [e,f9D];unfold idx at h;split at h
 ·rw [h];rfl
 ·cases h
theorem b9f{hi:Int}(h:0<=hi/\hi<=(l.length:Nat)):V.sl sz (hi.toNat-0) (((l.map enc).drop 0).take (hi.toNat-0))=j9 sz enc ((l.drop 0).take (hi.toNat-0)):=
 d28 (by omega) (by omega)
theorem b5m{lo:Int}(h:0<=lo/\lo<=(l.length:Nat)):V.sl sz (l.length-lo.toNat) (((l.map enc).drop lo.toNat).take (l.length-lo.toNat))=j9 sz enc ((l.drop lo.toNat).take (l.length-lo.toNat)):=
 d28 (by omega) (by omega)
end
def c4O:Nat->List (Option V)
 | 0=>[]
 | n+1=>none::c4O n
theorem Q9:∀n,a4b (c4O n)
 | 0=>fun v h=>by cases h
 | n+1=>fun v h=>by
  rcases f8J.1 h with q|q
  ·cases q
  ·exact Q9 n v q
section
variable {P:Program} {d:Nat} {xs ys:Array Value} {f:Field} {fs:List Field} {a b:Value} {r s:Bool} {w:World}
theorem b7o:(Op.eqFields d xs ys []).run P w=.ok true w:=by simp [Op.eqFields]
theorem a6S (hn:(f.name == "_")=false) (ha:(part f.type xs f.offset).run P w=.ok a w) (hb:(part f.type ys f.offset).run P w=.ok b w) (he:(Op.equalIn d f.type a b).run P w=.ok r w) (hr:(Op.eqFields d xs ys fs).run P w=.ok s w):(Op.eqFields d xs ys (f::fs)).run P w=.ok (r&&s) w:=by
 have hn':f.name ≠ "_" := by simpa using hn
 rw [Op.eqFields];simp only [if_pos hn',Sem.run_bind,ha,hb,he,Result.andThen_ok];cases r
 ·simp
 ·simpa using hr
theorem b8S{t:TypeId}{fs:Array Field}(hu:P.underlying t=some (.struct fs))(hp:P.stoodInHeld t=false)(h:(Op.eqFields d xs ys fs.toList).run P w=.ok r w):(Op.equalIn (d+1) t (.agg xs) (.agg ys)).run P w=.ok r w:=by
 have hf:P.fieldsOf t=fs:=by simp [Program.fieldsOf,hu]
 rw [run_equalIn_struct (P:=P) w d t xs ys (by rw [hf];exact hu) hp,hf];exact h
theorem a7a{t:TypeId}{k:IntKind}{m n:Int}(h:P.underlying t=some (.int k)):(Op.equalIn (d+1) t (.int .i64 m) (.int .i64 n)).run P w=.ok (m==n) w:=run_equalIn_int w d t .i64 k m n h
end
structure Pt(cx:Cx)(X:O9)(res:V)(outs:List (Option V))(k:List Item)(S:St)(sc:S8)(ps:List Prop):Prop where
 f:P9 ps->K6 cx X res outs k S
def d5Y{α:Type}:List α->List α->List α
 | [],b=>b
 | a::l,b=>d5Y l (a::b)
def scO:S8->S8->S8
 | [],b=>b
 | r::l,b=>scO l (d5Y r []::b)
def psO:List Prop->List Prop->List Prop
 | [],b=>b
 | p::l,b=>psO l (p::b)
theorem c2A{ps:List Prop}:∀{qs:List Prop},P9 ps->P9 qs->P9 (psO ps qs):=by
 induction ps with
 | nil=>exact fun _ h=>h
 | cons p ps ih=>exact fun h h'=>ih h.2 ⟨h.1,h'⟩
def a5e{α β:Type}(m:Option α)(f:α->Option β)(g:Option β):Option β:=
 match m with
 | some x=>f x
 | none=>g
def dt(t:Nat×L5)(d:Bool):Nat×L5:=(t.1,{t.2 with d:=some d})
section
variable {cx:Cx} {X:O9} {res:V} {outs:List (Option V)} {k:List Item} {S:St} {sc:S8} {ps:List Prop} {r:List (Nat×L5)} {α β:Type} {v:β}
theorem P0(h:Pt cx X res outs k S [] []):K6 cx X res outs k S:=h.f P9.nil
theorem rg(h:Pt cx X res outs k S ([]::sc) ps):Pt cx X res outs k S sc ps:=⟨h.f⟩
theorem n9(h:Pt cx X res outs k S ([]::[]::sc) ps):Pt cx X res outs k S sc ps:=⟨h.f⟩
theorem L8(h:Pt cx X res outs k S ([]::[]::[]::sc) ps):Pt cx X res outs k S sc ps:=⟨h.f⟩
theorem rg4(h:Pt cx X res outs k S ([]::[]::[]::[]::sc) ps):Pt cx X res outs k S sc ps:=⟨h.f⟩
theorem tl(t:Nat×L5)(h:Pt cx X res outs k S ((t::r)::sc) ps):Pt cx X res outs k S (r::sc) ps:=⟨h.f⟩
theorem ob{p:Prop}(q:p)(h:Pt cx X res outs k S sc (p::ps)):Pt cx X res outs k S sc ps:=⟨fun a=>h.f ⟨q,a⟩⟩
theorem om(p:Prop)(q:p)(h:Pt cx X res outs k S sc (p::ps)):Pt cx X res outs k S sc ps:=ob q h
theorem cdT(t:Nat×L5){e:Bool}{a b:Option β}(h:cond e a b=some v)(k1:e=true->a=some v->Pt cx X res outs k S ((dt t true::r)::sc) ((e=true)::ps))(k2:e=false->b=some v->Pt cx X res outs k S ((dt t false::r)::sc) ((e=false)::ps)):Pt cx X res outs k S (r::sc) ps:=by
 cases e with
 | true=>exact ob rfl (tl _ (k1 rfl h))
 | false=>exact ob rfl (tl _ (k2 rfl h))
theorem j5(i:Nat){e:Bool}{a b:Option β}(h:cond e a b=some v)(k1:a=some v->Pt cx X res outs k S ((td i true::r)::sc) ((e=true)::ps))(k2:b=some v->Pt cx X res outs k S ((td i false::r)::sc) ((e=false)::ps)):Pt cx X res outs k S (r::sc) ps:=by
 cases e with
 | true=>exact ob rfl (tl _ (k1 h))
 | false=>exact ob rfl (tl _ (k2 h))
theorem cb(t:Nat->Bool->α->Nat×L5){m:Option α}{p:α->Prop}(ok:∀x,m=some x->p x)(i:Nat)(fr:Bool){f:α->Option β}(h:m.bind f=some v)(g:∀x,f x=some v->Pt cx X res outs k S ((t i fr x::r)::sc) (p x::ps)):Pt cx X res outs k S (r::sc) ps:=
 B0 h fun x hx h=>ob (ok x hx) (tl _ (g x h))
theorem cbA(t:Nat->Bool->α->Nat×L5){m:Option α}{p:α->Prop}(ok:∀x,m=some x->p x)(i:Nat)(fr:Bool){f:α->Option β}{e:Option β}(h:a5e m f e=some v)(g:∀x,f x=some v->Pt cx X res outs k S ((t i fr x::r)::sc) (p x::ps))(g2:e=some v->Pt cx X res outs k S (r::sc) ps):Pt cx X res outs k S (r::sc) ps:=by
 cases m with
 | none=>exact g2 h
 | some x=>exact ob (ok x rfl) (tl _ (g x h))
theorem cbE(t:Nat->Bool->α->Nat×L5){m:Option α}{p:α->Prop}(ok:∀x,m=some x->p x){f:α->Option β}(h:m.bind f=some v)(g:∀x,p x->f x=some v->Pt cx X res outs k S sc ps):Pt cx X res outs k S sc ps:=
 B0 h fun x hx h=>g x (ok x hx) h
section
variable {enc:α->List V} {l l':List α} {I:Int} {x y z:α}
theorem u0(enc:α->List V)(i:Nat){f:α->Option β}(h:(idx l I).bind f=some v)(g:∀y,idx l I=some y->f y=some v->Pt cx X res outs k S ((tr i (enc y)::r)::sc) (((l.map enc)[I.toNat]?=some (enc y))::(I<((l.length:Nat):Int))::((0:Int)<=I)::ps)):Pt cx X res outs k S (r::sc) ps:=
 B0 h fun y hy h=>ob (O8 hy) (ob (b3W hy) (ob (U5 hy) (tl _ (g y hy h))))
theorem I3(enc:α->List V)(i:Nat)(hy:idx l I=some y)(g:Pt cx X res outs k S ((tr i (enc y)::r)::sc) (((l.map enc)[I.toNat]?=some (enc y))::(I<((l.length:Nat):Int))::((0:Int)<=I)::ps)):Pt cx X res outs k S (r::sc) ps:=
 ob (O8 hy) (ob (b3W hy) (ob (U5 hy) (tl _ g)))
theorem C0(hy:idx l I=some y)(g:Pt cx X res outs k S sc ((I<((l.length:Nat):Int))::((0:Int)<=I)::ps)):Pt cx X res outs k S sc ps:=ob (O8 hy) (ob (b3W hy) g)
theorem I4(enc:α->List V)(i:Nat)(hy:idx l I=some y)(g:Pt cx X res outs k S ((tr i (enc y)::r)::sc) (((l.map enc)[0+I.toNat]?=some (enc y))::ps)):Pt cx X res outs k S (r::sc) ps:=
 ob (b3l hy) (tl _ g)
theorem Q6(e sz:Nat)(enc:α->List V)(i:Nat)(ck:List (Option Nat))(y:α)(hz:idx l I=some z)(g:Pt cx X res outs k S (((i,{a:=.rowck (enc z) ck,e:=some (m6 e sz enc (l.set I.toNat y))})::r)::sc) (((l.map enc)[0+I.toNat]?=some (enc z))::(s9.row e sz l.length ((l.map enc).set (0+I.toNat) (enc y))=m6 e sz enc (l.set I.toNat y))::ps)):Pt cx X res outs k S (r::sc) ps:=
 ob (e8b rfl) (ob (b3l hz) (tl _ g))
theorem T1(i w t sz b:Nat)(enc:α->List V)(z:α)(T:TI)(a:O5){N:Int}(e1:0<=N/\N*((b:Nat):Int)<=140737488355328)(hb:0<b)(hl:T.zero.length=sz)(g:Pt cx X res outs k S (((i,{a:=a,e:=some (m6 t sz enc (f8A N.toNat z)),v:=some (.own w 0 sz 0 (f8A N.toNat z).length)})::r)::sc)
   ((T.zero.length=sz)::(N*((b:Nat):Int)<=140737488355328/\0<b)::(N=N)::((0:Int)<=N)::(s9.row t sz N.toNat (f8A N.toNat (enc z))=m6 t sz enc (f8A N.toNat z))::(V.own w 0 sz 0 N.toNat=.own w 0 sz 0 (f8A N.toNat z).length)::ps)):Pt cx X res outs k S (r::sc) ps:=
 ob (by simp) (ob (f4x rfl) (ob e1.1 (ob rfl (ob ⟨e1.2,hb⟩ (ob hl (tl _ g))))))
theorem F7(i w t sz b:Nat)(enc:α->List V)(l:List α)(x:α)(h:(l.length+1)*b<=140737488355328)(g:Pt cx X res outs k S (((i,{v:=some (.own w 0 sz 0 (l++[x]).length),e:=some (m6 t sz enc (l++[x]))})::r)::sc)
   (((l.length+1)*b<=140737488355328)::(l.length=l.length)::(s9.row t sz (l.length+1) (l.map enc++[enc x])=m6 t sz enc (l++[x]))::(V.own w 0 sz 0 (l.length+1)=.own w 0 sz 0 (l++[x]).length)::ps)):Pt cx X res outs k S (r::sc) ps:=
 ob (by simp) (ob (e5M rfl) (ob rfl (ob h (tl _ g))))
theorem apL(i w t sz b:Nat)(enc:α->List V)(l l':List α)(h:(l.length+l'.length)*b<=140737488355328)(g:Pt cx X res outs k S (((i,{v:=some (.own w 0 sz 0 (l++l').length),e:=some (m6 t sz enc (l++l'))})::r)::sc)
   (((l.length+l'.length)*b<=140737488355328)::(l.length=l.length)::(s9.row t sz (l.length+l'.length) (l.map enc++l'.map enc)=m6 t sz enc (l++l'))::(V.own w 0 sz 0 (l.length+l'.length)=.own w 0 sz 0 (l++l').length)::ps)):Pt cx X res outs k S (r::sc) ps:=
 ob (by simp) (ob (c40 rfl rfl) (ob rfl (ob h (tl _ g))))
end
theorem sg(fs:List Fix)(keep:List Nat)(gs:List (Nat×Nat)){k':List Item}{S':St}(h:K6 cx X res outs k' S')(hg:b1g cx k S (scO sc []) fs keep gs=some (k',S',psO ps []):=by kernel_rfl):Pt cx X res outs k S sc ps:=
 ⟨fun a=>K6.seg _ fs keep gs _ (c2A a P9.nil) h hg⟩
def reT:List (Nat×V)->St->St×List Prop
 | [],S=>(S,[])
 | (i,v)::l,S=>match S.t[i]? with
  | some u=>match reT l {S with t:=S.t.set i v} with
   | (S',ps)=>(S',(u=v)::ps)
  | none=>reT l S
theorem c1L:∀{l:List (Nat×V)} {S:St},P9 (reT l S).2->(reT l S).1=S
 | [],_,_=>rfl
 | (i,v)::l,S,h=>by
  unfold reT at h ⊢;split at h
  ·rename_i u hu;have h1:u=v:=h.1;have h2:=c1L (l:=l) h.2;simp only;rw [h2,<-h1,a0y hu]
  ·exact c1L h
theorem P9.split:∀{ps qs:List Prop},P9 (ps++qs)->P9 ps/\P9 qs
 | [],_,h=>⟨trivial,h⟩
 | _::_,_,h=>⟨⟨h.1,(P9.split h.2).1⟩,(P9.split h.2).2⟩
def c5d(cx:Cx)(k:List Item)(S:St)(sc:S8)(fs:List Fix)(keep:List Nat)(gs:List (Nat×Nat))(ts:List (Nat×V)):Option (List Item×St×List Prop):=
 match b1g cx k S sc fs keep gs with
 | some (k',S',ps)=>some (k',(reT ts S').1,ps++(reT ts S').2)
 | none=>none
theorem sgT(fs:List Fix)(keep:List Nat)(gs:List (Nat×Nat))(ts:List (Nat×V)){k':List Item}{S':St}(h:K6 cx X res outs k' S')(hg:c5d cx k S (scO sc []) fs keep gs ts=some (k',S',psO ps []):=by kernel_rfl):Pt cx X res outs k S sc ps:=by
 refine ⟨fun a => ?_⟩;unfold c5d at hg;split at hg<;>try (cases hg;done)
 rename_i k1 S1 ps1 h1;injection hg with hg;injection hg with e1 e2;injection e2 with e2 e3;have ha:=c2A a P9.nil;rw [<-e3] at ha;obtain ⟨a1,a2⟩:=P9.split ha;rw [<-e2,<-e1,c1L a2] at h;exact K6.seg _ fs keep gs _ a1 h h1
theorem a7L{α:Type}{enc:α->List V}{gs:List (Nat×Nat)}(h:∀x,(enc x).map (X1 gs)=enc x):∀l:List α,((l.map enc).flatten.map (X1 gs))=(l.map enc).flatten
 | []=>rfl
 | x::l=>by
  simp only [f9l,f9f,f9R,h,a7L h l]
theorem fn0{b2C:V}{b18:List (Option V)}(hf:cx.P.funcs[X.f]?=some X.fn)(h:res=b2C/\outs=b18)(hg:b0w cx X k S (scO sc [])=some (b2C,b18,psO ps []):=by kernel_rfl):Pt cx X res outs k S sc ps:=
 ⟨fun a=>(K6.fin hf _ _ (c2A a P9.nil) hg).is h.1 h.2⟩
end
def H3(n:Int):Prop := -9223372036854775808<=n/\n<=9223372036854775807
def A2{α:Type}(bytes:Nat)(ok:α->Prop)(l:List α):Prop:=l.length*bytes<=140737488351232/\∀x∈l,ok x
def okT{α:Type}(x:α):Prop:=True
def Old(w:World)(k:Nat):Prop:=k<w.heap.size
def b0V(P:Program){α:Type}(t:TypeId)(enc:α->List V)(ok:α->Prop):Prop:=
 ∀{H:Type} (ec:TypeId×Value->H) (w:World) (fuel:Nat) (cs:List Value) (x:DataW H×List MemPlace),DataW.trod ec P w 0 (fun _=>true) true fuel t cs=some x->(x.1.weights P t).all (·<=reachBytes)=true->
  ∃y,FL w (Old w) (enc y) cs/\ok y
section
variable {P:Program} {α:Type} {t e:TypeId} {enc:α->List V} {ok:α->Prop}
def a50(n:Int):Prop:=0<=n/\n<=255
theorem f5e(ht:P.underlying t=some (.int .u8)):b0V P t (fun n:Int=>[.i .u8 n]) a50:=by
 intro H ec w fuel cs x h _;obtain ⟨n,rfl,rfl,hw⟩:=DataW.trod_int ht h;refine ⟨n,.cons _ _ _ _ (.i _ _) .nil,?_⟩;simp only [Lit.wf,f8D,decide_eq_true_eq] at hw;exact hw
theorem d44{H:Type}{P:Program}{e:TypeId}{p:Nat->Bool}:∀{ds:List (DataW H)},(DataW.weightsAll P e ds).all p=true->∀d∈ds,(d.weights P e).all p=true
 | [],_,d,hd=>by cases hd
 | d0::ds,h,d,hd=>by
  rw [DataW.weightsAll,List.all_append,f8D] at h;rcases f8J.1 hd with rfl|hd
  ·exact h.1
  ·exact d44 h.2 d hd
theorem FL.flat{w:World}{F:Nat->Prop}(vs:Nat->List V)(cs:Nat->List Value):∀n,(∀i,i<n->FL w F (vs i) (cs i))->FL w F ((f8I n).flatMap vs) ((f8I n).flatMap cs)
 | 0,_=>.nil
 | n+1,h=>by
  rw [List.range_succ,List.flatMap_append,List.flatMap_append];refine FL.append (FL.flat vs cs n fun i hi=>h i (by omega)) ?_;simpa using h n (by omega)
theorem c0h{sz:Nat}(cs:Nat->List Value):∀n,(∀i,i<n->(cs i).length=sz)->∀i,i<n->∀j,j<sz->((f8I n).flatMap cs)[i*sz+j]?=(cs i)[j]?/\((f8I n).flatMap cs).length=n*sz
 | 0,_,i,hi,_,_=>by omega
 | n+1,h,i,hi,j,hj=>by
  have hl:((f8I n).flatMap cs).length=n*sz:=by
   cases n with
   | zero=>simp
   | succ m=>exact (c0h cs (m+1) (fun i hi=>h i (by omega)) 0 (by omega) j hj).2
  rw [List.range_succ,List.flatMap_append];simp only [List.flatMap_cons,List.flatMap_nil,f9o];constructor
  ·by_cases hin:i<n
   ·have:i*sz+j<n*sz:=by
     have:(i+1)*sz<=n*sz:=f9g _ hin;rw [Nat.add_mul] at this;omega
    rw [f8X (by omega)];exact (c0h cs n (fun i hi=>h i (by omega)) i hin j hj).1
   ·have:i=n:=by omega
    subst this;rw [f8T (by omega),hl];congr 1
    omega
  ·rw [f8M,hl,h n (by omega),Nat.add_mul,Nat.one_mul]
theorem e9I{β:Type}{n:Nat}{p:Nat->β->Prop}(d:β)(h:∀i,i<n->∃x,p i x):∃f:Nat->β,∀i,i<n->p i (f i):=by
 classical
 refine ⟨fun i=>if hi:i<n then (h i hi).choose else d,fun i hi => ?_⟩;simp only [dif_pos hi];exact (h i hi).choose_spec
theorem e8t{sz bytes:Nat}(ht:P.underlying t=some (.slice e))(he:b0V P e enc ok)(hsz:P.cellsOf e=sz)(h0:0<sz)(hb:P.bytesOf e=bytes)(hl:∀y,(enc y).length=sz):b0V P t (fun l:List α=>[j9 sz enc l]) (A2 bytes ok):=by
 intro H ec w fuel cs x h hw;rcases DataW.trod_slice ht h with ⟨rfl,rfl⟩|⟨a,len,cap,elems,rest,n,_,rfl,rfl,hbs,hlc,hcm,hlen,hel,hsp,hns⟩
 ·exact ⟨[],.cons _ _ _ _ (.sl0 sz none 0) .nil,by simp,by simp⟩
 simp only [DataW.weights,ht,List.all_cons,List.all_append,f8D,decide_eq_true_eq,f9u] at hw;obtain ⟨hw0,hw1,hw2⟩:=hw;have hrest:rest.length=cap-len:=by
  cases hs:(fun _:Nat=>true) a.block with
  | true=>exact (hsp rfl).1
  | false=>cases hs
 have hlen2:len*bytes<=140737488351232:=by
  rw [hb] at hw0;have:len*bytes<=(elems.length+rest.length)*bytes:=f9g _ (by omega);have h2:reachBytes=140737488351232:=rfl;omega
 cases Nat.eq_zero_or_pos len with
 | inl hz=>
  subst hz;exact ⟨[],.cons _ _ _ _ (.sl0 sz _ cap) .nil,by simp,by simp⟩
 | inr hpos=>
  have key:∀i,i<len->∃cy:List Value×α,w.cells? 0 (a.add (i*sz)) sz=some cy.1/\FL w (Old w) (enc cy.2) cy.1/\ok cy.2:=by
   intro i hi;have h1:=hel i hi;have hi':i<elems.length:=by omega
   rw [f8z hi',hsz] at h1;obtain ⟨ci,h2,h3⟩:=Option.bind_eq_some_iff.1 h1;obtain ⟨y,h4,h5⟩:=he ec w n ci _ h3 (d44 hw1 _ (f9i.2 ⟨_,f8C hi',rfl⟩));exact ⟨(ci,y),h2,h4,h5⟩
  obtain ⟨cy0,_⟩:=key 0 hpos;obtain ⟨f,hf⟩:=e9I cy0 key;have hcl:∀i,i<len->(f i).1.length=sz:=fun i hi=>(World.cells?_some (hf i hi).1).2.1
  have hspot:a.spot=none:=by
   have:=(World.cells?_some (hf 0 hpos).1).2.2 0 h0;rw [f8z (by rw [hcl 0 hpos];exact h0)] at this;have:=World.cell?_spot this;simpa [Addr.add] using this
  have hold:Old w a.block:=by
   have:=(World.cells?_some (hf 0 hpos).1).2.2 0 h0;rw [f8z (by rw [hcl 0 hpos];exact h0)] at this;unfold World.cell? at this;unfold Old;split at this
   ·rename_i c _ _ hh;simpa [Addr.add] using (Array.getElem?_eq_some_iff.1 hh).1
   ·cases this
  refine ⟨(f8I len).map fun i=>(f i).2,?_,?_,?_⟩
  ·have haddr:a=⟨a.block,a.off,none⟩:=by cases a;simp_all
   rw [show (Value.slice (some a) len cap)=.slice (some ⟨a.block,a.off,none⟩) len cap from by rw [<-haddr]];refine .cons _ _ _ _ ?_ .nil;unfold j9;rw [f9u,List.length_range];refine .sl sz len _ _ _ cap ((f8I len).flatMap fun i=>(f i).1) hold ?_ ?_ ?_ hlc ?_
   ·have:=FL.flat (w:=w) (F:=Old w) (fun i=>enc (f i).2) (fun i=>(f i).1) len fun i hi=>(hf i hi).2.1
    rw [g0H,<-List.flatMap_def];exact this
   ·simp
   ·intro r hr;rw [g0H] at hr;obtain ⟨i,_,rfl⟩:=f9i.1 hr;exact hl _
   ·intro j u hu;have hlf:=(c0h (fun i=>(f i).1) len hcl 0 hpos 0 h0).2;have hj:j<len*sz:=by
     have:=(f8G.1 hu).1;omega
    have hq:j / sz<len:=Nat.div_lt_of_lt_mul (by rw [Nat.mul_comm];exact hj);have hr:j % sz<sz:=Nat.mod_lt _ h0;have hjs:j=j / sz*sz+j % sz:=by rw [Nat.mul_comm];exact (Nat.div_add_mod j sz).symm
    have hget:=(c0h (fun i=>(f i).1) len hcl _ hq _ hr).1;rw [<-hjs,hu] at hget;have hcell:=(World.cells?_some (hf _ hq).1).2.2 _ hr;rw [<-hget] at hcell;rw [<-hcell];have hadd:(a.add (j / sz*sz)).add (j % sz)=a.add j:=by
     rw [show (a.add (j / sz*sz)).add (j % sz)=a.add (j / sz*sz+j % sz) from Go.Deep.add_add a _ _,<-hjs]
    rw [hadd];congr 1
    unfold Addr.add;split
    ·rename_i h;subst h;exact haddr.symm
    ·rfl
  ·simpa using hlen2
  ·intro y hy;obtain ⟨i,hi,rfl⟩:=f9i.1 hy;exact (hf i (by simpa using hi)).2.2
section
variable {α':Type} {H:Type} {ec:TypeId×Value->H} {w:World} {base:Nat} {r:Reach} {v:Value} {d:DataW H} {p:List MemPlace}
theorem BA.of1{F:Nat->Prop}{x:V}{c:Value}(h:FL w F [x] [c]):BA w F x c []:=by
 cases h with
 | cons _ _ _ _ h _=>exact .cell _ _ _ (.fv _ _ h)
theorem f7t{f:α->V}(ht:P.underlying t=some (.slice e))(ho:b0V P t (fun y=>[f y]) ok)(hv:Value.okWide P w r base t v)(h:DataW.Trod ec P w 0 (fun _=>true) true t v d p)(hw:(d.weights P t).all (·<=reachBytes)=true):∃y,BA w (Old w) (f y) v []/\ok y:=by
 obtain ⟨a,l,c,rfl⟩:=WideShapes.okWide_slice ht hv;obtain ⟨fuel,hf⟩:=h;obtain ⟨y,h1,h2⟩:=ho ec w fuel _ _ hf hw;exact ⟨y,BA.of1 h1,h2⟩
end
theorem d8Q{f:FuncId}{args:List V}{outs:List (Option V)}{vs:List Value}{W:World}(h:a0I P f args (.b true) outs)(hb:BS W (Old W) args vs []) :
  Calls P f vs.toArray W fun e W'=>e=.returned (.bool true)/\RowKit.Below W.heap.size W W':=by
 refine (h.2 W (Old W) vs [] hb List.nodup_nil (by simp) (fun k hk=>hk)).mono ?_;rintro e W' ⟨c,F',fr,fo,rfl,hk,_,_,hr,_,_,_⟩
 refine ⟨?_,hk.os,hk.tape,hk.output,hk.size,fun k hk'=>hk.block k hk' (by simp)⟩;cases hr with
 | one _ _ _ h=>
  cases h with
  | cell _ _ _ h=>
   cases h with
   | fv _ _ h=>cases h;rfl
end
abbrev LOV:=List (Option V)
abbrev KS:=List Item×St
def FK(cx:Cx)(X:O9)(res:V)(outs:LOV)(s:KS):Prop:=K6 cx X res outs s.1 s.2
structure LC(cx:Cx)(X:O9){R P E:Type}(fR:R->V)(fO:R->LOV)(SE:E->KS)(S:P->KS) where
 res:V
 outs:LOV
 x:l9 R E
 hb:∀s:E,x=.brk s->FK cx X res outs (SE s)
 hr:∀v:R,x=.ret v->res=fR v/\outs=fO v
 st:j7 R P E
 hc:b0m x (fun s=>FK cx X res outs (S s)) st
section
variable {cx:Cx} {X:O9} {R P E J:Type} {fR:R->V} {fO:R->LOV} {SE:E->KS} {SP:P->KS} {G:Prop} {α β:Type}
abbrev LB(cx:Cx)(X:O9)(fR:R->V)(fO:R->LOV)(SE:E->KS)(SP:P->KS)(b:P->Option (j7 R P E)):Prop := ∀(c:LC cx X fR fO SE SP) (s:P),b s=some c.st->FK cx X c.res c.outs (SP s)
abbrev NL(c:LC cx X fR fO SE SP)(S:J->KS)(f:J->Option (j7 R P E)):Prop := ∀s,f s=some c.st->FK cx X c.res c.outs (S s)
theorem LC.nx(c:LC cx X fR fO SE SP){s:P}(h:some (j7.nxt s)=some c.st)(g:FK cx X c.res c.outs (SP s)->G):G:=f0S h c.hc g
theorem LC.bk(c:LC cx X fR fO SE SP){s:E}(h:some (j7.brk s)=some c.st)(g:FK cx X c.res c.outs (SE s)->G):G:=f6s h c.hc fun e=>g (c.hb _ e)
theorem LC.rt(c:LC cx X fR fO SE SP){r:R}(h:some (j7.ret r)=some c.st):c.res=fR r/\c.outs=fO r:=c.hr _ (f4y h c.hc)
variable {res:V} {outs:LOV} {k:List Item} {S:St} {sc:S8} {ps:List Prop} {r:List (Nat×L5)} {v:β} {s:KS}
theorem PK(h:Pt cx X res outs s.1 s.2 [] []):FK cx X res outs s:=h.f P9.nil
theorem sk(fs:List Fix)(keep:List Nat)(gs:List (Nat×Nat))(h:FK cx X res outs s)(hg:b1g cx k S (scO sc []) fs keep gs=some (s.1,s.2,psO ps []):=by kernel_rfl):Pt cx X res outs k S sc ps:=sg fs keep gs h hg
theorem skT(fs:List Fix)(keep:List Nat)(gs:List (Nat×Nat))(ts:List (Nat×V))(h:FK cx X res outs s)(hg:c5d cx k S (scO sc []) fs keep gs ts=some (s.1,s.2,psO ps []):=by kernel_rfl):Pt cx X res outs k S sc ps:=sgT fs keep gs ts h hg
theorem lp{b:P->Option (j7 R P E)}(B:LB cx X fR fO SE SP b){d05:P}{g1:R->Option β}{g2:E->Option β}(h:((o8 b d05).bind fun x=>x.go g1 g2)=some v)(h1:∀r,g1 r=some v->res=fR r/\outs=fO r)(h2:∀s,g2 s=some v->FK cx X res outs (SE s))(hs:FK cx X res outs (SP d05)->Pt cx X res outs k S sc ps):Pt cx X res outs k S sc ps:=
 e8W h fun x hl hr hb=>hs (f2h (I:=fun s=>FK cx X res outs (SP s)) hl fun s st h hc=>B ⟨res,outs,x,fun s e=>h2 s (hb s e),fun v e=>h1 v (hr v e),st,hc⟩ s h)
theorem s7{α:Type}(a:List α)(h:Pt cx X res outs k S sc ((a.length=a.length)::ps)):Pt cx X res outs k S sc ps:=ob rfl h
theorem C9{α β:Type}(a:List α)(b:List β)(h:Pt cx X res outs k S sc ((b.length=b.length)::(a.length=a.length)::ps)):Pt cx X res outs k S sc ps:=ob rfl (ob rfl h)
theorem Y3{α β γ:Type}(a:List α)(b:List β)(c:List γ)(h:Pt cx X res outs k S sc ((c.length=c.length)::(b.length=b.length)::(a.length=a.length)::ps)):Pt cx X res outs k S sc ps:=ob rfl (ob rfl (ob rfl h))
theorem H9{α β γ δ:Type}(a:List α)(b:List β)(c:List γ)(d:List δ)(h:Pt cx X res outs k S sc ((d.length=d.length)::(c.length=c.length)::(b.length=b.length)::(a.length=a.length)::ps)):Pt cx X res outs k S sc ps:=ob rfl (ob rfl (ob rfl (ob rfl h)))
theorem A9(α:Type)(h:Pt cx X res outs k S sc ((0=([]:List α).length)::ps)):Pt cx X res outs k S sc ps:=ob rfl h
theorem E5{α:Type}(x:α)(h:Pt cx X res outs k S sc ((1=[x].length)::ps)):Pt cx X res outs k S sc ps:=ob rfl h
theorem tk(i:Nat)(c:List (Option Nat))(h:Pt cx X res outs k S (((i,{a:=.ck c})::r)::sc) ps):Pt cx X res outs k S (r::sc) ps:=tl _ h
theorem oa(g j sz:Nat){α:Type}(a b:List α)(h:Pt cx X res outs k S sc ((V.own g j sz 0 (a.length+b.length)=.own g j sz 0 (a++b).length)::ps)):Pt cx X res outs k S sc ps:=ob (congrArg (V.own g j sz 0) f8M.symm) h
theorem oz(e sz:Nat){α:Type}(f:α->List V)(a b:List α)(h:Pt cx X res outs k S sc ((s9.row e sz (a.length+b.length) (a.map f++b.map f)=m6 e sz f (a++b))::ps)):Pt cx X res outs k S sc ps:=ob (c40 rfl rfl) h
end
def eI(x:Int):List V:=[vi x]
def K5(x:Int):List V:=[.i .u8 x]
def eB(x:Bool):List V:=[.b x]
structure n8 where
 a9:Int
 A:Int
 B:Int
 N:Int
def A6(x:n8):List V:=[vi x.a9,vi x.A,vi x.B,vi x.N]
structure s6 where
 a9:Int
 A:Int
 i6:List n8
def J5(x:s6):List V:=[vi x.a9,vi x.A,j9 4 A6 x.i6]
structure t8 where
 b:List Int
 p:Int
def a0b(x:t8):List V:=[j9 1 K5 x.b,vi x.p]
structure n5 where
 b9:Int
 Seq:Int
def F6(x:n5):List V:=[vi x.b9,vi x.Seq]
structure r9 where
 i5:Int
 j4:Int
def w8(x:r9):List V:=[vi x.i5,vi x.j4]
structure p8 where
 i5:Int
 d9:Int
def w9(x:p8):List V:=[vi x.i5,vi x.d9]
structure n7 where
 b5:List r9
 b7:List p8
 d9:Int
 Code:Int
def S4(x:n7):List V:=[j9 2 w8 x.b5,j9 2 w9 x.b7,vi x.d9,vi x.Code]
structure m4 where
 i7:Bool
 a5:n5
 b6:n7
def s5(x:m4):List V:=[.b x.i7,vi x.a5.b9,vi x.a5.Seq,j9 2 w8 x.b6.b5,j9 2 w9 x.b6.b7,vi x.b6.d9,vi x.b6.Code]
structure m8 where
 a8:Int
 g9:m4
def q8(x:m8):List V:=[vi x.a8,.b x.g9.i7,vi x.g9.a5.b9,vi x.g9.a5.Seq,j9 2 w8 x.g9.b6.b5,j9 2 w9 x.g9.b6.b7,vi x.g9.b6.d9,vi x.g9.b6.Code]
structure z0 where
 i0:Int
 a7:List m8
def a0J(x:z0):List V:=[vi x.i0,j9 8 q8 x.a7]
structure j6 where
 Id:Int
 Acc:z0
 a6:List m4
 Seq:Int
 d6:Int
 a8:Int
 c9:List Bool
 i4:List m8
 c8:m4
 a7:List Bool
 i9:Bool
 i6:List n8
 b8:m4
 f0:List m4
def x6(x:j6):List V:=[vi x.Id,vi x.Acc.i0,j9 8 q8 x.Acc.a7,j9 7 s5 x.a6,vi x.Seq,vi x.d6,vi x.a8,j9 1 eB x.c9,j9 8 q8 x.i4,.b x.c8.i7,vi x.c8.a5.b9,vi x.c8.a5.Seq,j9 2 w8 x.c8.b6.b5,j9 2 w9 x.c8.b6.b7,vi x.c8.b6.d9,vi x.c8.b6.Code,j9 1 eB x.a7,.b x.i9,j9 4 A6 x.i6,.b x.b8.i7,vi x.b8.a5.b9,vi x.b8.a5.Seq,j9 2 w8 x.b8.b6.b5,j9 2 w9 x.b8.b6.b7,vi x.b8.b6.d9,vi x.b8.b6.Code,j9 7 s5 x.f0]
structure l8 where
 a9:Int
 c9:Int
 To:Int
 a8:Int
 g8:Int
 g9:m4
 a7:List m8
def t6(x:l8):List V:=[vi x.a9,vi x.c9,vi x.To,vi x.a8,vi x.g8,.b x.g9.i7,vi x.g9.a5.b9,vi x.g9.a5.Seq,j9 2 w8 x.g9.b6.b5,j9 2 w9 x.g9.b6.b7,vi x.g9.b6.d9,vi x.g9.b6.Code,j9 8 q8 x.a7]
structure x8 where
 a5:n5
 i6:List n8
def C1(x:x8):List V:=[vi x.a5.b9,vi x.a5.Seq,j9 4 A6 x.i6]
structure n6 where
 Node:Int
 a5:n5
 Code:Int
 d9:Int
def z5(x:n6):List V:=[vi x.Node,vi x.a5.b9,vi x.a5.Seq,vi x.Code,vi x.d9]
structure m5 where
 a0:List j6
 d7:List l8
 d8:List x8
 Told:List n6
def K7(x:m5):List V:=[j9 27 x6 x.a0,j9 13 t6 x.d7,j9 3 C1 x.d8,j9 5 z5 x.Told]
structure m9 where
 j4:Int
 d9:Int
def x7(x:m9):List V:=[vi x.j4,vi x.d9]
structure q9 where
 a5:n5
 Code:Int
 d9:Int
def B5(x:q9):List V:=[vi x.a5.b9,vi x.a5.Seq,vi x.Code,vi x.d9]
structure u5 where
 At:Int
 g7:List m9
 i8:List q9
def a82(x:u5):List V:=[vi x.At,j9 2 x7 x.g7,j9 4 B5 x.i8]
structure p7 where
 n:j6
 out:List l8
 told:List n6
def d74(x:p7):List V:=[vi x.n.Id,vi x.n.Acc.i0,j9 8 q8 x.n.Acc.a7,j9 7 s5 x.n.a6,vi x.n.Seq,vi x.n.d6,vi x.n.a8,j9 1 eB x.n.c9,j9 8 q8 x.n.i4,.b x.n.c8.i7,vi x.n.c8.a5.b9,vi x.n.c8.a5.Seq,j9 2 w8 x.n.c8.b6.b5,j9 2 w9 x.n.c8.b6.b7,vi x.n.c8.b6.d9,vi x.n.c8.b6.Code,j9 1 eB x.n.a7,.b x.n.i9,j9 4 A6 x.n.i6,.b x.n.b8.i7,vi x.n.b8.a5.b9,vi x.n.b8.a5.Seq,j9 2 w8 x.n.b8.b6.b5,j9 2 w9 x.n.b8.b6.b7,vi x.n.b8.b6.d9,vi x.n.b8.b6.Code,j9 7 s5 x.n.f0,j9 13 t6 x.out,j9 5 z5 x.told]
def z7(x:j6):List V:=[vi x.Id,vi x.Acc.i0,v6 89 8 q8 x.Acc.a7,v6 53 7 s5 x.a6,vi x.Seq,vi x.d6,vi x.a8,v6 4 1 eB x.c9,j9 8 q8 x.i4,.b x.c8.i7,vi x.c8.a5.b9,vi x.c8.a5.Seq,j9 2 w8 x.c8.b6.b5,j9 2 w9 x.c8.b6.b7,vi x.c8.b6.d9,vi x.c8.b6.Code,v6 4 1 eB x.a7,.b x.i9,j9 4 A6 x.i6,.b x.b8.i7,vi x.b8.a5.b9,vi x.b8.a5.Seq,j9 2 w8 x.b8.b6.b5,j9 2 w9 x.b8.b6.b7,vi x.b8.b6.d9,vi x.b8.b6.Code,v6 53 7 s5 x.f0]
theorem a6q(x:j6):∀v∈z7 x,v.isRef=false:=by simp [z7,V.isRef,vi,j9,v6,b0q]
theorem c7n(x:j6):a10 (z7 x)=x6 x:=by simp [z7,x6,a10,a83,vi,j9,v6,b0q]
def a0W(x:m8):List V:=[vi x.a8,.b x.g9.i7,vi x.g9.a5.b9,vi x.g9.a5.Seq,v6 174 2 w8 x.g9.b6.b5,v6 177 2 w9 x.g9.b6.b7,vi x.g9.b6.d9,vi x.g9.b6.Code]
theorem f4p(x:m8):a10 (a0W x)=q8 x:=by simp [a0W,q8,a10,a83,vi,j9,v6,b0q]
def a1P(l:List n8):List V:=[j9 4 A6 l]
def F9(x:n5):List Int:=[x.b9,x.Seq]
def H4(x_:j6):List V:=[vi x_.Id,vi x_.Acc.i0,v6 89 8 q8 x_.Acc.a7,v6 53 7 s5 x_.a6,vi x_.Seq,vi x_.d6,vi x_.a8,v6 4 1 eB x_.c9,j9 8 q8 x_.i4,.b x_.c8.i7,vi x_.c8.a5.b9,vi x_.c8.a5.Seq,j9 2 w8 x_.c8.b6.b5,j9 2 w9 x_.c8.b6.b7,vi x_.c8.b6.d9,vi x_.c8.b6.Code,v6 4 1 eB x_.a7,.b x_.i9,j9 4 A6 x_.i6,.b x_.b8.i7,vi x_.b8.a5.b9,vi x_.b8.a5.Seq,j9 2 w8 x_.b8.b6.b5,j9 2 w9 x_.b8.b6.b7,vi x_.b8.b6.d9,vi x_.b8.b6.Code,v6 53 7 s5 x_.f0]
def V0(x_:m5):List V:=[b0q 55 27 z7 x_.a0,v6 83 13 t6 x_.d7,v6 73 3 C1 x_.d8,v6 76 5 z5 x_.Told]
def f2U(x_:j6):List V:=[vi x_.Id,vi x_.Acc.i0,j9 8 q8 x_.Acc.a7,v6 53 7 s5 x_.a6,vi x_.Seq,vi x_.d6,vi x_.a8,v6 4 1 eB x_.c9,j9 8 q8 x_.i4,.b x_.c8.i7,vi x_.c8.a5.b9,vi x_.c8.a5.Seq,j9 2 w8 x_.c8.b6.b5,j9 2 w9 x_.c8.b6.b7,vi x_.c8.b6.d9,vi x_.c8.b6.Code,v6 4 1 eB x_.a7,.b x_.i9,j9 4 A6 x_.i6,.b x_.b8.i7,vi x_.b8.a5.b9,vi x_.b8.a5.Seq,j9 2 w8 x_.b8.b6.b5,j9 2 w9 x_.b8.b6.b7,vi x_.b8.b6.d9,vi x_.b8.b6.Code,v6 53 7 s5 x_.f0]
def a5R(x_:n7):List V:=[v6 174 2 w8 x_.b5,v6 177 2 w9 x_.b7,vi x_.d9,vi x_.Code]
def e4B(x_:m4):List V:=[.b x_.i7,vi x_.a5.b9,vi x_.a5.Seq,v6 174 2 w8 x_.b6.b5,v6 177 2 w9 x_.b6.b7,vi x_.b6.d9,vi x_.b6.Code]
def d5n(x_:m8):List V:=[vi x_.a8,.b x_.g9.i7,vi x_.g9.a5.b9,vi x_.g9.a5.Seq,j9 2 w8 x_.g9.b6.b5,j9 2 w9 x_.g9.b6.b7,vi x_.g9.b6.d9,vi x_.g9.b6.Code]
def a8q(x_:j6):List V:=[vi x_.Id,vi x_.Acc.i0,.own 0 0 8 0 x_.Acc.a7.length,.own 0 1 7 0 x_.a6.length,vi x_.Seq,vi x_.d6,vi x_.a8,.own 0 2 1 0 x_.c9.length,j9 8 q8 x_.i4,.b x_.c8.i7,vi x_.c8.a5.b9,vi x_.c8.a5.Seq,j9 2 w8 x_.c8.b6.b5,j9 2 w9 x_.c8.b6.b7,vi x_.c8.b6.d9,vi x_.c8.b6.Code,.own 0 3 1 0 x_.a7.length,.b x_.i9,j9 4 A6 x_.i6,.b x_.b8.i7,vi x_.b8.a5.b9,vi x_.b8.a5.Seq,j9 2 w8 x_.b8.b6.b5,j9 2 w9 x_.b8.b6.b7,vi x_.b8.b6.d9,vi x_.b8.b6.Code,.own 0 4 7 0 x_.f0.length]
def X6(x_:j6):List V:=[vi x_.Id,vi x_.Acc.i0,j9 8 q8 x_.Acc.a7,j9 7 s5 x_.a6,vi x_.Seq,vi x_.d6,vi x_.a8,j9 1 eB x_.c9,j9 8 q8 x_.i4,.b x_.c8.i7,vi x_.c8.a5.b9,vi x_.c8.a5.Seq,j9 2 w8 x_.c8.b6.b5,j9 2 w9 x_.c8.b6.b7,vi x_.c8.b6.d9,vi x_.c8.b6.Code,j9 1 eB x_.a7,.b x_.i9,j9 4 A6 x_.i6,.b x_.b8.i7,vi x_.b8.a5.b9,vi x_.b8.a5.Seq,j9 2 w8 x_.b8.b6.b5,j9 2 w9 x_.b8.b6.b7,vi x_.b8.b6.d9,vi x_.b8.b6.Code,j9 7 s5 x_.f0]
def a5x(x_:l8):List V:=[vi x_.a9,vi x_.c9,vi x_.To,vi x_.a8,vi x_.g8,.b x_.g9.i7,vi x_.g9.a5.b9,vi x_.g9.a5.Seq,j9 2 w8 x_.g9.b6.b5,j9 2 w9 x_.g9.b6.b7,vi x_.g9.b6.d9,vi x_.g9.b6.Code,j9 8 q8 x_.a7]
def a1C(x_:m4):List V:=[.b x_.i7,vi x_.a5.b9,vi x_.a5.Seq,j9 2 w8 x_.b6.b5,j9 2 w9 x_.b6.b7,vi x_.b6.d9,vi x_.b6.Code]
def b3w(x_:u5):List V:=[vi x_.At,v6 142 2 x7 x_.g7,j9 4 B5 x_.i8]
def e0l(x_:j6):List V:=[.bot,.bot,v6 89 8 q8 x_.Acc.a7,v6 53 7 s5 x_.a6,.bot,.bot,.bot,v6 4 1 eB x_.c9,.bot,.bot,.bot,.bot,.bot,.bot,.bot,.bot,v6 4 1 eB x_.a7,.bot,.bot,.bot,.bot,.bot,.bot,.bot,.bot,.bot,v6 53 7 s5 x_.f0]
def f6j(x_:j6):List V:=[vi x_.Id,vi x_.Acc.i0,.own 3 0 8 0 x_.Acc.a7.length,.own 4 0 7 0 x_.a6.length,vi x_.Seq,vi x_.d6,vi x_.a8,.own 5 0 1 0 x_.c9.length,j9 8 q8 x_.i4,.b x_.c8.i7,vi x_.c8.a5.b9,vi x_.c8.a5.Seq,j9 2 w8 x_.c8.b6.b5,j9 2 w9 x_.c8.b6.b7,vi x_.c8.b6.d9,vi x_.c8.b6.Code,.own 6 0 1 0 x_.a7.length,.b x_.i9,j9 4 A6 x_.i6,.b x_.b8.i7,vi x_.b8.a5.b9,vi x_.b8.a5.Seq,j9 2 w8 x_.b8.b6.b5,j9 2 w9 x_.b8.b6.b7,vi x_.b8.b6.d9,vi x_.b8.b6.Code,.own 7 0 7 0 x_.f0.length]
def a9j(x_:m5):List V:=[v6 55 27 x6 x_.a0,v6 83 13 t6 x_.d7,v6 73 3 C1 x_.d8,v6 76 5 z5 x_.Told]
def b8v(x_:p7):List V:=[vi x_.n.Id,vi x_.n.Acc.i0,j9 8 q8 x_.n.Acc.a7,v6 53 7 s5 x_.n.a6,vi x_.n.Seq,vi x_.n.d6,vi x_.n.a8,v6 4 1 eB x_.n.c9,j9 8 q8 x_.n.i4,.b x_.n.c8.i7,vi x_.n.c8.a5.b9,vi x_.n.c8.a5.Seq,j9 2 w8 x_.n.c8.b6.b5,j9 2 w9 x_.n.c8.b6.b7,vi x_.n.c8.b6.d9,vi x_.n.c8.b6.Code,v6 4 1 eB x_.n.a7,.b x_.n.i9,j9 4 A6 x_.n.i6,.b x_.n.b8.i7,vi x_.n.b8.a5.b9,vi x_.n.b8.a5.Seq,j9 2 w8 x_.n.b8.b6.b5,j9 2 w9 x_.n.b8.b6.b7,vi x_.n.b8.b6.d9,vi x_.n.b8.b6.Code,v6 53 7 s5 x_.n.f0,v6 83 13 t6 x_.out,v6 76 5 z5 x_.told]
def b3J(x_:u5):List V:=[vi x_.At,v6 142 2 x7 x_.g7,v6 182 4 B5 x_.i8]
def c2N(x_:p7):List V:=[vi x_.n.Id,vi x_.n.Acc.i0,j9 8 q8 x_.n.Acc.a7,.own 0 1 7 0 x_.n.a6.length,vi x_.n.Seq,vi x_.n.d6,vi x_.n.a8,.own 0 2 1 0 x_.n.c9.length,j9 8 q8 x_.n.i4,.b x_.n.c8.i7,vi x_.n.c8.a5.b9,vi x_.n.c8.a5.Seq,j9 2 w8 x_.n.c8.b6.b5,j9 2 w9 x_.n.c8.b6.b7,vi x_.n.c8.b6.d9,vi x_.n.c8.b6.Code,.own 0 3 1 0 x_.n.a7.length,.b x_.n.i9,j9 4 A6 x_.n.i6,.b x_.n.b8.i7,vi x_.n.b8.a5.b9,vi x_.n.b8.a5.Seq,j9 2 w8 x_.n.b8.b6.b5,j9 2 w9 x_.n.b8.b6.b7,vi x_.n.b8.b6.d9,vi x_.n.b8.b6.Code,j9 7 s5 x_.n.f0,.own 0 4 13 0 x_.out.length,.own 0 5 5 0 x_.told.length]
def N1(x_:p7):List V:=[vi x_.n.Id,vi x_.n.Acc.i0,j9 8 q8 x_.n.Acc.a7,v6 53 7 s5 x_.n.a6,vi x_.n.Seq,vi x_.n.d6,vi x_.n.a8,v6 4 1 eB x_.n.c9,j9 8 q8 x_.n.i4,.b x_.n.c8.i7,vi x_.n.c8.a5.b9,vi x_.n.c8.a5.Seq,j9 2 w8 x_.n.c8.b6.b5,j9 2 w9 x_.n.c8.b6.b7,vi x_.n.c8.b6.d9,vi x_.n.c8.b6.Code,v6 4 1 eB x_.n.a7,.b x_.n.i9,j9 4 A6 x_.n.i6,.b x_.n.b8.i7,vi x_.n.b8.a5.b9,vi x_.n.b8.a5.Seq,j9 2 w8 x_.n.b8.b6.b5,j9 2 w9 x_.n.b8.b6.b7,vi x_.n.b8.b6.d9,vi x_.n.b8.b6.Code,j9 7 s5 x_.n.f0,v6 83 13 t6 x_.out,v6 76 5 z5 x_.told]
def b1V(x_:p7):List V:=[vi x_.n.Id,vi x_.n.Acc.i0,j9 8 q8 x_.n.Acc.a7,.own 1 0 7 0 x_.n.a6.length,vi x_.n.Seq,vi x_.n.d6,vi x_.n.a8,.own 2 0 1 0 x_.n.c9.length,j9 8 q8 x_.n.i4,.b x_.n.c8.i7,vi x_.n.c8.a5.b9,vi x_.n.c8.a5.Seq,j9 2 w8 x_.n.c8.b6.b5,j9 2 w9 x_.n.c8.b6.b7,vi x_.n.c8.b6.d9,vi x_.n.c8.b6.Code,.own 3 0 1 0 x_.n.a7.length,.b x_.n.i9,j9 4 A6 x_.n.i6,.b x_.n.b8.i7,vi x_.n.b8.a5.b9,vi x_.n.b8.a5.Seq,j9 2 w8 x_.n.b8.b6.b5,j9 2 w9 x_.n.b8.b6.b7,vi x_.n.b8.b6.d9,vi x_.n.b8.b6.Code,j9 7 s5 x_.n.f0,.own 4 0 13 0 x_.out.length,.own 5 0 5 0 x_.told.length]
def e5g(x_:p7):List V:=[vi x_.n.Id,vi x_.n.Acc.i0,j9 8 q8 x_.n.Acc.a7,.own 6 0 7 0 x_.n.a6.length,vi x_.n.Seq,vi x_.n.d6,vi x_.n.a8,.own 5 0 1 0 x_.n.c9.length,j9 8 q8 x_.n.i4,.b x_.n.c8.i7,vi x_.n.c8.a5.b9,vi x_.n.c8.a5.Seq,j9 2 w8 x_.n.c8.b6.b5,j9 2 w9 x_.n.c8.b6.b7,vi x_.n.c8.b6.d9,vi x_.n.c8.b6.Code,.own 4 0 1 0 x_.n.a7.length,.b x_.n.i9,j9 4 A6 x_.n.i6,.b x_.n.b8.i7,vi x_.n.b8.a5.b9,vi x_.n.b8.a5.Seq,j9 2 w8 x_.n.b8.b6.b5,j9 2 w9 x_.n.b8.b6.b7,vi x_.n.b8.b6.d9,vi x_.n.b8.b6.Code,j9 7 s5 x_.n.f0,.own 3 0 13 0 x_.out.length,.own 2 0 5 0 x_.told.length]
def b3Y(x_:p7):List V:=[vi x_.n.Id,vi x_.n.Acc.i0,j9 8 q8 x_.n.Acc.a7,.own 3 0 7 0 x_.n.a6.length,vi x_.n.Seq,vi x_.n.d6,vi x_.n.a8,.own 4 0 1 0 x_.n.c9.length,j9 8 q8 x_.n.i4,.b x_.n.c8.i7,vi x_.n.c8.a5.b9,vi x_.n.c8.a5.Seq,j9 2 w8 x_.n.c8.b6.b5,j9 2 w9 x_.n.c8.b6.b7,vi x_.n.c8.b6.d9,vi x_.n.c8.b6.Code,.own 5 0 1 0 x_.n.a7.length,.b x_.n.i9,j9 4 A6 x_.n.i6,.b x_.n.b8.i7,vi x_.n.b8.a5.b9,vi x_.n.b8.a5.Seq,j9 2 w8 x_.n.b8.b6.b5,j9 2 w9 x_.n.b8.b6.b7,vi x_.n.b8.b6.d9,vi x_.n.b8.b6.Code,j9 7 s5 x_.n.f0,.own 6 0 13 0 x_.out.length,.own 7 0 5 0 x_.told.length]
def c7C(x_:p7):List V:=[vi x_.n.Id,vi x_.n.Acc.i0,j9 8 q8 x_.n.Acc.a7,.own 1 0 7 0 x_.n.a6.length,vi x_.n.Seq,vi x_.n.d6,vi x_.n.a8,.own 0 2 1 0 x_.n.c9.length,j9 8 q8 x_.n.i4,.b x_.n.c8.i7,vi x_.n.c8.a5.b9,vi x_.n.c8.a5.Seq,j9 2 w8 x_.n.c8.b6.b5,j9 2 w9 x_.n.c8.b6.b7,vi x_.n.c8.b6.d9,vi x_.n.c8.b6.Code,.own 2 0 1 0 x_.n.a7.length,.b x_.n.i9,j9 4 A6 x_.n.i6,.b x_.n.b8.i7,vi x_.n.b8.a5.b9,vi x_.n.b8.a5.Seq,j9 2 w8 x_.n.b8.b6.b5,j9 2 w9 x_.n.b8.b6.b7,vi x_.n.b8.b6.d9,vi x_.n.b8.b6.Code,j9 7 s5 x_.n.f0,.own 0 4 13 0 x_.out.length,.own 0 5 5 0 x_.told.length]
def e2w(x_:p7):List V:=[vi x_.n.Id,vi x_.n.Acc.i0,j9 8 q8 x_.n.Acc.a7,.own 1 0 7 0 x_.n.a6.length,vi x_.n.Seq,vi x_.n.d6,vi x_.n.a8,.own 0 2 1 0 x_.n.c9.length,j9 8 q8 x_.n.i4,.b x_.n.c8.i7,vi x_.n.c8.a5.b9,vi x_.n.c8.a5.Seq,j9 2 w8 x_.n.c8.b6.b5,j9 2 w9 x_.n.c8.b6.b7,vi x_.n.c8.b6.d9,vi x_.n.c8.b6.Code,.own 2 0 1 0 x_.n.a7.length,.b x_.n.i9,j9 4 A6 x_.n.i6,.b x_.n.b8.i7,vi x_.n.b8.a5.b9,vi x_.n.b8.a5.Seq,j9 2 w8 x_.n.b8.b6.b5,j9 2 w9 x_.n.b8.b6.b7,vi x_.n.b8.b6.d9,vi x_.n.b8.b6.Code,j9 7 s5 x_.n.f0,.own 0 4 13 0 x_.out.length,.own 3 0 5 0 x_.told.length]
def e3X(x_:p7):List V:=[vi x_.n.Id,vi x_.n.Acc.i0,j9 8 q8 x_.n.Acc.a7,.own 4 0 7 0 x_.n.a6.length,vi x_.n.Seq,vi x_.n.d6,vi x_.n.a8,.own 5 0 1 0 x_.n.c9.length,j9 8 q8 x_.n.i4,.b x_.n.c8.i7,vi x_.n.c8.a5.b9,vi x_.n.c8.a5.Seq,j9 2 w8 x_.n.c8.b6.b5,j9 2 w9 x_.n.c8.b6.b7,vi x_.n.c8.b6.d9,vi x_.n.c8.b6.Code,.own 6 0 1 0 x_.n.a7.length,.b x_.n.i9,j9 4 A6 x_.n.i6,.b x_.n.b8.i7,vi x_.n.b8.a5.b9,vi x_.n.b8.a5.Seq,j9 2 w8 x_.n.b8.b6.b5,j9 2 w9 x_.n.b8.b6.b7,vi x_.n.b8.b6.d9,vi x_.n.b8.b6.Code,j9 7 s5 x_.n.f0,.own 7 0 13 0 x_.out.length,.own 8 0 5 0 x_.told.length]
def a9a(x_:j6):List s9:=[m6 89 8 q8 x_.Acc.a7,m6 53 7 s5 x_.a6,m6 4 1 eB x_.c9,m6 4 1 eB x_.a7,m6 53 7 s5 x_.f0]
def e1j(x_:j6):List (Option (List s9)):=[some [m6 89 8 q8 x_.Acc.a7],some [m6 53 7 s5 x_.a6],some [m6 4 1 eB x_.c9],some [m6 4 1 eB x_.a7],some [m6 53 7 s5 x_.f0]]
def c4S(x_:p7):List s9:=[m6 53 7 s5 x_.n.a6,m6 4 1 eB x_.n.c9,m6 4 1 eB x_.n.a7,m6 83 13 t6 x_.out,m6 76 5 z5 x_.told]
def a3g(x_:p7):List (Option (List s9)):=[some [m6 53 7 s5 x_.n.a6],some [m6 4 1 eB x_.n.c9],some [m6 4 1 eB x_.n.a7],some [m6 83 13 t6 x_.out],some [m6 76 5 z5 x_.told]]
def e1H(x_:p7):List (Option (List s9)):=[some [m6 76 5 z5 x_.told],some [m6 83 13 t6 x_.out],some [m6 4 1 eB x_.n.a7],some [m6 4 1 eB x_.n.c9],some [m6 53 7 s5 x_.n.a6]]
def d7F(x_:p7):List s9:=[m6 83 13 t6 x_.out,m6 76 5 z5 x_.told]
def d38(x_:p7):List (Option (List s9)):=[some [m6 53 7 s5 x_.n.a6],some [m6 4 1 eB x_.n.a7]]
def d9H(x_:p7):List (Option (List s9)):=[some [m6 53 7 s5 x_.n.a6],some [m6 4 1 eB x_.n.a7],some [m6 76 5 z5 x_.told]]
def H2:List (Option Nat):=[none,none,some 89,some 53,none,none,none,some 4,none,none,none,none,none,none,none,none,some 4,none,none,none,none,none,none,none,none,none,some 53]
def U3:List (Option Nat):=[some 1000055,some 83,some 73,some 76]
def om3:List (Option Nat):=[none,none,none,some 53,none,none,none,some 4,none,none,none,none,none,none,none,none,some 4,none,none,none,none,none,none,none,none,none,some 53]
def om4:List (Option Nat):=[some 174,some 177,none,none]
def om5:List (Option Nat):=[none,none,none,some 174,some 177,none,none]
def om6:List (Option Nat):=[some 55,some 83,some 73,some 76]
def om7:List (Option Nat):=[none,none,none,some 53,none,none,none,some 4,none,none,none,none,none,none,none,none,some 4,none,none,none,none,none,none,none,none,none,some 53,some 83,some 76]
def N0:List (Option Nat):=[none,none,none,some 53,none,none,none,some 4,none,none,none,none,none,none,none,none,some 4,none,none,none,none,none,none,none,none,none,none,some 83,some 76]
def C5:List (Option Nat):=[some 27,some 13,some 3,some 5]
def O7:List (Option Nat):=[some 2,some 2,none,none]
def J3:List (Option Nat):=[none,none,none,some 2,some 2,none,none]
def A8:List (Option Nat):=[none,none,some 8,some 7,none,none,none,some 1,some 8,none,none,none,some 2,some 2,none,none,some 1,none,some 4,none,none,none,some 2,some 2,none,none,some 7]
def C2:List (Option Nat):=[none,none,none,none,none,none,none,none,some 2,some 2,none,none,some 8]
def U9:List (Option Nat):=[none,none,none,none,some 2,some 2,none,none]
def J4:List (Option Nat):=[none,none,some 8,some 7,none,none,none,some 1,some 8,none,none,none,some 2,some 2,none,none,some 1,none,some 4,none,none,none,some 2,some 2,none,none,some 7,some 13,some 5]
theorem e88(d:Nat)(w:World)(x0 x1 y0 y1:Int):(Op.equalIn (d+2) 47 (.agg #[.int .i64 x0,.int .i64 x1]) (.agg #[.int .i64 y0,.int .i64 y1])).run Tryz.prog w=.ok ((x0==y0)&&((x1==y1)&&true)) w:=by
 refine b8S Tryz.underlying47 Tryz.stoodInHeld47 ?_;refine a6S (by rfl) (by first|(go_simp;done)|(go_simp;rfl)) (by first|(go_simp;done)|(go_simp;rfl)) (a7a Tryz.underlying3) ?_;refine a6S (by rfl) (by first|(go_simp;done)|(go_simp;rfl)) (by first|(go_simp;done)|(go_simp;rfl)) (a7a Tryz.underlying3) ?_;exact b7o
theorem f3B(xs ys:List Int)(w:World)(hx:xs.length=2)(hy:ys.length=2):(Op.equal 47 (.agg (xs.map (Value.int .i64)).toArray) (.agg (ys.map (Value.int .i64)).toArray)).run Tryz.prog w=.ok (xs==ys) w:=by
 match xs,ys,hx,hy with
 | [x0,x1],[y0,y1],_,_=>
  have h:=e88 9998 w x0 x1 y0 y1;have e:((x0==y0)&&((x1==y1)&&true))=([x0,x1]==([y0,y1]:List Int)):=by simp [g0X]
  rw [e] at h;exact h
theorem f0N(d:Nat)(w:World)(x0 x1 y0 y1:Int):(Op.equalIn (d+2) 142 (.agg #[.int .i64 x0,.int .i64 x1]) (.agg #[.int .i64 y0,.int .i64 y1])).run Tryz.prog w=.ok ((x0==y0)&&((x1==y1)&&true)) w:=by
 refine b8S Tryz.underlying142 Tryz.stoodInHeld142 ?_;refine a6S (by rfl) (by first|(go_simp;done)|(go_simp;rfl)) (by first|(go_simp;done)|(go_simp;rfl)) (a7a Tryz.underlying3) ?_;refine a6S (by rfl) (by first|(go_simp;done)|(go_simp;rfl)) (by first|(go_simp;done)|(go_simp;rfl)) (a7a Tryz.underlying3) ?_;exact b7o
theorem f1c(xs ys:List Int)(w:World)(hx:xs.length=2)(hy:ys.length=2):(Op.equal 142 (.agg (xs.map (Value.int .i64)).toArray) (.agg (ys.map (Value.int .i64)).toArray)).run Tryz.prog w=.ok (xs==ys) w:=by
 match xs,ys,hx,hy with
 | [x0,x1],[y0,y1],_,_=>
  have h:=f0N 9998 w x0 x1 y0 y1;have e:((x0==y0)&&((x1==y1)&&true))=([x0,x1]==([y0,y1]:List Int)):=by simp [g0X]
  rw [e] at h;exact h
theorem d84(d:Nat)(w:World)(x0 x1 y0 y1:Int):(Op.equalIn (d+2) 174 (.agg #[.int .i64 x0,.int .i64 x1]) (.agg #[.int .i64 y0,.int .i64 y1])).run Tryz.prog w=.ok ((x0==y0)&&((x1==y1)&&true)) w:=by
 refine b8S Tryz.underlying174 Tryz.stoodInHeld174 ?_;refine a6S (by rfl) (by first|(go_simp;done)|(go_simp;rfl)) (by first|(go_simp;done)|(go_simp;rfl)) (a7a Tryz.underlying3) ?_;refine a6S (by rfl) (by first|(go_simp;done)|(go_simp;rfl)) (by first|(go_simp;done)|(go_simp;rfl)) (a7a Tryz.underlying3) ?_;exact b7o
theorem f6M(xs ys:List Int)(w:World)(hx:xs.length=2)(hy:ys.length=2):(Op.equal 174 (.agg (xs.map (Value.int .i64)).toArray) (.agg (ys.map (Value.int .i64)).toArray)).run Tryz.prog w=.ok (xs==ys) w:=by
 match xs,ys,hx,hy with
 | [x0,x1],[y0,y1],_,_=>
  have h:=d84 9998 w x0 x1 y0 y1;have e:((x0==y0)&&((x1==y1)&&true))=([x0,x1]==([y0,y1]:List Int)):=by simp [g0X]
  rw [e] at h;exact h
theorem e9M(d:Nat)(w:World)(x0 x1 y0 y1:Int):(Op.equalIn (d+2) 177 (.agg #[.int .i64 x0,.int .i64 x1]) (.agg #[.int .i64 y0,.int .i64 y1])).run Tryz.prog w=.ok ((x0==y0)&&((x1==y1)&&true)) w:=by
 refine b8S Tryz.underlying177 Tryz.stoodInHeld177 ?_;refine a6S (by rfl) (by first|(go_simp;done)|(go_simp;rfl)) (by first|(go_simp;done)|(go_simp;rfl)) (a7a Tryz.underlying3) ?_;refine a6S (by rfl) (by first|(go_simp;done)|(go_simp;rfl)) (by first|(go_simp;done)|(go_simp;rfl)) (a7a Tryz.underlying3) ?_;exact b7o
theorem e6u(xs ys:List Int)(w:World)(hx:xs.length=2)(hy:ys.length=2):(Op.equal 177 (.agg (xs.map (Value.int .i64)).toArray) (.agg (ys.map (Value.int .i64)).toArray)).run Tryz.prog w=.ok (xs==ys) w:=by
 match xs,ys,hx,hy with
 | [x0,x1],[y0,y1],_,_=>
  have h:=e9M 9998 w x0 x1 y0 y1;have e:((x0==y0)&&((x1==y1)&&true))=([x0,x1]==([y0,y1]:List Int)):=by simp [g0X]
  rw [e] at h;exact h
def ti3:TI:={size:=1,bytes:=8,agg:=false,zero:=[vi 0],sl:=none,arr:=none,ik:=some .i64,fs:=none,str:=false,ptr:=none,bl:=false}
def ti4:TI:={size:=1,bytes:=1,agg:=false,zero:=[.b false],sl:=none,arr:=none,ik:=none,fs:=none,str:=false,ptr:=none,bl:=true}
def ti5:TI:={size:=1,bytes:=1,agg:=false,zero:=[.i .u8 0],sl:=none,arr:=none,ik:=some .u8,fs:=none,str:=false,ptr:=none,bl:=false}
def d0O:TI:={size:=1,bytes:=24,agg:=false,zero:=[.nil],sl:=some 5,arr:=none,ik:=none,fs:=none,str:=false,ptr:=none,bl:=false}
def c9I:TI:={size:=1,bytes:=24,agg:=false,zero:=[.nil],sl:=some 35,arr:=none,ik:=none,fs:=none,str:=false,ptr:=none,bl:=false}
def d0z:TI:={size:=1,bytes:=24,agg:=false,zero:=[.nil],sl:=some 55,arr:=none,ik:=none,fs:=none,str:=false,ptr:=none,bl:=false}
def d33:TI:={size:=1,bytes:=24,agg:=false,zero:=[.nil],sl:=some 83,arr:=none,ik:=none,fs:=none,str:=false,ptr:=none,bl:=false}
def c96:TI:={size:=1,bytes:=24,agg:=false,zero:=[.nil],sl:=some 73,arr:=none,ik:=none,fs:=none,str:=false,ptr:=none,bl:=false}
def d5H:TI:={size:=1,bytes:=24,agg:=false,zero:=[.nil],sl:=some 76,arr:=none,ik:=none,fs:=none,str:=false,ptr:=none,bl:=false}
def d2p:TI:={size:=4,bytes:=96,agg:=true,zero:=[.nil,.nil,.nil,.nil],sl:=none,arr:=none,ik:=none,fs:=some [(0,25),(1,26),(2,27),(3,28)],str:=false,ptr:=none,bl:=false}
def d2W:TI:={size:=1,bytes:=24,agg:=false,zero:=[.nil],sl:=some 80,arr:=none,ik:=none,fs:=none,str:=false,ptr:=none,bl:=false}
def c8M:TI:={size:=3,bytes:=40,agg:=true,zero:=[vi 0,vi 0,.nil],sl:=none,arr:=none,ik:=none,fs:=some [(0,3),(1,3),(2,33)],str:=false,ptr:=none,bl:=false}
def d3W:TI:={size:=1,bytes:=24,agg:=false,zero:=[.nil],sl:=some 89,arr:=none,ik:=none,fs:=none,str:=false,ptr:=none,bl:=false}
def d5X:TI:={size:=2,bytes:=32,agg:=true,zero:=[vi 0,.nil],sl:=none,arr:=none,ik:=none,fs:=some [(0,3),(1,41)],str:=false,ptr:=none,bl:=false}
def d7t:TI:={size:=1,bytes:=24,agg:=false,zero:=[.nil],sl:=some 53,arr:=none,ik:=none,fs:=none,str:=false,ptr:=none,bl:=false}
def d3d:TI:={size:=1,bytes:=24,agg:=false,zero:=[.nil],sl:=some 4,arr:=none,ik:=none,fs:=none,str:=false,ptr:=none,bl:=false}
def c1W:TI:={size:=2,bytes:=16,agg:=true,zero:=[vi 0,vi 0],sl:=none,arr:=none,ik:=none,fs:=some [(0,3),(1,3)],str:=false,ptr:=none,bl:=false}
def d2J:TI:={size:=1,bytes:=24,agg:=false,zero:=[.nil],sl:=some 174,arr:=none,ik:=none,fs:=none,str:=false,ptr:=none,bl:=false}
def d7n:TI:={size:=1,bytes:=24,agg:=false,zero:=[.nil],sl:=some 177,arr:=none,ik:=none,fs:=none,str:=false,ptr:=none,bl:=false}
def d3j:TI:={size:=4,bytes:=64,agg:=true,zero:=[.nil,.nil,vi 0,vi 0],sl:=none,arr:=none,ik:=none,fs:=some [(0,48),(1,49),(2,3),(3,3)],str:=false,ptr:=none,bl:=false}
def c4d:TI:={size:=7,bytes:=88,agg:=true,zero:=[.b false,vi 0,vi 0,.nil,.nil,vi 0,vi 0],sl:=none,arr:=none,ik:=none,fs:=some [(0,4),(1,47),(3,51)],str:=false,ptr:=none,bl:=false}
def c4c:TI:={size:=27,bytes:=392,agg:=true,zero:=[vi 0,vi 0,.nil,.nil,vi 0,vi 0,vi 0,.nil,.nil,.b false,vi 0,vi 0,.nil,.nil,vi 0,vi 0,.nil,.b false,.nil,.b false,vi 0,vi 0,.nil,.nil,vi 0,vi 0,.nil],sl:=none,arr:=none,ik:=none,fs:=some [(0,3),(1,43),(3,44),(4,3),(5,3),(6,3),(7,45),(8,41),(9,53),(16,45),(17,4),(18,33),(19,53),(26,44)],str:=false,ptr:=none,bl:=false}
def d3e:TI:={size:=1,bytes:=24,agg:=false,zero:=[.nil],sl:=some 3,arr:=none,ik:=none,fs:=none,str:=false,ptr:=none,bl:=false}
def c9o:TI:={size:=2,bytes:=32,agg:=true,zero:=[.nil,vi 0],sl:=none,arr:=none,ik:=none,fs:=some [(0,22),(1,3)],str:=false,ptr:=none,bl:=false}
def c7g:TI:={size:=3,bytes:=40,agg:=true,zero:=[vi 0,vi 0,.nil],sl:=none,arr:=none,ik:=none,fs:=some [(0,47),(2,33)],str:=false,ptr:=none,bl:=false}
def c6A:TI:={size:=5,bytes:=40,agg:=true,zero:=[vi 0,vi 0,vi 0,vi 0,vi 0],sl:=none,arr:=none,ik:=none,fs:=some [(0,3),(1,47),(3,3),(4,3)],str:=false,ptr:=none,bl:=false}
def c6p:TI:={size:=4,bytes:=32,agg:=true,zero:=[vi 0,vi 0,vi 0,vi 0],sl:=none,arr:=none,ik:=none,fs:=some [(0,3),(1,3),(2,3),(3,3)],str:=false,ptr:=none,bl:=false}
def c5l:TI:={size:=13,bytes:=152,agg:=true,zero:=[vi 0,vi 0,vi 0,vi 0,vi 0,.b false,vi 0,vi 0,.nil,.nil,vi 0,vi 0,.nil],sl:=none,arr:=none,ik:=none,fs:=some [(0,3),(1,3),(2,3),(3,3),(4,3),(5,53),(12,41)],str:=false,ptr:=none,bl:=false}
def b2k:TI:={size:=8,bytes:=96,agg:=true,zero:=[vi 0,.b false,vi 0,vi 0,.nil,.nil,vi 0,vi 0],sl:=none,arr:=none,ik:=none,fs:=some [(0,3),(1,53)],str:=false,ptr:=none,bl:=false}
def d5u:TI:={size:=1,bytes:=24,agg:=false,zero:=[.nil],sl:=some 47,arr:=none,ik:=none,fs:=none,str:=false,ptr:=none,bl:=false}
def d51:TI:={size:=1,bytes:=24,agg:=false,zero:=[.nil],sl:=some 33,arr:=none,ik:=none,fs:=none,str:=false,ptr:=none,bl:=false}
def d0q:TI:={size:=1,bytes:=24,agg:=false,zero:=[.nil],sl:=some 142,arr:=none,ik:=none,fs:=none,str:=false,ptr:=none,bl:=false}
def c9O:TI:={size:=1,bytes:=24,agg:=false,zero:=[.nil],sl:=some 182,arr:=none,ik:=none,fs:=none,str:=false,ptr:=none,bl:=false}
def d2a:TI:={size:=3,bytes:=56,agg:=true,zero:=[vi 0,.nil,.nil],sl:=none,arr:=none,ik:=none,fs:=some [(0,3),(1,97),(2,102)],str:=false,ptr:=none,bl:=false}
def b26:TI:={size:=2,bytes:=16,agg:=true,zero:=[vi 0,vi 0],sl:=none,arr:=none,ik:=none,fs:=some [(0,3),(1,3)],str:=false,ptr:=none,bl:=false}
def d7G:TI:={size:=29,bytes:=440,agg:=true,zero:=[vi 0,vi 0,.nil,.nil,vi 0,vi 0,vi 0,.nil,.nil,.b false,vi 0,vi 0,.nil,.nil,vi 0,vi 0,.nil,.b false,.nil,.b false,vi 0,vi 0,.nil,.nil,vi 0,vi 0,.nil,.nil,.nil],sl:=none,arr:=none,ik:=none,fs:=some [(0,55),(27,26),(28,28)],str:=false,ptr:=none,bl:=false}
def c2B:TI:={size:=2,bytes:=16,agg:=true,zero:=[vi 0,vi 0],sl:=none,arr:=none,ik:=none,fs:=some [(0,3),(1,3)],str:=false,ptr:=none,bl:=false}
def c46:TI:={size:=2,bytes:=16,agg:=true,zero:=[vi 0,vi 0],sl:=none,arr:=none,ik:=none,fs:=some [(0,3),(1,3)],str:=false,ptr:=none,bl:=false}
def c1R:TI:={size:=4,bytes:=32,agg:=true,zero:=[vi 0,vi 0,vi 0,vi 0],sl:=none,arr:=none,ik:=none,fs:=some [(0,47),(2,3),(3,3)],str:=false,ptr:=none,bl:=false}
def d3P:TI:={size:=4,bytes:=4,agg:=true,zero:=[.b false,.b false,.b false,.b false],sl:=none,arr:=some (4,4),ik:=none,fs:=none,str:=false,ptr:=none,bl:=false}
def d8y:TI:={size:=4,bytes:=32,agg:=true,zero:=[vi 0,vi 0,vi 0,vi 0],sl:=none,arr:=some (4,3),ik:=none,fs:=none,str:=false,ptr:=none,bl:=false}
def c2s:List (Nat×TI):=[(3,ti3),(4,ti4),(5,ti5),(22,d0O),(23,c9I),(25,d0z),(26,d33),(27,c96),(28,d5H),(30,d2p),(33,d2W),(35,c8M),(41,d3W),(43,d5X),(44,d7t),(45,d3d),(47,c1W),(48,d2J),(49,d7n),(51,d3j),(53,c4d),(55,c4c),(63,d3e),(67,c9o),(73,c7g),(76,c6A),(80,c6p),(83,c5l),(89,b2k),(92,d5u),(94,d51),(97,d0q),(102,c9O),(104,d2a),(142,b26),(163,d7G),(174,c2B),(177,c46),(182,c1R),(191,d3P),(192,d8y)]
def b5Y:List (Nat×TI)->Nat->Option TI
 | [],_=>none
 | (k,x)::l,t=>if Nat.beq k t then some x else b5Y l t
theorem f3x{l:List (Nat×TI)}{t:Nat}{x:TI}(h:b5Y l t=some x):(t,x)∈l:=by
 induction l with
 | nil=>cases h
 | cons p l ih=>
  obtain ⟨k,y⟩:=p;unfold b5Y at h;split at h
  ·rename_i hk;have:k=t:=f9w hk;injection h with h;subst this;subst h;simp
  ·exact f8J.2 (.inr (ih h))
theorem e6g:G3 Tryz.prog 3=some ti3:=by kernel_rfl
theorem d9T:G3 Tryz.prog 4=some ti4:=by kernel_rfl
theorem e7P:G3 Tryz.prog 5=some ti5:=by kernel_rfl
theorem e79:G3 Tryz.prog 22=some d0O:=by kernel_rfl
theorem e3F:G3 Tryz.prog 23=some c9I:=by kernel_rfl
theorem e8h:G3 Tryz.prog 25=some d0z:=by kernel_rfl
theorem f4V:G3 Tryz.prog 26=some d33:=by kernel_rfl
theorem e9N:G3 Tryz.prog 27=some c96:=by kernel_rfl
theorem d9z:G3 Tryz.prog 28=some d5H:=by kernel_rfl
theorem f0u:G3 Tryz.prog 30=some d2p:=by kernel_rfl
theorem f1Z:G3 Tryz.prog 33=some d2W:=by kernel_rfl
theorem e4y:G3 Tryz.prog 35=some c8M:=by kernel_rfl
theorem e95:G3 Tryz.prog 41=some d3W:=by kernel_rfl
theorem e0i:G3 Tryz.prog 43=some d5X:=by kernel_rfl
theorem f0a:G3 Tryz.prog 44=some d7t:=by kernel_rfl
theorem e50:G3 Tryz.prog 45=some d3d:=by kernel_rfl
theorem f1z:G3 Tryz.prog 47=some c1W:=by kernel_rfl
theorem e5n:G3 Tryz.prog 48=some d2J:=by kernel_rfl
theorem f1g:G3 Tryz.prog 49=some d7n:=by kernel_rfl
theorem f3k:G3 Tryz.prog 51=some d3j:=by kernel_rfl
theorem e1E:G3 Tryz.prog 53=some c4d:=by kernel_rfl
theorem e5A:G3 Tryz.prog 55=some c4c:=by kernel_rfl
theorem f1E:G3 Tryz.prog 63=some d3e:=by kernel_rfl
theorem f4w:G3 Tryz.prog 67=some c9o:=by kernel_rfl
theorem e3w:G3 Tryz.prog 73=some c7g:=by kernel_rfl
theorem f5S:G3 Tryz.prog 76=some c6A:=by kernel_rfl
theorem e4q:G3 Tryz.prog 80=some c6p:=by kernel_rfl
theorem e0R:G3 Tryz.prog 83=some c5l:=by kernel_rfl
theorem e7B:G3 Tryz.prog 89=some b2k:=by kernel_rfl
theorem e1U:G3 Tryz.prog 92=some d5u:=by kernel_rfl
theorem e7p:G3 Tryz.prog 94=some d51:=by kernel_rfl
theorem e3R:G3 Tryz.prog 97=some d0q:=by kernel_rfl
theorem e3U:G3 Tryz.prog 102=some c9O:=by kernel_rfl
theorem e8i:G3 Tryz.prog 104=some d2a:=by kernel_rfl
theorem e7f:G3 Tryz.prog 142=some b26:=by kernel_rfl
theorem e6T:G3 Tryz.prog 163=some d7G:=by kernel_rfl
theorem e06:G3 Tryz.prog 174=some c2B:=by kernel_rfl
theorem e6i:G3 Tryz.prog 177=some c46:=by kernel_rfl
theorem f2F:G3 Tryz.prog 182=some c1R:=by kernel_rfl
theorem e3S:G3 Tryz.prog 191=some d3P:=by kernel_rfl
theorem e67:G3 Tryz.prog 192=some d8y:=by kernel_rfl
theorem e3C:∀p∈c2s,G3 Tryz.prog p.1=some p.2:=by
 intro p hp;simp only [c2s,f8J,g0M,or_false] at hp;rcases hp with rfl|rfl|rfl|rfl|rfl|rfl|rfl|rfl|rfl|rfl|rfl|rfl|rfl|rfl|rfl|rfl|rfl|rfl|rfl|rfl|rfl|rfl|rfl|rfl|rfl|rfl|rfl|rfl|rfl|rfl|rfl|rfl|rfl|rfl|rfl|rfl|rfl|rfl|rfl|rfl|rfl
 ·exact e6g
 ·exact d9T
 ·exact e7P
 ·exact e79
 ·exact e3F
 ·exact e8h
 ·exact f4V
 ·exact e9N
 ·exact d9z
 ·exact f0u
 ·exact f1Z
 ·exact e4y
 ·exact e95
 ·exact e0i
 ·exact f0a
 ·exact e50
 ·exact f1z
 ·exact e5n
 ·exact f1g
 ·exact f3k
 ·exact e1E
 ·exact e5A
 ·exact f1E
 ·exact f4w
 ·exact e3w
 ·exact f5S
 ·exact e4q
 ·exact e0R
 ·exact e7B
 ·exact e1U
 ·exact e7p
 ·exact e3R
 ·exact e3U
 ·exact e8i
 ·exact e7f
 ·exact e6T
 ·exact e06
 ·exact e6i
 ·exact f2F
 ·exact e3S
 ·exact e67
def b0L(t:Nat):Option Nat:=if Nat.beq t 47 then some 2 else if Nat.beq t 142 then some 2 else if Nat.beq t 174 then some 2 else if Nat.beq t 177 then some 2 else  none
theorem d9N(t m:Nat)(h:b0L t=some m)(xs ys:List Int)(w:World)(hx:xs.length=m)(hy:ys.length=m):(Op.equal t (.agg (xs.map (Value.int .i64)).toArray) (.agg (ys.map (Value.int .i64)).toArray)).run Tryz.prog w=.ok (xs==ys) w:=by
 unfold b0L at h;split at h
 ·rename_i hk;have hm:2=m:=f9V h;rw [f9w hk];exact f3B xs ys w (hx.trans hm.symm) (hy.trans hm.symm)
 split at h
 ·rename_i hk;have hm:2=m:=f9V h;rw [f9w hk];exact f1c xs ys w (hx.trans hm.symm) (hy.trans hm.symm)
 split at h
 ·rename_i hk;have hm:2=m:=f9V h;rw [f9w hk];exact f6M xs ys w (hx.trans hm.symm) (hy.trans hm.symm)
 split at h
 ·rename_i hk;have hm:2=m:=f9V h;rw [f9w hk];exact e6u xs ys w (hx.trans hm.symm) (hy.trans hm.symm)
 cases h
theorem f6k(t m:Nat)(h:b0L t=some m):Tryz.prog.eqGuardType Tryz.prog.depth t=false:=by
 unfold b0L at h;split at h
 ·rename_i hk;have hm:2=m:=f9V h;rw [f9w hk];exact Tryz.eqGuardType47
 split at h
 ·rename_i hk;have hm:2=m:=f9V h;rw [f9w hk];exact Tryz.eqGuardType142
 split at h
 ·rename_i hk;have hm:2=m:=f9V h;rw [f9w hk];exact Tryz.eqGuardType174
 split at h
 ·rename_i hk;have hm:2=m:=f9V h;rw [f9w hk];exact Tryz.eqGuardType177
 cases h
theorem e7T:Tryz.prog.underlying 109=some (.map 47 4):=by kernel_rfl
theorem e21(w:World):(zeroValue 4).run Tryz.prog w=.ok (.bool false) w:=by kernel_rfl
theorem f1J(em:Bool)(xs:List Int)(w:World)(h:xs.length=2):(Instr.checkKey em 10000 47 (kv xs)).run Tryz.prog w=.ok () w:=by
 match xs,h with
 | [x0,x1],_=>
  refine e7h (n:=9999) Tryz.underlying47 fun f hf => ?_
  simp only [f8J,g0M,or_false] at hf;rcases hf with rfl|rfl
  ·exact ⟨.int .i64 x0,by first|(go_simp;done)|(go_simp;rfl),d3A (n:=9998) Tryz.underlying3⟩
  ·exact ⟨.int .i64 x1,by first|(go_simp;done)|(go_simp;rfl),d3A (n:=9998) Tryz.underlying3⟩
def c6F(t:Nat):Option (Nat×Nat×V):=if Nat.beq t 109 then some (47,2,.b false) else  none
theorem e5P(t kt m:Nat)(z:V)(h:c6F t=some (kt,m,z)):∃vt,Tryz.prog.underlying t=some (.map kt vt)/\b0L kt=some m/\b7T (Tryz.prog.underlying kt)=true/\(∀w,(zeroValue vt).run Tryz.prog w=.ok z.conc w)/\z.simple=true/\∀(em:Bool) (xs:List Int) (w:World),xs.length=m->(Instr.checkKey em 10000 kt (kv xs)).run Tryz.prog w=.ok () w:=by
 unfold c6F at h;split at h
 ·rename_i hk;injection h with h;injection h with h1 h;injection h with h2 h3;subst h1;subst h2;subst h3;obtain rfl:=f9w hk;exact ⟨4,e7T,rfl,by rw [Tryz.underlying47];rfl,e21,rfl,f1J⟩
 cases h
theorem d83:Tryz.prog.follows .mixedOrders=true:=by kernel_rfl
def cx:Cx where
 P:=Tryz.prog
 mixed:=d83
 T:=b5Y c2s
 hT:=fun t ti h=>e3C (t,ti) (f3x h)
 E:=b0L
 hE:=d9N
 hG:=f6k
 M:=c6F
 hM:=e5P
structure FS(α:Type) where
 f:Nat
 fn:Func
 m:List PM
 o:List (Option (Nat×PM))
 ms:List PM
 R:α->V
 O:α->LOV
 h:cx.P.funcs[f]?=some fn
def FS.X{α:Type}(q:FS α):O9:=⟨q.f,q.fn,q.m,q.o⟩
def FS.c{α:Type}(q:FS α):Code:=d9r q.fn
def FS.t{α:Type}(q:FS α)(i:Nat)(fr:Bool)(r:α):Nat×L5:=(i,{a:=.call q.ms fr (q.R r) (q.O r)})
def FS.k{α:Type}(q:FS α)(i:Nat)(l:List Bool):List Item:=a31 2000 i l [.code q.c]
def noK:Unit->KS:=fun _=>([],⟨[],[]⟩)
section
variable {α β J P E:Type}
abbrev OK(q:FS α)(args:List V)(m:Option α):Prop := ∀r,m=some r->a0I cx.P q.f args (q.R r) (q.O r)
abbrev NG(q:FS α)(r:α)(S:J->KS)(f:J->Option β)(v:β):Prop := ∀s,f s=some v->FK cx q.X (q.R r) (q.O r) (S s)
abbrev NF(q:FS α)(r:α)(S:J->KS)(f:J->Option α):Prop:=NG q r S f r
abbrev D2(q:FS α)(SE:E->KS)(S:P->KS):=LC cx q.X q.R q.O SE S
abbrev LQ(q:FS α)(SE:E->KS)(S:P->KS)(b:P->Option (j7 α P E)):Prop:=LB cx q.X q.R q.O SE S b
theorem o7(q:FS α){args:List V}{m:Option α}(h:∀r,m=some r->Pt cx q.X (q.R r) (q.O r) [.code q.c] (b0O q.X args) [] [])(hb:q.X.fn.body=some q.c:=by kernel_rfl) (hn:(q.X.fn.name == "runtime.NumGoroutine")=false:=by kernel_rfl) (ho:a4t 0 q.X.oms args=true:=by kernel_rfl):OK q args m:=
 fun r hm=>a0I.of (X:=q.X) q.h hb hn ho (P0 (h r hm))
theorem FS.rt(q:FS α){x y:α}(h:some x=some y):q.R y=q.R x/\q.O y=q.O x:=by
 injection h with h;subst h;exact ⟨rfl,rfl⟩
variable {X:O9} {res:V} {outs:LOV} {k:List Item} {S:St} {sc:S8} {ps:List Prop} {t:List (Nat×L5)} {v:β}
theorem fE{q:FS α}{x y:α}(h:some x=some y)(hg:b0w cx q.X k S (scO sc [])=some (q.R x,q.O x,psO ps []):=by kernel_rfl):Pt cx q.X (q.R y) (q.O y) k S sc ps:=fn0 q.h (q.rt h) hg
theorem fL{q:FS α}{SE:E->KS}{SP:P->KS}(c:D2 q SE SP){x:α}(h:some (j7.ret x)=some c.st)(hg:b0w cx q.X k S (scO sc [])=some (q.R x,q.O x,psO ps []):=by kernel_rfl):Pt cx q.X c.res c.outs k S sc ps:=fn0 q.h (c.rt h) hg
theorem l7(q:FS α){m:Option α}{p:α->Prop}(ok:∀x,m=some x->p x)(i:Nat){f:α->Option β}(h:m.bind f=some v)(g:∀x,f x=some v->Pt cx X res outs k S ((q.t i false x::t)::sc) (p x::ps)):Pt cx X res outs k S (t::sc) ps:=cb q.t ok i false h g
theorem cbS(q:FS α){m:Option α}{p:α->Prop}(ok:∀x,m=some x->p x)(i:Nat){f:α->Option β}(a:∀x,L0 (q.R x))(b:∀x,a4b (q.O x))(h:m.bind f=some v)(g:∀x,f x=some v->Pt cx X res outs k S ((q.t i true x::t)::sc) ((L0 (q.R x)/\a4b (q.O x))::p x::ps)):Pt cx X res outs k S (t::sc) ps:=
 cb q.t ok i true h fun x h=>ob ⟨a x,b x⟩ (g x h)
theorem R4(q:FS α){m:Option α}{p:α->Prop}(ok:∀x,m=some x->p x)(i n:Nat){f:α->Option β}(h:m.bind f=some v)(g:∀x,f x=some v->Pt cx X res outs k S ((q.t i true x::t)::sc) ((L0 (q.R x)/\a4b (q.O x))::p x::ps))(a:∀x,L0 (q.R x):=by exact fun _=>rfl)(b:∀x,q.O x=c4O n:=by exact fun _=>rfl):Pt cx X res outs k S (t::sc) ps:=cbS q ok i a (fun x=>b x▸Q9 n) h g
theorem osc(q:FS α)(x:α)(a:L0 (q.R x))(b:a4b (q.O x))(h:Pt cx X res outs k S sc ((L0 (q.R x)/\a4b (q.O x))::ps)):Pt cx X res outs k S sc ps:=ob ⟨a,b⟩ h
end
theorem D1{X:O9}{res:V}{outs:LOV}{k:List Item}{S:St}{sc:S8}{ps:List Prop}(x:p7)(h:Pt cx X res outs k S sc ((x.told.length=x.told.length)::(x.out.length=x.out.length)::(x.n.a7.length=x.n.a7.length)::(x.n.c9.length=x.n.c9.length)::(x.n.a6.length=x.n.a6.length)::ps)):Pt cx X res outs k S sc ps:=ob rfl (ob rfl (ob rfl (ob rfl (ob rfl (h)))))
theorem J8{X:O9}{res:V}{outs:LOV}{k:List Item}{S:St}{sc:S8}{ps:List Prop}(x:j6)(h:Pt cx X res outs k S sc ((x.f0.length=x.f0.length)::(x.a7.length=x.a7.length)::(x.c9.length=x.c9.length)::(x.a6.length=x.a6.length)::ps)):Pt cx X res outs k S sc ps:=ob rfl (ob rfl (ob rfl (ob rfl (h))))
theorem A4{X:O9}{res:V}{outs:LOV}{k:List Item}{S:St}{sc:S8}{ps:List Prop}(x:j6)(h:Pt cx X res outs k S sc ((x.f0.length=x.f0.length)::(x.a7.length=x.a7.length)::(x.c9.length=x.c9.length)::(x.a6.length=x.a6.length)::(x.Acc.a7.length=x.Acc.a7.length)::ps)):Pt cx X res outs k S sc ps:=ob rfl (ob rfl (ob rfl (ob rfl (ob rfl (h)))))
theorem olR{X:O9}{res:V}{outs:LOV}{k:List Item}{S:St}{sc:S8}{ps:List Prop}(x:n7)(h:Pt cx X res outs k S sc ((x.b7.length=x.b7.length)::(x.b5.length=x.b5.length)::ps)):Pt cx X res outs k S sc ps:=ob rfl (ob rfl (h))
theorem B4{X:O9}{res:V}{outs:LOV}{k:List Item}{S:St}{sc:S8}{ps:List Prop}(x:m5)(h:Pt cx X res outs k S sc ((x.Told.length=x.Told.length)::(x.d8.length=x.d8.length)::(x.d7.length=x.d7.length)::(x.a0.length=x.a0.length)::ps)):Pt cx X res outs k S sc ps:=ob rfl (ob rfl (ob rfl (ob rfl (h))))
def a6k(x_:j6):List V:=[vi x_.Id,vi x_.Acc.i0,v6 89 8 q8 x_.Acc.a7,v6 53 7 s5 x_.a6,vi x_.Seq,vi x_.d6,vi x_.a8,v6 4 1 eB x_.c9,j9 8 q8 x_.i4,.b x_.c8.i7,vi x_.c8.a5.b9,vi x_.c8.a5.Seq,j9 2 w8 x_.c8.b6.b5,j9 2 w9 x_.c8.b6.b7,vi x_.c8.b6.d9,vi x_.c8.b6.Code,v6 4 1 eB x_.a7,.b x_.i9,j9 4 A6 x_.i6,.b x_.b8.i7,vi x_.b8.a5.b9,vi x_.b8.a5.Seq,j9 2 w8 x_.b8.b6.b5,j9 2 w9 x_.b8.b6.b7,vi x_.b8.b6.d9,vi x_.b8.b6.Code,v6 53 7 s5 x_.f0]
def b0h(x_:j6):List V:=[v6 53 7 s5 x_.a6,vi x_.Seq,vi x_.d6,vi x_.a8,v6 4 1 eB x_.c9,j9 8 q8 x_.i4,.b x_.c8.i7,vi x_.c8.a5.b9,vi x_.c8.a5.Seq,j9 2 w8 x_.c8.b6.b5,j9 2 w9 x_.c8.b6.b7,vi x_.c8.b6.d9,vi x_.c8.b6.Code,v6 4 1 eB x_.a7,.b x_.i9,j9 4 A6 x_.i6,.b x_.b8.i7,vi x_.b8.a5.b9,vi x_.b8.a5.Seq,j9 2 w8 x_.b8.b6.b5,j9 2 w9 x_.b8.b6.b7,vi x_.b8.b6.d9,vi x_.b8.b6.Code,v6 53 7 s5 x_.f0]
def a6n(x_:j6):List V:=[j9 8 q8 x_.i4,.b x_.c8.i7,vi x_.c8.a5.b9,vi x_.c8.a5.Seq,j9 2 w8 x_.c8.b6.b5,j9 2 w9 x_.c8.b6.b7,vi x_.c8.b6.d9,vi x_.c8.b6.Code]
def a38(x_:j6):List V:=[.b x_.i9,j9 4 A6 x_.i6,.b x_.b8.i7,vi x_.b8.a5.b9,vi x_.b8.a5.Seq,j9 2 w8 x_.b8.b6.b5,j9 2 w9 x_.b8.b6.b7,vi x_.b8.b6.d9,vi x_.b8.b6.Code]
def a0E(x_:n7):List V:=[j9 2 w8 x_.b5,j9 2 w9 x_.b7,vi x_.d9,vi x_.Code]
def B9(x_:m5):List V:=[j9 27 x6 x_.a0,j9 13 t6 x_.d7,j9 3 C1 x_.d8,j9 5 z5 x_.Told]
def b8K:FS (t8):=⟨10,Tryz.f10,[.ptr [some 1,none] []],[none],[.val [some 1] []],fun r=>.optr 67 (a0b r),fun _=>[none],Tryz.func10⟩
def e4l:(List Int)->KS:=fun b92=>⟨b8K.k 3 [true],(j9 1 K5 b92::(bs 10 [])),[some []]⟩
def c6L(b92:List Int):Option t8:=
 some (t8.mk b92 0)
theorem e77(r):NF b8K r e4l (fun s=>c6L s):=fun b92 h=>PK<|rg<|fE h
def b7Y(code:List Int):Option t8:=
 (((bif decide ((code.length:Int)>2000) then (t5 ((0:Int)<=2000/\2000<=(code.length:Int)) (some (l9.brk ((code.drop 0).take ((2000:Int).toNat-0))))) else some (l9.brk code)):Option (l9 t8 (List Int))).bind fun x=>x.go some fun j=>c6L j)
theorem e4e{code}:OK b8K [j9 1 K5 code] (b7Y code):=
 o7 _ fun r h=>rg<|A3 h (e77 r) fun x1 h hc1=>rg<|j5 2 h (fun h=>rg<|t9 h fun e1 h=>om (V.sl 1 ((2000:Int).toNat-0) (((code.map K5).drop 0).take ((2000:Int).toNat-0))=j9 1 K5 ((code.drop 0).take ((2000:Int).toNat-0))) (b9f e1)<|ob e1.1<|ob e1.2<|tl (1,{v:=some (j9 1 K5 ((code.drop 0).take ((2000:Int).toNat-0)))})<|(o9 h hc1 fun hI=>sk [] [0] [] hI)) (fun h=>(o9 h hc1 fun hI=>sk [] [0] [] hI))
def d4L:FS (j6):=⟨76,Tryz.f76,[.val A8 H2],[none],[.val [] []],fun r=>.agg (H4 r),fun _=>[none],Tryz.func76⟩
def c2M(id:Int):Option j6:=
 (bif decide (id<0) then some (j6.mk 0 (z0.mk 0 []) [] 0 0 0 [] [] (m4.mk false (n5.mk 0 0) (n7.mk [] [] 0 0)) [] false [] (m4.mk false (n5.mk 0 0) (n7.mk [] [] 0 0)) []) else (bif decide (id>=3) then some (j6.mk 0 (z0.mk 0 []) [] 0 0 0 [] [] (m4.mk false (n5.mk 0 0) (n7.mk [] [] 0 0)) [] false [] (m4.mk false (n5.mk 0 0) (n7.mk [] [] 0 0)) []) else some (j6.mk id (z0.mk 0 []) [] 0 0 0 [] [] (m4.mk false (n5.mk 0 0) (n7.mk [] [] 0 0)) [] false [] (m4.mk false (n5.mk 0 0) (n7.mk [] [] 0 0)) [])))
theorem f7j{id}:OK d4L [vi id] (c2M id):=
 o7 _ fun r h=>n9<|j5 2 h (fun h=>rg<|fE h) (fun h=>j5 5 h (fun h=>rg<|fE h) (fun h=>rg<|fE h))
def a8H:FS (m5):=⟨30,Tryz.f30,[.val C5 U3],[],[],fun r=>.agg (V0 r),fun _=>[],Tryz.func30⟩
def c9i:(List j6)->KS:=fun Nodes1=>⟨a8H.k 4 [false],(.ptr 1 0 0::(.ptr 2 0 0::(bs 14 []))),[some [],some [.var 30 [.nil,.nil,.nil,.nil]],some [.var 30 [.own 3 0 27 0 Nodes1.length,.nil,.nil,.nil]],some [C7 55 27 z7 Nodes1]]⟩
def c8L(Nodes1:List j6):Option m5:=
 some (m5.mk Nodes1 [] [] [])
theorem d9p(r):NF a8H r c9i (fun s=>c8L s):=fun Nodes1 h=>PK<|rg<|s7 Nodes1<|fE h
def e2E:((List j6)×Int)->KS:=fun (a0,i)=>⟨a8H.k 3 [],(.ptr 1 0 0::(.ptr 2 0 0::(vi i::(bs 13 [])))),[some [],some [.var 30 [.nil,.nil,.nil,.nil]],some [.var 30 [.own 3 0 27 0 a0.length,.nil,.nil,.nil]],some [C7 55 27 z7 a0]]⟩
def f3M(X8:j6):List V:=(a6k X8)
def a4v(a0:List j6)(i:Int):Option (j7 m5 ((List j6)×Int) (List j6)):=
 (bif decide (i<3) then ((c2M i).bind fun X8=>(t5 ((a0.length+1)*392<=140737488355328) (some (j7.nxt (a0++[X8],m7 (i+1)))))) else some (j7.brk a0))
theorem f3j:LQ a8H c9i e2E (fun s=>a4v s.1 s.2):=fun lc (a0,i) h=>PK<|rg<|j5 1 h (fun h=>rg<|l7 d4L f7j 3 h fun X8 h=>om (s9.deep false 55 27 1 [(f3M X8)]=C7 55 27 z7 [X8]) rfl<|A4 X8<|tl (4,{a:=.dck [none,none,some 8,some 7,none,none,none,some 1,some 8,none,none,none,some 2,some 2,none,none,some 1,none,some 4,none,none,none,some 2,some 2,none,none,some 7] [none,none,some 89,some 53,none,none,none,some 4,none,none,none,none,none,none,none,none,some 4,none,none,none,none,none,none,none,none,none,some 53],e:=some (C7 55 27 z7 [X8])})<|t9 h fun e1 h=>om (V.own 11 0 27 0 (a0.length+1)=.own 11 0 27 0 (a0++[X8]).length) (by simp)<|om (s9.deep false 55 27 (a0.length+1) (a0.map z7++[z7 X8])=C7 55 27 z7 (a0++[X8])) (c65 rfl)<|s7 a0<|ob e1<|om (1=1) rfl<|tl (5,{a:=.dck [] [],v:=some (.own 11 0 27 0 (a0++[X8]).length),e:=some (C7 55 27 z7 (a0++[X8]))})<|rg<|(lc.nx h fun hI=>sk [] [0,1,2] [(1,0),(2,0),(11,0)] hI)) (fun h=>(lc.bk h fun hI=>sk [] [0,1] [(1,0),(2,0),(3,0)] hI))
def c07:Option m5:=
 ((o8 (fun s:(List j6)×Int=>a4v s.1 s.2) ([],0)).bind fun x=>x.go (fun r=>some r) fun s=>c8L s)
theorem f0h:OK a8H [] c07:=
 o7 _ fun r h=>L8<|lp (f3j) h (fun _ h=>a8H.rt h) (d9p r) fun hI=>sk [.ownD (.cell 3 0 0) 55 27] [0,1,2] [(1,0),(3,0),(6,0)] hI
def G7:FS (Int×t8):=⟨31,Tryz.f31,[.val [] []],[some (0,.ptr [some 1,none] []),none],[.ptr [some 1,none] [],.val [] []],fun r=>vi r.1,fun r=>[some (.optr 67 (a0b r.2)),none],Tryz.func31⟩
def G2(r_:t8)(n:Int):Option (Int×t8):=
 (bif decide (n<1) then some (0,(t8.mk r_.b (m7 (r_.p+1)))) else (bif ((r_.b.length:Int)==0) then some (0,(t8.mk r_.b (m7 (r_.p+1)))) else (bif decide ((m7 ((m7 (r_.p+1))-1))<(r_.b.length:Int)) then ((idx r_.b (m7 ((m7 (r_.p+1))-1))).bind fun y=>(t5 (n≠0) (some (f9c (m7 y) n,(t8.mk r_.b (m7 (r_.p+1))))))) else (t5 ((r_.b.length:Int)≠0) (((idx r_.b (f9c (m7 ((m7 (r_.p+1))-1)) (r_.b.length:Int))).bind fun y1=>(t5 ((r_.b.length:Int)≠0) (((idx r_.b (f9c (m7 ((m7 ((m7 ((m7 (r_.p+1))-1))*7))+3)) (r_.b.length:Int))).bind fun y2=>(t5 ((r_.b.length:Int)≠0) ((t5 (n≠0) (some (f9c (a7u .i64 (m7 ((m7 ((m7 ((m7 ((m7 y1)*131))+(m7 ((m7 y2)*1117))))+(m7 ((m7 ((m7 (r_.p+1))-1))*29))))+(m7 ((m7 (g0N (m7 ((m7 (r_.p+1))-1)) (r_.b.length:Int)))*53)))) (m7 (g0N (m7 ((m7 ((m7 ((m7 ((m7 y1)*131))+(m7 ((m7 y2)*1117))))+(m7 ((m7 ((m7 (r_.p+1))-1))*29))))+(m7 ((m7 (g0N (m7 ((m7 (r_.p+1))-1)) (r_.b.length:Int)))*53)))) 64))) n,(t8.mk r_.b (m7 (r_.p+1)))))))))))))))))
theorem G9{r_ n}:OK G7 [.optr 67 (a0b r_),vi n] (G2 r_ n):=
 o7 _ fun r h=>L8<|j5 2 h (fun h=>rg<|fE h) (fun h=>j5 9 h (fun h=>rg<|fE h) (fun h=>n9<|j5 6 h (fun h=>rg<|u0 K5 5 h fun y hy h=>t9 h fun e1 h=>ob e1<|fE h) (fun h=>rg<|t9 h fun e2 h=>ob e2<|u0 K5 11 h fun y1 hy1 h=>t9 h fun e3 h=>ob e3<|u0 K5 28 h fun y2 hy2 h=>t9 h fun e4 h=>ob e4<|rg<|om (64≠(0:Int)) (by decide)<|rg<|t9 h fun e5 h=>ob e5<|fE h)))
def d5L:FS (n7):=⟨206,Tryz.f206,[.val O7 []],[none],[.val O7 []],fun r=>.agg (S4 r),fun _=>[none],Tryz.func206⟩
def c6d(r_:n7):Option n7:=
 (t5 ((([]:List r9).length+r_.b5.length)*16<=140737488355328) ((t5 ((([]:List p8).length+r_.b7.length)*16<=140737488355328) (some (n7.mk (([]:List r9)++r_.b5) (([]:List p8)++r_.b7) r_.d9 r_.Code)))))
theorem f5z{r_}:OK d5L [.agg (S4 r_)] (c6d r_):=
 o7 _ fun r h=>n9<|tk 0 []<|t9 h fun e1 h=>oa 6 0 2 ([]:List r9) r_.b5<|oz 174 2 w8 ([]:List r9) r_.b5<|A9 r9<|ob e1<|tl (3,{v:=some (.own 6 0 2 0 (([]:List r9)++r_.b5).length),e:=some (m6 174 2 w8 (([]:List r9)++r_.b5))})<|tk 4 []<|t9 h fun e2 h=>oa 10 0 2 ([]:List p8) r_.b7<|oz 177 2 w9 ([]:List p8) r_.b7<|A9 p8<|ob e2<|tl (7,{v:=some (.own 10 0 2 0 (([]:List p8)++r_.b7).length),e:=some (m6 177 2 w9 (([]:List p8)++r_.b7))})<|C9 (([]:List r9)++r_.b5) (([]:List p8)++r_.b7)<|fE h
def a0z:FS (m4):=⟨175,Tryz.f175,[.val J3 []],[none],[.val J3 []],fun r=>.agg (s5 r),fun _=>[none],Tryz.func175⟩
def X7(e_:m4):Option m4:=
 ((c6d e_.b6).bind fun d0u=>some (m4.mk e_.i7 e_.a5 d0u))
theorem a01{e_}:OK a0z [.agg (s5 e_)] (X7 e_):=
 o7 _ fun r h=>n9<|l7 d5L f5z 6 h fun d0u h=>fE h
def a4p:FS (List m8):=⟨188,Tryz.f188,[.val [some 8] [some 89]],[none],[.val [some 8] []],fun r=>v6 89 8 q8 r,fun _=>[none],Tryz.func188⟩
def d7N:(List m8)->KS:=fun out1=>⟨a4p.k 4 [false],(bs 3 (.own 1 0 8 0 out1.length::(bs 24 []))),[some [],some [m6 89 8 q8 out1]]⟩
def d62(out1:List m8):Option (List m8):=
 some out1
theorem f6E(r):NF a4p r d7N (fun s=>d62 s):=fun out1 h=>PK<|rg<|s7 out1<|fE h
def e7r(list:List m8):((List m8)×Int)->KS:=fun (out,i)=>⟨a4p.k 3 [],(j9 8 q8 list::(bs 2 (.own 1 0 8 0 out.length::(vi i::(bs 23 []))))),[some [],some [m6 89 8 q8 out]]⟩
def b2T(list:List m8)(out:List m8)(i:Int):Option (j7 (List m8) ((List m8)×Int) (List m8)):=
 (bif decide (i<(list.length:Int)) then ((idx list i).bind fun vote=>((X7 vote.g9).bind fun l5Entry=>(t5 ((out.length+1)*96<=140737488355328) (some (j7.nxt (out++[(m8.mk vote.a8 l5Entry)],m7 (i+1))))))) else some (j7.brk out))
theorem d9m(list):LQ a4p d7N (e7r list) (fun s=>b2T list s.1 s.2):=fun lc (out,i) h=>PK<|rg<|j5 3 h (fun h=>rg<|u0 q8 3 h fun vote K1 h=>I3 q8 8 K1<|l7 a0z a01 11 h fun l5Entry h=>tk 13 U9<|t9 h fun e1 h=>F7 14 20 89 8 96 q8 out (m8.mk vote.a8 l5Entry) e1<|E5 (m8.mk vote.a8 l5Entry)<|rg<|(lc.nx h fun hI=>sk [] [0,3,4] [(20,0)] hI)) (fun h=>(lc.bk h fun hI=>sk [] [3] [(1,0)] hI))
def a8S(list:List m8):Option (List m8):=
 ((o8 (fun s:(List m8)×Int=>b2T list s.1 s.2) (([]:List m8),0)).bind fun x=>x.go (fun r=>some r) fun s=>d62 s)
theorem c0w{list}:OK a4p [j9 8 q8 list] (a8S list):=
 o7 _ fun r h=>n9<|tk 0 U9<|rg<|lp (d9m list) h (fun _ h=>a4p.rt h) (f6E r) fun hI=>om ((.own 2 0 8 0 0:V)=.own 2 0 8 0 ([]:List m8).length) (by simp)<|sk [.is (.tmp 3) (.own 2 0 8 0 ([]:List m8).length)] [0,3,4] [(2,0)] hI
def b17:FS (l8):=⟨133,Tryz.f133,[.val C2 []],[none],[.val C2 []],fun r=>.agg (t6 r),fun _=>[none],Tryz.func133⟩
def a8g(m:l8):Option l8:=
 ((X7 m.g9).bind fun l5Entry=>((a8S m.a7).bind fun X4=>some (l8.mk m.a9 m.c9 m.To m.a8 m.g8 l5Entry X4)))
theorem b5O{m}:OK b17 [.agg (t6 m)] (a8g m):=
 o7 _ fun r h=>L8<|l7 a0z a01 2 h fun l5Entry h=>rg<|l7 a4p c0w 2 h fun X4 h=>rg<|s7 X4<|fE h
def a1a:FS (m5):=⟨130,Tryz.f130,[.val C5 U3],[none,none],[.val C5 U3,.val [some 13] []],fun r=>.agg (V0 r),fun _=>[none,none],Tryz.func130⟩
def d0Q(w:m5):(List l8)->KS:=fun Net1=>⟨a1a.k 3 [false],(bs 2 (.ptr 1 0 0::(bs 1 (.ptr 3 0 0::(bs 24 []))))),[some [C7 55 27 z7 w.a0,.dead,m6 73 3 C1 w.d8,m6 76 5 z5 w.Told],some [.var 30 [.own 0 0 27 0 w.a0.length,.own 2 0 13 0 Net1.length,.own 0 2 3 0 w.d8.length,.own 0 3 5 0 w.Told.length]],some [m6 83 13 t6 Net1],some [.var 30 [.nil,.nil,.nil,.nil]]]⟩
def d6w(w:m5)(Net1:List l8):Option m5:=
 some (m5.mk w.a0 Net1 w.d8 w.Told)
theorem e5T(w)(r):NF a1a r (d0Q w) (fun s=>d6w w s):=fun Net1 h=>PK<|rg<|H9 w.a0 Net1 w.d8 w.Told<|fE h
def d94(w:m5)(list:List l8):((List l8)×Int)->KS:=fun (d7,i)=>⟨a1a.k 2 [],(bs 1 (j9 13 t6 list::(.ptr 1 0 0::(bs 1 (.ptr 2 0 0::(vi i::(bs 23 []))))))),[some [C7 55 27 z7 w.a0,.dead,m6 73 3 C1 w.d8,m6 76 5 z5 w.Told],some [.var 30 [.own 0 0 27 0 w.a0.length,.own 3 0 13 0 d7.length,.own 0 2 3 0 w.d8.length,.own 0 3 5 0 w.Told.length]],some [.var 30 [.nil,.nil,.nil,.nil]],some [m6 83 13 t6 d7]]⟩
def a26(list:List l8)(d7:List l8)(i:Int):Option (j7 m5 ((List l8)×Int) (List l8)):=
 (bif decide (i<(list.length:Int)) then (bif decide ((d7.length:Int)<40) then ((idx list i).bind fun msg=>((a8g msg).bind fun G6=>(t5 ((d7.length+1)*152<=140737488355328) (some (j7.nxt (d7++[G6],m7 (i+1))))))) else some (j7.brk d7)) else some (j7.brk d7))
theorem d85(w list):LQ a1a (d0Q w) (d94 w list) (fun s=>a26 list s.1 s.2):=fun lc (d7,i) h=>PK<|rg<|j5 4 h (fun h=>j5 9 h (fun h=>rg<|u0 t6 4 h fun msg hmsg h=>l7 b17 b5O 6 h fun G6 h=>tk 7 C2<|t9 h fun e1 h=>F7 8 22 83 13 152 t6 d7 G6 e1<|E5 G6<|rg<|(lc.nx h fun hI=>sk [] [1,2,4,5] [(1,0),(2,0),(22,0)] hI)) (fun h=>(lc.bk h fun hI=>sk [] [2,4] [(1,0),(3,0),(2,0)] hI))) (fun h=>(lc.bk h fun hI=>sk [] [2,4] [(1,0),(3,0),(2,0)] hI))
def a3E(w:m5)(list:List l8):Option m5:=
 ((o8 (fun s:(List l8)×Int=>a26 list s.1 s.2) (w.d7,0)).bind fun x=>x.go (fun r=>some r) fun s=>d6w w s)
theorem a6Q{w list}:OK a1a [.agg (V0 w),j9 13 t6 list] (a3E w list):=
 o7 _ fun r h=>n9<|lp (d85 w list) h (fun _ h=>a1a.rt h) (e5T w r) fun hI=>sk [] [1,2,4,5] [(1,0),(2,0),(0,1)] hI
def c24:FS (m5):=⟨182,Tryz.f182,[.val C5 U3],[none,none],[.val C5 U3,.val [] []],fun r=>.agg (V0 r),fun _=>[none,none],Tryz.func182⟩
def b5q(w:m5)(i:Int):Option m5:=
 (t5 ((0:Int)<=i/\i<=(w.d7.length:Int)) ((t5 ((([]:List l8).length+(i.toNat-0))*152<=140737488355328) ((t5 ((0:Int)<=m7 (i+1)/\m7 (i+1)<=(w.d7.length:Int)) ((t5 (((([]:List l8)++(w.d7.drop (0+0)).take (i.toNat-0)).length+(w.d7.length-(m7 (i+1)).toNat))*152<=140737488355328) (some (m5.mk w.a0 ((([]:List l8)++(w.d7.drop (0+0)).take (i.toNat-0))++(w.d7.drop (0+(m7 (i+1)).toNat)).take (w.d7.length-(m7 (i+1)).toNat)) w.d8 w.Told)))))))))
set_option maxRecDepth 20000 in
theorem d4J{w i}:OK c24 [.agg (V0 w),vi i] (b5q w i):=
 o7 _ fun r h=>n9<|tk 0 C2<|t9 h fun e1 h=>ob e1.1<|ob e1.2<|t9 h fun e2 h=>om (V.own 8 0 13 0 (([]:List l8).length+(i.toNat-0))=.own 8 0 13 0 (([]:List l8)++(w.d7.drop (0+0)).take (i.toNat-0)).length) (c5I (by omega))<|om (s9.row 83 13 (([]:List l8).length+(i.toNat-0)) (([]:List l8).map t6++((w.d7.map t6).drop (0+0)).take (i.toNat-0))=m6 83 13 t6 (([]:List l8)++(w.d7.drop (0+0)).take (i.toNat-0))) (c5z (by omega))<|A9 l8<|ob e2<|om ((0+0)+(i.toNat-0)<=w.d7.length) (by omega)<|tl (5,{a:=.part,v:=some (.own 8 0 13 0 (([]:List l8)++(w.d7.drop (0+0)).take (i.toNat-0)).length),e:=some (m6 83 13 t6 (([]:List l8)++(w.d7.drop (0+0)).take (i.toNat-0)))})<|t9 h fun e3 h=>ob e3.1<|ob e3.2<|t9 h fun e4 h=>om (V.own 14 0 13 0 ((([]:List l8)++(w.d7.drop (0+0)).take (i.toNat-0)).length+(w.d7.length-(m7 (i+1)).toNat))=.own 14 0 13 0 ((([]:List l8)++(w.d7.drop (0+0)).take (i.toNat-0))++(w.d7.drop (0+(m7 (i+1)).toNat)).take (w.d7.length-(m7 (i+1)).toNat)).length) (c5I (by omega))<|om (s9.row 83 13 ((([]:List l8)++(w.d7.drop (0+0)).take (i.toNat-0)).length+(w.d7.length-(m7 (i+1)).toNat)) ((([]:List l8)++(w.d7.drop (0+0)).take (i.toNat-0)).map t6++((w.d7.map t6).drop (0+(m7 (i+1)).toNat)).take (w.d7.length-(m7 (i+1)).toNat))=m6 83 13 t6 ((([]:List l8)++(w.d7.drop (0+0)).take (i.toNat-0))++(w.d7.drop (0+(m7 (i+1)).toNat)).take (w.d7.length-(m7 (i+1)).toNat))) (c5z (by omega))<|s7 (([]:List l8)++(w.d7.drop (0+0)).take (i.toNat-0))<|ob e4<|om ((0+(m7 (i+1)).toNat)+(w.d7.length-(m7 (i+1)).toNat)<=w.d7.length) (by omega)<|tl (11,{a:=.part,v:=some (.own 14 0 13 0 ((([]:List l8)++(w.d7.drop (0+0)).take (i.toNat-0))++(w.d7.drop (0+(m7 (i+1)).toNat)).take (w.d7.length-(m7 (i+1)).toNat)).length),e:=some (m6 83 13 t6 ((([]:List l8)++(w.d7.drop (0+0)).take (i.toNat-0))++(w.d7.drop (0+(m7 (i+1)).toNat)).take (w.d7.length-(m7 (i+1)).toNat)))})<|rg<|H9 w.a0 ((([]:List l8)++(w.d7.drop (0+0)).take (i.toNat-0))++(w.d7.drop (0+(m7 (i+1)).toNat)).take (w.d7.length-(m7 (i+1)).toNat)) w.d8 w.Told<|fE h
def a1Y:FS (Bool):=⟨171,Tryz.f171,[.val [] []],[none],[.val [] []],fun r=>.b r,fun _=>[none],Tryz.func171⟩
def a1o(n:Int):Option Bool:=
 (bif decide (n>=1) then some (decide (n<=3000)) else some false)
theorem a2A{n}:OK a1Y [vi n] (a1o n):=
 o7 _ fun r h=>n9<|j5 2 h (fun h=>fE h) (fun h=>fE h)
def a52:FS (z0×Bool):=⟨187,Tryz.f187,[.val [none,some 8] [none,some 9000000],.val [] []],[none,none],[.val [none,some 8] [],.val [] []],fun r=>.tup [.agg [vi r.1.i0,.bot],.b r.2],fun _=>[none,none],Tryz.func187⟩
def b0N(a:z0)(bal:Int):Option (z0×Bool):=
 ((a1o bal).bind fun Y8=>(bif (!Y8) then some (a,false) else (bif decide (bal<a.i0) then some (a,false) else none)))
theorem c25{a bal}:OK a52 [.agg (a0J a),vi bal] (b0N a bal):=
 o7 _ fun r h=>n9<|l7 a1Y a2A 1 h fun Y8 h=>j5 3 h (fun h=>rg<|fE h) (fun h=>j5 8 h (fun h=>rg<|fE h) (fun h=>(nomatch h)))
def a3W:FS (List l8):=⟨224,Tryz.f224,[.val [some 13] []],[none,none],[.val C2 [],.val C2 []],fun r=>j9 13 t6 r,fun _=>[none,none],Tryz.func224⟩
def a5w(m:l8)(out:l8):Option (List l8):=
 some [(l8.mk out.a9 m.To m.c9 out.a8 out.g8 out.g9 out.a7)]
theorem a8Y{m out}:OK a3W [.agg (t6 m),.agg (t6 out)] (a5w m out):=
 o7 _ fun r h=>rg4<|tk 1 C2<|E5 (l8.mk out.a9 m.To m.c9 out.a8 out.g8 out.g9 out.a7)<|fE h
def d3X(rv:Value):FS (j6):=⟨186,Tryz.f186,[.val A8 om3],[none],[.val A8 om3],fun r=>.agg ([vi r.Id,vi r.Acc.i0,.raw rv]++b0h r),fun _=>[none],Tryz.func186⟩
def d7e(n:j6):Option j6:=
 some (j6.mk n.Id n.Acc n.a6 n.Seq 0 0 [] [] (m4.mk false (n5.mk 0 0) (n7.mk [] [] 0 0)) [] n.i9 n.i6 n.b8 n.f0)
theorem f4o{n}(rv):OK (d3X rv) [.agg ([vi n.Id,vi n.Acc.i0,.raw rv]++b0h n)] (d7e n):=
 o7 _ fun r h=>rg4<|rg4<|C9 n.a6 n.f0<|fE h
def b2G(rv:Value):FS (j6):=⟨216,Tryz.f216,[.val A8 om3],[none,none],[.val A8 om3,.val [] []],fun r=>.agg ([vi r.Id,vi r.Acc.i0,.raw rv]++b0h r),fun _=>[none,none],Tryz.func216⟩
def e5E(i:Nat)(fr:Bool)(r:j6):Nat×L5:=(i,{a:=.callr 0 2 [.val A8 om3,.val [] []] fr (.agg ([vi r.Id,vi r.Acc.i0,.hole]++b0h r)) [none,none]})
def f5k(rv:Value)(n:j6):Unit->KS:=fun _=>⟨(b2G rv).k 2 [false],(bs 2 (.ptr 1 0 0::(bs 1 (.ptr 2 0 0::(bs 12 []))))),[some [m6 53 7 s5 n.a6,m6 4 1 eB n.c9,m6 4 1 eB n.a7,m6 53 7 s5 n.f0],some [.var 55 ([vi n.Id,vi n.Acc.i0,.raw rv,.own 0 0 7 0 n.a6.length,vi n.Seq,vi n.d6,vi n.a8,.own 0 1 1 0 n.c9.length]++a6n n++[.own 0 2 1 0 n.a7.length]++a38 n++[.own 0 3 7 0 n.f0.length])],some [.var 55 [vi 0,vi 0,.nil,.nil,vi 0,vi 0,vi 0,.nil,.nil,.b false,vi 0,vi 0,.nil,.nil,vi 0,vi 0,.nil,.b false,.nil,.b false,vi 0,vi 0,.nil,.nil,vi 0,vi 0,.nil]]]⟩
def d5F(n:j6):Option j6:=
 some n
theorem e9U(rv n)(r):NF (b2G rv) r (f5k rv n) (fun s=>d5F n):=fun _ h=>PK<|rg<|J8 n<|fE h
def b2g(n:j6)(bal:Int):Option j6:=
 (((bif (n.d6 != 0) then (bif decide (bal>n.a8) then ((d7e n).bind fun r_=>some (l9.ret r_)) else some (l9.brk ())) else some (l9.brk ())):Option (l9 j6 Unit)).bind fun x=>x.go some fun j=>d5F n)
theorem e3j{n bal}(rv):OK (b2G rv) [.agg ([vi n.Id,vi n.Acc.i0,.raw rv]++b0h n),vi bal] (b2g n bal):=
 o7 _ fun r h=>rg<|A3 h (e9U rv n r) fun x1 h hc1=>rg<|j5 3 h (fun h=>j5 8 h (fun h=>rg<|cb (d3X rv).t (f4o rv) 1 false h fun r_ h=>J8 n<|(B2 h hc1 fun h=>J8 r_<|fE h)) (fun h=>(o9 h hc1 fun hI=>sk [] [2,4] [(1,0),(2,0)] hI))) (fun h=>(o9 h hc1 fun hI=>sk [] [2,4] [(1,0),(2,0)] hI))
theorem e8o{n bal}(r)(h:b2g n bal=some r):∀c,a0I cx.P 216 [.agg ([vi n.Id,vi n.Acc.i0,.raw c]++b0h n),vi bal] ((b2G c).R r) ((b2G c).O r):=fun c=>e3j c r h
def b4m:FS (z0×Bool):=⟨187,Tryz.f187,[.val [none,some 8] [none,some 89],.val [] []],[none,none],[.val [none,some 8] [none,some 89],.val [] []],fun r=>.tup [.agg [vi r.1.i0,v6 89 8 q8 r.1.a7],.b r.2],fun _=>[none,none],Tryz.func187⟩
def a7N(a:z0)(bal:Int):Option (z0×Bool):=
 ((a1o bal).bind fun Y8=>(bif (!Y8) then some (a,false) else (bif decide (bal<a.i0) then some (a,false) else some ((z0.mk bal a.a7),true))))
theorem b7q{a bal}:OK b4m [.agg [vi a.i0,v6 89 8 q8 a.a7],vi bal] (a7N a bal):=
 o7 _ fun r h=>n9<|l7 a1Y a2A 1 h fun Y8 h=>j5 3 h (fun h=>rg<|s7 a.a7<|fE h) (fun h=>j5 8 h (fun h=>rg<|s7 a.a7<|fE h) (fun h=>n9<|s7 a.a7<|fE h))
def c86:FS (n7):=⟨206,Tryz.f206,[.val O7 om4],[none],[.val O7 []],fun r=>.agg (a5R r),fun _=>[none],Tryz.func206⟩
def c2I(r_:n7):Option n7:=
 (t5 ((([]:List r9).length+r_.b5.length)*16<=140737488355328) ((t5 ((([]:List p8).length+r_.b7.length)*16<=140737488355328) (some (n7.mk (([]:List r9)++r_.b5) (([]:List p8)++r_.b7) r_.d9 r_.Code)))))
theorem e7H{r_}:OK c86 [.agg (S4 r_)] (c2I r_):=
 o7 _ fun r h=>n9<|tk 0 []<|t9 h fun e1 h=>oa 6 0 2 ([]:List r9) r_.b5<|oz 174 2 w8 ([]:List r9) r_.b5<|A9 r9<|ob e1<|tl (3,{v:=some (.own 6 0 2 0 (([]:List r9)++r_.b5).length),e:=some (m6 174 2 w8 (([]:List r9)++r_.b5))})<|tk 4 []<|t9 h fun e2 h=>oa 10 0 2 ([]:List p8) r_.b7<|oz 177 2 w9 ([]:List p8) r_.b7<|A9 p8<|ob e2<|tl (7,{v:=some (.own 10 0 2 0 (([]:List p8)++r_.b7).length),e:=some (m6 177 2 w9 (([]:List p8)++r_.b7))})<|C9 (([]:List r9)++r_.b5) (([]:List p8)++r_.b7)<|fE h
def d8g:FS (m4):=⟨175,Tryz.f175,[.val J3 om5],[none],[.val J3 []],fun r=>.agg (e4B r),fun _=>[none],Tryz.func175⟩
def b9I(e_:m4):Option m4:=
 ((c2I e_.b6).bind fun d=>some (m4.mk e_.i7 e_.a5 d))
theorem d9F{e_}:OK d8g [.agg (s5 e_)] (b9I e_):=
 o7 _ fun r h=>n9<|l7 c86 e7H 6 h fun d h=>olR d<|fE h
def a3H:FS (List m8):=⟨188,Tryz.f188,[.val [some 8] [some 1000089]],[none],[.part],fun r=>b0q 89 8 a0W r,fun _=>[none],Tryz.func188⟩
def c9s:(List m8)->KS:=fun out1=>⟨a3H.k 4 [false],(bs 3 (.own 1 0 8 0 out1.length::(bs 24 []))),[some [],some [C7 89 8 a0W out1]]⟩
def d7b(out1:List m8):Option (List m8):=
 some out1
theorem f7I(r):NF a3H r c9s (fun s=>d7b s):=fun out1 h=>PK<|rg<|s7 out1<|fE h
def f8d(list:List m8):((List m8)×Int)->KS:=fun (out,i)=>⟨a3H.k 3 [],(j9 8 q8 list::(bs 2 (.own 1 0 8 0 out.length::(vi i::(bs 23 []))))),[some [],some [C7 89 8 a0W out]]⟩
def f5G(vote:m8)(d:m4):List V:=[vi vote.a8,.b d.i7,vi d.a5.b9,vi d.a5.Seq,v6 174 2 w8 d.b6.b5,v6 177 2 w9 d.b6.b7,vi d.b6.d9,vi d.b6.Code]
def b3Q(list:List m8)(out:List m8)(i:Int):Option (j7 (List m8) ((List m8)×Int) (List m8)):=
 (bif decide (i<(list.length:Int)) then ((idx list i).bind fun vote=>((b9I vote.g9).bind fun d=>(t5 ((out.length+1)*96<=140737488355328) (some (j7.nxt (out++[(m8.mk vote.a8 d)],m7 (i+1))))))) else some (j7.brk out))
theorem f7m(list):LQ a3H c9s (f8d list) (fun s=>b3Q list s.1 s.2):=fun lc (out,i) h=>PK<|rg<|j5 3 h (fun h=>rg<|u0 q8 3 h fun vote K1 h=>I3 q8 8 K1<|l7 d8g d9F 11 h fun d h=>om (s9.deep false 89 8 1 [(f5G vote d)]=C7 89 8 a0W [(m8.mk vote.a8 d)]) rfl<|olR d.b6<|tl (13,{a:=.dck [none,none,none,none,some 2,some 2,none,none] [none,none,none,none,some 174,some 177,none,none],e:=some (C7 89 8 a0W [(m8.mk vote.a8 d)])})<|t9 h fun e1 h=>om (V.own 20 0 8 0 (out.length+1)=.own 20 0 8 0 (out++[(m8.mk vote.a8 d)]).length) (by simp)<|om (s9.deep false 89 8 (out.length+1) (out.map a0W++[a0W (m8.mk vote.a8 d)])=C7 89 8 a0W (out++[(m8.mk vote.a8 d)])) (c65 rfl)<|s7 out<|ob e1<|om (1=1) rfl<|tl (14,{a:=.dck [] [],v:=some (.own 20 0 8 0 (out++[(m8.mk vote.a8 d)]).length),e:=some (C7 89 8 a0W (out++[(m8.mk vote.a8 d)]))})<|rg<|(lc.nx h fun hI=>sk [] [0,3,4] [(20,0)] hI)) (fun h=>(lc.bk h fun hI=>sk [] [3] [(1,0)] hI))
def b9i(list:List m8):Option (List m8):=
 ((o8 (fun s:(List m8)×Int=>b3Q list s.1 s.2) (([]:List m8),0)).bind fun x=>x.go (fun r=>some r) fun s=>d7b s)
theorem f01{list}:OK a3H [j9 8 q8 list] (b9i list):=
 o7 _ fun r h=>n9<|om (s9.deep false 89 8 0 []=C7 89 8 a0W ([]:List m8)) rfl<|tl (0,{a:=.dck [] [],e:=some (C7 89 8 a0W ([]:List m8))})<|rg<|lp (f7m list) h (fun _ h=>a3H.rt h) (f7I r) fun hI=>om ((.own 2 0 8 0 0:V)=.own 2 0 8 0 ([]:List m8).length) (by simp)<|sk [.is (.tmp 3) (.own 2 0 8 0 ([]:List m8).length)] [0,3,4] [(2,0)] hI
def d2H:FS (j6×List l8):=⟨211,Tryz.f211,[.val A8 H2,.val [some 13] []],[none,none],[.val A8 H2,.val C2 []],fun r=>.tup [.agg (H4 r.1),j9 13 t6 r.2],fun _=>[none,none],Tryz.func211⟩
def b6X(n:j6)(m:l8):Option (j6×List l8):=
 (a5e (b0N n.Acc m.a8) (fun no=>(bif (!no.2) then ((a5w m (l8.mk 6 0 0 n.Acc.i0 0 (m4.mk false (n5.mk 0 0) (n7.mk [] [] 0 0)) [])).bind fun a17=>some (n,a17)) else none)) (((a7N n.Acc m.a8).bind fun l6Promise=>(bif (!l6Promise.2) then none else ((b2g (j6.mk n.Id l6Promise.1 n.a6 n.Seq n.d6 n.a8 n.c9 n.i4 n.c8 n.a7 n.i9 n.i6 n.b8 n.f0) m.a8).bind fun r_=>(bif decide (m.g8<(l6Promise.1.a7.length:Int)) then (t5 ((0:Int)<=m.g8/\m.g8<=(l6Promise.1.a7.length:Int)) (((b9i ((l6Promise.1.a7.drop m.g8.toNat).take (l6Promise.1.a7.length-m.g8.toNat))).bind fun d=>((a5w m (l8.mk 2 0 0 m.a8 m.g8 (m4.mk false (n5.mk 0 0) (n7.mk [] [] 0 0)) d)).bind fun a5d=>some ((j6.mk r_.Id (z0.mk r_.Acc.i0 l6Promise.1.a7) r_.a6 r_.Seq r_.d6 r_.a8 r_.c9 r_.i4 r_.c8 r_.a7 r_.i9 r_.i6 r_.b8 r_.f0),a5d))))) else ((a5w m (l8.mk 2 0 0 m.a8 m.g8 (m4.mk false (n5.mk 0 0) (n7.mk [] [] 0 0)) ([]:List m8))).bind fun c8m=>some ((j6.mk r_.Id (z0.mk r_.Acc.i0 l6Promise.1.a7) r_.a6 r_.Seq r_.d6 r_.a8 r_.c9 r_.i4 r_.c8 r_.a7 r_.i9 r_.i6 r_.b8 r_.f0),c8m))))))))
set_option maxRecDepth 20000 in
theorem d9b{n m}:OK d2H [.agg (H4 n),.agg (t6 m)] (b6X n m):=
 o7 _ fun r h=>n9<|cbA a52.t c25 4 true h (fun no h=>osc a52 no (by simp [a52,L0,R0,O4,V.simple,vi,v6,a0J,eB,s5,eI,w9,w8,F6,S4,q8]) (Q9 2)<|s7 n.Acc.a7<|rg<|j5 1 h (fun h=>rg<|l7 a3W a8Y 6 h fun a17 h=>A4 n<|fE h) (fun h=>(nomatch h))) (fun h=>l7 b4m b7q 4 h fun l6Promise h=>s7 n.Acc.a7<|rg<|j5 1 h (fun h=>(nomatch h)) (fun h=>n9<|cb e5E e8o 3 false h fun r_ h=>J8 n<|rg<|tk 0 U9<|rg<|j5 5 h (fun h=>rg<|t9 h fun e1 h=>ob e1.1<|ob e1.2<|B0 h fun d hd h=>om (a0I cx.P 188 [.sl 8 (l6Promise.1.a7.length-m.g8.toNat) (((l6Promise.1.a7.map q8).drop (0+m.g8.toNat)).take (l6Promise.1.a7.length-m.g8.toNat))] (a3H.R d) (a3H.O d)) (by rw [f9I,b5m e1];exact (f01 d hd))<|osc a3H d (by simp [a3H,L0,R0,O4,V.simple,vi,v6,c0l,eB,s5,eI,w9,w8,F6,S4,q8,a0W,b0q]) (Q9 1)<|om ((0+m.g8.toNat)+(l6Promise.1.a7.length-m.g8.toNat)<=l6Promise.1.a7.length) (by omega)<|tl (a3H.t 5 true d)<|rg<|B0 h fun a5d e2p h=>om (a0I cx.P 224 [.agg (t6 m),.agg [vi 2,vi 0,vi 0,vi m.a8,vi m.g8,.b false,vi 0,vi 0,j9 2 w8 ([]:List r9),j9 2 w9 ([]:List p8),vi 0,vi 0,.sl 8 d.length (a1b (d.map a0W))]] (a3W.R a5d) (a3W.O a5d)) (by simp only [c0O f4p];exact (a8Y a5d e2p))<|s7 d<|tl (a3W.t 8 false a5d)<|s7 l6Promise.1.a7<|J8 r_<|fE h) (fun h=>rg<|l7 a3W a8Y 8 h fun c8m h=>A9 m8<|s7 l6Promise.1.a7<|J8 r_<|fE h)))
def d4s:FS (List m8):=⟨226,Tryz.f226,[.val [some 8] [some 89]],[none,none],[.val [some 8] [],.val [] []],fun r=>v6 89 8 q8 r,fun _=>[none,none],Tryz.func226⟩
def b9n(list:List m8)(slot:Int):Option (List m8):=
 (t5 (0<=slot/\slot*96<=140737488355328) (((a8S list).bind fun X4=>(t5 (((f8A slot.toNat (m8.mk 0 (m4.mk false (n5.mk 0 0) (n7.mk [] [] 0 0)))).length+X4.length)*96<=140737488355328) (some ((f8A slot.toNat (m8.mk 0 (m4.mk false (n5.mk 0 0) (n7.mk [] [] 0 0))))++X4))))))
end
end Go.Proofs.YtmceicmlkgpmpaaGreat
