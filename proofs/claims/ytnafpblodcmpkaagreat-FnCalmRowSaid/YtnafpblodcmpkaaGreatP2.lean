/- Abstract values and states of the program, functions of the program and what their calls come to, and what follows from it: part 2 of the text that the law leans on; long names are written short. -/
import Derived.Test.YtnafpblodcmpkaaGreatP1
import Derived.WideKeyRuns
import Derived.Below
import Derived.Carry
import Derived.ChangeArms
import Derived.Deep.Slices
import Derived.WideShapes
import Derived.Test.YtnafpblodcmpkaaGreatProg
set_option linter.unusedVariables false
set_option linter.unusedSimpArgs false
set_option linter.unnecessarySimpa false
namespace Go.Proofs.YtnafpblodcmpkaaGreat
open Go
open List renaming getElem?_eq_getElem->d8Z,mem_append->d80,replicate->d81,getElem?_eq_some_iff->d83,mem_singleton->d84,getElem_mem->d85,all_eq_true->d86,range->d87,mem_cons->d88,nodup_append->d89,mem_of_getElem?->d9a,getD_eq_getElem?_getD->d9b,eq_nil_of_length_eq_zero->d9c,length_append->d9d,getElem?_append_right->d9f,length_map->d9g,getElem?_set_ne->d9h,getElem?_append_left->d9i,map_append->d9j,append_assoc->d9k,mem_map->d9l,flatten_cons->d9n,getElem?_map->d9o,mem_or_eq_of_mem_set->d9r,map_cons->d9s,take_of_length_le->d9w,length_set->d9A,mem_of_mem_take->d9C,append_nil->d9D,drop_eq_getElem_cons->d9F,mem_flatten->d9M,mem_of_mem_drop->d9N,mem_replicate->d9P,take_append_drop->d9Q,nil_append->d9U,mem_filter->d9V,mem_range->d9Z,nodup_cons->d97,pairwise_cons->e0d,getElem?_cons_succ->e0g,map_map->e0l,sublist_append_right->e0p,pairwise_append->e0r,Perm->e0t,drop_drop->e0u,cons_append->e0w,replicate_succ->e0x,getElem?_cons_zero->e0y,size_toArray->e0A,toArray->e0C,Sublist->e0D,any_eq_true->e0I,flatten_append->e0J,map_set->e0M
open Bool renaming and_eq_true->d82,true_and->d9m,not_false->d9u,not_eq_true'->d9R,false_eq_true->d94,and_assoc->e0N
open Option renaming map_some->d9t,map_eq_some_iff->e0i,getD_some->e0v
open Int renaming tmod->d9x,tdiv->e0m
open Nat renaming mul_le_mul_right->d9z,le_refl->d9B,eq_of_beq_eq_true->d9J,le_trans->d9T,succ_mul->d9Y,zero_add->d93,le_mul_of_pos_right->e0h,zero_le->e0s,add_zero->e0B
open Option.some renaming inj->d9K
noncomputable section
section
variable {cx:Cx} {Γ:I3} {F:Nat->Prop} {ι:Nat->Nat->Value} {S:St} {a:Act} {w:World}
theorem o8.writeX(h:o8 Γ F ι S a w){g j:Nat}{e e':n9}(he:S.ent g j=some e)(hl:e.live=true){w':World}(hk:w'.os=w.os/\w'.tape=w.tape/\w'.output=w.output)(hsz:w'.heap.size=w.heap.size)(hb:∀k,¬EB w e (ι g j) k->w'.heap[k]?=w.heap[k]?)(hn:C9 w w' F->RE w' F (S.setE g j e').D ι e' (ι g j)){X:List Nat}(hX:∀k∈X,¬F k/\(Γ.own k\/Γ.w0.heap.size<=k)/\∀g' j' e'',S.ent g' j'=some e''->e''.live=true->¬EB w e'' (ι g' j') k)(hin:∀k,EB w' e' (ι g j) k->EB w e (ι g j) k\/k∈X):o8 Γ F ι (S.setE g j e') a w':=by
  have hs:C9 w w' F:=X4 fun k hF=>hb k fun q=>(h.sep g j e k he hl q).1 hF
  have hD:∀k,S.D k->(S.setE g j e').D k:=fun k x=>L5.2 x
  have hoth:∀g' j' e'',S.ent g' j'=some e''->e''.live=true->¬(g'=g/\j'=j)->∀k,EB w e'' (ι g' j') k->w'.heap[k]?=w.heap[k]?:=fun g' j' e'' he'' hl'' q k a0c=>hb k fun q'=>q (h.inj g' j' e'' g j e k he'' he hl'' hl a0c q')
  have hone:∀g2 j2 e2 k,S.ent g2 j2=some e2->e2.live=true->¬(g2=g/\j2=j)->EB w' e' (ι g j) k->EB w' e2 (ι g2 j2) k->False:=by
    intro g2 j2 e2 k h2 l2 q2 k1 k2;have k2':=(h.ents g2 j2 e2 h2).back (hoth g2 j2 e2 h2 l2 q2) k2;rcases hin k k1 with x|x
    · exact q2 (h.inj g2 j2 e2 g j e k h2 he l2 hl k2' x)
    · exact (hX k x).2.2 g2 j2 e2 h2 l2 k2'
  exact
    { F0:=h.F0
      F1:=fun k hF=>hsz▸h.F1 k hF
      F2:=h.F2
      kept:=⟨hk.1.trans h.kept.os,hk.2.1.trans h.kept.tape,hk.2.2.trans h.kept.output,hsz▸h.kept.size,fun k hk' hno=>by
        rw [hb k fun q => ?_]
        · exact h.kept.block k hk' hno
        · rcases (h.sep g j e k he hl q).2 with x|x
          · exact hno x
          · omega⟩
      tmps:=by rw [a5i];exact h.tmps.imp fun _ _ x=>x.mono hs (fun _ y=>y) hD (fun _ _ _=>rfl)
      ents:=fun g' j' e'' he''=>by
        rw [K0 he] at he'';split at he''
        · rename_i q;obtain ⟨rfl,rfl⟩:=q;injection he'' with he'';subst he'';exact hn hs
        · rename_i q;exact (h.ents g' j' e'' he'').mono hs (fun _ y=>y) hD (fun _ _ _=>rfl) fun k hl'' a0c=>hoth g' j' e'' he'' hl'' q k a0c
      sep:=fun g' j' e'' k he'' hl'' a0c=>by
        rw [K0 he] at he'';split at he''
        · rename_i q;obtain ⟨rfl,rfl⟩:=q;injection he'' with he'';subst he'';rcases hin k a0c with x|x
          · exact h.sep g' j' e k he hl x
          · exact ⟨(hX k x).1,(hX k x).2.1⟩
        · rename_i q;exact h.sep g' j' e'' k he'' hl'' ((h.ents g' j' e'' he'').back (hoth g' j' e'' he'' hl'' q) a0c)
      inj:=fun g1 j1 e1 g2 j2 e2 k h1 h2 l1 l2 k1 k2=>by
        rw [K0 he] at h1 h2;split at h1<;>split at h2
        · rename_i q1 q2;exact ⟨q1.1.trans q2.1.symm,q1.2.trans q2.2.symm⟩
        · rename_i q1 q2;obtain ⟨rfl,rfl⟩:=q1;injection h1 with h1;subst h1;exact (hone g2 j2 e2 k h2 l2 q2 k1 k2).elim
        · rename_i q1 q2;obtain ⟨rfl,rfl⟩:=q2;injection h2 with h2;subst h2;exact (hone g1 j1 e1 k h1 l1 q1 k2 k1).elim
        · rename_i q1 q2;exact h.inj g1 j1 e1 g2 j2 e2 k h1 h2 l1 l2 ((h.ents g1 j1 e1 h1).back (hoth g1 j1 e1 h1 l1 q1) k1) ((h.ents g2 j2 e2 h2).back (hoth g2 j2 e2 h2 l2 q2) k2)
      defers:=h.defers
      pins:=fun j c hc=>⟨hD _ (h.pins j c hc).1,(h.pins j c hc).2⟩}
theorem L2.splice{rows:List (List V)}(h:L2 rows){idx off:Nat}{r vs:List V}(hr:rows[idx]?=some r)(hv:∀v∈vs,v.isRef=false):L2 (rows.set idx (u6 r off vs)):=by
 intro q hq v hm;rcases d9r hq with hq|rfl
 ·exact h q hq v hm
 ·unfold u6 at hm;have hrr:=h r (d9a hr);rcases d80.1 hm with hm|hm
  ·rcases d80.1 hm with hm|hm
   ·exact hrr v (d9C hm)
   ·exact hv v hm
  ·exact hrr v (d9N hm)
theorem o8.dput(h:o8 Γ F ι S a w){g j t sz n:Nat}{o:Bool}{rows:List (List V)}(he:S.ent g j=some (.deep o t sz n rows)){idx off:Nat}{r vs:List V}{ds:List Value}{fp:List Nat}{ks:List (Nat×Nat)}(hr:rows[idx]?=some r)(hoff:off+vs.length<=sz)(hbl:BL w F vs ds fp)(hfps:G5 S w ι ks fp)(hks:ks.Nodup)(hgj:(g,j) ∉ ks){w':World}(hw:w'.os=w.os/\w'.tape=w.tape/\w'.output=w.output)(hsz:w'.heap.size=w.heap.size)(hb:∀k,w9 (ι g j)≠some k->w'.heap[k]?=w.heap[k]?)(hnew:∀flat,w.ownsRow 0 t sz (ι g j) n flat->w'.ownsRow 0 t sz (ι g j) n (u6 flat (idx*sz+off) ds)) :
  o8 Γ F ι (S.upds (B7 ks++[((g,j),.deep o t sz n (rows.set idx (u6 r off vs)))])) a w':=by
 obtain ⟨flat,fs,hor,hkl,hn,hl,hnd,hnr⟩:=h.ents g j _ he;have h1:=h.killAll ks fun id hid=>by
  obtain ⟨e,he,_⟩:=hfps.live id hid;exact ⟨e,he⟩
 have he1:(S.upds (B7 ks)).ent g j=some (.deep o t sz n rows):=by rw [b8J hgj];exact he
 have hidx:=(d83.1 hr).1;have hpos:idx*sz+sz<=n*sz:=by rw [<-d9Y];exact d9z _ (by omega)
 obtain ⟨fa,fm,fb,rfl,hrow,_⟩:=hkl.splice (k:=idx*sz+off) hbl.kl (by rw [a14 hl,hn];omega);rw [<-a4S hl hr hoff] at hrow;have hfpx:∀k∈fp,¬F k/\(Γ.own k\/Γ.w0.heap.size<=k)/\k ∉ A5 (ι g j)++(fa++(fm++fb))/\∀g' j' e'',(S.upds (B7 ks)).ent g' j'=some e''->e''.live=true->¬EB w e'' (ι g' j') k:=by
  intro k hk;obtain ⟨id,hid,e',he',hl',hb'⟩:=hfps.mem hk;obtain ⟨z1,z2⟩:=h.sep _ _ e' k he' hl' hb';refine ⟨z1,z2,?_,?_⟩
  ·intro q;obtain ⟨y1,y2⟩:=h.inj _ _ _ _ _ _ k he he' rfl hl' ((EB.deep_iff hor hkl).2 q) hb';exact hgj (by rw [show (g,j)=id from Prod.ext y1 y2];exact hid)
  ·intro g' j' e'' he'' hl'' hb'';rcases a6E _ he'' with ⟨_,rfl⟩|⟨q1,q2⟩
   ·cases hl''
   ·obtain ⟨y1,y2⟩:=h.inj _ _ _ _ _ _ k q2 he' hl'' hl' hb'' hb';exact q1 (by rw [show (g',j')=id from Prod.ext y1 y2];exact hid)
 have hnd2:(A5 (ι g j)++(fa++fb)).Nodup:=by
  refine List.Nodup.sublist ?_ hnd;exact e0D.append_left (e0D.append_left (e0p _ _) _) _
 have hnd':(A5 (ι g j)++(fa++(fp++fb))).Nodup:=by
  refine (a4w (a4w (e0t.refl (fp++fb)))).nodup_iff.2 ?_;refine d89.2 ⟨G5.nodup h hfps hks,hnd2,?_⟩;intro k hk k' hk' hkk;subst hkk;refine (hfpx k hk).2.2.1 ?_;simp only [d80] at hk' ⊢;rcases hk' with q|q|q<;>simp [q]
 have hre:C9 w w' F->RE w' F ((S.upds (B7 ks)).setE g j (.deep o t sz n (rows.set idx (u6 r off vs)))).D ι (.deep o t sz n (rows.set idx (u6 r off vs))) (ι g j):=by
  intro hs;refine ⟨_,_,hnew flat hor,hrow.mono hs (fun _ x=>x) (fun k x=>L5.2 ((T8 S k _).2 x)) (fun _ _ _=>rfl) ?_,by simpa using hn,?_,hnd',fun q=>(hnr q).splice hr hbl.noRef⟩
  ·intro k hk;refine hb k fun q => ?_
   exact (d89.1 hnd').2.2 k (K8.2 q) k hk rfl
  ·intro q hq;rcases d9r hq with hq|rfl
   ·exact hl q hq
   ·have:=hl r (d9a hr);rw [a1l _ _ _ (by omega)];exact this
 rw [St.upds_append];refine h1.writeX he1 rfl hw hsz (fun k hk=>hb k fun q=>hk (EB.top q)) hre (X:=fp) (fun k hk=>⟨(hfpx k hk).1,(hfpx k hk).2.1,(hfpx k hk).2.2.2⟩) ?_;intro k hk;have hs:C9 w w' F:=X4 fun k hF=>hb k fun q=>(h.sep g j _ k he rfl (EB.top q)).1 hF
 obtain ⟨flat2,fs2,ho2,hkl2,_⟩:=hre hs;have hk2:=(EB.deep_iff ho2 hkl2).1 hk;have hkl3:=hrow.mono (w':=w') hs (fun _ x=>x) (fun k x=>x) (fun _ _ _=>rfl) (fun k hk=>hb k fun q=>(d89.1 hnd').2.2 k (K8.2 q) k hk rfl);have hfl:=a6S ho2 (hnew flat hor) (fun _ _=>rfl);subst hfl;rw [hkl2.det hkl3 (fun _ _=>rfl)] at hk2;simp only [d80] at hk2;rw [EB.deep_iff hor hkl];simp only [d80];rcases hk2 with q|q|q|q<;>simp [q]
def a6T(cx:Cx)(ty:Nat)(x y:V)(r:List V)(ck om:List (Option Nat)):i9 w6:=
 match cx.T ty,y.cells with
 | some ti,some vs=>match x with
  | .eptr g j sz idx off=>i9.bind (i9.rd g j) fun e=>i9.bind (Y6 ck om vs) fun f=>match e with
   | .deep o t sz' n rows=>if sz'=sz/\vs.length=ti.size/\off+vs.length<=sz/\f.ls.isEmpty/\a1p f.ks/\Z3 f.ks (g,j)=false then
     i9.pure {v:=.bot,upd:=B7 f.ks++[((g,j),.deep o t sz n (rows.set idx (u6 r off f.v)))],obl:=(rows[idx]?=some r)::f.obl}
    else i9.no
   | _=>i9.no
  | _=>i9.no
 | _,_=>i9.no
theorem BL.len{F:Nat->Prop}:∀{vs:List V} {cs:List Value} {f:List Nat},BL w F vs cs f->vs.length=cs.length
 | _,_,_,.nil=>rfl
 | _,_,_,.cons _ _ _ _ _ _ _ t=>by simp [BL.len t]
theorem c5g(h:o8 Γ F ι S a w){grp:Nat}{ob:Oper}{ty:Nat}{x y:Operand}{r:List V}{ck om:List (Option Nat)}(ho:ob.op=.store ty x y)(hd:ob.dst=none){out:w6}{lg:List (Nat×Nat)}(hp:a6T cx ty (n5 S.t x) (n5 S.t y) r ck om S.ent=some (out,lg))(hob:∀p∈out.obl,p):N9 cx.P Γ ι S grp ob out a w:=by
 have hx:=A3 h.tmps x;have hy:=A3 h.tmps y;unfold a6T at hp;cases hti:cx.T ty with
 | none=>rw [hti] at hp;cases hp
 | some ti=>
 cases hvs:(n5 S.t y).cells with
 | none=>rw [hti,hvs] at hp;cases hp
 | some vs=>
 rw [hti,hvs] at hp;simp only at hp;obtain ⟨i,d,z,htf⟩:=cx.tf hti;have hcells:=hy.cells hvs;have hone:=hcells.all_one;have hclen:vs.length=(a.eval y).cells.size:=by simpa using hcells.length
 generalize n5 S.t x=xv at hp hx;cases xv<;>try (cases hp;done)
 case eptr g j sz idx off=>
  obtain ⟨hD,b,hι,hc⟩:=hx.inv_eptr;obtain ⟨e,l1,l2,hrd,hp',hl12⟩:=i9.bind_some hp;clear hp;have he:=(i9.rd_some hrd).1;simp only at he;obtain ⟨f,l3,l4,hf,hp'',hl34⟩:=i9.bind_some hp';clear hp';cases e<;>try (cases hp'';done)
  rename_i o t sz' n rows;simp only at hp'';split at hp''<;>try (cases hp'';done)
  rename_i hcond;obtain ⟨rfl,hc1,hc2,hc3,hc4,hc5⟩:=hcond;have:=i9.pure_some hp'';injection this with h2 h3;subst h2;have hr:rows[idx]?=some r:=hob _ (d88.2 (.inl rfl));have hls:f.ls=[]:=List.isEmpty_iff.1 hc3;obtain ⟨fp,hbl,hfps,hh⟩:=a9P (F1:=F) h (fun _ x=>x) hcells hf (fun p hp=>hob p (d88.2 (.inr hp))) (by rw [hls];intro id hid;cases hid);obtain ⟨flat0,fs0,hor0,hkl0,hn0,hl0,_⟩:=h.ents g j _ he;have hidx:=(d83.1 hr).1;have hvl:f.v.length=vs.length:=by rw [hbl.len,hclen];simp
  rcases hor0.2 with ⟨hv,h0⟩|⟨g0,cap,cur,hv,hbg,hg,hnc,hcm,hcs,ht⟩
  ·omega
  ·have hb:b=g0:=by rw [hv] at hι;simp [w9] at hι;omega
   subst hb;have hcl:n*sz'<=cur.size:=by rw [hcs];exact d9z _ hnc
   have hpos:idx*sz'+sz'<=n*sz':=by rw [<-d9Y];exact d9z _ (by omega)
   have hrun:=b02 (P:=cx.P) ho htf hc hg (by omega) (by omega) hone;refine ⟨_,undef,_,F,ι,hrun,.inr ⟨rfl,rfl⟩,?_⟩;rw [hd,a7X,a8B];refine h.dput he hr (by omega) hbl hfps (a23 hc4) (fun q=>by rw [a3V.2 q] at hc5;cases hc5) ⟨rfl,rfl,rfl⟩ (a7L _ _ _) (fun k hk=>setRow_other w b k _ fun q=>hk (by rw [hι,q])) ?_;intro flat hor;have hfl:=a6S hor hor0 (fun _ _=>rfl);subst hfl;have hflat:flat.length=n*sz':=hor.1;refine ⟨?_,.inr ⟨b,cap,_,hv,hbg,setRow_heap w b cur _ t (0,0) hg,hnc,hcm,?_,?_⟩⟩
   ·rw [a1l _ _ _ (by simp;omega)];exact hor.1
   ·rw [e0A,a1l _ _ _ (by simp;omega)];simpa using hcs
   ·rw [<-ht];exact b6P _ _ _ _ (by simp;omega) (by simpa using hcl)
theorem b7E{t sz n:Nat}{rows:List (List V)}{c:Value}{flat:List Value}{b idx off m:Nat}{r:List V}(ho:w.ownsRow 0 t sz c n flat)(hn:rows.length=n)(hl:∀r∈rows,r.length=sz)(hb:w9 c=some b)(hr:rows[idx]?=some r)(hoff:off+m<=sz) :
  I2 w b (idx*sz+off) ((flat.drop (idx*sz+off)).take m)/\((rows.flatten.drop (idx*sz+off)).take m=(r.drop off).take m)/\idx*sz+off+m<=rows.flatten.length:=by
 have hidx:=(d83.1 hr).1;have hpos:idx*sz+sz<=n*sz:=by rw [<-d9Y];exact d9z _ (by omega)
 refine ⟨?_,?_,by rw [a14 hl,hn];omega⟩
 ·rcases ho.2 with ⟨hv,h0⟩|⟨g0,cap,cur,hv,_,hg,hnc,hcm,hcs,ht⟩
  ·rw [hv] at hb;cases hb
  ·rw [hv] at hb;simp [w9] at hb;subst hb;have hseg:I2 w g0 0 flat:=by
    rw [<-ht];have:=(a3t hg 0).take (n*sz);simpa using this
   have:=(hseg.drop (idx*sz+off)).take m;simpa using this
 ·rw [<-a9o hl hr,List.drop_take,List.take_take,e0u];congr 1
  omega
def a9n(cx:Cx)(grp ty:Nat)(x:V)(r:List V):i9 w6:=
 match cx.T ty with
 | none=>i9.no
 | some ti=>match x with
  | .eptr g j sz idx off=>i9.bind (i9.rd g j) fun e=>match e with
   | .deep _ t sz' n rows=>
    let m:=if ti.agg then ti.size else 1
    let y:=G0 grp 0 ((r.drop off).take m);if sz'=sz/\off+m<=sz/\((r.drop off).take m).all (fun v => !v.isRef) then
     match L8 ti y.1 with
     | some v=>i9.pure {v:=v,new:=some y.2,upd:=[((g,j),.deep true t sz n (rows.set idx (u6 r off y.1)))],obl:=[rows[idx]?=some r]}
     | none=>i9.no
    else i9.no
   | _=>i9.no
  | _=>i9.no
theorem KL.toBL{w:World}{F D:Nat->Prop}{ι:Nat->Nat->Value}{vs:List V}{cs:List Value}{f:List Nat}(h:KL w F D ι vs cs f)(hv:vs.all (fun v => !v.isRef)=true):BL w F vs cs f:=by
 refine h.blOf fun v hm => ?_
 have:=d86.1 hv v hm;simpa using this
theorem c3K(grp:Nat):∀(vs:List V) (j:Nat),(G0 grp j vs).1.length=vs.length
 | [],_=>rfl
 | v::vs,j=>by simp [G0,c3K grp vs]
theorem c9C{S:St}{g j:Nat}{e e':n9}:(S.setE g j e).setE g j e'=S.setE g j e':=by
 cases hx:S.h[g]? with
 | none=>unfold St.setE;simp [hx]
 | some o=>cases o with
  | none=>unfold St.setE;simp [hx]
  | some l=>
   have hlt:=(d83.1 hx).1;rw [a1a hx,a1a hx,a1a (l:=l.set j e) (by simp [hlt])];simp only [List.set_set]
set_option maxHeartbeats 800000 in
theorem d4Q(h:o8 Γ F ι S a w){grp:Nat}(hg:grp<S.h.length)(hn:¬S.D grp){ob:Oper}{ty:Nat}{x:Operand}{r:List V}(ho:ob.op=.load ty x){out:w6}{lg:List (Nat×Nat)}(hp:a9n cx grp ty (n5 S.t x) r S.ent=some (out,lg))(hob:∀p∈out.obl,p):N9 cx.P Γ ι S grp ob out a w:=by
 have hx:=A3 h.tmps x;unfold a9n at hp;cases hti:cx.T ty with
 | none=>rw [hti] at hp;cases hp
 | some ti=>
 rw [hti] at hp;obtain ⟨i,d,z,htf⟩:=cx.tf hti;generalize n5 S.t x=xv at hp hx;cases xv<;>try (cases hp;done)
 case eptr g j sz idx off=>
  obtain ⟨hD,b,hι,hc⟩:=hx.inv_eptr;obtain ⟨e,l1,l2,hrd,hp',hl12⟩:=i9.bind_some hp;clear hp;have he:=(i9.rd_some hrd).1;simp only at he;cases e<;>try (cases hp';done)
  rename_i o t sz' n rows;simp only at hp';obtain ⟨m,hm⟩:∃m,(if ti.agg=true then ti.size else 1)=m:=⟨_,rfl⟩
  rw [hm] at hp';split at hp'<;>try (cases hp';done)
  rename_i hcond;obtain ⟨rfl,hc1,hc2⟩:=hcond;obtain ⟨y,hy⟩:∃y,G0 grp 0 ((r.drop off).take m)=y:=⟨_,rfl⟩
  rw [hy] at hp';cases hrv:L8 ti y.1 with
  | none=>rw [hrv] at hp';cases hp'
  | some v=>
  rw [hrv] at hp';have:=i9.pure_some hp';injection this with h2 h3;subst h2;have hr:rows[idx]?=some r:=hob _ (by simp);obtain ⟨flat,fs,hor,hkl,hrn,hl,hnd,hnr⟩:=h.ents g j _ he;obtain ⟨hseg,hmid,hle⟩:=b7E hor hrn hl hι hr hc1;have hrl:=hl r (d9a hr);have hml:((r.drop off).take m).length=m:=by simp;omega
  have hgg:g≠grp:=fun q=>hn (q▸hD)
  obtain ⟨k,hk⟩:∃k,idx*sz'+off=k:=⟨_,rfl⟩
  rw [hk] at hseg hmid hle;obtain ⟨fa,fm,fb,rfl,ka,km,kb⟩:=hkl.cut (k:=k) (m:=m) hle;rw [hmid] at km;have hbl:=km.toBL hc2;have hds:(flat.drop k).take m=((flat.drop k).take m):=rfl;have hflen:flat.length=rows.flatten.length:=hkl.len.symm;have hspl:∀us:List V,us.length=m->(rows.set idx (u6 r off us)).flatten=rows.flatten.take k++(us++rows.flatten.drop (k+m)):=by
   intro us hus;rw [a4S hl hr (by omega),hk];unfold u6;rw [hus,d9k]
  have hfs:flat=flat.take k++((flat.drop k).take m++flat.drop (k+m)):=by
   rw [<-e0u,d9Q,d9Q]
  have hrl':∀us:List V,us.length=m->∀q∈rows.set idx (u6 r off us),q.length=sz':=by
   intro us hus q hq;rcases d9r hq with hq|rfl
   ·exact hl q hq
   ·rw [a1l _ _ _ (by omega)];exact hrl
  have hnd2:(A5 (ι g j)++(fa++fb)).Nodup:=List.Nodup.sublist (e0D.append_left (e0D.append_left (e0p _ _) _) _) hnd;have hndm:fm.Nodup:=(d89.1 (d89.1 (d89.1 hnd).2.1).2.1).1;have hdm:∀k∈fm,k ∉ A5 (ι g j)++(fa++fb):=by
   intro q hq hq';have hp:=(a4w (C:=A5 (ι g j)) (a4w (C:=fa) (e0t.refl (fm++fb)))).nodup_iff.1 hnd;exact (d89.1 hp).2.2 q hq q hq' rfl
  obtain ⟨us0,hus0⟩:∃us:List V,us=((r.drop off).take m).map fun _=>V.bot:=⟨_,rfl⟩
  have hus0l:us0.length=m:=by rw [hus0,d9g,hml]
  have kl0:∀{D':Nat->Prop} {ι':Nat->Nat->Value},(∀k,S.D k->D' k)->(∀g j,S.D g->ι' g j=ι g j)->∀{us:List V},us.length=m->KL w F D' ι' us ((flat.drop k).take m) []->KL w F D' ι' (rows.set idx (u6 r off us)).flatten flat (fa++([]++fb)):=by
   intro D' ι' h1 h2 us hus hku;rw [hspl us hus,hfs];have l1:(flat.take k).length=k:=by simp;omega
   have e1:(flat.take k++((flat.drop k).take m++flat.drop (k+m)))=flat:=hfs.symm;exact (ka.mono (fun _ _ _=>rfl) (fun _ x=>x) h1 h2 (fun _ _=>rfl)).app (hku.app (kb.mono (fun _ _ _=>rfl) (fun _ x=>x) h1 h2 (fun _ _=>rfl)))
  have hmem0:∀q,q∈A5 (ι g j)++(fa++([]++fb))->q∈A5 (ι g j)++(fa++(fm++fb)):=by
   intro q hq;simp only [d80,List.not_mem_nil,false_or] at hq ⊢;rcases hq with x|x|x<;>simp [x]
  have rel1:o8 Γ F ι (S.setE g j (.deep true t sz' n (rows.set idx (u6 r off us0)))) a w:=by
   have k1:=kl0 (D':=S.D) (ι':=ι) (fun _ x=>x) (fun _ _ _=>rfl) hus0l (hus0▸km.bots);refine h.write he rfl ⟨rfl,rfl,rfl⟩ rfl (fun _ _=>rfl) (fun _ => ?_) ?_
   ·exact ⟨flat,_,hor,k1.mono (fun _ _ _=>rfl) (fun _ x=>x) (fun k x=>L5.2 x) (fun _ _ _=>rfl) (fun _ _=>rfl),by simpa using hrn,hrl' _ hus0l,by simpa using hnd2,fun q=>by cases q⟩
   ·intro q hq;exact (EB.deep_iff hor hkl).2 (hmem0 q ((EB.deep_iff hor k1).1 hq))
  have he1:(S.setE g j (.deep true t sz' n (rows.set idx (u6 r off us0)))).ent g j=some (.deep true t sz' n (rows.set idx (u6 r off us0))):=by rw [K0 he];simp
  obtain ⟨bs,hbsl,hhas,hth⟩:=a5l (grp:=grp) hbl 0;rw [hy] at hbsl hhas hth;obtain ⟨ι',hι'⟩:∃ι',ι'=a2A ι grp bs:=⟨_,rfl⟩
  have hne:∀g j,g≠grp->ι' g j=ι g j:=fun g j q=>by rw [hι'];exact b5M q
  have hlenS:grp<(S.setE g j (.deep true t sz' n (rows.set idx (u6 r off us0)))).h.length:=by rw [a61];exact hg
  have hnD:¬(S.setE g j (.deep true t sz' n (rows.set idx (u6 r off us0)))).D grp:=fun q=>hn (L5.1 q)
  have hDg:=V5 (S:=S.setE g j (.deep true t sz' n (rows.set idx (u6 r off us0)))) (new:=y.2) hlenS;obtain ⟨hrc,hlie⟩:=hth ((S.setE g j (.deep true t sz' n (rows.set idx (u6 r off us0)))).lay grp y.2).D ι' hDg (fun q c hq=>by rw [hι',d93];exact a2q hq) hndm;have hvb:∀(q:Nat) (e:n9),y.2[q]?=some e->bs[q]?=some (ι' grp q):=by
   intro q e hq;have hlt:q<bs.length:=by rw [hbsl];exact (d83.1 hq).1
   have hv:ι' grp q=bs[q]:=by rw [hι'];exact a2q (d8Z hlt)
   rw [hv];exact d8Z hlt
  have hmB:∀k∈fm,EB w (.deep o t sz' n rows) (ι g j) k:=fun k hk=>(EB.deep_iff hor hkl).2 (by simp [hk])
  have k1:=kl0 (D':=S.D) (ι':=ι) (fun _ x=>x) (fun _ _ _=>rfl) hus0l (hus0▸km.bots);have rel2:=rel1.lay hlenS hnD (new:=y.2) (ι':=ι') hne (fun q e he=>hlie q e _ he (hvb q e he))
   (fun q e k he hl hk=>h.sep _ _ _ k ‹S.ent g j=some (.deep o t sz' n rows)› rfl (hmB k (hhas.mem he (hvb q e he) hk)))
   (fun q e q' e' k he he' hl hl' hk hk'=>hhas.inj hndm he (hvb q e he) hk he' (hvb q' e' he') hk')
   (fun q e g' j' e' k he0 he' hl hl' hk hk'=>by
    have hkm:=hhas.mem he0 (hvb q e he0) hk;rw [K0 he] at he';split at he'
    ·rename_i qq;obtain ⟨rfl,rfl⟩:=qq;injection he' with he';subst he';exact hdm k hkm (by simpa using (EB.deep_iff hor k1).1 hk')
    ·rename_i qq;exact qq (h.inj _ _ _ _ _ _ k he' he hl' rfl hk' (hmB k hkm)))
  have he2:((S.setE g j (.deep true t sz' n (rows.set idx (u6 r off us0)))).lay grp y.2).ent g j=some (.deep true t sz' n (rows.set idx (u6 r off us0))):=by rw [a4s hgg];exact he1
  have hyl:y.1.length=m:=by rw [<-hy,c3K,hml]
  have hor':w.ownsRow 0 t sz' (ι' g j) n flat:=by rw [hne g j hgg];exact hor
  have hDD:∀k,S.D k->((S.setE g j (.deep true t sz' n (rows.set idx (u6 r off us0)))).lay grp y.2).D k:=fun k x=>b1f (L5.2 x)
  have hιD:∀g' j',S.D g'->ι' g' j'=ι g' j':=fun g' j' x=>hne g' j' fun q=>hn (q▸x)
  have k2:=kl0 (D':=((S.setE g j (.deep true t sz' n (rows.set idx (u6 r off us0)))).lay grp y.2).D) (ι':=ι') hDD hιD hyl (KL.ofRC hrc);have k1':=kl0 (D':=((S.setE g j (.deep true t sz' n (rows.set idx (u6 r off us0)))).lay grp y.2).D) (ι':=ι') hDD hιD hus0l (hus0▸km.bots.mono (fun _ _ _=>rfl) (fun _ x=>x) hDD hιD (fun _ _=>rfl));have rel3:=rel2.write he2 rfl (e':=.deep true t sz' n (rows.set idx (u6 r off y.1))) ⟨rfl,rfl,rfl⟩ rfl (fun _ _=>rfl)
   (fun _=>⟨flat,_,hor',k2.mono (fun _ _ _=>rfl) (fun _ x=>x) (fun k x=>L5.2 x) (fun _ _ _=>rfl) (fun _ _=>rfl),by simpa using hrn,hrl' _ hyl,by rw [hne g j hgg];simpa using hnd2,fun q=>by cases q⟩)
   (fun q hq=>(EB.deep_iff hor' k1').2 ((EB.deep_iff hor' k2).1 hq))
  obtain ⟨c,hrd',hvc⟩:=a3x hrc hrv;refine ⟨_,c,w,F,ι',a3H ho htf (by rw [hc,hk]) hseg hrd',.inl rfl,?_⟩;have hput:=rel3.put ob.dst (hvc.mono (fun _ _ _=>rfl) (fun _ x=>x) (fun k x=>L5.2 x) (fun _ _ _=>rfl));rw [<-b71 hgg,c9C] at hput;exact hput
def V.plainO:V->Bool
 | .own .. => true
 | v=>v.plain
theorem KL.plainO{w:World}{F D:Nat->Prop}{ι:Nat->Nat->Value}:∀{vs:List V} {cs:List Value} {f:List Nat},KL w F D ι vs cs f->vs.all V.plainO=true->q8 (RC w F D ι) vs cs
 | _,_,_,.nil,_=>.nil
 | _,_,_,.cons v c f vs cs fs h t,hp=>by
  simp only [List.all_cons,d82] at hp;refine .cons ?_ (KL.plainO t hp.2);have hv:=hp.1;cases h with
  | rc h=>exact h
  | bc _ h=>cases h with
   | fv v c h=>exact .fv _ _ h
   | _=>cases hv
def a8T(cx:Cx)(ty:Nat)(x:V)(r:List V):i9 w6:=
 match cx.T ty with
 | none=>i9.no
 | some ti=>match x with
  | .eptr g j sz idx off=>i9.bind (i9.rd g j) fun e=>match e with
   | .deep _ t sz' n rows=>
    let m:=if ti.agg then ti.size else 1
    if sz'=sz/\off+m<=sz/\((r.drop off).take m).all V.plainO then
     match L8 ti ((r.drop off).take m) with
     | some v=>i9.pure {v:=v,obl:=[rows[idx]?=some r]}
     | none=>i9.no
    else i9.no
   | _=>i9.no
  | _=>i9.no
theorem d6R(h:o8 Γ F ι S a w){grp:Nat}{ob:Oper}{ty:Nat}{x:Operand}{r:List V}(ho:ob.op=.load ty x){out:w6}{lg:List (Nat×Nat)}(hp:a8T cx ty (n5 S.t x) r S.ent=some (out,lg))(hob:∀p∈out.obl,p):N9 cx.P Γ ι S grp ob out a w:=by
 have hx:=A3 h.tmps x;unfold a8T at hp;cases hti:cx.T ty with
 | none=>rw [hti] at hp;cases hp
 | some ti=>
 rw [hti] at hp;obtain ⟨i,d,z,htf⟩:=cx.tf hti;generalize n5 S.t x=xv at hp hx;cases xv<;>try (cases hp;done)
 case eptr g j sz idx off=>
  obtain ⟨hD,b,hι,hc⟩:=hx.inv_eptr;obtain ⟨e,l1,l2,hrd,hp',hl12⟩:=i9.bind_some hp;clear hp;have he:=(i9.rd_some hrd).1;simp only at he;cases e<;>try (cases hp';done)
  rename_i o t sz' n rows;simp only at hp';obtain ⟨m,hm⟩:∃m,(if ti.agg=true then ti.size else 1)=m:=⟨_,rfl⟩
  rw [hm] at hp';split at hp'<;>try (cases hp';done)
  rename_i hcond;obtain ⟨rfl,hc1,hc2⟩:=hcond;cases hrv:L8 ti ((r.drop off).take m) with
  | none=>rw [hrv] at hp';cases hp'
  | some v=>
  rw [hrv] at hp';have:=i9.pure_some hp';injection this with h2 h3;subst h2;have hr:rows[idx]?=some r:=hob _ (by simp);obtain ⟨flat,fs,hor,hkl,hrn,hl,hnd,hnr⟩:=h.ents g j _ he;obtain ⟨hseg,hmid,hle⟩:=b7E hor hrn hl hι hr hc1;obtain ⟨fa,fm,fb,rfl,ka,km,kb⟩:=hkl.cut hle;rw [hmid] at km;obtain ⟨c,hrd',hvc⟩:=a3x (D:=S.D) (ι:=ι) (km.plainO hc2) hrv;exact ⟨_,c,w,F,ι,a3H ho htf hc hseg hrd',.inl rfl,by rw [a3a];exact h.put ob.dst hvc⟩
def a8W(cx:Cx)(grp ty:Nat)(l c:V)(ck om:List (Option Nat)):i9 w6:=
 match cx.T ty with
 | some ti=>match ti.sl with
  | some e=>match cx.T e with
   | some ei=>match l,c with
    | .i _ n,.i _ n'=>i9.bind (Y6 ck om ei.zero) fun f=>
     if f.ks.isEmpty/\f.ls.isEmpty then
      i9.pure {v:=.own grp 0 ei.size 0 n.toNat,new:=some [.deep false e ei.size n.toNat (d81 n.toNat f.v)],obl:=[0<=n,n'=n,n*ei.bytes<=140737488355328/\0<ei.bytes,ei.zero.length=ei.size]++f.obl}
     else i9.no
    | _,_=>i9.no
   | none=>i9.no
  | none=>i9.no
 | none=>i9.no
theorem BL.replicate{w:World}{F D:Nat->Prop}{ι:Nat->Nat->Value}{vs:List V}{cs:List Value}(h:KL w F D ι vs cs []):∀n,KL w F D ι (d81 n vs).flatten (d81 n cs).flatten []
 | 0=>.nil
 | n+1=>by
  rw [e0x,e0x,d9n,d9n];exact h.app (BL.replicate h n)
theorem c7e(h:o8 Γ F ι S a w){grp:Nat}(hg:grp<S.h.length)(hn:¬S.D grp){ob:Oper}{ty:Nat}{l c:Operand}(ho:ob.op=.makeSlice ty l c){ck om:List (Option Nat)}{out:w6}{lg:List (Nat×Nat)}(hp:a8W cx grp ty (n5 S.t l) (n5 S.t c) ck om S.ent=some (out,lg))(hob:∀p∈out.obl,p):N9 cx.P Γ ι S grp ob out a w:=by
 have hl:=A3 h.tmps l;have hc:=A3 h.tmps c;unfold a8W at hp;cases hti:cx.T ty with
 | none=>rw [hti] at hp;cases hp
 | some ti=>
 rw [hti] at hp;simp only at hp;cases hs:ti.sl with
 | none=>rw [hs] at hp;cases hp
 | some e=>
 rw [hs] at hp;simp only at hp;cases hei:cx.T e with
 | none=>rw [hei] at hp;cases hp
 | some ei=>
 rw [hei] at hp;simp only at hp;generalize n5 S.t l=lv at hp hl;generalize n5 S.t c=cv at hp hc;cases lv<;>try (cases hp;done)
 cases cv<;>try (cases hp;done)
 rename_i k n k' n';simp only at hp;obtain ⟨f,l1,l2,hf,hp',_⟩:=i9.bind_some hp;clear hp;split at hp'<;>try (cases hp';done)
 rename_i hcond;have:=i9.pure_some hp';injection this with h3 h4;subst h3;have p1:0<=n:=hob _ (by simp);have p2:n'=n:=hob _ (by simp);have p3:n*ei.bytes<=140737488355328/\0<ei.bytes:=hob _ (by simp);have p4:ei.zero.length=ei.size:=hob _ (by simp);have p5:∀p∈f.obl,p:=fun p hp=>hob p (d80.2 (.inr hp))
 subst p2;obtain ⟨m,rfl⟩:=Int.eq_ofNat_of_zero_le p1;obtain ⟨i,d,z,htf⟩:=cx.tf hti;obtain ⟨i',d',z',hef⟩:=cx.tf hei;obtain rfl:=htf.isSl hs;have hzs:z'.cells.size=ei.size:=by rw [<-p4,<-hef.zeros];simp
 have hb1:m*ei.bytes<=140737488355328:=by
  have:=p3.1;rw [<-Int.natCast_mul] at this;omega
 have hb2:m<=140737488355328:=d9T (e0h _ p3.2) hb1;obtain ⟨w',hr,hown,hgr⟩:=run_make_full (P:=cx.P) w 0 ty e i' z' ei.size htf.und hef.info hef.zero hef.size k k' m (by rw [hef.bytes,Nat.mul_comm];omega) (by unfold maxLen;omega) (e0s _);have hrun:(execOp a.eval ob).run cx.P w=.ok (.value (.slice (some ⟨w.heap.size,0,none⟩) m m)) w':=by
  simp [execOp,ho,hl.inv_i,hc.inv_i,hr]
 have hz:q8 (RC w F S.D ι) ei.zero z'.cells.toList:=by
  rw [<-hef.zeros];exact (FL.ofCells (w:=w) (F:=F) _ hef.one).all2.imp fun _ _ x=>.fv _ _ x
 obtain ⟨fp,hbl,hfps,hh⟩:=a9P (F1:=F) h (fun _ x=>x) hz hf p5 (by rw [List.isEmpty_iff.1 hcond.2];intro id hid;cases hid);have hfp:fp=[]:=by
  rw [List.isEmpty_iff.1 hcond.1] at hfps;cases hfps;rfl
 subst hfp;have hs':C9 w w' F:=X4 fun g hg=>hgr.block g (h.F1 g hg) (by simp)
 have hbl':BL w' F f.v z'.cells.toList []:=hbl.mono hs' (fun _ x=>x) (fun k hk=>by cases hk);have hrowl:∀r∈d81 m f.v,r.length=ei.size:=fun r hr=>by
  rw [(d9P.1 hr).2,hbl.len];simpa using hzs
 have hkl:∀{D:Nat->Prop} {ι:Nat->Nat->Value},KL w' F D ι (d81 m f.v).flatten (d81 m z'.cells.toList).flatten []:=BL.replicate hbl'.kl m
 have hown':=hown;rw [<-hzs,b0c,hzs] at hown';have hor:RE w' F (S.lay grp [.deep false e ei.size m (d81 m f.v)]).D (G3 ι grp (.slice (some ⟨w.heap.size,0,none⟩) m m)) (.deep false e ei.size m (d81 m f.v)) (.slice (some ⟨w.heap.size,0,none⟩) m m):=
  ⟨_,[],hown',hkl,by simp,hrowl,by simp [A5,w9],fun _=>L2.of_flat fun v hv=>by
   obtain ⟨q,hq,hv⟩:=d9M.1 hv;rw [(d9P.1 hq).2] at hv;exact hbl.noRef v hv⟩
 have hrel:=h.new1 hg hn hgr (ent:=.deep false e ei.size m (d81 m f.v)) (c0:=.slice (some ⟨w.heap.size,0,none⟩) m m) (by
  intro q hq;have:=(EB.deep_iff (D:=fun _=>True) (ι:=fun _ _=>.nilFunc) hown' hkl).1 hq;simp [A5,w9] at this;omega) hor
 refine ⟨_,_,_,F,G3 ι grp (.slice (some ⟨w.heap.size,0,none⟩) m m),hrun,.inl rfl,?_⟩;exact hrel.put ob.dst (.cell (RC.wholeO (V5 hg) I5 hown'))
end
def a5p:List (List Int×V)->List Int->V->V
 | [],_,z=>z
 | p::es,k,z=>if k==p.1 then p.2 else a5p es k z
def a1S:List (List Int×V)->List Int->V->List (List Int×V)
 | [],k,v=>[(k,v)]
 | p::es,k,v=>if k==p.1 then (p.1,v)::es else p::a1S es k v
def T9:List (List Int×V)->List Int->Nat->Option (Nat×Value)
 | [],_,_=>none
 | p::es,k,i=>if k==p.1 then some (i,p.2.conc) else T9 es k (i+1)
theorem c1v{P:Program}{w:World}{r:Nat}{es:Array MapEntry}{clock:Nat}(o:Obj)(hb:w.heap[r]?=some (.map es clock)):(setObj r o).run P w=.ok () {w with heap:=w.heap.setIfInBounds r o}:=by
 simp [setObj,Sem.run,hb]
theorem c0x{w:World}{r:Nat}{o o':Obj}(hb:w.heap[r]?=some o):(w.heap.setIfInBounds r o')[r]?=some o'/\∀r',r'≠r->(w.heap.setIfInBounds r o')[r']?=w.heap[r']?:=by
 have hlt:=(Array.getElem?_eq_some_iff.1 hb).1;exact ⟨by simp [hlt],fun r' q=>by rw [Array.getElem?_setIfInBounds_ne (Ne.symm q)]⟩
theorem b9E(z:V)(k:List Int):∀(es:List (List Int×V)) (i:Nat),(a5p es k z).conc=match T9 es k i with
  | some (_,v)=>v
  | none=>z.conc
 | [],_=>rfl
 | p::es,i=>by
  unfold a5p T9;split
  ·rfl
  ·exact b9E z k es (i+1)
theorem RV.simple{w:World}{F D:Nat->Prop}{ι:Nat->Nat->Value}{v:V}{c:Value}(h:RV w F D ι v c)(hv:v.simple=true):c=v.conc:=by
 cases h with
 | one v c h=>
  cases h with
  | cell v c h=>
   cases h with
   | fv v c h=>cases h<;>first|rfl|(cases hv;done)
   | _=>cases hv
  | agg cs ds h=>cases hv
 | tup cs ds h=>cases hv
 | any c=>cases hv
section
variable {P:Program} {kt m:Nat} {w:World}
theorem b52(hE:∀(xs ys:List Int) (w:World),xs.length=m->ys.length=m->(Op.equal kt (kv xs) (kv ys)).run P w=.ok (xs==ys) w){k:List Int}(hk:k.length=m):∀(es:List (List Int×V)) (l:List MapEntry) (i:Nat),l.map (fun e=>(e.key,e.val))=es.map (fun p=>(kv p.1,p.2.conc))->(∀p∈es,p.1.length=m)->(Instr.findAsking kt (kv k) l i).run P w=.ok (T9 es k i) w
 | [],[],i,_,_=>by simp [Instr.findAsking,T9]
 | [],_::_,_,h,_=>by cases h
 | _::_,[],_,h,_=>by cases h
 | p::es,e::l,i,h,hl=>by
  simp only [d9s,List.cons.injEq,Prod.mk.injEq] at h;obtain ⟨⟨h1,h2⟩,h3⟩:=h;unfold Instr.findAsking;rw [h1];simp only [Sem.run_bind,hE k p.1 w hk (hl p (by simp)),Result.andThen_ok];unfold T9;by_cases q:(k==p.1)=true
  ·rw [if_pos q,if_pos q,h2];rfl
  ·rw [if_neg q,if_neg q];exact b52 hE hk es l (i+1) h3 fun p hp=>hl p (by simp [hp])
theorem c8h:∀(n:Nat) (xs:List Int),Instr.sameBits (n+2) (kv xs) (kv xs)=true:=by
 intro n xs;unfold kv Instr.sameBits;simp only [e0A,beq_self_eq_true,d9m];induction xs with
 | nil=>rfl
 | cons x xs ih=>
  simp only [d9s,List.zip_cons_cons,List.all_cons,d82];exact ⟨by simp [Instr.sameBits],by simpa using ih⟩
theorem c1S{k:List Int}{j:Nat}{v:Value}:∀{es:List (List Int×V)} {i:Nat},T9 es k i=some (j,v)->i<=j
 | [],_,h=>by cases h
 | p::es,i,h=>by
  unfold T9 at h;split at h
  ·injection h with h;injection h with h;omega
  ·have:=c1S h;omega
theorem c2b{k:List Int}{x:V}{v:Value}:∀{es:List (List Int×V)} {l:List MapEntry} {i j:Nat},l.map (fun e=>(e.key,e.val))=es.map (fun p=>(kv p.1,p.2.conc))->T9 es k i=some (j,v)->
  (∃e,l[j-i]?=some e/\e.key=kv k)/\((l.modify (j-i) fun e=>{e with key:=kv k,val:=x.conc}).map (fun e=>(e.key,e.val))=(a1S es k x).map (fun p=>(kv p.1,p.2.conc)))
 | [],_,_,_,_,h=>by cases h
 | _::_,[],_,_,h,_=>by cases h
 | p::es,e::l,i,j,h,hf=>by
  simp only [d9s,List.cons.injEq,Prod.mk.injEq] at h;obtain ⟨⟨h1,h2⟩,h3⟩:=h;unfold T9 at hf;unfold a1S;split at hf
  ·rename_i q;injection hf with hf;injection hf with hf1 hf2;subst hf1;have:k=p.1:=by simpa using q
   rw [Nat.sub_self,if_pos q];exact ⟨⟨e,rfl,by rw [h1,this]⟩,by simp [List.modify_cons,h3,this]⟩
  ·rename_i q;rw [if_neg q];have hge:=c1S hf;obtain ⟨⟨e',h4,h5⟩,h6⟩:=c2b (x:=x) h3 hf;obtain ⟨d,hd⟩:∃d,j-i=d+1:=⟨j-i-1,by omega⟩
   have hd':j-(i+1)=d:=by omega
   rw [hd'] at h4 h6;rw [hd];refine ⟨⟨e',by simpa using h4,h5⟩,?_⟩;rw [List.modify_succ_cons];simp only [d9s,h1,h2,h6]
theorem b8p{k:List Int}{x:V}:∀{es:List (List Int×V)} {i:Nat},T9 es k i=none->a1S es k x=es++[(k,x)]
 | [],_,_=>rfl
 | p::es,i,h=>by
  unfold T9 at h;unfold a1S;split at h
  ·cases h
  ·rename_i q;rw [if_neg q,b8p h];rfl
theorem c20{k:List Int}{x:V}{p:List Int×V->Prop}:∀{es:List (List Int×V)},(∀q∈es,p q)->(∀q∈es,p (q.1,x))->p (k,x)->∀q∈a1S es k x,p q
 | [],_,_,h3,q,hq=>by
  simp only [a1S,d84] at hq;subst hq;exact h3
 | e::es,h1,h2,h3,q,hq=>by
  unfold a1S at hq;split at hq
  ·rcases d88.1 hq with rfl|hq
   ·exact h2 e (by simp)
   ·exact h1 q (by simp [hq])
  ·rcases d88.1 hq with rfl|hq
   ·exact h1 _ (by simp)
   ·exact c20 (fun q hq=>h1 q (by simp [hq])) (fun q hq=>h2 q (by simp [hq])) h3 q hq
end
section
variable {cx:Cx} {Γ:I3} {F:Nat->Prop} {ι:Nat->Nat->Value} {S S':St} {a:Act} {w:World}
theorem RV.inv_mp{D:Nat->Prop}{g j:Nat}{c:Value}(h:RV w F D ι (.mp g j) c):D g/\∃b,ι g j=.map (some b)/\c=.map (some b):=by
 cases h with
 | one v c h=>cases h with
  | cell v c h=>cases h with
   | fv v c h=>cases h
   | mp g j b h1 h2=>exact ⟨h1,b,h2,rfl⟩
def b57(cx:Cx)(grp ty:Nat):Option w6:=
 match cx.M ty with
 | some (_,m,_)=>some {v:=.mp grp 0,new:=some [.map ty m []]}
 | none=>none
theorem c92(h:o8 Γ F ι S a w){grp:Nat}(hg:grp<S.h.length)(hn:¬S.D grp){ob:Oper}{ty:Nat}(ho:ob.op=.makeMap ty none){out:w6}(hp:b57 cx grp ty=some out):N9 cx.P Γ ι S grp ob out a w:=by
 unfold b57 at hp;split at hp<;>try (cases hp;done)
 injection hp with hp;subst hp;rename_i kt m z hM;have hrun:(execOp a.eval ob).run cx.P w=.ok (.value (.map (some w.heap.size))) (w.alloc (.map #[] 0)):=by
  simp only [execOp,ho,Option.map_none];rfl
 have hrel:=h.new1 hg hn (a2l w (.map #[] 0)) (ent:=.map ty m []) (c0:=.map (some w.heap.size))
  (by intro k hk;simp [EB,w9] at hk;omega) ⟨w.heap.size,#[],0,rfl,a5P w _,rfl,fun p hp=>by cases hp⟩
 refine ⟨_,_,_,F,G3 ι grp (.map (some w.heap.size)),hrun,.inl rfl,?_⟩;exact hrel.put ob.dst (.cell (.mp grp 0 w.heap.size (V5 hg) I5))
def a8s(cx:Cx)(ty:Nat)(x ix:V):i9 w6:=
 match cx.M ty with
 | none=>i9.no
 | some (kt,m,z)=>match x,ix with
  | .mp g j,.agg ks=>match a0v ks with
   | some xs=>i9.bind (i9.rd g j) fun e=>match e with
    | .map t' m' es=>if m'=m/\xs.length=m then i9.pure {v:=a5p es xs z} else i9.no
    | _=>i9.no
   | none=>i9.no
  | _,_=>i9.no
theorem c0B{xs:List Int}{z:V}(hz:z.simple=true):∀{es:List (List Int×V)},(∀p∈es,p.2.simple=true)->(a5p es xs z).simple=true
 | [],_=>hz
 | p::es,h=>by
  unfold a5p;split
  ·exact h p (by simp)
  ·exact c0B hz fun p hp=>h p (by simp [hp])
theorem c8r(h:o8 Γ F ι S a w){grp:Nat}{ob:Oper}{ty:Nat}{x ix:Operand}(ho:ob.op=.lookup ty x ix false){out:w6}{lg:List (Nat×Nat)}(hp:a8s cx ty (n5 S.t x) (n5 S.t ix) S.ent=some (out,lg)):N9 cx.P Γ ι S grp ob out a w:=by
 have hx:=A3 h.tmps x;have hi:=A3 h.tmps ix;unfold a8s at hp;cases hM:cx.M ty with
 | none=>rw [hM] at hp;cases hp
 | some q=>
 obtain ⟨kt,m,z⟩:=q;rw [hM] at hp;simp only at hp;generalize n5 S.t x=xv at hp hx;generalize n5 S.t ix=iv at hp hi;cases xv<;>try (cases hp;done)
 cases iv<;>try (cases hp;done)
 rename_i g j ks;simp only at hp;cases hks:a0v ks with
 | none=>rw [hks] at hp;cases hp
 | some xs=>
 rw [hks] at hp;obtain ⟨e,l1,l2,hrd,hp',hl12⟩:=i9.bind_some hp;clear hp;have he:=(i9.rd_some hrd).1;simp only at he hp';cases e<;>try (cases hp';done)
 rename_i t' m' es;simp only at hp';split at hp'<;>try (cases hp';done)
 rename_i hcond;obtain ⟨rfl,hlen⟩:=hcond;have:=i9.pure_some hp';injection this with h2 h3;subst h2;obtain ⟨hD,b,hι,hc⟩:=hx.inv_mp;obtain ⟨ds,hds,hall⟩:=hi.inv_agg;have hints:=b0n hall hks;subst hints;obtain ⟨b',arr,clock,hb,hheap,hes,hok⟩:=h.ents g j _ he;rw [hι] at hb;injection hb with hb;injection hb with hb;subst hb;obtain ⟨vt,hu,hE,hwide,hz,hzs,hck⟩:=cx.hM ty kt m' z hM;have hck':∀em,(Instr.checkKey em 10000 kt (kv xs)).run cx.P w=.ok () w:=fun em=>hck em xs w hlen
 have hfind:(Instr.findKey kt (kv xs) arr.toList).run cx.P w=.ok (T9 es xs 0) w:=by
  rw [run_findKey_eq w (by unfold b7z at hwide;exact hwide)];exact b52 (fun xs ys w h1 h2=>cx.hE kt m' hE xs ys w h1 h2) hlen es arr.toList 0 hes fun p hp=>(hok p hp).1
 have hrun:(execOp a.eval ob).run cx.P w=.ok (.value (a5p es xs z).conc) w:=by
  rw [b9E z xs es 0];simp only [execOp,ho,hc,hds,Instr.lookup,Sem.run_bind,run_underlying hu,Result.andThen_ok,run_getObj_map w b arr clock hheap];rw [show (Value.agg (xs.map (Value.int .i64)).toArray)=kv xs from rfl];simp only [Sem.run_pure,Sem.run_bind,hck',Result.andThen_ok,hfind];cases T9 es xs 0 with
  | none=>simp [hz,Sem.run_bind]
  | some q=>simp
 have hs:=c0B (xs:=xs) hzs fun p hp=>(hok p hp).2
 refine ⟨_,_,w,F,ι,hrun,.inl rfl,?_⟩;rw [a3a];exact h.put ob.dst (.fv (FV.conc hs))
def a8p(cx:Cx)(ty:Nat)(x ix y:V):i9 w6:=
 match cx.M ty with
 | none=>i9.no
 | some (kt,m,z)=>match x,ix with
  | .mp g j,.agg ks=>match a0v ks with
   | some xs=>i9.bind (i9.rd g j) fun e=>match e with
    | .map t' m' es=>if m'=m/\xs.length=m/\y.simple=true then i9.pure {v:=.bot,upd:=[((g,j),.map t' m (a1S es xs y))]} else i9.no
    | _=>i9.no
   | none=>i9.no
  | _,_=>i9.no
theorem c64(h:o8 Γ F ι S a w){grp:Nat}{ob:Oper}{ty:Nat}{x ix y:Operand}(ho:ob.op=.mapUpdate ty x ix y)(hd:ob.dst=none){out:w6}{lg:List (Nat×Nat)}(hp:a8p cx ty (n5 S.t x) (n5 S.t ix) (n5 S.t y) S.ent=some (out,lg)):N9 cx.P Γ ι S grp ob out a w:=by
 have hx:=A3 h.tmps x;have hi:=A3 h.tmps ix;have hy:=A3 h.tmps y;unfold a8p at hp;cases hM:cx.M ty with
 | none=>rw [hM] at hp;cases hp
 | some q=>
 obtain ⟨kt,m,z⟩:=q;rw [hM] at hp;simp only at hp;generalize n5 S.t x=xv at hp hx;generalize n5 S.t ix=iv at hp hi;generalize n5 S.t y=yv at hp hy;cases xv<;>try (cases hp;done)
 cases iv<;>try (cases hp;done)
 rename_i g j ks;simp only at hp;cases hks:a0v ks with
 | none=>rw [hks] at hp;cases hp
 | some xs=>
 rw [hks] at hp;obtain ⟨e,l1,l2,hrd,hp',hl12⟩:=i9.bind_some hp;clear hp;have he:=(i9.rd_some hrd).1;simp only at he hp';cases e<;>try (cases hp';done)
 rename_i t' m' es;simp only at hp';split at hp'<;>try (cases hp';done)
 rename_i hcond;obtain ⟨rfl,hlen,hys⟩:=hcond;have:=i9.pure_some hp';injection this with h2 h3;subst h2;obtain ⟨hD,b,hι,hc⟩:=hx.inv_mp;obtain ⟨ds,hds,hall⟩:=hi.inv_agg;have hints:=b0n hall hks;subst hints;have hyc:=hy.simple hys;obtain ⟨b',arr,clock,hb,hheap,hes,hok⟩:=h.ents g j _ he;rw [hι] at hb;injection hb with hb;injection hb with hb;subst hb;obtain ⟨vt,hu,hE,hwide,hz,hzs,hck⟩:=cx.hM ty kt m' z hM;have hck':∀em,(Instr.checkKey em 10000 kt (kv xs)).run cx.P w=.ok () w:=fun em=>hck em xs w hlen
 have hfind:(Instr.findKey kt (kv xs) arr.toList).run cx.P w=.ok (T9 es xs 0) w:=by
  rw [run_findKey_eq w (by unfold b7z at hwide;exact hwide)];exact b52 (fun xs ys w h1 h2=>cx.hE kt m' hE xs ys w h1 h2) hlen es arr.toList 0 hes fun p hp=>(hok p hp).1
 have hlt:b<w.heap.size:=(Array.getElem?_eq_some_iff.1 hheap).1;obtain ⟨arr',clock',hrun,hes'⟩:∃arr' clock',(execOp a.eval ob).run cx.P w=.ok .skip {w with heap:=w.heap.setIfInBounds b (.map arr' clock')}/\arr'.toList.map (fun e=>(e.key,e.val))=(a1S es xs yv).map (fun p=>(kv p.1,p.2.conc)):=by
  have e0:(Value.agg (xs.map (Value.int .i64)).toArray)=kv xs:=rfl;cases hf:T9 es xs 0 with
  | none=>
   refine ⟨arr.push {key:=kv xs,val:=yv.conc,born:=clock},clock+1,?_,?_⟩
   ·simp only [execOp,ho,hc,hds,hyc,Instr.mapUpdate,Sem.run_bind,run_underlying hu,Result.andThen_ok,run_getObj_map w b arr clock hheap];rw [e0];simp only [Sem.run_pure,Sem.run_bind,hck',Result.andThen_ok,hfind,hf,c1v _ hheap]
   ·rw [b8p hf];simp [hes]
  | some q=>
   obtain ⟨i,v⟩:=q;obtain ⟨⟨e,he1,he2⟩,he3⟩:=c2b (x:=yv) hes hf;rw [Nat.sub_zero] at he1 he3;have hkey:((arr[i]?).map (·.key)).getD (kv xs)=kv xs:=by
    have:arr[i]?=some e:=by simpa using he1
    rw [this];exact he2
   refine ⟨arr.modify i fun e=>{e with key:=kv xs,val:=yv.conc},clock,?_,?_⟩
   ·simp only [execOp,ho,hc,hds,hyc,Instr.mapUpdate,Sem.run_bind,run_underlying hu,Result.andThen_ok,run_getObj_map w b arr clock hheap];rw [e0];simp only [Sem.run_pure,Sem.run_bind,hck',Result.andThen_ok,hfind,hf,hkey,Instr.keyThatStays,c8h 9998,if_true,c1v _ hheap]
   ·rw [Array.toList_modify];exact he3
 refine ⟨_,undef,_,F,ι,hrun,.inr ⟨rfl,rfl⟩,?_⟩;rw [hd,a7X,a8B];have hsz:(w.heap.setIfInBounds b (.map arr' clock')).size=w.heap.size:=by simp
 refine h.write he rfl ⟨rfl,rfl,rfl⟩ hsz (fun k hk => ?_) (fun _ => ?_) (fun k hk=>hk)
 ·refine (c0x hheap).2 k fun q=>hk ?_
  rw [q,hι];rfl
 ·exact ⟨b,arr',clock',hι,(c0x hheap).1,hes',c20 hok (fun q hq=>⟨(hok q hq).1,hys⟩) ⟨hlen,hys⟩⟩
end
section
variable {cx:Cx} {Γ:I3} {F:Nat->Prop} {ι:Nat->Nat->Value} {S S':St} {a:Act} {w:World}
theorem o8.killsR:∀{ks:List (Nat×Nat)} {S:St},o8 Γ F ι S a w->(∀id∈ks,∃e,S.ent id.1 id.2=some e)->o8 Γ F ι (S.upds (B7 ks)) a w
 | [],S,h,_=>h
 | id::ks,S,h,hk=>by
  obtain ⟨e,he⟩:=hk id (by simp);refine o8.killsR (S:=S.setE id.1 id.2 .dead) (h.kill he) fun id' hid => ?_
  obtain ⟨e',he'⟩:=hk id' (by simp [hid]);rw [K0 he];split
  ·exact ⟨_,rfl⟩
  ·exact ⟨e',he'⟩
theorem L2.flatB{rows:List (List V)}(h:L2 rows):rows.flatten.all (fun v => !v.isRef)=true:=by
 rw [d86];intro v hv;obtain ⟨r,hr,hv⟩:=d9M.1 hv;rw [h r hr v hv];rfl
theorem o8.layDeep(h:o8 Γ F ι S a w){grp:Nat}(hgl:grp<S.h.length)(hn:¬S.D grp){X:Option Nat}{w':World}(hgr:w.grownBy w' X)(hX:∀k,X=some k->¬F k/\(Γ.own k\/Γ.w0.heap.size<=k)/\∀g j e,S.ent g j=some e->e.live=true->¬EB w e (ι g j) k){e sz n:Nat}{rows:List (List V)}{sv:Value}{flat:List Value}{fs:List Nat}(hown:w'.ownsRow 0 e sz sv n flat)(hbl:BL w F rows.flatten flat fs)(hlen:rows.length=n)(hl:∀r∈rows,r.length=sz)(hsv:∀k,w9 sv=some k->X=some k\/w.heap.size<=k)(hfs:∀k∈fs,¬F k/\(Γ.own k\/Γ.w0.heap.size<=k)/\(∀g j e,S.ent g j=some e->e.live=true->¬EB w e (ι g j) k)/\X≠some k)(hnd:fs.Nodup) :
  o8 Γ F (G3 ι grp sv) (S.lay grp [.deep false e sz n rows]) a w'/\RC w' F (S.lay grp [.deep false e sz n rows]).D (G3 ι grp sv) (.own grp 0 sz 0 n) sv:=by
 have hs:C9 w w' F:=X4 fun g hF=>hgr.block g (h.F1 g hF) fun q=>(hX g q.symm).1 hF
 have hlt:=hbl.lt;have hbl':BL w' F rows.flatten flat fs:=hbl.mono hs (fun _ x=>x) fun k hk=>hgr.block k (hlt k hk) fun q=>(hfs k hk).2.2.2 q.symm
 have hkl:∀{D:Nat->Prop} {ι:Nat->Nat->Value},KL w' F D ι rows.flatten flat fs:=hbl'.kl
 have hEB:∀k,EB w' (.deep false e sz n rows) sv k->(X=some k\/w.heap.size<=k)\/k∈fs:=by
  intro k hk;rcases d80.1 ((EB.deep_iff (D:=fun _=>True) (ι:=fun _ _=>.nilFunc) hown hkl).1 hk) with q|q
  ·exact .inl (hsv k (K8.1 q))
  ·exact .inr q
 have h':=h.world2 hgr hX;have hback:∀{g' j' e' k},S.ent g' j'=some e'->e'.live=true->EB w' e' (ι g' j') k->EB w e' (ι g' j') k:=fun he' hl' hk'=>
  (h.ents _ _ _ he').back (fun k q=>hgr.block k (h.lt he' hl' q) fun z=>(hX k z.symm).2.2 _ _ _ he' hl' q) hk'
 refine ⟨h'.lay hgl hn (fun g j q=>a6q q) ?_ ?_ ?_ ?_,RC.wholeO (V5 hgl) I5 hown⟩
 ·intro j e1 he;cases j with
  | succ j=>simp at he
  | zero=>
   simp at he;subst he;rw [I5];refine ⟨flat,fs,hown,hkl,hlen,hl,d89.2 ⟨b50 sv,hnd,?_⟩,fun _=>L2.of_flat hbl.noRef⟩;intro k hk k' hk' hkk;subst hkk;rcases hsv k (K8.1 hk) with q|q
   ·exact (hfs k hk').2.2.2 q
   ·have:=hlt k hk';omega
 ·intro j e1 k he hl1 hk;rw [I5] at hk;cases j with
  | succ j=>simp at he
  | zero=>
   simp at he;subst he;rcases hEB k hk with (q|q)|q
   ·exact ⟨(hX k q).1,(hX k q).2.1⟩
   ·refine ⟨fun hF => ?_,.inr (d9T h.kept.size q)⟩;have:=h.F1 k hF;omega
   ·exact ⟨(hfs k q).1,(hfs k q).2.1⟩
 ·intro j e1 j' e1' k he he' _ _ _ _;cases j<;>cases j'<;>simp_all
 ·intro j e1 g' j' e' k he he' _ hl' hk hk';rw [I5] at hk;cases j with
  | succ j=>simp at he
  | zero=>
   simp at he;subst he;have hk2:=hback he' hl' hk';rcases hEB k hk with (q|q)|q
   ·exact (hX k q).2.2 g' j' e' he' hl' hk2
   ·have:=h.lt he' hl' hk2;omega
   ·exact (hfs k q).2.2.1 g' j' e' he' hl' hk2
def a6M:V->V
 | .osl .. | .dsl .. => .bot
 | v=>v
theorem KL.holes:∀{vs:List V} {cs:List Value} {f:List Nat} {D:Nat->Prop} {ι:Nat->Nat->Value},KL w F D ι vs cs f->vs.all (fun v => !v.isRef)=true->KL w F D ι (vs.map a6M) cs []
 | _,_,_,_,_,.nil,_=>.nil
 | _,_,_,D,ι,.cons v c f vs cs fs h t,hv=>by
  simp only [List.all_cons,d82] at hv;have h1:KC w F D ι (a6M v) c []:=by
   have hone:=h.one;cases h with
   | rc h=>
    have:a6M v=v:=by
     cases h with
     | fv v c h=>cases h<;>rfl
     | _=>rfl
    rw [this];exact .rc _ _ h
   | bc _ h=>cases h with
    | fv _ _ h=>
     have:a6M v=v:=by cases h<;>rfl
     rw [this];exact .rc _ _ (.fv _ _ h)
    | _=>exact .rc _ _ (.fv _ _ (.bot _ hone))
  exact .cons _ _ [] _ _ [] h1 (KL.holes t hv.2)
def a9W(cx:Cx)(grp ty:Nat)(x:V)(r:List V):i9 w6:=
 match cx.T ty with
 | none=>i9.no
 | some ti=>match x with
  | .eptr g j sz idx off=>i9.bind (i9.rd g j) fun e=>match e with
   | .deep _ t sz' n rows=>
    let m:=if ti.agg then ti.size else 1
    let y:=G0 grp 0 ((r.drop off).take m);if sz'=sz/\off+m<=sz/\((r.drop off).take m).all (fun v => !v.isRef) then
     match L8 ti y.1 with
     | some v=>i9.pure {v:=v,new:=some y.2,upd:=[((g,j),.deep true t sz n (rows.set idx (u6 r off (((r.drop off).take m).map a6M))))],obl:=[rows[idx]?=some r]}
     | none=>i9.no
    else i9.no
   | _=>i9.no
  | _=>i9.no
set_option maxHeartbeats 800000 in
theorem d5F(h:o8 Γ F ι S a w){grp:Nat}(hg:grp<S.h.length)(hn:¬S.D grp){ob:Oper}{ty:Nat}{x:Operand}{r:List V}(ho:ob.op=.load ty x){out:w6}{lg:List (Nat×Nat)}(hp:a9W cx grp ty (n5 S.t x) r S.ent=some (out,lg))(hob:∀p∈out.obl,p):N9 cx.P Γ ι S grp ob out a w:=by
 have hx:=A3 h.tmps x;unfold a9W at hp;cases hti:cx.T ty with
 | none=>rw [hti] at hp;cases hp
 | some ti=>
 rw [hti] at hp;obtain ⟨i,d,z,htf⟩:=cx.tf hti;generalize n5 S.t x=xv at hp hx;cases xv<;>try (cases hp;done)
 case eptr g j sz idx off=>
  obtain ⟨hD,b,hι,hc⟩:=hx.inv_eptr;obtain ⟨e,l1,l2,hrd,hp',hl12⟩:=i9.bind_some hp;clear hp;have he:=(i9.rd_some hrd).1;simp only at he;cases e<;>try (cases hp';done)
  rename_i o t sz' n rows;simp only at hp';obtain ⟨m,hm⟩:∃m,(if ti.agg=true then ti.size else 1)=m:=⟨_,rfl⟩
  rw [hm] at hp';split at hp'<;>try (cases hp';done)
  rename_i hcond;obtain ⟨rfl,hc1,hc2⟩:=hcond;obtain ⟨y,hy⟩:∃y,G0 grp 0 ((r.drop off).take m)=y:=⟨_,rfl⟩
  rw [hy] at hp';cases hrv:L8 ti y.1 with
  | none=>rw [hrv] at hp';cases hp'
  | some v=>
  rw [hrv] at hp';have:=i9.pure_some hp';injection this with h2 h3;subst h2;have hr:rows[idx]?=some r:=hob _ (by simp);obtain ⟨flat,fs,hor,hkl,hrn,hl,hnd,hnr⟩:=h.ents g j _ he;obtain ⟨hseg,hmid,hle⟩:=b7E hor hrn hl hι hr hc1;have hrl:=hl r (d9a hr);have hml:((r.drop off).take m).length=m:=by simp;omega
  have hgg:g≠grp:=fun q=>hn (q▸hD)
  obtain ⟨k,hk⟩:∃k,idx*sz'+off=k:=⟨_,rfl⟩
  rw [hk] at hseg hmid hle;obtain ⟨fa,fm,fb,rfl,ka,km,kb⟩:=hkl.cut (k:=k) (m:=m) hle;rw [hmid] at km;have hbl:=km.toBL hc2;have hds:(flat.drop k).take m=((flat.drop k).take m):=rfl;have hflen:flat.length=rows.flatten.length:=hkl.len.symm;have hspl:∀us:List V,us.length=m->(rows.set idx (u6 r off us)).flatten=rows.flatten.take k++(us++rows.flatten.drop (k+m)):=by
   intro us hus;rw [a4S hl hr (by omega),hk];unfold u6;rw [hus,d9k]
  have hfs:flat=flat.take k++((flat.drop k).take m++flat.drop (k+m)):=by
   rw [<-e0u,d9Q,d9Q]
  have hrl':∀us:List V,us.length=m->∀q∈rows.set idx (u6 r off us),q.length=sz':=by
   intro us hus q hq;rcases d9r hq with hq|rfl
   ·exact hl q hq
   ·rw [a1l _ _ _ (by omega)];exact hrl
  have hnd2:(A5 (ι g j)++(fa++fb)).Nodup:=List.Nodup.sublist (e0D.append_left (e0D.append_left (e0p _ _) _) _) hnd;have hndm:fm.Nodup:=(d89.1 (d89.1 (d89.1 hnd).2.1).2.1).1;have hdm:∀k∈fm,k ∉ A5 (ι g j)++(fa++fb):=by
   intro q hq hq';have hp:=(a4w (C:=A5 (ι g j)) (a4w (C:=fa) (e0t.refl (fm++fb)))).nodup_iff.1 hnd;exact (d89.1 hp).2.2 q hq q hq' rfl
  obtain ⟨us0,hus0⟩:∃us:List V,us=((r.drop off).take m).map a6M:=⟨_,rfl⟩
  have hus0l:us0.length=m:=by rw [hus0,d9g,hml]
  have kl0:∀{D':Nat->Prop} {ι':Nat->Nat->Value},(∀k,S.D k->D' k)->(∀g j,S.D g->ι' g j=ι g j)->∀{us:List V},us.length=m->KL w F D' ι' us ((flat.drop k).take m) []->KL w F D' ι' (rows.set idx (u6 r off us)).flatten flat (fa++([]++fb)):=by
   intro D' ι' h1 h2 us hus hku;rw [hspl us hus,hfs];have l1:(flat.take k).length=k:=by simp;omega
   have e1:(flat.take k++((flat.drop k).take m++flat.drop (k+m)))=flat:=hfs.symm;exact (ka.mono (fun _ _ _=>rfl) (fun _ x=>x) h1 h2 (fun _ _=>rfl)).app (hku.app (kb.mono (fun _ _ _=>rfl) (fun _ x=>x) h1 h2 (fun _ _=>rfl)))
  have hmem0:∀q,q∈A5 (ι g j)++(fa++([]++fb))->q∈A5 (ι g j)++(fa++(fm++fb)):=by
   intro q hq;simp only [d80,List.not_mem_nil,false_or] at hq ⊢;rcases hq with x|x|x<;>simp [x]
  have rel1:o8 Γ F ι (S.setE g j (.deep true t sz' n (rows.set idx (u6 r off us0)))) a w:=by
   have k1:=kl0 (D':=S.D) (ι':=ι) (fun _ x=>x) (fun _ _ _=>rfl) hus0l (hus0▸km.holes hc2);refine h.write he rfl ⟨rfl,rfl,rfl⟩ rfl (fun _ _=>rfl) (fun _ => ?_) ?_
   ·exact ⟨flat,_,hor,k1.mono (fun _ _ _=>rfl) (fun _ x=>x) (fun k x=>L5.2 x) (fun _ _ _=>rfl) (fun _ _=>rfl),by simpa using hrn,hrl' _ hus0l,by simpa using hnd2,fun q=>by cases q⟩
   ·intro q hq;exact (EB.deep_iff hor hkl).2 (hmem0 q ((EB.deep_iff hor k1).1 hq))
  have he1:(S.setE g j (.deep true t sz' n (rows.set idx (u6 r off us0)))).ent g j=some (.deep true t sz' n (rows.set idx (u6 r off us0))):=by rw [K0 he];simp
  obtain ⟨bs,hbsl,hhas,hth⟩:=a5l (grp:=grp) hbl 0;rw [hy] at hbsl hhas hth;obtain ⟨ι',hι'⟩:∃ι',ι'=a2A ι grp bs:=⟨_,rfl⟩
  have hne:∀g j,g≠grp->ι' g j=ι g j:=fun g j q=>by rw [hι'];exact b5M q
  have hlenS:grp<(S.setE g j (.deep true t sz' n (rows.set idx (u6 r off us0)))).h.length:=by rw [a61];exact hg
  have hnD:¬(S.setE g j (.deep true t sz' n (rows.set idx (u6 r off us0)))).D grp:=fun q=>hn (L5.1 q)
  have hDg:=V5 (S:=S.setE g j (.deep true t sz' n (rows.set idx (u6 r off us0)))) (new:=y.2) hlenS;obtain ⟨hrc,hlie⟩:=hth ((S.setE g j (.deep true t sz' n (rows.set idx (u6 r off us0)))).lay grp y.2).D ι' hDg (fun q c hq=>by rw [hι',d93];exact a2q hq) hndm;have hvb:∀(q:Nat) (e:n9),y.2[q]?=some e->bs[q]?=some (ι' grp q):=by
   intro q e hq;have hlt:q<bs.length:=by rw [hbsl];exact (d83.1 hq).1
   have hv:ι' grp q=bs[q]:=by rw [hι'];exact a2q (d8Z hlt)
   rw [hv];exact d8Z hlt
  have hmB:∀k∈fm,EB w (.deep o t sz' n rows) (ι g j) k:=fun k hk=>(EB.deep_iff hor hkl).2 (by simp [hk])
  have k1:=kl0 (D':=S.D) (ι':=ι) (fun _ x=>x) (fun _ _ _=>rfl) hus0l (hus0▸km.holes hc2);have rel2:=rel1.lay hlenS hnD (new:=y.2) (ι':=ι') hne (fun q e he=>hlie q e _ he (hvb q e he))
   (fun q e k he hl hk=>h.sep _ _ _ k ‹S.ent g j=some (.deep o t sz' n rows)› rfl (hmB k (hhas.mem he (hvb q e he) hk)))
   (fun q e q' e' k he he' hl hl' hk hk'=>hhas.inj hndm he (hvb q e he) hk he' (hvb q' e' he') hk')
   (fun q e g' j' e' k he0 he' hl hl' hk hk'=>by
    have hkm:=hhas.mem he0 (hvb q e he0) hk;rw [K0 he] at he';split at he'
    ·rename_i qq;obtain ⟨rfl,rfl⟩:=qq;injection he' with he';subst he';exact hdm k hkm (by simpa using (EB.deep_iff hor k1).1 hk')
    ·rename_i qq;exact qq (h.inj _ _ _ _ _ _ k he' he hl' rfl hk' (hmB k hkm)))
  have he2:((S.setE g j (.deep true t sz' n (rows.set idx (u6 r off us0)))).lay grp y.2).ent g j=some (.deep true t sz' n (rows.set idx (u6 r off us0))):=by rw [a4s hgg];exact he1
  obtain ⟨c,hrd',hvc⟩:=a3x hrc hrv;refine ⟨_,c,w,F,ι',a3H ho htf (by rw [hc,hk]) hseg hrd',.inl rfl,?_⟩;have hput:=rel2.put ob.dst hvc;rw [hus0] at hput;exact hput
theorem o8.shut(h:o8 Γ F ι S a w){g j t sz n:Nat}{o:Bool}{rows:List (List V)}(he:S.ent g j=some (.deep o t sz n rows))(hn:L2 rows):o8 Γ F ι (S.setE g j (.deep false t sz n rows)) a w:=by
 refine h.write he rfl ⟨rfl,rfl,rfl⟩ rfl (fun _ _=>rfl) (fun _ => ?_) (fun k hk=>hk);obtain ⟨flat,fs,q1,q2,q3,q4,q5,q6⟩:=h.ents g j _ he;exact ⟨flat,fs,q1,q2.mono (fun _ _ _=>rfl) (fun _ x=>x) (fun k x=>L5.2 x) (fun _ _ _=>rfl) (fun _ _=>rfl),q3,q4,q5,fun _=>hn⟩
theorem b7w{g j:Nat}:∀{us:List H9} {S:St} {e:n9},S.ent g j=some e->∃e',(S.upds us).ent g j=some e'
 | [],_,e,h=>⟨e,h⟩
 | ((g',j'),e')::us,S,e,h=>by
  cases hx:S.ent g' j' with
  | none=>
   have:(S.setE g' j' e').ent g j=some e:=by
    by_cases q:g=g'/\j=j'
    ·rw [q.1,q.2,hx] at h;cases h
    ·rw [a3G q];exact h
   exact b7w (us:=us) (S:=S.setE g' j' e') this
  | some e0=>
   have:∃e1,(S.setE g' j' e').ent g j=some e1:=by
    rw [K0 hx];split
    ·exact ⟨_,rfl⟩
    ·exact ⟨e,h⟩
   obtain ⟨e1,h1⟩:=this;exact b7w (us:=us) (S:=S.setE g' j' e') h1
def a8X(cx:Cx)(ty:Nat)(x y:V)(r:List V)(ck om:List (Option Nat)):i9 w6:=
 i9.bind (a6T cx ty x y r ck om) fun o=>match o.new,o.upd.reverse with
  | none,((g,j),.deep b t sz n rows)::us=>i9.bind (i9.rd g j) fun _=>i9.pure {v:=o.v,upd:=o.upd++[((g,j),.deep false t sz n rows)],obl:=L2 rows::o.obl}
  | _,_=>i9.no
theorem d6U{S:St}{g j:Nat}{e:n9}{t:List V}:({S with t:=t}:St).setE g j e={S.setE g j e with t:=t}:=by
 unfold St.setE;cases S.h[g]? with
 | none=>rfl
 | some o=>cases o<;>rfl
theorem c7W(h:o8 Γ F ι S a w){grp:Nat}{ob:Oper}{ty:Nat}{x y:Operand}{r:List V}{ck om:List (Option Nat)}(ho:ob.op=.store ty x y)(hd:ob.dst=none){out:w6}{lg:List (Nat×Nat)}(hp:a8X cx ty (n5 S.t x) (n5 S.t y) r ck om S.ent=some (out,lg))(hob:∀p∈out.obl,p):N9 cx.P Γ ι S grp ob out a w:=by
 unfold a8X at hp;obtain ⟨o,l1,l2,hd1,hp',_⟩:=i9.bind_some hp;clear hp;simp only at hp';cases hnew:o.new with
 | some _=>rw [hnew] at hp';cases hp'
 | none=>
 rw [hnew] at hp';cases hrev:o.upd.reverse with
 | nil=>rw [hrev] at hp';cases hp'
 | cons u us=>
 rw [hrev] at hp';obtain ⟨⟨g,j⟩,e⟩:=u;cases e<;>try (cases hp';done)
 rename_i b t sz n rows;simp only at hp';obtain ⟨e0,l3,l4,hrd,hp'',_⟩:=i9.bind_some hp';have he0:=(i9.rd_some hrd).1;simp only at he0;have:=i9.pure_some hp'';injection this with h2 h3;subst h2;have hnr:L2 rows:=hob _ (by simp);obtain ⟨nx,c,w',F',ι',hrun,hnx,hrel⟩:=c5g h (grp:=grp) ho hd hd1 (fun p hp=>hob p (by simp [hp]));refine ⟨nx,c,w',F',ι',hrun,hnx,?_⟩;have hu:o.upd=us.reverse++[((g,j),.deep b t sz n rows)]:=by
  have:=congrArg List.reverse hrev;simpa using this
 have happ:S.apply grp ob.dst o={S.upds o.upd with t:=M6 S.t ob.dst o.v}:=by
  unfold St.apply;rw [hnew];simp only [St.upds_t]
 rw [happ] at hrel;have hent:({S.upds o.upd with t:=M6 S.t ob.dst o.v}:St).ent g j=some (.deep b t sz n rows):=by
  show (S.upds o.upd).ent g j=_
  rw [hu,St.upds_append];obtain ⟨e1,he1⟩:=b7w (us:=us.reverse) he0;show ((S.upds us.reverse).setE g j _).ent g j=_
  rw [K0 he1];simp
 have hs:=hrel.shut hent hnr;rw [d6U] at hs;unfold St.apply;simp only [St.upds_append,St.upds_t];exact hs
def a83(cx:Cx)(grp ty len:Nat)(parts:List (Nat×V))(ck om:List (Option Nat)):i9 w6:=
 match cx.T ty with
 | some ti=>match ti.sl with
  | some e=>match cx.T e with
   | some ei=>match parts with
    | [(0,x)]=>match x.cells with
     | some cs=>i9.bind (Y6 ck om cs) fun f=>
      if len=1/\cs.length=ei.size/\ei.zero.length=ei.size/\0<ei.size/\ei.size<=16777216/\a1p f.ks=true/\f.ls.isEmpty=true then
       i9.pure {v:=.own grp 0 ei.size 0 1,new:=some [.deep false e ei.size 1 [f.v]],upd:=B7 f.ks,obl:=f.obl}
      else i9.no
     | none=>i9.no
    | []=>
     if len=0/\ei.zero.length=ei.size/\0<ei.size/\ei.size<=16777216 then
      i9.pure {v:=.own grp 0 ei.size 0 0,new:=some [.deep false e ei.size 0 []]}
     else i9.no
    | _=>i9.no
   | none=>i9.no
  | none=>i9.no
 | none=>i9.no
theorem d6t{u:Value}{ds:Array Value}{sz:Nat}(hu:u.cells.size=sz)(hd:ds.size=sz):∃es:Array Value,Instr.fill (fun i=>some (i*sz,sz)) ds [(0,u)]=some es/\es.toList=u.cells.toList:=by
 have hout:=b6L u.cells.toList 0 (0*sz) ds (by simp only [Array.length_toList];omega);refine ⟨u.cells.toList.zipIdx.foldl (fun (cs:Array Value) (x:Value×Nat)=>cs.setIfInBounds (0*sz+x.2) x.1) ds,?_,?_⟩
 ·have hcond':(u.cells.size≠sz||0*sz+u.cells.size>ds.size)=false:=by
   simp [hu];omega
  simp only [Instr.fill,hcond'];simp only [d94,if_false];congr 1
  rw [<-Array.foldl_toList,Array.toList_zipIdx]
 ·rw [hout,Nat.zero_mul,e0B,c0f];simp only [Array.length_toList];omega
theorem d42(h:o8 Γ F ι S a w){grp:Nat}(hg:grp<S.h.length)(hn:¬S.D grp){ob:Oper}{ty len:Nat}{parts:Array (Nat×Operand)}{ck om:List (Option Nat)}(ho:ob.op=.buildSlice ty len parts){out:w6}{lg:List (Nat×Nat)}(hp:a83 cx grp ty len (parts.toList.map fun (i,x)=>(i,n5 S.t x)) ck om S.ent=some (out,lg))(hob:∀p∈out.obl,p):N9 cx.P Γ ι S grp ob out a w:=by
 unfold a83 at hp;cases hti:cx.T ty with
 | none=>rw [hti] at hp;cases hp
 | some ti=>
 rw [hti] at hp;simp only at hp;cases hsl:ti.sl with
 | none=>rw [hsl] at hp;cases hp
 | some e=>
 rw [hsl] at hp;simp only at hp;cases hei:cx.T e with
 | none=>rw [hei] at hp;cases hp
 | some ei=>
 rw [hei] at hp;simp only at hp;have hrel:=b5X h.tmps parts.toList;generalize hpl:(parts.toList.map fun (i,x)=>(i,n5 S.t x))=pl at hp hrel;generalize hql:(parts.toList.map fun (i,x)=>(i,a.eval x))=ql at hrel;cases hrel with
 | nil=>
  simp only at hp;split at hp<;>try (cases hp;done)
  rename_i hcond;obtain ⟨rfl,hc2,hc3,hc4⟩:=hcond;have:=i9.pure_some hp;injection this with h3 h4;subst h3;obtain ⟨ti',d,z,htf⟩:=cx.tf hti;obtain ⟨ti2,d',z',hef⟩:=cx.tf hei;obtain rfl:=htf.isSl hsl;have hmd:(madeCells z'.cells (0*ei.size)) = #[]:=by simp [madeCells]
  have hrun:(execOp a.eval ob).run cx.P w=.ok (.value (.slice (some ⟨w.heap.size,0,none⟩) 0 0)) (w.alloc (.cells #[] e)):=by
   have:=b6t (w:=w) (len:=0) htf rfl hef (by omega) (qs:=parts.map fun (i,x)=>(i,a.eval x)) (es := #[]) (by rw [Array.toList_map,hql,hmd];rfl);simp [execOp,ho,this]
  have hgr:=a2l w (.cells #[] e);have hown:(w.alloc (.cells #[] e)).ownsRow 0 e ei.size (.slice (some ⟨w.heap.size,0,none⟩) 0 0) 0 []:=
   ⟨by simp,.inr ⟨w.heap.size,0,#[],rfl,e0s _,a5P w _,d9B _,by simp,by simp,by simp⟩⟩
  obtain ⟨r1,r2⟩:=h.layDeep hg hn hgr (fun k q=>by cases q) (rows:=[]) (sv:=.slice (some ⟨w.heap.size,0,none⟩) 0 0) hown (show BL w F [].flatten [] [] from .nil) rfl (by simp) (by intro k hk;simp [w9] at hk;exact .inr (by omega)) (by simp) .nil;exact ⟨_,_,_,F,G3 ι grp (.slice (some ⟨w.heap.size,0,none⟩) 0 0),hrun,.inl rfl,r1.put ob.dst (.cell r2)⟩
 | @cons p q pl ql hpq ht=>
 obtain ⟨i,x⟩:=p;obtain ⟨i',u⟩:=q;obtain ⟨hii,hxu⟩:=hpq;simp only at hii hxu;subst hii;cases ht with
 | cons _ _=>cases i<;>cases hp
 | nil=>
 cases i with
 | succ i=>cases hp
 | zero=>
 simp only at hp;cases hcs:x.cells with
 | none=>rw [hcs] at hp;cases hp
 | some cs=>
 rw [hcs] at hp;obtain ⟨f,l1,l2,hf,hp',_⟩:=i9.bind_some hp;clear hp;split at hp'<;>try (cases hp';done)
 rename_i hcond;obtain ⟨rfl,hc1,hc2,hc3,hc4,hc5,hc6⟩:=hcond;have:=i9.pure_some hp';injection this with h3 h4;subst h3;obtain ⟨ti',d,z,htf⟩:=cx.tf hti;obtain ⟨ti2,d',z',hef⟩:=cx.tf hei;obtain rfl:=htf.isSl hsl;have hrc:=hxu.cells hcs;obtain ⟨fp,hbl,hfps,hh⟩:=a9P (F1:=F) h (fun _ x=>x) hrc hf hob (by rw [List.isEmpty_iff.1 hc6];intro id hid;cases hid);have hul:u.cells.size=ei.size:=by rw [<-hc1,hrc.length];simp
 have hzs:z'.cells.size=ei.size:=by rw [<-hc2,<-hef.zeros];simp
 have hmd:(madeCells z'.cells (1*ei.size)).size=ei.size:=by simp [madeCells]
 obtain ⟨es,hfill,hes⟩:=d6t (u:=u) (ds:=madeCells z'.cells (1*ei.size)) hul hmd;have hel:es.size=1*ei.size:=by
  have:=congrArg List.length hes;simp only [Array.length_toList] at this;omega
 have hrun:(execOp a.eval ob).run cx.P w=.ok (.value (.slice (some ⟨w.heap.size,0,none⟩) 1 1)) (w.alloc (.cells es e)):=by
  have:=b6t (w:=w) (len:=1) htf rfl hef (by omega) (qs:=parts.map fun (i,x)=>(i,a.eval x)) (es:=es) (by rw [Array.toList_map,hql];exact hfill);simp [execOp,ho,this]
 have hgr:=a2l w (.cells es e);have hown:(w.alloc (.cells es e)).ownsRow 0 e ei.size (.slice (some ⟨w.heap.size,0,none⟩) 1 1) 1 u.cells.toList:=by
  refine ⟨by simp only [Array.length_toList];omega,.inr ⟨w.heap.size,1,es,rfl,e0s _,a5P w _,d9B _,by unfold maxLen;omega,hel,?_⟩⟩;rw [hes,d9w (by simp only [Array.length_toList];omega)]
 have hkl:=h.killsR (fun id hid=>(hfps.live id hid).imp fun _ x=>x.1);have hnd:=G5.nodup h hfps (a23 hc5);have hgk:grp<(S.upds (B7 f.ks)).h.length:=by rw [St.upds_len];exact hg
 have hnk:¬(S.upds (B7 f.ks)).D grp:=fun q=>hn ((T8 S grp _).1 q)
 obtain ⟨r1,r2⟩:=hkl.layDeep hgk hnk hgr (fun k q=>by cases q) (rows:=[f.v]) (sv:=.slice (some ⟨w.heap.size,0,none⟩) 1 1) hown (by simpa using hbl) rfl (by
   intro r hr;rw [d84.1 hr,hbl.len];simp only [Array.length_toList];exact hul) (by intro k hk;simp [w9] at hk;exact .inr (by omega)) (by
   intro k hk;obtain ⟨id,hid,e1,he1,hl1,hk1⟩:=hfps.mem hk;obtain ⟨x1,x2⟩:=h.sep _ _ _ k he1 hl1 hk1;refine ⟨x1,x2,?_,by simp⟩;intro g' j' e' he' hl' hk';rcases a6E _ he' with ⟨_,rfl⟩|⟨hni,he2⟩
   ·cases hl'
   ·obtain ⟨y1,y2⟩:=h.inj _ _ _ _ _ _ k he2 he1 hl' hl1 hk' hk1;exact hni (by rw [y1,y2];exact hid)) hnd
 exact ⟨_,_,_,F,G3 ι grp (.slice (some ⟨w.heap.size,0,none⟩) 1 1),hrun,.inl rfl,r1.put ob.dst (.cell r2)⟩
def a9N(cx:Cx)(grp ty:Nat)(s x:V):i9 w6:=
 match cx.T ty with
 | some ti=>match ti.sl with
  | some e=>match cx.T e with
   | some ei=>match x with
    | .own g2 j2 sz2 0 m=>i9.bind (i9.rd g2 j2) fun e2=>match e2 with
     | .deep false t2 sz2' m' rows2=>
      if t2=e/\sz2=ei.size/\sz2'=ei.size/\0<ei.size/\0<ei.bytes/\ei.zero.length=ei.size/\0<m' then
       match s with
       | .nil=>i9.pure {v:=.own grp 0 ei.size 0 m',new:=some [.deep false e ei.size m' rows2],upd:=B7 [(g2,j2)],obl:=[m=m',m'*ei.bytes<=140737488355328]}
       | .own g j sz 0 n=>i9.bind (i9.rd g j) fun e1=>match e1 with
        | .deep false t sz' n' rows=>
         if t=e/\sz=ei.size/\sz'=ei.size/\a1p [(g,j),(g2,j2)]=true then
          i9.pure {v:=.own grp 0 ei.size 0 (n'+m'),new:=some [.deep false e ei.size (n'+m') (rows++rows2)],upd:=B7 [(g,j),(g2,j2)],obl:=[n=n',(n'+m')*ei.bytes<=140737488355328,m=m']}
         else i9.no
        | _=>i9.no
       | _=>i9.no
      else i9.no
     | _=>i9.no
    | _=>i9.no
   | none=>i9.no
  | none=>i9.no
 | none=>i9.no
theorem b4d{g j sz n e sz':Nat}{c:Value}{flat:List Value}(hs:RV w F S.D ι (.own g j sz 0 n) c)(hown:w.ownsRow 0 e sz' (ι g j) n flat):c=ι g j:=by
 obtain ⟨hD,⟨b,nn,cap,hι,hlo,hb0,hb1,hc⟩|⟨hl0',_⟩⟩:=hs.inv_own;case inr=>omega
 rcases hown.2 with ⟨hv,hz⟩|⟨g0,cap0,cur,hv,_⟩
 ·rw [hι] at hv;injection hv with e1 e2 e3;subst e1;subst e2;subst e3;subst hz;rw [hc,hι];simp
 ·rw [hι] at hv;injection hv with e1 e2 e3;subst e1;subst e2;subst e3;rw [hc,hι];by_cases q:cap=0
  ·simp [q]
  ·simp [q,Addr.add]
theorem b7Y{P:Program}{ty e:Nat}{ti ei:TI}{i i':TypeInfo}{d d':TypeDesc}{z z':Value}(htf:TF P ty ti i d z)(hd:d=.slice e)(hef:TF P e ei i' d' z')(h0:0<ei.size)(hb0:0<ei.bytes)(hzl:ei.zero.length=ei.size){sv sv2:Value}{n m:Nat}{flat flat2:List Value}(hown:w.ownsRow 0 e ei.size sv n flat)(hown2:w.ownsRow 0 e ei.size sv2 m flat2)(hm:0<m)(hone:∀u∈flat2,u.oneCell'=true)(hb:(n+m)*ei.bytes<=140737488355328)(rt:Nat) :
  ∃v' w',(Builtin.append_ #[ty,ty] rt #[sv,sv2]).run P w=.ok v' w'/\w'.ownsRow 0 e ei.size v' (n+m) (flat++flat2)/\w.grownBy w' sv.ownBlock/\(v'.ownBlock=sv.ownBlock\/v'.ownBlock=some w.heap.size):=by
 subst hd;have hzs:z'.cells.size=ei.size:=by rw [<-hzl,<-hef.zeros];simp
 have hm63:n+m<=maxLen:=by
  have:n+m<=140737488355328:=d9T (e0h _ hb0) hb;unfold maxLen;omega
 rcases hown2.2 with ⟨_,q⟩|⟨g2,cap2,cur2,rfl,_,hg2,hnc2,_,hcs2,ht2⟩
 ·omega
 ·have hseg:I2 w g2 0 flat2:=by
   rw [<-ht2];have:=(a3t hg2 0).take (m*ei.size);simpa using this
  obtain ⟨v',w',h1,h2,h3,_,h5⟩:=run_append_own_at (P:=P) w 0 ty rt e i' z' ei.size ei.bytes htf.und hef.info hef.zero hef.size hef.bytes hzs h0 sv n flat hown ⟨g2,0,none⟩ m cap2 flat2 hown2.1 (by
   intro j u hu;rw [a1b];exact hseg j u hu) hone hm63 hb (e0s _)
  exact ⟨v',w',h1,h2,h3,h5⟩
theorem BL.ones:∀{vs:List V} {cs:List Value} {f:List Nat},BL w F vs cs f->∀u∈cs,u.oneCell'=true
 | _,_,_,.cons v c f vs cs fs h t,u,hu=>by
  rcases d88.1 hu with rfl|hu
  ·exact h.one
  ·exact BL.ones t u hu
theorem BL.app:∀{vs vs':List V} {cs cs':List Value} {f f':List Nat},BL w F vs cs f->BL w F vs' cs' f'->BL w F (vs++vs') (cs++cs') (f++f')
 | _,_,_,_,_,_,.nil,k=>k
 | _,_,_,_,_,_,.cons v c f vs cs fs h t,k=>by
  rw [d9k];exact .cons v c f _ _ _ h (BL.app t k)
theorem c65(h:o8 Γ F ι S a w){grp:Nat}(hg:grp<S.h.length)(hn:¬S.D grp){ob:Oper}{ty:Nat}{s x:Operand}(ho:ob.op=.call {callee:=.builtin .append,args := #[s,x],argTypes := #[ty,ty]}){out:w6}{lg:List (Nat×Nat)}(hp:a9N cx grp ty (n5 S.t s) (n5 S.t x) S.ent=some (out,lg))(hob:∀p∈out.obl,p):N9 cx.P Γ ι S grp ob out a w:=by
 have hs:=A3 h.tmps s;have hx:=A3 h.tmps x;unfold a9N at hp;cases hti:cx.T ty with
 | none=>rw [hti] at hp;cases hp
 | some ti=>
 rw [hti] at hp;simp only at hp;cases hsl:ti.sl with
 | none=>rw [hsl] at hp;cases hp
 | some e=>
 rw [hsl] at hp;simp only at hp;cases hei:cx.T e with
 | none=>rw [hei] at hp;cases hp
 | some ei=>
 rw [hei] at hp;simp only at hp;obtain ⟨i,d,z,htf⟩:=cx.tf hti;obtain ⟨i',d',z',hef⟩:=cx.tf hei;have hd:=htf.isSl hsl;generalize n5 S.t s=sv at hp hs;generalize n5 S.t x=xv at hp hx;cases xv<;>try (cases hp;done)
 rename_i g2 j2 sz2 lo2 m;cases lo2 with
 | succ q=>cases hp
 | zero=>
 simp only at hp;obtain ⟨e2,l1,l2,hrd2,hp',_⟩:=i9.bind_some hp;clear hp;have he2:=(i9.rd_some hrd2).1;simp only at he2;cases e2<;>try (cases hp';done)
 rename_i o2 t2 sz2' m' rows2;cases o2 with
 | true=>cases hp'
 | false=>
 simp only at hp';split at hp'<;>try (cases hp';done)
 rename_i hcond;obtain ⟨rfl,rfl,rfl,hc3,hc4,hc5,hc6⟩:=hcond;obtain ⟨flat2,fs2,hown2,hkl2,hlen2,hl2,hnd2,hnr2⟩:=h.ents g2 j2 _ he2;have hbl2:=hkl2.toBL (hnr2 rfl).flatB;have hin2:∀k∈A5 (ι g2 j2)++fs2,EB w (.deep false t2 ei.size m' rows2) (ι g2 j2) k:=fun k hk=>(EB.deep_iff hown2 hkl2).2 hk
 cases sv<;>try (cases hp';done)
 case nil=>
  have:=i9.pure_some hp';injection this with h3 h4;subst h3;obtain hcs:=hs.inv_nil;have hmm:m=m':=hob _ (by simp);subst hmm;have hb:m*ei.bytes<=140737488355328:=hob _ (by simp);obtain ⟨v',w',hr,hown,hgr,hat⟩:=b7Y htf hd hef hc3 hc4 hc5 (World.ownsRow_nil w 0 t2 ei.size) hown2 hc6 hbl2.ones (by simpa using hb) ob.type;have hxc:=b4d hx hown2;have hrun:(execOp a.eval ob).run cx.P w=.ok (.value v') w':=by
   simp [execOp,ho,resolve,invoke,builtin,hcs,hxc,hr]
  have hkl:=h.killsR (ks:=[(g2,j2)]) (fun id hid=>by rw [d84.1 hid];exact ⟨_,he2⟩);have hgk:grp<(S.upds (B7 [(g2,j2)])).h.length:=by rw [St.upds_len];exact hg
  have hnk:¬(S.upds (B7 [(g2,j2)])).D grp:=fun q=>hn ((T8 S grp _).1 q)
  simp only [d93,d9U] at hown;obtain ⟨r1,r2⟩:=hkl.layDeep hgk hnk hgr (fun k q=>by cases q) hown hbl2 hlen2 hl2 (by
   intro k hk;rw [<-a6d hown] at hk;rcases hat with q|q
   ·rw [q] at hk;cases hk
   ·rw [q] at hk;injection hk with hk;exact .inr (by omega)) (by
   intro k hk;have hk1:=hin2 k (d80.2 (.inr hk));obtain ⟨x1,x2⟩:=h.sep _ _ _ k he2 rfl hk1;refine ⟨x1,x2,?_,by intro q;cases q⟩;intro g' j' e' he' hl' hk';rcases a6E _ he' with ⟨_,rfl⟩|⟨hni,he3⟩
   ·cases hl'
   ·obtain ⟨y1,y2⟩:=h.inj _ _ _ _ _ _ k he3 he2 hl' rfl hk' hk1;exact hni (by rw [y1,y2];simp)) (d89.1 hnd2).2.1
  exact ⟨_,_,_,F,G3 ι grp v',hrun,.inl rfl,r1.put ob.dst (.cell r2)⟩
 case own g j sz lo n=>
  cases lo with
  | succ q=>cases hp'
  | zero=>
  simp only at hp';obtain ⟨e1,l3,l4,hrd1,hp'',_⟩:=i9.bind_some hp';clear hp';have he1:=(i9.rd_some hrd1).1;simp only at he1;cases e1<;>try (cases hp'';done)
  rename_i o1 t1 sz1 n' rows;cases o1 with
  | true=>cases hp''
  | false=>
  simp only at hp'';split at hp''<;>try (cases hp'';done)
  rename_i hcond;obtain ⟨rfl,rfl,rfl,hnod⟩:=hcond;have:=i9.pure_some hp'';injection this with h3 h4;subst h3;have hnn:n=n':=hob _ (by simp);subst hnn;have hb:(n+m')*ei.bytes<=140737488355328:=hob _ (by simp);have hmm:m=m':=hob _ (by simp);subst hmm;obtain ⟨flat1,fs1,hown1,hkl1,hlen1,hl1,hnd1,hnr1⟩:=h.ents g j _ he1;have hbl1:=hkl1.toBL (hnr1 rfl).flatB;have hin1:∀k∈A5 (ι g j)++fs1,EB w (.deep false t1 ei.size n rows) (ι g j) k:=fun k hk=>(EB.deep_iff hown1 hkl1).2 hk
  have hne:¬(g=g2/\j=j2):=by
   have:=a23 hnod;rw [d97] at this;intro q;exact this.1 (by rw [q.1,q.2];simp)
  obtain ⟨v',w',hr,hown,hgr,hat⟩:=b7Y htf hd hef hc3 hc4 hc5 hown1 hown2 hc6 hbl2.ones hb ob.type;have hxc:=b4d hx hown2;have hsc:=b4d hs hown1;have hrun:(execOp a.eval ob).run cx.P w=.ok (.value v') w':=by
   simp [execOp,ho,resolve,invoke,builtin,hsc,hxc,hr]
  have hkl:=h.killsR (ks:=[(g,j),(g2,j2)]) (fun id hid=>by
   rcases d88.1 hid with rfl|hid
   ·exact ⟨_,he1⟩
   ·rw [d84.1 hid];exact ⟨_,he2⟩)
  have hgk:grp<(S.upds (B7 [(g,j),(g2,j2)])).h.length:=by rw [St.upds_len];exact hg
  have hnk:¬(S.upds (B7 [(g,j),(g2,j2)])).D grp:=fun q=>hn ((T8 S grp _).1 q)
  have hob1:∀k,(ι g j).ownBlock=some k->k∈A5 (ι g j):=fun k hk=>K8.2 (by rw [<-a6d hown1];exact hk)
  have free1:∀k∈A5 (ι g j)++fs1,∀g' j' e',(S.upds (B7 [(g,j),(g2,j2)])).ent g' j'=some e'->e'.live=true->¬EB w e' (ι g' j') k:=by
   intro k hk g' j' e' he' hl' hk';rcases a6E _ he' with ⟨_,rfl⟩|⟨hni,he3⟩
   ·cases hl'
   ·obtain ⟨y1,y2⟩:=h.inj _ _ _ _ _ _ k he3 he1 hl' rfl hk' (hin1 k hk);exact hni (by rw [y1,y2];simp)
  have free2:∀k∈A5 (ι g2 j2)++fs2,∀g' j' e',(S.upds (B7 [(g,j),(g2,j2)])).ent g' j'=some e'->e'.live=true->¬EB w e' (ι g' j') k:=by
   intro k hk g' j' e' he' hl' hk';rcases a6E _ he' with ⟨_,rfl⟩|⟨hni,he3⟩
   ·cases hl'
   ·obtain ⟨y1,y2⟩:=h.inj _ _ _ _ _ _ k he3 he2 hl' rfl hk' (hin2 k hk);exact hni (by rw [y1,y2];simp)
  have hdis:∀k,k∈A5 (ι g j)++fs1->k∈A5 (ι g2 j2)++fs2->False:=by
   intro k q1 q2;obtain ⟨y1,y2⟩:=h.inj _ _ _ _ _ _ k he1 he2 rfl rfl (hin1 k q1) (hin2 k q2);exact hne ⟨y1,y2⟩
  obtain ⟨r1,r2⟩:=hkl.layDeep hgk hnk hgr (fun k q=>by
   have hk:k∈A5 (ι g j)++fs1:=d80.2 (.inl (hob1 k q));obtain ⟨x1,x2⟩:=h.sep _ _ _ k he1 rfl (hin1 k hk);exact ⟨x1,x2,free1 k hk⟩) (rows:=rows++rows2) hown (by rw [e0J];exact hbl1.app hbl2) (by rw [d9d,hlen1,hlen2]) (by
   intro r hr';rcases d80.1 hr' with q|q
   ·exact hl1 r q
   ·exact hl2 r q) (by
   intro k hk;rw [<-a6d hown] at hk;rcases hat with q|q
   ·rw [q] at hk;exact .inl hk
   ·rw [q] at hk;injection hk with hk;exact .inr (by omega)) (by
   intro k hk;rcases d80.1 hk with q|q
   ·have hk1:k∈A5 (ι g j)++fs1:=d80.2 (.inr q);obtain ⟨x1,x2⟩:=h.sep _ _ _ k he1 rfl (hin1 k hk1);exact ⟨x1,x2,free1 k hk1,fun z=>(d89.1 hnd1).2.2 k (hob1 k z) k q rfl⟩
   ·have hk2:k∈A5 (ι g2 j2)++fs2:=d80.2 (.inr q);obtain ⟨x1,x2⟩:=h.sep _ _ _ k he2 rfl (hin2 k hk2);exact ⟨x1,x2,free2 k hk2,fun z=>hdis k (d80.2 (.inl (hob1 k z))) hk2⟩) (by
   rw [d89];exact ⟨(d89.1 hnd1).2.1,(d89.1 hnd2).2.1,fun k q k' q' z=>by
    subst z;exact hdis k (d80.2 (.inr q)) (d80.2 (.inr q'))⟩)
  exact ⟨_,_,_,F,G3 ι grp v',hrun,.inl rfl,r1.put ob.dst (.cell r2)⟩
end
structure H1 where
 a:I1:=.none
 d:Option Bool:=none
 v:Option V:=none
 e:Option n9:=none
def b4q(d:Option Bool)(o:w6):Option w6:=
 match d with
 | some d=>match o.v with
  | .b x=>some {o with v:=.b d,obl:=(x=d)::o.obl}
  | _=>none
 | none=>some o
def b2W(v:Option V)(o:w6):Option w6:=
 match v with
 | some v=>some {o with v:=v,obl:=(o.v=v)::o.obl}
 | none=>some o
def a8V(e:n9):List ((Nat×Nat)×n9)->Option (List ((Nat×Nat)×n9)×Prop)
 | []=>none
 | [u]=>some ([(u.1,e)],u.2=e)
 | u::us=>match a8V e us with
  | some (us',p)=>some (u::us',p)
  | none=>none
def b1A(e:Option n9)(o:w6):Option w6:=
 match e with
 | some e=>match o.new with
  | some [e0]=>some {o with new:=some [e],obl:=(e0=e)::o.obl}
  | some _=>none
  | none=>match a8V e o.upd with
   | some (us,p)=>some {o with upd:=us,obl:=p::o.obl}
   | none=>none
 | none=>some o
def b4a(T:H1)(o:w6):Option w6:=
 match b1A T.e o with
 | some o1=>match b2W T.v o1 with
  | some o2=>b4q T.d o2
  | none=>none
 | none=>none
def opM(cx:Cx)(grp:Nat)(ob:Oper)(t:List V)(A:I1):i9 w6:=
 match ob.op with
 | .alloc e=>i9.lift (b5g cx grp e)
 | .box e x=>i9.lift (b5k cx grp e (n5 t x))
 | .buildSlice ty len parts=>match A with
  | .dck ck om=>a83 cx grp ty len (parts.toList.map fun (i,x)=>(i,n5 t x)) ck om
  | A=>a9D cx grp ty len (parts.toList.map fun (i,x)=>(i,n5 t x)) A
 | .makeSlice ty l c=>match A with
  | .dck ck om=>a8W cx grp ty (n5 t l) (n5 t c) ck om
  | A=>i9.lift (b7M cx grp ty (n5 t l) (n5 t c) (c9V A))
 | .load ty x=>match A with
  | .drow r=>a9n cx grp ty (n5 t x) r
  | .prow r=>a8T cx ty (n5 t x) r
  | .dtak r=>a9W cx grp ty (n5 t x) r
  | A=>a9C cx ty (n5 t x) A
 | .store ty x y=>match ob.dst with
  | none=>match A with
   | .dst r ck om=>a6T cx ty (n5 t x) (n5 t y) r ck om
   | .dsc r ck om=>a8X cx ty (n5 t x) (n5 t y) r ck om
   | A=>a8o cx ty (n5 t x) (n5 t y) A
  | some _=>i9.no
 | .makeMap ty none=>i9.lift (b57 cx grp ty)
 | .lookup ty x ix false=>a8s cx ty (n5 t x) (n5 t ix)
 | .mapUpdate ty x ix y=>match ob.dst with
  | none=>a8p cx ty (n5 t x) (n5 t ix) (n5 t y)
  | some _=>i9.no
 | .call c=>match c.callee,c.args.toList,c.argTypes.toList with
  | .builtin .append,[s,x],[ty,ty']=>if ty=ty' then (match A with
   | .dck _ _=>a9N cx grp ty (n5 t s) (n5 t x)
   | .part=>a66 true cx grp ty (n5 t s) (n5 t x)
   | _=>a66 false cx grp ty (n5 t s) (n5 t x)) else i9.no
  | .builtin .copy,[s,x],[ty,_]=>a71 cx ty (n5 t s) (n5 t x)
  | .value fop,args,_=>match n5 t fop with
   | .fn f=>a9U cx.P grp f (args.map (n5 t)) A
   | _=>i9.no
  | _,_,_=>i9.lift ((L9 cx ob.op t A).map fun q=>{v:=q.1,obl:=q.2})
 | _=>i9.lift ((L9 cx ob.op t A).map fun q=>{v:=q.1,obl:=q.2})
section
variable {cx:Cx} {Γ:I3} {F:Nat->Prop} {ι:Nat->Nat->Value} {S:St} {a:Act} {w:World}
def b7i(P:Program)(Γ:I3)(S':St)(ob:Oper)(a:Act)(w:World):Prop:=
 (∃nx c w' F' ι',(execOp a.eval ob).run P w=.ok nx w'/\(nx=.value c\/(nx=.skip/\c=undef))/\o8 Γ F' ι' S' (a.put ob.dst c) w')\/
 (∃f args,(execOp a.eval ob).run P w=.ok (.enter f args) w/\Calls P f args w fun e w' => ∃c F' ι',e=.returned c/\o8 Γ F' ι' S' (a.put ob.dst c) w')
theorem d1h(h:o8 Γ F ι S a w){grp:Nat}(hg:grp<S.h.length)(hn:¬S.D grp){ob:Oper}{A:I1}{out:w6}{lg:List (Nat×Nat)}(hp:opM cx grp ob S.t A S.ent=some (out,lg))(hob:∀p∈out.obl,p):b7i cx.P Γ (S.apply grp ob.dst out) ob a w:=by
 have pure:∀{op:Op} {out:w6} {lg},ob.op=op->i9.lift ((L9 cx op S.t A).map fun q=>({v:=q.1,obl:=q.2}:w6)) S.ent=some (out,lg)->(∀p∈out.obl,p)->b7i cx.P Γ (S.apply grp ob.dst out) ob a w:=by
  intro op out lg hop hp hob;subst hop;obtain ⟨h1,_⟩:=i9.lift_some hp;obtain ⟨q,hq,he⟩:=e0i.1 h1;simp only at he;subst he;obtain ⟨c,hr,hv⟩:=d0o h.tmps hq hob;exact .inl ⟨_,c,w,F,ι,hr,.inl rfl,by rw [a3a];exact h.put ob.dst hv⟩
 unfold opM at hp;cases ho:ob.op;case alloc e=>
  rw [ho] at hp;exact .inl (d2R h hg hn ho (i9.lift_some hp).1 hob)
 case box e x=>
  rw [ho] at hp;exact .inl (c69 h hg hn ho (i9.lift_some hp).1)
 case buildSlice ty len parts=>
  rw [ho] at hp;cases A;case dck ck om=>exact .inl (d42 h hg hn ho hp hob)
  all_goals exact .inl (c7w h hg hn ho hp hob)
 case makeSlice ty l c=>
  rw [ho] at hp;cases A;case dck ck om=>exact .inl (c7e h hg hn ho hp hob)
  all_goals exact .inl (d1I h hg hn ho (i9.lift_some hp).1 hob)
 case load ty x=>
  rw [ho] at hp;cases A;case drow r=>exact .inl (d4Q h hg hn ho hp hob)
  case prow r=>exact .inl (d6R h ho hp hob)
  case dtak r=>exact .inl (d5F h hg hn ho hp hob)
  all_goals exact .inl (c8m h ho hp hob)
 case store ty x y=>
  rw [ho] at hp;cases hd:ob.dst with
  | some d=>rw [hd] at hp;cases hp
  | none=>
   rw [hd] at hp;have:N9 cx.P Γ ι S grp ob out a w:=by
    cases A;case dst r ck om=>exact c5g h (grp:=grp) ho hd hp hob
    case dsc r ck om=>exact c7W h (grp:=grp) ho hd hp hob
    all_goals exact c9E h (grp:=grp) ho hd hp hob
   rw [<-hd];exact .inl this
 case makeMap ty r=>
  rw [ho] at hp;cases r with
  | none=>exact .inl (c92 h hg hn ho (i9.lift_some hp).1)
  | some r=>exact pure ho hp hob
 case lookup ty x ix ok=>
  rw [ho] at hp;cases ok with
  | false=>exact .inl (c8r h ho hp)
  | true=>exact pure ho hp hob
 case mapUpdate ty x ix y=>
  rw [ho] at hp;cases hd:ob.dst with
  | some d=>rw [hd] at hp;cases hp
  | none=>
   rw [hd] at hp;have:N9 cx.P Γ ι S grp ob out a w:=c64 h (grp:=grp) ho hd hp;rw [<-hd];exact .inl this
 case call c=>
  rw [ho] at hp;obtain ⟨callee,args,tys⟩:=c;simp only at hp;cases callee with
  | invoke x m=>exact pure ho hp hob
  | value fop=>
   simp only at hp;generalize hfe:n5 S.t fop=fv at hp;cases fv<;>try (cases hp;done)
   rename_i f;obtain ⟨h1,h2⟩:=c9a h hg hn ho hfe hp hob;exact .inr ⟨f,_,h1,h2⟩
  | builtin b=>
   cases b;case append=>
    generalize hargs:args.toList=al at hp;generalize htys:tys.toList=tl at hp;rcases al with _|⟨s,_|⟨x,_|⟨y,al⟩⟩⟩<;>rcases tl with _|⟨ty,_|⟨ty',_|⟨ty3,tl⟩⟩⟩<;>try exact pure ho hp hob
    have ha:args = #[s,x]:=by simpa using congrArg e0C hargs
    have hy:tys = #[ty,ty']:=by simpa using congrArg e0C htys
    subst ha;subst hy;simp only at hp;by_cases q:ty=ty'
    ·subst q;rw [if_pos rfl] at hp;cases A;case dck ck om=>exact .inl (c65 h hg hn ho hp hob)
     all_goals exact .inl (d7L (rt:=0) h hg hn ho hp hob)
    ·rw [if_neg q] at hp;cases hp
   case copy=>
    generalize hargs:args.toList=al at hp;generalize htys:tys.toList=tl at hp;rcases al with _|⟨s,_|⟨x,_|⟨y,al⟩⟩⟩<;>rcases tl with _|⟨ty,_|⟨ty',_|⟨ty3,tl⟩⟩⟩<;>try exact pure ho hp hob
    have ha:args = #[s,x]:=by simpa using congrArg e0C hargs
    have hy:tys = #[ty,ty']:=by simpa using congrArg e0C htys
    subst ha;subst hy;exact .inl (d5Q h ho hp hob)
   all_goals exact pure ho hp hob
 all_goals
  rw [ho] at hp;exact pure ho hp hob
theorem c5H{e:n9}:∀{us us':List ((Nat×Nat)×n9)} {p:Prop},a8V e us=some (us',p)->p->us'=us
 | [],_,_,h,_=>by cases h
 | [u],us',p,h,hp=>by
  unfold a8V at h;injection h with h;injection h with h1 h2;subst h1;subst h2;have:u.2=e:=hp;subst this;rfl
 | u::u2::us,us',p,h,hp=>by
  unfold a8V at h;split at h<;>try (cases h;done)
  rename_i us1 p1 h1;injection h with h;injection h with h2 h3;subst h2;subst h3;rw [c5H h1 hp]
theorem d6g{d:Option Bool}{o o':w6}(hd:b4q d o=some o')(hob:∀p∈o'.obl,p):(∀p∈o.obl,p)/\o'.new=o.new/\o'.upd=o.upd/\o'.v=o.v:=by
 unfold b4q at hd;split at hd
 ·split at hd<;>try (cases hd;done)
  rename_i d _ x hv;injection hd with hd;subst hd;have hx:x=d:=hob _ (by simp);exact ⟨fun p hp=>hob p (by simp [hp]),rfl,rfl,by simp [hv,hx]⟩
 ·injection hd with hd;subst hd;exact ⟨hob,rfl,rfl,rfl⟩
theorem d78{v:Option V}{o o':w6}(hd:b2W v o=some o')(hob:∀p∈o'.obl,p):(∀p∈o.obl,p)/\o'.new=o.new/\o'.upd=o.upd/\o'.v=o.v:=by
 unfold b2W at hd;split at hd
 ·rename_i v;injection hd with hd;subst hd;have hx:o.v=v:=hob _ (by simp);exact ⟨fun p hp=>hob p (by simp [hp]),rfl,rfl,hx.symm⟩
 ·injection hd with hd;subst hd;exact ⟨hob,rfl,rfl,rfl⟩
theorem c9n{e:Option n9}{o o':w6}(hd:b1A e o=some o')(hob:∀p∈o'.obl,p):(∀p∈o.obl,p)/\o'.new=o.new/\o'.upd=o.upd/\o'.v=o.v:=by
 unfold b1A at hd;split at hd
 ·rename_i e;split at hd
  ·rename_i e0 hn;injection hd with hd;subst hd;have hx:e0=e:=hob _ (by simp);exact ⟨fun p hp=>hob p (by simp [hp]),by rw [hn,hx],rfl,rfl⟩
  ·cases hd
  ·split at hd<;>try (cases hd;done)
   rename_i us p h1;injection hd with hd;subst hd;have hx:p:=hob _ (by simp);exact ⟨fun p hp=>hob p (by simp [hp]),rfl,c5H h1 hx,rfl⟩
 ·injection hd with hd;subst hd;exact ⟨hob,rfl,rfl,rfl⟩
theorem c7m{T:H1}{o o':w6}(hd:b4a T o=some o')(hob:∀p∈o'.obl,p):(∀p∈o.obl,p)/\o'.new=o.new/\o'.upd=o.upd/\o'.v=o.v:=by
 unfold b4a at hd;cases h1:b1A T.e o with
 | none=>rw [h1] at hd;cases hd
 | some o1=>
 rw [h1] at hd;simp only at hd;cases h2:b2W T.v o1 with
 | none=>rw [h2] at hd;cases hd
 | some o2=>
 rw [h2] at hd;obtain ⟨a1,a2,a3,a4⟩:=d6g hd hob;obtain ⟨b1,b2,b3,b4⟩:=d78 h2 a1;obtain ⟨c1,c2,c3,c4⟩:=c9n h1 b1;exact ⟨c1,a2.trans (b2.trans c2),a3.trans (b3.trans c3),a4.trans (b4.trans c4)⟩
def a6C(cx:Cx)(grp:Nat)(ob:Oper)(t:List V)(A:H1):i9 w6:=i9.bind (opM cx grp ob t A.a) fun o=>i9.lift (b4a A o)
theorem c9N{S:St}{grp:Nat}{dst:Option Nat}{o o':w6}(h1:o'.new=o.new)(h2:o'.upd=o.upd)(h3:o'.v=o.v):S.apply grp dst o'=S.apply grp dst o:=by
 unfold St.apply;rw [h1,h2,h3]
theorem d2H(h:o8 Γ F ι S a w){grp:Nat}(hg:grp<S.h.length)(hn:¬S.D grp){ob:Oper}{A:H1}{out:w6}{lg:List (Nat×Nat)}(hp:a6C cx grp ob S.t A S.ent=some (out,lg))(hob:∀p∈out.obl,p):b7i cx.P Γ (S.apply grp ob.dst out) ob a w:=by
 obtain ⟨o,l1,l2,h1,h2,_⟩:=i9.bind_some hp;obtain ⟨h3,_⟩:=i9.lift_some h2;simp only at h3;obtain ⟨h4,h5,h6,h7⟩:=c7m h3 hob;rw [c9N h5 h6 h7];exact d1h h hg hn h1 h4
def a33(ops:Array Oper)(o:Oper)(t:List V):Option Bool:=
 match o.guard with
 | none=>some true
 | some (j,want)=>match (ops[j]?).bind (·.dst) with
  | some d=>match t[d]? with
   | some (.b x)=>some (x==want)
   | some (.tup [])=>some false
   | _=>none
  | none=>none
theorem c2v{ops:Array Oper}{o:Oper}{b:Bool}{D:Nat->Prop}{t:List V}(ht:q8 (RV w F D ι) t a.tmps.toList)(h:a33 ops o t=some b):Region.wanted o (yielded ops a.tmps)=b:=by
 unfold a33 at h;unfold Region.wanted;split at h
 ·rename_i hg;rw [hg];injection h
 ·rename_i j want hg;rw [hg];simp only;cases hd:(ops[j]?).bind (·.dst) with
  | none=>rw [hd] at h;cases h
  | some d=>
   rw [hd] at h;simp only at h;split at h<;>try (cases h;done)
   rename_i x hx;injection h with h;obtain ⟨c,hc,hv⟩:=ht.get hx;obtain rfl:=hv.inv_b;have:yielded ops a.tmps j=some x:=by
    unfold yielded;simp only [hd];rw [Array.getElem?_toList] at hc;simp [hc]
   rw [this,<-h];cases x<;>cases want<;>rfl
   ·rename_i hx;injection h with h;obtain ⟨c,hc,hv⟩:=ht.get hx;have hcc:c=undef:=by
     cases hv with
     | one v c hv=>cases hv with|cell v c hv=>cases hv with|fv v c hv=>cases hv
     | tup cs ds hv=>cases hv;rfl
    subst hcc;have:yielded ops a.tmps j=none:=by
     unfold yielded;simp only [hd];rw [Array.getElem?_toList] at hc;simp [hc,undef]
    rw [this,<-h];rfl
end
structure S6 where
 rd:List (Nat×Nat)
 wr:List (Nat×Nat)
def S5(cx:Cx)(ops:Array Oper)(base:Nat)(A:Nat->H1)(i:Nat)(S:St):Option (St×List Prop×S6):=
 match ops[i]? with
 | none=>none
 | some o=>match a33 ops o S.t with
  | some true=>match a6C cx (base+i) o S.t (A i) S.ent with
   | some (out,lg)=>some (S.apply (base+i) o.dst out,out.obl,⟨lg,out.upd.map (·.1)⟩)
   | none=>none
  | some false=>some ({S with t:=M6 S.t o.dst (.tup [])},[],⟨[],[]⟩)
  | none=>none
section
variable {cx:Cx} {Γ:I3} {F:Nat->Prop} {ι:Nat->Nat->Value} {S S':St} {a:Act} {w:World} {ops:Array Oper} {base:Nat} {A:Nat->H1}
theorem d0l{grp:Nat}{dst:Option Nat}{out:w6}{g:Nat}(h:(S.apply grp dst out).D g):S.D g\/g=grp:=by
 unfold St.apply at h;simp only at h;split at h
 ·exact .inl ((T8 S g _).1 h)
 ·rename_i new hnew;by_cases q:g=grp
  ·exact .inr q
  ·left
   obtain ⟨l,hl⟩:=h;simp only [St.lay,d9h (Ne.symm q)] at hl;exact (T8 S g _).1 ⟨l,hl⟩
theorem d0d{grp:Nat}{dst:Option Nat}{out:w6}:(S.apply grp dst out).h.length=S.h.length:=by
 unfold St.apply;simp only;split
 ·exact St.upds_len S _
 ·simp [St.lay,St.upds_len]
theorem c2B{i:Nat}{ps:List Prop}{ft:S6}(h:S5 cx ops base A i S=some (S',ps,ft)):(∀g,S'.D g->S.D g\/g=base+i)/\S'.h.length=S.h.length:=by
 unfold S5 at h;split at h<;>try (cases h;done)
 split at h<;>try (cases h;done)
 ·split at h<;>try (cases h;done)
  injection h with h;injection h with h1 h2;subst h1;exact ⟨fun g x=>d0l x,d0d⟩
 ·injection h with h;injection h with h1 h2;subst h1;exact ⟨fun g x=>.inl x,rfl⟩
theorem c5j{Q:Exit->Act->World->Prop}{K:Act->World->Prop}{i:Nat}{ps:List Prop}{ft:S6}(h:o8 Γ F ι S a w)(hg:base+i<S.h.length)(hn:¬S.D (base+i))(hs:S5 cx ops base A i S=some (S',ps,ft))(hob:∀p∈ps,p)(hK:∀a' w' F' ι',o8 Γ F' ι' S' a' w'->K a' w'):wpOp cx.P ops Q i K a w:=by
 unfold S5 at hs;unfold wpOp;split at hs<;>try (cases hs;done)
 rename_i o ho;rw [ho];simp only;split at hs<;>try (cases hs;done)
 ·rename_i hw;have hwant:=c2v h.tmps hw;rw [hwant];simp only [if_true];split at hs<;>try (cases hs;done)
  rename_i out lg hop;injection hs with hs;injection hs with h1 h2;injection h2 with h2 h3;subst h1;subst h2;left
  unfold Oper.wp;rcases d2H h hg hn hop hob with ⟨nx,c,w',F',ι',hr,hnx,hrel⟩|⟨f,args,hr,hcalls⟩
  ·rw [hr];rcases hnx with rfl|⟨rfl,rfl⟩
   ·exact hK _ _ _ _ hrel
   ·exact hK _ _ _ _ hrel
  ·rw [hr];refine hcalls.mono ?_;rintro e w' ⟨c,F',ι',rfl,hrel⟩
   exact hK _ _ _ _ hrel
 ·rename_i hw;have hwant:=c2v h.tmps hw;rw [hwant];simp only [d94,if_false];injection hs with hs;injection hs with h1 h2;subst h1;exact hK _ _ _ _ (h.put o.dst (.tup [] [] .nil))
def Y0(cx:Cx)(ops:Array Oper)(base:Nat)(A:Nat->H1):List Nat->St->Option (St×List (List Prop×S6))
 | [],S=>some (S,[])
 | i::l,S=>match S5 cx ops base A i S with
  | some (S1,r)=>match Y0 cx ops base A l S1 with
   | some (S2,rs)=>some (S2,r::rs)
   | none=>none
  | none=>none
theorem a9c{i:Nat}{l:List Nat}{rs:List (List Prop×S6)}(h:Y0 cx ops base A (i::l) S=some (S',rs)):∃S1 r rs',S5 cx ops base A i S=some (S1,r)/\Y0 cx ops base A l S1=some (S',rs')/\rs=r::rs':=by
 unfold Y0 at h;split at h<;>try (cases h;done)
 rename_i S1 r h1;split at h<;>try (cases h;done)
 rename_i S2 rs' h2;injection h with h;injection h with h3 h4;subst h3;subst h4;exact ⟨S1,r,rs',h1,h2,rfl⟩
theorem c54{Q:Exit->Act->World->Prop}:∀{l:List Nat} {S:St} {F:Nat->Prop} {ι:Nat->Nat->Value} {a:Act} {w:World} {rs:List (List Prop×S6)},o8 Γ F ι S a w->l.Nodup->(∀i∈l,base+i<S.h.length/\¬S.D (base+i))->Y0 cx ops base A l S=some (S',rs)->(∀r∈rs,∀p∈r.1,p)->
  (∀a' w' F' ι',o8 Γ F' ι' S' a' w'->Q .normal a' w')->wpOps cx.P ops Q l a w
 | [],S,F,ι,a,w,rs,h,_,_,hr,_,hQ=>by
  unfold Y0 at hr;injection hr with hr;injection hr with h1 h2;subst h1;exact hQ _ _ _ _ h
 | i::l,S,F,ι,a,w,rs,h,hn,hfree,hr,hob,hQ=>by
  obtain ⟨S1,r,rs',h1,h2,rfl⟩:=a9c hr;rw [wpOps_cons];have hn':=d97.1 hn;obtain ⟨hD,hl⟩:=c2B (ps:=r.1) (ft:=r.2) h1;refine c5j h (hfree i (by simp)).1 (hfree i (by simp)).2 (ps:=r.1) (ft:=r.2) h1 (hob r (by simp)) fun a' w' F' ι' hrel => ?_
  refine c54 hrel hn'.2 (fun j hj => ?_) h2 (fun r' hr'=>hob r' (by simp [hr'])) hQ;refine ⟨by rw [hl];exact (hfree j (by simp [hj])).1,fun x => ?_⟩;rcases hD _ x with y|y
  ·exact (hfree j (by simp [hj])).2 y
  ·have:i=j:=by omega
   exact hn'.1 (this▸hj)
end
def r8{α:Type}(m:i9 α):Prop := ∀(H H':Hp) r lg,m H=some (r,lg)->(∀id∈lg,H' id.1 id.2=H id.1 id.2)->m H'=some (r,lg)
namespace r8
variable {α β:Type}
theorem pure(a:α):r8 (i9.pure a):=fun _ _ _ _ h _=>h
theorem no:r8 (i9.no:i9 α):=fun _ _ _ _ h _=>h
theorem lift(o:Option α):r8 (i9.lift o):=by
 intro H H' r lg h _;unfold i9.lift at h ⊢;exact h
theorem rd(g j:Nat):r8 (i9.rd g j):=by
 intro H H' r lg h hH;obtain ⟨h1,h2⟩:=i9.rd_some h;simp only at h1 h2;subst h2;have:=hH (g,j) (by simp);unfold i9.rd;simp only at this;rw [this,h1]
theorem bind{m:i9 α}{f:α->i9 β}(hm:r8 m)(hf:∀a,r8 (f a)):r8 (i9.bind m f):=by
 intro H H' r lg h hH;obtain ⟨a,l,l',h1,h2,h3⟩:=i9.bind_some h;simp only at h2 h3;subst h3;unfold i9.bind;rw [hm H H' a l h1 (fun id hid=>hH id (d80.2 (.inl hid)))];simp only;rw [hf a H H' r l' h2 (fun id hid=>hH id (d80.2 (.inr hid)))]
theorem ite{c:Prop}[Decidable c]{m n:i9 α}(hm:r8 m)(hn:r8 n):r8 (if c then m else n):=by
 split<;>assumption
end r8
theorem c91(ck:Option Nat)(v:V):r8 (fzP ck v):=by
 unfold fzP;cases v<;>try exact r8.no
 case own g j sz lo n=>
  refine .bind (.rd g j) fun e => ?_
  cases e<;>first|exact r8.no|exact .ite (.pure _) .no
 case nil=>cases ck<;>exact .pure _
 all_goals exact .pure _
theorem b6J:∀(vs:List V) (ck:List (Option Nat)),r8 (a8S ck vs)
 | [],ck=>by cases ck<;>exact .pure _
 | v::vs,ck=>.bind (c91 _ _) fun x=>.bind (b6J vs _) fun y=>.pure _
theorem d1w(cx:Cx)(ty:Nat)(x:V)(A:I1):r8 (a9C cx ty x A):=by
 unfold a9C;cases cx.T ty with
 | none=>exact .no
 | some ti=>
  cases x<;>try exact r8.no
  case ptr g j off=>
   refine .bind (.rd g j) fun e => ?_
   cases e<;>try exact r8.no
   case var e cs=>simp only;cases L8 ti (cs.drop off)<;>first|exact .no|exact .pure _
   case arr e sz n rows=>exact .ite (.pure _) .no
  case eptr g j sz idx off=>
   refine .bind (.rd g j) fun e => ?_
   cases A<;>try exact r8.no
   case row r=>
    simp only;cases L8 ti (r.drop off) with
    | none=>exact .no
    | some v=>cases e<;>first|exact r8.no|exact .ite (.pure _) .no
  case fptr cs=>simp only;cases L8 ti cs<;>first|exact .no|exact .pure _
theorem c7Z(cx:Cx)(ty:Nat)(x y:V)(A:I1):r8 (a8o cx ty x y A):=by
 unfold a8o;cases cx.T ty with
 | none=>exact .no
 | some ti=>
  cases y.cells with
  | none=>exact .no
  | some vs=>
   cases x<;>try exact r8.no
   case ptr g j off=>
    refine .bind (.rd g j) fun e => ?_
    cases e<;>first|exact r8.no|exact .ite (.pure _) .no
   case eptr g j sz idx off=>
    refine .bind (.rd g j) fun e => ?_
    cases A<;>try exact r8.no
    case rowck r ck=>
     refine .bind (b6J _ _) fun f => ?_
     cases e<;>first|exact r8.no|exact .ite (.pure _) .no
theorem c4I(pt:Bool)(x:V):r8 (a59 pt x):=by
 unfold a59;cases x<;>try first|exact r8.no|exact r8.pure _
 case own g j sz lo n=>
  refine .bind (.rd g j) fun e => ?_
  cases e<;>first|exact r8.no|exact .ite (.pure _) .no
theorem d1R(pt:Bool)(cx:Cx)(grp ty:Nat)(s x:V):r8 (a66 pt cx grp ty s x):=by
 unfold a66;cases cx.T ty with
 | none=>exact .no
 | some ti=>
  simp only;cases ti.sl with
  | none=>exact .no
  | some e=>
   simp only;cases cx.T e with
   | none=>exact .no
   | some ei=>
    refine .bind (c4I _ x) fun q=>.ite ?_ .no
    cases s<;>try first|exact r8.no|exact r8.pure _
    case own g j sz lo n=>
     cases lo with
     | succ k=>exact .no
     | zero=>
      refine .bind (.rd g j) fun e => ?_
      cases e<;>first|exact r8.no|exact .ite (.pure _) .no
theorem d8A(cx:Cx)(ty:Nat)(s x:V):r8 (a71 cx ty s x):=by
 unfold a71;cases cx.T ty with
 | none=>exact .no
 | some ti=>
  simp only;cases ti.sl with
  | none=>exact .no
  | some e=>
   simp only;cases cx.T e with
   | none=>exact .no
   | some ei=>
    refine .bind (c4I _ x) fun q => ?_
    cases s<;>try exact r8.no
    case own g j sz lo n=>
     cases lo with
     | succ k=>exact .no
     | zero=>
      refine .bind (.rd g j) fun e => ?_
      cases e<;>first|exact r8.no|exact .ite (.pure _) .no
theorem c3X(ck:List (Option Nat)):∀ps:List (Nat×V),r8 (a53 ck ps)
 | []=>.pure _
 | (i,v)::ps=>by
  unfold a53;cases v.cells with
  | none=>exact .no
  | some cs=>exact .bind (b6J _ _) fun x=>.bind (c3X ck ps) fun y=>.pure _
theorem c6L(cx:Cx)(grp ty len:Nat)(parts:List (Nat×V))(A:I1):r8 (a9D cx grp ty len parts A):=by
 unfold a9D;cases cx.T ty with
 | none=>exact .no
 | some ti=>
  simp only;cases ti.sl with
  | none=>exact .no
  | some e=>
   simp only;cases cx.T e with
   | none=>exact .no
   | some ei=>
    cases A<;>try exact r8.no
    case ck ck=>
     refine .bind (c3X _ _) fun q => ?_
     cases a3n ei.size (d81 len ei.zero) q.1 with
     | none=>exact .no
     | some rows=>exact .ite (.pure _) .no
theorem c0t(ck om:Option Nat)(v:V):r8 (M3 ck om v):=by
 unfold M3;cases om with
 | some e=>
  refine .ite (.pure _) ?_;cases v<;>try first|exact r8.no|exact r8.pure _
  case own g j sz lo n=>
   cases lo with
   | succ k=>exact .no
   | zero=>
    refine .bind (.rd g j) fun e => ?_
    cases e<;>first|exact r8.no|exact .ite (.pure _) .no|(rename_i o _ _ _ _;cases o<;>first|exact r8.no|exact .ite (.pure _) .no)
 | none=>
  cases v<;>try first|exact r8.no|exact r8.pure _
  case own g j sz lo n=>
   refine .bind (.rd g j) fun e => ?_
   cases e<;>first|exact r8.no|exact .ite (.pure _) .no|(rename_i o _ _ _ _;cases o<;>first|exact r8.no|exact .ite (.pure _) .no)
  case nil=>cases ck<;>exact .pure _
theorem a7f:∀(vs:List V) (ck om:List (Option Nat)),r8 (Y6 ck om vs)
 | [],ck,om=>by cases ck<;>cases om<;>exact .pure _
 | v::vs,ck,om=>.bind (c0t _ _ _) fun x=>.bind (a7f vs _ _) fun y=>.pure _
theorem d7u(m:PM)(v:V):r8 (X7 m v):=by
 unfold X7;cases m with
 | val ck om=>
  cases v<;>try first|exact r8.no|exact c0t _ _ _
  case agg cs=>exact .bind (a7f _ _ _) fun x=>.pure _
 | ptr ck om=>
  cases v<;>try exact r8.no
  case ptr g j off=>
   cases off with
   | succ k=>exact .no
   | zero=>
    refine .bind (.rd g j) fun e => ?_
    cases e<;>try exact r8.no
    case var e cs=>exact .bind (a7f _ _ _) fun x=>.pure _
 | row=>
  cases v<;>try exact r8.no
  case own g j sz lo n=>
   cases lo with
   | succ k=>exact .no
   | zero=>
    refine .bind (.rd g j) fun e => ?_
    cases e<;>first|exact r8.no|exact .ite (.pure _) .no|(rename_i o _ _ _ _;cases o<;>first|exact r8.no|exact .ite (.pure _) .no)
 | part=>
  cases v<;>try exact r8.no
  case own g j sz lo n=>
   refine .bind (.rd g j) fun e => ?_
   cases e<;>first|exact r8.no|exact .ite (.pure _) .no|(rename_i o _ _ _ _;cases o<;>first|exact r8.no|exact .ite (.pure _) .no)
theorem c5q:∀(vs:List V) (ms:List PM),r8 (a0m ms vs)
 | [],ms=>by cases ms<;>exact .pure _
 | v::vs,[]=>.no
 | v::vs,m::ms=>.bind (d7u m v) fun x=>.bind (c5q vs ms) fun y=>.pure _
theorem b4J:∀ids:List (Nat×Nat),r8 (a24 ids)
 | []=>.pure _
 | (g,j)::ids=>by
  unfold a24;refine .bind (.rd g j) fun e => ?_
  cases e<;>try exact r8.no
  case row t sz n rows=>exact .bind (b4J ids) fun us=>.pure _
  case deep o t sz n rows=>
   cases o
   ·exact .bind (b4J ids) fun us=>.pure _
   ·exact .no
theorem c32(grp:Nat)(args:List V)(ms:List PM)(fr:Bool)(res:V)(outs:List (Option V))(p:List V->Prop):r8 (a44 grp args ms fr res outs p):=by
 unfold a44;refine .bind (c5q _ _) fun r=>.bind (b4J _) fun fz => ?_
 simp only;cases L4 grp (D2 grp 0 res).2.length ms args outs with
 | none=>exact .no
 | some ue=>exact .ite (.pure _) .no
theorem c9M(P:Program)(grp f:Nat)(args:List V)(A:I1):r8 (a9U P grp f args A):=by
 unfold a9U;cases A<;>try exact r8.no
 case call ms fr res outs=>exact c32 _ _ _ _ _ _ _
 case callr k q ms fr res outs=>
  simp only;split
  ·split
   ·exact .bind (c32 _ _ _ _ _ _ _) fun o=>.pure _
   ·exact .no
  ·exact .no
theorem c6b(cx:Cx)(ty:Nat)(x y:V)(r:List V)(ck om:List (Option Nat)):r8 (a6T cx ty x y r ck om):=by
 unfold a6T;cases cx.T ty with
 | none=>exact .no
 | some ti=>
  cases y.cells with
  | none=>exact .no
  | some vs=>
   cases x<;>try exact r8.no
   case eptr g j sz idx off=>
    refine .bind (.rd g j) fun e=>.bind (a7f _ _ _) fun f => ?_
    cases e<;>try exact r8.no
    exact .ite (.pure _) .no
theorem d8r(cx:Cx)(grp ty:Nat)(x:V)(r:List V):r8 (a9n cx grp ty x r):=by
 unfold a9n;cases cx.T ty with
 | none=>exact .no
 | some ti=>
  cases x<;>try exact r8.no
  case eptr g j sz idx off=>
   refine .bind (.rd g j) fun e => ?_
   cases e<;>try exact r8.no
   simp only;refine .ite ?_ .no;cases L8 ti (G0 grp 0 ((r.drop off).take (if ti.agg=true then ti.size else 1))).1 with
   | none=>exact .no
   | some v=>exact .pure _
theorem d0O(cx:Cx)(grp ty:Nat)(x:V)(r:List V):r8 (a9W cx grp ty x r):=by
 unfold a9W;cases cx.T ty with
 | none=>exact .no
 | some ti=>
  cases x<;>try exact r8.no
  case eptr g j sz idx off=>
   refine .bind (.rd g j) fun e => ?_
   cases e<;>try exact r8.no
   simp only;refine .ite ?_ .no;cases L8 ti (G0 grp 0 ((r.drop off).take (if ti.agg=true then ti.size else 1))).1 with
   | none=>exact .no
   | some v=>exact .pure _
theorem d4q(cx:Cx)(ty:Nat)(x y:V)(r:List V)(ck om:List (Option Nat)):r8 (a8X cx ty x y r ck om):=by
 unfold a8X;refine .bind (c6b _ _ _ _ _ _ _) fun o => ?_
 split
 ·exact .bind (.rd _ _) fun _=>.pure _
 ·exact .no
theorem d7M(cx:Cx)(ty:Nat)(x:V)(r:List V):r8 (a8T cx ty x r):=by
 unfold a8T;cases cx.T ty with
 | none=>exact .no
 | some ti=>
  cases x<;>try exact r8.no
  case eptr g j sz idx off=>
   refine .bind (.rd g j) fun e => ?_
   cases e<;>try exact r8.no
   simp only;refine .ite ?_ .no;cases L8 ti ((r.drop off).take (if ti.agg=true then ti.size else 1)) with
   | none=>exact .no
   | some v=>exact .pure _
theorem d7R(cx:Cx)(grp ty:Nat)(l c:V)(ck om:List (Option Nat)):r8 (a8W cx grp ty l c ck om):=by
 unfold a8W;cases cx.T ty with
 | none=>exact .no
 | some ti=>
  simp only;cases ti.sl with
  | none=>exact .no
  | some e=>
   simp only;cases cx.T e with
   | none=>exact .no
   | some ei=>
    cases l<;>try exact r8.no
    cases c<;>try exact r8.no
    exact .bind (a7f _ _ _) fun f=>.ite (.pure _) .no
theorem c9I(cx:Cx)(grp ty len:Nat)(parts:List (Nat×V))(ck om:List (Option Nat)):r8 (a83 cx grp ty len parts ck om):=by
 unfold a83;cases cx.T ty with
 | none=>exact .no
 | some ti=>
  simp only;cases ti.sl with
  | none=>exact .no
  | some e=>
   simp only;cases cx.T e with
   | none=>exact .no
   | some ei=>
    simp only;split
    ·split
     ·exact .bind (a7f _ _ _) fun f=>.ite (.pure _) .no
     ·exact .no
    ·exact .ite (.pure _) .no
    ·exact .no
theorem d6N(cx:Cx)(grp ty:Nat)(s x:V):r8 (a9N cx grp ty s x):=by
 unfold a9N;cases cx.T ty with
 | none=>exact .no
 | some ti=>
  simp only;cases ti.sl with
  | none=>exact .no
  | some e=>
   simp only;cases cx.T e with
   | none=>exact .no
   | some ei=>
    simp only;split
    ·refine .bind (.rd _ _) fun e2 => ?_
     split
     ·refine .ite ?_ .no;split
      ·exact .pure _
      ·refine .bind (.rd _ _) fun e1 => ?_
       split
       ·exact .ite (.pure _) .no
       ·exact .no
      ·exact .no
     ·exact .no
    ·exact .no
theorem d7T(cx:Cx)(ty:Nat)(x ix:V):r8 (a8s cx ty x ix):=by
 unfold a8s;cases cx.M ty with
 | none=>exact .no
 | some q=>
  obtain ⟨kt,m,z⟩:=q;cases x<;>try exact r8.no
  cases ix<;>try exact r8.no
  rename_i g j ks;simp only;cases a0v ks with
  | none=>exact .no
  | some xs=>
   refine .bind (.rd g j) fun e => ?_
   cases e<;>try exact r8.no
   exact .ite (.pure _) .no
theorem d8b(cx:Cx)(ty:Nat)(x ix y:V):r8 (a8p cx ty x ix y):=by
 unfold a8p;cases cx.M ty with
 | none=>exact .no
 | some q=>
  obtain ⟨kt,m,z⟩:=q;cases x<;>try exact r8.no
  cases ix<;>try exact r8.no
  rename_i g j ks;simp only;cases a0v ks with
  | none=>exact .no
  | some xs=>
   refine .bind (.rd g j) fun e => ?_
   cases e<;>try exact r8.no
   exact .ite (.pure _) .no
theorem d4X(cx:Cx)(grp:Nat)(ob:Oper)(t:List V)(A:I1):r8 (opM cx grp ob t A):=by
 unfold opM;cases ob.op<;>try exact r8.lift _
 case buildSlice ty len parts=>cases A<;>first|exact c9I _ _ _ _ _ _ _|exact c6L _ _ _ _ _ _
 case makeSlice ty l c=>cases A<;>first|exact d7R _ _ _ _ _ _ _|exact r8.lift _
 case load ty x=>cases A<;>first|exact d8r _ _ _ _ _|exact d0O _ _ _ _ _|exact d7M _ _ _ _|exact d1w _ _ _ _
 case store ty x y=>
  cases ob.dst
  ·cases A<;>first|exact c6b _ _ _ _ _ _ _|exact d4q _ _ _ _ _ _ _|exact c7Z _ _ _ _ _
  ·exact .no
 case makeMap ty r=>cases r<;>exact r8.lift _
 case lookup ty x ix ok=>cases ok<;>first|exact d7T _ _ _ _|exact r8.lift _
 case mapUpdate ty x ix y=>
  cases ob.dst
  ·exact d8b _ _ _ _ _
  ·exact .no
 case call c=>
  obtain ⟨callee,args,tys⟩:=c;simp only;split
  ·refine .ite ?_ .no;cases A<;>first|exact d6N _ _ _ _ _|exact d1R _ _ _ _ _ _
  ·exact d8A _ _ _ _
  ·cases n5 t _<;>first|exact c9M _ _ _ _ _|exact r8.no
  ·exact .lift _
theorem d6F(cx:Cx)(grp:Nat)(ob:Oper)(t:List V)(A:H1):r8 (a6C cx grp ob t A):=.bind (d4X _ _ _ _ _) fun o=>.lift _
theorem c1b{t t':List V}:∀{xs:List Operand},(∀x∈xs,n5 t' x=n5 t x)->xs.map (n5 t')=xs.map (n5 t)
 | [],_=>rfl
 | x::xs,h=>by simp only [d9s];rw [h x (by simp),c1b fun y hy=>h y (by simp [hy])]
theorem b4n{t t':List V}:∀{ps:List (Nat×Operand)},(∀x∈ps.map (·.2),n5 t' x=n5 t x)->(ps.map fun (i,x)=>(i,n5 t' x))=(ps.map fun (i,x)=>(i,n5 t x))
 | [],_=>rfl
 | p::ps,h=>by
  simp only [d9s];rw [h p.2 (by simp),b4n fun y hy=>h y (by simp [hy])]
theorem c0u{t t':List V}{o:Option Operand}(h:∀x∈o.toList,n5 t' x=n5 t x):o.map (n5 t')=o.map (n5 t):=by
 cases o with
 | none=>rfl
 | some x=>simp only [d9t];rw [h x (by simp)]
theorem c8E{cx:Cx}{op:Op}{t t':List V}{A:I1}(h:∀x∈op.operands.toList,n5 t' x=n5 t x):L9 cx op t' A=L9 cx op t A:=by
 cases op<;>try rfl
 case makeFunc fn first captured=>cases fn<;>rfl
 case move x=>simp only [L9];rw [h x (by simp [Op.operands])]
 case assign x=>simp only [L9];rw [h x (by simp [Op.operands])]
 case pick c x y=>simp only [L9];rw [h c (by simp [Op.operands]),h x (by simp [Op.operands]),h y (by simp [Op.operands])]
 case nilCheck x=>simp only [L9];rw [h x (by simp [Op.operands])]
 case binOp o ty x y ty'=>simp only [L9];rw [h x (by simp [Op.operands]),h y (by simp [Op.operands])]
 case unOp o ty x=>simp only [L9];rw [h x (by simp [Op.operands])]
 case convert s d x=>simp only [L9];rw [h x (by simp [Op.operands])]
 case extract x k=>simp only [L9];rw [h x (by simp [Op.operands])]
 case field ty x f=>simp only [L9];rw [h x (by simp [Op.operands])]
 case fieldAddr ty x f=>simp only [L9];rw [h x (by simp [Op.operands])]
 case build ty parts=>simp only [L9];rw [b4n (by simpa [Op.operands] using h)]
 case indexAddr ty x y=>simp only [L9];rw [h x (by simp [Op.operands]),h y (by simp [Op.operands])]
 case index ty x y=>simp only [L9];rw [h x (by simp [Op.operands]),h y (by simp [Op.operands])]
 case slice ty x lo hi mx=>
  cases mx with
  | some m=>rfl
  | none=>
   simp only [L9];rw [h x (by simp [Op.operands]),c0u (o:=lo) (fun y hy=>h y (by simp [Op.operands] at hy ⊢;simp [hy])),c0u (o:=hi) (fun y hy=>h y (by simp [Op.operands] at hy ⊢;simp [hy]))]
 case call c=>
  obtain ⟨callee,args,tys⟩:=c;simp only [L9];cases callee with
  | value x=>rfl
  | invoke x m=>rfl
  | builtin b=>
   have ha:∀x∈args.toList,n5 t' x=n5 t x:=fun x hx=>h x (by simpa [Op.operands,Call.operands] using hx)
   cases b<;>try rfl
   all_goals
    generalize args.toList=al at ha;generalize tys.toList=tl;rcases al with _|⟨s,_|⟨x,_|⟨y,al⟩⟩⟩<;>rcases tl with _|⟨ty,_|⟨ty',tl⟩⟩<;>try rfl
    all_goals simp only [ha s (by simp)]
    all_goals try simp only [ha x (by simp)]
theorem d5T{cx:Cx}{grp:Nat}{ob:Oper}{t t':List V}{A:I1}(h:∀x∈ob.op.operands.toList,n5 t' x=n5 t x):opM cx grp ob t' A=opM cx grp ob t A:=by
 have hp:=c8E (cx:=cx) (A:=A) h;unfold opM;cases ho:ob.op<;>rw [ho] at h hp<;>simp only [hp]
 case box e x=>rw [h x (by simp [Op.operands])]
 case buildSlice ty len parts=>rw [b4n (by simpa [Op.operands] using h)]
 case makeSlice ty l c=>rw [h l (by simp [Op.operands]),h c (by simp [Op.operands])]
 case load ty x=>rw [h x (by simp [Op.operands])]
 case store ty x y=>rw [h x (by simp [Op.operands]),h y (by simp [Op.operands])]
 case makeMap ty r=>cases r<;>simp only [hp]
 case lookup ty x ix ok=>
  have h1:=h x (by simp [Op.operands]);have h2:=h ix (by simp [Op.operands]);cases ok<;>simp only [hp,h1,h2]
 case mapUpdate ty x ix y=>rw [h x (by simp [Op.operands]),h ix (by simp [Op.operands]),h y (by simp [Op.operands])]
 case call c=>
  obtain ⟨callee,args,tys⟩:=c;cases callee with
  | invoke x m=>rfl
  | value fop=>
   have h1:n5 t' fop=n5 t fop:=h fop (by simp [Op.operands,Call.operands]);have h2:args.toList.map (n5 t')=args.toList.map (n5 t):=c1b fun x hx=>h x (by simp [Op.operands,Call.operands] at hx ⊢;simp [hx])
   simp only [h1,h2]
  | builtin b=>
   have ha:∀x∈args.toList,n5 t' x=n5 t x:=fun x hx=>h x (by simpa [Op.operands,Call.operands] using hx)
   cases b<;>try rfl
   all_goals
    generalize args.toList=al at ha;generalize tys.toList=tl;rcases al with _|⟨s,_|⟨x,_|⟨y,al⟩⟩⟩<;>rcases tl with _|⟨ty,_|⟨ty',_|⟨ty3,tl⟩⟩⟩<;>try rfl
    all_goals simp only [ha s (by simp),ha x (by simp)]
theorem c6k{t:List V}{dst:Option Nat}{v:V}{x:Operand}(h:∀d,dst=some d->x ≠ .tmp d):n5 (M6 t dst v) x=n5 t x:=by
 cases dst with
 | none=>rfl
 | some d=>
  cases x with
  | tmp k=>
   have:d≠k:=fun q=>h d rfl (by rw [q])
   simp [n5,M6,d9h this]
  | _=>rfl
theorem d5s{S:St}{g j g' j':Nat}{e e':n9}(h:¬(g=g'/\j=j')):(S.setE g j e).setE g' j' e'=(S.setE g' j' e').setE g j e:=by
 by_cases q:g=g'
 ·subst q;have hj:j≠j':=fun z=>h ⟨rfl,z⟩
  cases hx:S.h[g]? with
  | none=>unfold St.setE;simp [hx]
  | some o=>cases o with
   | none=>unfold St.setE;simp [hx]
   | some l=>
    have hlt:=(d83.1 hx).1;rw [a1a hx,a1a hx,a1a (l:=l.set j e) (by simp [hlt]),a1a (l:=l.set j' e') (by simp [hlt])];simp only [List.set_set];rw [List.set_comm _ _ hj]
 ·unfold St.setE;cases hx:S.h[g]? with
  | none=>
   cases hy:S.h[g']? with
   | none=>simp [hx,hy]
   | some o=>cases o with
    | none=>simp [hx,hy]
    | some l=>simp [hx,hy,d9h (Ne.symm q)]
  | some o=>cases o with
   | none=>
    cases hy:S.h[g']? with
    | none=>simp [hx,hy]
    | some o=>cases o with
     | none=>simp [hx,hy]
     | some l=>simp [hx,hy,d9h (Ne.symm q)]
   | some l=>
    cases hy:S.h[g']? with
    | none=>simp [hx,hy,d9h q]
    | some o=>cases o with
     | none=>simp [hx,hy,d9h q]
     | some l'=>simp [hx,hy,d9h q,d9h (Ne.symm q),List.set_comm _ _ q]
theorem c1U{g j:Nat}{e:n9}:∀{us:List H9} {S:St},(∀u∈us,¬(g=u.1.1/\j=u.1.2))->(S.setE g j e).upds us=(S.upds us).setE g j e
 | [],_,_=>rfl
 | ((g',j'),e')::us,S,h=>by
  simp only [St.upds];rw [d5s (h ((g',j'),e') (by simp)),c1U fun u hu=>h u (by simp [hu])]
theorem a9v:∀{us vs:List H9} {S:St},(∀u∈us,∀v∈vs,u.1≠v.1)->(S.upds us).upds vs=(S.upds vs).upds us
 | [],_,_,_=>rfl
 | ((g,j),e)::us,vs,S,h=>by
  simp only [St.upds];rw [a9v fun u hu=>h u (by simp [hu]),c1U fun v hv q=>h ((g,j),e) (by simp) v hv (Prod.ext q.1 q.2)]
theorem d2r{S:St}{g g':Nat}{n n':List n9}(h:g≠g'):(S.lay g n).lay g' n'=(S.lay g' n').lay g n:=by
 simp [St.lay,List.set_comm _ _ h]
theorem d32{t:List V}{d d':Option Nat}{v v':V}(h:∀k,d=some k->d'≠some k):M6 (M6 t d v) d' v'=M6 (M6 t d' v') d v:=by
 cases d with
 | none=>rfl
 | some k=>cases d' with
  | none=>rfl
  | some k'=>
   have:k≠k':=fun q=>h k rfl (by rw [q])
   simp [M6,List.set_comm _ _ this]
def a1N(S:St)(t:List V):St:={S with t:=t}
def hp(S:St)(grp:Nat)(o:w6):St:=match o.new with
 | none=>S.upds o.upd
 | some new=>(S.upds o.upd).lay grp new
theorem b5H(S:St)(grp:Nat)(dst:Option Nat)(o:w6):S.apply grp dst o=a1N (hp S grp o) (M6 S.t dst o.v):=by
 unfold St.apply hp a1N;cases o.new with
 | none=>simp only [St.upds_t]
 | some new=>simp only [St.lay,St.upds_t]
theorem c9f(S:St)(t:List V)(g j:Nat)(e:n9):(a1N S t).setE g j e=a1N (S.setE g j e) t:=by
 unfold a1N St.setE;simp only;split<;>rfl
theorem b5m(t:List V):∀(us:List H9) (S:St),(a1N S t).upds us=a1N (S.upds us) t
 | [],_=>rfl
 | ((g,j),e)::us,S=>by simp only [St.upds];rw [c9f,b5m]
theorem c6w(S:St)(t:List V)(grp:Nat)(o:w6):hp (a1N S t) grp o=a1N (hp S grp o) t:=by
 unfold hp;cases o.new with
 | none=>simp only [b5m]
 | some new=>simp only [b5m];rfl
theorem c8v{S:St}{g g':Nat}{o o':w6}(hg:g≠g')(h1:∀u∈o.upd,∀v∈o'.upd,u.1≠v.1)(h2:∀u∈o.upd,u.1.1≠g')(h3:∀u∈o'.upd,u.1.1≠g):hp (hp S g o) g' o'=hp (hp S g' o') g o:=by
 unfold hp;cases o.new with
 | none=>cases o'.new with
  | none=>simp only;exact a9v h1
  | some n'=>simp only;rw [<-a6D o.upd _ h2,a9v h1]
 | some n=>cases o'.new with
  | none=>simp only;rw [<-a6D o'.upd _ h3,a9v h1]
  | some n'=>
   simp only;rw [<-a6D o'.upd _ h3,<-a6D o.upd _ h2,a9v h1,d2r hg]
theorem d6s{S:St}{grp:Nat}{o:w6}{g j:Nat}(h1:g≠grp)(h2:∀u∈o.upd,u.1≠(g,j)):(hp S grp o).ent g j=S.ent g j:=by
 have:(S.upds o.upd).ent g j=S.ent g j:=by
  refine b2x ?_;unfold a6g;rw [d86];intro u hu;have:=h2 u hu;simp only [d9R,Bool.and_eq_false_iff,beq_eq_false_iff_ne];by_cases q:g=u.1.1
  ·right
   intro z;exact this (Prod.ext q.symm z.symm)
  ·exact .inl q
 unfold hp;cases o.new with
 | none=>exact this
 | some new=>simp only;rw [a4s h1];exact this
section
variable {cx:Cx} {ops:Array Oper} {base:Nat} {A:Nat->H1}
theorem b9Q{i:Nat}{S S':St}{ps:List Prop}{ft:S6}(h:S5 cx ops base A i S=some (S',ps,ft)):∃o out,ops[i]?=some o/\S'=S.apply (base+i) o.dst out/\ft.wr=out.upd.map (·.1)/\
  ∀T:St,(∀x∈o.op.operands.toList,n5 T.t x=n5 S.t x)->a33 ops o T.t=a33 ops o S.t->(∀id∈ft.rd,T.ent id.1 id.2=S.ent id.1 id.2)->S5 cx ops base A i T=some (T.apply (base+i) o.dst out,ps,ft):=by
 unfold S5 at h;split at h<;>try (cases h;done)
 rename_i o ho;split at h<;>try (cases h;done)
 ·rename_i hw;split at h<;>try (cases h;done)
  rename_i out lg hop;injection h with h;injection h with h1 h2;injection h2 with h2 h3;subst h1;subst h2;subst h3;refine ⟨o,out,ho,rfl,rfl,?_⟩;intro T hx hwT hent;have hst:a6C cx (base+i) o T.t (A i)=a6C cx (base+i) o S.t (A i):=by
   unfold a6C;rw [d5T hx]
  have:=d6F cx (base+i) o S.t (A i) S.ent T.ent out lg hop hent;unfold S5;rw [ho];simp only [hwT,hw,hst,this]
 ·rename_i hw;injection h with h;injection h with h1 h2;injection h2 with h2 h3;subst h1;subst h2;subst h3;refine ⟨o,{v:=.tup []},ho,rfl,rfl,?_⟩;intro T hx hwT hent;unfold S5;rw [ho];simp only [hwT,hw];rfl
structure Ind(ops:Array Oper)(base:Nat)(x i:Nat)(f1 f2:S6):Prop where
 ne:x≠i
 apart:∀o1 o2,ops[x]?=some o1->ops[i]?=some o2->o1.apart ops o2=true
 w1:∀id∈f1.wr,id ∉ f2.rd/\id ∉ f2.wr
 w2:∀id∈f2.wr,id ∉ f1.rd
 g1:∀id∈f2.rd++f2.wr,id.1≠base+x
 g2:∀id∈f1.rd++f1.wr,id.1≠base+i
theorem c51{o:Oper}{x:Operand}(hx:x∈o.op.operands.toList){d:Nat}(hd:d ∉ o.looksAt ops):x ≠ .tmp d:=by
 intro q;subst q;apply hd;unfold Oper.looksAt;exact d80.2 (.inl (List.mem_filterMap.2 ⟨_,hx,rfl⟩))
theorem b8F{o:Oper}{t:List V}{dst:Option Nat}{v:V}(hd:∀d,dst=some d->d ∉ o.looksAt ops):a33 ops o (M6 t dst v)=a33 ops o t:=by
 unfold a33;split
 ·rfl
 ·rename_i j want hg;cases hj:(ops[j]?).bind (·.dst) with
  | none=>rfl
  | some d=>
   simp only;cases dst with
   | none=>rfl
   | some k=>
    have hk:k≠d:=by
     intro q;subst q;apply hd k rfl;unfold Oper.looksAt;rw [hg];exact d80.2 (.inr (by simp [hj]))
    simp only [M6,d9h hk]
theorem b0C{S:St}{grp:Nat}{dst:Option Nat}{o:w6}:(S.apply grp dst o).t=M6 S.t dst o.v:=by rw [b5H];rfl
theorem c1K{S:St}{grp:Nat}{dst:Option Nat}{o:w6}{g j:Nat}(h1:g≠grp)(h2:(g,j) ∉ o.upd.map (·.1)):(S.apply grp dst o).ent g j=S.ent g j:=by
 rw [b5H];show (hp S grp o).ent g j=_
 exact d6s h1 fun u hu q=>h2 (d9l.2 ⟨u,hu,q⟩)
theorem c9y{x i:Nat}{S S1 S2:St}{p1 p2:List Prop}{f1 f2:S6}(hx:S5 cx ops base A x S=some (S1,p1,f1))(hi:S5 cx ops base A i S1=some (S2,p2,f2))(h:Ind ops base x i f1 f2) :
  ∃S1',S5 cx ops base A i S=some (S1',p2,f2)/\S5 cx ops base A x S1'=some (S2,p1,f1):=by
 obtain ⟨o1,out1,ho1,rfl,hw1,hr1⟩:=b9Q hx;obtain ⟨o2,out2,ho2,rfl,hw2,hr2⟩:=b9Q hi;obtain ⟨a1,a2,a3⟩:=Oper.apart_spec (h.apart o1 o2 ho1 ho2);have e1:=hr2 S (fun z hz=>by rw [b0C,c6k fun d hd=>c51 (ops:=ops) hz (a1 d hd)]) (by rw [b0C,b8F a1]) (fun id hid=>by
  refine (c1K (h.g1 id (d80.2 (.inl hid))) ?_).symm;rw [<-hw1];exact fun q=>(h.w1 id q).1 hid)
 refine ⟨_,e1,?_⟩;have e2:=hr1 (S.apply (base+i) o2.dst out2) (fun z hz=>by rw [b0C,c6k fun d hd=>c51 (ops:=ops) hz (a3 d hd)]) (by rw [b0C,b8F a3]) (fun id hid=>by
  refine c1K (h.g2 id (d80.2 (.inl hid))) ?_;rw [<-hw2];exact fun q=>h.w2 id q hid)
 rw [e2];congr 2
 simp only [b5H,c6w];have hh:hp (hp S (base+x) out1) (base+i) out2=hp (hp S (base+i) out2) (base+x) out1:=by
  refine c8v (fun q=>h.ne (by omega)) ?_ ?_ ?_
  ·intro u hu v hv q;have m1:u.1∈f1.wr:=by rw [hw1];exact d9l.2 ⟨u,hu,rfl⟩
   have m2:v.1∈f2.wr:=by rw [hw2];exact d9l.2 ⟨v,hv,rfl⟩
   exact (h.w1 _ m1).2 (q▸m2)
  ·intro u hu;exact h.g2 _ (d80.2 (.inr (by rw [hw1];exact d9l.2 ⟨u,hu,rfl⟩)))
  ·intro u hu;exact h.g1 _ (d80.2 (.inr (by rw [hw2];exact d9l.2 ⟨u,hu,rfl⟩)))
 rw [hh];unfold a1N;simp only;rw [d32 (fun k hk q=>a2 k hk q)]
abbrev Rc:=Nat->List Prop×S6
theorem c3s{rc:Rc}{i:Nat}:∀{l m:List Nat} {S S':St},(∀x∈l,Ind ops base x i (rc x).2 (rc i).2)->Y0 cx ops base A (l++i::m) S=some (S',(l++i::m).map rc)->Y0 cx ops base A (i::(l++m)) S=some (S',(i::(l++m)).map rc)
 | [],m,S,S',_,h=>h
 | x::l,m,S,S',hind,h=>by
  obtain ⟨S1,r,rs,h1,h2,h3⟩:=a9c h;simp only [e0w,d9s] at h3;injection h3 with h3 h4;subst h3;subst h4;have h5:=c3s (fun y hy=>hind y (by simp [hy])) h2;obtain ⟨S2,r2,rs2,h6,h7,h8⟩:=a9c h5;simp only [d9s] at h8;injection h8 with h8 h9;subst h8;subst h9;obtain ⟨S1',e1,e2⟩:=c9y (p1:=(rc x).1) (f1:=(rc x).2) (p2:=(rc i).1) (f2:=(rc i).2) h1 h6 (hind x (by simp));have e2':S5 cx ops base A x S1'=some (S2,rc x):=e2;have e1':S5 cx ops base A i S=some (S1',rc i):=e1;simp only [e0w,Y0,e1',e2',h7,d9s]
end
def a03(ops:Array Oper)(i:Nat):List Nat:=
 match ops[i]? with
 | some o=>(o.after.toList.filter (Region.binds .any)).map (·.on)
 | none=>[]
def a2g(ops:Array Oper):Nat->List (List Nat)
 | 0=>[]
 | k+1=>let L:=a2g ops k;L++[(a03 ops k).flatMap fun e=>e::L.getD e []]
def a41(ops:Array Oper)(i:Nat):List Nat:=(a2g ops (i+1)).getD i []
theorem a4o(ops:Array Oper):∀k,(a2g ops k).length=k
 | 0=>rfl
 | k+1=>by simp [a2g,a4o ops k]
theorem b5S(ops:Array Oper)(i:Nat):∀k,i<k->(a2g ops k).getD i []=a41 ops i
 | k+1,h=>by
  by_cases q:i=k
  ·subst q;rfl
  ·have:i<k:=by omega
   rw [<-b5S ops i k this];simp only [a2g,d9b];rw [d9i (by rw [a4o];exact this)]
theorem d0b(ops:Array Oper)(i:Nat):a41 ops i=(a03 ops i).flatMap fun e=>e::(a2g ops i).getD e []:=by
 unfold a41;simp only [a2g,d9b];rw [d9f (by rw [a4o];omega),a4o];simp
theorem c3z{ops:Array Oper}{R9:Array Bool}{i:Nat}(h:i∈Region.ready .any ops R9):i<ops.size/\R9.getD i true=false/\∀e∈a03 ops i,R9.getD e false=true:=by
 unfold Region.ready at h;obtain ⟨h1,h2⟩:=d9V.1 h;have hlt:=d9Z.1 h1;simp only [d82,d9R] at h2;refine ⟨hlt,h2.1,?_⟩;intro e he;unfold a03 at he;rw [Array.getElem?_eq_getElem hlt] at he h2;simp only [d9l,d9V] at he;obtain ⟨ed,⟨hm,hb⟩,rfl⟩:=he;have:=h2.2;simp only [d9t,e0v,Array.all_eq_true_iff_forall_mem] at this;have:=this ed (by simpa using hm);simpa [hb] using this
theorem c8A{ops:Array Oper}{R9:Array Bool}{i:Nat}(hlt:i<ops.size)(hl:R9.getD i true=false)(he:∀e∈a03 ops i,R9.getD e false=true):i∈Region.ready .any ops R9:=by
 unfold Region.ready;refine d9V.2 ⟨d9Z.2 hlt,?_⟩;rw [Array.getElem?_eq_getElem hlt];simp only [hl,d9u,d9t,e0v,d9m,Array.all_eq_true_iff_forall_mem];intro ed hm;by_cases hb:Region.binds .any ed=true
 ·have:ed.on∈a03 ops i:=by
   unfold a03;rw [Array.getElem?_eq_getElem hlt];exact d9l.2 ⟨ed,d9V.2 ⟨by simpa using hm,hb⟩,rfl⟩
  simp [he _ this]
 ·simp [hb]
section
variable {cx:Cx} {Γ:I3} {ops:Array Oper} {base:Nat} {A:Nat->H1} {Q:Exit->Act->World->Prop} {S':St} {rc:Rc}
theorem d6G(c5t:∀i,i<ops.size->∀e∈a03 ops i,e<i)(hind:∀x i,x<i->i<ops.size->x ∉ a41 ops i->Ind ops base x i (rc x).2 (rc i).2)(hob:∀i,i<ops.size->∀p∈(rc i).1,p)(hQ:∀a' w' F' ι',o8 Γ F' ι' S' a' w'->Q .normal a' w'):∀(fuel:Nat) (R:List Nat) (R9:Array Bool) (S:St) (F:Nat->Prop) (ι:Nat->Nat->Value) (a:Act) (w:World),
  R.length=fuel->R9.size=ops.size->R.Pairwise (· < ·)->(∀i,i<ops.size->(R9.getD i true=false↔i∈R))->(∀i∈R,i<ops.size)->(∀i,i<ops.size->i ∉ R->∀x∈a41 ops i,x ∉ R)->
  o8 Γ F ι S a w->(∀i∈R,base+i<S.h.length/\¬S.D (base+i))->Y0 cx ops base A R S=some (S',R.map rc)->wpAny cx.P .any ops Q fuel R9 a w:=by
 intro fuel;induction fuel with
 | zero=>
  intro R R9 S F ι a w hR hsz hpw hlist hlt hdown hrel hfree hrun;have:R=[]:=d9c hR;subst this;unfold Y0 at hrun;injection hrun with hrun;injection hrun with h1 h2;subst h1;refine ⟨?_,hQ _ _ _ _ hrel⟩;rw [List.eq_nil_iff_forall_not_mem];intro i hi;obtain ⟨h1,h2,_⟩:=c3z hi;have:=(hlist i h1).1 h2;simp at this
 | succ fuel ih=>
  intro R R9 S F ι a w hR hsz hpw hlist hlt hdown hrel hfree hrun;refine ⟨fun d7b => ?_,fun i hi => ?_⟩
  ·exfalso
   cases R with
   | nil=>simp at hR
   | cons r R=>
    have hr:=hlt r (by simp);have hrd:r∈Region.ready .any ops R9:=by
     refine c8A hr ((hlist r hr).2 (by simp)) ?_;intro e he;have hlt':=c5t r hr e he;have hen:e ∉ r::R:=by
      intro q;rcases d88.1 q with q|q
      ·omega
      ·have:=(e0d.1 hpw).1 e q;omega
     have:=mt (hlist e (by omega)).1 hen;have hes:e<R9.size:=by omega
     simp only [Array.getD_eq_getD_getElem?,Array.getElem?_eq_getElem hes,e0v] at this ⊢;simpa using this
    rw [d7b] at hrd;simp at hrd
  ·obtain ⟨hi1,hi2,hi3⟩:=c3z hi;have hiR:=(hlist i hi1).1 hi2;obtain ⟨A1,B1,hAB⟩:=List.append_of_mem hiR;have hpw':=hpw;rw [hAB] at hpw';obtain ⟨hpA,hpB,hpAB⟩:=e0r.1 hpw';have hcl:∀x∈a41 ops i,x ∉ R:=by
    intro x hx;rw [d0b] at hx;obtain ⟨e,he,hx⟩:=List.mem_flatMap.1 hx;have hel:=c5t i hi1 e he;have heR:e ∉ R:=by
     intro q;have h1:=(hlist e (by omega)).2 q;have h2:=hi3 e he;have hes:e<R9.size:=by omega
     simp only [Array.getD_eq_getD_getElem?,Array.getElem?_eq_getElem hes,e0v] at h1 h2;rw [h1] at h2;cases h2
    rcases d88.1 hx with rfl|hx
    ·exact heR
    ·rw [b5S ops e i hel] at hx;exact hdown e (by omega) heR x hx
   have hfront:=c3s (cx:=cx) (A:=A) (rc:=rc) (i:=i) (l:=A1) (m:=B1) (S:=S) (S':=S') (fun x hx=>by
    have hxR:x∈R:=by rw [hAB];simp [hx]
    exact hind x i (hpAB x hx i (by simp)) hi1 (fun q=>hcl x q hxR)) (by rw [<-hAB];exact hrun)
   obtain ⟨S1,r,rs,h1,h2,h3⟩:=a9c hfront;simp only [d9s] at h3;injection h3 with h3 h4;subst h3;subst h4;obtain ⟨hD,hl⟩:=c2B (ps:=(rc i).1) (ft:=(rc i).2) h1;refine c5j hrel (hfree i hiR).1 (hfree i hiR).2 (ps:=(rc i).1) (ft:=(rc i).2) h1 (hob i hi1) fun a' w' F' ι' hrel' => ?_
   have hsub:∀j,j∈A1++B1↔(j∈R/\j≠i):=by
    intro j;rw [hAB];simp only [d80,d88];constructor
    ·intro hj;refine ⟨by rcases hj with q|q<;>simp [q],?_⟩;rintro rfl
     rcases hj with q|q
     ·have:=hpAB j q j (by simp);omega
     ·have:=(e0d.1 hpB).1 j q;omega
    ·rintro ⟨q|rfl|q,hne⟩
     ·exact .inl q
     ·exact absurd rfl hne
     ·exact .inr q
   refine ih (A1++B1) _ S1 F' ι' a' w' ?_ (by simp [hsz]) ?_ ?_ ?_ ?_ hrel' ?_ h2
   ·rw [hAB] at hR;simp at hR ⊢;omega
   ·refine e0r.2 ⟨hpA,(e0d.1 hpB).2,fun x hx y hy=>hpAB x hx y (by simp [hy])⟩
   ·intro j hj;rw [hsub];have hjs:j<R9.size:=by omega
    simp only [Array.getD_eq_getD_getElem?];by_cases q:j=i
    ·subst q;simp [hjs]
    ·rw [Array.getElem?_setIfInBounds_ne (Ne.symm q),<-hlist j hj,Array.getD_eq_getD_getElem?];simp [q]
   ·intro j hj;exact hlt j ((hsub j).1 hj).1
   ·intro j hj hjn x hx hxm;have hxR:=((hsub x).1 hxm).1;by_cases q:j=i
    ·subst q;exact hcl x hx hxR
    ·exact hdown j hj (fun z=>hjn ((hsub j).2 ⟨z,q⟩)) x hx hxR
   ·intro j hj;have hjR:=((hsub j).1 hj)
    refine ⟨by rw [hl];exact (hfree j hjR.1).1,fun x => ?_⟩;rcases hD _ x with y|y
    ·exact (hfree j hjR.1).2 y
    ·exact hjR.2 (by omega)
end
def b1n(l:List Nat)(x:Nat):Bool:=l.any fun y=>y==x
theorem c9x{l:List Nat}{x:Nat}:b1n l x=true↔x∈l:=by
 unfold b1n;rw [e0I];constructor
 ·rintro ⟨y,hy,h⟩
  simp at h;exact h▸hy
 ·intro h;exact ⟨x,h,by simp⟩
def dnN:List Nat->List Nat
 | []=>[]
 | x::xs=>if b1n (dnN xs) x then dnN xs else x::dnN xs
theorem b5K{x:Nat}:∀{l:List Nat},x∈dnN l->x∈l
 | y::l,h=>by
  unfold dnN at h;split at h
  ·exact d88.2 (.inr (b5K h))
  ·rcases d88.1 h with rfl|h
   ·simp
   ·exact d88.2 (.inr (b5K h))
def a5N(ops:Array Oper):Nat->List (List Nat)
 | 0=>[]
 | k+1=>let L:=a5N ops k;L++[dnN ((a03 ops k).flatMap fun e=>e::L.getD e [])]
theorem b0v(ops:Array Oper):∀k,(a5N ops k).length=k
 | 0=>rfl
 | k+1=>by simp [a5N,b0v ops k]
theorem b4h(ops:Array Oper):∀k i,∀x∈(a5N ops k).getD i [],x∈(a2g ops k).getD i []
 | 0,i,x,h=>by simp [a5N] at h
 | k+1,i,x,h=>by
  simp only [a5N,a2g,d9b] at h ⊢;by_cases q:i<k
  ·rw [d9i (by rw [b0v];exact q)] at h;rw [d9i (by rw [a4o];exact q)];have:=b4h ops k i x (by rw [d9b];exact h);rwa [d9b] at this
  ·rw [d9f (by rw [b0v];omega),b0v] at h;rw [d9f (by rw [a4o];omega),a4o];by_cases q':i=k
   ·subst q';simp only [Nat.sub_self,e0y,e0v] at h ⊢;obtain ⟨e,he,hx⟩:=List.mem_flatMap.1 (b5K h);refine List.mem_flatMap.2 ⟨e,he,?_⟩;rcases d88.1 hx with rfl|hx
    ·simp
    ·have:=b4h ops i e x (by rw [d9b];exact hx);rw [d9b] at this;exact d88.2 (.inr this)
   ·have:i-k=(i-k-1)+1:=by omega
    rw [this] at h;simp at h
def b4O(ops:Array Oper)(base x i:Nat)(f1 f2:S6):Bool:=
  (match ops[x]?,ops[i]? with
   | some o1,some o2=>o1.apart ops o2
   | _,_=>false) &&
  f1.wr.all (fun id => !Z3 f2.rd id && !Z3 f2.wr id)&&f2.wr.all (fun id => !Z3 f1.rd id) &&
  f2.rd.all (fun id => !(id.1==base+x))&&f2.wr.all (fun id => !(id.1==base+x)) &&
  f1.rd.all (fun id => !(id.1==base+i))&&f1.wr.all (fun id => !(id.1==base+i))
theorem b2v{l:List (Nat×Nat)}{x:Nat×Nat}(h:(!Z3 l x)=true):x ∉ l:=by
 intro q;rw [a3V.2 q] at h;cases h
theorem d4T{ops:Array Oper}{base x i:Nat}{f1 f2:S6}(hne:x<i)(h:b4O ops base x i f1 f2=true):Ind ops base x i f1 f2:=by
 unfold b4O at h;simp only [d82] at h;obtain ⟨⟨⟨⟨⟨⟨h1,h2⟩,h3⟩,h4⟩,h5⟩,h6⟩,h7⟩:=h;refine ⟨by omega,?_,?_,?_,?_,?_⟩
 ·intro o1 o2 e1 e2;rw [e1,e2] at h1;exact h1
 ·intro id hid;have:=d86.1 h2 id hid;simp only [d82] at this;exact ⟨b2v this.1,b2v this.2⟩
 ·intro id hid;exact b2v (d86.1 h3 id hid)
 ·intro id hid;rcases d80.1 hid with q|q
  ·have:=d86.1 h4 id q;simpa using this
  ·have:=d86.1 h5 id q;simpa using this
 ·intro id hid;rcases d80.1 hid with q|q
  ·have:=d86.1 h6 id q;simpa using this
  ·have:=d86.1 h7 id q;simpa using this
def c2e(ops:Array Oper)(base:Nat)(L:List (List Nat))(fs:List S6):Bool:=
 (d87 ops.size).all fun i=>
  (a03 ops i).all (fun e=>Nat.blt e i) &&
  (d87 i).all fun x=>b1n (L.getD i []) x||b4O ops base x i (fs.getD x ⟨[],[]⟩) (fs.getD i ⟨[],[]⟩)
def b6l(A:List (Nat×H1))(i:Nat):H1:=
 match A with
 | []=>{}
 | (j,x)::A=>if j==i then x else b6l A i
def b2k:List (List Prop×S6)->List Prop
 | []=>[]
 | r::rs=>r.1++b2k rs
theorem c3F{rs:List (List Prop×S6)}(h:∀p∈b2k rs,p):∀r∈rs,∀p∈r.1,p:=by
 induction rs with
 | nil=>intro r hr;cases hr
 | cons r rs ih=>
  intro r' hr p hp;rcases d88.1 hr with rfl|hr
  ·exact h p (d80.2 (.inl hp))
  ·exact ih (fun p hp=>h p (d80.2 (.inr hp))) r' hr p hp
def a1Y:Nat->List (Option (List n9))
 | 0=>[]
 | n+1=>none::a1Y n
theorem b9Y:∀(n i:Nat) (l:List n9),(a1Y n)[i]?≠some (some l)
 | 0,i,l=>by simp [a1Y]
 | n+1,0,l=>by simp [a1Y]
 | n+1,i+1,l=>by simpa [a1Y] using b9Y n i l
theorem c53:∀n,(a1Y n).length=n
 | 0=>rfl
 | n+1=>by simp [a1Y,c53 n]
def St.more(S:St)(n:Nat):St:={S with h:=S.h++a1Y n}
theorem b1s{S:St}{n g:Nat}{l:List n9}:(S.more n).h[g]?=some (some l)↔S.h[g]?=some (some l):=by
 unfold St.more;simp only;by_cases q:g<S.h.length
 ·rw [d9i q]
 ·rw [d9f (by omega)];constructor
  ·intro h;exact absurd h (b9Y _ _ _)
  ·intro h;have:=(d83.1 h).1;omega
theorem a6J{S:St}{n g:Nat}:(S.more n).D g↔S.D g:=by
 unfold St.D;constructor
 ·rintro ⟨l,h⟩
  exact ⟨l,b1s.1 h⟩
 ·rintro ⟨l,h⟩
  exact ⟨l,b1s.2 h⟩
theorem a78{S:St}{n g j:Nat}:(S.more n).ent g j=S.ent g j:=by
 have key:∀e,(S.more n).ent g j=some e↔S.ent g j=some e:=by
  intro e;constructor
  ·intro h;obtain ⟨l,hl⟩:=St.D_of_ent h;rw [Z4 hl] at h;rw [Z4 (b1s.1 hl)];exact h
  ·intro h;obtain ⟨l,hl⟩:=St.D_of_ent h;rw [Z4 hl] at h;rw [Z4 (b1s.2 hl)];exact h
 cases h:S.ent g j with
 | some e=>exact (key e).2 h
 | none=>
  cases h':(S.more n).ent g j with
  | none=>rfl
  | some e=>rw [(key e).1 h'] at h;cases h
theorem o8.more{Γ:I3}{F:Nat->Prop}{ι:Nat->Nat->Value}{S:St}{a:Act}{w:World}(h:o8 Γ F ι S a w)(n:Nat):o8 Γ F ι (S.more n) a w:=
  { F0:=h.F0,F1:=h.F1,F2:=h.F2,kept:=h.kept
    tmps:=h.tmps.imp fun _ _ x=>x.mono (fun _ _ _=>rfl) (fun _ y=>y) (fun g y=>a6J.2 y) (fun _ _ _=>rfl)
    ents:=fun g j e he=>(h.ents g j e (a78▸he)).mono (fun _ _ _=>rfl) (fun _ y=>y) (fun g y=>a6J.2 y) (fun _ _ _=>rfl) (fun _ _ _=>rfl)
    sep:=fun g j e k he=>h.sep g j e k (a78▸he)
    inj:=fun g j e g' j' e' k he he'=>h.inj g j e g' j' e' k (a78▸he) (a78▸he')
    defers:=h.defers
    pins:=fun j c hc=>⟨a6J.2 (h.pins j c hc).1,(h.pins j c hc).2⟩}
def b5R(cx:Cx)(ops:Array Oper)(draw:Bool)(A:List (Nat×H1))(S:St):Option (St×List Prop):=
 match Y0 cx ops S.h.length (b6l A) (d87 ops.size) (S.more ops.size) with
 | none=>none
 | some (S',rs)=>if draw then (if c2e ops S.h.length (a5N ops ops.size) (rs.map (·.2)) then some (S',b2k rs) else none) else some (S',b2k rs)
section
variable {cx:Cx} {Γ:I3} {F:Nat->Prop} {ι:Nat->Nat->Value} {S S':St} {a:Act} {w:World} {ops:Array Oper} {A:List (Nat×H1)}
theorem c1W{base:Nat}{B:Nat->H1}:∀{l:List Nat} {S S':St} {rs:List (List Prop×S6)},Y0 cx ops base B l S=some (S',rs)->rs.length=l.length
 | [],S,S',rs,h=>by
  unfold Y0 at h;injection h with h;injection h with h1 h2;subst h2;rfl
 | i::l,S,S',rs,h=>by
  obtain ⟨S1,r,rs',h1,h2,rfl⟩:=a9c h;simp [c1W h2]
theorem d4k{α:Type}(d:α):∀{rs:List α} {n:Nat},rs.length=n->rs=(d87 n).map fun i=>rs.getD i d:=by
 intro rs n h;apply List.ext_getElem
 ·simp [h]
 ·intro i h1 h2;simp [d9b,h1]
theorem d54{draw:Bool}{id:Nat}{ps:List Prop}{Q:Exit->Act->World->Prop}(h:o8 Γ F ι S a w)(hr:b5R cx ops draw A S=some (S',ps))(hob:∀p∈ps,p)(hQ:∀a' w' F' ι',o8 Γ F' ι' S' a' w'->Q .normal a' w'):(Code.region id ops draw).wp cx.P Q a w:=by
 unfold b5R at hr;split at hr<;>try (cases hr;done)
 rename_i S1 rs hrun;have hfree:∀i∈d87 ops.size,S.h.length+i<(S.more ops.size).h.length/\¬(S.more ops.size).D (S.h.length+i):=by
  intro i hi;refine ⟨by simp [St.more,c53,d9Z.1 hi],fun q => ?_⟩;obtain ⟨l,hl⟩:=a6J.1 q;have:=(d83.1 hl).1;omega
 cases draw with
 | false=>
  simp only [d94,if_false] at hr;injection hr with hr;injection hr with h1 h2;subst h1;subst h2;exact wp_region (c54 (h.more ops.size) List.nodup_range hfree hrun (c3F hob) hQ)
 | true=>
  simp only [if_true] at hr;split at hr<;>try (cases hr;done)
  rename_i hap;injection hr with hr;injection hr with h1 h2;subst h1;subst h2;have hw:o8 Γ F ι (S.more ops.size) a {w with drawn:=w.drawn+1}:=(h.more ops.size).world ⟨rfl,rfl,rfl⟩ (d9B _) (fun _ _=>rfl);have hlen:=c1W hrun;rw [List.length_range] at hlen;have hrs:=d4k (([],⟨[],[]⟩):List Prop×S6) hlen;unfold c2e at hap;rw [d86] at hap;have hap':∀i,i<ops.size->(∀e∈a03 ops i,e<i)/\∀x,x<i->x ∉ a41 ops i->Ind ops S.h.length x i ((rs.getD x ([],⟨[],[]⟩)).2) ((rs.getD i ([],⟨[],[]⟩)).2):=by
   intro i hi;have:=hap i (d9Z.2 hi);simp only [d82] at this;refine ⟨fun e he => ?_,fun x hx hc => ?_⟩
   ·have:=d86.1 this.1 e he;rwa [Nat.blt_eq] at this
   ·have h2:=d86.1 this.2 x (d9Z.2 hx);rcases Bool.or_eq_true_iff.1 h2 with q|q
    ·exfalso
     apply hc;have:=b4h ops ops.size i x (c9x.1 q);rwa [b5S ops i ops.size hi] at this
    ·have:=d4T hx q;have hm:∀j,j<rs.length->(rs.map (·.2)).getD j ⟨[],[]⟩=(rs.getD j ([],⟨[],[]⟩)).2:=by
      intro j hj;simp [d9b,hj]
     rw [hm x (by omega),hm i (by omega)] at this;exact this
  refine wp_region_any cx.mixed ?_;have hrange:∀i,i<ops.size->rs.getD i ([],⟨[],[]⟩)∈rs:=by
   intro i hi;have:i<rs.length:=by omega
   simp [d9b,this]
  refine d6G (rc:=fun i=>rs.getD i ([],⟨[],[]⟩)) (base:=S.h.length) (A:=b6l A) (fun i hi=>(hap' i hi).1) (fun x i hx hi hc=>(hap' i hi).2 x hx hc) (fun i hi p hp=>c3F hob _ (hrange i hi) p hp) hQ
   ops.size (d87 ops.size) _ _ F ι a _ (by simp) (by simp) ?_ ?_ ?_ ?_ hw hfree ?_
  ·exact List.pairwise_lt_range
  ·intro i hi;simp [d9Z,hi,Array.getD_eq_getD_getElem?]
  ·intro i hi;exact d9Z.1 hi
  ·intro i hi hn;exact absurd (d9Z.2 hi) hn
  ·rw [<-hrs];exact hrun
end
def mvM(t:List V):List Item->Option (List Item)
 | .code .skip::k=>some k
 | .inBlock _::k=>some k
 | .code (.seq x y)::k=>some (.code x :: .code y::k)
 | .code (.cond c x y)::k=>match n5 t c with
  | .b true=>some (.code x::k)
  | .b false=>some (.code y::k)
  | _=>none
 | .code (.block id c)::k=>some (.code c :: .inBlock id::k)
 | .code (.loop c)::k=>some (.code c :: .inLoop c::k)
 | .inLoop c::k=>some (.code c :: .inLoop c::k)
 | .code (.exit id)::k=>exitTo id k
 | _=>none
abbrev O1:=List (List (Nat×H1))
def goM(cx:Cx):Nat->List Item->St->O1->Option (List Item×St×List Prop)
 | 0,_,_,_=>none
 | n+1,k,S,sc=>
  match k with
  | .code (.region id ops draw)::k'=>match sc with
   | []=>some (k,S,[])
   | A::sc'=>match b5R cx ops draw A S with
    | some (S1,ps)=>match goM cx n k' S1 sc' with
     | some (k2,S2,qs)=>some (k2,S2,ps++qs)
     | none=>none
    | none=>none
  | k=>match mvM S.t k with
   | some k1=>goM cx n k1 S sc
   | none=>match sc with
    | []=>some (k,S,[])
    | _::_=>none
section
variable {cx:Cx} {Γ:I3} {F:Nat->Prop} {ι:Nat->Nat->Value} {S S':St} {a:Act} {w:World} {b:Frame} {cs:List Frame} {k k':List Item}
theorem d2l(h:o8 Γ F ι S a w)(hm:mvM S.t k=some k'):step cx.P (lone (b.at a k) cs w)=.next (lone (b.at a k') cs w):=by
 unfold mvM at hm;split at hm
 ·injection hm with hm;subst hm;exact step_skip
 ·injection hm with hm;subst hm;exact step_inBlock
 ·injection hm with hm;subst hm;exact step_seq
 ·rename_i c x y k0;have hc:=A3 h.tmps c;split at hm<;>try (cases hm;done)
  ·rename_i hx;injection hm with hm;subst hm;rw [hx] at hc;have:=step_cond (P:=cx.P) (b:=b) (k:=k0) (cs:=cs) (w:=w) (x:=x) (y:=y) hc.inv_b;simpa using this
  ·rename_i hx;injection hm with hm;subst hm;rw [hx] at hc;have:=step_cond (P:=cx.P) (b:=b) (k:=k0) (cs:=cs) (w:=w) (x:=x) (y:=y) hc.inv_b;simpa using this
 ·injection hm with hm;subst hm;exact step_block
 ·injection hm with hm;subst hm;exact step_loop
 ·injection hm with hm;subst hm;exact step_inLoop
 ·exact step_exit hm
 ·cases hm
theorem d4M:∀{n:Nat} {k:List Item} {S:St} {F:Nat->Prop} {ι:Nat->Nat->Value} {a:Act} {w:World} {sc:O1} {ps:List Prop},o8 Γ F ι S a w->goM cx n k S sc=some (k',S',ps)->(∀p∈ps,p)->
  ∃a' w' F' ι',Steps cx.P (lone (b.at a k) cs w) (lone (b.at a' k') cs w')/\o8 Γ F' ι' S' a' w':=by
 intro n;induction n with
 | zero=>intro k S F ι a w sc ps h hg hob;cases hg
 | succ n ih=>
  intro k S F ι a w sc ps h hg hob;unfold goM at hg;split at hg
  ·rename_i id ops draw k0;split at hg
   ·injection hg with hg;injection hg with h1 h2;injection h2 with h2 h3;subst h1;subst h2;exact ⟨a,w,F,ι,.refl _ _,h⟩
   ·rename_i A sc';split at hg<;>try (cases hg;done)
    rename_i S1 qs hr;split at hg<;>try (cases hg;done)
    rename_i k2 S2 rs hg2;injection hg with hg;injection hg with h1 h2;injection h2 with h2 h3;subst h1;subst h2;subst h3;have hwp:=d54 (cx:=cx) (draw:=draw) (id:=id) (Q:=fun e a' w'=>e=.normal/\∃F' ι',o8 Γ F' ι' S1 a' w') h hr (fun p hp=>hob p (d80.2 (.inl hp)))
     (fun a' w' F' ι' hrel=>⟨rfl,F',ι',hrel⟩)
    obtain ⟨e,a1,w1,⟨he,F1,ι1,h1⟩,harr⟩:=hwp b k0 cs;subst he;obtain ⟨a2,w2,F2,ι2,hs,h2⟩:=ih h1 hg2 (fun p hp=>hob p (d80.2 (.inr hp)));exact ⟨a2,w2,F2,ι2,Steps.trans harr hs,h2⟩
  ·split at hg
   ·rename_i k1 hm;obtain ⟨a2,w2,F2,ι2,hs,h2⟩:=ih h hg hob;exact ⟨a2,w2,F2,ι2,.head (d2l h hm) hs,h2⟩
   ·split at hg<;>try (cases hg;done)
    injection hg with hg;injection hg with h1 h2;injection h2 with h2 h3;subst h1;subst h2;exact ⟨a,w,F,ι,.refl _ _,h⟩
end
structure J3 where
 f:Nat
 fn:Func
 rms:List PM
 oms:List (Option (Nat×PM))
def c5f(w:World)(F:Nat->Prop)(fp:List Nat)(cargs:List Value)(res:V)(outs:List (Option V))(e:Ending)(w':World):Prop:=
 ∃ c F' fr fo,e=.returned c/\a2b (· ∈ fp) w w'/\(∀k,F k->F' k)/\(∀k,F' k->(F k\/k∈fp\/w.heap.size<=k)/\k<w'.heap.size)/\
   BR w' F' res c fr/\BO w' F' outs cargs fo/\(fr++fo).Nodup/\∀k∈fr++fo,¬F' k/\(k∈fp\/w.heap.size<=k)/\k<w'.heap.size
def PM.isVal:PM->Bool
 | .val .. => true
 | _=>false
def a4b(bs:List Value):List (Option Nat)->Nat->List Value->Prop
 | [],_,[]=>True
 | none::om,j,d::ds=>d.oneCell'=true/\a4b bs om j ds
 | some _::om,j,d::ds=>bs[j]?=some d/\a4b bs om (j+1) ds
 | _,_,_=>False
inductive Z1:List (Option (Nat×PM))->List Value->List Value->Prop
 | nil (bs):Z1 [] [] bs
 | skip (oms c cs bs) (t:Z1 oms cs bs):Z1 (none::oms) (c::cs) bs
 | pin (j m oms c cs bs) (hm:m.isVal=false) (h:bs[j]?=some c) (t:Z1 oms cs bs):Z1 (some (j,m)::oms) (c::cs) bs
 | agg (j ck om oms ds cs bs) (h:a4b bs om j ds) (t:Z1 oms cs bs):Z1 (some (j,.val ck om)::oms) (.agg ds.toArray::cs) bs
def E6(cx:Cx)(X:J3)(res:V)(outs:List (Option V))(k:List Item)(S:St):Prop:=
 ∀(w0:World) (F0:Nat->Prop) (fp:List Nat) (cargs bs:List Value),Z1 X.oms cargs bs->(∀k,F0 k->k<w0.heap.size)->
 ∀(F:Nat->Prop) (ι:Nat->Nat->Value) (a:Act) (w:World) (b:Frame) (cs:List Frame),o8 ⟨w0,F0,(· ∈ fp),bs⟩ F ι S a w->b.fn=X.f->b.kind=.normal->
  ∃e w' fr,c5f w0 F0 fp cargs res outs e w'/\Comes cx.P (lone (b.at a k) cs w) (lone fr cs w') e/\fr.fn=X.f/\fr.leaving cx.P w' e
theorem E6.go{cx:Cx}{X:J3}{res:V}{outs:List (Option V)}{k k':List Item}{S S':St}{n:Nat}{sc:O1}{ps:List Prop}(hg:goM cx n k S sc=some (k',S',ps))(hob:∀p∈ps,p)(h:E6 cx X res outs k' S'):E6 cx X res outs k S:=by
 intro w0 F0 fp cargs bs hp hF0 F ι a w b cs hrel hb1 hb2;obtain ⟨a',w',F',ι',hs,hrel'⟩:=d4M (b:=b) (cs:=cs) hrel hg hob;obtain ⟨e,w2,fr,h1,h2,h3,h4⟩:=h w0 F0 fp cargs bs hp hF0 F' ι' a' w' b cs hrel' hb1 hb2;exact ⟨e,w2,fr,h1,.of_steps hs h2,h3,h4⟩
def b58(cx:Cx)(t:List V)(r:ResultVar):i9 V:=
 match r with
 | .tmp k=>i9.pure (t.getD k .bot)
 | .cell a ty=>match cx.T ty with
  | some ti=>match t.getD a .bot with
   | .ptr g j off=>i9.bind (i9.rd g j) fun e=>match e with
    | .var _ cs=>match L8 ti (cs.drop off) with
     | some v=>i9.pure v
     | none=>i9.no
    | _=>i9.no
   | _=>i9.no
  | none=>i9.no
def b5O(cx:Cx)(t:List V):List ResultVar->i9 (List V)
 | []=>i9.pure []
 | r::rs=>i9.bind (b58 cx t r) fun v=>i9.bind (b5O cx t rs) fun vs=>i9.pure (v::vs)
def b1m:List (Option Nat)->Nat->i9 (List V)
 | [],_=>i9.pure []
 | none::om,j=>i9.bind (b1m om j) fun vs=>i9.pure (.bot::vs)
 | some _::om,j=>i9.bind (i9.rd 0 j) fun e=>i9.bind (b1m om (j+1)) fun vs=>match e with
  | .row _ sz n _=>i9.pure (.own 0 j sz 0 n::vs)
  | .deep false _ sz n _=>i9.pure (.own 0 j sz 0 n::vs)
  | _=>i9.no
def a46:List (Option (Nat×PM))->i9 (List V×List PM)
 | []=>i9.pure ([],[])
 | none::os=>a46 os
 | some (j,.val ck om)::os=>i9.bind (b1m om j) fun cs=>i9.bind (a46 os) fun x=>i9.pure (.agg cs::x.1,.val ck om::x.2)
 | some (j,m)::os=>i9.bind (i9.rd 0 j) fun e=>match m,e with
  | .ptr _ _,.var _ _=>i9.bind (a46 os) fun x=>i9.pure (.ptr 0 j 0::x.1,m::x.2)
  | .row,.row _ sz n _=>i9.bind (a46 os) fun x=>i9.pure (.own 0 j sz 0 n::x.1,m::x.2)
  | .row,.deep false _ sz n _=>i9.bind (a46 os) fun x=>i9.pure (.own 0 j sz 0 n::x.1,m::x.2)
  | _,_=>i9.no
def b0L:List V->V
 | [v]=>v
 | vs=>.tup vs
def a4W:List (Option (Nat×PM))->List V->List (Option V)
 | [],_=>[]
 | none::os,vs=>none::a4W os vs
 | some _::os,v::vs=>some v::a4W os vs
 | some _::os,[]=>none::a4W os []
def b6x(cx:Cx)(X:J3)(t:List V):i9 (AR (List V)×Nat):=
 i9.bind (b5O cx t X.fn.results.toList) fun rv=>i9.bind (a46 X.oms) fun ov=>i9.bind (a0m (X.rms++ov.2) (rv++ov.1)) fun r=>
  if a1p r.ks&&r.ls.all (fun id => !Z3 r.ks id)&&Nat.beq rv.length X.rms.length then i9.pure (r,rv.length) else i9.no
def b48(cx:Cx)(X:J3)(k:List Item)(S:St):Option (V×List (Option V)×List Prop):=
 match k with
 | .code .ret::_|[]=>match b6x cx X S.t S.ent with
  | some ((r,n),_)=>some (b0L (r.v.take n),a4W X.oms (r.v.drop n),r.obl)
  | none=>none
 | _=>none
section
variable {cx:Cx} {Γ:I3} {F:Nat->Prop} {ι:Nat->Nat->Value} {S S':St} {a:Act} {w:World} {b:Frame} {cs:List Frame} {k k':List Item}
theorem c4n(h:o8 Γ F ι S a w)(k:Nat):RV w F S.D ι (S.t.getD k .bot) (a.tmps.getD k undef):=A3 h.tmps (.tmp k)
def b26(P:Program)(tmps:Array Value)(w:World)(r:ResultVar)(c:Value):Prop:=
  ((match r with
    | .tmp t=>pure (tmps.getD t undef)
    | .cell a t=>do loadVar t (<-asAddr (tmps.getD a undef))):Sem Value).run P w=.ok c w
theorem c7P(h:o8 Γ F ι S a w){r:ResultVar}{v:V}{lg:List (Nat×Nat)}(hr:b58 cx S.t r S.ent=some (v,lg)):∃c,b26 cx.P a.tmps w r c/\RV w F S.D ι v c:=by
 unfold b58 at hr;cases r with
 | tmp k=>
  have:=i9.pure_some hr;injection this with this h9;subst this;exact ⟨_,rfl,c4n h k⟩
 | cell ad ty=>
  simp only at hr;cases hti:cx.T ty with
  | none=>rw [hti] at hr;cases hr
  | some ti=>
  rw [hti] at hr;obtain ⟨i,d,z,htf⟩:=cx.tf hti;have hx:=c4n h ad;generalize S.t.getD ad .bot=xv at hr hx;cases xv<;>try (cases hr;done)
  case ptr g j off=>
   obtain ⟨hD,b,hι,hc⟩:=hx.inv_ptr;obtain ⟨e,l1,l2,hrd,hp',hl12⟩:=i9.bind_some hr;clear hr;have he:=(i9.rd_some hrd).1;simp only at he;have hre:=h.ents g j e he;split at hp'<;>try (cases hp';done)
   ·rename_i e0 cs;obtain ⟨g0,cur,h1,hg,hcs⟩:=hre;rw [hι] at h1;injection h1 with h1;injection h1 with h1;injection h1 with h1;subst h1;cases hrv:L8 ti (cs.drop off) with
    | none=>rw [hrv] at hp';cases hp'
    | some v'=>
    rw [hrv] at hp';have:=i9.pure_some hp';injection this with this h9;subst this;obtain ⟨c,hrd',hvc⟩:=a3x (hcs.drop off) hrv;refine ⟨c,?_,hvc⟩;unfold b26;simp only [hc,asAddr];have:=c2I htf (a3t hg off) hrd';simpa [Sem.run_bind] using this
theorem b75(h:o8 Γ F ι S a w):∀{rs:List ResultVar} {vs:List V} {lg:List (Nat×Nat)},b5O cx S.t rs S.ent=some (vs,lg)->∃cs,q8 (b26 cx.P a.tmps w) rs cs/\q8 (RV w F S.D ι) vs cs
 | [],vs,lg,hr=>by
  have:=i9.pure_some hr;injection this with this h9;subst this;exact ⟨[],.nil,.nil⟩
 | r::rs,vs,lg,hr=>by
  obtain ⟨v,l1,l2,h1,h2,_⟩:=i9.bind_some hr;obtain ⟨vs',l3,l4,h3,h4,_⟩:=i9.bind_some h2;have:=i9.pure_some h4;injection this with this h9;subst this;obtain ⟨c,e1,e2⟩:=c7P h h1;obtain ⟨cs,e3,e4⟩:=b75 h h3;exact ⟨c::cs,.cons e1 e3,.cons e2 e4⟩
def a9E:List Value->Value
 | [c]=>c
 | cs=>.tuple cs.toArray
theorem b8Z{P:Program}{w:World}{α:Type}{f:α->Sem Value}:∀{l:List α} {cs:List Value},q8 (fun r c=>(f r).run P w=.ok c w) l cs->(l.mapM f).run P w=.ok cs w
 | _,_,.nil=>by simp [Sem.run]
 | _,_,.cons h t=>by
  rw [List.mapM_cons];have:=b8Z t;simp [Sem.run_bind,h,this]
theorem d10{P:Program}{fn:Func}{tmps:Array Value}{w:World}{cs:List Value}(h:q8 (b26 P tmps w) fn.results.toList cs):(results fn tmps).run P w=.ok (a9E cs) w:=by
 unfold results;have hm:=b8Z (f:=fun r:ResultVar=>match r with
  | .tmp t=>pure (tmps.getD t undef)
  | .cell a t=>do loadVar t (<-asAddr (tmps.getD a undef))) (h.imp fun r c x=>x)
 have he:fn.results=fn.results.toList.toArray:=by simp
 rw [he,List.mapM_toArray];have hp:(if hh:cs.toArray.size=1 then cs.toArray[0] else Value.tuple cs.toArray)=a9E cs:=by
  rcases cs with _|⟨c,_|⟨c',cs⟩⟩
  ·rfl
  ·rfl
  ·have:¬(c::c'::cs).toArray.size=1:=by simp
   rw [dif_neg this];rfl
 simp only [map_eq_pure_bind,Sem.run_bind,bind_assoc,pure_bind];refine (congrArg (fun r=>Result.andThen r _) hm).trans ?_;simp only [Result.andThen];rw [<-hp];rfl
theorem b6U(h:o8 Γ F ι S a w):∀{om:List (Option Nat)} {j:Nat} {ds:List Value} {vs:List V} {lg:List (Nat×Nat)},a4b Γ.pins om j ds->b1m om j S.ent=some (vs,lg)->q8 (RC w F S.D ι) vs ds
 | [],j,[],vs,lg,_,hr=>by
  have:=i9.pure_some hr;injection this with h1 h2;subst h1;exact .nil
 | none::om,j,d::ds,vs,lg,hc,hr=>by
  obtain ⟨xs,l1,l2,h1,h2,_⟩:=i9.bind_some hr;have:=i9.pure_some h2;injection this with h3 h4;subst h3;exact .cons (.fv _ _ (.bot _ hc.1)) (b6U h hc.2 h1)
 | some _::om,j,d::ds,vs,lg,hc,hr=>by
  obtain ⟨e,l1,l2,hrd,hp,_⟩:=i9.bind_some hr;have he:=(i9.rd_some hrd).1;simp only at he;have hD:=St.D_of_ent he;have hι:=(h.pins j d hc.1).2;have hre:=h.ents 0 j e he;obtain ⟨xs,l3,l4,h1,h2,_⟩:=i9.bind_some hp;have ht:=b6U h hc.2 h1;split at h2<;>try (cases h2;done)
  ·have:=i9.pure_some h2;injection this with h3 h4;subst h3;refine .cons ?_ ht;have:=RC.whole hD rfl hre;rwa [hι] at this
  ·have:=i9.pure_some h2;injection this with h3 h4;subst h3;refine .cons ?_ ht;obtain ⟨flat,fs,ho,_⟩:=hre;have:=RC.wholeO (F:=F) (D:=S.D) hD rfl ho;rwa [hι] at this
 | [],_,_::_,_,_,hc,_=>hc.elim
 | none::_,_,[],_,_,hc,_=>hc.elim
 | some _::_,_,[],_,_,hc,_=>hc.elim
theorem a64(h:o8 Γ F ι S a w):∀{oms:List (Option (Nat×PM))} {cargs:List Value} {vs:List V} {ms:List PM} {lg:List (Nat×Nat)},Z1 oms cargs Γ.pins->a46 oms S.ent=some ((vs,ms),lg)->∃cs,q8 (RV w F S.D ι) vs cs/\
  ∀{F1:Nat->Prop} {us:List V} {f:List Nat},BS w F1 us cs f->BO w F1 (a4W oms us) cargs f
 | [],_,vs,ms,lg,.nil _,hr=>by
  have:=i9.pure_some hr;injection this with h1 h2;injection h1 with h1 h3;subst h1;exact ⟨[],.nil,fun hb=>by cases hb;exact .nil⟩
 | none::oms,_,vs,ms,lg,.skip _ c cs _ t,hr=>by
  obtain ⟨cs',e1,e2⟩:=a64 h t hr;exact ⟨cs',e1,fun {F1 us f} hb=>.skip _ _ _ _ (e2 hb)⟩
 | some (j,.val ck om)::oms,_,vs,ms,lg,.agg _ _ _ _ ds cs _ hc t,hr=>by
  obtain ⟨xs,l1,l2,hxs,hp,_⟩:=i9.bind_some hr;obtain ⟨x,l3,l4,h1,h2,_⟩:=i9.bind_some hp;have:=i9.pure_some h2;injection this with h3 h4;injection h3 with h3 h5;subst h3;obtain ⟨cs',e1,e2⟩:=a64 h t h1;refine ⟨.agg ds.toArray::cs',.cons (.one _ _ (.agg _ _ (b6U h hc hxs))) e1,?_⟩;intro F1 us f hb;cases hb with
  | cons v c f vs cs fs h t=>exact .cons _ _ _ _ _ _ h (e2 t)
 | some (j,.val ck om)::oms,_,vs,ms,lg,.pin _ _ _ c cs _ hm hc t,hr=>by cases hm
 | some (j,.part)::oms,_,vs,ms,lg,.pin _ _ _ c cs _ hm hc t,hr=>by
  obtain ⟨e,l1,l2,hrd,hp,_⟩:=i9.bind_some hr;cases e<;>cases hp
 | some (j,.ptr ck om)::oms,_,vs,ms,lg,.pin _ _ _ c cs _ hm hc t,hr=>by
  obtain ⟨e,l1,l2,hrd,hp,_⟩:=i9.bind_some hr;have he:=(i9.rd_some hrd).1;simp only at he;have hD:=St.D_of_ent he;have hι:=(h.pins j c hc).2;have hre:=h.ents 0 j e he;cases e<;>try (cases hp;done)
  obtain ⟨x,l3,l4,h1,h2,_⟩:=i9.bind_some hp;have:=i9.pure_some h2;injection this with h3 h4;injection h3 with h3 h5;subst h3;obtain ⟨cs',e1,e2⟩:=a64 h t h1;obtain ⟨g,cur,q1,q2,q3⟩:=hre;refine ⟨c::cs',.cons (.one _ _ (.cell _ _ ?_)) e1,?_⟩
  ·rw [<-hι,q1];exact .ptr 0 j 0 g hD q1
  ·intro F1 us f hb;cases hb with
   | cons v c f vs cs fs h t=>exact .cons _ _ _ _ _ _ h (e2 t)
 | some (j,.row)::oms,_,vs,ms,lg,.pin _ _ _ c cs _ hm hc t,hr=>by
  obtain ⟨e,l1,l2,hrd,hp,_⟩:=i9.bind_some hr;have he:=(i9.rd_some hrd).1;simp only at he;have hD:=St.D_of_ent he;have hι:=(h.pins j c hc).2;have hre:=h.ents 0 j e he;cases e<;>try (cases hp;done)
  case row=>
   obtain ⟨x,l3,l4,h1,h2,_⟩:=i9.bind_some hp;have:=i9.pure_some h2;injection this with h3 h4;injection h3 with h3 h5;subst h3;obtain ⟨cs',e1,e2⟩:=a64 h t h1;refine ⟨c::cs',.cons (.one _ _ (.cell _ _ ?_)) e1,?_⟩
   ·have:=RC.whole hD rfl hre;rwa [hι] at this
   ·intro F1 us f hb;cases hb with
    | cons v c f vs cs fs h t=>exact .cons _ _ _ _ _ _ h (e2 t)
  case deep o _ _ _ _=>
   cases o<;>try (cases hp;done)
   obtain ⟨x,l3,l4,h1,h2,_⟩:=i9.bind_some hp;have:=i9.pure_some h2;injection this with h3 h4;injection h3 with h3 h5;subst h3;obtain ⟨cs',e1,e2⟩:=a64 h t h1;obtain ⟨flat,fs,ho,_⟩:=hre;refine ⟨c::cs',.cons (.one _ _ (.cell _ _ ?_)) e1,?_⟩
   ·have:=RC.wholeO (F:=F) (D:=S.D) hD rfl ho;rwa [hι] at this
   ·intro F1 us f hb;cases hb with
    | cons v c f vs cs fs h t=>exact .cons _ _ _ _ _ _ h (e2 t)
theorem q8.app{α β:Type}{R:α->β->Prop}:∀{w8 bs cs ds},q8 R w8 bs->q8 R cs ds->q8 R (w8++cs) (bs++ds)
 | _,_,_,_,.nil,k=>k
 | _,_,_,_,.cons hx t,k=>.cons hx (t.app k)
theorem BS.split:∀{c1 c2:List Value} {vs:List V} {f:List Nat},BS w F vs (c1++c2) f->∃f1 f2,f=f1++f2/\BS w F (vs.take c1.length) c1 f1/\BS w F (vs.drop c1.length) c2 f2
 | [],c2,vs,f,h=>⟨[],f,rfl,by simpa using .nil,by simpa using h⟩
 | c::c1,c2,_,_,.cons v _ f vs _ fs h t=>by
  obtain ⟨f1,f2,rfl,h1,h2⟩:=BS.split t;exact ⟨f++f1,f2,by simp,.cons _ _ _ _ _ _ h h1,h2⟩
theorem BS.pack{vs:List V}{cs:List Value}{f:List Nat}(h:BS w F vs cs f):BR w F (b0L vs) (a9E cs) f:=by
 cases h with
 | nil=>exact .tup _ _ _ .nil
 | cons v c f vs cs fs h t=>
  cases t with
  | nil=>rw [d9D];exact .one _ _ _ h
  | cons v' c' f' vs' cs' fs' h' t'=>exact .tup _ _ _ (.cons _ _ _ _ _ _ h (.cons _ _ _ _ _ _ h' t'))
theorem E6.ret{X:J3}{res:V}{outs:List (Option V)}{ps:List Prop}(hf:cx.P.funcs[X.f]?=some X.fn)(hr:b48 cx X k S=some (res,outs,ps))(hob:∀p∈ps,p):E6 cx X res outs k S:=by
 obtain ⟨r,n,lg,hR,rfl,rfl,rfl,hk⟩:∃r n lg,b6x cx X S.t S.ent=some ((r,n),lg)/\b0L (r.v.take n)=res/\a4W X.oms (r.v.drop n)=outs/\r.obl=ps/\(k=[]\/∃k',k=.code .ret::k'):=by
  unfold b48 at hr;split at hr<;>try (cases hr;done)
  all_goals
   split at hr<;>try (cases hr;done)
   rename_i r n lg hR;injection hr with hr;injection hr with h1 h2;injection h2 with h2 h3;first|exact ⟨r,n,lg,hR,h1,h2,h3,.inr ⟨_,rfl⟩⟩|exact ⟨r,n,lg,hR,h1,h2,h3,.inl rfl⟩
 intro w0 F0 fp cargs bs hp hF0 F ι a w b cs h hb1 hb2;unfold b6x at hR;obtain ⟨rv,l1,l2,g1,g2,_⟩:=i9.bind_some hR;obtain ⟨⟨ov,om⟩,l3,l4,g3,g4,_⟩:=i9.bind_some g2;obtain ⟨r',l5,l6,g5,g6,_⟩:=i9.bind_some g4;simp only at g6;split at g6<;>try (cases g6;done)
 rename_i hchk;have:=i9.pure_some g6;injection this with e1 e2;injection e1 with e1 e3;subst e1;subst e3;simp only [d82] at hchk;obtain ⟨⟨hnk,hls⟩,hlen⟩:=hchk;have hnk':=a23 hnk;have hdis:∀id∈r.ls,id ∉ r.ks:=fun id hid=>b2v (d86.1 hls id hid)
 obtain ⟨rcs,q1,q2⟩:=b75 h g1;obtain ⟨ocs,q3,q4⟩:=a64 h hp g3;let F1:Nat->Prop:=fun k=>F k\/∃id∈r.ls,∃e,S.ent id.1 id.2=some e/\EB w e (ι id.1 id.2) k
 obtain ⟨fpx,hbs,hfps,hhk,hhl⟩:=b8P (F1:=F1) h (fun k x=>.inl x) (q2.app q3) g5 hob (fun id hid e k he hk=>.inr ⟨id,hid,e,he,hk⟩);obtain ⟨f1,f2,hf12,b1,b2⟩:=hbs.split;have hl2:rcs.length=rv.length:=q2.length.symm;rw [hl2] at b1 b2;have hfpn:=G5.nodup h hfps hnk';have hF1lt:∀k,F1 k->k<w.heap.size:=by
  rintro k (x|⟨id,hid,e,he,hb⟩)
  ·exact h.F1 k x
  ·obtain ⟨e',he',hl'⟩:=hhl id hid;have:e=e':=by rw [he] at he';injection he'
   subst this;exact h.lt he hl' hb
 have hfin:c5f w0 F0 fp cargs (b0L (r.v.take rv.length)) (a4W X.oms (r.v.drop rv.length)) (.returned (a9E rcs)) w:=by
  refine ⟨a9E rcs,F1,f1,f2,rfl,h.kept,fun k x=>.inl (h.F0 k x),?_,b1.pack,q4 b2,?_,?_⟩
  ·rintro k x
   refine ⟨?_,hF1lt k x⟩;rcases x with x|⟨id,hid,e,he,hb⟩
   ·exact h.F2 k x
   ·obtain ⟨e',he',hl'⟩:=hhl id hid;have:e=e':=by rw [he] at he';injection he'
    subst this;exact .inr (h.sep _ _ _ k he hl' hb).2
  ·rw [<-hf12];exact hfpn
  ·intro k hk;rw [<-hf12] at hk;obtain ⟨id,hid,e,he,hl,hb⟩:=hfps.mem hk;obtain ⟨z1,z2⟩:=h.sep _ _ e k he hl hb;refine ⟨?_,z2,h.lt he hl hb⟩;rintro (x|⟨id',hid',e0,he0,hb'⟩)
   ·exact z1 x
   ·obtain ⟨e',he',hl'⟩:=hhl id' hid';have:e0=e':=by rw [he0] at he';injection he'
    subst this;obtain ⟨y1,y2⟩:=h.inj _ _ e _ _ _ k he he' hl hl' hb hb';have:id=id':=Prod.ext y1 y2;exact hdis id' hid' (this▸hid)
 have hres:=d10 (P:=cx.P) q1;rcases hk with rfl|⟨k',rfl⟩
 ·exact ⟨_,w,_,hfin,.one step_end,hb1,rfl,h.defers,hb2,X.fn,by show cx.P.funcs[b.fn]?=_;rw [hb1];exact hf,hres⟩
 ·exact ⟨_,w,_,hfin,.one step_ret,hb1,rfl,h.defers,hb2,X.fn,by show cx.P.funcs[b.fn]?=_;rw [hb1];exact hf,hres⟩
end
inductive Loc where
 | tmp (t:Nat)
 | sub (t i:Nat)
 | cell (g j i:Nat)
def St.get(S:St):Loc->Option V
 | .tmp t=>S.t[t]?
 | .sub t i=>match S.t[t]? with
  | some (.agg cs)=>cs[i]?
  | _=>none
 | .cell g j i=>match S.ent g j with
  | some (.var _ cs)=>cs[i]?
  | _=>none
def St.put(S:St)(l:Loc)(v:V):St:=
 match l with
 | .tmp t=>{S with t:=S.t.set t v}
 | .sub t i=>match S.t[t]? with
  | some (.agg cs)=>{S with t:=S.t.set t (.agg (cs.set i v))}
  | _=>S
 | .cell g j i=>match S.ent g j with
  | some (.var e cs)=>S.setE g j (.var e (cs.set i v))
  | _=>S
inductive Fix where
 | own (l:Loc) (e sz:Nat)
 | frz (l:Loc) (ck:Option Nat)
 | is (l:Loc) (v:V)
 | ent (g j:Nat) (e:n9)
 | plug (g j idx off:Nat) (r:List V) (e:Nat)
 | shut (g j n:Nat) (rows:List (List V))
 | ownD (l:Loc) (e sz:Nat)
 | kill (g j:Nat)
def V.isCell:V->Bool
 | .agg _ | .tup _ | .bot=>false
 | _=>true
def a31(f:Fix)(S:St):Option (St×List Prop):=
 match f with
 | .own l e sz=>match S.get l with
  | some .nil=>some (((S.more 1).lay S.h.length [.row e sz 0 []]).put l (.own S.h.length 0 sz 0 0),[])
  | _=>none
 | .frz l ck=>match S.get l with
  | some v=>if v.isCell then match fzP ck v S.ent with
   | some ((v',us,ps),_)=>some ((S.upds us).put l v',ps)
   | none=>none else none
  | none=>none
 | .is l v'=>match S.get l with
  | some v=>if v.isCell then some (S.put l v',[v=v']) else none
  | none=>none
 | .ent g j e'=>match S.ent g j with
  | some e=>some (S.setE g j e',[e=e'])
  | none=>none
 | .plug g j idx off r e=>match S.ent g j,r[off]? with
  | some (.deep o t sz n rows),some (.own g' j' sz' lo n')=>match M3 none (some e) (.own g' j' sz' lo n') S.ent with
   | some (f,_)=>if off+1<=sz/\a1p f.ks/\Z3 f.ks (g,j)=false then some (S.upds (B7 f.ks++[((g,j),.deep o t sz n (rows.set idx (u6 r off [f.v])))]),(rows[idx]?=some r)::f.obl) else none
   | none=>none
  | _,_=>none
 | .kill g j=>match S.ent g j with
  | some _=>some (S.setE g j .dead,[])
  | none=>none
 | .shut g j n' rows'=>match S.ent g j with
  | some (.deep o t sz n rows)=>some (S.setE g j (.deep false t sz n' rows'),[rows=rows',L2 rows',n=n'])
  | _=>none
 | .ownD l e sz=>match S.get l with
  | some .nil=>some (((S.more 1).lay S.h.length [.deep false e sz 0 []]).put l (.own S.h.length 0 sz 0 0),[])
  | _=>none
def a9d:List Fix->St->Option (St×List Prop)
 | [],S=>some (S,[])
 | f::fs,S=>match a31 f S with
  | some (S1,ps)=>match a9d fs S1 with
   | some (S2,qs)=>some (S2,ps++qs)
   | none=>none
  | none=>none
section
variable {cx:Cx} {Γ:I3} {F:Nat->Prop} {ι:Nat->Nat->Value} {S S':St} {a:Act} {w:World}
theorem RV.isCell{D:Nat->Prop}{v:V}{c:Value}(h:RV w F D ι v c)(hv:v.isCell=true):RC w F D ι v c:=by
 cases h with
 | one v c h=>
  cases h with
  | cell v c h=>exact h
  | agg cs ds h=>cases hv
 | tup cs ds h=>cases hv
 | any c=>cases hv
theorem o8.withT(h:o8 Γ F ι S a w){t:List V}(ht:q8 (RV w F S.D ι) t a.tmps.toList):o8 Γ F ι {S with t:=t} a w:=
 {F0:=h.F0,F1:=h.F1,F2:=h.F2,kept:=h.kept,tmps:=ht,ents:=h.ents,sep:=h.sep,inj:=h.inj,defers:=h.defers,pins:=h.pins}
theorem q8.set_left{α β:Type}{R:α->β->Prop}{w8:List α}{bs:List β}(h:q8 R w8 bs){i:Nat}{x y:α}(hx:w8[i]?=some x)(hy:∀b,R x b->R y b):q8 R (w8.set i y) bs:=by
 obtain ⟨b,hb,hr⟩:=h.get hx;have:=h.set i (hy b hr);rwa [T7 hb] at this
theorem o8.putL(h:o8 Γ F ι S a w){l:Loc}{v v':V}(hg:S.get l=some v)(hc:v.isCell=true)(hr:∀c,RC w F S.D ι v c->RC w F S.D ι v' c):o8 Γ F ι (S.put l v') a w:=by
 cases l with
 | tmp t=>
  exact h.withT (h.tmps.set_left hg fun c hv=>.one _ _ (.cell _ _ (hr c (hv.isCell hc))))
 | sub t i=>
  unfold St.get at hg;unfold St.put;simp only at hg ⊢;split at hg<;>try (cases hg;done)
  rename_i cs hcs;try rw [hcs]
  refine h.withT (h.tmps.set_left hcs fun c hv => ?_);cases hv with
  | one v c hv=>
   cases hv with
   | cell v c hv=>cases hv with|fv v c hv=>cases hv
   | agg cs ds hv=>exact .one _ _ (.agg _ _ (hv.set_left hg hr))
 | cell g j i=>
  unfold St.get at hg;unfold St.put;simp only at hg ⊢;split at hg<;>try (cases hg;done)
  rename_i e cs hcs;try rw [hcs]
  try simp only
  refine h.write hcs rfl ⟨rfl,rfl,rfl⟩ rfl (fun _ _=>rfl) (fun _ => ?_) (fun _ hk=>hk);obtain ⟨g0,cur,h1,h2,h3⟩:=h.ents g j _ hcs;exact ⟨g0,cur,h1,h2,(h3.set_left hg hr).imp fun _ _ x=>x.mono (fun _ _ _=>rfl) (fun _ y=>y) (fun k y=>L5.2 y) (fun _ _ _=>rfl)⟩
theorem b9w{grp:Nat}{new:List n9}{l:Loc}{v:V}(h:S.get l=some v)(hn:¬S.D grp):(S.lay grp new).get l=some v:=by
 cases l with
 | tmp t=>exact h
 | sub t i=>exact h
 | cell g j i=>
  unfold St.get at h ⊢;simp only at h ⊢;split at h<;>try (cases h;done)
  rename_i e cs hcs;have:g≠grp:=fun q=>hn (q▸St.D_of_ent hcs)
  rw [a4s this,hcs];exact h
theorem c2V{n:Nat}{l:Loc}{v:V}(h:S.get l=some v):(S.more n).get l=some v:=by
 cases l with
 | tmp t=>exact h
 | sub t i=>exact h
 | cell g j i=>
  unfold St.get at h ⊢;simp only at h ⊢;rw [a78];exact h
theorem d7e{e:Nat}{v:V}{H:Hp}{f:AR V}{lg:List (Nat×Nat)}(h:M3 none (some e) v H=some (f,lg)):f.ls=[]:=by
 unfold M3 at h;simp only at h;split at h
 ·have:=i9.pure_some h;injection this with h1 h2;rw [h1]
 cases v<;>try (cases h;done)
 case nil=>
  have:=i9.pure_some h;injection this with h1 h2;rw [h1]
 case own g j sz lo n=>
  cases lo with
  | succ q=>cases h
  | zero=>
   simp only at h;obtain ⟨en,l1,l2,hrd,hp,_⟩:=i9.bind_some h;cases en<;>try (cases hp;done)
   case row=>
    simp only at hp;split at hp<;>try (cases hp;done)
    have:=i9.pure_some hp;injection this with h1 h2;rw [h1]
   case deep o _ _ _ _=>
    cases o<;>try (cases hp;done)
    simp only at hp;split at hp<;>try (cases hp;done)
    have:=i9.pure_some hp;injection this with h1 h2;rw [h1]
theorem d1u{g j idx off e:Nat}{r:List V}{ps:List Prop}(h:o8 Γ F ι S a w)(hf:a31 (.plug g j idx off r e) S=some (S',ps))(hob:∀p∈ps,p):o8 Γ F ι S' a w:=by
 unfold a31 at hf;simp only at hf;split at hf<;>try (cases hf;done)
 rename_i o t sz n rows g' j' sz' lo n' he hv;split at hf<;>try (cases hf;done)
 rename_i f lg hm;split at hf<;>try (cases hf;done)
 rename_i hcond;injection hf with hf;injection hf with h1 h2;subst h1;subst h2;obtain ⟨hoff,hks,hgj⟩:=hcond;have hr:rows[idx]?=some r:=hob _ (by simp);obtain ⟨flat,fs,hor,hkl,hrn,hl,hnd,hnr⟩:=h.ents g j _ he;have hidx:=(d83.1 hr).1;have hpos:idx*sz+sz<=n*sz:=by rw [<-d9Y];exact d9z _ (by omega)
 have hle:idx*sz+off+1<=rows.flatten.length:=by rw [a14 hl,hrn];omega
 have hmid:(rows.flatten.drop (idx*sz+off)).take 1=[.own g' j' sz' lo n']:=by
  have:(rows.flatten.drop (idx*sz+off)).take 1=(r.drop off).take 1:=by
   rw [<-a9o hl hr,List.drop_take,List.take_take,e0u];congr 1
   omega
  rw [this];obtain ⟨hlt,hv'⟩:=d83.1 hv;rw [d9F hlt,hv'];rfl
 obtain ⟨fa,fm,fb,rfl,ka,km,kb⟩:=hkl.cut hle;rw [hmid] at km;obtain ⟨c,hc,hkc⟩:∃c,(flat.drop (idx*sz+off)).take 1=[c]/\RC w F S.D ι (.own g' j' sz' lo n') c:=by
  generalize (flat.drop (idx*sz+off)).take 1=cs at km;cases km with
  | cons v c f vs cs fs h t=>
   cases t;refine ⟨c,rfl,?_⟩;cases h with
   | rc h=>exact h
   | bc _ h=>cases h with
    | fv _ _ h=>exact .fv _ _ h
 obtain ⟨fp,hb,hfps,_⟩:=b5D (F1:=F) h (fun _ x=>x) hkc hm (fun p hp=>hob p (d88.2 (.inr hp))) (by rw [d7e hm];intro id hid;cases hid);have hbl:BL w F [f.v] [c] fp:=by
  have:=BL.cons _ _ _ _ _ _ hb .nil;simpa using this
 refine h.dput he hr (by simpa using hoff) hbl hfps (a23 hks) (fun q=>by rw [a3V.2 q] at hgj;cases hgj) ⟨rfl,rfl,rfl⟩ rfl (fun _ _=>rfl) ?_;intro flat2 ho2;have:=a6S ho2 hor (fun _ _=>rfl);subst this;have e1:u6 flat2 (idx*sz+off) [c]=flat2:=by
  unfold u6;rw [<-hc,d9k];have hl1:((flat2.drop (idx*sz+off)).take 1).length=1:=by rw [hc];rfl
  rw [hl1];have e2:∀k:Nat,flat2.take k++((flat2.drop k).take 1++flat2.drop (k+1))=flat2:=fun k=>by
   rw [<-e0u,d9Q,d9Q]
  exact e2 _
 rw [e1];exact ho2
theorem d0q{g j n':Nat}{rows':List (List V)}{ps:List Prop}(h:o8 Γ F ι S a w)(hf:a31 (.shut g j n' rows') S=some (S',ps))(hob:∀p∈ps,p):o8 Γ F ι S' a w:=by
 unfold a31 at hf;simp only at hf;split at hf<;>try (cases hf;done)
 rename_i o t sz n rows he;injection hf with hf;injection hf with h1 h2;subst h1;subst h2;have hrr:rows=rows':=hob _ (by simp);have hnr:L2 rows':=hob _ (by simp);have hnn:n=n':=hob _ (by simp);subst hrr;subst hnn;refine h.write he rfl ⟨rfl,rfl,rfl⟩ rfl (fun _ _=>rfl) (fun _ => ?_) (fun k hk=>hk);obtain ⟨flat,fs,q1,q2,q3,q4,q5,q6⟩:=h.ents g j _ he;exact ⟨flat,fs,q1,q2.mono (fun _ _ _=>rfl) (fun _ x=>x) (fun k x=>L5.2 x) (fun _ _ _=>rfl) (fun _ _=>rfl),q3,q4,q5,fun _=>hnr⟩
theorem d6n{f:Fix}{ps:List Prop}(h:o8 Γ F ι S a w)(hf:a31 f S=some (S',ps))(hob:∀p∈ps,p):∃F' ι',o8 Γ F' ι' S' a w:=by
 unfold a31 at hf;split at hf
 ·rename_i l e sz;split at hf<;>try (cases hf;done)
  rename_i hg;injection hf with hf;injection hf with hf hf2;subst hf;have hn:¬(S.more 1).D S.h.length:=fun q=>by
   obtain ⟨x,hx⟩:=a6J.1 q;have:=(d83.1 hx).1;omega
  have hlen:S.h.length<(S.more 1).h.length:=by simp [St.more,a1Y]
  have hor:OR w F e sz (.slice none 0 0) 0 []:=⟨[],⟨by simp,.inl ⟨rfl,rfl⟩⟩,.nil,rfl,by simp⟩
  have hno:∀(j:Nat) (e':n9) (k:Nat),([.row e sz 0 []]:List n9)[j]?=some e'->EB w e' (G3 ι S.h.length (.slice none 0 0) S.h.length j) k->False:=by
   intro j e' k he hk;rw [I5] at hk;cases j with
   | zero=>
    simp at he;subst he;cases hk
   | succ j=>simp at he
  have h1:=(h.more 1).lay hlen hn (new:=[.row e sz 0 []]) (ι':=G3 ι S.h.length (.slice none 0 0)) (fun g j q=>a6q q)
   (fun j e' he=>by
    cases j with
    | zero=>
     simp at he;subst he;rw [I5];exact hor
    | succ j=>simp at he)
   (fun j e' k he hl hk=>(hno j e' k he hk).elim)
   (fun j e' j' e'' k he he' hl hl' hk hk'=>(hno j e' k he hk).elim)
   (fun j e' g' j' e'' k he he' hl hl' hk=>(hno j e' k he hk).elim)
  refine ⟨F,_,h1.putL (b9w (c2V hg) hn) rfl fun c hc => ?_⟩;have hcn:c=.slice none 0 0:=by
   cases hc with
   | fv v c hc=>cases hc;rfl
  subst hcn;exact RC.whole (V5 hlen) I5 hor
 ·rename_i l ck;split at hf<;>try (cases hf;done)
  rename_i v hg;split at hf<;>try (cases hf;done)
  rename_i hcell;split at hf<;>try (cases hf;done)
  rename_i v' us fps lg hz;injection hf with hf;injection hf with hf hf2;subst hf;subst hf2;have hfr:∀c,RC w F S.D ι v c->∃F',(∀k,F k->F' k)/\o8 Γ F' ι (S.upds us) a w/\V8 S (S.upds us)/\FV w F' v' c:=fun c hc=>a7R h (V8.refl S) hc hz hob
  have hat:∃c,RC w F S.D ι v c:=by
   cases l with
   | tmp t=>
    obtain ⟨c,_,hv⟩:=h.tmps.get hg;exact ⟨c,hv.isCell hcell⟩
   | sub t i=>
    unfold St.get at hg;simp only at hg;split at hg<;>try (cases hg;done)
    rename_i cs hcs;obtain ⟨c,_,hv⟩:=h.tmps.get hcs;cases hv with
    | one v c hv=>
     cases hv with
     | cell v c hv=>cases hv with|fv v c hv=>cases hv
     | agg cs ds hv=>
      obtain ⟨c,_,hv⟩:=hv.get hg;exact ⟨c,hv⟩
   | cell g j i=>
    unfold St.get at hg;simp only at hg;split at hg<;>try (cases hg;done)
    rename_i e cs hcs;obtain ⟨g0,cur,h1,h2,h3⟩:=h.ents g j _ hcs;obtain ⟨c,_,hv⟩:=h3.get hg;exact ⟨c,hv⟩
  obtain ⟨c0,hc0⟩:=hat;obtain ⟨F',hF,hrel,hfz,hfv⟩:=hfr c0 hc0;clear hfr hfv;cases l with
  | tmp t=>
   obtain ⟨c,hct,hv⟩:=h.tmps.get hg;obtain ⟨F',hF,hrel,hfz,hfv⟩:=a7R h (V8.refl S) (hv.isCell hcell) hz hob;refine ⟨F',ι,?_⟩;have ht:(S.upds us).t=S.t:=hfz.2.2.1;show o8 Γ F' ι {S.upds us with t:=(S.upds us).t.set t v'} a w
   refine hrel.withT ?_;have:=hrel.tmps.set t (b:=c) (.one _ _ (.cell _ _ (.fv _ _ hfv)));rwa [T7 hct] at this
  | sub t i=>
   unfold St.get at hg;simp only at hg;split at hg<;>try (cases hg;done)
   rename_i cs hcs;obtain ⟨c,hct,hv⟩:=h.tmps.get hcs;cases hv with
   | one v c hv=>
    cases hv with
    | cell v c hv=>cases hv with|fv v c hv=>cases hv
    | agg cs ds hv=>
     obtain ⟨c,hci,hvi⟩:=hv.get hg;obtain ⟨F',hF,hrel,hfz,hfv⟩:=a7R h (V8.refl S) hvi hz hob;refine ⟨F',ι,?_⟩;have ht:(S.upds us).t=S.t:=hfz.2.2.1;unfold St.put;simp only [ht,hcs];have h2:=hrel.tmps;rw [ht] at h2;have:=hrel.withT (t:=S.t.set t (.agg (cs.set i v'))) ?_
     ·exact this
     ·have hagg:=h2.get hcs;obtain ⟨c',hct',hv'⟩:=hagg;rw [hct] at hct';injection hct' with hct';have hv2:q8 (RC w F' (S.upds us).D ι) cs ds:=by
       refine hv.imp fun _ _ x=>x.mono (fun _ _ _=>rfl) hF (fun k y=>(T8 S k us).2 y) (fun _ _ _=>rfl)
      have hset:=hv2.set i (b:=c) (.fv _ _ hfv);rw [T7 hci] at hset;have:=h2.set t (b:=.agg ds.toArray) (.one _ _ (.agg _ _ hset));rwa [T7 hct] at this
  | cell g j i=>
   unfold St.get at hg;simp only at hg;split at hg<;>try (cases hg;done)
   rename_i e cs hcs;obtain ⟨g0,cur,q1,q2,q3⟩:=h.ents g j _ hcs;obtain ⟨c,hci,hvi⟩:=q3.get hg;obtain ⟨F',hF,hrel,hfz,hfv⟩:=a7R h (V8.refl S) hvi hz hob;refine ⟨F',ι,?_⟩;have hcs':(S.upds us).ent g j=some (.var e cs):=by
    rcases hfz.2.2.2 _ _ _ hcs with q|⟨e',sz,n,rows,q,_⟩
    ·exact q
    ·cases q
   unfold St.put;simp only [hcs'];refine hrel.write hcs' rfl ⟨rfl,rfl,rfl⟩ rfl (fun _ _=>rfl) (fun _ => ?_) (fun _ hk=>hk);have hset:=(q3.imp fun _ _ x=>RC.mono (D':=((S.upds us).setE g j (.var e (cs.set i v'))).D) (F':=F') (w':=w) (ι':=ι) (fun _ _ _=>rfl) hF (fun k y=>L5.2 ((T8 S k us).2 y)) (fun _ _ _=>rfl) x).set i (b:=c) (.fv _ _ hfv);rw [T7 hci] at hset;exact ⟨g0,cur,q1,q2,hset⟩
 ·rename_i l v';split at hf<;>try (cases hf;done)
  rename_i v hg;split at hf<;>try (cases hf;done)
  rename_i hcell;injection hf with hf;injection hf with hf hf2;subst hf;subst hf2;have:v=v':=hob _ (by simp);subst this;exact ⟨F,ι,h.putL hg hcell fun _ x=>x⟩
 ·rename_i g j e';split at hf<;>try (cases hf;done)
  rename_i e he;injection hf with hf;injection hf with hf hf2;subst hf;subst hf2;have:e=e':=hob _ (by simp);subst this;have hset:S.setE g j e=S:=by
   obtain ⟨l,hl⟩:=St.D_of_ent he;rw [a1a hl];rw [Z4 hl] at he;rw [T7 he,T7 hl]
  rw [hset];exact ⟨F,ι,h⟩
 ·rename_i g j idx off r e;exact ⟨F,ι,d1u (g:=g) (j:=j) (idx:=idx) (off:=off) (r:=r) (e:=e) h hf hob⟩
 ·rename_i g j;split at hf<;>try (cases hf;done)
  rename_i e he;injection hf with hf;injection hf with hf hf2;subst hf;exact ⟨F,ι,h.kill he⟩
 ·rename_i g j n' rows';exact ⟨F,ι,d0q (g:=g) (j:=j) (n':=n') (rows':=rows') h hf hob⟩
 ·rename_i l e sz;split at hf<;>try (cases hf;done)
  rename_i hg;injection hf with hf;injection hf with hf hf2;subst hf;have hn:¬(S.more 1).D S.h.length:=fun q=>by
   obtain ⟨x,hx⟩:=a6J.1 q;have:=(d83.1 hx).1;omega
  have hlen:S.h.length<(S.more 1).h.length:=by simp [St.more,a1Y]
  have hor:OR w F e sz (.slice none 0 0) 0 []:=⟨[],⟨by simp,.inl ⟨rfl,rfl⟩⟩,.nil,rfl,by simp⟩
  have hno:∀(j:Nat) (e':n9) (k:Nat),([.deep false e sz 0 []]:List n9)[j]?=some e'->EB w e' (G3 ι S.h.length (.slice none 0 0) S.h.length j) k->False:=by
   intro j e' k he hk;rw [I5] at hk;cases j with
   | zero=>
    simp at he;subst he;have:=(EB.deep_iff (F:=F) (D:=S.D) (ι:=ι) (flat:=[]) (fs:=[]) ⟨by simp,.inl ⟨rfl,rfl⟩⟩ .nil).1 hk;simp [A5,w9] at this
   | succ j=>simp at he
  have h1:=(h.more 1).lay hlen hn (new:=[.deep false e sz 0 []]) (ι':=G3 ι S.h.length (.slice none 0 0)) (fun g j q=>a6q q)
   (fun j e' he=>by
    cases j with
    | zero=>
     simp at he;subst he;rw [I5];exact ⟨[],[],⟨by simp,.inl ⟨rfl,rfl⟩⟩,.nil,rfl,by simp,by simp [A5,w9],fun _=>by simp [L2]⟩
    | succ j=>simp at he)
   (fun j e' k he hl hk=>(hno j e' k he hk).elim)
   (fun j e' j' e'' k he he' hl hl' hk hk'=>(hno j e' k he hk).elim)
   (fun j e' g' j' e'' k he he' hl hl' hk=>(hno j e' k he hk).elim)
  refine ⟨F,_,h1.putL (b9w (c2V hg) hn) rfl fun c hc => ?_⟩;have hcn:c=.slice none 0 0:=by
   cases hc with
   | fv v c hc=>cases hc;rfl
  subst hcn;exact RC.whole (V5 hlen) I5 hor
theorem d7G(fs:List Fix):∀{S:St} {F:Nat->Prop} {ι:Nat->Nat->Value} {ps:List Prop},o8 Γ F ι S a w->a9d fs S=some (S',ps)->(∀p∈ps,p)->∃F' ι',o8 Γ F' ι' S' a w:=by
 induction fs with
 | nil=>
  intro S F ι ps h hf hob;injection hf with hf;injection hf with hf hf2;subst hf;exact ⟨F,ι,h⟩
 | cons f fs ih=>
  intro S F ι ps h hf hob;unfold a9d at hf;cases h1:a31 f S with
  | none=>rw [h1] at hf;cases hf
  | some x1=>
  obtain ⟨S1,ps1⟩:=x1;rw [h1] at hf;simp only at hf;cases h2:a9d fs S1 with
  | none=>rw [h2] at hf;cases hf
  | some x2=>
  obtain ⟨S2,ps2⟩:=x2;rw [h2] at hf;simp only at hf;injection hf with hf;injection hf with hf hf2;subst hf;subst hf2;obtain ⟨F1,ι1,h3⟩:=d6n h h1 (fun p hp=>hob p (d80.2 (.inl hp)));exact ih h3 h2 (fun p hp=>hob p (d80.2 (.inr hp)))
end
def a5c:List (Nat×Nat)->Nat×Nat->Nat->Option Nat
 | [],_,_=>none
 | y::l,x,i=>if y.1==x.1&&y.2==x.2 then some i else a5c l x (i+1)
def a6b(gs:List (Nat×Nat))(g j:Nat):Option (Nat×Nat):=
 match a5c gs (g,j) 1 with
 | some i=>some (i,0)
 | none=>match g with
  | 0=>some (0,j)
  | _+1=>none
def P6(gs:List (Nat×Nat))(v:V):V:=
 match v with
 | .own g j sz lo n=>match a6b gs g j with
  | some (g',j')=>.own g' j' sz lo n
  | none=>.bot
 | .ptr g j off=>match a6b gs g j with
  | some (g',j')=>.ptr g' j' off
  | none=>.bot
 | .eptr g j sz idx off=>match a6b gs g j with
  | some (g',j')=>.eptr g' j' sz idx off
  | none=>.bot
 | .fptr _=>.bot
 | .mp g j=>match a6b gs g j with
  | some (g',j')=>.mp g' j'
  | none=>.bot
 | v=>v
def a9x(gs:List (Nat×Nat))(v:V):V:=
 match v with
 | .agg cs=>.agg (cs.map (P6 gs))
 | v=>P6 gs v
def b64(gs:List (Nat×Nat))(v:V):V:=
 match v with
 | .tup cs=>.tup (cs.map (a9x gs))
 | v=>a9x gs v
def a4Y(gs:List (Nat×Nat))(e:n9):n9:=
 match e with
 | .var e cs=>.var e (cs.map (P6 gs))
 | .deep true _ _ _ _=>.dead
 | e=>e
def a48(gs:List (Nat×Nat)):Nat->List Nat->List V->List V
 | _,_,[]=>[]
 | i,[],_::vs=>.bot::a48 gs (i+1) [] vs
 | i,k::ks,v::vs=>if Nat.beq k i then b64 gs v::a48 gs (i+1) ks vs else .bot::a48 gs (i+1) (k::ks) vs
def a4z(S:St)(gs0:List (Nat×Nat)):List (Nat×Nat)->List (Option (List n9))
 | []=>[]
 | id::gs=>some [match S.ent id.1 id.2 with
  | some e=>a4Y gs0 e
  | none=>.dead]::a4z S gs0 gs
def a57(gs:List (Nat×Nat)):Nat->List n9->List n9
 | _,[]=>[]
 | j,e::es=>(match a5c gs (0,j) 1 with
  | some _=>.dead
  | none=>a4Y gs e)::a57 gs (j+1) es
def Y1(keep:List Nat)(gs:List (Nat×Nat))(S:St):Option St:=
 if a1p gs then
  some {t:=a48 gs 0 keep S.t,h:=(match S.h with
   | some l::_=>some (a57 gs 0 l)
   | _=>none)::a4z S gs gs}
 else none
section
variable {cx:Cx} {Γ:I3} {F:Nat->Prop} {ι:Nat->Nat->Value} {S S':St} {a:Act} {w:World} {keep:List Nat}
theorem c0y:∀{l:List (Nat×Nat)} {x:Nat×Nat} {i k:Nat},a5c l x i=some k->i<=k/\l[k-i]?=some x
 | [],x,i,k,h=>by cases h
 | y::l,x,i,k,h=>by
  unfold a5c at h;split at h
  ·rename_i q;injection h with h;subst h;simp at q;have:y=x:=Prod.ext q.1 q.2;exact ⟨d9B _,by simp [this]⟩
  ·obtain ⟨h1,h2⟩:=c0y h;refine ⟨by omega,?_⟩;have:k-i=(k-(i+1))+1:=by omega
   rw [this];simpa using h2
def a2n(ι:Nat->Nat->Value)(gs:List (Nat×Nat))(g j:Nat):Value:=
 match g with
 | 0=>ι 0 j
 | g+1=>match gs[g]? with
  | some id=>ι id.1 id.2
  | none=>.nilFunc
theorem b65{gs0:List (Nat×Nat)}:∀{gs:List (Nat×Nat)} {i:Nat} {id:Nat×Nat},gs[i]?=some id->(a4z S gs0 gs)[i]?=some (some [match S.ent id.1 id.2 with
  | some e=>a4Y gs0 e
  | none=>.dead])
 | id'::gs,0,id,h=>by simp at h;subst h;simp [a4z]
 | id'::gs,i+1,id,h=>by simp at h;simp [a4z,b65 h]
theorem c1r{gs0:List (Nat×Nat)}:∀{gs:List (Nat×Nat)},(a4z S gs0 gs).length=gs.length
 | []=>rfl
 | _::gs=>by simp [a4z,c1r]
theorem b8q{gs:List (Nat×Nat)}(hp:Y1 keep gs S=some S')(hD:S.D 0):S'.D 0:=by
 unfold Y1 at hp;split at hp<;>try (cases hp;done)
 injection hp with hp;subst hp;obtain ⟨l,hl⟩:=hD;have:∃t,S.h=some l::t:=by
  cases hh:S.h with
  | nil=>rw [hh] at hl;simp at hl
  | cons x t=>rw [hh] at hl;simp at hl;exact ⟨t,by rw [hl]⟩
 obtain ⟨t,ht⟩:=this;rw [ht];exact ⟨_,rfl⟩
theorem a9s{gs:List (Nat×Nat)}(hp:Y1 keep gs S=some S'){g j g' j':Nat}(hn:a6b gs g j=some (g',j'))(hD:S.D g):S'.D g'/\a2n ι gs g' j'=ι g j:=by
 unfold a6b at hn;split at hn
 ·rename_i i hi;injection hn with hn;injection hn with h1 h2;subst h1;subst h2;unfold Y1 at hp;split at hp<;>try (cases hp;done)
  injection hp with hp;subst hp;obtain ⟨h3,h4⟩:=c0y hi;obtain ⟨m,rfl⟩:∃m,i=m+1:=⟨i-1,by omega⟩
  simp only [Nat.add_sub_cancel] at h4;refine ⟨⟨_,(e0g).trans (b65 h4)⟩,?_⟩;simp [a2n,h4]
 ·split at hn<;>try (cases hn;done)
  injection hn with hn;injection hn with h1 h2;subst h1;subst h2;exact ⟨b8q hp hD,rfl⟩
theorem b9q:∀{l:List (Nat×Nat)} {x:Nat×Nat} {i:Nat},a5c l x i=none->x ∉ l
 | [],x,i,_=>by simp
 | y::l,x,i,h=>by
  unfold a5c at h;split at h
  ·cases h
  ·rename_i q;intro hx;rcases d88.1 hx with rfl|hx
   ·simp at q
   ·exact b9q h hx
theorem c3r{gs:List (Nat×Nat)}:∀{l:List n9} {i j:Nat} {e:n9},(a57 gs i l)[j]?=some e->e=.dead\/∃e0,l[j]?=some e0/\e=a4Y gs e0/\(0,i+j) ∉ gs
 | [],i,j,e,h=>by simp [a57] at h
 | e1::l,i,0,e,h=>by
  simp only [a57,e0y] at h;injection h with h;split at h
  ·exact .inl h.symm
  ·rename_i hq;exact .inr ⟨e1,rfl,h.symm,by simpa using b9q hq⟩
 | e1::l,i,j+1,e,h=>by
  simp only [a57,e0g] at h;rcases c3r h with h1|⟨e0,h1,h2,h3⟩
  ·exact .inl h1
  ·exact .inr ⟨e0,by simpa using h1,h2,by rw [show i+(j+1)=i+1+j by omega];exact h3⟩
theorem RC.ren{gs:List (Nat×Nat)}(hp:Y1 keep gs S=some S'){v:V}{c:Value}(h:RC w F S.D ι v c):RC w F S'.D (a2n ι gs) (P6 gs v) c:=by
 cases h with
 | fv v c h=>
  have:P6 gs v=v:=by cases h<;>rfl
  rw [this];exact .fv _ _ h
 | own g j sz lo n b nn cap hD hι hlo hb0 hb1=>
  unfold P6;simp only;split
  ·rename_i g' j' hn;obtain ⟨h1,h2⟩:=a9s (ι:=ι) hp hn hD;exact .own g' j' sz lo n b nn cap h1 (h2.trans hι) hlo hb0 hb1
  ·exact .fv _ _ (.bot _ rfl)
 | own0 g j sz lo b cap hD hlo=>
  unfold P6;simp only;split
  ·rename_i g' j' hn;obtain ⟨h1,h2⟩:=a9s (ι:=ι) hp hn hD;exact .own0 g' j' sz lo b cap h1 hlo
  ·exact .fv _ _ (.bot _ rfl)
 | ptr g j off w9 hD hι=>
  unfold P6;simp only;split
  ·rename_i g' j' hn;obtain ⟨h1,h2⟩:=a9s (ι:=ι) hp hn hD;exact .ptr g' j' off w9 h1 (h2.trans hι)
  ·exact .fv _ _ (.bot _ rfl)
 | eptr g j sz idx off b hD hι=>
  unfold P6;simp only;split
  ·rename_i g' j' hn;obtain ⟨h1,h2⟩:=a9s (ι:=ι) hp hn hD;exact .eptr g' j' sz idx off b h1 (by rw [h2];exact hι)
  ·exact .fv _ _ (.bot _ rfl)
 | fptr cs g o ds hF h hs=>exact .fv _ _ (.bot _ rfl)
 | mp g j w9 hD hι=>
  unfold P6;simp only;split
  ·rename_i g' j' hn;obtain ⟨h1,h2⟩:=a9s (ι:=ι) hp hn hD;exact .mp g' j' w9 h1 (h2.trans hι)
  ·exact .fv _ _ (.bot _ rfl)
theorem q8.maps{α α' β:Type}{R:α->β->Prop}{R':α'->β->Prop}(f:α->α')(hf:∀x y,R x y->R' (f x) y):∀{w8 bs},q8 R w8 bs->q8 R' (w8.map f) bs
 | _,_,.nil=>.nil
 | _,_,.cons h t=>.cons (hf _ _ h) (t.maps f hf)
theorem RA.ren{gs:List (Nat×Nat)}(hp:Y1 keep gs S=some S'){v:V}{c:Value}(h:RA w F S.D ι v c):RA w F S'.D (a2n ι gs) (a9x gs v) c:=by
 cases h with
 | cell v c h=>
  have:a9x gs v=P6 gs v:=by
   cases h with
   | fv v c h=>cases h<;>rfl
   | _=>rfl
  rw [this];exact .cell _ _ (h.ren hp)
 | agg cs ds h=>exact .agg _ _ (h.maps _ fun _ _ x=>x.ren hp)
theorem RV.ren{gs:List (Nat×Nat)}(hp:Y1 keep gs S=some S'){v:V}{c:Value}(h:RV w F S.D ι v c):RV w F S'.D (a2n ι gs) (b64 gs v) c:=by
 cases h with
 | one v c h=>
  have:b64 gs v=a9x gs v:=by
   cases h with
   | cell v c h=>
    cases h with
    | fv v c h=>cases h<;>rfl
    | _=>rfl
   | agg cs ds h=>rfl
  rw [this];exact .one _ _ (h.ren hp)
 | tup cs ds h=>exact .tup _ _ (h.maps _ fun _ _ x=>x.ren hp)
 | any c=>exact .any c
theorem b3a{gs:List (Nat×Nat)}(hp:Y1 keep gs S=some S'):∀{vs:List V} {cs:List Value},q8 (RV w F S.D ι) vs cs->∀(i:Nat) (ks:List Nat),q8 (RV w F S'.D (a2n ι gs)) (a48 gs i ks vs) cs
 | _,_,.nil,i,ks=>by cases ks<;>exact .nil
 | _,_,.cons h t,i,[]=>.cons (.any _) (b3a hp t _ _)
 | _,_,.cons h t,i,k::ks=>by
  unfold a48;split
  ·exact .cons (h.ren hp) (b3a hp t _ _)
  ·exact .cons (.any _) (b3a hp t _ _)
theorem b2E{gs:List (Nat×Nat)}(hp:Y1 keep gs S=some S'){g j:Nat}{e:n9}(he:S'.ent g j=some e):e=.dead\/∃g0 j0 e0,S.ent g0 j0=some e0/\e=a4Y gs e0/\a2n ι gs g j=ι g0 j0/\((g=0/\g0=0/\j=j0/\(0,j) ∉ gs)\/(∃i,g=i+1/\j=0/\gs[i]?=some (g0,j0))):=by
 unfold Y1 at hp;split at hp<;>try (cases hp;done)
 injection hp with hp;subst hp;cases g with
 | zero=>
  unfold St.ent at he;simp only [e0y] at he;split at he<;>try (cases he;done)
  rename_i l hl;injection hl with hl;split at hl<;>try (cases hl;done)
  rename_i l0 t hh;injection hl with hl;subst hl;rcases c3r he with h1|⟨e0,h1,h2,h3⟩
  ·exact .inl h1
  ·exact .inr ⟨0,j,e0,by unfold St.ent;rw [hh];exact h1,h2,rfl,.inl ⟨rfl,rfl,rfl,by simpa using h3⟩⟩
 | succ i=>
  unfold St.ent at he;simp only [e0g] at he;split at he<;>try (cases he;done)
  rename_i l hl;have hlt:i<gs.length:=by
   have:=(d83.1 hl).1;rwa [c1r] at this
  have hgi:gs[i]?=some gs[i]:=d8Z hlt;generalize gs[i]=id at hgi;rw [b65 hgi] at hl;injection hl with hl;injection hl with hl;subst hl;cases j with
  | succ j=>simp at he
  | zero=>
   simp only [e0y] at he;injection he with he;cases hx:S.ent id.1 id.2 with
   | none=>rw [hx] at he;exact .inl he.symm
   | some e0=>
    rw [hx] at he;exact .inr ⟨id.1,id.2,e0,hx,he.symm,by simp [a2n,hgi],.inr ⟨i,rfl,rfl,hgi⟩⟩
theorem d4r{α:Type}{l:List α}(h:l.Nodup){i j:Nat}{x:α}(hi:l[i]?=some x)(hj:l[j]?=some x):i=j:=by
 obtain ⟨h1,h2⟩:=d83.1 hi;obtain ⟨h3,h4⟩:=d83.1 hj;exact (List.getElem_inj h).1 (h2.trans h4.symm)
theorem c66{gs:List (Nat×Nat)}(h:o8 Γ F ι S a w)(hp:Y1 keep gs S=some S'):∃ι',o8 Γ F ι' S' a w:=by
  have hnd:gs.Nodup:=by
    unfold Y1 at hp;split at hp<;>try (cases hp;done)
    rename_i hchk;exact a23 hchk
  have hlive:∀e:n9,(a4Y gs e).live=true->e.live=true/\∀c k,EB w (a4Y gs e) c k->EB w e c k:=by
    intro e he;cases e with
    | deep o e sz n rows=>
      cases o with
      | true=>cases he
      | false=>exact ⟨rfl,fun _ _ hk=>hk⟩
    | _=>exact ⟨he,fun _ _ hk=>hk⟩
  have ht:S'.t=a48 gs 0 keep S.t:=by
    unfold Y1 at hp;split at hp<;>try (cases hp;done)
    injection hp with hp;subst hp;rfl
  refine ⟨a2n ι gs,?_⟩;exact
    { F0:=h.F0,F1:=h.F1,F2:=h.F2,kept:=h.kept
      tmps:=by rw [ht];exact b3a hp h.tmps 0 keep
      ents:=fun g j e he=>by
        rcases b2E (ι:=ι) hp he with rfl|⟨g0,j0,e0,h0,rfl,h2,_⟩
        · trivial
        · rw [h2];have hr:=h.ents _ _ _ h0;cases e0 with
          | var e cs=>
            obtain ⟨g1,cur,q1,q2,q3⟩:=hr;exact ⟨g1,cur,q1,q2,q3.maps _ fun _ _ x=>x.ren hp⟩
          | dead=>exact hr
          | arr e sz n rows=>exact hr
          | row e sz n rows=>exact hr
          | frz sz n rows=>exact hr
          | map t m es=>exact hr
          | deep o e sz n rows=>
            cases o with
            | true=>trivial
            | false=>
              obtain ⟨flat,fs,q1,q2,q3,q4,q5,q6⟩:=hr;exact ⟨flat,fs,q1,(q2.blOf (q6 rfl).flat).kl,q3,q4,q5,q6⟩
      sep:=fun g j e k he hl hk=>by
        rcases b2E (ι:=ι) hp he with rfl|⟨g0,j0,e0,h0,rfl,h2,_⟩
        · cases hl
        · rw [h2] at hk;exact h.sep _ _ _ k h0 (hlive _ hl).1 ((hlive _ hl).2 _ _ hk)
      inj:=fun g1 j1 e1 g2 j2 e2 k he1 he2 hl1 hl2 hk1 hk2=>by
        rcases b2E (ι:=ι) hp he1 with rfl|⟨x1,y1,z1,a1,rfl,b1,c1⟩
        · cases hl1
        rcases b2E (ι:=ι) hp he2 with rfl|⟨x2,y2,z2,a2,rfl,b2,c2⟩
        · cases hl2
        rw [b1] at hk1;rw [b2] at hk2;obtain ⟨q1,q2⟩:=h.inj _ _ _ _ _ _ k a1 a2 (hlive _ hl1).1 (hlive _ hl2).1 ((hlive _ hl1).2 _ _ hk1) ((hlive _ hl2).2 _ _ hk2);rcases c1 with ⟨u1,u2,u3,u4⟩|⟨i1,u1,u2,u3⟩<;>rcases c2 with ⟨v1,v2,v3,v4⟩|⟨i2,v1,v2,v3⟩
        · exact ⟨by omega,by omega⟩
        · refine absurd (d9a v3) ?_;rw [<-q1,<-q2,u2,<-u3];exact u4
        · refine absurd (d9a u3) ?_;rw [q1,q2,v2,<-v3];exact v4
        · rw [q1,q2] at u3;have:=d4r hnd u3 v3;exact ⟨by omega,by omega⟩
      defers:=h.defers
      pins:=fun j c hc=>by
        obtain ⟨h1,h2⟩:=h.pins j c hc;exact ⟨b8q hp h1,h2⟩}
end
def a5Z(cx:Cx)(k:List Item)(S:St)(sc:O1)(fs:List Fix)(keep:List Nat)(gs:List (Nat×Nat)):Option (List Item×St×List Prop):=
 match goM cx 4000 k S sc with
 | some (k1,S1,ps)=>match a9d fs S1 with
  | some (S2,qs)=>match Y1 keep gs S2 with
   | some S3=>some (k1,S3,ps++qs)
   | none=>none
  | none=>none
 | none=>none
theorem E6.seg0{cx:Cx}{X:J3}{res:V}{outs:List (Option V)}{k k':List Item}{S S':St}{sc:O1}{fs:List Fix}{keep:List Nat}{gs:List (Nat×Nat)}{ps:List Prop}(hg:a5Z cx k S sc fs keep gs=some (k',S',ps))(hob:∀p∈ps,p)(h:E6 cx X res outs k' S'):E6 cx X res outs k S:=by
 unfold a5Z at hg;split at hg<;>try (cases hg;done)
 rename_i k1 S1 ps' h1;split at hg<;>try (cases hg;done)
 rename_i S2 qs h2;split at hg<;>try (cases hg;done)
 rename_i S3 h3;injection hg with hg;injection hg with e1 e2;injection e2 with e2 e3;subst e1;subst e2;subst e3;refine E6.go h1 (fun p hp=>hob p (d80.2 (.inl hp))) ?_;intro w0 F0 fp cargs bs hp hF0 F ι a w b cs hrel hb1 hb2;obtain ⟨F',ι',hrel'⟩:=d7G fs hrel h2 (fun p hp=>hob p (d80.2 (.inr hp)));obtain ⟨ι2,hrel2⟩:=c66 hrel' h3;exact h w0 F0 fp cargs bs hp hF0 F' ι2 a w b cs hrel2 hb1 hb2
def a60(cx:Cx)(X:J3)(k:List Item)(S:St)(sc:O1):Option (V×List (Option V)×List Prop):=
 match goM cx 4000 k S sc with
 | some (k1,S1,ps)=>match b48 cx X k1 S1 with
  | some (res,outs,qs)=>some (res,outs,ps++qs)
  | none=>none
 | none=>none
theorem E6.fin0{cx:Cx}{X:J3}{res:V}{outs:List (Option V)}{k:List Item}{S:St}{sc:O1}{ps:List Prop}(hf:cx.P.funcs[X.f]?=some X.fn)(hg:a60 cx X k S sc=some (res,outs,ps))(hob:∀p∈ps,p):E6 cx X res outs k S:=by
 unfold a60 at hg;split at hg<;>try (cases hg;done)
 rename_i k1 S1 ps' h1;split at hg<;>try (cases hg;done)
 rename_i r o qs h2;injection hg with hg;injection hg with e1 e2;injection e2 with e2 e3;subst e1;subst e2;subst e3;exact E6.go h1 (fun p hp=>hob p (d80.2 (.inl hp))) (E6.ret hf h2 fun p hp=>hob p (d80.2 (.inr hp)))
def J1:List Prop->Prop
 | []=>True
 | p::ps=>p/\J1 ps
theorem J1.mem:∀{ps:List Prop},J1 ps->∀p∈ps,p
 | _::_,h,p,hp=>by
  rcases d88.1 hp with rfl|hp
  ·exact h.1
  ·exact J1.mem h.2 p hp
theorem J1.nil:J1 []:=trivial
theorem E6.seg{cx:Cx}{X:J3}{res:V}{outs:List (Option V)}{k k':List Item}{S S':St}(sc:O1)(fs:List Fix)(keep:List Nat)(gs:List (Nat×Nat))(ps:List Prop)(hob:J1 ps)(h:E6 cx X res outs k' S')(hg:a5Z cx k S sc fs keep gs=some (k',S',ps)):E6 cx X res outs k S:=
 E6.seg0 hg hob.mem h
theorem E6.fin{cx:Cx}{X:J3}{res:V}{outs:List (Option V)}{k:List Item}{S:St}(hf:cx.P.funcs[X.f]?=some X.fn)(sc:O1)(ps:List Prop)(hob:J1 ps)(hg:a60 cx X k S sc=some (res,outs,ps)):E6 cx X res outs k S:=
 E6.fin0 hf hg hob.mem
def a3F:V->Bool
 | .osl .. | .dsl .. | .optr .. => true
 | _=>false
def a0p:List (Option Nat)->List V->Bool
 | [],[]=>true
 | none::om,.osl .. :: _=>false
 | none::om,.dsl .. :: _=>false
 | none::om,_::vs=>a0p om vs
 | some _::om,.osl .. :: vs=>a0p om vs
 | some _::om,.dsl .. :: vs=>a0p om vs
 | _,_=>false
def c4W:PM->V->Bool
 | .val _ om,.agg vs=>a0p om vs
 | .val ..,_=>false
 | .part,_=>false
 | _,v=>a3F v
def a12:Nat->List (Option (Nat×PM))->List V->Bool
 | _,[],[]=>true
 | j,none::os,v::vs=>a12 (j+(E5 0 j v).2.length) os vs
 | j,some (j',m)::os,v::vs=>Nat.beq j' j&&c4W m v&&a12 (j+(E5 0 j v).2.length) os vs
 | _,_,_=>false
def b2X:Nat->List V
 | 0=>[]
 | n+1=>.bot::b2X n
def a5X(X:J3)(args:List V):St:=
 let x:=Q9 0 0 args
 {t:=x.1++b2X (X.fn.ntmps-args.length),h:=[some x.2]}
section
variable {w:World} {F:Nat->Prop}
theorem c68{v:V}{c:Value}{f:List Nat}(h:BA w F v c f)(j:Nat):∃bs:List Value,bs.length=(E5 0 j v).2.length/\C8 w (E5 0 j v).2 bs f/\(a3F v=true->bs.head?=some c)/\
  ∀(D:Nat->Prop) (ι:Nat->Nat->Value),D 0->At ι 0 j bs->f.Nodup->RA w F D ι (E5 0 j v).1 c/\V7 w F D ι (E5 0 j v).2 bs:=by
 by_cases ho:a3F v=true
 ·cases h with
  | cell v c f h=>
   cases h with
   | fv v c h=>cases h<;>cases ho
   | osl e sz n rows c h=>
    refine ⟨[c],rfl,.one fun k hk=>K8.2 hk,fun _=>rfl,fun D ι hD hat _=>⟨.cell _ _ (RC.whole hD (hat 0 c rfl) h),?_⟩⟩;intro k e' b he hb;cases k with
    | zero=>
     simp [E5,E1] at he hb;subst he;subst hb;exact h
    | succ k=>simp [E5,E1] at he
   | dsl e sz n rows c flat fs h1 h2 h3 h4=>
    obtain ⟨bs,q1,q2,q3⟩:=b0K (grp:=0) (BC.dsl e sz n rows c flat fs h1 h2 h3 h4) j;refine ⟨[c],rfl,.one fun k hk=>(EB.deep_iff (D:=fun _=>True) (ι:=fun _ _=>.nilFunc) h1 h2.kl).1 hk,fun _=>rfl,fun D ι hD hat hnd=>⟨.cell _ _ (RC.wholeO hD (hat 0 c rfl) h1),?_⟩⟩;intro k e' b he hb;cases k with
    | zero=>
     simp [E5,E1] at he hb;subst he;subst hb;exact ⟨flat,fs,h1,h2.kl,h3,h4,hnd,fun _=>L2.of_flat h2.noRef⟩
    | succ k=>simp [E5,E1] at he
  | agg cs ds f h=>cases ho
  | optr e cs g cur f hg h=>
   obtain ⟨bs,h1,h2,h3⟩:=a5l (grp:=0) h (j+1);refine ⟨.pointer (some ⟨g,0,none⟩)::bs,by simp [E5,h1],?_,fun _=>rfl,fun D ι hD hat hnd => ?_⟩
   ·exact C8.cons (w:=w) (e:=.var e (G0 0 (j+1) cs).1) (b:=.pointer (some ⟨g,0,none⟩)) (f1:=[g]) (fun k hk=>by
     have hk:w9 (.pointer (some ⟨g,0,none⟩))=some k:=hk;simp [w9] at hk;simp [hk]) h2
   have hat':At ι 0 (j+1) bs:=fun k b hb=>by
    have:=hat (k+1) b (by simpa using hb);rw [<-this];congr 1;omega
   obtain ⟨x,y⟩:=h3 D ι hD hat' (d97.1 hnd).2;refine ⟨.cell _ _ (.ptr 0 j 0 g hD (hat 0 _ rfl)),?_⟩;intro k e' b he hb;cases k with
   | zero=>
    simp [E5] at he hb;subst he;subst hb;exact ⟨g,cur,rfl,hg,x⟩
   | succ k=>exact y k e' b (by simpa [E5] using he) (by simpa using hb)
 ·obtain ⟨bs,h1,h2,h3⟩:=b35 (grp:=0) h j;exact ⟨bs,h1,h2,fun q=>absurd q ho,h3⟩
theorem b6c{pre b1 b2:List Value}:∀{om:List (Option Nat)} {j:Nat} {ds:List Value},a4b (pre++b1) om j ds->a4b (pre++(b1++b2)) om j ds
 | [],_,[],_=>trivial
 | none::om,j,d::ds,h=>⟨h.1,b6c h.2⟩
 | some _::om,j,d::ds,h=>by
  refine ⟨?_,b6c h.2⟩;have h1:=h.1;rw [<-d9k,d9i (d83.1 h1).1];exact h1
 | [],_,_::_,h=>h.elim
 | none::_,_,[],h=>h.elim
 | some _::_,_,[],h=>h.elim
theorem c2t:∀{vs:List V} {cs:List Value} {f:List Nat},BL w F vs cs f->∀j,∃bs:List Value,bs.length=(G0 0 j vs).2.length/\C8 w (G0 0 j vs).2 bs f/\
    (∀(om:List (Option Nat)) (pre:List Value),pre.length=j->a0p om vs=true->a4b (pre++bs) om j cs)/\
    ∀(D:Nat->Prop) (ι:Nat->Nat->Value),D 0->At ι 0 j bs->f.Nodup->q8 (RC w F D ι) (G0 0 j vs).1 cs/\V7 w F D ι (G0 0 j vs).2 bs
  | _,_,_,.nil,j=>⟨[],rfl,.nil,fun om pre _ h=>by cases om with|nil=>trivial|cons o om=>cases o<;>simp [a0p] at h,fun D ι hD hat _=>⟨.nil,fun k e b he=>by simp [G0] at he⟩⟩
  | _,_,_,.cons v c f vs cs fs h t,j=>by
    have hone:=h.one;have hb:∃b1:List Value,b1.length=(E1 0 j v).2.length/\C8 w (E1 0 j v).2 b1 f/\(a3F v=true->b1=[c])/\(a3F v=false->b1=[])/\∀(D:Nat->Prop) (ι:Nat->Nat->Value),D 0->At ι 0 j b1->f.Nodup->RC w F D ι (E1 0 j v).1 c/\V7 w F D ι (E1 0 j v).2 b1:=by
      cases h with
      | fv v c h=>
        obtain ⟨b1,q1,q2,q3⟩:=b0K (grp:=0) (BC.fv (w:=w) v c h) j;have hv:(E1 0 j v).2=[]/\a3F v=false:=by cases h<;>exact ⟨rfl,rfl⟩
        have:b1=[]:=d9c (by rw [q1,hv.1];rfl);exact ⟨b1,q1,q2,fun q=>by (rw [hv.2] at q;cases q),fun _=>this,q3⟩
      | osl e sz n rows c h=>
        refine ⟨[c],rfl,.one fun k hk=>K8.2 hk,fun _=>rfl,(fun q=>by cases q),fun D ι hD hat _=>⟨RC.whole hD (hat 0 c rfl) h,?_⟩⟩;intro k e' b he hb;cases k with
        | zero=>
          simp [E1] at he hb;subst he;subst hb;exact h
        | succ k=>simp [E1] at he
      | dsl e sz n rows c flat fs h1 h2 h3 h4=>
        refine ⟨[c],rfl,.one fun k hk=>(EB.deep_iff (D:=fun _=>True) (ι:=fun _ _=>.nilFunc) h1 h2.kl).1 hk,fun _=>rfl,(fun q=>by cases q),fun D ι hD hat hnd=>⟨RC.wholeO hD (hat 0 c rfl) h1,?_⟩⟩;intro k e' b he hb;cases k with
        | zero=>
          simp [E1] at he hb;subst he;subst hb;exact ⟨flat,fs,h1,h2.kl,h3,h4,hnd,fun _=>L2.of_flat h2.noRef⟩
        | succ k=>simp [E1] at he
    obtain ⟨b1,hl1,hf1,hi1,hi0,h1⟩:=hb;obtain ⟨b2,hl2,hf2,hp2,h2⟩:=c2t t (j+(E1 0 j v).2.length);refine ⟨b1++b2,by simp [G0,hl1,hl2],hf1.append hf2 hl1,?_,fun D ι hD hat hnd => ?_⟩
    · intro om pre hpre hok;have hnext:∀om,a0p om vs=true->a4b (pre++(b1++b2)) om (j+(E1 0 j v).2.length) cs:=by
        intro om hok;have:=hp2 om (pre++b1) (by simp [hpre,hl1]) hok;rwa [d9k] at this
      cases om with
      | nil=>simp [a0p] at hok
      | cons o om=>
        by_cases hv:a3F v=true
        · obtain rfl:=hi1 hv;have hlen:(E1 0 j v).2.length=1:=by rw [<-hl1];rfl
          rw [hlen] at hnext;cases o with
          | none => cases v<;>first|(cases hv;done)|(simp [a0p] at hok;done)|skip
                    cases h;rename_i h;cases h
          | some e=>
            refine ⟨?_,hnext om ?_⟩
            · rw [d9f (by omega)];simp [hpre]
            · cases v<;>first|(cases hv;done)|(simpa [a0p] using hok)|(simp [a0p] at hok;done)
        · have hv:a3F v=false:=by simpa using hv
          obtain rfl:=hi0 hv;have hlen:(E1 0 j v).2.length=0:=by rw [<-hl1];rfl
          rw [hlen] at hnext;cases o with
          | none=>
            refine ⟨hone,hnext om ?_⟩;cases v<;>first|(cases hv;done)|(simpa [a0p] using hok)
          | some e=>cases v<;>first|(cases hv;done)|(simp [a0p] at hok;done)
    · rw [d89] at hnd;obtain ⟨x1,y1⟩:=h1 D ι hD hat.left hnd.1;obtain ⟨x2,y2⟩:=h2 D ι hD (by rw [<-hl1];exact hat.right) hnd.2.1;exact ⟨.cons x1 x2,y1.append y2 hl1.symm⟩
theorem c9D{v:V}{c:Value}{f:List Nat}(h:BA w F v c f)(j:Nat):∃bs:List Value,bs.length=(E5 0 j v).2.length/\C8 w (E5 0 j v).2 bs f/\
  (∀(m:PM) (oms:List (Option (Nat×PM))) (cs pre b2:List Value),pre.length=j->c4W m v=true->Z1 oms cs (pre++(bs++b2))->Z1 (some (j,m)::oms) (c::cs) (pre++(bs++b2)))/\
  ∀(D:Nat->Prop) (ι:Nat->Nat->Value),D 0->At ι 0 j bs->f.Nodup->RA w F D ι (E5 0 j v).1 c/\V7 w F D ι (E5 0 j v).2 bs:=by
 by_cases hv:∃cs,v=.agg cs
 ·obtain ⟨cs,rfl⟩:=hv;cases h with
  | cell v c f h=>cases h with|fv v c h=>cases h
  | agg cs ds f h=>
   obtain ⟨bs,h1,h2,hp,h3⟩:=c2t h j;refine ⟨bs,h1,h2,?_,fun D ι hD hat hnd=>⟨.agg _ _ (h3 D ι hD hat hnd).1,(h3 D ι hD hat hnd).2⟩⟩;intro m oms cs' pre b2 hpre hm t;cases m with
   | val ck om=>exact .agg _ _ _ _ _ _ _ (b6c (hp om pre hpre hm)) t
   | ptr ck om=>cases hm
   | row=>cases hm
   | part=>cases hm
 ·obtain ⟨bs,h1,h2,hh,h3⟩:=c68 h j;refine ⟨bs,h1,h2,?_,h3⟩;intro m oms cs' pre b2 hpre hm t;cases m with
  | val ck om=>cases v<;>first|exact absurd ⟨_,rfl⟩ hv|cases hm
  | part=>cases hm
  | ptr ck om=>
   refine .pin _ _ _ _ _ _ rfl ?_ t;have:=hh hm;cases bs with
   | nil=>cases this
   | cons b b1=>
    injection this with this;subst this;rw [d9f (by omega)];simp [hpre]
  | row=>
   refine .pin _ _ _ _ _ _ rfl ?_ t;have:=hh hm;cases bs with
   | nil=>cases this
   | cons b b1=>
    injection this with this;subst this;rw [d9f (by omega)];simp [hpre]
theorem d2v{vs:List V}{cs:List Value}{f:List Nat}(h:BS w F vs cs f):∀j,∃bs:List Value,bs.length=(Q9 0 j vs).2.length/\C8 w (Q9 0 j vs).2 bs f/\
  (∀(oms:List (Option (Nat×PM))) (pre:List Value),pre.length=j->a12 j oms vs=true->Z1 oms cs (pre++bs))/\
  ∀(D:Nat->Prop) (ι:Nat->Nat->Value),D 0->At ι 0 j bs->f.Nodup->q8 (RA w F D ι) (Q9 0 j vs).1 cs/\V7 w F D ι (Q9 0 j vs).2 bs:=by
 induction h with
 | nil=>
  refine fun j=>⟨[],rfl,.nil,fun oms pre _ hp => ?_,fun D ι hD hat _=>⟨.nil,fun k e b he=>by simp [Q9] at he⟩⟩
  cases oms with
  | nil=>exact .nil _
  | cons o oms=>cases o<;>simp [a12] at hp
 | cons v c f vs cs fs h t ih=>
  intro j;obtain ⟨b1,hl1,hf1,hh1,h1⟩:=c9D h j;obtain ⟨b2,hl2,hf2,hp2,h2⟩:=ih (j+(E5 0 j v).2.length);refine ⟨b1++b2,by simp [Q9,hl1,hl2],hf1.append hf2 hl1,?_,fun D ι hD hat hnd => ?_⟩
  ·intro oms pre hpre hp;cases oms with
   | nil=>simp [a12] at hp
   | cons o oms=>
    have hnext:∀oms,a12 (j+(E5 0 j v).2.length) oms vs=true->Z1 oms cs (pre++(b1++b2)):=by
     intro oms hp;have:=hp2 oms (pre++b1) (by simp [hpre,hl1]) hp;rwa [d9k] at this
    cases o with
    | none=>exact .skip _ _ _ _ (hnext oms (by simpa [a12] using hp))
    | some q=>
     obtain ⟨j',m⟩:=q;simp only [a12,d82] at hp;obtain ⟨⟨e1,e2⟩,e3⟩:=hp;have hj:j'=j:=d9J e1;subst hj;exact hh1 m oms cs pre b2 hpre e2 (hnext oms e3)
  ·rw [d89] at hnd;obtain ⟨x1,y1⟩:=h1 D ι hD hat.left hnd.1;obtain ⟨x2,y2⟩:=h2 D ι hD (by rw [<-hl1];exact hat.right) hnd.2.1;exact ⟨.cons x1 x2,y1.append y2 hl1.symm⟩
theorem b82{D:Nat->Prop}{ι:Nat->Nat->Value}:∀n,q8 (RV w F D ι) (b2X n) (d81 n undef)
 | 0=>.nil
 | n+1=>.cons (.any _) (b82 n)
theorem BS.len{vs:List V}{cs:List Value}{f:List Nat}(h:BS w F vs cs f):vs.length=cs.length:=by
 induction h with
 | nil=>rfl
 | cons _ _ _ _ _ _ _ _ ih=>simp [ih]
end
theorem a2t.of{cx:Cx}{X:J3}{args:List V}{res:V}{outs:List (Option V)}{c:Code}(hf:cx.P.funcs[X.f]?=some X.fn)(hb:X.fn.body=some c) (hn:(X.fn.name == "runtime.NumGoroutine")=false) (ho:a12 0 X.oms args=true)
    (h:E6 cx X res outs [.code c] (a5X X args)):a2t cx.P X.f args res outs:=by
  refine ⟨⟨X.fn,hf,hn,by rw [hb];rfl⟩,?_⟩;intro w F cargs fp hbs hfpn hfp hF;obtain ⟨bs,hl,hbf,hpin,hlie⟩:=d2v hbs 0;have hpin':=hpin X.oms [] rfl ho;rw [d9U] at hpin';obtain ⟨hargs,hents⟩:=hlie (a5X X args).D (a2A (fun _ _=>.nilFunc) 0 bs) ⟨_,rfl⟩ (fun k b hb=>by rw [d93];exact a2q hb) hfpn;have hent:∀g j e,(a5X X args).ent g j=some e->g=0/\(Q9 0 0 args).2[j]?=some e:=by
    intro g j e he;unfold St.ent a5X at he;cases g with
    | zero=>exact ⟨rfl,he⟩
    | succ g=>simp at he
  have hget:∀j e,(Q9 0 0 args).2[j]?=some e->∃b,bs[j]?=some b/\a2A (fun _ _=>.nilFunc) 0 bs 0 j=b:=by
    intro j e he;have hj:j<bs.length:=by rw [hl];exact (d83.1 he).1
    exact ⟨bs[j],d8Z hj,a2q (d8Z hj)⟩
  have hrel:o8 ⟨w,F,(· ∈ fp),bs⟩ F (a2A (fun _ _=>.nilFunc) 0 bs) (a5X X args) {tmps:=cargs.toArray++Array.replicate (X.fn.ntmps-cargs.toArray.size) undef,defers:=[]} w:=
    { F0:=fun _ x=>x,F1:=hF,F2:=fun _ x=>.inl x,kept:=.refl _ _
      tmps:=by
        show q8 _ ((Q9 0 0 args).1++b2X (X.fn.ntmps-args.length)) _
        simp only [Array.toList_append,Array.toList_replicate,e0A];rw [hbs.len];exact (hargs.imp fun _ _ x=>RV.one _ _ x).app (b82 _)
      ents:=fun g j e he=>by
        obtain ⟨rfl,he⟩:=hent g j e he;obtain ⟨b,hb,hv⟩:=hget j e he;rw [hv];exact hents j e b he hb
      sep:=fun g j e k he hl' hk=>by
        obtain ⟨rfl,he⟩:=hent g j e he;obtain ⟨b,hb,hv⟩:=hget j e he;rw [hv] at hk;have:=hbf.mem he hb hk;exact ⟨(hfp k this).1,.inl this⟩
      inj:=fun g j e g' j' e' k he he' hl1 hl2 hk hk'=>by
        obtain ⟨rfl,he⟩:=hent g j e he;obtain ⟨rfl,he'⟩:=hent g' j' e' he';obtain ⟨b,hb,hv⟩:=hget j e he;obtain ⟨b',hb',hv'⟩:=hget j' e' he';rw [hv] at hk;rw [hv'] at hk';exact ⟨rfl,hbf.inj hfpn he hb hk he' hb' hk'⟩
      defers:=rfl
      pins:=fun j c hc=>⟨⟨_,rfl⟩,a2q hc⟩}
  intro cs;let b:Frame:={ (default:Frame) with fn:=X.f,kind:=.normal}
  have henter:Frame.enter cx.P X.f cargs.toArray .normal =
      b.at {tmps:=cargs.toArray++Array.replicate (X.fn.ntmps-cargs.toArray.size) undef,defers:=[]} [.code c]:=by
    simp [Frame.enter,Frame.at,hf,hb,b]
  obtain ⟨e,w',fr,h1,h2,h3,h4⟩:=h w F fp cargs bs hpin' hF F _ _ w b cs hrel rfl rfl;rw [<-henter] at h2;exact ⟨e,w',fr,h1,h2,h3,h4⟩
inductive j7 (R S B:Type) where
 | ret (r:R)
 | brk (b:B)
 | nxt (s:S)
inductive j9 (R B:Type) where
 | ret (r:R)
 | brk (b:B)
def U1{R S B:Type}(body:S->Option (j7 R S B)):Nat->S->Option (j9 R B)
 | 0,_=>none
 | n+1,s=>match body s with
  | some (.ret r)=>some (.ret r)
  | some (.brk s)=>some (.brk s)
  | some (.nxt s)=>U1 body n s
  | none=>none
open Classical in
def p6{R S B:Type}(body:S->Option (j7 R S B))(s:S):Option (j9 R B):=
 if h:∃n r,U1 body n s=some r then some h.choose_spec.choose else none
theorem b6p{R S B:Type}{body:S->Option (j7 R S B)}:∀{n:Nat} {s:S} {r:j9 R B},U1 body n s=some r->∀m,n<=m->U1 body m s=some r
 | 0,s,r,h,_,_=>by cases h
 | n+1,s,r,h,0,hm=>by omega
 | n+1,s,r,h,m+1,hm=>by
  unfold U1 at h ⊢;cases hb:body s with
  | none=>rw [hb] at h;cases h
  | some st=>
   rw [hb] at h;cases st with
   | ret x=>exact h
   | brk x=>exact h
   | nxt x=>exact b6p h m (by omega)
theorem b7F{R S B:Type}{body:S->Option (j7 R S B)}{s:S}{r:j9 R B}:p6 body s=some r ↔ ∃n,U1 body n s=some r:=by
 unfold p6;constructor
 ·intro h;split at h
  ·rename_i hx;injection h with h;exact ⟨_,h▸hx.choose_spec.choose_spec⟩
  ·cases h
 ·rintro ⟨n,h⟩
  have hx:∃n r,U1 body n s=some r:=⟨n,r,h⟩
  rw [dif_pos hx];have h1:=hx.choose_spec.choose_spec;have h2:=b6p h1 _ (Nat.le_max_left _ n);have h3:=b6p h _ (Nat.le_max_right hx.choose n);rw [h2] at h3;exact h3
theorem b7K{R S B:Type}(body:S->Option (j7 R S B))(s:S):p6 body s=match body s with
  | some (.ret r)=>some (.ret r)
  | some (.brk s)=>some (.brk s)
  | some (.nxt s)=>p6 body s
  | none=>none:=by
 apply Option.ext;intro r;rw [b7F];cases hb:body s with
 | none=>
  constructor
  ·rintro ⟨n,h⟩
   cases n with
   | zero=>cases h
   | succ n=>unfold U1 at h;rw [hb] at h;cases h
  ·intro h;cases h
 | some st=>
  cases st with
  | ret x=>
   constructor
   ·rintro ⟨n,h⟩
    cases n with
    | zero=>cases h
    | succ n=>unfold U1 at h;rw [hb] at h;exact h
   ·intro h;exact ⟨1,by unfold U1;rw [hb];exact h⟩
  | brk x=>
   constructor
   ·rintro ⟨n,h⟩
    cases n with
    | zero=>cases h
    | succ n=>unfold U1 at h;rw [hb] at h;exact h
   ·intro h;exact ⟨1,by unfold U1;rw [hb];exact h⟩
  | nxt x=>
   simp only;rw [b7F];constructor
   ·rintro ⟨n,h⟩
    cases n with
    | zero=>cases h
    | succ n=>unfold U1 at h;rw [hb] at h;exact ⟨n,h⟩
   ·rintro ⟨n,h⟩
    exact ⟨n+1,by unfold U1;rw [hb];exact h⟩
def a7g{R S B:Type}(r:j9 R B)(I:S->Prop):j7 R S B->Prop
 | .ret x=>r=.ret x
 | .brk s=>r=.brk s
 | .nxt s=>I s
theorem c6n{R S B:Type}{body:S->Option (j7 R S B)}{I:S->Prop}{s:S}{r:j9 R B}(h:p6 body s=some r)(step:∀s st,body s=some st->a7g r I st->I s):I s:=by
 obtain ⟨n,h1⟩:=b7F.1 h;clear h;have h:=h1;clear h1;induction n generalizing s with
 | zero=>cases h
 | succ n ih=>
  unfold U1 at h;cases hb:body s with
  | none=>rw [hb] at h;cases h
  | some st=>
   rw [hb] at h;refine step s st hb ?_;cases st with
   | ret x=>injection h with h;exact h.symm
   | brk x=>injection h with h;exact h.symm
   | nxt x=>exact ih h
def j9.go{R B β:Type}(x:j9 R B)(kr:R->Option β)(ks:B->Option β):Option β:=
 match x with
 | .ret r=>kr r
 | .brk s=>ks s
def JC{B J:Type}(I:J->Prop)(r:B):j9 B J->Prop
 | .ret v=>some v=some r
 | .brk j=>I j
def idx{α:Type}(l:List α)(i:Int):Option α:=if 0<=i then l[i.toNat]? else none
def r7{β:Type}(p:Prop)[Decidable p](k:Option β):Option β:=if p then k else none
theorem b2d{α:Type}{l:List α}{i:Int}{x:α}(h:idx l i=some x):0<=i/\i<l.length/\l[i.toNat]?=some x:=by
 unfold idx at h;split at h
 ·rename_i hi;refine ⟨hi,?_,h⟩;have:=(d83.1 h).1;omega
 ·cases h
section
variable {G:Prop} {α β R S:Type}
theorem A7{m:Option α}{f:α->Option β}{r:β}(h:m.bind f=some r)(k:∀x,m=some x->f x=some r->G):G:=by
 cases m with
 | none=>cases h
 | some x=>exact k x rfl h
theorem t0{p:Prop}[Decidable p]{a:Option β}{r:β}(h:r7 p a=some r)(k:p->a=some r->G):G:=by
 unfold r7 at h;split at h
 ·rename_i hp;exact k hp h
 ·cases h
theorem d50{B:Type}{I:S->Prop}{r:j9 R B}{x:R}{st:j7 R S B}(h:some (j7.ret x)=some st)(hc:a7g r I st)(k:r=.ret x->G):G:=by
 injection h with h;subst h;exact k hc
theorem c7A{B:Type}{I:S->Prop}{r:j9 R B}{x:B}{st:j7 R S B}(h:some (j7.brk x)=some st)(hc:a7g r I st)(k:r=.brk x->G):G:=by
 injection h with h;subst h;exact k hc
theorem d3t{B:Type}{I:S->Prop}{r:j9 R B}{x:S}{st:j7 R S B}(h:some (j7.nxt x)=some st)(hc:a7g r I st)(k:I x->G):G:=by
 injection h with h;subst h;exact k hc
theorem d6T{B:Type}{I:S->Prop}{r:j9 R B}{x:R}{st:j7 R S B}(h:some (j7.ret x)=some st)(hc:a7g r I st):r=.ret x:=d50 h hc id
theorem B5{B J:Type}{T:Option (j9 B J)}{K:J->Option B}{r:B}{I:J->Prop}(h:(T.bind fun x=>x.go some K)=some r)(rest:∀j,K j=some r->I j)(c67:∀x,T=some x->JC I r x->G):G:=by
 cases T with
 | none=>cases h
 | some x=>
  refine c67 x rfl ?_;cases x with
  | ret v=>exact h
  | brk j=>exact rest j h
theorem B0{B J:Type}{I:J->Prop}{r v:B}{x:j9 B J}(h:some (j9.ret v)=some x)(hc:JC I r x)(k:some v=some r->G):G:=by
 injection h with h;subst h;exact k hc
theorem b9e{B J:Type}{I:J->Prop}{r v:B}{x:j9 B J}(h:some (j9.ret v)=some x)(hc:JC I r x):some v=some r:=B0 h hc id
theorem p8{B J:Type}{I:J->Prop}{r:B}{x:j9 B J}{j:J}(h:some (j9.brk j)=some x)(hc:JC I r x)(k:I j->G):G:=by
 injection h with h;subst h;exact k hc
theorem d3z{B:Type}{body:S->Option (j7 R S B)}{s:S}{kr:R->Option β}{ks:B->Option β}{r:β}(h:((p6 body s).bind fun x=>x.go kr ks)=some r)(k:∀x,p6 body s=some x->(∀v,x=.ret v->kr v=some r)->(∀b,x=.brk b->ks b=some r)->G):G:=by
 cases hl:p6 body s with
 | none=>rw [hl] at h;cases h
 | some x=>
  rw [hl] at h;refine k x hl ?_ ?_
  ·intro v hv;subst hv;exact h
  ·intro b hb;subst hb;exact h
end
theorem E6.is{cx:Cx}{X:J3}{res a7P:V}{outs a9t:List (Option V)}{k:List Item}{S:St}(h:E6 cx X a7P a9t k S)(h1:res=a7P)(h2:outs=a9t):E6 cx X res outs k S:=by
 subst h1;subst h2;exact h
def vi(n:Int):V:=.i .i64 n
def bs:Nat->List V->List V
 | 0,l=>l
 | n+1,l=>.bot::bs n l
def j5{α:Type}(sz:Nat)(enc:α->List V)(l:List α):V:=.sl sz l.length (l.map enc)
def z6{α:Type}(e sz:Nat)(enc:α->List V)(l:List α):V:=.osl e sz l.length (l.map enc)
def m4{α:Type}(e sz:Nat)(enc:α->List V)(l:List α):n9:=.row e sz l.length (l.map enc)
section
variable {α:Type} {enc:α->List V} {l:List α} {i:Int} {x:α}
theorem N4(h:idx l i=some x):(l.map enc)[i.toNat]?=some (enc x):=by
 rw [d9o,(b2d h).2.2];rfl
theorem b8X(h:idx l i=some x):(l.map enc)[0+i.toNat]?=some (enc x):=by
 rw [d93];exact N4 h
theorem J4(h:idx l i=some x):0<=i:=(b2d h).1
theorem b6G(h:idx l i=some x):i<(l.length:Nat):=(b2d h).2.1
theorem d4z{e sz:Nat}{y:α}{cs:List V}(h:cs=enc y):n9.row e sz (l.length+1) (l.map enc++[cs])=m4 e sz enc (l++[y]):=by
 subst h;simp [m4]
theorem b39{e sz:Nat}{l':List α}{n:Nat}{rows:List (List V)}(h1:n=l'.length)(h2:rows=l'.map enc):n9.row e sz (l.length+n) (l.map enc++rows)=m4 e sz enc (l++l'):=by
 subst h1;subst h2;simp [m4]
theorem d1Z{e sz:Nat}{k:Nat}{y:α}{cs:List V}(h:cs=enc y):n9.row e sz l.length ((l.map enc).set (0+k) cs)=m4 e sz enc (l.set k y):=by
 subst h;simp [m4,e0M]
theorem c25{sz:Nat}{a b:Nat}(ha:a<=b)(hb:b<=l.length):V.sl sz (b-a) (((l.map enc).drop a).take (b-a))=j5 sz enc ((l.drop a).take (b-a)):=by
 have:min (b-a) (l.length-a)=b-a:=by omega
 simp [j5,List.map_take,List.map_drop,this]
end
def d3y(f:Func):Code:=match f.body with
 | some c=>c
 | none=>.skip
def a1W:Nat->Nat->List Bool->List Item->List Item
 | 0,_,_,k=>k
 | f+1,n,cs,k=>match k with
  | .code (.region id ops dr)::k'=>match n with
   | 0=>.code (.region id ops dr)::k'
   | n+1=>a1W f n cs k'
  | .code .skip::k'=>a1W f n cs k'
  | .inBlock _::k'=>a1W f n cs k'
  | .code (.seq x y)::k'=>a1W f n cs (.code x :: .code y::k')
  | .code (.cond o x y)::k'=>match cs with
   | c::cs=>a1W f n cs (.code (bif c then x else y)::k')
   | []=>.code (.cond o x y)::k'
  | .code (.block id c)::k'=>a1W f n cs (.code c :: .inBlock id::k')
  | .code (.loop c)::k'=>a1W f n cs (.code c :: .inLoop c::k')
  | .inLoop c::k'=>a1W f n cs (.code c :: .inLoop c::k')
  | .code (.exit id)::k'=>match exitTo id k' with
   | some k2=>a1W f n cs k2
   | none=>.code (.exit id)::k'
  | k=>k
def td(i:Nat)(d:Bool):Nat×H1:=(i,{d:=some d})
def tr(i:Nat)(cs:List V):Nat×H1:=(i,{a:=.row cs})
def l9(n:Int):Int:=IntKind.wrap .i64 n
section
variable {α:Type} {enc:α->List V} {l l':List α} {n:Nat} {x y:α} {cs:List V} {e sz:Nat}
theorem d0j(h:cs=enc x):n9.row e sz n (d81 n cs)=m4 e sz enc (d81 n x):=by
 subst h;simp [m4]
theorem Y7(h:l.length=n):n9.row e sz n (l.map enc)=m4 e sz enc l:=by
 subst h;rfl
theorem a5I{k:Nat}(h:cs=enc y):n9.arr e sz n ((l.map enc).set k cs)=.arr e sz n ((l.set k y).map enc):=by
 subst h;simp [e0M]
theorem b4y{i:Int}{f:α->V}(hf:∀x,enc x=[f x])(h:idx l i=some y):(l.map enc).flatten[i.toNat]?=some (f y):=by
 have e:(l.map enc).flatten=l.map f:=by
  induction l with
  | nil=>rfl
  | cons x l ih=>
   have ih':(l.map enc).flatten=l.map f:=by
    clear ih h;induction l with
    | nil=>rfl
    | cons x l ih=>simp [hf,ih]
   simp [hf,ih']
 rw [e,d9o];unfold idx at h;split at h
 ·rw [h];rfl
 ·cases h
theorem a75{hi:Int}(h:0<=hi/\hi<=(l.length:Nat)):V.sl sz (hi.toNat-0) (((l.map enc).drop 0).take (hi.toNat-0))=j5 sz enc ((l.drop 0).take (hi.toNat-0)):=
 c25 (by omega) (by omega)
theorem b4L{lo:Int}(h:0<=lo/\lo<=(l.length:Nat)):V.sl sz (l.length-lo.toNat) (((l.map enc).drop lo.toNat).take (l.length-lo.toNat))=j5 sz enc ((l.drop lo.toNat).take (l.length-lo.toNat)):=
 c25 (by omega) (by omega)
end
def b6D:Nat->List (Option V)
 | 0=>[]
 | n+1=>none::b6D n
theorem a0P:∀n,a3S (b6D n)
 | 0=>fun v h=>by cases h
 | n+1=>fun v h=>by
  rcases d88.1 h with q|q
  ·cases q
  ·exact a0P n v q
section
variable {P:Program} {d:Nat} {xs ys:Array Value} {f:Field} {fs:List Field} {a b:Value} {r s:Bool} {w:World}
theorem b3h:(Op.eqFields d xs ys []).run P w=.ok true w:=by simp [Op.eqFields]
theorem a37 (hn:(f.name == "_")=false) (ha:(part f.type xs f.offset).run P w=.ok a w) (hb:(part f.type ys f.offset).run P w=.ok b w) (he:(Op.equalIn d f.type a b).run P w=.ok r w) (hr:(Op.eqFields d xs ys fs).run P w=.ok s w):(Op.eqFields d xs ys (f::fs)).run P w=.ok (r&&s) w:=by
 have hn':f.name ≠ "_" := by simpa using hn
 rw [Op.eqFields];simp only [if_pos hn',Sem.run_bind,ha,hb,he,Result.andThen_ok];cases r
 ·simp
 ·simpa using hr
theorem b0E{t:TypeId}{fs:Array Field}(hu:P.underlying t=some (.struct fs))(hp:P.stoodInHeld t=false)(h:(Op.eqFields d xs ys fs.toList).run P w=.ok r w):(Op.equalIn (d+1) t (.agg xs) (.agg ys)).run P w=.ok r w:=by
 have hf:P.fieldsOf t=fs:=by simp [Program.fieldsOf,hu]
 rw [run_equalIn_struct (P:=P) w d t xs ys (by rw [hf];exact hu) hp,hf];exact h
theorem a4a{t:TypeId}{k:IntKind}{m n:Int}(h:P.underlying t=some (.int k)):(Op.equalIn (d+1) t (.int .i64 m) (.int .i64 n)).run P w=.ok (m==n) w:=run_equalIn_int w d t .i64 k m n h
end
structure Pt(cx:Cx)(X:J3)(res:V)(outs:List (Option V))(k:List Item)(S:St)(sc:O1)(ps:List Prop):Prop where
 f:J1 ps->E6 cx X res outs k S
def c2W{α:Type}:List α->List α->List α
 | [],b=>b
 | a::l,b=>c2W l (a::b)
def scO:O1->O1->O1
 | [],b=>b
 | r::l,b=>scO l (c2W r []::b)
def psO:List Prop->List Prop->List Prop
 | [],b=>b
 | p::l,b=>psO l (p::b)
theorem b5V{ps:List Prop}:∀{qs:List Prop},J1 ps->J1 qs->J1 (psO ps qs):=by
 induction ps with
 | nil=>exact fun _ h=>h
 | cons p ps ih=>exact fun h h'=>ih h.2 ⟨h.1,h'⟩
def dt(t:Nat×H1)(d:Bool):Nat×H1:=(t.1,{t.2 with d:=some d})
section
variable {cx:Cx} {X:J3} {res:V} {outs:List (Option V)} {k:List Item} {S:St} {sc:O1} {ps:List Prop} {r:List (Nat×H1)} {α β:Type} {v:β}
theorem P0(h:Pt cx X res outs k S [] []):E6 cx X res outs k S:=h.f J1.nil
theorem rg(h:Pt cx X res outs k S ([]::sc) ps):Pt cx X res outs k S sc ps:=⟨h.f⟩
theorem n8(h:Pt cx X res outs k S ([]::[]::sc) ps):Pt cx X res outs k S sc ps:=⟨h.f⟩
theorem X1(h:Pt cx X res outs k S ([]::[]::[]::sc) ps):Pt cx X res outs k S sc ps:=⟨h.f⟩
theorem rg4(h:Pt cx X res outs k S ([]::[]::[]::[]::sc) ps):Pt cx X res outs k S sc ps:=⟨h.f⟩
theorem tl(t:Nat×H1)(h:Pt cx X res outs k S ((t::r)::sc) ps):Pt cx X res outs k S (r::sc) ps:=⟨h.f⟩
theorem ob{p:Prop}(q:p)(h:Pt cx X res outs k S sc (p::ps)):Pt cx X res outs k S sc ps:=⟨fun a=>h.f ⟨q,a⟩⟩
theorem om(p:Prop)(q:p)(h:Pt cx X res outs k S sc (p::ps)):Pt cx X res outs k S sc ps:=ob q h
theorem cdT(t:Nat×H1){e:Bool}{a b:Option β}(h:cond e a b=some v)(k1:e=true->a=some v->Pt cx X res outs k S ((dt t true::r)::sc) ((e=true)::ps))(k2:e=false->b=some v->Pt cx X res outs k S ((dt t false::r)::sc) ((e=false)::ps)):Pt cx X res outs k S (r::sc) ps:=by
 cases e with
 | true=>exact ob rfl (tl _ (k1 rfl h))
 | false=>exact ob rfl (tl _ (k2 rfl h))
theorem j3(i:Nat){e:Bool}{a b:Option β}(h:cond e a b=some v)(k1:a=some v->Pt cx X res outs k S ((td i true::r)::sc) ((e=true)::ps))(k2:b=some v->Pt cx X res outs k S ((td i false::r)::sc) ((e=false)::ps)):Pt cx X res outs k S (r::sc) ps:=by
 cases e with
 | true=>exact ob rfl (tl _ (k1 h))
 | false=>exact ob rfl (tl _ (k2 h))
theorem cb(t:Nat->Bool->α->Nat×H1){m:Option α}{p:α->Prop}(ok:∀x,m=some x->p x)(i:Nat)(fr:Bool){f:α->Option β}(h:m.bind f=some v)(g:∀x,f x=some v->Pt cx X res outs k S ((t i fr x::r)::sc) (p x::ps)):Pt cx X res outs k S (r::sc) ps:=
 A7 h fun x hx h=>ob (ok x hx) (tl _ (g x h))
theorem cbE(t:Nat->Bool->α->Nat×H1){m:Option α}{p:α->Prop}(ok:∀x,m=some x->p x){f:α->Option β}(h:m.bind f=some v)(g:∀x,p x->f x=some v->Pt cx X res outs k S sc ps):Pt cx X res outs k S sc ps:=
 A7 h fun x hx h=>g x (ok x hx) h
section
variable {enc:α->List V} {l l':List α} {I:Int} {x y z:α}
theorem u9(enc:α->List V)(i:Nat){f:α->Option β}(h:(idx l I).bind f=some v)(g:∀y,idx l I=some y->f y=some v->Pt cx X res outs k S ((tr i (enc y)::r)::sc) (((l.map enc)[I.toNat]?=some (enc y))::(I<((l.length:Nat):Int))::((0:Int)<=I)::ps)):Pt cx X res outs k S (r::sc) ps:=
 A7 h fun y hy h=>ob (J4 hy) (ob (b6G hy) (ob (N4 hy) (tl _ (g y hy h))))
theorem Z7(enc:α->List V)(i:Nat)(hy:idx l I=some y)(g:Pt cx X res outs k S ((tr i (enc y)::r)::sc) (((l.map enc)[I.toNat]?=some (enc y))::(I<((l.length:Nat):Int))::((0:Int)<=I)::ps)):Pt cx X res outs k S (r::sc) ps:=
 ob (J4 hy) (ob (b6G hy) (ob (N4 hy) (tl _ g)))
theorem E3(hy:idx l I=some y)(g:Pt cx X res outs k S sc ((I<((l.length:Nat):Int))::((0:Int)<=I)::ps)):Pt cx X res outs k S sc ps:=ob (J4 hy) (ob (b6G hy) g)
theorem V6(enc:α->List V)(i:Nat)(hy:idx l I=some y)(g:Pt cx X res outs k S ((tr i (enc y)::r)::sc) (((l.map enc)[0+I.toNat]?=some (enc y))::ps)):Pt cx X res outs k S (r::sc) ps:=
 ob (b8X hy) (tl _ g)
theorem R1(e sz:Nat)(enc:α->List V)(i:Nat)(ck:List (Option Nat))(y:α)(hz:idx l I=some z)(g:Pt cx X res outs k S (((i,{a:=.rowck (enc z) ck,e:=some (m4 e sz enc (l.set I.toNat y))})::r)::sc) (((l.map enc)[0+I.toNat]?=some (enc z))::(n9.row e sz l.length ((l.map enc).set (0+I.toNat) (enc y))=m4 e sz enc (l.set I.toNat y))::ps)):Pt cx X res outs k S (r::sc) ps:=
 ob (d1Z rfl) (ob (b8X hz) (tl _ g))
theorem S4(i w t sz b:Nat)(enc:α->List V)(z:α)(T:TI)(a:I1){N:Int}(e1:0<=N/\N*((b:Nat):Int)<=140737488355328)(hb:0<b)(hl:T.zero.length=sz)(g:Pt cx X res outs k S (((i,{a:=a,e:=some (m4 t sz enc (d81 N.toNat z)),v:=some (.own w 0 sz 0 (d81 N.toNat z).length)})::r)::sc)
   ((T.zero.length=sz)::(N*((b:Nat):Int)<=140737488355328/\0<b)::(N=N)::((0:Int)<=N)::(n9.row t sz N.toNat (d81 N.toNat (enc z))=m4 t sz enc (d81 N.toNat z))::(V.own w 0 sz 0 N.toNat=.own w 0 sz 0 (d81 N.toNat z).length)::ps)):Pt cx X res outs k S (r::sc) ps:=
 ob (by simp) (ob (d0j rfl) (ob e1.1 (ob rfl (ob ⟨e1.2,hb⟩ (ob hl (tl _ g))))))
theorem J8(i w t sz b:Nat)(enc:α->List V)(l:List α)(x:α)(h:(l.length+1)*b<=140737488355328)(g:Pt cx X res outs k S (((i,{v:=some (.own w 0 sz 0 (l++[x]).length),e:=some (m4 t sz enc (l++[x]))})::r)::sc)
   (((l.length+1)*b<=140737488355328)::(l.length=l.length)::(n9.row t sz (l.length+1) (l.map enc++[enc x])=m4 t sz enc (l++[x]))::(V.own w 0 sz 0 (l.length+1)=.own w 0 sz 0 (l++[x]).length)::ps)):Pt cx X res outs k S (r::sc) ps:=
 ob (by simp) (ob (d4z rfl) (ob rfl (ob h (tl _ g))))
theorem apL(i w t sz b:Nat)(enc:α->List V)(l l':List α)(h:(l.length+l'.length)*b<=140737488355328)(g:Pt cx X res outs k S (((i,{v:=some (.own w 0 sz 0 (l++l').length),e:=some (m4 t sz enc (l++l'))})::r)::sc)
   (((l.length+l'.length)*b<=140737488355328)::(l.length=l.length)::(n9.row t sz (l.length+l'.length) (l.map enc++l'.map enc)=m4 t sz enc (l++l'))::(V.own w 0 sz 0 (l.length+l'.length)=.own w 0 sz 0 (l++l').length)::ps)):Pt cx X res outs k S (r::sc) ps:=
 ob (by simp) (ob (b39 rfl rfl) (ob rfl (ob h (tl _ g))))
end
theorem sg(fs:List Fix)(keep:List Nat)(gs:List (Nat×Nat)){k':List Item}{S':St}(h:E6 cx X res outs k' S')(hg:a5Z cx k S (scO sc []) fs keep gs=some (k',S',psO ps []):=by kernel_rfl):Pt cx X res outs k S sc ps:=
 ⟨fun a=>E6.seg _ fs keep gs _ (b5V a J1.nil) h hg⟩
def reT:List (Nat×V)->St->St×List Prop
 | [],S=>(S,[])
 | (i,v)::l,S=>match S.t[i]? with
  | some u=>match reT l {S with t:=S.t.set i v} with
   | (S',ps)=>(S',(u=v)::ps)
  | none=>reT l S
theorem b6y:∀{l:List (Nat×V)} {S:St},J1 (reT l S).2->(reT l S).1=S
 | [],_,_=>rfl
 | (i,v)::l,S,h=>by
  unfold reT at h ⊢;split at h
  ·rename_i u hu;have h1:u=v:=h.1;have h2:=b6y (l:=l) h.2;simp only;rw [h2,<-h1,T7 hu]
  ·exact b6y h
theorem J1.split:∀{ps qs:List Prop},J1 (ps++qs)->J1 ps/\J1 qs
 | [],_,h=>⟨trivial,h⟩
 | _::_,_,h=>⟨⟨h.1,(J1.split h.2).1⟩,(J1.split h.2).2⟩
def b4c(cx:Cx)(k:List Item)(S:St)(sc:O1)(fs:List Fix)(keep:List Nat)(gs:List (Nat×Nat))(ts:List (Nat×V)):Option (List Item×St×List Prop):=
 match a5Z cx k S sc fs keep gs with
 | some (k',S',ps)=>some (k',(reT ts S').1,ps++(reT ts S').2)
 | none=>none
theorem sgT(fs:List Fix)(keep:List Nat)(gs:List (Nat×Nat))(ts:List (Nat×V)){k':List Item}{S':St}(h:E6 cx X res outs k' S')(hg:b4c cx k S (scO sc []) fs keep gs ts=some (k',S',psO ps []):=by kernel_rfl):Pt cx X res outs k S sc ps:=by
 refine ⟨fun a => ?_⟩;unfold b4c at hg;split at hg<;>try (cases hg;done)
 rename_i k1 S1 ps1 h1;injection hg with hg;injection hg with e1 e2;injection e2 with e2 e3;have ha:=b5V a J1.nil;rw [<-e3] at ha;obtain ⟨a1,a2⟩:=J1.split ha;rw [<-e2,<-e1,b6y a2] at h;exact E6.seg _ fs keep gs _ a1 h h1
theorem a4E{α:Type}{enc:α->List V}{gs:List (Nat×Nat)}(h:∀x,(enc x).map (P6 gs)=enc x):∀l:List α,((l.map enc).flatten.map (P6 gs))=(l.map enc).flatten
 | []=>rfl
 | x::l=>by
  simp only [d9s,d9n,d9j,h,a4E h l]
theorem fn0{a7P:V}{a9t:List (Option V)}(hf:cx.P.funcs[X.f]?=some X.fn)(h:res=a7P/\outs=a9t)(hg:a60 cx X k S (scO sc [])=some (a7P,a9t,psO ps []):=by kernel_rfl):Pt cx X res outs k S sc ps:=
 ⟨fun a=>(E6.fin hf _ _ (b5V a J1.nil) hg).is h.1 h.2⟩
end
def F4(n:Int):Prop := -9223372036854775808<=n/\n<=9223372036854775807
def z0{α:Type}(bytes:Nat)(ok:α->Prop)(l:List α):Prop:=l.length*bytes<=140737488351232/\∀x∈l,ok x
def okT{α:Type}(x:α):Prop:=True
def Old(w:World)(k:Nat):Prop:=k<w.heap.size
def a5Q(P:Program){α:Type}(t:TypeId)(enc:α->List V)(ok:α->Prop):Prop:=
 ∀{H:Type} (ec:TypeId×Value->H) (w:World) (fuel:Nat) (cs:List Value) (x:DataW H×List MemPlace),DataW.trod ec P w 0 (fun _=>true) true fuel t cs=some x->(x.1.weights P t).all (·<=reachBytes)=true->
  ∃y,FL w (Old w) (enc y) cs/\ok y
section
variable {P:Program} {α:Type} {t e:TypeId} {enc:α->List V} {ok:α->Prop}
def a2G(n:Int):Prop:=0<=n/\n<=255
theorem d6e(ht:P.underlying t=some (.int .u8)):a5Q P t (fun n:Int=>[.i .u8 n]) a2G:=by
 intro H ec w fuel cs x h _;obtain ⟨n,rfl,rfl,hw⟩:=DataW.trod_int ht h;refine ⟨n,.cons _ _ _ _ (.i _ _) .nil,?_⟩;simp only [Lit.wf,d82,decide_eq_true_eq] at hw;exact hw
theorem c1h{H:Type}{P:Program}{e:TypeId}{p:Nat->Bool}:∀{ds:List (DataW H)},(DataW.weightsAll P e ds).all p=true->∀d∈ds,(d.weights P e).all p=true
 | [],_,d,hd=>by cases hd
 | d0::ds,h,d,hd=>by
  rw [DataW.weightsAll,List.all_append,d82] at h;rcases d88.1 hd with rfl|hd
  ·exact h.1
  ·exact c1h h.2 d hd
theorem FL.flat{w:World}{F:Nat->Prop}(vs:Nat->List V)(cs:Nat->List Value):∀n,(∀i,i<n->FL w F (vs i) (cs i))->FL w F ((d87 n).flatMap vs) ((d87 n).flatMap cs)
 | 0,_=>.nil
 | n+1,h=>by
  rw [List.range_succ,List.flatMap_append,List.flatMap_append];refine FL.append (FL.flat vs cs n fun i hi=>h i (by omega)) ?_;simpa using h n (by omega)
theorem b3U{sz:Nat}(cs:Nat->List Value):∀n,(∀i,i<n->(cs i).length=sz)->∀i,i<n->∀j,j<sz->((d87 n).flatMap cs)[i*sz+j]?=(cs i)[j]?/\((d87 n).flatMap cs).length=n*sz
 | 0,_,i,hi,_,_=>by omega
 | n+1,h,i,hi,j,hj=>by
  have hl:((d87 n).flatMap cs).length=n*sz:=by
   cases n with
   | zero=>simp
   | succ m=>exact (b3U cs (m+1) (fun i hi=>h i (by omega)) 0 (by omega) j hj).2
  rw [List.range_succ,List.flatMap_append];simp only [List.flatMap_cons,List.flatMap_nil,d9D];constructor
  ·by_cases hin:i<n
   ·have:i*sz+j<n*sz:=by
     have:(i+1)*sz<=n*sz:=d9z _ hin;rw [Nat.add_mul] at this;omega
    rw [d9i (by omega)];exact (b3U cs n (fun i hi=>h i (by omega)) i hin j hj).1
   ·have:i=n:=by omega
    subst this;rw [d9f (by omega),hl];congr 1
    omega
  ·rw [d9d,hl,h n (by omega),Nat.add_mul,Nat.one_mul]
theorem d0m{β:Type}{n:Nat}{p:Nat->β->Prop}(d:β)(h:∀i,i<n->∃x,p i x):∃f:Nat->β,∀i,i<n->p i (f i):=by
 classical
 refine ⟨fun i=>if hi:i<n then (h i hi).choose else d,fun i hi => ?_⟩;simp only [dif_pos hi];exact (h i hi).choose_spec
theorem d1z{sz bytes:Nat}(ht:P.underlying t=some (.slice e))(he:a5Q P e enc ok)(hsz:P.cellsOf e=sz)(h0:0<sz)(hb:P.bytesOf e=bytes)(hl:∀y,(enc y).length=sz):a5Q P t (fun l:List α=>[j5 sz enc l]) (z0 bytes ok):=by
 intro H ec w fuel cs x h hw;rcases DataW.trod_slice ht h with ⟨rfl,rfl⟩|⟨a,len,cap,elems,rest,n,_,rfl,rfl,hbs,hlc,hcm,hlen,hel,hsp,hns⟩
 ·exact ⟨[],.cons _ _ _ _ (.sl0 sz none 0) .nil,by simp,by simp⟩
 simp only [DataW.weights,ht,List.all_cons,List.all_append,d82,decide_eq_true_eq,d9g] at hw;obtain ⟨hw0,hw1,hw2⟩:=hw;have hrest:rest.length=cap-len:=by
  cases hs:(fun _:Nat=>true) a.block with
  | true=>exact (hsp rfl).1
  | false=>cases hs
 have hlen2:len*bytes<=140737488351232:=by
  rw [hb] at hw0;have:len*bytes<=(elems.length+rest.length)*bytes:=d9z _ (by omega);have h2:reachBytes=140737488351232:=rfl;omega
 cases Nat.eq_zero_or_pos len with
 | inl hz=>
  subst hz;exact ⟨[],.cons _ _ _ _ (.sl0 sz _ cap) .nil,by simp,by simp⟩
 | inr hpos=>
  have key:∀i,i<len->∃cy:List Value×α,w.cells? 0 (a.add (i*sz)) sz=some cy.1/\FL w (Old w) (enc cy.2) cy.1/\ok cy.2:=by
   intro i hi;have h1:=hel i hi;have hi':i<elems.length:=by omega
   rw [d8Z hi',hsz] at h1;obtain ⟨ci,h2,h3⟩:=Option.bind_eq_some_iff.1 h1;obtain ⟨y,h4,h5⟩:=he ec w n ci _ h3 (c1h hw1 _ (d9l.2 ⟨_,d85 hi',rfl⟩));exact ⟨(ci,y),h2,h4,h5⟩
  obtain ⟨cy0,_⟩:=key 0 hpos;obtain ⟨f,hf⟩:=d0m cy0 key;have hcl:∀i,i<len->(f i).1.length=sz:=fun i hi=>(World.cells?_some (hf i hi).1).2.1
  have hspot:a.spot=none:=by
   have:=(World.cells?_some (hf 0 hpos).1).2.2 0 h0;rw [d8Z (by rw [hcl 0 hpos];exact h0)] at this;have:=World.cell?_spot this;simpa [Addr.add] using this
  have hold:Old w a.block:=by
   have:=(World.cells?_some (hf 0 hpos).1).2.2 0 h0;rw [d8Z (by rw [hcl 0 hpos];exact h0)] at this;unfold World.cell? at this;unfold Old;split at this
   ·rename_i c _ _ hh;simpa [Addr.add] using (Array.getElem?_eq_some_iff.1 hh).1
   ·cases this
  refine ⟨(d87 len).map fun i=>(f i).2,?_,?_,?_⟩
  ·have haddr:a=⟨a.block,a.off,none⟩:=by cases a;simp_all
   rw [show (Value.slice (some a) len cap)=.slice (some ⟨a.block,a.off,none⟩) len cap from by rw [<-haddr]];refine .cons _ _ _ _ ?_ .nil;unfold j5;rw [d9g,List.length_range];refine .sl sz len _ _ _ cap ((d87 len).flatMap fun i=>(f i).1) hold ?_ ?_ ?_ hlc ?_
   ·have:=FL.flat (w:=w) (F:=Old w) (fun i=>enc (f i).2) (fun i=>(f i).1) len fun i hi=>(hf i hi).2.1
    rw [e0l,<-List.flatMap_def];exact this
   ·simp
   ·intro r hr;rw [e0l] at hr;obtain ⟨i,_,rfl⟩:=d9l.1 hr;exact hl _
   ·intro j u hu;have hlf:=(b3U (fun i=>(f i).1) len hcl 0 hpos 0 h0).2;have hj:j<len*sz:=by
     have:=(d83.1 hu).1;omega
    have hq:j / sz<len:=Nat.div_lt_of_lt_mul (by rw [Nat.mul_comm];exact hj);have hr:j % sz<sz:=Nat.mod_lt _ h0;have hjs:j=j / sz*sz+j % sz:=by rw [Nat.mul_comm];exact (Nat.div_add_mod j sz).symm
    have hget:=(b3U (fun i=>(f i).1) len hcl _ hq _ hr).1;rw [<-hjs,hu] at hget;have hcell:=(World.cells?_some (hf _ hq).1).2.2 _ hr;rw [<-hget] at hcell;rw [<-hcell];have hadd:(a.add (j / sz*sz)).add (j % sz)=a.add j:=by
     rw [show (a.add (j / sz*sz)).add (j % sz)=a.add (j / sz*sz+j % sz) from Go.Deep.add_add a _ _,<-hjs]
    rw [hadd];congr 1
    unfold Addr.add;split
    ·rename_i h;subst h;exact haddr.symm
    ·rfl
  ·simpa using hlen2
  ·intro y hy;obtain ⟨i,hi,rfl⟩:=d9l.1 hy;exact (hf i (by simpa using hi)).2.2
section
variable {α':Type} {H:Type} {ec:TypeId×Value->H} {w:World} {base:Nat} {r:Reach} {v:Value} {d:DataW H} {p:List MemPlace}
theorem BA.of1{F:Nat->Prop}{x:V}{c:Value}(h:FL w F [x] [c]):BA w F x c []:=by
 cases h with
 | cons _ _ _ _ h _=>exact .cell _ _ _ (.fv _ _ h)
theorem b9s{f:α->V}(ht:P.underlying t=some (.slice e))(ho:a5Q P t (fun y=>[f y]) ok)(hv:Value.okWide P w r base t v)(h:DataW.Trod ec P w 0 (fun _=>true) true t v d p)(hw:(d.weights P t).all (·<=reachBytes)=true):∃y,BA w (Old w) (f y) v []/\ok y:=by
 obtain ⟨a,l,c,rfl⟩:=WideShapes.okWide_slice ht hv;obtain ⟨fuel,hf⟩:=h;obtain ⟨y,h1,h2⟩:=ho ec w fuel _ _ hf hw;exact ⟨y,BA.of1 h1,h2⟩
end
theorem d1Y{f:FuncId}{args:List V}{outs:List (Option V)}{vs:List Value}{W:World}(h:a2t P f args (.b true) outs)(hb:BS W (Old W) args vs []) :
  Calls P f vs.toArray W fun e W'=>e=.returned (.bool true)/\RowKit.Below W.heap.size W W':=by
 refine (h.2 W (Old W) vs [] hb List.nodup_nil (by simp) (fun k hk=>hk)).mono ?_;rintro e W' ⟨c,F',fr,fo,rfl,hk,_,_,hr,_,_,_⟩
 refine ⟨?_,hk.os,hk.tape,hk.output,hk.size,fun k hk'=>hk.block k hk' (by simp)⟩;cases hr with
 | one _ _ _ h=>
  cases h with
  | cell _ _ _ h=>
   cases h with
   | fv _ _ h=>cases h;rfl
end
abbrev LOV:=List (Option V)
abbrev KS:=List Item×St
def FK(cx:Cx)(X:J3)(res:V)(outs:LOV)(s:KS):Prop:=E6 cx X res outs s.1 s.2
structure LC(cx:Cx)(X:J3){R P E:Type}(fR:R->V)(fO:R->LOV)(SE:E->KS)(S:P->KS) where
 res:V
 outs:LOV
 x:j9 R E
 hb:∀s:E,x=.brk s->FK cx X res outs (SE s)
 hr:∀v:R,x=.ret v->res=fR v/\outs=fO v
 st:j7 R P E
 hc:a7g x (fun s=>FK cx X res outs (S s)) st
section
variable {cx:Cx} {X:J3} {R P E J:Type} {fR:R->V} {fO:R->LOV} {SE:E->KS} {SP:P->KS} {G:Prop} {α β:Type}
abbrev LB(cx:Cx)(X:J3)(fR:R->V)(fO:R->LOV)(SE:E->KS)(SP:P->KS)(b:P->Option (j7 R P E)):Prop := ∀(c:LC cx X fR fO SE SP) (s:P),b s=some c.st->FK cx X c.res c.outs (SP s)
abbrev NL(c:LC cx X fR fO SE SP)(S:J->KS)(f:J->Option (j7 R P E)):Prop := ∀s,f s=some c.st->FK cx X c.res c.outs (S s)
theorem LC.nx(c:LC cx X fR fO SE SP){s:P}(h:some (j7.nxt s)=some c.st)(g:FK cx X c.res c.outs (SP s)->G):G:=d3t h c.hc g
theorem LC.bk(c:LC cx X fR fO SE SP){s:E}(h:some (j7.brk s)=some c.st)(g:FK cx X c.res c.outs (SE s)->G):G:=c7A h c.hc fun e=>g (c.hb _ e)
theorem LC.rt(c:LC cx X fR fO SE SP){r:R}(h:some (j7.ret r)=some c.st):c.res=fR r/\c.outs=fO r:=c.hr _ (d6T h c.hc)
variable {res:V} {outs:LOV} {k:List Item} {S:St} {sc:O1} {ps:List Prop} {r:List (Nat×H1)} {v:β} {s:KS}
theorem PK(h:Pt cx X res outs s.1 s.2 [] []):FK cx X res outs s:=h.f J1.nil
theorem sk(fs:List Fix)(keep:List Nat)(gs:List (Nat×Nat))(h:FK cx X res outs s)(hg:a5Z cx k S (scO sc []) fs keep gs=some (s.1,s.2,psO ps []):=by kernel_rfl):Pt cx X res outs k S sc ps:=sg fs keep gs h hg
theorem skT(fs:List Fix)(keep:List Nat)(gs:List (Nat×Nat))(ts:List (Nat×V))(h:FK cx X res outs s)(hg:b4c cx k S (scO sc []) fs keep gs ts=some (s.1,s.2,psO ps []):=by kernel_rfl):Pt cx X res outs k S sc ps:=sgT fs keep gs ts h hg
theorem lp{b:P->Option (j7 R P E)}(B:LB cx X fR fO SE SP b){c2G:P}{g1:R->Option β}{g2:E->Option β}(h:((p6 b c2G).bind fun x=>x.go g1 g2)=some v)(h1:∀r,g1 r=some v->res=fR r/\outs=fO r)(h2:∀s,g2 s=some v->FK cx X res outs (SE s))(hs:FK cx X res outs (SP c2G)->Pt cx X res outs k S sc ps):Pt cx X res outs k S sc ps:=
 d3z h fun x hl hr hb=>hs (c6n (I:=fun s=>FK cx X res outs (SP s)) hl fun s st h hc=>B ⟨res,outs,x,fun s e=>h2 s (hb s e),fun v e=>h1 v (hr v e),st,hc⟩ s h)
theorem x9{α:Type}(a:List α)(h:Pt cx X res outs k S sc ((a.length=a.length)::ps)):Pt cx X res outs k S sc ps:=ob rfl h
theorem B6{α β:Type}(a:List α)(b:List β)(h:Pt cx X res outs k S sc ((b.length=b.length)::(a.length=a.length)::ps)):Pt cx X res outs k S sc ps:=ob rfl (ob rfl h)
theorem ol3{α β γ:Type}(a:List α)(b:List β)(c:List γ)(h:Pt cx X res outs k S sc ((c.length=c.length)::(b.length=b.length)::(a.length=a.length)::ps)):Pt cx X res outs k S sc ps:=ob rfl (ob rfl (ob rfl h))
theorem ol4{α β γ δ:Type}(a:List α)(b:List β)(c:List γ)(d:List δ)(h:Pt cx X res outs k S sc ((d.length=d.length)::(c.length=c.length)::(b.length=b.length)::(a.length=a.length)::ps)):Pt cx X res outs k S sc ps:=ob rfl (ob rfl (ob rfl (ob rfl h)))
theorem ol0(α:Type)(h:Pt cx X res outs k S sc ((0=([]:List α).length)::ps)):Pt cx X res outs k S sc ps:=ob rfl h
theorem J0{α:Type}(x:α)(h:Pt cx X res outs k S sc ((1=[x].length)::ps)):Pt cx X res outs k S sc ps:=ob rfl h
theorem tk(i:Nat)(c:List (Option Nat))(h:Pt cx X res outs k S (((i,{a:=.ck c})::r)::sc) ps):Pt cx X res outs k S (r::sc) ps:=tl _ h
theorem oa(g j sz:Nat){α:Type}(a b:List α)(h:Pt cx X res outs k S sc ((V.own g j sz 0 (a.length+b.length)=.own g j sz 0 (a++b).length)::ps)):Pt cx X res outs k S sc ps:=ob (congrArg (V.own g j sz 0) d9d.symm) h
theorem oz(e sz:Nat){α:Type}(f:α->List V)(a b:List α)(h:Pt cx X res outs k S sc ((n9.row e sz (a.length+b.length) (a.map f++b.map f)=m4 e sz f (a++b))::ps)):Pt cx X res outs k S sc ps:=ob (b39 rfl rfl) h
end
def eI(x:Int):List V:=[vi x]
def I9(x:Int):List V:=[.i .u8 x]
def eB(x:Bool):List V:=[.b x]
structure m7 where
 i8:Int
 c7:Int
def t8(x:m7):List V:=[vi x.i8,vi x.c7]
structure m5 where
 a0:Int
 A:Int
 B:Int
 N:Int
def z3(x:m5):List V:=[vi x.a0,vi x.A,vi x.B,vi x.N]
structure t5 where
 b:List Int
 p:Int
def Z5(x:t5):List V:=[j5 1 I9 x.b,vi x.p]
structure p9 where
 b9:Int
 Seq:Int
def a3k(x:p9):List V:=[vi x.b9,vi x.Seq]
structure p7 where
 g7:Int
 i8:Int
def t6(x:p7):List V:=[vi x.g7,vi x.i8]
structure o7 where
 g7:Int
 c7:Int
def t7(x:o7):List V:=[vi x.g7,vi x.c7]
structure m8 where
 b5:List p7
 b6:List o7
 c7:Int
 Code:Int
def Y8(x:m8):List V:=[j5 2 t6 x.b5,j5 2 t7 x.b6,vi x.c7,vi x.Code]
structure l7 where
 i7:Bool
 a7:p9
 d6:m8
def v5(x:l7):List V:=[.b x.i7,vi x.a7.b9,vi x.a7.Seq,j5 2 t6 x.d6.b5,j5 2 t7 x.d6.b6,vi x.d6.c7,vi x.d6.Code]
structure n7 where
 a5:Int
 d7:l7
def s5(x:n7):List V:=[vi x.a5,.b x.d7.i7,vi x.d7.a7.b9,vi x.d7.a7.Seq,j5 2 t6 x.d7.d6.b5,j5 2 t7 x.d7.d6.b6,vi x.d7.d6.c7,vi x.d7.d6.Code]
structure v6 where
 d9:Int
 a8:List n7
def a3Y(x:v6):List V:=[vi x.d9,j5 8 s5 x.a8]
structure j6 where
 Id:Int
 Acc:v6
 a6:List l7
 Seq:Int
 a9:Int
 a5:Int
 b7:List Bool
 f0:List n7
 c9:l7
 a8:List Bool
 i4:Bool
 i6:List m5
 b8:l7
 d8:List l7
def w5(x:j6):List V:=[vi x.Id,vi x.Acc.d9,j5 8 s5 x.Acc.a8,j5 7 v5 x.a6,vi x.Seq,vi x.a9,vi x.a5,j5 1 eB x.b7,j5 8 s5 x.f0,.b x.c9.i7,vi x.c9.a7.b9,vi x.c9.a7.Seq,j5 2 t6 x.c9.d6.b5,j5 2 t7 x.c9.d6.b6,vi x.c9.d6.c7,vi x.c9.d6.Code,j5 1 eB x.a8,.b x.i4,j5 4 z3 x.i6,.b x.b8.i7,vi x.b8.a7.b9,vi x.b8.a7.Seq,j5 2 t6 x.b8.d6.b5,j5 2 t7 x.b8.d6.b6,vi x.b8.d6.c7,vi x.b8.d6.Code,j5 7 v5 x.d8]
structure l8 where
 a0:Int
 b7:Int
 To:Int
 a5:Int
 c8:Int
 d7:l7
 a8:List n7
def t9(x:l8):List V:=[vi x.a0,vi x.b7,vi x.To,vi x.a5,vi x.c8,.b x.d7.i7,vi x.d7.a7.b9,vi x.d7.a7.Seq,j5 2 t6 x.d7.d6.b5,j5 2 t7 x.d7.d6.b6,vi x.d7.d6.c7,vi x.d7.d6.Code,j5 8 s5 x.a8]
structure D4 where
 a7:p9
 i6:List m5
def C6(x:D4):List V:=[vi x.a7.b9,vi x.a7.Seq,j5 4 z3 x.i6]
structure r9 where
 Node:Int
 a7:p9
 Code:Int
 c7:Int
def z7(x:r9):List V:=[vi x.Node,vi x.a7.b9,vi x.a7.Seq,vi x.Code,vi x.c7]
structure j8 where
 c6:List j6
 g8:List l8
 g9:List D4
 Told:List r9
def S7(x:j8):List V:=[j5 27 w5 x.c6,j5 13 t9 x.g8,j5 3 C6 x.g9,j5 5 z7 x.Told]
structure F9 where
 a0:Int
 A:Int
 i6:List m5
def a97(x:F9):List V:=[vi x.a0,vi x.A,j5 4 z3 x.i6]
structure m6 where
 n:j6
 out:List l8
 told:List r9
def c2p(x:m6):List V:=[vi x.n.Id,vi x.n.Acc.d9,j5 8 s5 x.n.Acc.a8,j5 7 v5 x.n.a6,vi x.n.Seq,vi x.n.a9,vi x.n.a5,j5 1 eB x.n.b7,j5 8 s5 x.n.f0,.b x.n.c9.i7,vi x.n.c9.a7.b9,vi x.n.c9.a7.Seq,j5 2 t6 x.n.c9.d6.b5,j5 2 t7 x.n.c9.d6.b6,vi x.n.c9.d6.c7,vi x.n.c9.d6.Code,j5 1 eB x.n.a8,.b x.n.i4,j5 4 z3 x.n.i6,.b x.n.b8.i7,vi x.n.b8.a7.b9,vi x.n.b8.a7.Seq,j5 2 t6 x.n.b8.d6.b5,j5 2 t7 x.n.b8.d6.b6,vi x.n.b8.d6.c7,vi x.n.b8.d6.Code,j5 7 v5 x.n.d8,j5 13 t9 x.out,j5 5 z7 x.told]
structure s7 where
 a7:p9
 Code:Int
 c7:Int
def C1(x:s7):List V:=[vi x.a7.b9,vi x.a7.Seq,vi x.Code,vi x.c7]
structure u0 where
 At:Int
 i0:List m7
 i5:List s7
def a8v(x:u0):List V:=[vi x.At,j5 2 t8 x.i0,j5 4 C1 x.i5]
def R4(l:List m5):List V:=[j5 4 z3 l]
def c6m(x_:j6):List V:=[vi x_.Id,vi x_.Acc.d9,j5 8 s5 x_.Acc.a8,z6 64 7 v5 x_.a6,vi x_.Seq,vi x_.a9,vi x_.a5,z6 4 1 eB x_.b7,j5 8 s5 x_.f0,.b x_.c9.i7,vi x_.c9.a7.b9,vi x_.c9.a7.Seq,j5 2 t6 x_.c9.d6.b5,j5 2 t7 x_.c9.d6.b6,vi x_.c9.d6.c7,vi x_.c9.d6.Code,z6 4 1 eB x_.a8,.b x_.i4,j5 4 z3 x_.i6,.b x_.b8.i7,vi x_.b8.a7.b9,vi x_.b8.a7.Seq,j5 2 t6 x_.b8.d6.b5,j5 2 t7 x_.b8.d6.b6,vi x_.b8.d6.c7,vi x_.b8.d6.Code,z6 64 7 v5 x_.d8]
def a5r(x_:j8):List V:=[z6 66 27 w5 x_.c6,z6 93 13 t9 x_.g8,z6 96 3 C6 x_.g9,z6 48 5 z7 x_.Told]
def a5o(x_:j6):List V:=[vi x_.Id,vi x_.Acc.d9,j5 8 s5 x_.Acc.a8,j5 7 v5 x_.a6,vi x_.Seq,vi x_.a9,vi x_.a5,j5 1 eB x_.b7,j5 8 s5 x_.f0,.b x_.c9.i7,vi x_.c9.a7.b9,vi x_.c9.a7.Seq,j5 2 t6 x_.c9.d6.b5,j5 2 t7 x_.c9.d6.b6,vi x_.c9.d6.c7,vi x_.c9.d6.Code,j5 1 eB x_.a8,.b x_.i4,j5 4 z3 x_.i6,.b x_.b8.i7,vi x_.b8.a7.b9,vi x_.b8.a7.Seq,j5 2 t6 x_.b8.d6.b5,j5 2 t7 x_.b8.d6.b6,vi x_.b8.d6.c7,vi x_.b8.d6.Code,j5 7 v5 x_.d8]
def b2P(x_:m6):List V:=[vi x_.n.Id,vi x_.n.Acc.d9,j5 8 s5 x_.n.Acc.a8,z6 64 7 v5 x_.n.a6,vi x_.n.Seq,vi x_.n.a9,vi x_.n.a5,z6 4 1 eB x_.n.b7,j5 8 s5 x_.n.f0,.b x_.n.c9.i7,vi x_.n.c9.a7.b9,vi x_.n.c9.a7.Seq,j5 2 t6 x_.n.c9.d6.b5,j5 2 t7 x_.n.c9.d6.b6,vi x_.n.c9.d6.c7,vi x_.n.c9.d6.Code,z6 4 1 eB x_.n.a8,.b x_.n.i4,j5 4 z3 x_.n.i6,.b x_.n.b8.i7,vi x_.n.b8.a7.b9,vi x_.n.b8.a7.Seq,j5 2 t6 x_.n.b8.d6.b5,j5 2 t7 x_.n.b8.d6.b6,vi x_.n.b8.d6.c7,vi x_.n.b8.d6.Code,z6 64 7 v5 x_.n.d8,z6 93 13 t9 x_.out,z6 48 5 z7 x_.told]
def a7T(x_:u0):List V:=[vi x_.At,z6 82 2 t8 x_.i0,z6 166 4 C1 x_.i5]
def a8w(x_:l7):List V:=[.b x_.i7,vi x_.a7.b9,vi x_.a7.Seq,j5 2 t6 x_.d6.b5,j5 2 t7 x_.d6.b6,vi x_.d6.c7,vi x_.d6.Code]
def c8Y(x_:u0):List V:=[vi x_.At,z6 82 2 t8 x_.i0,j5 4 C1 x_.i5]
def b4i(x_:m6):List V:=[vi x_.n.Id,vi x_.n.Acc.d9,j5 8 s5 x_.n.Acc.a8,.own 0 1 7 0 x_.n.a6.length,vi x_.n.Seq,vi x_.n.a9,vi x_.n.a5,.own 0 2 1 0 x_.n.b7.length,j5 8 s5 x_.n.f0,.b x_.n.c9.i7,vi x_.n.c9.a7.b9,vi x_.n.c9.a7.Seq,j5 2 t6 x_.n.c9.d6.b5,j5 2 t7 x_.n.c9.d6.b6,vi x_.n.c9.d6.c7,vi x_.n.c9.d6.Code,.own 0 3 1 0 x_.n.a8.length,.b x_.n.i4,j5 4 z3 x_.n.i6,.b x_.n.b8.i7,vi x_.n.b8.a7.b9,vi x_.n.b8.a7.Seq,j5 2 t6 x_.n.b8.d6.b5,j5 2 t7 x_.n.b8.d6.b6,vi x_.n.b8.d6.c7,vi x_.n.b8.d6.Code,j5 7 v5 x_.n.d8,.own 0 4 13 0 x_.out.length,.own 0 5 5 0 x_.told.length]
def G4(x_:m6):List V:=[vi x_.n.Id,vi x_.n.Acc.d9,j5 8 s5 x_.n.Acc.a8,z6 64 7 v5 x_.n.a6,vi x_.n.Seq,vi x_.n.a9,vi x_.n.a5,z6 4 1 eB x_.n.b7,j5 8 s5 x_.n.f0,.b x_.n.c9.i7,vi x_.n.c9.a7.b9,vi x_.n.c9.a7.Seq,j5 2 t6 x_.n.c9.d6.b5,j5 2 t7 x_.n.c9.d6.b6,vi x_.n.c9.d6.c7,vi x_.n.c9.d6.Code,z6 4 1 eB x_.n.a8,.b x_.n.i4,j5 4 z3 x_.n.i6,.b x_.n.b8.i7,vi x_.n.b8.a7.b9,vi x_.n.b8.a7.Seq,j5 2 t6 x_.n.b8.d6.b5,j5 2 t7 x_.n.b8.d6.b6,vi x_.n.b8.d6.c7,vi x_.n.b8.d6.Code,j5 7 v5 x_.n.d8,z6 93 13 t9 x_.out,z6 48 5 z7 x_.told]
def a7W(x_:m6):List V:=[vi x_.n.Id,vi x_.n.Acc.d9,j5 8 s5 x_.n.Acc.a8,.own 1 0 7 0 x_.n.a6.length,vi x_.n.Seq,vi x_.n.a9,vi x_.n.a5,.own 2 0 1 0 x_.n.b7.length,j5 8 s5 x_.n.f0,.b x_.n.c9.i7,vi x_.n.c9.a7.b9,vi x_.n.c9.a7.Seq,j5 2 t6 x_.n.c9.d6.b5,j5 2 t7 x_.n.c9.d6.b6,vi x_.n.c9.d6.c7,vi x_.n.c9.d6.Code,.own 3 0 1 0 x_.n.a8.length,.b x_.n.i4,j5 4 z3 x_.n.i6,.b x_.n.b8.i7,vi x_.n.b8.a7.b9,vi x_.n.b8.a7.Seq,j5 2 t6 x_.n.b8.d6.b5,j5 2 t7 x_.n.b8.d6.b6,vi x_.n.b8.d6.c7,vi x_.n.b8.d6.Code,j5 7 v5 x_.n.d8,.own 4 0 13 0 x_.out.length,.own 5 0 5 0 x_.told.length]
def a6h(x_:l8):List V:=[vi x_.a0,vi x_.b7,vi x_.To,vi x_.a5,vi x_.c8,.b x_.d7.i7,vi x_.d7.a7.b9,vi x_.d7.a7.Seq,j5 2 t6 x_.d7.d6.b5,j5 2 t7 x_.d7.d6.b6,vi x_.d7.d6.c7,vi x_.d7.d6.Code,j5 8 s5 x_.a8]
def d0G(x_:m6):List V:=[vi x_.n.Id,vi x_.n.Acc.d9,j5 8 s5 x_.n.Acc.a8,.own 6 0 7 0 x_.n.a6.length,vi x_.n.Seq,vi x_.n.a9,vi x_.n.a5,.own 5 0 1 0 x_.n.b7.length,j5 8 s5 x_.n.f0,.b x_.n.c9.i7,vi x_.n.c9.a7.b9,vi x_.n.c9.a7.Seq,j5 2 t6 x_.n.c9.d6.b5,j5 2 t7 x_.n.c9.d6.b6,vi x_.n.c9.d6.c7,vi x_.n.c9.d6.Code,.own 4 0 1 0 x_.n.a8.length,.b x_.n.i4,j5 4 z3 x_.n.i6,.b x_.n.b8.i7,vi x_.n.b8.a7.b9,vi x_.n.b8.a7.Seq,j5 2 t6 x_.n.b8.d6.b5,j5 2 t7 x_.n.b8.d6.b6,vi x_.n.b8.d6.c7,vi x_.n.b8.d6.Code,j5 7 v5 x_.n.d8,.own 3 0 13 0 x_.out.length,.own 2 0 5 0 x_.told.length]
def a82(x_:m6):List V:=[vi x_.n.Id,vi x_.n.Acc.d9,j5 8 s5 x_.n.Acc.a8,.own 3 0 7 0 x_.n.a6.length,vi x_.n.Seq,vi x_.n.a9,vi x_.n.a5,.own 4 0 1 0 x_.n.b7.length,j5 8 s5 x_.n.f0,.b x_.n.c9.i7,vi x_.n.c9.a7.b9,vi x_.n.c9.a7.Seq,j5 2 t6 x_.n.c9.d6.b5,j5 2 t7 x_.n.c9.d6.b6,vi x_.n.c9.d6.c7,vi x_.n.c9.d6.Code,.own 5 0 1 0 x_.n.a8.length,.b x_.n.i4,j5 4 z3 x_.n.i6,.b x_.n.b8.i7,vi x_.n.b8.a7.b9,vi x_.n.b8.a7.Seq,j5 2 t6 x_.n.b8.d6.b5,j5 2 t7 x_.n.b8.d6.b6,vi x_.n.b8.d6.c7,vi x_.n.b8.d6.Code,j5 7 v5 x_.n.d8,.own 6 0 13 0 x_.out.length,.own 7 0 5 0 x_.told.length]
def c1M(x_:m6):List V:=[vi x_.n.Id,vi x_.n.Acc.d9,j5 8 s5 x_.n.Acc.a8,.own 1 0 7 0 x_.n.a6.length,vi x_.n.Seq,vi x_.n.a9,vi x_.n.a5,.own 0 2 1 0 x_.n.b7.length,j5 8 s5 x_.n.f0,.b x_.n.c9.i7,vi x_.n.c9.a7.b9,vi x_.n.c9.a7.Seq,j5 2 t6 x_.n.c9.d6.b5,j5 2 t7 x_.n.c9.d6.b6,vi x_.n.c9.d6.c7,vi x_.n.c9.d6.Code,.own 2 0 1 0 x_.n.a8.length,.b x_.n.i4,j5 4 z3 x_.n.i6,.b x_.n.b8.i7,vi x_.n.b8.a7.b9,vi x_.n.b8.a7.Seq,j5 2 t6 x_.n.b8.d6.b5,j5 2 t7 x_.n.b8.d6.b6,vi x_.n.b8.d6.c7,vi x_.n.b8.d6.Code,j5 7 v5 x_.n.d8,.own 0 4 13 0 x_.out.length,.own 0 5 5 0 x_.told.length]
def d1B(x_:m6):List V:=[vi x_.n.Id,vi x_.n.Acc.d9,j5 8 s5 x_.n.Acc.a8,.own 1 0 7 0 x_.n.a6.length,vi x_.n.Seq,vi x_.n.a9,vi x_.n.a5,.own 0 2 1 0 x_.n.b7.length,j5 8 s5 x_.n.f0,.b x_.n.c9.i7,vi x_.n.c9.a7.b9,vi x_.n.c9.a7.Seq,j5 2 t6 x_.n.c9.d6.b5,j5 2 t7 x_.n.c9.d6.b6,vi x_.n.c9.d6.c7,vi x_.n.c9.d6.Code,.own 2 0 1 0 x_.n.a8.length,.b x_.n.i4,j5 4 z3 x_.n.i6,.b x_.n.b8.i7,vi x_.n.b8.a7.b9,vi x_.n.b8.a7.Seq,j5 2 t6 x_.n.b8.d6.b5,j5 2 t7 x_.n.b8.d6.b6,vi x_.n.b8.d6.c7,vi x_.n.b8.d6.Code,j5 7 v5 x_.n.d8,.own 0 4 13 0 x_.out.length,.own 3 0 5 0 x_.told.length]
def d2L(x_:m6):List V:=[vi x_.n.Id,vi x_.n.Acc.d9,j5 8 s5 x_.n.Acc.a8,.own 4 0 7 0 x_.n.a6.length,vi x_.n.Seq,vi x_.n.a9,vi x_.n.a5,.own 5 0 1 0 x_.n.b7.length,j5 8 s5 x_.n.f0,.b x_.n.c9.i7,vi x_.n.c9.a7.b9,vi x_.n.c9.a7.Seq,j5 2 t6 x_.n.c9.d6.b5,j5 2 t7 x_.n.c9.d6.b6,vi x_.n.c9.d6.c7,vi x_.n.c9.d6.Code,.own 6 0 1 0 x_.n.a8.length,.b x_.n.i4,j5 4 z3 x_.n.i6,.b x_.n.b8.i7,vi x_.n.b8.a7.b9,vi x_.n.b8.a7.Seq,j5 2 t6 x_.n.b8.d6.b5,j5 2 t7 x_.n.b8.d6.b6,vi x_.n.b8.d6.c7,vi x_.n.b8.d6.Code,j5 7 v5 x_.n.d8,.own 7 0 13 0 x_.out.length,.own 8 0 5 0 x_.told.length]
def b4V(x_:m6):List n9:=[m4 64 7 v5 x_.n.a6,m4 4 1 eB x_.n.b7,m4 4 1 eB x_.n.a8,m4 93 13 t9 x_.out,m4 48 5 z7 x_.told]
def a1c(x_:m6):List (Option (List n9)):=[some [m4 64 7 v5 x_.n.a6],some [m4 4 1 eB x_.n.b7],some [m4 4 1 eB x_.n.a8],some [m4 93 13 t9 x_.out],some [m4 48 5 z7 x_.told]]
def c6N(x_:m6):List (Option (List n9)):=[some [m4 48 5 z7 x_.told],some [m4 93 13 t9 x_.out],some [m4 4 1 eB x_.n.a8],some [m4 4 1 eB x_.n.b7],some [m4 64 7 v5 x_.n.a6]]
def c0l(x_:m6):List n9:=[m4 93 13 t9 x_.out,m4 48 5 z7 x_.told]
def c0C(x_:m6):List (Option (List n9)):=[some [m4 64 7 v5 x_.n.a6],some [m4 4 1 eB x_.n.a8]]
def c6T(x_:m6):List (Option (List n9)):=[some [m4 64 7 v5 x_.n.a6],some [m4 4 1 eB x_.n.a8],some [m4 48 5 z7 x_.told]]
def om1:List (Option Nat):=[none,none,none,some 64,none,none,none,some 4,none,none,none,none,none,none,none,none,some 4,none,none,none,none,none,none,none,none,none,some 64]
def om2:List (Option Nat):=[some 66,some 93,some 96,some 48]
def om3:List (Option Nat):=[none,none,none,some 64,none,none,none,some 4,none,none,none,none,none,none,none,none,some 4,none,none,none,none,none,none,none,none,none,some 64,some 93,some 48]
def H0:List (Option Nat):=[none,none,none,some 64,none,none,none,some 4,none,none,none,none,none,none,none,none,some 4,none,none,none,none,none,none,none,none,none,none,some 93,some 48]
def J5:List (Option Nat):=[some 27,some 13,some 3,some 5]
def a0b:List (Option Nat):=[some 2,some 2,none,none]
def T3:List (Option Nat):=[none,none,none,some 2,some 2,none,none]
def I0:List (Option Nat):=[none,none,some 8,some 7,none,none,none,some 1,some 8,none,none,none,some 2,some 2,none,none,some 1,none,some 4,none,none,none,some 2,some 2,none,none,some 7]
def P5:List (Option Nat):=[none,none,none,none,none,none,none,none,some 2,some 2,none,none,some 8]
def a1G:List (Option Nat):=[none,none,none,none,some 2,some 2,none,none]
def D8:List (Option Nat):=[none,none,some 8,some 7,none,none,none,some 1,some 8,none,none,none,some 2,some 2,none,none,some 1,none,some 4,none,none,none,some 2,some 2,none,none,some 7,some 13,some 5]
theorem d0E(d:Nat)(w:World)(x0 x1 y0 y1:Int):(Op.equalIn (d+2) 46 (.agg #[.int .i64 x0,.int .i64 x1]) (.agg #[.int .i64 y0,.int .i64 y1])).run Tryz.prog w=.ok ((x0==y0)&&((x1==y1)&&true)) w:=by
 refine b0E Tryz.underlying46 Tryz.stoodInHeld46 ?_;refine a37 (by rfl) (by first|(go_simp;done)|(go_simp;rfl)) (by first|(go_simp;done)|(go_simp;rfl)) (a4a Tryz.underlying3) ?_;refine a37 (by rfl) (by first|(go_simp;done)|(go_simp;rfl)) (by first|(go_simp;done)|(go_simp;rfl)) (a4a Tryz.underlying3) ?_;exact b3h
theorem d6v(xs ys:List Int)(w:World)(hx:xs.length=2)(hy:ys.length=2):(Op.equal 46 (.agg (xs.map (Value.int .i64)).toArray) (.agg (ys.map (Value.int .i64)).toArray)).run Tryz.prog w=.ok (xs==ys) w:=by
 match xs,ys,hx,hy with
 | [x0,x1],[y0,y1],_,_=>
  have h:=d0E 9998 w x0 x1 y0 y1;have e:((x0==y0)&&((x1==y1)&&true))=([x0,x1]==([y0,y1]:List Int)):=by simp [e0N]
  rw [e] at h;exact h
theorem d1M(d:Nat)(w:World)(x0 x1 y0 y1:Int):(Op.equalIn (d+2) 82 (.agg #[.int .i64 x0,.int .i64 x1]) (.agg #[.int .i64 y0,.int .i64 y1])).run Tryz.prog w=.ok ((x0==y0)&&((x1==y1)&&true)) w:=by
 refine b0E Tryz.underlying82 Tryz.stoodInHeld82 ?_;refine a37 (by rfl) (by first|(go_simp;done)|(go_simp;rfl)) (by first|(go_simp;done)|(go_simp;rfl)) (a4a Tryz.underlying3) ?_;refine a37 (by rfl) (by first|(go_simp;done)|(go_simp;rfl)) (by first|(go_simp;done)|(go_simp;rfl)) (a4a Tryz.underlying3) ?_;exact b3h
theorem d47(xs ys:List Int)(w:World)(hx:xs.length=2)(hy:ys.length=2):(Op.equal 82 (.agg (xs.map (Value.int .i64)).toArray) (.agg (ys.map (Value.int .i64)).toArray)).run Tryz.prog w=.ok (xs==ys) w:=by
 match xs,ys,hx,hy with
 | [x0,x1],[y0,y1],_,_=>
  have h:=d1M 9998 w x0 x1 y0 y1;have e:((x0==y0)&&((x1==y1)&&true))=([x0,x1]==([y0,y1]:List Int)):=by simp [e0N]
  rw [e] at h;exact h
theorem d7W(d:Nat)(w:World)(x0 x1 y0 y1:Int):(Op.equalIn (d+2) 133 (.agg #[.int .i64 x0,.int .i64 x1]) (.agg #[.int .i64 y0,.int .i64 y1])).run Tryz.prog w=.ok ((x0==y0)&&((x1==y1)&&true)) w:=by
 refine b0E Tryz.underlying133 Tryz.stoodInHeld133 ?_;refine a37 (by rfl) (by first|(go_simp;done)|(go_simp;rfl)) (by first|(go_simp;done)|(go_simp;rfl)) (a4a Tryz.underlying3) ?_;refine a37 (by rfl) (by first|(go_simp;done)|(go_simp;rfl)) (by first|(go_simp;done)|(go_simp;rfl)) (a4a Tryz.underlying3) ?_;exact b3h
theorem d6A(xs ys:List Int)(w:World)(hx:xs.length=2)(hy:ys.length=2):(Op.equal 133 (.agg (xs.map (Value.int .i64)).toArray) (.agg (ys.map (Value.int .i64)).toArray)).run Tryz.prog w=.ok (xs==ys) w:=by
 match xs,ys,hx,hy with
 | [x0,x1],[y0,y1],_,_=>
  have h:=d7W 9998 w x0 x1 y0 y1;have e:((x0==y0)&&((x1==y1)&&true))=([x0,x1]==([y0,y1]:List Int)):=by simp [e0N]
  rw [e] at h;exact h
theorem c7a(d:Nat)(w:World)(x0 x1 y0 y1:Int):(Op.equalIn (d+2) 135 (.agg #[.int .i64 x0,.int .i64 x1]) (.agg #[.int .i64 y0,.int .i64 y1])).run Tryz.prog w=.ok ((x0==y0)&&((x1==y1)&&true)) w:=by
 refine b0E Tryz.underlying135 Tryz.stoodInHeld135 ?_;refine a37 (by rfl) (by first|(go_simp;done)|(go_simp;rfl)) (by first|(go_simp;done)|(go_simp;rfl)) (a4a Tryz.underlying3) ?_;refine a37 (by rfl) (by first|(go_simp;done)|(go_simp;rfl)) (by first|(go_simp;done)|(go_simp;rfl)) (a4a Tryz.underlying3) ?_;exact b3h
theorem d3l(xs ys:List Int)(w:World)(hx:xs.length=2)(hy:ys.length=2):(Op.equal 135 (.agg (xs.map (Value.int .i64)).toArray) (.agg (ys.map (Value.int .i64)).toArray)).run Tryz.prog w=.ok (xs==ys) w:=by
 match xs,ys,hx,hy with
 | [x0,x1],[y0,y1],_,_=>
  have h:=c7a 9998 w x0 x1 y0 y1;have e:((x0==y0)&&((x1==y1)&&true))=([x0,x1]==([y0,y1]:List Int)):=by simp [e0N]
  rw [e] at h;exact h
def ti3:TI:={size:=1,bytes:=8,agg:=false,zero:=[vi 0],sl:=none,arr:=none,ik:=some .i64,fs:=none,str:=false,ptr:=none,bl:=false}
def ti4:TI:={size:=1,bytes:=1,agg:=false,zero:=[.b false],sl:=none,arr:=none,ik:=none,fs:=none,str:=false,ptr:=none,bl:=true}
def ti5:TI:={size:=1,bytes:=1,agg:=false,zero:=[.i .u8 0],sl:=none,arr:=none,ik:=some .u8,fs:=none,str:=false,ptr:=none,bl:=false}
def c1n:TI:={size:=1,bytes:=24,agg:=false,zero:=[.nil],sl:=some 5,arr:=none,ik:=none,fs:=none,str:=false,ptr:=none,bl:=false}
def c4v:TI:={size:=1,bytes:=24,agg:=false,zero:=[.nil],sl:=some 82,arr:=none,ik:=none,fs:=none,str:=false,ptr:=none,bl:=false}
def c4O:TI:={size:=1,bytes:=24,agg:=false,zero:=[.nil],sl:=some 37,arr:=none,ik:=none,fs:=none,str:=false,ptr:=none,bl:=false}
def c48:TI:={size:=1,bytes:=24,agg:=false,zero:=[.nil],sl:=some 66,arr:=none,ik:=none,fs:=none,str:=false,ptr:=none,bl:=false}
def c3d:TI:={size:=1,bytes:=24,agg:=false,zero:=[.nil],sl:=some 93,arr:=none,ik:=none,fs:=none,str:=false,ptr:=none,bl:=false}
def b9L:TI:={size:=1,bytes:=24,agg:=false,zero:=[.nil],sl:=some 96,arr:=none,ik:=none,fs:=none,str:=false,ptr:=none,bl:=false}
def c4w:TI:={size:=1,bytes:=24,agg:=false,zero:=[.nil],sl:=some 48,arr:=none,ik:=none,fs:=none,str:=false,ptr:=none,bl:=false}
def b9C:TI:={size:=4,bytes:=96,agg:=true,zero:=[.nil,.nil,.nil,.nil],sl:=none,arr:=none,ik:=none,fs:=some [(0,27),(1,28),(2,29),(3,30)],str:=false,ptr:=none,bl:=false}
def c4g:TI:={size:=1,bytes:=24,agg:=false,zero:=[.nil],sl:=some 78,arr:=none,ik:=none,fs:=none,str:=false,ptr:=none,bl:=false}
def b7Z:TI:={size:=3,bytes:=40,agg:=true,zero:=[vi 0,vi 0,.nil],sl:=none,arr:=none,ik:=none,fs:=some [(0,3),(1,3),(2,37)],str:=false,ptr:=none,bl:=false}
def c1X:TI:={size:=1,bytes:=24,agg:=false,zero:=[.nil],sl:=some 3,arr:=none,ik:=none,fs:=none,str:=false,ptr:=none,bl:=false}
def c3y:TI:={size:=2,bytes:=16,agg:=true,zero:=[vi 0,vi 0],sl:=none,arr:=none,ik:=none,fs:=some [(0,3),(1,3)],str:=false,ptr:=none,bl:=false}
def b5n:TI:={size:=5,bytes:=40,agg:=true,zero:=[vi 0,vi 0,vi 0,vi 0,vi 0],sl:=none,arr:=none,ik:=none,fs:=some [(0,3),(1,46),(3,3),(4,3)],str:=false,ptr:=none,bl:=false}
def c0W:TI:={size:=1,bytes:=24,agg:=false,zero:=[.nil],sl:=some 166,arr:=none,ik:=none,fs:=none,str:=false,ptr:=none,bl:=false}
def c4l:TI:={size:=3,bytes:=56,agg:=true,zero:=[vi 0,.nil,.nil],sl:=none,arr:=none,ik:=none,fs:=some [(0,3),(1,23),(2,50)],str:=false,ptr:=none,bl:=false}
def c6j:TI:={size:=1,bytes:=24,agg:=false,zero:=[.nil],sl:=some 140,arr:=none,ik:=none,fs:=none,str:=false,ptr:=none,bl:=false}
def c2k:TI:={size:=2,bytes:=32,agg:=true,zero:=[vi 0,.nil],sl:=none,arr:=none,ik:=none,fs:=some [(0,3),(1,54)],str:=false,ptr:=none,bl:=false}
def c2H:TI:={size:=1,bytes:=24,agg:=false,zero:=[.nil],sl:=some 64,arr:=none,ik:=none,fs:=none,str:=false,ptr:=none,bl:=false}
def c0v:TI:={size:=1,bytes:=24,agg:=false,zero:=[.nil],sl:=some 4,arr:=none,ik:=none,fs:=none,str:=false,ptr:=none,bl:=false}
def c3p:TI:={size:=1,bytes:=24,agg:=false,zero:=[.nil],sl:=some 135,arr:=none,ik:=none,fs:=none,str:=false,ptr:=none,bl:=false}
def c0M:TI:={size:=1,bytes:=24,agg:=false,zero:=[.nil],sl:=some 133,arr:=none,ik:=none,fs:=none,str:=false,ptr:=none,bl:=false}
def c0D:TI:={size:=4,bytes:=64,agg:=true,zero:=[.nil,.nil,vi 0,vi 0],sl:=none,arr:=none,ik:=none,fs:=some [(0,59),(1,60),(2,3),(3,3)],str:=false,ptr:=none,bl:=false}
def b4K:TI:={size:=7,bytes:=88,agg:=true,zero:=[.b false,vi 0,vi 0,.nil,.nil,vi 0,vi 0],sl:=none,arr:=none,ik:=none,fs:=some [(0,4),(1,46),(3,62)],str:=false,ptr:=none,bl:=false}
def b6H:TI:={size:=27,bytes:=392,agg:=true,zero:=[vi 0,vi 0,.nil,.nil,vi 0,vi 0,vi 0,.nil,.nil,.b false,vi 0,vi 0,.nil,.nil,vi 0,vi 0,.nil,.b false,.nil,.b false,vi 0,vi 0,.nil,.nil,vi 0,vi 0,.nil],sl:=none,arr:=none,ik:=none,fs:=some [(0,3),(1,56),(3,57),(4,3),(5,3),(6,3),(7,58),(8,54),(9,64),(16,58),(17,4),(18,37),(19,64),(26,57)],str:=false,ptr:=none,bl:=false}
def b7f:TI:={size:=4,bytes:=32,agg:=true,zero:=[vi 0,vi 0,vi 0,vi 0],sl:=none,arr:=none,ik:=none,fs:=some [(0,3),(1,3),(2,3),(3,3)],str:=false,ptr:=none,bl:=false}
def a7V:TI:={size:=2,bytes:=16,agg:=true,zero:=[vi 0,vi 0],sl:=none,arr:=none,ik:=none,fs:=some [(0,3),(1,3)],str:=false,ptr:=none,bl:=false}
def c4D:TI:={size:=2,bytes:=32,agg:=true,zero:=[.nil,vi 0],sl:=none,arr:=none,ik:=none,fs:=some [(0,22),(1,3)],str:=false,ptr:=none,bl:=false}
def b31:TI:={size:=13,bytes:=152,agg:=true,zero:=[vi 0,vi 0,vi 0,vi 0,vi 0,.b false,vi 0,vi 0,.nil,.nil,vi 0,vi 0,.nil],sl:=none,arr:=none,ik:=none,fs:=some [(0,3),(1,3),(2,3),(3,3),(4,3),(5,64),(12,54)],str:=false,ptr:=none,bl:=false}
def b6j:TI:={size:=3,bytes:=40,agg:=true,zero:=[vi 0,vi 0,.nil],sl:=none,arr:=none,ik:=none,fs:=some [(0,46),(2,37)],str:=false,ptr:=none,bl:=false}
def c44:TI:={size:=4,bytes:=32,agg:=true,zero:=[vi 0,vi 0,vi 0,vi 0],sl:=none,arr:=some (4,3),ik:=none,fs:=none,str:=false,ptr:=none,bl:=false}
def b4E:TI:={size:=2,bytes:=16,agg:=true,zero:=[vi 0,vi 0],sl:=none,arr:=none,ik:=none,fs:=some [(0,3),(1,3)],str:=false,ptr:=none,bl:=false}
def b5q:TI:={size:=2,bytes:=16,agg:=true,zero:=[vi 0,vi 0],sl:=none,arr:=none,ik:=none,fs:=some [(0,3),(1,3)],str:=false,ptr:=none,bl:=false}
def b1v:TI:={size:=8,bytes:=96,agg:=true,zero:=[vi 0,.b false,vi 0,vi 0,.nil,.nil,vi 0,vi 0],sl:=none,arr:=none,ik:=none,fs:=some [(0,3),(1,64)],str:=false,ptr:=none,bl:=false}
def c3k:TI:={size:=29,bytes:=440,agg:=true,zero:=[vi 0,vi 0,.nil,.nil,vi 0,vi 0,vi 0,.nil,.nil,.b false,vi 0,vi 0,.nil,.nil,vi 0,vi 0,.nil,.b false,.nil,.b false,vi 0,vi 0,.nil,.nil,vi 0,vi 0,.nil,.nil,.nil],sl:=none,arr:=none,ik:=none,fs:=some [(0,66),(27,28),(28,30)],str:=false,ptr:=none,bl:=false}
def b80:TI:={size:=4,bytes:=4,agg:=true,zero:=[.b false,.b false,.b false,.b false],sl:=none,arr:=some (4,4),ik:=none,fs:=none,str:=false,ptr:=none,bl:=false}
def b5j:TI:={size:=4,bytes:=32,agg:=true,zero:=[vi 0,vi 0,vi 0,vi 0],sl:=none,arr:=none,ik:=none,fs:=some [(0,46),(2,3),(3,3)],str:=false,ptr:=none,bl:=false}
def b36:List (Nat×TI):=[(3,ti3),(4,ti4),(5,ti5),(22,c1n),(23,c4v),(24,c4O),(27,c48),(28,c3d),(29,b9L),(30,c4w),(32,b9C),(37,c4g),(40,b7Z),(41,c1X),(46,c3y),(48,b5n),(50,c0W),(52,c4l),(54,c6j),(56,c2k),(57,c2H),(58,c0v),(59,c3p),(60,c0M),(62,c0D),(64,b4K),(66,b6H),(78,b7f),(82,a7V),(89,c4D),(93,b31),(96,b6j),(130,c44),(133,b4E),(135,b5q),(140,b1v),(152,c3k),(160,b80),(166,b5j)]
def b2r:List (Nat×TI)->Nat->Option TI
 | [],_=>none
 | (k,x)::l,t=>if Nat.beq k t then some x else b2r l t
theorem c8k{l:List (Nat×TI)}{t:Nat}{x:TI}(h:b2r l t=some x):(t,x)∈l:=by
 induction l with
 | nil=>cases h
 | cons p l ih=>
  obtain ⟨k,y⟩:=p;unfold b2r at h;split at h
  ·rename_i hk;have:k=t:=d9J hk;injection h with h;subst this;subst h;simp
  ·exact d88.2 (.inr (ih h))
theorem d2w:B8 Tryz.prog 3=some ti3:=by kernel_rfl
theorem d7D:B8 Tryz.prog 4=some ti4:=by kernel_rfl
theorem c8T:B8 Tryz.prog 5=some ti5:=by kernel_rfl
theorem d5y:B8 Tryz.prog 22=some c1n:=by kernel_rfl
theorem d2S:B8 Tryz.prog 23=some c4v:=by kernel_rfl
theorem d2j:B8 Tryz.prog 24=some c4O:=by kernel_rfl
theorem c8i:B8 Tryz.prog 27=some c48:=by kernel_rfl
theorem d6E:B8 Tryz.prog 28=some c3d:=by kernel_rfl
theorem c8B:B8 Tryz.prog 29=some b9L:=by kernel_rfl
theorem c63:B8 Tryz.prog 30=some c4w:=by kernel_rfl
theorem d7z:B8 Tryz.prog 32=some b9C:=by kernel_rfl
theorem d65:B8 Tryz.prog 37=some c4g:=by kernel_rfl
theorem d0B:B8 Tryz.prog 40=some b7Z:=by kernel_rfl
theorem c9h:B8 Tryz.prog 41=some c1X:=by kernel_rfl
theorem d6J:B8 Tryz.prog 46=some c3y:=by kernel_rfl
theorem d8k:B8 Tryz.prog 48=some b5n:=by kernel_rfl
theorem d0D:B8 Tryz.prog 50=some c0W:=by kernel_rfl
theorem c6F:B8 Tryz.prog 52=some c4l:=by kernel_rfl
theorem d11:B8 Tryz.prog 54=some c6j:=by kernel_rfl
theorem d1p:B8 Tryz.prog 56=some c2k:=by kernel_rfl
theorem c7G:B8 Tryz.prog 57=some c2H:=by kernel_rfl
theorem d4Y:B8 Tryz.prog 58=some c0v:=by kernel_rfl
theorem d7O:B8 Tryz.prog 59=some c3p:=by kernel_rfl
theorem c80:B8 Tryz.prog 60=some c0M:=by kernel_rfl
theorem d1l:B8 Tryz.prog 62=some c0D:=by kernel_rfl
theorem d43:B8 Tryz.prog 64=some b4K:=by kernel_rfl
theorem d3f:B8 Tryz.prog 66=some b6H:=by kernel_rfl
theorem d6O:B8 Tryz.prog 78=some b7f:=by kernel_rfl
theorem d3d:B8 Tryz.prog 82=some a7V:=by kernel_rfl
theorem c96:B8 Tryz.prog 89=some c4D:=by kernel_rfl
theorem d5o:B8 Tryz.prog 93=some b31:=by kernel_rfl
theorem d03:B8 Tryz.prog 96=some b6j:=by kernel_rfl
theorem c9K:B8 Tryz.prog 130=some c44:=by kernel_rfl
theorem c84:B8 Tryz.prog 133=some b4E:=by kernel_rfl
theorem c8n:B8 Tryz.prog 135=some b5q:=by kernel_rfl
theorem c7r:B8 Tryz.prog 140=some b1v:=by kernel_rfl
theorem d6m:B8 Tryz.prog 152=some c3k:=by kernel_rfl
theorem c7d:B8 Tryz.prog 160=some b80:=by kernel_rfl
theorem d4A:B8 Tryz.prog 166=some b5j:=by kernel_rfl
theorem c9u:∀p∈b36,B8 Tryz.prog p.1=some p.2:=by
 intro p hp;simp only [b36,d88,List.not_mem_nil,or_false] at hp;rcases hp with rfl|rfl|rfl|rfl|rfl|rfl|rfl|rfl|rfl|rfl|rfl|rfl|rfl|rfl|rfl|rfl|rfl|rfl|rfl|rfl|rfl|rfl|rfl|rfl|rfl|rfl|rfl|rfl|rfl|rfl|rfl|rfl|rfl|rfl|rfl|rfl|rfl|rfl|rfl
 ·exact d2w
 ·exact d7D
 ·exact c8T
 ·exact d5y
 ·exact d2S
 ·exact d2j
 ·exact c8i
 ·exact d6E
 ·exact c8B
 ·exact c63
 ·exact d7z
 ·exact d65
 ·exact d0B
 ·exact c9h
 ·exact d6J
 ·exact d8k
 ·exact d0D
 ·exact c6F
 ·exact d11
 ·exact d1p
 ·exact c7G
 ·exact d4Y
 ·exact d7O
 ·exact c80
 ·exact d1l
 ·exact d43
 ·exact d3f
 ·exact d6O
 ·exact d3d
 ·exact c96
 ·exact d5o
 ·exact d03
 ·exact c9K
 ·exact c84
 ·exact c8n
 ·exact c7r
 ·exact d6m
 ·exact c7d
 ·exact d4A
def a9w(t:Nat):Option Nat:=if Nat.beq t 46 then some 2 else if Nat.beq t 82 then some 2 else if Nat.beq t 133 then some 2 else if Nat.beq t 135 then some 2 else  none
theorem d8a(t m:Nat)(h:a9w t=some m)(xs ys:List Int)(w:World)(hx:xs.length=m)(hy:ys.length=m):(Op.equal t (.agg (xs.map (Value.int .i64)).toArray) (.agg (ys.map (Value.int .i64)).toArray)).run Tryz.prog w=.ok (xs==ys) w:=by
 unfold a9w at h;split at h
 ·rename_i hk;have hm:2=m:=d9K h;rw [d9J hk];exact d6v xs ys w (hx.trans hm.symm) (hy.trans hm.symm)
 split at h
 ·rename_i hk;have hm:2=m:=d9K h;rw [d9J hk];exact d47 xs ys w (hx.trans hm.symm) (hy.trans hm.symm)
 split at h
 ·rename_i hk;have hm:2=m:=d9K h;rw [d9J hk];exact d6A xs ys w (hx.trans hm.symm) (hy.trans hm.symm)
 split at h
 ·rename_i hk;have hm:2=m:=d9K h;rw [d9J hk];exact d3l xs ys w (hx.trans hm.symm) (hy.trans hm.symm)
 cases h
theorem d4o(t m:Nat)(h:a9w t=some m):Tryz.prog.eqGuardType Tryz.prog.depth t=false:=by
 unfold a9w at h;split at h
 ·rename_i hk;have hm:2=m:=d9K h;rw [d9J hk];exact Tryz.eqGuardType46
 split at h
 ·rename_i hk;have hm:2=m:=d9K h;rw [d9J hk];exact Tryz.eqGuardType82
 split at h
 ·rename_i hk;have hm:2=m:=d9K h;rw [d9J hk];exact Tryz.eqGuardType133
 split at h
 ·rename_i hk;have hm:2=m:=d9K h;rw [d9J hk];exact Tryz.eqGuardType135
 cases h
theorem d7x:Tryz.prog.follows .mixedOrders=true:=by kernel_rfl
def cx:Cx where
 P:=Tryz.prog
 mixed:=d7x
 T:=b2r b36
 hT:=fun t ti h=>c9u (t,ti) (c8k h)
 E:=a9w
 hE:=d8a
 hG:=d4o
 M:=fun _=>none
 hM:=fun _ _ _ _ h=>nomatch h
structure FS(α:Type) where
 f:Nat
 fn:Func
 m:List PM
 o:List (Option (Nat×PM))
 ms:List PM
 R:α->V
 O:α->LOV
 h:cx.P.funcs[f]?=some fn
def FS.X{α:Type}(q:FS α):J3:=⟨q.f,q.fn,q.m,q.o⟩
def FS.c{α:Type}(q:FS α):Code:=d3y q.fn
def FS.t{α:Type}(q:FS α)(i:Nat)(fr:Bool)(r:α):Nat×H1:=(i,{a:=.call q.ms fr (q.R r) (q.O r)})
def FS.k{α:Type}(q:FS α)(i:Nat)(l:List Bool):List Item:=a1W 2000 i l [.code q.c]
def noK:Unit->KS:=fun _=>([],⟨[],[]⟩)
section
variable {α β J P E:Type}
abbrev OK(q:FS α)(args:List V)(m:Option α):Prop := ∀r,m=some r->a2t cx.P q.f args (q.R r) (q.O r)
abbrev NG(q:FS α)(r:α)(S:J->KS)(f:J->Option β)(v:β):Prop := ∀s,f s=some v->FK cx q.X (q.R r) (q.O r) (S s)
abbrev NF(q:FS α)(r:α)(S:J->KS)(f:J->Option α):Prop:=NG q r S f r
abbrev R7(q:FS α)(SE:E->KS)(S:P->KS):=LC cx q.X q.R q.O SE S
abbrev LQ(q:FS α)(SE:E->KS)(S:P->KS)(b:P->Option (j7 α P E)):Prop:=LB cx q.X q.R q.O SE S b
theorem o9(q:FS α){args:List V}{m:Option α}(h:∀r,m=some r->Pt cx q.X (q.R r) (q.O r) [.code q.c] (a5X q.X args) [] [])(hb:q.X.fn.body=some q.c:=by kernel_rfl) (hn:(q.X.fn.name == "runtime.NumGoroutine")=false:=by kernel_rfl) (ho:a12 0 q.X.oms args=true:=by kernel_rfl):OK q args m:=
 fun r hm=>a2t.of (X:=q.X) q.h hb hn ho (P0 (h r hm))
theorem FS.rt(q:FS α){x y:α}(h:some x=some y):q.R y=q.R x/\q.O y=q.O x:=by
 injection h with h;subst h;exact ⟨rfl,rfl⟩
variable {X:J3} {res:V} {outs:LOV} {k:List Item} {S:St} {sc:O1} {ps:List Prop} {t:List (Nat×H1)} {v:β}
theorem fE{q:FS α}{x y:α}(h:some x=some y)(hg:a60 cx q.X k S (scO sc [])=some (q.R x,q.O x,psO ps []):=by kernel_rfl):Pt cx q.X (q.R y) (q.O y) k S sc ps:=fn0 q.h (q.rt h) hg
theorem fL{q:FS α}{SE:E->KS}{SP:P->KS}(c:R7 q SE SP){x:α}(h:some (j7.ret x)=some c.st)(hg:a60 cx q.X k S (scO sc [])=some (q.R x,q.O x,psO ps []):=by kernel_rfl):Pt cx q.X c.res c.outs k S sc ps:=fn0 q.h (c.rt h) hg
theorem j4(q:FS α){m:Option α}{p:α->Prop}(ok:∀x,m=some x->p x)(i:Nat){f:α->Option β}(h:m.bind f=some v)(g:∀x,f x=some v->Pt cx X res outs k S ((q.t i false x::t)::sc) (p x::ps)):Pt cx X res outs k S (t::sc) ps:=cb q.t ok i false h g
theorem cbS(q:FS α){m:Option α}{p:α->Prop}(ok:∀x,m=some x->p x)(i:Nat){f:α->Option β}(a:∀x,N7 (q.R x))(b:∀x,a3S (q.O x))(h:m.bind f=some v)(g:∀x,f x=some v->Pt cx X res outs k S ((q.t i true x::t)::sc) ((N7 (q.R x)/\a3S (q.O x))::p x::ps)):Pt cx X res outs k S (t::sc) ps:=
 cb q.t ok i true h fun x h=>ob ⟨a x,b x⟩ (g x h)
theorem cb1(q:FS α){m:Option α}{p:α->Prop}(ok:∀x,m=some x->p x)(i n:Nat){f:α->Option β}(h:m.bind f=some v)(g:∀x,f x=some v->Pt cx X res outs k S ((q.t i true x::t)::sc) ((N7 (q.R x)/\a3S (q.O x))::p x::ps))(a:∀x,N7 (q.R x):=by exact fun _=>rfl)(b:∀x,q.O x=b6D n:=by exact fun _=>rfl):Pt cx X res outs k S (t::sc) ps:=cbS q ok i a (fun x=>b x▸a0P n) h g
end
theorem z4{X:J3}{res:V}{outs:LOV}{k:List Item}{S:St}{sc:O1}{ps:List Prop}(x:m6)(h:Pt cx X res outs k S sc ((x.told.length=x.told.length)::(x.out.length=x.out.length)::(x.n.a8.length=x.n.a8.length)::(x.n.b7.length=x.n.b7.length)::(x.n.a6.length=x.n.a6.length)::ps)):Pt cx X res outs k S sc ps:=ob rfl (ob rfl (ob rfl (ob rfl (ob rfl (h)))))
theorem I8{X:J3}{res:V}{outs:LOV}{k:List Item}{S:St}{sc:O1}{ps:List Prop}(x:j6)(h:Pt cx X res outs k S sc ((x.d8.length=x.d8.length)::(x.a8.length=x.a8.length)::(x.b7.length=x.b7.length)::(x.a6.length=x.a6.length)::ps)):Pt cx X res outs k S sc ps:=ob rfl (ob rfl (ob rfl (ob rfl (h))))
theorem I6{X:J3}{res:V}{outs:LOV}{k:List Item}{S:St}{sc:O1}{ps:List Prop}(x:j8)(h:Pt cx X res outs k S sc ((x.Told.length=x.Told.length)::(x.g9.length=x.g9.length)::(x.g8.length=x.g8.length)::(x.c6.length=x.c6.length)::ps)):Pt cx X res outs k S sc ps:=ob rfl (ob rfl (ob rfl (ob rfl (h))))
def a0g(x_:m8):List V:=[j5 2 t6 x_.b5,j5 2 t7 x_.b6,vi x_.c7,vi x_.Code]
def M1(x_:j8):List V:=[j5 27 w5 x_.c6,j5 13 t9 x_.g8,j5 3 C6 x_.g9,j5 5 z7 x_.Told]
def b3l:FS (t5):=⟨15,Tryz.f15,[.ptr [some 1,none] []],[none],[.val [some 1] []],fun r=>.optr 89 (Z5 r),fun _=>[none],Tryz.func15⟩
def d2a:(List Int)->KS:=fun b2F=>⟨b3l.k 3 [true],(j5 1 I9 b2F::(bs 10 [])),[some []]⟩
def b6C(b2F:List Int):Option t5:=
 some (t5.mk b2F 0)
theorem d7S(r):NF b3l r d2a (fun s=>b6C s):=fun b2F h=>PK<|rg<|fE h
def b1a(code:List Int):Option t5:=
 (((bif decide ((code.length:Int)>2000) then (r7 ((0:Int)<=2000/\2000<=(code.length:Int)) (some (j9.brk ((code.drop 0).take ((2000:Int).toNat-0))))) else some (j9.brk code)):Option (j9 t5 (List Int))).bind fun x=>x.go some fun j=>b6C j)
theorem d1k{code}:OK b3l [j5 1 I9 code] (b1a code):=
 o9 _ fun r h=>rg<|B5 h (d7S r) fun x1 h hc1=>rg<|j3 2 h (fun h=>rg<|t0 h fun e1 h=>om (V.sl 1 ((2000:Int).toNat-0) (((code.map I9).drop 0).take ((2000:Int).toNat-0))=j5 1 I9 ((code.drop 0).take ((2000:Int).toNat-0))) (a75 e1)<|ob e1.1<|ob e1.2<|tl (1,{v:=some (j5 1 I9 ((code.drop 0).take ((2000:Int).toNat-0)))})<|(p8 h hc1 fun hI=>sk [] [0] [] hI)) (fun h=>(p8 h hc1 fun hI=>sk [] [0] [] hI))
def c6h:FS (List m7):=⟨35,Tryz.f35,[.val [some 2] [some 82]],[],[],fun r=>z6 82 2 t8 r,fun _=>[],Tryz.func35⟩
def b6S:Option (List m7):=
 (r7 (0<=(4:Int)/\(4:Int)*16<=140737488355328) (some (d81 (4:Int).toNat (m7.mk 0 0))))
theorem d6W:OK c6h [] b6S:=
 o9 _ fun r h=>n8<|t0 h fun e1 h=>S4 0 2 82 2 16 t8 (m7.mk 0 0) a7V (.none) e1 (by decide) (by rfl)<|x9 (d81 (4:Int).toNat (m7.mk 0 0))<|fE h
def N3:FS (Int×t5):=⟨17,Tryz.f17,[.val [] []],[some (0,.ptr [some 1,none] []),none],[.ptr [some 1,none] [],.val [] []],fun r=>vi r.1,fun r=>[some (.optr 89 (Z5 r.2)),none],Tryz.func17⟩
def L6(r_:t5)(n:Int):Option (Int×t5):=
 (bif decide (n<1) then some (0,(t5.mk r_.b (l9 (r_.p+1)))) else (bif ((r_.b.length:Int)==0) then some (0,(t5.mk r_.b (l9 (r_.p+1)))) else (bif decide ((l9 ((l9 (r_.p+1))-1))<(r_.b.length:Int)) then ((idx r_.b (l9 ((l9 (r_.p+1))-1))).bind fun y=>(r7 (n≠0) (some (d9x (l9 y) n,(t5.mk r_.b (l9 (r_.p+1))))))) else (r7 ((r_.b.length:Int)≠0) (((idx r_.b (d9x (l9 ((l9 (r_.p+1))-1)) (r_.b.length:Int))).bind fun y1=>(r7 ((r_.b.length:Int)≠0) (((idx r_.b (d9x (l9 ((l9 ((l9 ((l9 (r_.p+1))-1))*7))+3)) (r_.b.length:Int))).bind fun y2=>(r7 ((r_.b.length:Int)≠0) ((r7 (n≠0) (some (d9x (a3E .i64 (l9 ((l9 ((l9 ((l9 ((l9 y1)*131))+(l9 ((l9 y2)*1117))))+(l9 ((l9 ((l9 (r_.p+1))-1))*29))))+(l9 ((l9 (e0m (l9 ((l9 (r_.p+1))-1)) (r_.b.length:Int)))*53)))) (l9 (e0m (l9 ((l9 ((l9 ((l9 ((l9 y1)*131))+(l9 ((l9 y2)*1117))))+(l9 ((l9 ((l9 (r_.p+1))-1))*29))))+(l9 ((l9 (e0m (l9 ((l9 (r_.p+1))-1)) (r_.b.length:Int)))*53)))) 64))) n,(t5.mk r_.b (l9 (r_.p+1)))))))))))))))))
theorem O5{r_ n}:OK N3 [.optr 89 (Z5 r_),vi n] (L6 r_ n):=
 o9 _ fun r h=>X1<|j3 2 h (fun h=>rg<|fE h) (fun h=>j3 9 h (fun h=>rg<|fE h) (fun h=>n8<|j3 6 h (fun h=>rg<|u9 I9 5 h fun y hy h=>t0 h fun e1 h=>ob e1<|fE h) (fun h=>rg<|t0 h fun e2 h=>ob e2<|u9 I9 11 h fun y1 hy1 h=>t0 h fun e3 h=>ob e3<|u9 I9 28 h fun y2 hy2 h=>t0 h fun e4 h=>ob e4<|rg<|om (64≠(0:Int)) (by decide)<|rg<|t0 h fun e5 h=>ob e5<|fE h)))
def a2M:FS (Int×t5):=⟨36,Tryz.f36,[.val [] []],[some (0,.ptr [some 1,none] []),none],[.ptr [some 1,none] [],.val [some 1] []],fun r=>vi r.1,fun r=>[some (.optr 89 (Z5 r.2)),none],Tryz.func36⟩
def a0Y(r_:t5)(list:List Int):Option (Int×t5):=
 ((L6 r_ (list.length:Int)).bind fun pick=>((idx list pick.1).bind fun y=>some (y,pick.2)))
theorem a3i{r_ list}:OK a2M [.optr 89 (Z5 r_),j5 1 eI list] (a0Y r_ list):=
 o9 _ fun r h=>n8<|j4 N3 O5 4 h fun pick h=>u9 eI 5 h fun y hy h=>fE h
def a4q:FS ((List m7×Nat)×t5):=⟨16,Tryz.f16,[.part],[some (0,.ptr [some 1,none] [])],[.ptr [some 1,none] []],fun r=>.sl 2 r.1.2 (((r.1.1.map t8).drop 0).take r.1.2),fun r=>[some (.optr 89 (Z5 r.2))],Tryz.func16⟩
def c5b:(t5×List m7)->KS:=fun (r_2,out1)=>⟨a4q.k 4 [false],(.ptr 0 0 0::(bs 2 (.own 1 0 2 0 out1.length::(bs 44 [])))),[some [.var 89 [j5 1 I9 r_2.b,vi r_2.p]],some [m4 82 2 t8 out1]]⟩
def b6Q(r_2:t5)(out1:List m7):Option ((List m7×Nat)×t5):=
 ((L6 r_2 30).bind fun pick=>(bif (pick.1==0) then (r7 ((0:Int)<=3/\3<=(out1.length:Int)) (some ((out1,((3:Int).toNat-0)),pick.2))) else (bif (pick.1==1) then ((L6 pick.2 4).bind fun pick1=>((a0Y pick1.2 [(-1),1000001]).bind fun num=>((idx out1 pick1.1).bind fun box=>some ((out1.set pick1.1.toNat (m7.mk num.1 box.c7),out1.length),num.2)))) else (bif (pick.1==2) then ((L6 pick.2 4).bind fun X8=>((a0Y X8.2 [1000001,(-1000001)]).bind fun T6=>((idx out1 X8.1).bind fun L1=>some ((out1.set X8.1.toNat (m7.mk L1.i8 T6.1),out1.length),T6.2)))) else some ((out1,out1.length),pick.2)))))
theorem d6B(r):NF a4q r c5b (fun s=>b6Q s.1 s.2):=fun (r_2,out1) h=>PK<|rg<|j4 N3 O5 1 h fun pick h=>rg<|j3 1 h (fun h=>rg<|t0 h fun e1 h=>ob e1.1<|ob e1.2<|rg<|om ((0+0)+((3:Int).toNat-0)<=out1.length) (by first|omega|(simp only [d9A];omega)|(dsimp only at *;omega)|(simp at *;omega))<|fE h) (fun h=>rg<|j3 1 h (fun h=>rg<|j4 N3 O5 2 h fun pick1 h=>tk 4 []<|j4 a2M a3i 5 h fun num h=>om (2=[(-1),1000001].length) (by simp)<|A7 h fun box a5Y h=>E3 a5Y<|R1 82 2 t8 8 [] (m7.mk num.1 box.c7) a5Y<|rg<|om (0+out1.length<=(out1.set pick1.1.toNat (m7.mk num.1 box.c7)).length) (by first|omega|(simp only [d9A];omega)|(dsimp only at *;omega)|(simp at *;omega))<|fE h) (fun h=>rg<|j3 1 h (fun h=>rg<|j4 N3 O5 2 h fun X8 h=>tk 4 []<|j4 a2M a3i 5 h fun T6 h=>om (2=[1000001,(-1000001)].length) (by simp)<|A7 h fun L1 a2z h=>E3 a2z<|R1 82 2 t8 8 [] (m7.mk L1.i8 T6.1) a2z<|rg<|om (0+out1.length<=(out1.set X8.1.toNat (m7.mk L1.i8 T6.1)).length) (by first|omega|(simp only [d9A];omega)|(dsimp only at *;omega)|(simp at *;omega))<|fE h) (fun h=>rg<|om (0+out1.length<=out1.length) (by first|omega|(simp only [d9A];omega)|(dsimp only at *;omega)|(simp at *;omega))<|fE h)))
def d5b:(t5×(List m7)×Int)->KS:=fun (r_1,out,i)=>⟨a4q.k 3 [],(.ptr 0 0 0::(bs 2 (.own 1 0 2 0 out.length::(vi i::(bs 43 []))))),[some [.var 89 [j5 1 I9 r_1.b,vi r_1.p]],some [m4 82 2 t8 out]]⟩
def a7Q(r_1:t5)(out:List m7)(i:Int):Option (j7 ((List m7×Nat)×t5) (t5×(List m7)×Int) (t5×List m7)):=
 (bif decide (i<(out.length:Int)) then ((L6 r_1 5).bind fun T0=>((a0Y T0.2 [0,1,2,5,(-3),7,100,1000000,(-1000000)]).bind fun a0i=>((idx out i).bind fun d6M=>some (j7.nxt (a0i.2,out.set i.toNat (m7.mk T0.1 a0i.1),l9 (i+1)))))) else some (j7.brk (r_1,out)))
theorem d77:LQ a4q c5b d5b (fun s=>a7Q s.1 s.2.1 s.2.2):=fun lc (r_1,out,i) h=>PK<|rg<|j3 3 h (fun h=>rg<|j4 N3 O5 3 h fun T0 h=>tk 5 []<|j4 a2M a3i 6 h fun a0i h=>om (9=[0,1,2,5,(-3),7,100,1000000,(-1000000)].length) (by simp)<|A7 h fun d6M c2w h=>E3 c2w<|R1 82 2 t8 9 [] (m7.mk T0.1 a0i.1) c2w<|rg<|(lc.nx h fun hI=>om ((.own 1 0 2 0 out.length:V)=.own 1 0 2 0 (out.set i.toNat (m7.mk T0.1 a0i.1)).length) (by simp)<|sk [.is (.tmp 3) (.own 1 0 2 0 (out.set i.toNat (m7.mk T0.1 a0i.1)).length)] [0,3,4] [(1,0)] hI)) (fun h=>(lc.bk h fun hI=>sk [] [0,3] [(1,0)] hI))
def b2H(r_:t5):Option ((List m7×Nat)×t5):=
 ((b6S).bind fun a1L=>((p6 (fun s:t5×(List m7)×Int=>a7Q s.1 s.2.1 s.2.2) (r_,a1L,0)).bind fun x=>x.go (fun r=>some r) fun s=>b6Q s.1 s.2))
theorem d0A{r_}:OK a4q [.optr 89 (Z5 r_)] (b2H r_):=
 o9 _ fun r h=>n8<|j4 c6h d6W 0 h fun a1L h=>rg<|lp (d77) h (fun _ h=>a4q.rt h) (d6B r) fun hI=>sk [] [0,3,4] [(2,0)] hI
def b0g:FS (m5×t5):=⟨37,Tryz.f37,[.val [] []],[some (0,.ptr [some 1,none] [])],[.ptr [some 1,none] []],fun r=>.agg (z3 r.1),fun r=>[some (.optr 89 (Z5 r.2))],Tryz.func37⟩
def d3u:(t5×m5)->KS:=fun (w,i)=>⟨b0g.k 6 [true],(bs 2 (.ptr 1 0 0::(.ptr 2 0 0::(bs 36 [])))),[some [.var 89 [j5 1 I9 w.b,vi w.p]],some [.var 78 [vi 0,vi 0,vi 0,vi 0]],some [.var 78 [vi i.a0,vi i.A,vi i.B,vi i.N]]]⟩
def c4Z(w:t5)(i:m5):Option (m5×t5):=
 some (i,w)
theorem d2O(r):NF b0g r d3u (fun s=>c4Z s.1 s.2):=fun (w,i) h=>PK<|rg<|fE h
def b2Y(r_:t5):Option (m5×t5):=
 ((a0Y r_ [1,1,2,2,3,4,4,5,6,7]).bind fun num=>((L6 num.2 3).bind fun pick=>((L6 pick.2 3).bind fun pick1=>(((bif (num.1==3) then ((a0Y pick1.2 [0,1,5,(-2),100,1000000]).bind fun T6=>some (j9.brk (T6.2,(m5.mk num.1 pick.1 0 T6.1)))) else (bif (num.1==6) then ((L6 pick1.2 3).bind fun X8=>some (j9.brk (X8.2,(m5.mk num.1 pick.1 pick1.1 (l9 (1+X8.1)))))) else (bif (num.1==7) then ((L6 pick1.2 3).bind fun T0=>(bif decide (T0.1>0) then ((L6 T0.2 4).bind fun a4P=>((L6 a4P.2 4).bind fun b4u=>some (j9.ret ((m5.mk 4 a4P.1 b4u.1 0),b4u.2)))) else some (j9.brk (T0.2,(m5.mk num.1 0 0 0))))) else some (j9.brk (pick1.2,(m5.mk num.1 pick.1 pick1.1 0)))))):Option (j9 (m5×t5) (t5×m5))).bind fun x=>x.go some fun j=>c4Z j.1 j.2))))
theorem d8o{r_}:OK b0g [.optr 89 (Z5 r_)] (b2Y r_):=
 o9 _ fun r h=>n8<|tk 1 []<|j4 a2M a3i 2 h fun num h=>om (10=[1,1,2,2,3,4,4,5,6,7].length) (by simp)<|j4 N3 O5 4 h fun pick h=>j4 N3 O5 6 h fun pick1 h=>rg<|B5 h (d2O r) fun x1 h hc1=>rg<|j3 1 h (fun h=>n8<|tk 1 []<|j4 a2M a3i 2 h fun T6 h=>om (6=[0,1,5,(-2),100,1000000].length) (by simp)<|(p8 h hc1 fun hI=>sk [] [2,3] [(1,0),(10,0)] hI)) (fun h=>rg<|j3 1 h (fun h=>rg<|j4 N3 O5 1 h fun X8 h=>(p8 h hc1 fun hI=>sk [] [2,3] [(1,0),(10,0)] hI)) (fun h=>rg<|j3 1 h (fun h=>rg<|j4 N3 O5 1 h fun T0 h=>j3 2 h (fun h=>rg<|j4 N3 O5 1 h fun a4P h=>j4 N3 O5 3 h fun b4u h=>(B0 h hc1 fun h=>fE h)) (fun h=>n8<|(p8 h hc1 fun hI=>sk [] [2,3] [(1,0),(10,0)] hI))) (fun h=>(p8 h hc1 fun hI=>sk [] [2,3] [(1,0),(10,0)] hI))))
def a4f:FS ((List m5)×t5):=⟨18,Tryz.f18,[.val [some 4] [some 78]],[some (0,.ptr [some 1,none] [])],[.ptr [some 1,none] []],fun r=>z6 78 4 z3 r.1,fun r=>[some (.optr 89 (Z5 r.2))],Tryz.func18⟩
def b99:(t5×List m5)->KS:=fun (w,out1)=>⟨a4f.k 5 [false,false],(bs 5 (.own 1 0 4 0 out1.length::(bs 31 []))),[some [.var 89 [j5 1 I9 w.b,vi w.p]],some [m4 78 4 z3 out1]]⟩
def b9T(w:t5)(out1:List m5):Option ((List m5)×t5):=
 some (out1,w)
theorem d0x(r):NF a4f r b99 (fun s=>b9T s.1 s.2):=fun (w,out1) h=>PK<|rg<|x9 out1<|fE h
def d4u:(t5×(List m5)×Int)->KS:=fun (r_1,out,i)=>⟨a4f.k 4 [false],(.ptr 0 0 0::(bs 4 (.own 1 0 4 0 out.length::(vi i::(bs 30 []))))),[some [.var 89 [j5 1 I9 r_1.b,vi r_1.p]],some [m4 78 4 z3 out]]⟩
def b3N(r_1:t5)(out:List m5)(i:Int):Option (j7 ((List m5)×t5) (t5×(List m5)×Int) (t5×List m5)):=
 (bif decide (i>0) then ((b2Y r_1).bind fun a8j=>(r7 ((out.length+1)*32<=140737488355328) (some (j7.nxt (a8j.2,out++[a8j.1],l9 (i-1)))))) else some (j7.brk (r_1,out)))
theorem c9B:LQ a4f b99 d4u (fun s=>b3N s.1 s.2.1 s.2.2):=fun lc (r_1,out,i) h=>PK<|rg<|j3 1 h (fun h=>rg<|j4 b0g d8o 2 h fun a8j h=>tk 3 []<|t0 h fun e1 h=>J8 4 8 78 4 32 z3 out a8j.1 e1<|J0 a8j.1<|rg<|(lc.nx h fun hI=>sk [] [0,5,6] [(8,0)] hI)) (fun h=>(lc.bk h fun hI=>sk [] [5] [(1,0)] hI))
def a8C(r_:t5):Option ((List m5)×t5):=
 ((L6 r_ 3).bind fun pick=>(bif (pick.1==0) then ((L6 pick.2 3).bind fun pick1=>((L6 pick1.2 3).bind fun X8=>((L6 X8.2 3).bind fun T0=>some ([(m5.mk 1 0 pick1.1 0),(m5.mk 3 1 0 (l9 (1+T0.1))),(m5.mk 4 0 1 0),(m5.mk 2 X8.1 0 0)],T0.2)))) else ((L6 pick.2 8).bind fun a4P=>((p6 (fun s:t5×(List m5)×Int=>b3N s.1 s.2.1 s.2.2) (a4P.2,([]:List m5),a4P.1)).bind fun x=>x.go (fun r=>some r) fun s=>b9T s.1 s.2))))
theorem c37{r_}:OK a4f [.optr 89 (Z5 r_)] (a8C r_):=
 o9 _ fun r h=>n8<|j4 N3 O5 1 h fun pick h=>j3 2 h (fun h=>rg<|j4 N3 O5 1 h fun pick1 h=>rg<|j4 N3 O5 1 h fun X8 h=>rg<|j4 N3 O5 3 h fun T0 h=>tk 9 []<|om (4=[(m5.mk 1 0 pick1.1 0),(m5.mk 3 1 0 (l9 (1+T0.1))),(m5.mk 4 0 1 0),(m5.mk 2 X8.1 0 0)].length) (by simp)<|fE h) (fun h=>rg<|tk 0 []<|rg<|j4 N3 O5 1 h fun a4P h=>lp (c9B) h (fun _ h=>a4f.rt h) (d0x r) fun hI=>om ((.own 5 0 4 0 0:V)=.own 5 0 4 0 ([]:List m5).length) (by simp)<|sk [.is (.tmp 5) (.own 5 0 4 0 ([]:List m5).length)] [0,5,6] [(5,0)] hI)
def a0M:FS ((List m5)×t5):=⟨19,Tryz.f19,[.val [some 4] []],[some (0,.ptr [some 1,none] [])],[.ptr [some 1,none] []],fun r=>j5 4 z3 r.1,fun r=>[some (.optr 89 (Z5 r.2))],Tryz.func19⟩
def c0k:(t5×List m5)->KS:=fun (w,out)=>⟨a0M.k 7 [false,true],(bs 3 (.own 1 0 4 0 out.length::(bs 53 []))),[some [.var 89 [j5 1 I9 w.b,vi w.p]],some [m4 78 4 z3 out]]⟩
def b74(w:t5)(out:List m5):Option ((List m5)×t5):=
 some (out,w)
theorem d3X(r):NF a0M r c0k (fun s=>b74 s.1 s.2):=fun (w,out) h=>PK<|rg<|x9 out<|fE h
def c0E(pick1:Int×t5):(List m5)->KS:=fun out2=>⟨a0M.k 10 [false,false,false,false,true,false],(bs 3 (.own 1 0 4 0 out2.length::(bs 53 []))),[some [.var 89 [j5 1 I9 pick1.2.b,vi pick1.2.p]],some [m4 78 4 z3 out2]]⟩
def b8b(pick1:Int×t5)(out2:List m5):Option (j9 ((List m5)×t5) (t5×List m5)):=
 some (j9.brk (pick1.2,out2))
theorem d3e(pick1)(r){x1}(hc1:JC (fun j=>FK cx a0M.X (a0M.R r) (a0M.O r) (c0k j)) r x1):NG a0M r (c0E pick1) (fun s=>b8b pick1 s) x1:=fun out2 h=>PK<|(p8 h hc1 fun hI=>sk [] [3] [(1,0)] hI)
def d6k(pick:Int×t5)(pick1:Int×t5):(List m5)->KS:=fun out1=>⟨a0M.k 9 [false,false,false,false,true],(bs 3 (.own 1 0 4 0 out1.length::(vi pick.1::(bs 52 [])))),[some [.var 89 [j5 1 I9 pick1.2.b,vi pick1.2.p]],some [m4 78 4 z3 out1]]⟩
def a9I(pick:Int×t5)(out1:List m5):Option (j7 ((List m5)×t5) (List m5) (List m5)):=
 (bif decide ((out1.length:Int)<11) then ((idx out1 pick.1).bind fun b3w=>(r7 ((out1.length+1)*32<=140737488355328) (some (j7.nxt (out1++[b3w]))))) else some (j7.brk out1))
theorem d5u(pick pick1):LQ a0M (c0E pick1) (d6k pick pick1) (fun s=>a9I pick s):=fun lc out1 h=>PK<|rg<|j3 2 h (fun h=>rg<|A7 h fun b3w c0R h=>E3 c0R<|V6 z3 4 c0R<|tk 5 []<|t0 h fun e1 h=>J8 6 11 78 4 32 z3 out1 b3w e1<|J0 b3w<|(lc.nx h fun hI=>sk [] [3,4] [(11,0)] hI)) (fun h=>(lc.bk h fun hI=>sk [] [3] [(1,0)] hI))
def b0D(r_:t5):Option ((List m5)×t5):=
 ((a8C r_).bind fun F5=>(bif ((F5.1.length:Int)==0) then some (F5.1,F5.2) else ((L6 F5.2 (F5.1.length:Int)).bind fun pick=>((L6 pick.2 40).bind fun pick1=>(((bif (pick1.1==0) then ((a0Y pick1.2 [0,8]).bind fun num=>((idx F5.1 pick.1).bind fun ins=>some (j9.brk (num.2,F5.1.set pick.1.toNat (m5.mk num.1 ins.A ins.B ins.N))))) else (bif (pick1.1==1) then ((a0Y pick1.2 [(-1),4]).bind fun T6=>((idx F5.1 pick.1).bind fun Y9=>some (j9.brk (T6.2,F5.1.set pick.1.toNat (m5.mk Y9.a0 T6.1 Y9.B Y9.N))))) else (bif (pick1.1==2) then ((a0Y pick1.2 [(-1),11,2000000]).bind fun a0i=>((idx F5.1 pick.1).bind fun a0e=>some (j9.brk (a0i.2,F5.1.set pick.1.toNat (m5.mk a0e.a0 a0e.A a0e.B a0i.1))))) else (bif (pick1.1==3) then ((p6 (fun s:List m5=>a9I pick s) F5.1).bind fun x=>x.go (fun r=>some (j9.ret r)) fun s=>b8b pick1 s) else some (j9.brk (pick1.2,F5.1)))))):Option (j9 ((List m5)×t5) (t5×List m5))).bind fun x=>x.go some fun j=>b74 j.1 j.2)))))
set_option maxRecDepth 20000 in
theorem d0Q{r_}:OK a0M [.optr 89 (Z5 r_)] (b0D r_):=
 o9 _ fun r h=>n8<|j4 a4f c37 1 h fun F5 h=>rg<|j3 2 h (fun h=>rg<|x9 F5.1<|fE h) (fun h=>rg<|j4 N3 O5 3 h fun pick h=>rg<|j4 N3 O5 1 h fun pick1 h=>B5 h (d3X r) fun x1 h hc1=>rg<|j3 1 h (fun h=>rg<|tk 3 []<|j4 a2M a3i 4 h fun num h=>om (2=[0,8].length) (by simp)<|A7 h fun ins hins h=>E3 hins<|R1 78 4 z3 7 [] (m5.mk num.1 ins.A ins.B ins.N) hins<|(p8 h hc1 fun hI=>om ((.own 3 0 4 0 F5.1.length:V)=.own 3 0 4 0 (F5.1.set pick.1.toNat (m5.mk num.1 ins.A ins.B ins.N)).length) (by simp)<|sk [.is (.tmp 3) (.own 3 0 4 0 (F5.1.set pick.1.toNat (m5.mk num.1 ins.A ins.B ins.N)).length)] [3] [(3,0)] hI)) (fun h=>rg<|j3 1 h (fun h=>rg<|tk 3 []<|j4 a2M a3i 4 h fun T6 h=>om (2=[(-1),4].length) (by simp)<|A7 h fun Y9 b9F h=>E3 b9F<|R1 78 4 z3 7 [] (m5.mk Y9.a0 T6.1 Y9.B Y9.N) b9F<|(p8 h hc1 fun hI=>om ((.own 3 0 4 0 F5.1.length:V)=.own 3 0 4 0 (F5.1.set pick.1.toNat (m5.mk Y9.a0 T6.1 Y9.B Y9.N)).length) (by simp)<|sk [.is (.tmp 3) (.own 3 0 4 0 (F5.1.set pick.1.toNat (m5.mk Y9.a0 T6.1 Y9.B Y9.N)).length)] [3] [(3,0)] hI)) (fun h=>rg<|j3 1 h (fun h=>rg<|tk 3 []<|j4 a2M a3i 4 h fun a0i h=>om (3=[(-1),11,2000000].length) (by simp)<|A7 h fun a0e c5E h=>E3 c5E<|R1 78 4 z3 7 [] (m5.mk a0e.a0 a0e.A a0e.B a0i.1) c5E<|(p8 h hc1 fun hI=>om ((.own 3 0 4 0 F5.1.length:V)=.own 3 0 4 0 (F5.1.set pick.1.toNat (m5.mk a0e.a0 a0e.A a0e.B a0i.1)).length) (by simp)<|sk [.is (.tmp 3) (.own 3 0 4 0 (F5.1.set pick.1.toNat (m5.mk a0e.a0 a0e.A a0e.B a0i.1)).length)] [3] [(3,0)] hI)) (fun h=>rg<|j3 1 h (fun h=>lp (d5u pick pick1) h (fun _ h=>a0M.rt (b9e h hc1)) (d3e pick1 r hc1) fun hI=>sk [] [3,4] [(3,0)] hI) (fun h=>(p8 h hc1 fun hI=>sk [] [3] [(3,0)] hI))))))
def a2U:FS ((List m7×Nat)×List (List m5)):=⟨4,Tryz.f4,[.val [some 2] [],.val [some 1] []],[none],[.val [some 1] []],fun r=>.tup [.sl 2 r.1.2 (((r.1.1.map t8).drop 0).take r.1.2),j5 1 R4 r.2],fun _=>[none],Tryz.func4⟩
def c1G(l1Boxes:(List m7×Nat)×t5):(t5×List (List m5))->KS:=fun (r_1,out1)=>⟨a2U.k 6 [false],(bs 4 (.ptr 1 0 0::(.sl 2 l1Boxes.1.2 (((l1Boxes.1.1.map t8).drop 0).take l1Boxes.1.2)::(.own 2 0 1 0 out1.length::(bs 27 []))))),[some [],some [.var 89 [j5 1 I9 r_1.b,vi r_1.p]],some [m4 37 1 R4 out1]]⟩
def d2M(l1Boxes:(List m7×Nat)×t5):(List (List m5))->KS:=fun out2=>⟨a2U.k 8 [false,true],(bs 5 (.sl 2 l1Boxes.1.2 (((l1Boxes.1.1.map t8).drop 0).take l1Boxes.1.2)::(.own 1 0 1 0 out2.length::(bs 27 [])))),[some [],some [m4 37 1 R4 out2]]⟩
def c08(l1Boxes:(List m7×Nat)×t5)(out2:List (List m5)):Option ((List m7×Nat)×List (List m5)):=
 some (l1Boxes.1,out2)
theorem d75(l1Boxes)(r):NF a2U r (d2M l1Boxes) (fun s=>c08 l1Boxes s):=fun out2 h=>PK<|rg<|x9 out2<|fE h
def b42(l1Boxes:(List m7×Nat)×t5)(r_1:t5)(out1:List (List m5)):Option ((List m7×Nat)×List (List m5)):=
 ((((L6 r_1 12).bind fun pick1=>(bif (pick1.1==0) then ((b0D pick1.2).bind fun b3t=>(r7 ((out1.length+1)*24<=140737488355328) (some (j9.brk (out1++[b3t.1]))))) else some (j9.brk out1))):Option (j9 ((List m7×Nat)×List (List m5)) (List (List m5)))).bind fun x=>x.go some fun j=>c08 l1Boxes j)
theorem d1U(l1Boxes)(r):NF a2U r (c1G l1Boxes) (fun s=>b42 l1Boxes s.1 s.2):=fun (r_1,out1) h=>PK<|B5 h (d75 l1Boxes r) fun x1 h hc1=>rg<|j4 N3 O5 1 h fun pick1 h=>j3 2 h (fun h=>rg<|j4 a0M d0Q 2 h fun b3t h=>tk 3 [some 4]<|t0 h fun e1 h=>J8 4 10 37 1 24 R4 out1 b3t.1 e1<|J0 b3t.1<|(p8 h hc1 fun hI=>sk [] [5,6] [(10,0)] hI)) (fun h=>(p8 h hc1 fun hI=>sk [] [5,6] [(2,0)] hI))
def d2B(l1Boxes:(List m7×Nat)×t5):(t5×(List (List m5))×Int)->KS:=fun (r_,out,i)=>⟨a2U.k 5 [],(bs 4 (.ptr 1 0 0::(.sl 2 l1Boxes.1.2 (((l1Boxes.1.1.map t8).drop 0).take l1Boxes.1.2)::(.own 2 0 1 0 out.length::(vi i::(bs 26 [])))))),[some [],some [.var 89 [j5 1 I9 r_.b,vi r_.p]],some [m4 37 1 R4 out]]⟩
def b0i(r_:t5)(out:List (List m5))(i:Int):Option (j7 ((List m7×Nat)×List (List m5)) (t5×(List (List m5))×Int) (t5×List (List m5))):=
 (bif decide (i>0) then ((a8C r_).bind fun F5=>(r7 ((out.length+1)*24<=140737488355328) (some (j7.nxt (F5.2,out++[F5.1],l9 (i-1)))))) else some (j7.brk (r_,out)))
theorem c6s(l1Boxes):LQ a2U (c1G l1Boxes) (d2B l1Boxes) (fun s=>b0i s.1 s.2.1 s.2.2):=fun lc (r_,out,i) h=>PK<|rg<|j3 1 h (fun h=>rg<|j4 a4f c37 2 h fun F5 h=>x9 F5.1<|tk 3 [some 4]<|t0 h fun e2 h=>J8 4 9 37 1 24 R4 out F5.1 e2<|J0 F5.1<|rg<|(lc.nx h fun hI=>sk [] [4,5,6,7] [(1,0),(9,0)] hI)) (fun h=>(lc.bk h fun hI=>sk [] [4,5,6] [(1,0),(2,0)] hI))
def b3m(code:List Int):Option ((List m7×Nat)×List (List m5)):=
 ((b1a code).bind fun c5z=>((b2H c5z).bind fun l1Boxes=>((L6 l1Boxes.2 6).bind fun pick=>((p6 (fun s:t5×(List (List m5))×Int=>b0i s.1 s.2.1 s.2.2) (pick.2,([]:List (List m5)),pick.1)).bind fun x=>x.go (fun r=>some r) fun s=>b42 l1Boxes s.1 s.2))))
theorem c7B{code}:OK a2U [j5 1 I9 code] (b3m code):=
 o9 _ fun r h=>n8<|j4 b3l d1k 1 h fun c5z h=>rg<|j4 a4q d0A 1 h fun l1Boxes h=>rg<|tk 0 [some 4]<|rg<|j4 N3 O5 1 h fun pick h=>lp (c6s l1Boxes) h (fun _ h=>a2U.rt h) (d1U l1Boxes r) fun hI=>om ((.own 9 0 1 0 0:V)=.own 9 0 1 0 ([]:List (List m5)).length) (by simp)<|sk [.is (.tmp 6) (.own 9 0 1 0 ([]:List (List m5)).length)] [4,5,6,7] [(4,0),(9,0)] hI
def z8:FS (Bool):=⟨21,Tryz.f21,[.val [] []],[none,none,none],[.val [] [],.val [] [],.val [] []],fun r=>.b r,fun _=>[none,none,none],Tryz.func21⟩
def A0(n:Int)(low:Int)(high:Int):Option Bool:=
 (bif decide (n>=low) then some (decide (n<=high)) else some false)
theorem A8{n low high}:OK z8 [vi n,vi low,vi high] (A0 n low high):=
 o9 _ fun r h=>n8<|j3 3 h (fun h=>fE h) (fun h=>fE h)
def b9o:FS (j6):=⟨24,Tryz.f24,[.val I0 []],[none],[.val [] []],fun r=>.agg (w5 r),fun _=>[none],Tryz.func24⟩
def b1E(id:Int):Option j6:=
 ((A0 id 0 2).bind fun in_=>(bif (!in_) then some (j6.mk 0 (v6.mk 0 []) [] 0 0 0 [] [] (l7.mk false (p9.mk 0 0) (m8.mk [] [] 0 0)) [] false [] (l7.mk false (p9.mk 0 0) (m8.mk [] [] 0 0)) []) else some (j6.mk id (v6.mk 0 []) [] 0 0 0 [] [] (l7.mk false (p9.mk 0 0) (m8.mk [] [] 0 0)) [] false [] (l7.mk false (p9.mk 0 0) (m8.mk [] [] 0 0)) [])))
theorem d2q{id}:OK b9o [vi id] (b1E id):=
 o9 _ fun r h=>n8<|j4 z8 A8 1 h fun in_ h=>j3 2 h (fun h=>rg<|fE h) (fun h=>rg<|fE h)
def c0q:FS (List j6):=⟨41,Tryz.f41,[.val [some 27] [some 66]],[none],[.val [some 27] []],fun r=>z6 66 27 w5 r,fun _=>[none],Tryz.func41⟩
def b7v(list:List j6):Option (List j6):=
 (bif ((list.length:Int)==0) then some [] else (r7 (0<=(list.length:Int)/\(list.length:Int)*392<=140737488355328) ((r7 (list.length=(d81 (list.length:Int).toNat (j6.mk 0 (v6.mk 0 []) [] 0 0 0 [] [] (l7.mk false (p9.mk 0 0) (m8.mk [] [] 0 0)) [] false [] (l7.mk false (p9.mk 0 0) (m8.mk [] [] 0 0)) [])).length) (some list)))))
theorem c8w{list}:OK c0q [j5 27 w5 list] (b7v list):=
 o9 _ fun r h=>n8<|j3 2 h (fun h=>rg<|fE h) (fun h=>rg<|t0 h fun e1 h=>S4 2 7 66 27 392 w5 (j6.mk 0 (v6.mk 0 []) [] 0 0 0 [] [] (l7.mk false (p9.mk 0 0) (m8.mk [] [] 0 0)) [] false [] (l7.mk false (p9.mk 0 0) (m8.mk [] [] 0 0)) []) b6H (.ck I0) e1 (by decide) (by rfl)<|rg<|t0 h fun e2 h=>om (n9.row 66 27 (d81 (list.length:Int).toNat (j6.mk 0 (v6.mk 0 []) [] 0 0 0 [] [] (l7.mk false (p9.mk 0 0) (m8.mk [] [] 0 0)) [] false [] (l7.mk false (p9.mk 0 0) (m8.mk [] [] 0 0)) [])).length (list.map w5)=m4 66 27 w5 list) (Y7 e2)<|x9 (d81 (list.length:Int).toNat (j6.mk 0 (v6.mk 0 []) [] 0 0 0 [] [] (l7.mk false (p9.mk 0 0) (m8.mk [] [] 0 0)) [] false [] (l7.mk false (p9.mk 0 0) (m8.mk [] [] 0 0)) []))<|ob e2<|tl (2,{e:=some (m4 66 27 w5 list)})<|rg<|om ((d81 (list.length:Int).toNat (j6.mk 0 (v6.mk 0 []) [] 0 0 0 [] [] (l7.mk false (p9.mk 0 0) (m8.mk [] [] 0 0)) [] false [] (l7.mk false (p9.mk 0 0) (m8.mk [] [] 0 0)) [])).length=list.length) (by simp)<|fE h)
def c3H:FS (List l8):=⟨68,Tryz.f68,[.val [some 13] [some 93]],[none],[.val [some 13] []],fun r=>z6 93 13 t9 r,fun _=>[none],Tryz.func68⟩
def b3Y(list:List l8):Option (List l8):=
 (bif ((list.length:Int)==0) then some [] else (r7 (0<=(list.length:Int)/\(list.length:Int)*152<=140737488355328) ((r7 (list.length=(d81 (list.length:Int).toNat (l8.mk 0 0 0 0 0 (l7.mk false (p9.mk 0 0) (m8.mk [] [] 0 0)) [])).length) (some list)))))
theorem d2y{list}:OK c3H [j5 13 t9 list] (b3Y list):=
 o9 _ fun r h=>n8<|j3 2 h (fun h=>rg<|fE h) (fun h=>rg<|t0 h fun e1 h=>S4 2 7 93 13 152 t9 (l8.mk 0 0 0 0 0 (l7.mk false (p9.mk 0 0) (m8.mk [] [] 0 0)) []) b31 (.ck P5) e1 (by decide) (by rfl)<|rg<|t0 h fun e2 h=>om (n9.row 93 13 (d81 (list.length:Int).toNat (l8.mk 0 0 0 0 0 (l7.mk false (p9.mk 0 0) (m8.mk [] [] 0 0)) [])).length (list.map t9)=m4 93 13 t9 list) (Y7 e2)<|x9 (d81 (list.length:Int).toNat (l8.mk 0 0 0 0 0 (l7.mk false (p9.mk 0 0) (m8.mk [] [] 0 0)) []))<|ob e2<|tl (2,{e:=some (m4 93 13 t9 list)})<|rg<|om ((d81 (list.length:Int).toNat (l8.mk 0 0 0 0 0 (l7.mk false (p9.mk 0 0) (m8.mk [] [] 0 0)) [])).length=list.length) (by simp)<|fE h)
def a0G:FS (List p7):=⟨92,Tryz.f92,[.val [some 2] [some 135]],[none],[.val [some 2] []],fun r=>z6 135 2 t6 r,fun _=>[none],Tryz.func92⟩
def a0Z(list:List p7):Option (List p7):=
 (bif ((list.length:Int)==0) then some [] else (r7 (0<=(list.length:Int)/\(list.length:Int)*16<=140737488355328) ((r7 (list.length=(d81 (list.length:Int).toNat (p7.mk 0 0)).length) (some list)))))
theorem a6s{list}:OK a0G [j5 2 t6 list] (a0Z list):=
 o9 _ fun r h=>n8<|j3 2 h (fun h=>rg<|fE h) (fun h=>rg<|t0 h fun e1 h=>S4 2 7 135 2 16 t6 (p7.mk 0 0) b5q (.none) e1 (by decide) (by rfl)<|rg<|t0 h fun e2 h=>om (n9.row 135 2 (d81 (list.length:Int).toNat (p7.mk 0 0)).length (list.map t6)=m4 135 2 t6 list) (Y7 e2)<|x9 (d81 (list.length:Int).toNat (p7.mk 0 0))<|ob e2<|tl (2,{e:=some (m4 135 2 t6 list)})<|rg<|om ((d81 (list.length:Int).toNat (p7.mk 0 0)).length=list.length) (by simp)<|fE h)
def b3B:FS (List o7):=⟨93,Tryz.f93,[.val [some 2] [some 133]],[none],[.val [some 2] []],fun r=>z6 133 2 t7 r,fun _=>[none],Tryz.func93⟩
def a5L(list:List o7):Option (List o7):=
 (bif ((list.length:Int)==0) then some [] else (r7 (0<=(list.length:Int)/\(list.length:Int)*16<=140737488355328) ((r7 (list.length=(d81 (list.length:Int).toNat (o7.mk 0 0)).length) (some list)))))
theorem b88{list}:OK b3B [j5 2 t7 list] (a5L list):=
 o9 _ fun r h=>n8<|j3 2 h (fun h=>rg<|fE h) (fun h=>rg<|t0 h fun e1 h=>S4 2 7 133 2 16 t7 (o7.mk 0 0) b4E (.none) e1 (by decide) (by rfl)<|rg<|t0 h fun e2 h=>om (n9.row 133 2 (d81 (list.length:Int).toNat (o7.mk 0 0)).length (list.map t7)=m4 133 2 t7 list) (Y7 e2)<|x9 (d81 (list.length:Int).toNat (o7.mk 0 0))<|ob e2<|tl (2,{e:=some (m4 133 2 t7 list)})<|rg<|om ((d81 (list.length:Int).toNat (o7.mk 0 0)).length=list.length) (by simp)<|fE h)
def b8K:FS (m8):=⟨105,Tryz.f105,[.val a0b []],[none],[.val a0b []],fun r=>.agg (Y8 r),fun _=>[none],Tryz.func105⟩
def b5L(r_:m8):Option m8:=
 ((a0Z r_.b5).bind fun read=>((a5L r_.b6).bind fun put=>some (m8.mk read put r_.c7 r_.Code)))
theorem c71{r_}:OK b8K [.agg (Y8 r_)] (b5L r_):=
 o9 _ fun r h=>n8<|j4 a0G a6s 2 h fun read h=>j4 b3B b88 5 h fun put h=>B6 read put<|fE h
def a6U:FS (l7):=⟨74,Tryz.f74,[.val T3 []],[none],[.val T3 []],fun r=>.agg (v5 r),fun _=>[none],Tryz.func74⟩
def a3U(e_:l7):Option l7:=
 ((b5L e_.d6).bind fun c5G=>some (l7.mk e_.i7 e_.a7 c5G))
theorem a7w{e_}:OK a6U [.agg (v5 e_)] (a3U e_):=
 o9 _ fun r h=>n8<|j4 b8K c71 6 h fun c5G h=>fE h
def c1u:FS (List n7):=⟨104,Tryz.f104,[.val [some 8] [some 140]],[none],[.val [some 8] []],fun r=>z6 140 8 s5 r,fun _=>[none],Tryz.func104⟩
def b6q(list:List n7):Option (List n7):=
 (bif ((list.length:Int)==0) then some [] else (r7 (0<=(list.length:Int)/\(list.length:Int)*96<=140737488355328) ((r7 (list.length=(d81 (list.length:Int).toNat (n7.mk 0 (l7.mk false (p9.mk 0 0) (m8.mk [] [] 0 0)))).length) (some list)))))
theorem d8j{list}:OK c1u [j5 8 s5 list] (b6q list):=
 o9 _ fun r h=>n8<|j3 2 h (fun h=>rg<|fE h) (fun h=>rg<|t0 h fun e1 h=>S4 2 7 140 8 96 s5 (n7.mk 0 (l7.mk false (p9.mk 0 0) (m8.mk [] [] 0 0))) b1v (.ck a1G) e1 (by decide) (by rfl)<|rg<|t0 h fun e2 h=>om (n9.row 140 8 (d81 (list.length:Int).toNat (n7.mk 0 (l7.mk false (p9.mk 0 0) (m8.mk [] [] 0 0)))).length (list.map s5)=m4 140 8 s5 list) (Y7 e2)<|x9 (d81 (list.length:Int).toNat (n7.mk 0 (l7.mk false (p9.mk 0 0) (m8.mk [] [] 0 0))))<|ob e2<|tl (2,{e:=some (m4 140 8 s5 list)})<|rg<|om ((d81 (list.length:Int).toNat (n7.mk 0 (l7.mk false (p9.mk 0 0) (m8.mk [] [] 0 0)))).length=list.length) (by simp)<|fE h)
def a1y:FS (List n7):=⟨73,Tryz.f73,[.val [some 8] [some 140]],[none],[.val [some 8] []],fun r=>z6 140 8 s5 r,fun _=>[none],Tryz.func73⟩
def c5y:(List n7)->KS:=fun out1=>⟨a1y.k 4 [false],(bs 3 (.own 1 0 8 0 out1.length::(bs 20 []))),[some [],some [m4 140 8 s5 out1]]⟩
def c2Q(out1:List n7):Option (List n7):=
 some out1
theorem c77(r):NF a1y r c5y (fun s=>c2Q s):=fun out1 h=>PK<|rg<|x9 out1<|fE h
def d4e(vote:List n7):((List n7)×Int)->KS:=fun (out,v9)=>⟨a1y.k 3 [],(bs 3 (.own 1 0 8 0 out.length::(bs 4 (vi (vote.length:Int)::(vi v9::(bs 14 [])))))),[some [],some [m4 140 8 s5 out]]⟩
def b27(vote:List n7)(out:List n7)(v9:Int):Option (j7 (List n7) ((List n7)×Int) (List n7)):=
 (bif decide (v9<(vote.length:Int)) then ((idx out v9).bind fun U8=>((a3U U8.d7).bind fun R3=>some (j7.nxt (out.set v9.toNat (n7.mk U8.a5 R3),l9 (v9+1))))) else some (j7.brk out))
theorem d1C(vote):LQ a1y c5y (d4e vote) (fun s=>b27 vote s.1 s.2):=fun lc (out,v9) h=>PK<|rg<|j3 0 h (fun h=>n8<|A7 h fun U8 a5q h=>E3 a5q<|V6 s5 6 a5q<|j4 a6U a7w 7 h fun R3 h=>E3 a5q<|R1 140 8 s5 10 T3 (n7.mk U8.a5 R3) a5q<|rg<|(lc.nx h fun hI=>om ((.own 1 0 8 0 out.length:V)=.own 1 0 8 0 (out.set v9.toNat (n7.mk U8.a5 R3)).length) (by simp)<|sk [.is (.tmp 3) (.own 1 0 8 0 (out.set v9.toNat (n7.mk U8.a5 R3)).length)] [3,8,9] [(1,0)] hI)) (fun h=>(lc.bk h fun hI=>sk [] [3] [(1,0)] hI))
def a4D(list:List n7):Option (List n7):=
 ((b6q list).bind fun vote=>((p6 (fun s:(List n7)×Int=>b27 vote s.1 s.2) (vote,0)).bind fun x=>x.go (fun r=>some r) fun s=>c2Q s))
theorem a91{list}:OK a1y [j5 8 s5 list] (a4D list):=
 o9 _ fun r h=>n8<|j4 c1u d8j 1 h fun vote h=>rg<|lp (d1C vote) h (fun _ h=>a1y.rt h) (c77 r) fun hI=>sk [] [3,8,9] [(3,0)] hI
def b9l:FS (l8):=⟨69,Tryz.f69,[.val P5 []],[none],[.val P5 []],fun r=>.agg (t9 r),fun _=>[none],Tryz.func69⟩
def b3f(m:l8):Option l8:=
 ((a3U m.d7).bind fun R3=>((a4D m.a8).bind fun V4=>some (l8.mk m.a0 m.b7 m.To m.a5 m.c8 R3 V4)))
theorem d0w{m}:OK b9l [.agg (t9 m)] (b3f m):=
 o9 _ fun r h=>X1<|j4 a6U a7w 2 h fun R3 h=>rg<|j4 a1y a91 2 h fun V4 h=>rg<|x9 V4<|fE h
def a28:FS (List l8):=⟨42,Tryz.f42,[.val [some 13] [some 93]],[none],[.val [some 13] []],fun r=>z6 93 13 t9 r,fun _=>[none],Tryz.func42⟩
def c4X:(List l8)->KS:=fun out1=>⟨a28.k 4 [false],(bs 3 (.own 1 0 13 0 out1.length::(bs 18 []))),[some [],some [m4 93 13 t9 out1]]⟩
def b9g(out1:List l8):Option (List l8):=
 some out1
theorem d25(r):NF a28 r c4X (fun s=>b9g s):=fun out1 h=>PK<|rg<|x9 out1<|fE h
def c7R(msg:List l8):((List l8)×Int)->KS:=fun (out,v9)=>⟨a28.k 3 [],(bs 3 (.own 1 0 13 0 out.length::(bs 4 (vi (msg.length:Int)::(vi v9::(bs 12 [])))))),[some [],some [m4 93 13 t9 out]]⟩
def b0Q(msg:List l8)(out:List l8)(v9:Int):Option (j7 (List l8) ((List l8)×Int) (List l8)):=
 (bif decide (v9<(msg.length:Int)) then ((idx out v9).bind fun b8Q=>((b3f b8Q).bind fun a9Y=>some (j7.nxt (out.set v9.toNat a9Y,l9 (v9+1))))) else some (j7.brk out))
theorem c9A(msg):LQ a28 c4X (c7R msg) (fun s=>b0Q msg s.1 s.2):=fun lc (out,v9) h=>PK<|rg<|j3 0 h (fun h=>n8<|A7 h fun b8Q b0h h=>E3 b0h<|V6 t9 5 b0h<|j4 b9l d0w 6 h fun a9Y h=>E3 b0h<|R1 93 13 t9 8 P5 a9Y b0h<|rg<|(lc.nx h fun hI=>om ((.own 1 0 13 0 out.length:V)=.own 1 0 13 0 (out.set v9.toNat a9Y).length) (by simp)<|sk [.is (.tmp 3) (.own 1 0 13 0 (out.set v9.toNat a9Y).length)] [3,8,9] [(1,0)] hI)) (fun h=>(lc.bk h fun hI=>sk [] [3] [(1,0)] hI))
def a7U(list:List l8):Option (List l8):=
 ((b3Y list).bind fun msg=>((p6 (fun s:(List l8)×Int=>b0Q msg s.1 s.2) (msg,0)).bind fun x=>x.go (fun r=>some r) fun s=>b9g s))
theorem c2Z{list}:OK a28 [j5 13 t9 list] (a7U list):=
 o9 _ fun r h=>n8<|j4 c3H d2y 1 h fun msg h=>rg<|lp (c9A msg) h (fun _ h=>a28.rt h) (d25 r) fun hI=>sk [] [3,8,9] [(3,0)] hI
def b9W:FS (List D4):=⟨43,Tryz.f43,[.val [some 3] [some 96]],[none],[.val [some 3] []],fun r=>z6 96 3 C6 r,fun _=>[none],Tryz.func43⟩
def b7H(list:List D4):Option (List D4):=
 (bif ((list.length:Int)==0) then some [] else (r7 (0<=(list.length:Int)/\(list.length:Int)*40<=140737488355328) ((r7 (list.length=(d81 (list.length:Int).toNat (D4.mk (p9.mk 0 0) [])).length) (some list)))))
theorem d0K{list}:OK b9W [j5 3 C6 list] (b7H list):=
 o9 _ fun r h=>n8<|j3 2 h (fun h=>rg<|fE h) (fun h=>rg<|t0 h fun e1 h=>S4 2 7 96 3 40 C6 (D4.mk (p9.mk 0 0) []) b6j (.ck [none,none,some 4]) e1 (by decide) (by rfl)<|rg<|t0 h fun e2 h=>om (n9.row 96 3 (d81 (list.length:Int).toNat (D4.mk (p9.mk 0 0) [])).length (list.map C6)=m4 96 3 C6 list) (Y7 e2)<|x9 (d81 (list.length:Int).toNat (D4.mk (p9.mk 0 0) []))<|ob e2<|tl (2,{e:=some (m4 96 3 C6 list)})<|rg<|om ((d81 (list.length:Int).toNat (D4.mk (p9.mk 0 0) [])).length=list.length) (by simp)<|fE h)
def b5d:FS (List r9):=⟨44,Tryz.f44,[.val [some 5] [some 48]],[none],[.val [some 5] []],fun r=>z6 48 5 z7 r,fun _=>[none],Tryz.func44⟩
def b0t(list:List r9):Option (List r9):=
 (bif ((list.length:Int)==0) then some [] else (r7 (0<=(list.length:Int)/\(list.length:Int)*40<=140737488355328) ((r7 (list.length=(d81 (list.length:Int).toNat (r9.mk 0 (p9.mk 0 0) 0 0)).length) (some list)))))
theorem c0H{list}:OK b5d [j5 5 z7 list] (b0t list):=
 o9 _ fun r h=>n8<|j3 2 h (fun h=>rg<|fE h) (fun h=>rg<|t0 h fun e1 h=>S4 2 7 48 5 40 z7 (r9.mk 0 (p9.mk 0 0) 0 0) b5n (.none) e1 (by decide) (by rfl)<|rg<|t0 h fun e2 h=>om (n9.row 48 5 (d81 (list.length:Int).toNat (r9.mk 0 (p9.mk 0 0) 0 0)).length (list.map z7)=m4 48 5 z7 list) (Y7 e2)<|x9 (d81 (list.length:Int).toNat (r9.mk 0 (p9.mk 0 0) 0 0))<|ob e2<|tl (2,{e:=some (m4 48 5 z7 list)})<|rg<|om ((d81 (list.length:Int).toNat (r9.mk 0 (p9.mk 0 0) 0 0)).length=list.length) (by simp)<|fE h)
def a5k:FS (v6):=⟨70,Tryz.f70,[.val [none,some 8] [none,some 140]],[none],[.val [none,some 8] []],fun r=>.agg [vi r.d9,z6 140 8 s5 r.a8],fun _=>[none],Tryz.func70⟩
def a2v(a:v6):Option v6:=
 ((a4D a.a8).bind fun V4=>some (v6.mk a.d9 V4))
theorem a6l{a}:OK a5k [.agg (a3Y a)] (a2v a):=
 o9 _ fun r h=>n8<|j4 a1y a91 4 h fun V4 h=>x9 V4<|fE h
def b9z:FS (List l7):=⟨103,Tryz.f103,[.val [some 7] [some 64]],[none],[.val [some 7] []],fun r=>z6 64 7 v5 r,fun _=>[none],Tryz.func103⟩
def b00(list:List l7):Option (List l7):=
 (bif ((list.length:Int)==0) then some [] else (r7 (0<=(list.length:Int)/\(list.length:Int)*88<=140737488355328) ((r7 (list.length=(d81 (list.length:Int).toNat (l7.mk false (p9.mk 0 0) (m8.mk [] [] 0 0))).length) (some list)))))
theorem d7d{list}:OK b9z [j5 7 v5 list] (b00 list):=
 o9 _ fun r h=>n8<|j3 2 h (fun h=>rg<|fE h) (fun h=>rg<|t0 h fun e1 h=>S4 2 7 64 7 88 v5 (l7.mk false (p9.mk 0 0) (m8.mk [] [] 0 0)) b4K (.ck T3) e1 (by decide) (by rfl)<|rg<|t0 h fun e2 h=>om (n9.row 64 7 (d81 (list.length:Int).toNat (l7.mk false (p9.mk 0 0) (m8.mk [] [] 0 0))).length (list.map v5)=m4 64 7 v5 list) (Y7 e2)<|x9 (d81 (list.length:Int).toNat (l7.mk false (p9.mk 0 0) (m8.mk [] [] 0 0)))<|ob e2<|tl (2,{e:=some (m4 64 7 v5 list)})<|rg<|om ((d81 (list.length:Int).toNat (l7.mk false (p9.mk 0 0) (m8.mk [] [] 0 0))).length=list.length) (by simp)<|fE h)
def a3W:FS (List l7):=⟨71,Tryz.f71,[.val [some 7] [some 64]],[none],[.val [some 7] []],fun r=>z6 64 7 v5 r,fun _=>[none],Tryz.func71⟩
def c6l:(List l7)->KS:=fun out1=>⟨a3W.k 4 [false],(bs 3 (.own 1 0 7 0 out1.length::(bs 18 []))),[some [],some [m4 64 7 v5 out1]]⟩
def c3w(out1:List l7):Option (List l7):=
 some out1
theorem d19(r):NF a3W r c6l (fun s=>c3w s):=fun out1 h=>PK<|rg<|x9 out1<|fE h
def d2Q(entry:List l7):((List l7)×Int)->KS:=fun (out,v9)=>⟨a3W.k 3 [],(bs 3 (.own 1 0 7 0 out.length::(bs 4 (vi (entry.length:Int)::(vi v9::(bs 12 [])))))),[some [],some [m4 64 7 v5 out]]⟩
def a9A(entry:List l7)(out:List l7)(v9:Int):Option (j7 (List l7) ((List l7)×Int) (List l7)):=
 (bif decide (v9<(entry.length:Int)) then ((idx out v9).bind fun c4G=>((a3U c4G).bind fun R3=>some (j7.nxt (out.set v9.toNat R3,l9 (v9+1))))) else some (j7.brk out))
theorem d4P(entry):LQ a3W c6l (d2Q entry) (fun s=>a9A entry s.1 s.2):=fun lc (out,v9) h=>PK<|rg<|j3 0 h (fun h=>n8<|A7 h fun c4G b3P h=>E3 b3P<|V6 v5 5 b3P<|j4 a6U a7w 6 h fun R3 h=>E3 b3P<|R1 64 7 v5 8 T3 R3 b3P<|rg<|(lc.nx h fun hI=>om ((.own 1 0 7 0 out.length:V)=.own 1 0 7 0 (out.set v9.toNat R3).length) (by simp)<|sk [.is (.tmp 3) (.own 1 0 7 0 (out.set v9.toNat R3).length)] [3,8,9] [(1,0)] hI)) (fun h=>(lc.bk h fun hI=>sk [] [3] [(1,0)] hI))
def a8a(list:List l7):Option (List l7):=
 ((b00 list).bind fun entry=>((p6 (fun s:(List l7)×Int=>a9A entry s.1 s.2) (entry,0)).bind fun x=>x.go (fun r=>some r) fun s=>c3w s))
theorem c1i{list}:OK a3W [j5 7 v5 list] (a8a list):=
 o9 _ fun r h=>n8<|j4 b9z d7d 1 h fun entry h=>rg<|lp (d4P entry) h (fun _ h=>a3W.rt h) (d19 r) fun hI=>sk [] [3,8,9] [(3,0)] hI
def b5y:FS (List Bool):=⟨72,Tryz.f72,[.val [some 1] [some 4]],[none],[.val [some 1] []],fun r=>z6 4 1 eB r,fun _=>[none],Tryz.func72⟩
def b0a(list:List Bool):Option (List Bool):=
 (bif ((list.length:Int)==0) then some [] else (r7 (0<=(list.length:Int)/\(list.length:Int)*1<=140737488355328) ((r7 (list.length=(d81 (list.length:Int).toNat false).length) (some list)))))
end
end Go.Proofs.YtnafpblodcmpkaaGreat
