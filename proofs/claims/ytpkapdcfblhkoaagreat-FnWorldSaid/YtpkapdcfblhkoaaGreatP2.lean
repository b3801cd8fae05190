/- What the law leans on, part 2. -/
import Derived.Test.YtpkapdcfblhkoaaGreatP1
import Derived.WideKeyRuns
import Derived.Below
import Derived.Carry
import Derived.ChangeArms
import Derived.Deep.Slices
import Derived.WideShapes
import Derived.Test.YtpkapdcfblhkoaaGreatProg
set_option linter.unusedVariables false
set_option linter.unusedSimpArgs false
set_option linter.unnecessarySimpa false
namespace Go.Proofs.YtpkapdcfblhkoaaGreat
open Go
open List renaming getElem?_eq_getElem->e9N,replicate->e9O,mem_append->e9P,getElem_mem->e9Q,getElem?_eq_some_iff->e9T,mem_cons->e9V,all_eq_true->e9W,nodup_append->e9X,range->e9Y,mem_singleton->e9Z,eq_nil_of_length_eq_zero->e90,length_append->e91,append_assoc->e92,mem_of_getElem?->e93,getElem?_append_right->e96,drop_eq_getElem_cons->e98,mem_or_eq_of_mem_set->e99,getElem?_set_ne->f0a,flatten_cons->f0d,length_take->f0e,getElem?_append_left->f0f,getD_eq_getElem?_getD->f0g,map_cons->f0j,take_of_length_le->f0k,mem_map->f0l,mem_replicate->f0r,take_append_drop->f0s,mem_of_mem_take->f0v,append_nil->f0w,getElem?_map->f0x,mem_of_mem_drop->f0B,mem_filter->f0C,mem_flatten->f0E,drop_zero->f0G,nil_append->f0H,mem_range->f0I,nodup_cons->f0Q,pairwise_cons->f0W,length_map->f0X,getElem?_cons_succ->f0Y,sublist_append_right->f03,pairwise_append->f05,Perm->f08,drop_drop->f09,any_eq_true->f1a,replicate_succ->f1c,getElem?_cons_zero->f1d,map_append->f1g,size_toArray->f1i,toArray->f1l,map_map->f1m,Sublist->f1n,cons_append->f1q,flatten_append->f1v,map_set->f1z
open Bool renaming and_eq_true->e9R,true_and->e95,not_false->e97,not_eq_true'->f0J,false_eq_true->f0O,and_assoc->f1o
open Int renaming tmod->e9U,tdiv->f1r
open Nat renaming mul_le_mul_right->f0b,le_trans->f0c,eq_of_beq_eq_true->f0n,le_refl->f0q,zero_add->f0y,succ_mul->f0A,le_mul_of_pos_right->f0Z,add_zero->f01,zero_le->f07,sub_zero->f1y
open Option renaming map_some->f0K,getD_some->f0U,map_eq_some_iff->f00
open Option.some renaming inj->f0L
noncomputable section
section
variable {cx:Cx} {Γ:N0} {F:Nat->Prop} {ι:Nat->Nat->Value} {S:St} {a:Act} {w:World}
theorem t7.writeX(h:t7 Γ F ι S a w){g j:Nat}{e e':s4}(he:S.ent g j=some e)(hl:e.live=true){w':World}(hk:w'.os=w.os/\w'.tape=w.tape/\w'.output=w.output)(hsz:w'.heap.size=w.heap.size)(hb:∀k,¬EB w e (ι g j) k->w'.heap[k]?=w.heap[k]?)(hn:G8 w w' F->RE w' F (S.setE g j e').D ι e' (ι g j)){X:List Nat}(hX:∀k∈X,¬F k/\(Γ.own k\/Γ.w0.heap.size<=k)/\∀g' j' e'',S.ent g' j'=some e''->e''.live=true->¬EB w e'' (ι g' j') k)(hin:∀k,EB w' e' (ι g j) k->EB w e (ι g j) k\/k∈X):t7 Γ F ι (S.setE g j e') a w':=by
  have hs:G8 w w' F:=a0N fun k hF=>hb k fun q=>(h.sep g j e k he hl q).1 hF
  have hD:∀k,S.D k->(S.setE g j e').D k:=fun k x=>P7.2 x
  have hoth:∀g' j' e'',S.ent g' j'=some e''->e''.live=true->¬(g'=g/\j'=j)->∀k,EB w e'' (ι g' j') k->w'.heap[k]?=w.heap[k]?:=fun g' j' e'' he'' hl'' q k a1p=>hb k fun q'=>q (h.inj g' j' e'' g j e k he'' he hl'' hl a1p q')
  have hone:∀g2 j2 e2 k,S.ent g2 j2=some e2->e2.live=true->¬(g2=g/\j2=j)->EB w' e' (ι g j) k->EB w' e2 (ι g2 j2) k->False:=by
    intro g2 j2 e2 k h2 l2 q2 k1 k2;have k2':=(h.ents g2 j2 e2 h2).back (hoth g2 j2 e2 h2 l2 q2) k2;rcases hin k k1 with x|x
    · exact q2 (h.inj g2 j2 e2 g j e k h2 he l2 hl k2' x)
    · exact (hX k x).2.2 g2 j2 e2 h2 l2 k2'
  exact
    { F0:=h.F0
      F1:=fun k hF=>hsz▸h.F1 k hF
      F2:=h.F2
      kept:=⟨hk.1.trans h.kept.os,hk.2.1.trans h.kept.tape,hk.2.2.trans h.kept.output,hsz▸h.kept.size,fun k hk' hno=>by
        rw [hb k fun q => ?_]
        · exact h.kept.block k hk' hno
        · rcases (h.sep g j e k he hl q).2 with x|x
          · exact hno x
          · omega⟩
      tmps:=by rw [a7b];exact h.tmps.imp fun _ _ x=>x.mono hs (fun _ y=>y) hD (fun _ _ _=>rfl)
      ents:=fun g' j' e'' he''=>by
        rw [P4 he] at he'';split at he''
        · rename_i q;obtain ⟨rfl,rfl⟩:=q;injection he'' with he'';subst he'';exact hn hs
        · rename_i q;exact (h.ents g' j' e'' he'').mono hs (fun _ y=>y) hD (fun _ _ _=>rfl) fun k hl'' a1p=>hoth g' j' e'' he'' hl'' q k a1p
      sep:=fun g' j' e'' k he'' hl'' a1p=>by
        rw [P4 he] at he'';split at he''
        · rename_i q;obtain ⟨rfl,rfl⟩:=q;injection he'' with he'';subst he'';rcases hin k a1p with x|x
          · exact h.sep g' j' e k he hl x
          · exact ⟨(hX k x).1,(hX k x).2.1⟩
        · rename_i q;exact h.sep g' j' e'' k he'' hl'' ((h.ents g' j' e'' he'').back (hoth g' j' e'' he'' hl'' q) a1p)
      inj:=fun g1 j1 e1 g2 j2 e2 k h1 h2 l1 l2 k1 k2=>by
        rw [P4 he] at h1 h2;split at h1<;>split at h2
        · rename_i q1 q2;exact ⟨q1.1.trans q2.1.symm,q1.2.trans q2.2.symm⟩
        · rename_i q1 q2;obtain ⟨rfl,rfl⟩:=q1;injection h1 with h1;subst h1;exact (hone g2 j2 e2 k h2 l2 q2 k1 k2).elim
        · rename_i q1 q2;obtain ⟨rfl,rfl⟩:=q2;injection h2 with h2;subst h2;exact (hone g1 j1 e1 k h1 l1 q1 k2 k1).elim
        · rename_i q1 q2;exact h.inj g1 j1 e1 g2 j2 e2 k h1 h2 l1 l2 ((h.ents g1 j1 e1 h1).back (hoth g1 j1 e1 h1 l1 q1) k1) ((h.ents g2 j2 e2 h2).back (hoth g2 j2 e2 h2 l2 q2) k2)
      defers:=h.defers
      pins:=fun j c hc=>⟨hD _ (h.pins j c hc).1,(h.pins j c hc).2⟩}
theorem F3.splice{rows:List (List V)}(h:F3 rows){idx off:Nat}{r vs:List V}(hr:rows[idx]?=some r)(hv:∀v∈vs,v.isRef=false):F3 (rows.set idx (A5 r off vs)):=by
 intro q hq v hm;rcases e99 hq with hq|rfl
 ·exact h q hq v hm
 ·unfold A5 at hm;have hrr:=h r (e93 hr);rcases e9P.1 hm with hm|hm
  ·rcases e9P.1 hm with hm|hm
   ·exact hrr v (f0v hm)
   ·exact hv v hm
  ·exact hrr v (f0B hm)
theorem t7.dput(h:t7 Γ F ι S a w){g j t sz n:Nat}{o:Bool}{rows:List (List V)}(he:S.ent g j=some (.deep o t sz n rows)){idx off:Nat}{r vs:List V}{ds:List Value}{fp:List Nat}{ks:List (Nat×Nat)}(hr:rows[idx]?=some r)(hoff:off+vs.length<=sz)(hbl:BL w F vs ds fp)(hfps:K2 S w ι ks fp)(hks:ks.Nodup)(hgj:(g,j) ∉ ks){w':World}(hw:w'.os=w.os/\w'.tape=w.tape/\w'.output=w.output)(hsz:w'.heap.size=w.heap.size)(hb:∀k,B5 (ι g j)≠some k->w'.heap[k]?=w.heap[k]?)(hnew:∀flat,w.ownsRow 0 t sz (ι g j) n flat->w'.ownsRow 0 t sz (ι g j) n (A5 flat (idx*sz+off) ds)) :
  t7 Γ F ι (S.upds (E9 ks++[((g,j),.deep o t sz n (rows.set idx (A5 r off vs)))])) a w':=by
 obtain ⟨flat,fs,hor,hkl,hn,hl,hnd,hnr⟩:=h.ents g j _ he;have h1:=h.killAll ks fun id hid=>by
  obtain ⟨e,he,_⟩:=hfps.live id hid;exact ⟨e,he⟩
 have he1:(S.upds (E9 ks)).ent g j=some (.deep o t sz n rows):=by rw [d3h hgj];exact he
 have hidx:=(e9T.1 hr).1;have hpos:idx*sz+sz<=n*sz:=by rw [<-f0A];exact f0b _ (by omega)
 obtain ⟨fa,fm,fb,rfl,hrow,_⟩:=hkl.splice (k:=idx*sz+off) hbl.kl (by rw [a3y hl,hn];omega);rw [<-a64 hl hr hoff] at hrow;have hfpx:∀k∈fp,¬F k/\(Γ.own k\/Γ.w0.heap.size<=k)/\k ∉ D4 (ι g j)++(fa++(fm++fb))/\∀g' j' e'',(S.upds (E9 ks)).ent g' j'=some e''->e''.live=true->¬EB w e'' (ι g' j') k:=by
  intro k hk;obtain ⟨id,hid,e',he',hl',hb'⟩:=hfps.mem hk;obtain ⟨z1,z2⟩:=h.sep _ _ e' k he' hl' hb';refine ⟨z1,z2,?_,?_⟩
  ·intro q;obtain ⟨y1,y2⟩:=h.inj _ _ _ _ _ _ k he he' rfl hl' ((EB.deep_iff hor hkl).2 q) hb';exact hgj (by rw [show (g,j)=id from Prod.ext y1 y2];exact hid)
  ·intro g' j' e'' he'' hl'' hb'';rcases a8P _ he'' with ⟨_,rfl⟩|⟨q1,q2⟩
   ·cases hl''
   ·obtain ⟨y1,y2⟩:=h.inj _ _ _ _ _ _ k q2 he' hl'' hl' hb'' hb';exact q1 (by rw [show (g',j')=id from Prod.ext y1 y2];exact hid)
 have hnd2:(D4 (ι g j)++(fa++fb)).Nodup:=by
  refine List.Nodup.sublist ?_ hnd;exact f1n.append_left (f1n.append_left (f03 _ _) _) _
 have hnd':(D4 (ι g j)++(fa++(fp++fb))).Nodup:=by
  refine (a7n (a7n (f08.refl (fp++fb)))).nodup_iff.2 ?_;refine e9X.2 ⟨K2.nodup h hfps hks,hnd2,?_⟩;intro k hk k' hk' hkk;subst hkk;refine (hfpx k hk).2.2.1 ?_;simp only [e9P] at hk'⊢;rcases hk' with q|q|q<;>simp [q]
 have hre:G8 w w' F->RE w' F ((S.upds (E9 ks)).setE g j (.deep o t sz n (rows.set idx (A5 r off vs)))).D ι (.deep o t sz n (rows.set idx (A5 r off vs))) (ι g j):=by
  intro hs;refine ⟨_,_,hnew flat hor,hrow.mono hs (fun _ x=>x) (fun k x=>P7.2 ((a0d S k _).2 x)) (fun _ _ _=>rfl) ?_,by simpa using hn,?_,hnd',fun q=>(hnr q).splice hr hbl.noRef⟩
  ·intro k hk;refine hb k fun q => ?_
   exact (e9X.1 hnd').2.2 k (P6.2 q) k hk rfl
  ·intro q hq;rcases e99 hq with hq|rfl
   ·exact hl q hq
   ·have:=hl r (e93 hr);rw [a2f _ _ _ (by omega)];exact this
 rw [St.upds_append];refine h1.writeX he1 rfl hw hsz (fun k hk=>hb k fun q=>hk (EB.top q)) hre (X:=fp) (fun k hk=>⟨(hfpx k hk).1,(hfpx k hk).2.1,(hfpx k hk).2.2.2⟩) ?_;intro k hk;have hs:G8 w w' F:=a0N fun k hF=>hb k fun q=>(h.sep g j _ k he rfl (EB.top q)).1 hF
 obtain ⟨flat2,fs2,ho2,hkl2,_⟩:=hre hs;have hk2:=(EB.deep_iff ho2 hkl2).1 hk;have hkl3:=hrow.mono (w':=w') hs (fun _ x=>x) (fun k x=>x) (fun _ _ _=>rfl) (fun k hk=>hb k fun q=>(e9X.1 hnd').2.2 k (P6.2 q) k hk rfl);have hfl:=a8O ho2 (hnew flat hor) (fun _ _=>rfl);subst hfl;rw [hkl2.det hkl3 (fun _ _=>rfl)] at hk2;simp only [e9P] at hk2;rw [EB.deep_iff hor hkl];simp only [e9P];rcases hk2 with q|q|q|q<;>simp [q]
def a8C(cx:Cx)(ty:Nat)(x y:V)(r:List V)(ck om:List (Option Nat)):j6 B6:=
 match cx.T ty,y.cells with
 | some ti,some vs=>match x with
  | .eptr g j sz idx off=>j6.bind (j6.rd g j) fun e=>j6.bind (a1w ck om vs) fun f=>match e with
   | .deep o t sz' n rows=>if sz'=sz/\vs.length=ti.size/\off+vs.length<=sz/\f.ls.isEmpty/\a2c f.ks/\a1s f.ks (g,j)=false then
     j6.pure {v:=.bot,upd:=E9 f.ks++[((g,j),.deep o t sz n (rows.set idx (A5 r off f.v)))],obl:=(rows[idx]?=some r)::f.obl}
    else j6.no
   | _=>j6.no
  | _=>j6.no
 | _,_=>j6.no
theorem BL.len{F:Nat->Prop}:∀{vs:List V} {cs:List Value} {f:List Nat},BL w F vs cs f->vs.length=cs.length
 | _,_,_,.nil=>rfl
 | _,_,_,.cons _ _ _ _ _ _ _ t=>by simp [BL.len t]
theorem c8X(h:t7 Γ F ι S a w){grp:Nat}{ob:Oper}{ty:Nat}{x y:Operand}{r:List V}{ck om:List (Option Nat)}(ho:ob.op=.store ty x y)(hd:ob.dst=none){out:B6}{lg:List (Nat×Nat)}(hp:a8C cx ty (t0 S.t x) (t0 S.t y) r ck om S.ent=some (out,lg))(hob:∀p∈out.obl,p):S5 cx.P Γ ι S grp ob out a w:=by
 have hx:=D5 h.tmps x;have hy:=D5 h.tmps y;unfold a8C at hp;cases hti:cx.T ty with
 | none=>rw [hti] at hp;cases hp
 | some ti=>
 cases hvs:(t0 S.t y).cells with
 | none=>rw [hti,hvs] at hp;cases hp
 | some vs=>
 rw [hti,hvs] at hp;simp only at hp;obtain ⟨i,d,z,htf⟩:=cx.tf hti;have hcells:=hy.cells hvs;have hone:=hcells.all_one;have hclen:vs.length=(a.eval y).cells.size:=by simpa using hcells.length
 generalize t0 S.t x=xv at hp hx;cases xv<;>try (cases hp;done)
 case eptr g j sz idx off=>
  obtain ⟨hD,b,hι,hc⟩:=hx.inv_eptr;obtain ⟨e,l1,l2,hrd,hp',hl12⟩:=j6.bind_some hp;clear hp;have he:=(j6.rd_some hrd).1;simp only at he;obtain ⟨f,l3,l4,hf,hp'',hl34⟩:=j6.bind_some hp';clear hp';cases e<;>try (cases hp'';done)
  rename_i o t sz' n rows;simp only at hp'';split at hp''<;>try (cases hp'';done)
  rename_i hcond;obtain ⟨rfl,hc1,hc2,hc3,hc4,hc5⟩:=hcond;have:=j6.pure_some hp'';injection this with h2 h3;subst h2;have hr:rows[idx]?=some r:=hob _ (e9V.2 (.inl rfl));have hls:f.ls=[]:=List.isEmpty_iff.1 hc3;obtain ⟨fp,hbl,hfps,hh⟩:=b1h (F1:=F) h (fun _ x=>x) hcells hf (fun p hp=>hob p (e9V.2 (.inr hp))) (by rw [hls];intro id hid;cases hid);obtain ⟨flat0,fs0,hor0,hkl0,hn0,hl0,_⟩:=h.ents g j _ he;have hidx:=(e9T.1 hr).1;have hvl:f.v.length=vs.length:=by rw [hbl.len,hclen];simp
  rcases hor0.2 with ⟨hv,h0⟩|⟨g0,cap,cur,hv,hbg,hg,hnc,hcm,hcs,ht⟩
  ·omega
  ·have hb:b=g0:=by rw [hv] at hι;simp [B5] at hι;omega
   subst hb;have hcl:n*sz'<=cur.size:=by rw [hcs];exact f0b _ hnc
   have hpos:idx*sz'+sz'<=n*sz':=by rw [<-f0A];exact f0b _ (by omega)
   have hrun:=b4s (P:=cx.P) ho htf hc hg (by omega) (by omega) hone;refine ⟨_,undef,_,F,ι,hrun,.inr ⟨rfl,rfl⟩,?_⟩;rw [hd,b25,b03];refine h.dput he hr (by omega) hbl hfps (a3O hc4) (fun q=>by rw [a5h.2 q] at hc5;cases hc5) ⟨rfl,rfl,rfl⟩ (b2r _ _ _) (fun k hk=>setRow_other w b k _ fun q=>hk (by rw [hι,q])) ?_;intro flat hor;have hfl:=a8O hor hor0 (fun _ _=>rfl);subst hfl;have hflat:flat.length=n*sz':=hor.1;refine ⟨?_,.inr ⟨b,cap,_,hv,hbg,setRow_heap w b cur _ t (0,0) hg,hnc,hcm,?_,?_⟩⟩
   ·rw [a2f _ _ _ (by simp;omega)];exact hor.1
   ·rw [f1i,a2f _ _ _ (by simp;omega)];simpa using hcs
   ·rw [<-ht];exact b9q _ _ _ _ (by simp;omega) (by simpa using hcl)
theorem c1S{t sz n:Nat}{rows:List (List V)}{c:Value}{flat:List Value}{b idx off m:Nat}{r:List V}(ho:w.ownsRow 0 t sz c n flat)(hn:rows.length=n)(hl:∀r∈rows,r.length=sz)(hb:B5 c=some b)(hr:rows[idx]?=some r)(hoff:off+m<=sz) :
  M8 w b (idx*sz+off) ((flat.drop (idx*sz+off)).take m)/\((rows.flatten.drop (idx*sz+off)).take m=(r.drop off).take m)/\idx*sz+off+m<=rows.flatten.length:=by
 have hidx:=(e9T.1 hr).1;have hpos:idx*sz+sz<=n*sz:=by rw [<-f0A];exact f0b _ (by omega)
 refine ⟨?_,?_,by rw [a3y hl,hn];omega⟩
 ·rcases ho.2 with ⟨hv,h0⟩|⟨g0,cap,cur,hv,_,hg,hnc,hcm,hcs,ht⟩
  ·rw [hv] at hb;cases hb
  ·rw [hv] at hb;simp [B5] at hb;subst hb;have hseg:M8 w g0 0 flat:=by
    rw [<-ht];have:=(a5v hg 0).take (n*sz);simpa using this
   have:=(hseg.drop (idx*sz+off)).take m;simpa using this
 ·rw [<-b1g hl hr,List.drop_take,List.take_take,f09];congr 1
  omega
def b1E(cx:Cx)(grp ty:Nat)(x:V)(r:List V):j6 B6:=
 match cx.T ty with
 | none=>j6.no
 | some ti=>match x with
  | .eptr g j sz idx off=>j6.bind (j6.rd g j) fun e=>match e with
   | .deep _ t sz' n rows=>
    let m:=if ti.agg then ti.size else 1
    let y:=I9 grp 0 ((r.drop off).take m);if sz'=sz/\off+m<=sz/\((r.drop off).take m).all (fun v => !v.isRef) then
     match Q4 ti y.1 with
     | some v=>j6.pure {v:=v,new:=some y.2,upd:=[((g,j),.deep true t sz n (rows.set idx (A5 r off y.1)))],obl:=[rows[idx]?=some r]}
     | none=>j6.no
    else j6.no
   | _=>j6.no
  | _=>j6.no
theorem KL.toBL{w:World}{F D:Nat->Prop}{ι:Nat->Nat->Value}{vs:List V}{cs:List Value}{f:List Nat}(h:KL w F D ι vs cs f)(hv:vs.all (fun v => !v.isRef)=true):BL w F vs cs f:=by
 refine h.blOf fun v hm => ?_
 have:=e9W.1 hv v hm;simpa using this
theorem d0D(grp:Nat):∀(vs:List V) (j:Nat),(I9 grp j vs).1.length=vs.length
 | [],_=>rfl
 | v::vs,j=>by simp [I9,d0D grp vs]
theorem e0z{S:St}{g j:Nat}{e e':s4}:(S.setE g j e).setE g j e'=S.setE g j e':=by
 cases hx:S.h[g]? with
 | none=>unfold St.setE;simp [hx]
 | some o=>cases o with
  | none=>unfold St.setE;simp [hx]
  | some l=>
   have hlt:=(e9T.1 hx).1;rw [a2E hx,a2E hx,a2E (l:=l.set j e) (by simp [hlt])];simp only [List.set_set]
set_option maxHeartbeats 800000 in
theorem d9C(h:t7 Γ F ι S a w){grp:Nat}(hg:grp<S.h.length)(hn:¬S.D grp){ob:Oper}{ty:Nat}{x:Operand}{r:List V}(ho:ob.op=.load ty x){out:B6}{lg:List (Nat×Nat)}(hp:b1E cx grp ty (t0 S.t x) r S.ent=some (out,lg))(hob:∀p∈out.obl,p):S5 cx.P Γ ι S grp ob out a w:=by
 have hx:=D5 h.tmps x;unfold b1E at hp;cases hti:cx.T ty with
 | none=>rw [hti] at hp;cases hp
 | some ti=>
 rw [hti] at hp;obtain ⟨i,d,z,htf⟩:=cx.tf hti;generalize t0 S.t x=xv at hp hx;cases xv<;>try (cases hp;done)
 case eptr g j sz idx off=>
  obtain ⟨hD,b,hι,hc⟩:=hx.inv_eptr;obtain ⟨e,l1,l2,hrd,hp',hl12⟩:=j6.bind_some hp;clear hp;have he:=(j6.rd_some hrd).1;simp only at he;cases e<;>try (cases hp';done)
  rename_i o t sz' n rows;simp only at hp';obtain ⟨m,hm⟩:∃m,(if ti.agg=true then ti.size else 1)=m:=⟨_,rfl⟩
  rw [hm] at hp';split at hp'<;>try (cases hp';done)
  rename_i hcond;obtain ⟨rfl,hc1,hc2⟩:=hcond;obtain ⟨y,hy⟩:∃y,I9 grp 0 ((r.drop off).take m)=y:=⟨_,rfl⟩
  rw [hy] at hp';cases hrv:Q4 ti y.1 with
  | none=>rw [hrv] at hp';cases hp'
  | some v=>
  rw [hrv] at hp';have:=j6.pure_some hp';injection this with h2 h3;subst h2;have hr:rows[idx]?=some r:=hob _ (by simp);obtain ⟨flat,fs,hor,hkl,hrn,hl,hnd,hnr⟩:=h.ents g j _ he;obtain ⟨hseg,hmid,hle⟩:=c1S hor hrn hl hι hr hc1;have hrl:=hl r (e93 hr);have hml:((r.drop off).take m).length=m:=by simp;omega
  have hgg:g≠grp:=fun q=>hn (q▸hD)
  obtain ⟨k,hk⟩:∃k,idx*sz'+off=k:=⟨_,rfl⟩
  rw [hk] at hseg hmid hle;obtain ⟨fa,fm,fb,rfl,ka,km,kb⟩:=hkl.cut (k:=k) (m:=m) hle;rw [hmid] at km;have hbl:=km.toBL hc2;have hds:(flat.drop k).take m=((flat.drop k).take m):=rfl;have hflen:flat.length=rows.flatten.length:=hkl.len.symm;have hspl:∀us:List V,us.length=m->(rows.set idx (A5 r off us)).flatten=rows.flatten.take k++(us++rows.flatten.drop (k+m)):=by
   intro us hus;rw [a64 hl hr (by omega),hk];unfold A5;rw [hus,e92]
  have hfs:flat=flat.take k++((flat.drop k).take m++flat.drop (k+m)):=by
   rw [<-f09,f0s,f0s]
  have hrl':∀us:List V,us.length=m->∀q∈rows.set idx (A5 r off us),q.length=sz':=by
   intro us hus q hq;rcases e99 hq with hq|rfl
   ·exact hl q hq
   ·rw [a2f _ _ _ (by omega)];exact hrl
  have hnd2:(D4 (ι g j)++(fa++fb)).Nodup:=List.Nodup.sublist (f1n.append_left (f1n.append_left (f03 _ _) _) _) hnd;have hndm:fm.Nodup:=(e9X.1 (e9X.1 (e9X.1 hnd).2.1).2.1).1;have hdm:∀k∈fm,k ∉ D4 (ι g j)++(fa++fb):=by
   intro q hq hq';have hp:=(a7n (C:=D4 (ι g j)) (a7n (C:=fa) (f08.refl (fm++fb)))).nodup_iff.1 hnd;exact (e9X.1 hp).2.2 q hq q hq' rfl
  obtain ⟨us0,hus0⟩:∃us:List V,us=((r.drop off).take m).map fun _=>V.bot:=⟨_,rfl⟩
  have hus0l:us0.length=m:=by rw [hus0,f0X,hml]
  have kl0:∀{D':Nat->Prop} {ι':Nat->Nat->Value},(∀k,S.D k->D' k)->(∀g j,S.D g->ι' g j=ι g j)->∀{us:List V},us.length=m->KL w F D' ι' us ((flat.drop k).take m) []->KL w F D' ι' (rows.set idx (A5 r off us)).flatten flat (fa++([]++fb)):=by
   intro D' ι' h1 h2 us hus hku;rw [hspl us hus,hfs];have l1:(flat.take k).length=k:=by simp;omega
   have e1:(flat.take k++((flat.drop k).take m++flat.drop (k+m)))=flat:=hfs.symm;exact (ka.mono (fun _ _ _=>rfl) (fun _ x=>x) h1 h2 (fun _ _=>rfl)).app (hku.app (kb.mono (fun _ _ _=>rfl) (fun _ x=>x) h1 h2 (fun _ _=>rfl)))
  have hmem0:∀q,q∈D4 (ι g j)++(fa++([]++fb))->q∈D4 (ι g j)++(fa++(fm++fb)):=by
   intro q hq;simp only [e9P,List.not_mem_nil,false_or] at hq⊢;rcases hq with x|x|x<;>simp [x]
  have rel1:t7 Γ F ι (S.setE g j (.deep true t sz' n (rows.set idx (A5 r off us0)))) a w:=by
   have k1:=kl0 (D':=S.D) (ι':=ι) (fun _ x=>x) (fun _ _ _=>rfl) hus0l (hus0▸km.bots);refine h.write he rfl ⟨rfl,rfl,rfl⟩ rfl (fun _ _=>rfl) (fun _ => ?_) ?_
   ·exact ⟨flat,_,hor,k1.mono (fun _ _ _=>rfl) (fun _ x=>x) (fun k x=>P7.2 x) (fun _ _ _=>rfl) (fun _ _=>rfl),by simpa using hrn,hrl' _ hus0l,by simpa using hnd2,fun q=>by cases q⟩
   ·intro q hq;exact (EB.deep_iff hor hkl).2 (hmem0 q ((EB.deep_iff hor k1).1 hq))
  have he1:(S.setE g j (.deep true t sz' n (rows.set idx (A5 r off us0)))).ent g j=some (.deep true t sz' n (rows.set idx (A5 r off us0))):=by rw [P4 he];simp
  obtain ⟨bs,hbsl,hhas,hth⟩:=a7x (grp:=grp) hbl 0;rw [hy] at hbsl hhas hth;obtain ⟨ι',hι'⟩:∃ι',ι'=a4E ι grp bs:=⟨_,rfl⟩
  have hne:∀g j,g≠grp->ι' g j=ι g j:=fun g j q=>by rw [hι'];exact b92 q
  have hlenS:grp<(S.setE g j (.deep true t sz' n (rows.set idx (A5 r off us0)))).h.length:=by rw [a9d];exact hg
  have hnD:¬(S.setE g j (.deep true t sz' n (rows.set idx (A5 r off us0)))).D grp:=fun q=>hn (P7.1 q)
  have hDg:=a0y (S:=S.setE g j (.deep true t sz' n (rows.set idx (A5 r off us0)))) (new:=y.2) hlenS;obtain ⟨hrc,hlie⟩:=hth ((S.setE g j (.deep true t sz' n (rows.set idx (A5 r off us0)))).lay grp y.2).D ι' hDg (fun q c hq=>by rw [hι',f0y];exact a4j hq) hndm;have hvb:∀(q:Nat) (e:s4),y.2[q]?=some e->bs[q]?=some (ι' grp q):=by
   intro q e hq;have hlt:q<bs.length:=by rw [hbsl];exact (e9T.1 hq).1
   have hv:ι' grp q=bs[q]:=by rw [hι'];exact a4j (e9N hlt)
   rw [hv];exact e9N hlt
  have hmB:∀k∈fm,EB w (.deep o t sz' n rows) (ι g j) k:=fun k hk=>(EB.deep_iff hor hkl).2 (by simp [hk])
  have k1:=kl0 (D':=S.D) (ι':=ι) (fun _ x=>x) (fun _ _ _=>rfl) hus0l (hus0▸km.bots);have rel2:=rel1.lay hlenS hnD (new:=y.2) (ι':=ι') hne (fun q e he=>hlie q e _ he (hvb q e he))
   (fun q e k he hl hk=>h.sep _ _ _ k ‹S.ent g j=some (.deep o t sz' n rows)› rfl (hmB k (hhas.mem he (hvb q e he) hk)))
   (fun q e q' e' k he he' hl hl' hk hk'=>hhas.inj hndm he (hvb q e he) hk he' (hvb q' e' he') hk')
   (fun q e g' j' e' k he0 he' hl hl' hk hk'=>by
    have hkm:=hhas.mem he0 (hvb q e he0) hk;rw [P4 he] at he';split at he'
    ·rename_i qq;obtain ⟨rfl,rfl⟩:=qq;injection he' with he';subst he';exact hdm k hkm (by simpa using (EB.deep_iff hor k1).1 hk')
    ·rename_i qq;exact qq (h.inj _ _ _ _ _ _ k he' he hl' rfl hk' (hmB k hkm)))
  have he2:((S.setE g j (.deep true t sz' n (rows.set idx (A5 r off us0)))).lay grp y.2).ent g j=some (.deep true t sz' n (rows.set idx (A5 r off us0))):=by rw [a7o hgg];exact he1
  have hyl:y.1.length=m:=by rw [<-hy,d0D,hml]
  have hor':w.ownsRow 0 t sz' (ι' g j) n flat:=by rw [hne g j hgg];exact hor
  have hDD:∀k,S.D k->((S.setE g j (.deep true t sz' n (rows.set idx (A5 r off us0)))).lay grp y.2).D k:=fun k x=>b7a (P7.2 x)
  have hιD:∀g' j',S.D g'->ι' g' j'=ι g' j':=fun g' j' x=>hne g' j' fun q=>hn (q▸x)
  have k2:=kl0 (D':=((S.setE g j (.deep true t sz' n (rows.set idx (A5 r off us0)))).lay grp y.2).D) (ι':=ι') hDD hιD hyl (KL.ofRC hrc);have k1':=kl0 (D':=((S.setE g j (.deep true t sz' n (rows.set idx (A5 r off us0)))).lay grp y.2).D) (ι':=ι') hDD hιD hus0l (hus0▸km.bots.mono (fun _ _ _=>rfl) (fun _ x=>x) hDD hιD (fun _ _=>rfl));have rel3:=rel2.write he2 rfl (e':=.deep true t sz' n (rows.set idx (A5 r off y.1))) ⟨rfl,rfl,rfl⟩ rfl (fun _ _=>rfl)
   (fun _=>⟨flat,_,hor',k2.mono (fun _ _ _=>rfl) (fun _ x=>x) (fun k x=>P7.2 x) (fun _ _ _=>rfl) (fun _ _=>rfl),by simpa using hrn,hrl' _ hyl,by rw [hne g j hgg];simpa using hnd2,fun q=>by cases q⟩)
   (fun q hq=>(EB.deep_iff hor' k1').2 ((EB.deep_iff hor' k2).1 hq))
  obtain ⟨c,hrd',hvc⟩:=a4U hrc hrv;refine ⟨_,c,w,F,ι',a5x ho htf (by rw [hc,hk]) hseg hrd',.inl rfl,?_⟩;have hput:=rel3.put ob.dst (hvc.mono (fun _ _ _=>rfl) (fun _ x=>x) (fun k x=>P7.2 x) (fun _ _ _=>rfl));rw [<-c9U hgg,e0z] at hput;exact hput
def V.plainO:V->Bool
 | .own .. => true
 | v=>v.plain
theorem KL.plainO{w:World}{F D:Nat->Prop}{ι:Nat->Nat->Value}:∀{vs:List V} {cs:List Value} {f:List Nat},KL w F D ι vs cs f->vs.all V.plainO=true->v6 (RC w F D ι) vs cs
 | _,_,_,.nil,_=>.nil
 | _,_,_,.cons v c f vs cs fs h t,hp=>by
  simp only [List.all_cons,e9R] at hp;refine .cons ?_ (KL.plainO t hp.2);have hv:=hp.1;cases h with
  | rc h=>exact h
  | bc _ h=>cases h with
   | fv v c h=>exact .fv _ _ h
   | _=>cases hv
def b09(cx:Cx)(ty:Nat)(x:V)(r:List V):j6 B6:=
 match cx.T ty with
 | none=>j6.no
 | some ti=>match x with
  | .eptr g j sz idx off=>j6.bind (j6.rd g j) fun e=>match e with
   | .deep _ t sz' n rows=>
    let m:=if ti.agg then ti.size else 1
    if sz'=sz/\off+m<=sz/\((r.drop off).take m).all V.plainO then
     match Q4 ti ((r.drop off).take m) with
     | some v=>j6.pure {v:=v,obl:=[rows[idx]?=some r]}
     | none=>j6.no
    else j6.no
   | _=>j6.no
  | _=>j6.no
theorem d57(h:t7 Γ F ι S a w){grp:Nat}{ob:Oper}{ty:Nat}{x:Operand}{r:List V}(ho:ob.op=.load ty x){out:B6}{lg:List (Nat×Nat)}(hp:b09 cx ty (t0 S.t x) r S.ent=some (out,lg))(hob:∀p∈out.obl,p):S5 cx.P Γ ι S grp ob out a w:=by
 have hx:=D5 h.tmps x;unfold b09 at hp;cases hti:cx.T ty with
 | none=>rw [hti] at hp;cases hp
 | some ti=>
 rw [hti] at hp;obtain ⟨i,d,z,htf⟩:=cx.tf hti;generalize t0 S.t x=xv at hp hx;cases xv<;>try (cases hp;done)
 case eptr g j sz idx off=>
  obtain ⟨hD,b,hι,hc⟩:=hx.inv_eptr;obtain ⟨e,l1,l2,hrd,hp',hl12⟩:=j6.bind_some hp;clear hp;have he:=(j6.rd_some hrd).1;simp only at he;cases e<;>try (cases hp';done)
  rename_i o t sz' n rows;simp only at hp';obtain ⟨m,hm⟩:∃m,(if ti.agg=true then ti.size else 1)=m:=⟨_,rfl⟩
  rw [hm] at hp';split at hp'<;>try (cases hp';done)
  rename_i hcond;obtain ⟨rfl,hc1,hc2⟩:=hcond;cases hrv:Q4 ti ((r.drop off).take m) with
  | none=>rw [hrv] at hp';cases hp'
  | some v=>
  rw [hrv] at hp';have:=j6.pure_some hp';injection this with h2 h3;subst h2;have hr:rows[idx]?=some r:=hob _ (by simp);obtain ⟨flat,fs,hor,hkl,hrn,hl,hnd,hnr⟩:=h.ents g j _ he;obtain ⟨hseg,hmid,hle⟩:=c1S hor hrn hl hι hr hc1;obtain ⟨fa,fm,fb,rfl,ka,km,kb⟩:=hkl.cut hle;rw [hmid] at km;obtain ⟨c,hrd',hvc⟩:=a4U (D:=S.D) (ι:=ι) (km.plainO hc2) hrv;exact ⟨_,c,w,F,ι,a5x ho htf hc hseg hrd',.inl rfl,by rw [a53];exact h.put ob.dst hvc⟩
def b3c(cx:Cx)(grp ty:Nat)(l c:V)(ck om:List (Option Nat)):j6 B6:=
 match cx.T ty with
 | some ti=>match ti.sl with
  | some e=>match cx.T e with
   | some ei=>match l,c with
    | .i _ n,.i _ n'=>j6.bind (a1w ck om ei.zero) fun f=>
     if f.ks.isEmpty/\f.ls.isEmpty then
      j6.pure {v:=.own grp 0 ei.size 0 n.toNat,new:=some [.deep false e ei.size n.toNat (e9O n.toNat f.v)],obl:=[0<=n,n'=n,n*ei.bytes<=140737488355328/\0<ei.bytes,ei.zero.length=ei.size]++f.obl}
     else j6.no
    | _,_=>j6.no
   | none=>j6.no
  | none=>j6.no
 | none=>j6.no
theorem BL.replicate{w:World}{F D:Nat->Prop}{ι:Nat->Nat->Value}{vs:List V}{cs:List Value}(h:KL w F D ι vs cs []):∀n,KL w F D ι (e9O n vs).flatten (e9O n cs).flatten []
 | 0=>.nil
 | n+1=>by
  rw [f1c,f1c,f0d,f0d];exact h.app (BL.replicate h n)
theorem e5x(h:t7 Γ F ι S a w){grp:Nat}(hg:grp<S.h.length)(hn:¬S.D grp){ob:Oper}{ty:Nat}{l c:Operand}(ho:ob.op=.makeSlice ty l c){ck om:List (Option Nat)}{out:B6}{lg:List (Nat×Nat)}(hp:b3c cx grp ty (t0 S.t l) (t0 S.t c) ck om S.ent=some (out,lg))(hob:∀p∈out.obl,p):S5 cx.P Γ ι S grp ob out a w:=by
 have hl:=D5 h.tmps l;have hc:=D5 h.tmps c;unfold b3c at hp;cases hti:cx.T ty with
 | none=>rw [hti] at hp;cases hp
 | some ti=>
 rw [hti] at hp;simp only at hp;cases hs:ti.sl with
 | none=>rw [hs] at hp;cases hp
 | some e=>
 rw [hs] at hp;simp only at hp;cases hei:cx.T e with
 | none=>rw [hei] at hp;cases hp
 | some ei=>
 rw [hei] at hp;simp only at hp;generalize t0 S.t l=lv at hp hl;generalize t0 S.t c=cv at hp hc;cases lv<;>try (cases hp;done)
 cases cv<;>try (cases hp;done)
 rename_i k n k' n';simp only at hp;obtain ⟨f,l1,l2,hf,hp',_⟩:=j6.bind_some hp;clear hp;split at hp'<;>try (cases hp';done)
 rename_i hcond;have:=j6.pure_some hp';injection this with h3 h4;subst h3;have p1:0<=n:=hob _ (by simp);have p2:n'=n:=hob _ (by simp);have p3:n*ei.bytes<=140737488355328/\0<ei.bytes:=hob _ (by simp);have p4:ei.zero.length=ei.size:=hob _ (by simp);have p5:∀p∈f.obl,p:=fun p hp=>hob p (e9P.2 (.inr hp))
 subst p2;obtain ⟨m,rfl⟩:=Int.eq_ofNat_of_zero_le p1;obtain ⟨i,d,z,htf⟩:=cx.tf hti;obtain ⟨i',d',z',hef⟩:=cx.tf hei;obtain rfl:=htf.isSl hs;have hzs:z'.cells.size=ei.size:=by rw [<-p4,<-hef.zeros];simp
 have hb1:m*ei.bytes<=140737488355328:=by
  have:=p3.1;rw [<-Int.natCast_mul] at this;omega
 have hb2:m<=140737488355328:=f0c (f0Z _ p3.2) hb1;obtain ⟨w',hr,hown,hgr⟩:=run_make_full (P:=cx.P) w 0 ty e i' z' ei.size htf.und hef.info hef.zero hef.size k k' m (by rw [hef.bytes,Nat.mul_comm];omega) (by unfold maxLen;omega) (f07 _);have hrun:(execOp a.eval ob).run cx.P w=.ok (.value (.slice (some ⟨w.heap.size,0,none⟩) m m)) w':=by
  simp [execOp,ho,hl.inv_i,hc.inv_i,hr]
 have hz:v6 (RC w F S.D ι) ei.zero z'.cells.toList:=by
  rw [<-hef.zeros];exact (FL.ofCells (w:=w) (F:=F) _ hef.one).all2.imp fun _ _ x=>.fv _ _ x
 obtain ⟨fp,hbl,hfps,hh⟩:=b1h (F1:=F) h (fun _ x=>x) hz hf p5 (by rw [List.isEmpty_iff.1 hcond.2];intro id hid;cases hid);have hfp:fp=[]:=by
  rw [List.isEmpty_iff.1 hcond.1] at hfps;cases hfps;rfl
 subst hfp;have hs':G8 w w' F:=a0N fun g hg=>hgr.block g (h.F1 g hg) (by simp)
 have hbl':BL w' F f.v z'.cells.toList []:=hbl.mono hs' (fun _ x=>x) (fun k hk=>by cases hk);have hrowl:∀r∈e9O m f.v,r.length=ei.size:=fun r hr=>by
  rw [(f0r.1 hr).2,hbl.len];simpa using hzs
 have hkl:∀{D:Nat->Prop} {ι:Nat->Nat->Value},KL w' F D ι (e9O m f.v).flatten (e9O m z'.cells.toList).flatten []:=BL.replicate hbl'.kl m
 have hown':=hown;rw [<-hzs,b7l,hzs] at hown';have hor:RE w' F (S.lay grp [.deep false e ei.size m (e9O m f.v)]).D (K9 ι grp (.slice (some ⟨w.heap.size,0,none⟩) m m)) (.deep false e ei.size m (e9O m f.v)) (.slice (some ⟨w.heap.size,0,none⟩) m m):=
  ⟨_,[],hown',hkl,by simp,hrowl,by simp [D4,B5],fun _=>F3.of_flat fun v hv=>by
   obtain ⟨q,hq,hv⟩:=f0E.1 hv;rw [(f0r.1 hq).2] at hv;exact hbl.noRef v hv⟩
 have hrel:=h.new1 hg hn hgr (ent:=.deep false e ei.size m (e9O m f.v)) (c0:=.slice (some ⟨w.heap.size,0,none⟩) m m) (by
  intro q hq;have:=(EB.deep_iff (D:=fun _=>True) (ι:=fun _ _=>.nilFunc) hown' hkl).1 hq;simp [D4,B5] at this;omega) hor
 refine ⟨_,_,_,F,K9 ι grp (.slice (some ⟨w.heap.size,0,none⟩) m m),hrun,.inl rfl,?_⟩;exact hrel.put ob.dst (.cell (RC.wholeO (a0y hg) O2 hown'))
end
def a6K:List (List Int×V)->List Int->V->V
 | [],_,z=>z
 | p::es,k,z=>if k==p.1 then p.2 else a6K es k z
def a2U:List (List Int×V)->List Int->V->List (List Int×V)
 | [],k,v=>[(k,v)]
 | p::es,k,v=>if k==p.1 then (p.1,v)::es else p::a2U es k v
def a0e:List (List Int×V)->List Int->Nat->Option (Nat×Value)
 | [],_,_=>none
 | p::es,k,i=>if k==p.1 then some (i,p.2.conc) else a0e es k (i+1)
theorem d3l{P:Program}{w:World}{r:Nat}{es:Array MapEntry}{clock:Nat}(o:Obj)(hb:w.heap[r]?=some (.map es clock)):(setObj r o).run P w=.ok () {w with heap:=w.heap.setIfInBounds r o}:=by
 simp [setObj,Sem.run,hb]
theorem d0x{w:World}{r:Nat}{o o':Obj}(hb:w.heap[r]?=some o):(w.heap.setIfInBounds r o')[r]?=some o'/\∀r',r'≠r->(w.heap.setIfInBounds r o')[r']?=w.heap[r']?:=by
 have hlt:=(Array.getElem?_eq_some_iff.1 hb).1;exact ⟨by simp [hlt],fun r' q=>by rw [Array.getElem?_setIfInBounds_ne (Ne.symm q)]⟩
theorem c7s(z:V)(k:List Int):∀(es:List (List Int×V)) (i:Nat),(a6K es k z).conc=match a0e es k i with
  | some (_,v)=>v
  | none=>z.conc
 | [],_=>rfl
 | p::es,i=>by
  unfold a6K a0e;split
  ·rfl
  ·exact c7s z k es (i+1)
theorem RV.simple{w:World}{F D:Nat->Prop}{ι:Nat->Nat->Value}{v:V}{c:Value}(h:RV w F D ι v c)(hv:v.simple=true):c=v.conc:=by
 cases h with
 | one v c h=>
  cases h with
  | cell v c h=>
   cases h with
   | fv v c h=>cases h<;>first|rfl|(cases hv;done)
   | _=>cases hv
  | agg cs ds h=>cases hv
 | tup cs ds h=>cases hv
 | any c=>cases hv
section
variable {P:Program} {kt m:Nat} {w:World}
theorem b9f(hE:∀(xs ys:List Int) (w:World),xs.length=m->ys.length=m->(Op.equal kt (kv xs) (kv ys)).run P w=.ok (xs==ys) w){k:List Int}(hk:k.length=m):∀(es:List (List Int×V)) (l:List MapEntry) (i:Nat),l.map (fun e=>(e.key,e.val))=es.map (fun p=>(kv p.1,p.2.conc))->(∀p∈es,p.1.length=m)->(Instr.findAsking kt (kv k) l i).run P w=.ok (a0e es k i) w
 | [],[],i,_,_=>by simp [Instr.findAsking,a0e]
 | [],_::_,_,h,_=>by cases h
 | _::_,[],_,h,_=>by cases h
 | p::es,e::l,i,h,hl=>by
  simp only [f0j,List.cons.injEq,Prod.mk.injEq] at h;obtain ⟨⟨h1,h2⟩,h3⟩:=h;unfold Instr.findAsking;rw [h1];simp only [Sem.run_bind,hE k p.1 w hk (hl p (by simp)),Result.andThen_ok];unfold a0e;by_cases q:(k==p.1)=true
  ·rw [if_pos q,if_pos q,h2];rfl
  ·rw [if_neg q,if_neg q];exact b9f hE hk es l (i+1) h3 fun p hp=>hl p (by simp [hp])
theorem d5z:∀(n:Nat) (xs:List Int),Instr.sameBits (n+2) (kv xs) (kv xs)=true:=by
 intro n xs;unfold kv Instr.sameBits;simp only [f1i,beq_self_eq_true,e95];induction xs with
 | nil=>rfl
 | cons x xs ih=>
  simp only [f0j,List.zip_cons_cons,List.all_cons,e9R];exact ⟨by simp [Instr.sameBits],by simpa using ih⟩
theorem d0S{k:List Int}{j:Nat}{v:Value}:∀{es:List (List Int×V)} {i:Nat},a0e es k i=some (j,v)->i<=j
 | [],_,h=>by cases h
 | p::es,i,h=>by
  unfold a0e at h;split at h
  ·injection h with h;injection h with h;omega
  ·have:=d0S h;omega
theorem d2u{k:List Int}{x:V}{v:Value}:∀{es:List (List Int×V)} {l:List MapEntry} {i j:Nat},l.map (fun e=>(e.key,e.val))=es.map (fun p=>(kv p.1,p.2.conc))->a0e es k i=some (j,v)->
  (∃e,l[j-i]?=some e/\e.key=kv k)/\((l.modify (j-i) fun e=>{e with key:=kv k,val:=x.conc}).map (fun e=>(e.key,e.val))=(a2U es k x).map (fun p=>(kv p.1,p.2.conc)))
 | [],_,_,_,_,h=>by cases h
 | _::_,[],_,_,h,_=>by cases h
 | p::es,e::l,i,j,h,hf=>by
  simp only [f0j,List.cons.injEq,Prod.mk.injEq] at h;obtain ⟨⟨h1,h2⟩,h3⟩:=h;unfold a0e at hf;unfold a2U;split at hf
  ·rename_i q;injection hf with hf;injection hf with hf1 hf2;subst hf1;have:k=p.1:=by simpa using q
   rw [Nat.sub_self,if_pos q];exact ⟨⟨e,rfl,by rw [h1,this]⟩,by simp [List.modify_cons,h3,this]⟩
  ·rename_i q;rw [if_neg q];have hge:=d0S hf;obtain ⟨⟨e',h4,h5⟩,h6⟩:=d2u (x:=x) h3 hf;obtain ⟨d,hd⟩:∃d,j-i=d+1:=⟨j-i-1,by omega⟩
   have hd':j-(i+1)=d:=by omega
   rw [hd'] at h4 h6;rw [hd];refine ⟨⟨e',by simpa using h4,h5⟩,?_⟩;rw [List.modify_succ_cons];simp only [f0j,h1,h2,h6]
theorem c8s{k:List Int}{x:V}:∀{es:List (List Int×V)} {i:Nat},a0e es k i=none->a2U es k x=es++[(k,x)]
 | [],_,_=>rfl
 | p::es,i,h=>by
  unfold a0e at h;unfold a2U;split at h
  ·cases h
  ·rename_i q;rw [if_neg q,c8s h];rfl
theorem c8e{k:List Int}{x:V}{p:List Int×V->Prop}:∀{es:List (List Int×V)},(∀q∈es,p q)->(∀q∈es,p (q.1,x))->p (k,x)->∀q∈a2U es k x,p q
 | [],_,_,h3,q,hq=>by
  simp only [a2U,e9Z] at hq;subst hq;exact h3
 | e::es,h1,h2,h3,q,hq=>by
  unfold a2U at hq;split at hq
  ·rcases e9V.1 hq with rfl|hq
   ·exact h2 e (by simp)
   ·exact h1 q (by simp [hq])
  ·rcases e9V.1 hq with rfl|hq
   ·exact h1 _ (by simp)
   ·exact c8e (fun q hq=>h1 q (by simp [hq])) (fun q hq=>h2 q (by simp [hq])) h3 q hq
end
section
variable {cx:Cx} {Γ:N0} {F:Nat->Prop} {ι:Nat->Nat->Value} {S S':St} {a:Act} {w:World}
theorem RV.inv_mp{D:Nat->Prop}{g j:Nat}{c:Value}(h:RV w F D ι (.mp g j) c):D g/\∃b,ι g j=.map (some b)/\c=.map (some b):=by
 cases h with
 | one v c h=>cases h with
  | cell v c h=>cases h with
   | fv v c h=>cases h
   | mp g j b h1 h2=>exact ⟨h1,b,h2,rfl⟩
def b9h(cx:Cx)(grp ty:Nat):Option B6:=
 match cx.M ty with
 | some (_,m,_)=>some {v:=.mp grp 0,new:=some [.map ty m []]}
 | none=>none
theorem d5r(h:t7 Γ F ι S a w){grp:Nat}(hg:grp<S.h.length)(hn:¬S.D grp){ob:Oper}{ty:Nat}(ho:ob.op=.makeMap ty none){out:B6}(hp:b9h cx grp ty=some out):S5 cx.P Γ ι S grp ob out a w:=by
 unfold b9h at hp;split at hp<;>try (cases hp;done)
 injection hp with hp;subst hp;rename_i kt m z hM;have hrun:(execOp a.eval ob).run cx.P w=.ok (.value (.map (some w.heap.size))) (w.alloc (.map #[] 0)):=by
  simp only [execOp,ho,Option.map_none];rfl
 have hrel:=h.new1 hg hn (a4x w (.map #[] 0)) (ent:=.map ty m []) (c0:=.map (some w.heap.size))
  (by intro k hk;simp [EB,B5] at hk;omega) ⟨w.heap.size,#[],0,rfl,a7R w _,rfl,fun p hp=>by cases hp⟩
 refine ⟨_,_,_,F,K9 ι grp (.map (some w.heap.size)),hrun,.inl rfl,?_⟩;exact hrel.put ob.dst (.cell (.mp grp 0 w.heap.size (a0y hg) O2))
def b16(cx:Cx)(ty:Nat)(x ix:V):j6 B6:=
 match cx.M ty with
 | none=>j6.no
 | some (kt,m,z)=>match x,ix with
  | .mp g j,.agg ks=>match a1Z ks with
   | some xs=>j6.bind (j6.rd g j) fun e=>match e with
    | .map t' m' es=>if m'=m/\xs.length=m then j6.pure {v:=a6K es xs z} else j6.no
    | _=>j6.no
   | none=>j6.no
  | _,_=>j6.no
theorem d10{xs:List Int}{z:V}(hz:z.simple=true):∀{es:List (List Int×V)},(∀p∈es,p.2.simple=true)->(a6K es xs z).simple=true
 | [],_=>hz
 | p::es,h=>by
  unfold a6K;split
  ·exact h p (by simp)
  ·exact d10 hz fun p hp=>h p (by simp [hp])
theorem e45(h:t7 Γ F ι S a w){grp:Nat}{ob:Oper}{ty:Nat}{x ix:Operand}(ho:ob.op=.lookup ty x ix false){out:B6}{lg:List (Nat×Nat)}(hp:b16 cx ty (t0 S.t x) (t0 S.t ix) S.ent=some (out,lg)):S5 cx.P Γ ι S grp ob out a w:=by
 have hx:=D5 h.tmps x;have hi:=D5 h.tmps ix;unfold b16 at hp;cases hM:cx.M ty with
 | none=>rw [hM] at hp;cases hp
 | some q=>
 obtain ⟨kt,m,z⟩:=q;rw [hM] at hp;simp only at hp;generalize t0 S.t x=xv at hp hx;generalize t0 S.t ix=iv at hp hi;cases xv<;>try (cases hp;done)
 cases iv<;>try (cases hp;done)
 rename_i g j ks;simp only at hp;cases hks:a1Z ks with
 | none=>rw [hks] at hp;cases hp
 | some xs=>
 rw [hks] at hp;obtain ⟨e,l1,l2,hrd,hp',hl12⟩:=j6.bind_some hp;clear hp;have he:=(j6.rd_some hrd).1;simp only at he hp';cases e<;>try (cases hp';done)
 rename_i t' m' es;simp only at hp';split at hp'<;>try (cases hp';done)
 rename_i hcond;obtain ⟨rfl,hlen⟩:=hcond;have:=j6.pure_some hp';injection this with h2 h3;subst h2;obtain ⟨hD,b,hι,hc⟩:=hx.inv_mp;obtain ⟨ds,hds,hall⟩:=hi.inv_agg;have hints:=b7M hall hks;subst hints;obtain ⟨b',arr,clock,hb,hheap,hes,hok⟩:=h.ents g j _ he;rw [hι] at hb;injection hb with hb;injection hb with hb;subst hb;obtain ⟨vt,hu,hE,hwide,hz,hzs,hck⟩:=cx.hM ty kt m' z hM;have hck':∀em,(Instr.checkKey em 10000 kt (kv xs)).run cx.P w=.ok () w:=fun em=>hck em xs w hlen
 have hfind:(Instr.findKey kt (kv xs) arr.toList).run cx.P w=.ok (a0e es xs 0) w:=by
  rw [run_findKey_eq w (by unfold c1P at hwide;exact hwide)];exact b9f (fun xs ys w h1 h2=>cx.hE kt m' hE xs ys w h1 h2) hlen es arr.toList 0 hes fun p hp=>(hok p hp).1
 have hrun:(execOp a.eval ob).run cx.P w=.ok (.value (a6K es xs z).conc) w:=by
  rw [c7s z xs es 0];simp only [execOp,ho,hc,hds,Instr.lookup,Sem.run_bind,run_underlying hu,Result.andThen_ok,run_getObj_map w b arr clock hheap];rw [show (Value.agg (xs.map (Value.int .i64)).toArray)=kv xs from rfl];simp only [Sem.run_pure,Sem.run_bind,hck',Result.andThen_ok,hfind];cases a0e es xs 0 with
  | none=>simp [hz,Sem.run_bind]
  | some q=>simp
 have hs:=d10 (xs:=xs) hzs fun p hp=>(hok p hp).2
 refine ⟨_,_,w,F,ι,hrun,.inl rfl,?_⟩;rw [a53];exact h.put ob.dst (.fv (FV.conc hs))
def b0x(cx:Cx)(ty:Nat)(x ix y:V):j6 B6:=
 match cx.M ty with
 | none=>j6.no
 | some (kt,m,z)=>match x,ix with
  | .mp g j,.agg ks=>match a1Z ks with
   | some xs=>j6.bind (j6.rd g j) fun e=>match e with
    | .map t' m' es=>if m'=m/\xs.length=m/\y.simple=true then j6.pure {v:=.bot,upd:=[((g,j),.map t' m (a2U es xs y))]} else j6.no
    | _=>j6.no
   | none=>j6.no
  | _,_=>j6.no
theorem e28(h:t7 Γ F ι S a w){grp:Nat}{ob:Oper}{ty:Nat}{x ix y:Operand}(ho:ob.op=.mapUpdate ty x ix y)(hd:ob.dst=none){out:B6}{lg:List (Nat×Nat)}(hp:b0x cx ty (t0 S.t x) (t0 S.t ix) (t0 S.t y) S.ent=some (out,lg)):S5 cx.P Γ ι S grp ob out a w:=by
 have hx:=D5 h.tmps x;have hi:=D5 h.tmps ix;have hy:=D5 h.tmps y;unfold b0x at hp;cases hM:cx.M ty with
 | none=>rw [hM] at hp;cases hp
 | some q=>
 obtain ⟨kt,m,z⟩:=q;rw [hM] at hp;simp only at hp;generalize t0 S.t x=xv at hp hx;generalize t0 S.t ix=iv at hp hi;generalize t0 S.t y=yv at hp hy;cases xv<;>try (cases hp;done)
 cases iv<;>try (cases hp;done)
 rename_i g j ks;simp only at hp;cases hks:a1Z ks with
 | none=>rw [hks] at hp;cases hp
 | some xs=>
 rw [hks] at hp;obtain ⟨e,l1,l2,hrd,hp',hl12⟩:=j6.bind_some hp;clear hp;have he:=(j6.rd_some hrd).1;simp only at he hp';cases e<;>try (cases hp';done)
 rename_i t' m' es;simp only at hp';split at hp'<;>try (cases hp';done)
 rename_i hcond;obtain ⟨rfl,hlen,hys⟩:=hcond;have:=j6.pure_some hp';injection this with h2 h3;subst h2;obtain ⟨hD,b,hι,hc⟩:=hx.inv_mp;obtain ⟨ds,hds,hall⟩:=hi.inv_agg;have hints:=b7M hall hks;subst hints;have hyc:=hy.simple hys;obtain ⟨b',arr,clock,hb,hheap,hes,hok⟩:=h.ents g j _ he;rw [hι] at hb;injection hb with hb;injection hb with hb;subst hb;obtain ⟨vt,hu,hE,hwide,hz,hzs,hck⟩:=cx.hM ty kt m' z hM;have hck':∀em,(Instr.checkKey em 10000 kt (kv xs)).run cx.P w=.ok () w:=fun em=>hck em xs w hlen
 have hfind:(Instr.findKey kt (kv xs) arr.toList).run cx.P w=.ok (a0e es xs 0) w:=by
  rw [run_findKey_eq w (by unfold c1P at hwide;exact hwide)];exact b9f (fun xs ys w h1 h2=>cx.hE kt m' hE xs ys w h1 h2) hlen es arr.toList 0 hes fun p hp=>(hok p hp).1
 have hlt:b<w.heap.size:=(Array.getElem?_eq_some_iff.1 hheap).1;obtain ⟨arr',clock',hrun,hes'⟩:∃arr' clock',(execOp a.eval ob).run cx.P w=.ok .skip {w with heap:=w.heap.setIfInBounds b (.map arr' clock')}/\arr'.toList.map (fun e=>(e.key,e.val))=(a2U es xs yv).map (fun p=>(kv p.1,p.2.conc)):=by
  have e0:(Value.agg (xs.map (Value.int .i64)).toArray)=kv xs:=rfl;cases hf:a0e es xs 0 with
  | none=>
   refine ⟨arr.push {key:=kv xs,val:=yv.conc,born:=clock},clock+1,?_,?_⟩
   ·simp only [execOp,ho,hc,hds,hyc,Instr.mapUpdate,Sem.run_bind,run_underlying hu,Result.andThen_ok,run_getObj_map w b arr clock hheap];rw [e0];simp only [Sem.run_pure,Sem.run_bind,hck',Result.andThen_ok,hfind,hf,d3l _ hheap]
   ·rw [c8s hf];simp [hes]
  | some q=>
   obtain ⟨i,v⟩:=q;obtain ⟨⟨e,he1,he2⟩,he3⟩:=d2u (x:=yv) hes hf;rw [f1y] at he1 he3;have hkey:((arr[i]?).map (·.key)).getD (kv xs)=kv xs:=by
    have:arr[i]?=some e:=by simpa using he1
    rw [this];exact he2
   refine ⟨arr.modify i fun e=>{e with key:=kv xs,val:=yv.conc},clock,?_,?_⟩
   ·simp only [execOp,ho,hc,hds,hyc,Instr.mapUpdate,Sem.run_bind,run_underlying hu,Result.andThen_ok,run_getObj_map w b arr clock hheap];rw [e0];simp only [Sem.run_pure,Sem.run_bind,hck',Result.andThen_ok,hfind,hf,hkey,Instr.keyThatStays,d5z 9998,if_true,d3l _ hheap]
   ·rw [Array.toList_modify];exact he3
 refine ⟨_,undef,_,F,ι,hrun,.inr ⟨rfl,rfl⟩,?_⟩;rw [hd,b25,b03];have hsz:(w.heap.setIfInBounds b (.map arr' clock')).size=w.heap.size:=by simp
 refine h.write he rfl ⟨rfl,rfl,rfl⟩ hsz (fun k hk => ?_) (fun _ => ?_) (fun k hk=>hk)
 ·refine (d0x hheap).2 k fun q=>hk ?_
  rw [q,hι];rfl
 ·exact ⟨b,arr',clock',hι,(d0x hheap).1,hes',c8e hok (fun q hq=>⟨(hok q hq).1,hys⟩) ⟨hlen,hys⟩⟩
end
section
variable {cx:Cx} {Γ:N0} {F:Nat->Prop} {ι:Nat->Nat->Value} {S S':St} {a:Act} {w:World}
theorem t7.killsR:∀{ks:List (Nat×Nat)} {S:St},t7 Γ F ι S a w->(∀id∈ks,∃e,S.ent id.1 id.2=some e)->t7 Γ F ι (S.upds (E9 ks)) a w
 | [],S,h,_=>h
 | id::ks,S,h,hk=>by
  obtain ⟨e,he⟩:=hk id (by simp);refine t7.killsR (S:=S.setE id.1 id.2 .dead) (h.kill he) fun id' hid => ?_
  obtain ⟨e',he'⟩:=hk id' (by simp [hid]);rw [P4 he];split
  ·exact ⟨_,rfl⟩
  ·exact ⟨e',he'⟩
theorem F3.flatB{rows:List (List V)}(h:F3 rows):rows.flatten.all (fun v => !v.isRef)=true:=by
 rw [e9W];intro v hv;obtain ⟨r,hr,hv⟩:=f0E.1 hv;rw [h r hr v hv];rfl
theorem t7.layDeep(h:t7 Γ F ι S a w){grp:Nat}(hgl:grp<S.h.length)(hn:¬S.D grp){X:Option Nat}{w':World}(hgr:w.grownBy w' X)(hX:∀k,X=some k->¬F k/\(Γ.own k\/Γ.w0.heap.size<=k)/\∀g j e,S.ent g j=some e->e.live=true->¬EB w e (ι g j) k){e sz n:Nat}{rows:List (List V)}{sv:Value}{flat:List Value}{fs:List Nat}(hown:w'.ownsRow 0 e sz sv n flat)(hbl:BL w F rows.flatten flat fs)(hlen:rows.length=n)(hl:∀r∈rows,r.length=sz)(hsv:∀k,B5 sv=some k->X=some k\/w.heap.size<=k)(hfs:∀k∈fs,¬F k/\(Γ.own k\/Γ.w0.heap.size<=k)/\(∀g j e,S.ent g j=some e->e.live=true->¬EB w e (ι g j) k)/\X≠some k)(hnd:fs.Nodup) :
  t7 Γ F (K9 ι grp sv) (S.lay grp [.deep false e sz n rows]) a w'/\RC w' F (S.lay grp [.deep false e sz n rows]).D (K9 ι grp sv) (.own grp 0 sz 0 n) sv:=by
 have hs:G8 w w' F:=a0N fun g hF=>hgr.block g (h.F1 g hF) fun q=>(hX g q.symm).1 hF
 have hlt:=hbl.lt;have hbl':BL w' F rows.flatten flat fs:=hbl.mono hs (fun _ x=>x) fun k hk=>hgr.block k (hlt k hk) fun q=>(hfs k hk).2.2.2 q.symm
 have hkl:∀{D:Nat->Prop} {ι:Nat->Nat->Value},KL w' F D ι rows.flatten flat fs:=hbl'.kl
 have hEB:∀k,EB w' (.deep false e sz n rows) sv k->(X=some k\/w.heap.size<=k)\/k∈fs:=by
  intro k hk;rcases e9P.1 ((EB.deep_iff (D:=fun _=>True) (ι:=fun _ _=>.nilFunc) hown hkl).1 hk) with q|q
  ·exact .inl (hsv k (P6.1 q))
  ·exact .inr q
 have h':=h.world2 hgr hX;have hback:∀{g' j' e' k},S.ent g' j'=some e'->e'.live=true->EB w' e' (ι g' j') k->EB w e' (ι g' j') k:=fun he' hl' hk'=>
  (h.ents _ _ _ he').back (fun k q=>hgr.block k (h.lt he' hl' q) fun z=>(hX k z.symm).2.2 _ _ _ he' hl' q) hk'
 refine ⟨h'.lay hgl hn (fun g j q=>a8x q) ?_ ?_ ?_ ?_,RC.wholeO (a0y hgl) O2 hown⟩
 ·intro j e1 he;cases j with
  | succ j=>simp at he
  | zero=>
   simp at he;subst he;rw [O2];refine ⟨flat,fs,hown,hkl,hlen,hl,e9X.2 ⟨b8Z sv,hnd,?_⟩,fun _=>F3.of_flat hbl.noRef⟩;intro k hk k' hk' hkk;subst hkk;rcases hsv k (P6.1 hk) with q|q
   ·exact (hfs k hk').2.2.2 q
   ·have:=hlt k hk';omega
 ·intro j e1 k he hl1 hk;rw [O2] at hk;cases j with
  | succ j=>simp at he
  | zero=>
   simp at he;subst he;rcases hEB k hk with (q|q)|q
   ·exact ⟨(hX k q).1,(hX k q).2.1⟩
   ·refine ⟨fun hF => ?_,.inr (f0c h.kept.size q)⟩;have:=h.F1 k hF;omega
   ·exact ⟨(hfs k q).1,(hfs k q).2.1⟩
 ·intro j e1 j' e1' k he he' _ _ _ _;cases j<;>cases j'<;>simp_all
 ·intro j e1 g' j' e' k he he' _ hl' hk hk';rw [O2] at hk;cases j with
  | succ j=>simp at he
  | zero=>
   simp at he;subst he;have hk2:=hback he' hl' hk';rcases hEB k hk with (q|q)|q
   ·exact (hX k q).2.2 g' j' e' he' hl' hk2
   ·have:=h.lt he' hl' hk2;omega
   ·exact (hfs k q).2.2.1 g' j' e' he' hl' hk2
def a8I:V->V
 | .osl .. | .dsl .. => .bot
 | v=>v
theorem KL.holes:∀{vs:List V} {cs:List Value} {f:List Nat} {D:Nat->Prop} {ι:Nat->Nat->Value},KL w F D ι vs cs f->vs.all (fun v => !v.isRef)=true->KL w F D ι (vs.map a8I) cs []
 | _,_,_,_,_,.nil,_=>.nil
 | _,_,_,D,ι,.cons v c f vs cs fs h t,hv=>by
  simp only [List.all_cons,e9R] at hv;have h1:KC w F D ι (a8I v) c []:=by
   have hone:=h.one;cases h with
   | rc h=>
    have:a8I v=v:=by
     cases h with
     | fv v c h=>cases h<;>rfl
     | _=>rfl
    rw [this];exact .rc _ _ h
   | bc _ h=>cases h with
    | fv _ _ h=>
     have:a8I v=v:=by cases h<;>rfl
     rw [this];exact .rc _ _ (.fv _ _ h)
    | _=>exact .rc _ _ (.fv _ _ (.bot _ hone))
  exact .cons _ _ [] _ _ [] h1 (KL.holes t hv.2)
def b0W(cx:Cx)(grp ty:Nat)(x:V)(r:List V):j6 B6:=
 match cx.T ty with
 | none=>j6.no
 | some ti=>match x with
  | .eptr g j sz idx off=>j6.bind (j6.rd g j) fun e=>match e with
   | .deep _ t sz' n rows=>
    let m:=if ti.agg then ti.size else 1
    let y:=I9 grp 0 ((r.drop off).take m);if sz'=sz/\off+m<=sz/\((r.drop off).take m).all (fun v => !v.isRef) then
     match Q4 ti y.1 with
     | some v=>j6.pure {v:=v,new:=some y.2,upd:=[((g,j),.deep true t sz n (rows.set idx (A5 r off (((r.drop off).take m).map a8I))))],obl:=[rows[idx]?=some r]}
     | none=>j6.no
    else j6.no
   | _=>j6.no
  | _=>j6.no
set_option maxHeartbeats 800000 in
theorem e8U(h:t7 Γ F ι S a w){grp:Nat}(hg:grp<S.h.length)(hn:¬S.D grp){ob:Oper}{ty:Nat}{x:Operand}{r:List V}(ho:ob.op=.load ty x){out:B6}{lg:List (Nat×Nat)}(hp:b0W cx grp ty (t0 S.t x) r S.ent=some (out,lg))(hob:∀p∈out.obl,p):S5 cx.P Γ ι S grp ob out a w:=by
 have hx:=D5 h.tmps x;unfold b0W at hp;cases hti:cx.T ty with
 | none=>rw [hti] at hp;cases hp
 | some ti=>
 rw [hti] at hp;obtain ⟨i,d,z,htf⟩:=cx.tf hti;generalize t0 S.t x=xv at hp hx;cases xv<;>try (cases hp;done)
 case eptr g j sz idx off=>
  obtain ⟨hD,b,hι,hc⟩:=hx.inv_eptr;obtain ⟨e,l1,l2,hrd,hp',hl12⟩:=j6.bind_some hp;clear hp;have he:=(j6.rd_some hrd).1;simp only at he;cases e<;>try (cases hp';done)
  rename_i o t sz' n rows;simp only at hp';obtain ⟨m,hm⟩:∃m,(if ti.agg=true then ti.size else 1)=m:=⟨_,rfl⟩
  rw [hm] at hp';split at hp'<;>try (cases hp';done)
  rename_i hcond;obtain ⟨rfl,hc1,hc2⟩:=hcond;obtain ⟨y,hy⟩:∃y,I9 grp 0 ((r.drop off).take m)=y:=⟨_,rfl⟩
  rw [hy] at hp';cases hrv:Q4 ti y.1 with
  | none=>rw [hrv] at hp';cases hp'
  | some v=>
  rw [hrv] at hp';have:=j6.pure_some hp';injection this with h2 h3;subst h2;have hr:rows[idx]?=some r:=hob _ (by simp);obtain ⟨flat,fs,hor,hkl,hrn,hl,hnd,hnr⟩:=h.ents g j _ he;obtain ⟨hseg,hmid,hle⟩:=c1S hor hrn hl hι hr hc1;have hrl:=hl r (e93 hr);have hml:((r.drop off).take m).length=m:=by simp;omega
  have hgg:g≠grp:=fun q=>hn (q▸hD)
  obtain ⟨k,hk⟩:∃k,idx*sz'+off=k:=⟨_,rfl⟩
  rw [hk] at hseg hmid hle;obtain ⟨fa,fm,fb,rfl,ka,km,kb⟩:=hkl.cut (k:=k) (m:=m) hle;rw [hmid] at km;have hbl:=km.toBL hc2;have hds:(flat.drop k).take m=((flat.drop k).take m):=rfl;have hflen:flat.length=rows.flatten.length:=hkl.len.symm;have hspl:∀us:List V,us.length=m->(rows.set idx (A5 r off us)).flatten=rows.flatten.take k++(us++rows.flatten.drop (k+m)):=by
   intro us hus;rw [a64 hl hr (by omega),hk];unfold A5;rw [hus,e92]
  have hfs:flat=flat.take k++((flat.drop k).take m++flat.drop (k+m)):=by
   rw [<-f09,f0s,f0s]
  have hrl':∀us:List V,us.length=m->∀q∈rows.set idx (A5 r off us),q.length=sz':=by
   intro us hus q hq;rcases e99 hq with hq|rfl
   ·exact hl q hq
   ·rw [a2f _ _ _ (by omega)];exact hrl
  have hnd2:(D4 (ι g j)++(fa++fb)).Nodup:=List.Nodup.sublist (f1n.append_left (f1n.append_left (f03 _ _) _) _) hnd;have hndm:fm.Nodup:=(e9X.1 (e9X.1 (e9X.1 hnd).2.1).2.1).1;have hdm:∀k∈fm,k ∉ D4 (ι g j)++(fa++fb):=by
   intro q hq hq';have hp:=(a7n (C:=D4 (ι g j)) (a7n (C:=fa) (f08.refl (fm++fb)))).nodup_iff.1 hnd;exact (e9X.1 hp).2.2 q hq q hq' rfl
  obtain ⟨us0,hus0⟩:∃us:List V,us=((r.drop off).take m).map a8I:=⟨_,rfl⟩
  have hus0l:us0.length=m:=by rw [hus0,f0X,hml]
  have kl0:∀{D':Nat->Prop} {ι':Nat->Nat->Value},(∀k,S.D k->D' k)->(∀g j,S.D g->ι' g j=ι g j)->∀{us:List V},us.length=m->KL w F D' ι' us ((flat.drop k).take m) []->KL w F D' ι' (rows.set idx (A5 r off us)).flatten flat (fa++([]++fb)):=by
   intro D' ι' h1 h2 us hus hku;rw [hspl us hus,hfs];have l1:(flat.take k).length=k:=by simp;omega
   have e1:(flat.take k++((flat.drop k).take m++flat.drop (k+m)))=flat:=hfs.symm;exact (ka.mono (fun _ _ _=>rfl) (fun _ x=>x) h1 h2 (fun _ _=>rfl)).app (hku.app (kb.mono (fun _ _ _=>rfl) (fun _ x=>x) h1 h2 (fun _ _=>rfl)))
  have hmem0:∀q,q∈D4 (ι g j)++(fa++([]++fb))->q∈D4 (ι g j)++(fa++(fm++fb)):=by
   intro q hq;simp only [e9P,List.not_mem_nil,false_or] at hq⊢;rcases hq with x|x|x<;>simp [x]
  have rel1:t7 Γ F ι (S.setE g j (.deep true t sz' n (rows.set idx (A5 r off us0)))) a w:=by
   have k1:=kl0 (D':=S.D) (ι':=ι) (fun _ x=>x) (fun _ _ _=>rfl) hus0l (hus0▸km.holes hc2);refine h.write he rfl ⟨rfl,rfl,rfl⟩ rfl (fun _ _=>rfl) (fun _ => ?_) ?_
   ·exact ⟨flat,_,hor,k1.mono (fun _ _ _=>rfl) (fun _ x=>x) (fun k x=>P7.2 x) (fun _ _ _=>rfl) (fun _ _=>rfl),by simpa using hrn,hrl' _ hus0l,by simpa using hnd2,fun q=>by cases q⟩
   ·intro q hq;exact (EB.deep_iff hor hkl).2 (hmem0 q ((EB.deep_iff hor k1).1 hq))
  have he1:(S.setE g j (.deep true t sz' n (rows.set idx (A5 r off us0)))).ent g j=some (.deep true t sz' n (rows.set idx (A5 r off us0))):=by rw [P4 he];simp
  obtain ⟨bs,hbsl,hhas,hth⟩:=a7x (grp:=grp) hbl 0;rw [hy] at hbsl hhas hth;obtain ⟨ι',hι'⟩:∃ι',ι'=a4E ι grp bs:=⟨_,rfl⟩
  have hne:∀g j,g≠grp->ι' g j=ι g j:=fun g j q=>by rw [hι'];exact b92 q
  have hlenS:grp<(S.setE g j (.deep true t sz' n (rows.set idx (A5 r off us0)))).h.length:=by rw [a9d];exact hg
  have hnD:¬(S.setE g j (.deep true t sz' n (rows.set idx (A5 r off us0)))).D grp:=fun q=>hn (P7.1 q)
  have hDg:=a0y (S:=S.setE g j (.deep true t sz' n (rows.set idx (A5 r off us0)))) (new:=y.2) hlenS;obtain ⟨hrc,hlie⟩:=hth ((S.setE g j (.deep true t sz' n (rows.set idx (A5 r off us0)))).lay grp y.2).D ι' hDg (fun q c hq=>by rw [hι',f0y];exact a4j hq) hndm;have hvb:∀(q:Nat) (e:s4),y.2[q]?=some e->bs[q]?=some (ι' grp q):=by
   intro q e hq;have hlt:q<bs.length:=by rw [hbsl];exact (e9T.1 hq).1
   have hv:ι' grp q=bs[q]:=by rw [hι'];exact a4j (e9N hlt)
   rw [hv];exact e9N hlt
  have hmB:∀k∈fm,EB w (.deep o t sz' n rows) (ι g j) k:=fun k hk=>(EB.deep_iff hor hkl).2 (by simp [hk])
  have k1:=kl0 (D':=S.D) (ι':=ι) (fun _ x=>x) (fun _ _ _=>rfl) hus0l (hus0▸km.holes hc2);have rel2:=rel1.lay hlenS hnD (new:=y.2) (ι':=ι') hne (fun q e he=>hlie q e _ he (hvb q e he))
   (fun q e k he hl hk=>h.sep _ _ _ k ‹S.ent g j=some (.deep o t sz' n rows)› rfl (hmB k (hhas.mem he (hvb q e he) hk)))
   (fun q e q' e' k he he' hl hl' hk hk'=>hhas.inj hndm he (hvb q e he) hk he' (hvb q' e' he') hk')
   (fun q e g' j' e' k he0 he' hl hl' hk hk'=>by
    have hkm:=hhas.mem he0 (hvb q e he0) hk;rw [P4 he] at he';split at he'
    ·rename_i qq;obtain ⟨rfl,rfl⟩:=qq;injection he' with he';subst he';exact hdm k hkm (by simpa using (EB.deep_iff hor k1).1 hk')
    ·rename_i qq;exact qq (h.inj _ _ _ _ _ _ k he' he hl' rfl hk' (hmB k hkm)))
  have he2:((S.setE g j (.deep true t sz' n (rows.set idx (A5 r off us0)))).lay grp y.2).ent g j=some (.deep true t sz' n (rows.set idx (A5 r off us0))):=by rw [a7o hgg];exact he1
  obtain ⟨c,hrd',hvc⟩:=a4U hrc hrv;refine ⟨_,c,w,F,ι',a5x ho htf (by rw [hc,hk]) hseg hrd',.inl rfl,?_⟩;have hput:=rel2.put ob.dst hvc;rw [hus0] at hput;exact hput
theorem t7.shut(h:t7 Γ F ι S a w){g j t sz n:Nat}{o:Bool}{rows:List (List V)}(he:S.ent g j=some (.deep o t sz n rows))(hn:F3 rows):t7 Γ F ι (S.setE g j (.deep false t sz n rows)) a w:=by
 refine h.write he rfl ⟨rfl,rfl,rfl⟩ rfl (fun _ _=>rfl) (fun _ => ?_) (fun k hk=>hk);obtain ⟨flat,fs,q1,q2,q3,q4,q5,q6⟩:=h.ents g j _ he;exact ⟨flat,fs,q1,q2.mono (fun _ _ _=>rfl) (fun _ x=>x) (fun k x=>P7.2 x) (fun _ _ _=>rfl) (fun _ _=>rfl),q3,q4,q5,fun _=>hn⟩
theorem c1p{g j:Nat}:∀{us:List N1} {S:St} {e:s4},S.ent g j=some e->∃e',(S.upds us).ent g j=some e'
 | [],_,e,h=>⟨e,h⟩
 | ((g',j'),e')::us,S,e,h=>by
  cases hx:S.ent g' j' with
  | none=>
   have:(S.setE g' j' e').ent g j=some e:=by
    by_cases q:g=g'/\j=j'
    ·rw [q.1,q.2,hx] at h;cases h
    ·rw [a5l q];exact h
   exact c1p (us:=us) (S:=S.setE g' j' e') this
  | some e0=>
   have:∃e1,(S.setE g' j' e').ent g j=some e1:=by
    rw [P4 hx];split
    ·exact ⟨_,rfl⟩
    ·exact ⟨e,h⟩
   obtain ⟨e1,h1⟩:=this;exact c1p (us:=us) (S:=S.setE g' j' e') h1
def b2t(cx:Cx)(ty:Nat)(x y:V)(r:List V)(ck om:List (Option Nat)):j6 B6:=
 j6.bind (a8C cx ty x y r ck om) fun o=>match o.new,o.upd.reverse with
  | none,((g,j),.deep b t sz n rows)::us=>j6.bind (j6.rd g j) fun _=>j6.pure {v:=o.v,upd:=o.upd++[((g,j),.deep false t sz n rows)],obl:=F3 rows::o.obl}
  | _,_=>j6.no
theorem e9g{S:St}{g j:Nat}{e:s4}{t:List V}:({S with t:=t}:St).setE g j e={S.setE g j e with t:=t}:=by
 unfold St.setE;cases S.h[g]? with
 | none=>rfl
 | some o=>cases o<;>rfl
theorem d7q(h:t7 Γ F ι S a w){grp:Nat}{ob:Oper}{ty:Nat}{x y:Operand}{r:List V}{ck om:List (Option Nat)}(ho:ob.op=.store ty x y)(hd:ob.dst=none){out:B6}{lg:List (Nat×Nat)}(hp:b2t cx ty (t0 S.t x) (t0 S.t y) r ck om S.ent=some (out,lg))(hob:∀p∈out.obl,p):S5 cx.P Γ ι S grp ob out a w:=by
 unfold b2t at hp;obtain ⟨o,l1,l2,hd1,hp',_⟩:=j6.bind_some hp;clear hp;simp only at hp';cases hnew:o.new with
 | some _=>rw [hnew] at hp';cases hp'
 | none=>
 rw [hnew] at hp';cases hrev:o.upd.reverse with
 | nil=>rw [hrev] at hp';cases hp'
 | cons u us=>
 rw [hrev] at hp';obtain ⟨⟨g,j⟩,e⟩:=u;cases e<;>try (cases hp';done)
 rename_i b t sz n rows;simp only at hp';obtain ⟨e0,l3,l4,hrd,hp'',_⟩:=j6.bind_some hp';have he0:=(j6.rd_some hrd).1;simp only at he0;have:=j6.pure_some hp'';injection this with h2 h3;subst h2;have hnr:F3 rows:=hob _ (by simp);obtain ⟨nx,c,w',F',ι',hrun,hnx,hrel⟩:=c8X h (grp:=grp) ho hd hd1 (fun p hp=>hob p (by simp [hp]));refine ⟨nx,c,w',F',ι',hrun,hnx,?_⟩;have hu:o.upd=us.reverse++[((g,j),.deep b t sz n rows)]:=by
  have:=congrArg List.reverse hrev;simpa using this
 have happ:S.apply grp ob.dst o={S.upds o.upd with t:=R2 S.t ob.dst o.v}:=by
  unfold St.apply;rw [hnew];simp only [St.upds_t]
 rw [happ] at hrel;have hent:({S.upds o.upd with t:=R2 S.t ob.dst o.v}:St).ent g j=some (.deep b t sz n rows):=by
  show (S.upds o.upd).ent g j=_
  rw [hu,St.upds_append];obtain ⟨e1,he1⟩:=c1p (us:=us.reverse) he0;show ((S.upds us.reverse).setE g j _).ent g j=_
  rw [P4 he1];simp
 have hs:=hrel.shut hent hnr;rw [e9g] at hs;unfold St.apply;simp only [St.upds_append,St.upds_t];exact hs
def b1z(cx:Cx)(grp ty len:Nat)(parts:List (Nat×V))(ck om:List (Option Nat)):j6 B6:=
 match cx.T ty with
 | some ti=>match ti.sl with
  | some e=>match cx.T e with
   | some ei=>match parts with
    | [(0,x)]=>match x.cells with
     | some cs=>j6.bind (a1w ck om cs) fun f=>
      if len=1/\cs.length=ei.size/\ei.zero.length=ei.size/\0<ei.size/\ei.size<=16777216/\a2c f.ks=true/\f.ls.isEmpty=true then
       j6.pure {v:=.own grp 0 ei.size 0 1,new:=some [.deep false e ei.size 1 [f.v]],upd:=E9 f.ks,obl:=f.obl}
      else j6.no
     | none=>j6.no
    | []=>
     if len=0/\ei.zero.length=ei.size/\0<ei.size/\ei.size<=16777216 then
      j6.pure {v:=.own grp 0 ei.size 0 0,new:=some [.deep false e ei.size 0 []]}
     else j6.no
    | _=>j6.no
   | none=>j6.no
  | none=>j6.no
 | none=>j6.no
theorem d7D{u:Value}{ds:Array Value}{sz:Nat}(hu:u.cells.size=sz)(hd:ds.size=sz):∃es:Array Value,Instr.fill (fun i=>some (i*sz,sz)) ds [(0,u)]=some es/\es.toList=u.cells.toList:=by
 have hout:=c0Q u.cells.toList 0 (0*sz) ds (by simp only [Array.length_toList];omega);refine ⟨u.cells.toList.zipIdx.foldl (fun (cs:Array Value) (x:Value×Nat)=>cs.setIfInBounds (0*sz+x.2) x.1) ds,?_,?_⟩
 ·have hcond':(u.cells.size≠sz||0*sz+u.cells.size>ds.size)=false:=by
   simp [hu];omega
  simp only [Instr.fill,hcond'];simp only [f0O,if_false];congr 1
  rw [<-Array.foldl_toList,Array.toList_zipIdx]
 ·rw [hout,Nat.zero_mul,f01,c6w];simp only [Array.length_toList];omega
theorem e5y(h:t7 Γ F ι S a w){grp:Nat}(hg:grp<S.h.length)(hn:¬S.D grp){ob:Oper}{ty len:Nat}{parts:Array (Nat×Operand)}{ck om:List (Option Nat)}(ho:ob.op=.buildSlice ty len parts){out:B6}{lg:List (Nat×Nat)}(hp:b1z cx grp ty len (parts.toList.map fun (i,x)=>(i,t0 S.t x)) ck om S.ent=some (out,lg))(hob:∀p∈out.obl,p):S5 cx.P Γ ι S grp ob out a w:=by
 unfold b1z at hp;cases hti:cx.T ty with
 | none=>rw [hti] at hp;cases hp
 | some ti=>
 rw [hti] at hp;simp only at hp;cases hsl:ti.sl with
 | none=>rw [hsl] at hp;cases hp
 | some e=>
 rw [hsl] at hp;simp only at hp;cases hei:cx.T e with
 | none=>rw [hei] at hp;cases hp
 | some ei=>
 rw [hei] at hp;simp only at hp;have hrel:=b85 h.tmps parts.toList;generalize hpl:(parts.toList.map fun (i,x)=>(i,t0 S.t x))=pl at hp hrel;generalize hql:(parts.toList.map fun (i,x)=>(i,a.eval x))=ql at hrel;cases hrel with
 | nil=>
  simp only at hp;split at hp<;>try (cases hp;done)
  rename_i hcond;obtain ⟨rfl,hc2,hc3,hc4⟩:=hcond;have:=j6.pure_some hp;injection this with h3 h4;subst h3;obtain ⟨ti',d,z,htf⟩:=cx.tf hti;obtain ⟨ti2,d',z',hef⟩:=cx.tf hei;obtain rfl:=htf.isSl hsl;have hmd:(madeCells z'.cells (0*ei.size)) = #[]:=by simp [madeCells]
  have hrun:(execOp a.eval ob).run cx.P w=.ok (.value (.slice (some ⟨w.heap.size,0,none⟩) 0 0)) (w.alloc (.cells #[] e)):=by
   have:=b83 (w:=w) (len:=0) htf rfl hef (by omega) (qs:=parts.map fun (i,x)=>(i,a.eval x)) (es := #[]) (by rw [Array.toList_map,hql,hmd];rfl);simp [execOp,ho,this]
  have hgr:=a4x w (.cells #[] e);have hown:(w.alloc (.cells #[] e)).ownsRow 0 e ei.size (.slice (some ⟨w.heap.size,0,none⟩) 0 0) 0 []:=
   ⟨by simp,.inr ⟨w.heap.size,0,#[],rfl,f07 _,a7R w _,f0q _,by simp,by simp,by simp⟩⟩
  obtain ⟨r1,r2⟩:=h.layDeep hg hn hgr (fun k q=>by cases q) (rows:=[]) (sv:=.slice (some ⟨w.heap.size,0,none⟩) 0 0) hown (show BL w F [].flatten [] [] from .nil) rfl (by simp) (by intro k hk;simp [B5] at hk;exact .inr (by omega)) (by simp) .nil;exact ⟨_,_,_,F,K9 ι grp (.slice (some ⟨w.heap.size,0,none⟩) 0 0),hrun,.inl rfl,r1.put ob.dst (.cell r2)⟩
 | @cons p q pl ql hpq ht=>
 obtain ⟨i,x⟩:=p;obtain ⟨i',u⟩:=q;obtain ⟨hii,hxu⟩:=hpq;simp only at hii hxu;subst hii;cases ht with
 | cons _ _=>cases i<;>cases hp
 | nil=>
 cases i with
 | succ i=>cases hp
 | zero=>
 simp only at hp;cases hcs:x.cells with
 | none=>rw [hcs] at hp;cases hp
 | some cs=>
 rw [hcs] at hp;obtain ⟨f,l1,l2,hf,hp',_⟩:=j6.bind_some hp;clear hp;split at hp'<;>try (cases hp';done)
 rename_i hcond;obtain ⟨rfl,hc1,hc2,hc3,hc4,hc5,hc6⟩:=hcond;have:=j6.pure_some hp';injection this with h3 h4;subst h3;obtain ⟨ti',d,z,htf⟩:=cx.tf hti;obtain ⟨ti2,d',z',hef⟩:=cx.tf hei;obtain rfl:=htf.isSl hsl;have hrc:=hxu.cells hcs;obtain ⟨fp,hbl,hfps,hh⟩:=b1h (F1:=F) h (fun _ x=>x) hrc hf hob (by rw [List.isEmpty_iff.1 hc6];intro id hid;cases hid);have hul:u.cells.size=ei.size:=by rw [<-hc1,hrc.length];simp
 have hzs:z'.cells.size=ei.size:=by rw [<-hc2,<-hef.zeros];simp
 have hmd:(madeCells z'.cells (1*ei.size)).size=ei.size:=by simp [madeCells]
 obtain ⟨es,hfill,hes⟩:=d7D (u:=u) (ds:=madeCells z'.cells (1*ei.size)) hul hmd;have hel:es.size=1*ei.size:=by
  have:=congrArg List.length hes;simp only [Array.length_toList] at this;omega
 have hrun:(execOp a.eval ob).run cx.P w=.ok (.value (.slice (some ⟨w.heap.size,0,none⟩) 1 1)) (w.alloc (.cells es e)):=by
  have:=b83 (w:=w) (len:=1) htf rfl hef (by omega) (qs:=parts.map fun (i,x)=>(i,a.eval x)) (es:=es) (by rw [Array.toList_map,hql];exact hfill);simp [execOp,ho,this]
 have hgr:=a4x w (.cells es e);have hown:(w.alloc (.cells es e)).ownsRow 0 e ei.size (.slice (some ⟨w.heap.size,0,none⟩) 1 1) 1 u.cells.toList:=by
  refine ⟨by simp only [Array.length_toList];omega,.inr ⟨w.heap.size,1,es,rfl,f07 _,a7R w _,f0q _,by unfold maxLen;omega,hel,?_⟩⟩;rw [hes,f0k (by simp only [Array.length_toList];omega)]
 have hkl:=h.killsR (fun id hid=>(hfps.live id hid).imp fun _ x=>x.1);have hnd:=K2.nodup h hfps (a3O hc5);have hgk:grp<(S.upds (E9 f.ks)).h.length:=by rw [St.upds_len];exact hg
 have hnk:¬(S.upds (E9 f.ks)).D grp:=fun q=>hn ((a0d S grp _).1 q)
 obtain ⟨r1,r2⟩:=hkl.layDeep hgk hnk hgr (fun k q=>by cases q) (rows:=[f.v]) (sv:=.slice (some ⟨w.heap.size,0,none⟩) 1 1) hown (by simpa using hbl) rfl (by
   intro r hr;rw [e9Z.1 hr,hbl.len];simp only [Array.length_toList];exact hul) (by intro k hk;simp [B5] at hk;exact .inr (by omega)) (by
   intro k hk;obtain ⟨id,hid,e1,he1,hl1,hk1⟩:=hfps.mem hk;obtain ⟨x1,x2⟩:=h.sep _ _ _ k he1 hl1 hk1;refine ⟨x1,x2,?_,by simp⟩;intro g' j' e' he' hl' hk';rcases a8P _ he' with ⟨_,rfl⟩|⟨hni,he2⟩
   ·cases hl'
   ·obtain ⟨y1,y2⟩:=h.inj _ _ _ _ _ _ k he2 he1 hl' hl1 hk' hk1;exact hni (by rw [y1,y2];exact hid)) hnd
 exact ⟨_,_,_,F,K9 ι grp (.slice (some ⟨w.heap.size,0,none⟩) 1 1),hrun,.inl rfl,r1.put ob.dst (.cell r2)⟩
def b2g(cx:Cx)(grp ty:Nat)(s x:V):j6 B6:=
 match cx.T ty with
 | some ti=>match ti.sl with
  | some e=>match cx.T e with
   | some ei=>match x with
    | .own g2 j2 sz2 0 m=>j6.bind (j6.rd g2 j2) fun e2=>match e2 with
     | .deep false t2 sz2' m' rows2=>
      if t2=e/\sz2=ei.size/\sz2'=ei.size/\0<ei.size/\0<ei.bytes/\ei.zero.length=ei.size/\0<m' then
       match s with
       | .nil=>j6.pure {v:=.own grp 0 ei.size 0 m',new:=some [.deep false e ei.size m' rows2],upd:=E9 [(g2,j2)],obl:=[m=m',m'*ei.bytes<=140737488355328]}
       | .own g j sz 0 n=>j6.bind (j6.rd g j) fun e1=>match e1 with
        | .deep false t sz' n' rows=>
         if t=e/\sz=ei.size/\sz'=ei.size/\a2c [(g,j),(g2,j2)]=true then
          j6.pure {v:=.own grp 0 ei.size 0 (n'+m'),new:=some [.deep false e ei.size (n'+m') (rows++rows2)],upd:=E9 [(g,j),(g2,j2)],obl:=[n=n',(n'+m')*ei.bytes<=140737488355328,m=m']}
         else j6.no
        | _=>j6.no
       | _=>j6.no
      else j6.no
     | _=>j6.no
    | _=>j6.no
   | none=>j6.no
  | none=>j6.no
 | none=>j6.no
theorem c3t{g j sz n e sz':Nat}{c:Value}{flat:List Value}(hs:RV w F S.D ι (.own g j sz 0 n) c)(hown:w.ownsRow 0 e sz' (ι g j) n flat):c=ι g j:=by
 obtain ⟨hD,⟨b,nn,cap,hι,hlo,hb0,hb1,hc⟩|⟨hl0',_⟩⟩:=hs.inv_own;case inr=>omega
 rcases hown.2 with ⟨hv,hz⟩|⟨g0,cap0,cur,hv,_⟩
 ·rw [hι] at hv;injection hv with e1 e2 e3;subst e1;subst e2;subst e3;subst hz;rw [hc,hι];simp
 ·rw [hι] at hv;injection hv with e1 e2 e3;subst e1;subst e2;subst e3;rw [hc,hι];by_cases q:cap=0
  ·simp [q]
  ·simp [q,Addr.add]
theorem d3c{P:Program}{ty e:Nat}{ti ei:TI}{i i':TypeInfo}{d d':TypeDesc}{z z':Value}(htf:TF P ty ti i d z)(hd:d=.slice e)(hef:TF P e ei i' d' z')(h0:0<ei.size)(hb0:0<ei.bytes)(hzl:ei.zero.length=ei.size){sv sv2:Value}{n m:Nat}{flat flat2:List Value}(hown:w.ownsRow 0 e ei.size sv n flat)(hown2:w.ownsRow 0 e ei.size sv2 m flat2)(hm:0<m)(hone:∀u∈flat2,u.oneCell'=true)(hb:(n+m)*ei.bytes<=140737488355328)(rt:Nat) :
  ∃v' w',(Builtin.append_ #[ty,ty] rt #[sv,sv2]).run P w=.ok v' w'/\w'.ownsRow 0 e ei.size v' (n+m) (flat++flat2)/\w.grownBy w' sv.ownBlock/\(v'.ownBlock=sv.ownBlock\/v'.ownBlock=some w.heap.size):=by
 subst hd;have hzs:z'.cells.size=ei.size:=by rw [<-hzl,<-hef.zeros];simp
 have hm63:n+m<=maxLen:=by
  have:n+m<=140737488355328:=f0c (f0Z _ hb0) hb;unfold maxLen;omega
 rcases hown2.2 with ⟨_,q⟩|⟨g2,cap2,cur2,rfl,_,hg2,hnc2,_,hcs2,ht2⟩
 ·omega
 ·have hseg:M8 w g2 0 flat2:=by
   rw [<-ht2];have:=(a5v hg2 0).take (m*ei.size);simpa using this
  obtain ⟨v',w',h1,h2,h3,_,h5⟩:=run_append_own_at (P:=P) w 0 ty rt e i' z' ei.size ei.bytes htf.und hef.info hef.zero hef.size hef.bytes hzs h0 sv n flat hown ⟨g2,0,none⟩ m cap2 flat2 hown2.1 (by
   intro j u hu;rw [a16];exact hseg j u hu) hone hm63 hb (f07 _)
  exact ⟨v',w',h1,h2,h3,h5⟩
theorem BL.ones:∀{vs:List V} {cs:List Value} {f:List Nat},BL w F vs cs f->∀u∈cs,u.oneCell'=true
 | _,_,_,.cons v c f vs cs fs h t,u,hu=>by
  rcases e9V.1 hu with rfl|hu
  ·exact h.one
  ·exact BL.ones t u hu
theorem BL.app:∀{vs vs':List V} {cs cs':List Value} {f f':List Nat},BL w F vs cs f->BL w F vs' cs' f'->BL w F (vs++vs') (cs++cs') (f++f')
 | _,_,_,_,_,_,.nil,k=>k
 | _,_,_,_,_,_,.cons v c f vs cs fs h t,k=>by
  rw [e92];exact .cons v c f _ _ _ h (BL.app t k)
theorem d7i(h:t7 Γ F ι S a w){grp:Nat}(hg:grp<S.h.length)(hn:¬S.D grp){ob:Oper}{ty:Nat}{s x:Operand}(ho:ob.op=.call {callee:=.builtin .append,args := #[s,x],argTypes := #[ty,ty]}){out:B6}{lg:List (Nat×Nat)}(hp:b2g cx grp ty (t0 S.t s) (t0 S.t x) S.ent=some (out,lg))(hob:∀p∈out.obl,p):S5 cx.P Γ ι S grp ob out a w:=by
 have hs:=D5 h.tmps s;have hx:=D5 h.tmps x;unfold b2g at hp;cases hti:cx.T ty with
 | none=>rw [hti] at hp;cases hp
 | some ti=>
 rw [hti] at hp;simp only at hp;cases hsl:ti.sl with
 | none=>rw [hsl] at hp;cases hp
 | some e=>
 rw [hsl] at hp;simp only at hp;cases hei:cx.T e with
 | none=>rw [hei] at hp;cases hp
 | some ei=>
 rw [hei] at hp;simp only at hp;obtain ⟨i,d,z,htf⟩:=cx.tf hti;obtain ⟨i',d',z',hef⟩:=cx.tf hei;have hd:=htf.isSl hsl;generalize t0 S.t s=sv at hp hs;generalize t0 S.t x=xv at hp hx;cases xv<;>try (cases hp;done)
 rename_i g2 j2 sz2 lo2 m;cases lo2 with
 | succ q=>cases hp
 | zero=>
 simp only at hp;obtain ⟨e2,l1,l2,hrd2,hp',_⟩:=j6.bind_some hp;clear hp;have he2:=(j6.rd_some hrd2).1;simp only at he2;cases e2<;>try (cases hp';done)
 rename_i o2 t2 sz2' m' rows2;cases o2 with
 | true=>cases hp'
 | false=>
 simp only at hp';split at hp'<;>try (cases hp';done)
 rename_i hcond;obtain ⟨rfl,rfl,rfl,hc3,hc4,hc5,hc6⟩:=hcond;obtain ⟨flat2,fs2,hown2,hkl2,hlen2,hl2,hnd2,hnr2⟩:=h.ents g2 j2 _ he2;have hbl2:=hkl2.toBL (hnr2 rfl).flatB;have hin2:∀k∈D4 (ι g2 j2)++fs2,EB w (.deep false t2 ei.size m' rows2) (ι g2 j2) k:=fun k hk=>(EB.deep_iff hown2 hkl2).2 hk
 cases sv<;>try (cases hp';done)
 case nil=>
  have:=j6.pure_some hp';injection this with h3 h4;subst h3;obtain hcs:=hs.inv_nil;have hmm:m=m':=hob _ (by simp);subst hmm;have hb:m*ei.bytes<=140737488355328:=hob _ (by simp);obtain ⟨v',w',hr,hown,hgr,hat⟩:=d3c htf hd hef hc3 hc4 hc5 (World.ownsRow_nil w 0 t2 ei.size) hown2 hc6 hbl2.ones (by simpa using hb) ob.type;have hxc:=c3t hx hown2;have hrun:(execOp a.eval ob).run cx.P w=.ok (.value v') w':=by
   simp [execOp,ho,resolve,invoke,builtin,hcs,hxc,hr]
  have hkl:=h.killsR (ks:=[(g2,j2)]) (fun id hid=>by rw [e9Z.1 hid];exact ⟨_,he2⟩);have hgk:grp<(S.upds (E9 [(g2,j2)])).h.length:=by rw [St.upds_len];exact hg
  have hnk:¬(S.upds (E9 [(g2,j2)])).D grp:=fun q=>hn ((a0d S grp _).1 q)
  simp only [f0y,f0H] at hown;obtain ⟨r1,r2⟩:=hkl.layDeep hgk hnk hgr (fun k q=>by cases q) hown hbl2 hlen2 hl2 (by
   intro k hk;rw [<-a9u hown] at hk;rcases hat with q|q
   ·rw [q] at hk;cases hk
   ·rw [q] at hk;injection hk with hk;exact .inr (by omega)) (by
   intro k hk;have hk1:=hin2 k (e9P.2 (.inr hk));obtain ⟨x1,x2⟩:=h.sep _ _ _ k he2 rfl hk1;refine ⟨x1,x2,?_,by intro q;cases q⟩;intro g' j' e' he' hl' hk';rcases a8P _ he' with ⟨_,rfl⟩|⟨hni,he3⟩
   ·cases hl'
   ·obtain ⟨y1,y2⟩:=h.inj _ _ _ _ _ _ k he3 he2 hl' rfl hk' hk1;exact hni (by rw [y1,y2];simp)) (e9X.1 hnd2).2.1
  exact ⟨_,_,_,F,K9 ι grp v',hrun,.inl rfl,r1.put ob.dst (.cell r2)⟩
 case own g j sz lo n=>
  cases lo with
  | succ q=>cases hp'
  | zero=>
  simp only at hp';obtain ⟨e1,l3,l4,hrd1,hp'',_⟩:=j6.bind_some hp';clear hp';have he1:=(j6.rd_some hrd1).1;simp only at he1;cases e1<;>try (cases hp'';done)
  rename_i o1 t1 sz1 n' rows;cases o1 with
  | true=>cases hp''
  | false=>
  simp only at hp'';split at hp''<;>try (cases hp'';done)
  rename_i hcond;obtain ⟨rfl,rfl,rfl,hnod⟩:=hcond;have:=j6.pure_some hp'';injection this with h3 h4;subst h3;have hnn:n=n':=hob _ (by simp);subst hnn;have hb:(n+m')*ei.bytes<=140737488355328:=hob _ (by simp);have hmm:m=m':=hob _ (by simp);subst hmm;obtain ⟨flat1,fs1,hown1,hkl1,hlen1,hl1,hnd1,hnr1⟩:=h.ents g j _ he1;have hbl1:=hkl1.toBL (hnr1 rfl).flatB;have hin1:∀k∈D4 (ι g j)++fs1,EB w (.deep false t1 ei.size n rows) (ι g j) k:=fun k hk=>(EB.deep_iff hown1 hkl1).2 hk
  have hne:¬(g=g2/\j=j2):=by
   have:=a3O hnod;rw [f0Q] at this;intro q;exact this.1 (by rw [q.1,q.2];simp)
  obtain ⟨v',w',hr,hown,hgr,hat⟩:=d3c htf hd hef hc3 hc4 hc5 hown1 hown2 hc6 hbl2.ones hb ob.type;have hxc:=c3t hx hown2;have hsc:=c3t hs hown1;have hrun:(execOp a.eval ob).run cx.P w=.ok (.value v') w':=by
   simp [execOp,ho,resolve,invoke,builtin,hsc,hxc,hr]
  have hkl:=h.killsR (ks:=[(g,j),(g2,j2)]) (fun id hid=>by
   rcases e9V.1 hid with rfl|hid
   ·exact ⟨_,he1⟩
   ·rw [e9Z.1 hid];exact ⟨_,he2⟩)
  have hgk:grp<(S.upds (E9 [(g,j),(g2,j2)])).h.length:=by rw [St.upds_len];exact hg
  have hnk:¬(S.upds (E9 [(g,j),(g2,j2)])).D grp:=fun q=>hn ((a0d S grp _).1 q)
  have hob1:∀k,(ι g j).ownBlock=some k->k∈D4 (ι g j):=fun k hk=>P6.2 (by rw [<-a9u hown1];exact hk)
  have free1:∀k∈D4 (ι g j)++fs1,∀g' j' e',(S.upds (E9 [(g,j),(g2,j2)])).ent g' j'=some e'->e'.live=true->¬EB w e' (ι g' j') k:=by
   intro k hk g' j' e' he' hl' hk';rcases a8P _ he' with ⟨_,rfl⟩|⟨hni,he3⟩
   ·cases hl'
   ·obtain ⟨y1,y2⟩:=h.inj _ _ _ _ _ _ k he3 he1 hl' rfl hk' (hin1 k hk);exact hni (by rw [y1,y2];simp)
  have free2:∀k∈D4 (ι g2 j2)++fs2,∀g' j' e',(S.upds (E9 [(g,j),(g2,j2)])).ent g' j'=some e'->e'.live=true->¬EB w e' (ι g' j') k:=by
   intro k hk g' j' e' he' hl' hk';rcases a8P _ he' with ⟨_,rfl⟩|⟨hni,he3⟩
   ·cases hl'
   ·obtain ⟨y1,y2⟩:=h.inj _ _ _ _ _ _ k he3 he2 hl' rfl hk' (hin2 k hk);exact hni (by rw [y1,y2];simp)
  have hdis:∀k,k∈D4 (ι g j)++fs1->k∈D4 (ι g2 j2)++fs2->False:=by
   intro k q1 q2;obtain ⟨y1,y2⟩:=h.inj _ _ _ _ _ _ k he1 he2 rfl rfl (hin1 k q1) (hin2 k q2);exact hne ⟨y1,y2⟩
  obtain ⟨r1,r2⟩:=hkl.layDeep hgk hnk hgr (fun k q=>by
   have hk:k∈D4 (ι g j)++fs1:=e9P.2 (.inl (hob1 k q));obtain ⟨x1,x2⟩:=h.sep _ _ _ k he1 rfl (hin1 k hk);exact ⟨x1,x2,free1 k hk⟩) (rows:=rows++rows2) hown (by rw [f1v];exact hbl1.app hbl2) (by rw [e91,hlen1,hlen2]) (by
   intro r hr';rcases e9P.1 hr' with q|q
   ·exact hl1 r q
   ·exact hl2 r q) (by
   intro k hk;rw [<-a9u hown] at hk;rcases hat with q|q
   ·rw [q] at hk;exact .inl hk
   ·rw [q] at hk;injection hk with hk;exact .inr (by omega)) (by
   intro k hk;rcases e9P.1 hk with q|q
   ·have hk1:k∈D4 (ι g j)++fs1:=e9P.2 (.inr q);obtain ⟨x1,x2⟩:=h.sep _ _ _ k he1 rfl (hin1 k hk1);exact ⟨x1,x2,free1 k hk1,fun z=>(e9X.1 hnd1).2.2 k (hob1 k z) k q rfl⟩
   ·have hk2:k∈D4 (ι g2 j2)++fs2:=e9P.2 (.inr q);obtain ⟨x1,x2⟩:=h.sep _ _ _ k he2 rfl (hin2 k hk2);exact ⟨x1,x2,free2 k hk2,fun z=>hdis k (e9P.2 (.inl (hob1 k z))) hk2⟩) (by
   rw [e9X];exact ⟨(e9X.1 hnd1).2.1,(e9X.1 hnd2).2.1,fun k q k' q' z=>by
    subst z;exact hdis k (e9P.2 (.inr q)) (e9P.2 (.inr q'))⟩)
  exact ⟨_,_,_,F,K9 ι grp v',hrun,.inl rfl,r1.put ob.dst (.cell r2)⟩
end
structure J1 where
 a:N2:=.none
 d:Option Bool:=none
 v:Option V:=none
 e:Option s4:=none
def c1s(d:Option Bool)(o:B6):Option B6:=
 match d with
 | some d=>match o.v with
  | .b x=>some {o with v:=.b d,obl:=(x=d)::o.obl}
  | _=>none
 | none=>some o
def b5R(v:Option V)(o:B6):Option B6:=
 match v with
 | some v=>some {o with v:=v,obl:=(o.v=v)::o.obl}
 | none=>some o
def b1W(e:s4):List ((Nat×Nat)×s4)->Option (List ((Nat×Nat)×s4)×Prop)
 | []=>none
 | [u]=>some ([(u.1,e)],u.2=e)
 | u::us=>match b1W e us with
  | some (us',p)=>some (u::us',p)
  | none=>none
def b6n(e:Option s4)(o:B6):Option B6:=
 match e with
 | some e=>match o.new with
  | some [e0]=>some {o with new:=some [e],obl:=(e0=e)::o.obl}
  | some _=>none
  | none=>match b1W e o.upd with
   | some (us,p)=>some {o with upd:=us,obl:=p::o.obl}
   | none=>none
 | none=>some o
def b87(T:J1)(o:B6):Option B6:=
 match b6n T.e o with
 | some o1=>match b5R T.v o1 with
  | some o2=>c1s T.d o2
  | none=>none
 | none=>none
def opM(cx:Cx)(grp:Nat)(ob:Oper)(t:List V)(A:N2):j6 B6:=
 match ob.op with
 | .alloc e=>j6.lift (c3q cx grp e)
 | .box e x=>j6.lift (b9Y cx grp e (t0 t x))
 | .buildSlice ty len parts=>match A with
  | .dck ck om=>b1z cx grp ty len (parts.toList.map fun (i,x)=>(i,t0 t x)) ck om
  | A=>b2c cx grp ty len (parts.toList.map fun (i,x)=>(i,t0 t x)) A
 | .makeSlice ty l c=>match A with
  | .dck ck om=>b3c cx grp ty (t0 t l) (t0 t c) ck om
  | A=>j6.lift (c04 cx grp ty (t0 t l) (t0 t c) (e4d A))
 | .load ty x=>match A with
  | .drow r=>b1E cx grp ty (t0 t x) r
  | .prow r=>b09 cx ty (t0 t x) r
  | .dtak r=>b0W cx grp ty (t0 t x) r
  | A=>b3I cx ty (t0 t x) A
 | .store ty x y=>match ob.dst with
  | none=>match A with
   | .dst r ck om=>a8C cx ty (t0 t x) (t0 t y) r ck om
   | .dsc r ck om=>b2t cx ty (t0 t x) (t0 t y) r ck om
   | A=>b29 cx ty (t0 t x) (t0 t y) A
  | some _=>j6.no
 | .makeMap ty none=>j6.lift (b9h cx grp ty)
 | .lookup ty x ix false=>b16 cx ty (t0 t x) (t0 t ix)
 | .mapUpdate ty x ix y=>match ob.dst with
  | none=>b0x cx ty (t0 t x) (t0 t ix) (t0 t y)
  | some _=>j6.no
 | .call c=>match c.callee,c.args.toList,c.argTypes.toList with
  | .builtin .append,[s,x],[ty,ty']=>if ty=ty' then (match A with
   | .dck _ _=>b2g cx grp ty (t0 t s) (t0 t x)
   | .part=>a86 true cx grp ty (t0 t s) (t0 t x)
   | _=>a86 false cx grp ty (t0 t s) (t0 t x)) else j6.no
  | .builtin .copy,[s,x],[ty,_]=>b27 cx ty (t0 t s) (t0 t x)
  | .value fop,args,_=>match t0 t fop with
   | .fn f=>b3s cx.P grp f (args.map (t0 t)) A
   | _=>j6.no
  | _,_,_=>j6.lift ((Q8 cx ob.op t A).map fun q=>{v:=q.1,obl:=q.2})
 | _=>j6.lift ((Q8 cx ob.op t A).map fun q=>{v:=q.1,obl:=q.2})
section
variable {cx:Cx} {Γ:N0} {F:Nat->Prop} {ι:Nat->Nat->Value} {S:St} {a:Act} {w:World}
def c3N(P:Program)(Γ:N0)(S':St)(ob:Oper)(a:Act)(w:World):Prop:=
 (∃nx c w' F' ι',(execOp a.eval ob).run P w=.ok nx w'/\(nx=.value c\/(nx=.skip/\c=undef))/\t7 Γ F' ι' S' (a.put ob.dst c) w')\/
 (∃f args,(execOp a.eval ob).run P w=.ok (.enter f args) w/\Calls P f args w fun e w' => ∃c F' ι',e=.returned c/\t7 Γ F' ι' S' (a.put ob.dst c) w')
theorem d86(h:t7 Γ F ι S a w){grp:Nat}(hg:grp<S.h.length)(hn:¬S.D grp){ob:Oper}{A:N2}{out:B6}{lg:List (Nat×Nat)}(hp:opM cx grp ob S.t A S.ent=some (out,lg))(hob:∀p∈out.obl,p):c3N cx.P Γ (S.apply grp ob.dst out) ob a w:=by
 have pure:∀{op:Op} {out:B6} {lg},ob.op=op->j6.lift ((Q8 cx op S.t A).map fun q=>({v:=q.1,obl:=q.2}:B6)) S.ent=some (out,lg)->(∀p∈out.obl,p)->c3N cx.P Γ (S.apply grp ob.dst out) ob a w:=by
  intro op out lg hop hp hob;subst hop;obtain ⟨h1,_⟩:=j6.lift_some hp;obtain ⟨q,hq,he⟩:=f00.1 h1;simp only at he;subst he;obtain ⟨c,hr,hv⟩:=d4S h.tmps hq hob;exact .inl ⟨_,c,w,F,ι,hr,.inl rfl,by rw [a53];exact h.put ob.dst hv⟩
 unfold opM at hp;cases ho:ob.op;case alloc e=>
  rw [ho] at hp;exact .inl (e2k h hg hn ho (j6.lift_some hp).1 hob)
 case box e x=>
  rw [ho] at hp;exact .inl (d8Y h hg hn ho (j6.lift_some hp).1)
 case buildSlice ty len parts=>
  rw [ho] at hp;cases A;case dck ck om=>exact .inl (e5y h hg hn ho hp hob)
  all_goals exact .inl (d4f h hg hn ho hp hob)
 case makeSlice ty l c=>
  rw [ho] at hp;cases A;case dck ck om=>exact .inl (e5x h hg hn ho hp hob)
  all_goals exact .inl (e63 h hg hn ho (j6.lift_some hp).1 hob)
 case load ty x=>
  rw [ho] at hp;cases A;case drow r=>exact .inl (d9C h hg hn ho hp hob)
  case prow r=>exact .inl (d57 h ho hp hob)
  case dtak r=>exact .inl (e8U h hg hn ho hp hob)
  all_goals exact .inl (e4M h ho hp hob)
 case store ty x y=>
  rw [ho] at hp;cases hd:ob.dst with
  | some d=>rw [hd] at hp;cases hp
  | none=>
   rw [hd] at hp;have:S5 cx.P Γ ι S grp ob out a w:=by
    cases A;case dst r ck om=>exact c8X h (grp:=grp) ho hd hp hob
    case dsc r ck om=>exact d7q h (grp:=grp) ho hd hp hob
    all_goals exact e3E h (grp:=grp) ho hd hp hob
   rw [<-hd];exact .inl this
 case makeMap ty r=>
  rw [ho] at hp;cases r with
  | none=>exact .inl (d5r h hg hn ho (j6.lift_some hp).1)
  | some r=>exact pure ho hp hob
 case lookup ty x ix ok=>
  rw [ho] at hp;cases ok with
  | false=>exact .inl (e45 h ho hp)
  | true=>exact pure ho hp hob
 case mapUpdate ty x ix y=>
  rw [ho] at hp;cases hd:ob.dst with
  | some d=>rw [hd] at hp;cases hp
  | none=>
   rw [hd] at hp;have:S5 cx.P Γ ι S grp ob out a w:=e28 h (grp:=grp) ho hd hp;rw [<-hd];exact .inl this
 case call c=>
  rw [ho] at hp;obtain ⟨callee,args,tys⟩:=c;simp only at hp;cases callee with
  | invoke x m=>exact pure ho hp hob
  | value fop=>
   simp only at hp;generalize hfe:t0 S.t fop=fv at hp;cases fv<;>try (cases hp;done)
   rename_i f;obtain ⟨h1,h2⟩:=d4j h hg hn ho hfe hp hob;exact .inr ⟨f,_,h1,h2⟩
  | builtin b=>
   cases b;case append=>
    generalize hargs:args.toList=al at hp;generalize htys:tys.toList=tl at hp;rcases al with _|⟨s,_|⟨x,_|⟨y,al⟩⟩⟩<;>rcases tl with _|⟨ty,_|⟨ty',_|⟨ty3,tl⟩⟩⟩<;>try exact pure ho hp hob
    have ha:args = #[s,x]:=by simpa using congrArg f1l hargs
    have hy:tys = #[ty,ty']:=by simpa using congrArg f1l htys
    subst ha;subst hy;simp only at hp;by_cases q:ty=ty'
    ·subst q;rw [if_pos rfl] at hp;cases A;case dck ck om=>exact .inl (d7i h hg hn ho hp hob)
     all_goals exact .inl (e69 (rt:=0) h hg hn ho hp hob)
    ·rw [if_neg q] at hp;cases hp
   case copy=>
    generalize hargs:args.toList=al at hp;generalize htys:tys.toList=tl at hp;rcases al with _|⟨s,_|⟨x,_|⟨y,al⟩⟩⟩<;>rcases tl with _|⟨ty,_|⟨ty',_|⟨ty3,tl⟩⟩⟩<;>try exact pure ho hp hob
    have ha:args = #[s,x]:=by simpa using congrArg f1l hargs
    have hy:tys = #[ty,ty']:=by simpa using congrArg f1l htys
    subst ha;subst hy;exact .inl (e5A h ho hp hob)
   all_goals exact pure ho hp hob
 all_goals
  rw [ho] at hp;exact pure ho hp hob
theorem c4V{e:s4}:∀{us us':List ((Nat×Nat)×s4)} {p:Prop},b1W e us=some (us',p)->p->us'=us
 | [],_,_,h,_=>by cases h
 | [u],us',p,h,hp=>by
  unfold b1W at h;injection h with h;injection h with h1 h2;subst h1;subst h2;have:u.2=e:=hp;subst this;rfl
 | u::u2::us,us',p,h,hp=>by
  unfold b1W at h;split at h<;>try (cases h;done)
  rename_i us1 p1 h1;injection h with h;injection h with h2 h3;subst h2;subst h3;rw [c4V h1 hp]
theorem d7A{d:Option Bool}{o o':B6}(hd:c1s d o=some o')(hob:∀p∈o'.obl,p):(∀p∈o.obl,p)/\o'.new=o.new/\o'.upd=o.upd/\o'.v=o.v:=by
 unfold c1s at hd;split at hd
 ·split at hd<;>try (cases hd;done)
  rename_i d _ x hv;injection hd with hd;subst hd;have hx:x=d:=hob _ (by simp);exact ⟨fun p hp=>hob p (by simp [hp]),rfl,rfl,by simp [hv,hx]⟩
 ·injection hd with hd;subst hd;exact ⟨hob,rfl,rfl,rfl⟩
theorem d9E{v:Option V}{o o':B6}(hd:b5R v o=some o')(hob:∀p∈o'.obl,p):(∀p∈o.obl,p)/\o'.new=o.new/\o'.upd=o.upd/\o'.v=o.v:=by
 unfold b5R at hd;split at hd
 ·rename_i v;injection hd with hd;subst hd;have hx:o.v=v:=hob _ (by simp);exact ⟨fun p hp=>hob p (by simp [hp]),rfl,rfl,hx.symm⟩
 ·injection hd with hd;subst hd;exact ⟨hob,rfl,rfl,rfl⟩
theorem d6z{e:Option s4}{o o':B6}(hd:b6n e o=some o')(hob:∀p∈o'.obl,p):(∀p∈o.obl,p)/\o'.new=o.new/\o'.upd=o.upd/\o'.v=o.v:=by
 unfold b6n at hd;split at hd
 ·rename_i e;split at hd
  ·rename_i e0 hn;injection hd with hd;subst hd;have hx:e0=e:=hob _ (by simp);exact ⟨fun p hp=>hob p (by simp [hp]),by rw [hn,hx],rfl,rfl⟩
  ·cases hd
  ·split at hd<;>try (cases hd;done)
   rename_i us p h1;injection hd with hd;subst hd;have hx:p:=hob _ (by simp);exact ⟨fun p hp=>hob p (by simp [hp]),rfl,c4V h1 hx,rfl⟩
 ·injection hd with hd;subst hd;exact ⟨hob,rfl,rfl,rfl⟩
theorem e5j{T:J1}{o o':B6}(hd:b87 T o=some o')(hob:∀p∈o'.obl,p):(∀p∈o.obl,p)/\o'.new=o.new/\o'.upd=o.upd/\o'.v=o.v:=by
 unfold b87 at hd;cases h1:b6n T.e o with
 | none=>rw [h1] at hd;cases hd
 | some o1=>
 rw [h1] at hd;simp only at hd;cases h2:b5R T.v o1 with
 | none=>rw [h2] at hd;cases hd
 | some o2=>
 rw [h2] at hd;obtain ⟨a1,a2,a3,a4⟩:=d7A hd hob;obtain ⟨b1,b2,b3,b4⟩:=d9E h2 a1;obtain ⟨c1,c2,c3,c4⟩:=d6z h1 b1;exact ⟨c1,a2.trans (b2.trans c2),a3.trans (b3.trans c3),a4.trans (b4.trans c4)⟩
def a9C(cx:Cx)(grp:Nat)(ob:Oper)(t:List V)(A:J1):j6 B6:=j6.bind (opM cx grp ob t A.a) fun o=>j6.lift (b87 A o)
theorem d8U{S:St}{grp:Nat}{dst:Option Nat}{o o':B6}(h1:o'.new=o.new)(h2:o'.upd=o.upd)(h3:o'.v=o.v):S.apply grp dst o'=S.apply grp dst o:=by
 unfold St.apply;rw [h1,h2,h3]
theorem e02(h:t7 Γ F ι S a w){grp:Nat}(hg:grp<S.h.length)(hn:¬S.D grp){ob:Oper}{A:J1}{out:B6}{lg:List (Nat×Nat)}(hp:a9C cx grp ob S.t A S.ent=some (out,lg))(hob:∀p∈out.obl,p):c3N cx.P Γ (S.apply grp ob.dst out) ob a w:=by
 obtain ⟨o,l1,l2,h1,h2,_⟩:=j6.bind_some hp;obtain ⟨h3,_⟩:=j6.lift_some h2;simp only at h3;obtain ⟨h4,h5,h6,h7⟩:=e5j h3 hob;rw [d8U h5 h6 h7];exact d86 h hg hn h1 h4
def a42(ops:Array Oper)(o:Oper)(t:List V):Option Bool:=
 match o.guard with
 | none=>some true
 | some (j,want)=>match (ops[j]?).bind (·.dst) with
  | some d=>match t[d]? with
   | some (.b x)=>some (x==want)
   | some (.tup [])=>some false
   | _=>none
  | none=>none
theorem d3N{ops:Array Oper}{o:Oper}{b:Bool}{D:Nat->Prop}{t:List V}(ht:v6 (RV w F D ι) t a.tmps.toList)(h:a42 ops o t=some b):Region.wanted o (yielded ops a.tmps)=b:=by
 unfold a42 at h;unfold Region.wanted;split at h
 ·rename_i hg;rw [hg];injection h
 ·rename_i j want hg;rw [hg];simp only;cases hd:(ops[j]?).bind (·.dst) with
  | none=>rw [hd] at h;cases h
  | some d=>
   rw [hd] at h;simp only at h;split at h<;>try (cases h;done)
   rename_i x hx;injection h with h;obtain ⟨c,hc,hv⟩:=ht.get hx;obtain rfl:=hv.inv_b;have:yielded ops a.tmps j=some x:=by
    unfold yielded;simp only [hd];rw [Array.getElem?_toList] at hc;simp [hc]
   rw [this,<-h];cases x<;>cases want<;>rfl
   ·rename_i hx;injection h with h;obtain ⟨c,hc,hv⟩:=ht.get hx;have hcc:c=undef:=by
     cases hv with
     | one v c hv=>cases hv with|cell v c hv=>cases hv with|fv v c hv=>cases hv
     | tup cs ds hv=>cases hv;rfl
    subst hcc;have:yielded ops a.tmps j=none:=by
     unfold yielded;simp only [hd];rw [Array.getElem?_toList] at hc;simp [hc,undef]
    rw [this,<-h];rfl
end
structure Y4 where
 rd:List (Nat×Nat)
 wr:List (Nat×Nat)
def Y1(cx:Cx)(ops:Array Oper)(base:Nat)(A:Nat->J1)(i:Nat)(S:St):Option (St×List Prop×Y4):=
 match ops[i]? with
 | none=>none
 | some o=>match a42 ops o S.t with
  | some true=>match a9C cx (base+i) o S.t (A i) S.ent with
   | some (out,lg)=>some (S.apply (base+i) o.dst out,out.obl,⟨lg,out.upd.map (·.1)⟩)
   | none=>none
  | some false=>some ({S with t:=R2 S.t o.dst (.tup [])},[],⟨[],[]⟩)
  | none=>none
section
variable {cx:Cx} {Γ:N0} {F:Nat->Prop} {ι:Nat->Nat->Value} {S S':St} {a:Act} {w:World} {ops:Array Oper} {base:Nat} {A:Nat->J1}
theorem e4E{grp:Nat}{dst:Option Nat}{out:B6}{g:Nat}(h:(S.apply grp dst out).D g):S.D g\/g=grp:=by
 unfold St.apply at h;simp only at h;split at h
 ·exact .inl ((a0d S g _).1 h)
 ·rename_i new hnew;by_cases q:g=grp
  ·exact .inr q
  ·left
   obtain ⟨l,hl⟩:=h;simp only [St.lay,f0a (Ne.symm q)] at hl;exact (a0d S g _).1 ⟨l,hl⟩
theorem e2I{grp:Nat}{dst:Option Nat}{out:B6}:(S.apply grp dst out).h.length=S.h.length:=by
 unfold St.apply;simp only;split
 ·exact St.upds_len S _
 ·simp [St.lay,St.upds_len]
theorem c8x{i:Nat}{ps:List Prop}{ft:Y4}(h:Y1 cx ops base A i S=some (S',ps,ft)):(∀g,S'.D g->S.D g\/g=base+i)/\S'.h.length=S.h.length:=by
 unfold Y1 at h;split at h<;>try (cases h;done)
 split at h<;>try (cases h;done)
 ·split at h<;>try (cases h;done)
  injection h with h;injection h with h1 h2;subst h1;exact ⟨fun g x=>e4E x,e2I⟩
 ·injection h with h;injection h with h1 h2;subst h1;exact ⟨fun g x=>.inl x,rfl⟩
theorem d2x{Q:Exit->Act->World->Prop}{K:Act->World->Prop}{i:Nat}{ps:List Prop}{ft:Y4}(h:t7 Γ F ι S a w)(hg:base+i<S.h.length)(hn:¬S.D (base+i))(hs:Y1 cx ops base A i S=some (S',ps,ft))(hob:∀p∈ps,p)(hK:∀a' w' F' ι',t7 Γ F' ι' S' a' w'->K a' w'):wpOp cx.P ops Q i K a w:=by
 unfold Y1 at hs;unfold wpOp;split at hs<;>try (cases hs;done)
 rename_i o ho;rw [ho];simp only;split at hs<;>try (cases hs;done)
 ·rename_i hw;have hwant:=d3N h.tmps hw;rw [hwant];simp only [if_true];split at hs<;>try (cases hs;done)
  rename_i out lg hop;injection hs with hs;injection hs with h1 h2;injection h2 with h2 h3;subst h1;subst h2;left
  unfold Oper.wp;rcases e02 h hg hn hop hob with ⟨nx,c,w',F',ι',hr,hnx,hrel⟩|⟨f,args,hr,hcalls⟩
  ·rw [hr];rcases hnx with rfl|⟨rfl,rfl⟩
   ·exact hK _ _ _ _ hrel
   ·exact hK _ _ _ _ hrel
  ·rw [hr];refine hcalls.mono ?_;rintro e w' ⟨c,F',ι',rfl,hrel⟩
   exact hK _ _ _ _ hrel
 ·rename_i hw;have hwant:=d3N h.tmps hw;rw [hwant];simp only [f0O,if_false];injection hs with hs;injection hs with h1 h2;subst h1;exact hK _ _ _ _ (h.put o.dst (.tup [] [] .nil))
def a0L(cx:Cx)(ops:Array Oper)(base:Nat)(A:Nat->J1):List Nat->St->Option (St×List (List Prop×Y4))
 | [],S=>some (S,[])
 | i::l,S=>match Y1 cx ops base A i S with
  | some (S1,r)=>match a0L cx ops base A l S1 with
   | some (S2,rs)=>some (S2,r::rs)
   | none=>none
  | none=>none
theorem b2K{i:Nat}{l:List Nat}{rs:List (List Prop×Y4)}(h:a0L cx ops base A (i::l) S=some (S',rs)):∃S1 r rs',Y1 cx ops base A i S=some (S1,r)/\a0L cx ops base A l S1=some (S',rs')/\rs=r::rs':=by
 unfold a0L at h;split at h<;>try (cases h;done)
 rename_i S1 r h1;split at h<;>try (cases h;done)
 rename_i S2 rs' h2;injection h with h;injection h with h3 h4;subst h3;subst h4;exact ⟨S1,r,rs',h1,h2,rfl⟩
theorem d2A{Q:Exit->Act->World->Prop}:∀{l:List Nat} {S:St} {F:Nat->Prop} {ι:Nat->Nat->Value} {a:Act} {w:World} {rs:List (List Prop×Y4)},t7 Γ F ι S a w->l.Nodup->(∀i∈l,base+i<S.h.length/\¬S.D (base+i))->a0L cx ops base A l S=some (S',rs)->(∀r∈rs,∀p∈r.1,p)->
  (∀a' w' F' ι',t7 Γ F' ι' S' a' w'->Q .normal a' w')->wpOps cx.P ops Q l a w
 | [],S,F,ι,a,w,rs,h,_,_,hr,_,hQ=>by
  unfold a0L at hr;injection hr with hr;injection hr with h1 h2;subst h1;exact hQ _ _ _ _ h
 | i::l,S,F,ι,a,w,rs,h,hn,hfree,hr,hob,hQ=>by
  obtain ⟨S1,r,rs',h1,h2,rfl⟩:=b2K hr;rw [wpOps_cons];have hn':=f0Q.1 hn;obtain ⟨hD,hl⟩:=c8x (ps:=r.1) (ft:=r.2) h1;refine d2x h (hfree i (by simp)).1 (hfree i (by simp)).2 (ps:=r.1) (ft:=r.2) h1 (hob r (by simp)) fun a' w' F' ι' hrel => ?_
  refine d2A hrel hn'.2 (fun j hj => ?_) h2 (fun r' hr'=>hob r' (by simp [hr'])) hQ;refine ⟨by rw [hl];exact (hfree j (by simp [hj])).1,fun x => ?_⟩;rcases hD _ x with y|y
  ·exact (hfree j (by simp [hj])).2 y
  ·have:i=j:=by omega
   exact hn'.1 (this▸hj)
end
def z3{α:Type}(m:j6 α):Prop := ∀(H H':Hp) r lg,m H=some (r,lg)->(∀id∈lg,H' id.1 id.2=H id.1 id.2)->m H'=some (r,lg)
namespace z3
variable {α β:Type}
theorem pure(a:α):z3 (j6.pure a):=fun _ _ _ _ h _=>h
theorem no:z3 (j6.no:j6 α):=fun _ _ _ _ h _=>h
theorem lift(o:Option α):z3 (j6.lift o):=by
 intro H H' r lg h _;unfold j6.lift at h⊢;exact h
theorem rd(g j:Nat):z3 (j6.rd g j):=by
 intro H H' r lg h hH;obtain ⟨h1,h2⟩:=j6.rd_some h;simp only at h1 h2;subst h2;have:=hH (g,j) (by simp);unfold j6.rd;simp only at this;rw [this,h1]
theorem bind{m:j6 α}{f:α->j6 β}(hm:z3 m)(hf:∀a,z3 (f a)):z3 (j6.bind m f):=by
 intro H H' r lg h hH;obtain ⟨a,l,l',h1,h2,h3⟩:=j6.bind_some h;simp only at h2 h3;subst h3;unfold j6.bind;rw [hm H H' a l h1 (fun id hid=>hH id (e9P.2 (.inl hid)))];simp only;rw [hf a H H' r l' h2 (fun id hid=>hH id (e9P.2 (.inr hid)))]
theorem ite{c:Prop}[Decidable c]{m n:j6 α}(hm:z3 m)(hn:z3 n):z3 (if c then m else n):=by
 split<;>assumption
end z3
theorem d5W(ck:Option Nat)(v:V):z3 (fzP ck v):=by
 unfold fzP;cases v<;>try exact z3.no
 case own g j sz lo n=>
  refine .bind (.rd g j) fun e => ?_
  cases e<;>first|exact z3.no|exact .ite (.pure _) .no
 case nil=>cases ck<;>exact .pure _
 all_goals exact .pure _
theorem c0e:∀(vs:List V) (ck:List (Option Nat)),z3 (b3M ck vs)
 | [],ck=>by cases ck<;>exact .pure _
 | v::vs,ck=>.bind (d5W _ _) fun x=>.bind (c0e vs _) fun y=>.pure _
theorem e6o(cx:Cx)(ty:Nat)(x:V)(A:N2):z3 (b3I cx ty x A):=by
 unfold b3I;cases cx.T ty with
 | none=>exact .no
 | some ti=>
  cases x<;>try exact z3.no
  case ptr g j off=>
   refine .bind (.rd g j) fun e => ?_
   cases e<;>try exact z3.no
   case var e cs=>simp only;cases Q4 ti (cs.drop off)<;>first|exact .no|exact .pure _
   case arr e sz n rows=>exact .ite (.pure _) .no
  case eptr g j sz idx off=>
   refine .bind (.rd g j) fun e => ?_
   cases A<;>try exact z3.no
   case row r=>
    simp only;cases Q4 ti (r.drop off) with
    | none=>exact .no
    | some v=>cases e<;>first|exact z3.no|exact .ite (.pure _) .no
  case fptr cs=>simp only;cases Q4 ti cs<;>first|exact .no|exact .pure _
theorem e3v(cx:Cx)(ty:Nat)(x y:V)(A:N2):z3 (b29 cx ty x y A):=by
 unfold b29;cases cx.T ty with
 | none=>exact .no
 | some ti=>
  cases y.cells with
  | none=>exact .no
  | some vs=>
   cases x<;>try exact z3.no
   case ptr g j off=>
    refine .bind (.rd g j) fun e => ?_
    cases e<;>first|exact z3.no|exact .ite (.pure _) .no
   case eptr g j sz idx off=>
    refine .bind (.rd g j) fun e => ?_
    cases A<;>try exact z3.no
    case rowck r ck=>
     refine .bind (c0e _ _) fun f => ?_
     cases e<;>first|exact z3.no|exact .ite (.pure _) .no
theorem d2G(pt:Bool)(x:V):z3 (a8Z pt x):=by
 unfold a8Z;cases x<;>try first|exact z3.no|exact z3.pure _
 case own g j sz lo n=>
  refine .bind (.rd g j) fun e => ?_
  cases e<;>first|exact z3.no|exact .ite (.pure _) .no
theorem d96(pt:Bool)(cx:Cx)(grp ty:Nat)(s x:V):z3 (a86 pt cx grp ty s x):=by
 unfold a86;cases cx.T ty with
 | none=>exact .no
 | some ti=>
  simp only;cases ti.sl with
  | none=>exact .no
  | some e=>
   simp only;cases cx.T e with
   | none=>exact .no
   | some ei=>
    refine .bind (d2G _ x) fun q=>.ite ?_ .no
    cases s<;>try first|exact z3.no|exact z3.pure _
    case own g j sz lo n=>
     cases lo with
     | succ k=>exact .no
     | zero=>
      refine .bind (.rd g j) fun e => ?_
      cases e<;>first|exact z3.no|exact .ite (.pure _) .no
theorem d7s(cx:Cx)(ty:Nat)(s x:V):z3 (b27 cx ty s x):=by
 unfold b27;cases cx.T ty with
 | none=>exact .no
 | some ti=>
  simp only;cases ti.sl with
  | none=>exact .no
  | some e=>
   simp only;cases cx.T e with
   | none=>exact .no
   | some ei=>
    refine .bind (d2G _ x) fun q => ?_
    cases s<;>try exact z3.no
    case own g j sz lo n=>
     cases lo with
     | succ k=>exact .no
     | zero=>
      refine .bind (.rd g j) fun e => ?_
      cases e<;>first|exact z3.no|exact .ite (.pure _) .no
theorem d19(ck:List (Option Nat)):∀ps:List (Nat×V),z3 (a8J ck ps)
 | []=>.pure _
 | (i,v)::ps=>by
  unfold a8J;cases v.cells with
  | none=>exact .no
  | some cs=>exact .bind (c0e _ _) fun x=>.bind (d19 ck ps) fun y=>.pure _
theorem d64(cx:Cx)(grp ty len:Nat)(parts:List (Nat×V))(A:N2):z3 (b2c cx grp ty len parts A):=by
 unfold b2c;cases cx.T ty with
 | none=>exact .no
 | some ti=>
  simp only;cases ti.sl with
  | none=>exact .no
  | some e=>
   simp only;cases cx.T e with
   | none=>exact .no
   | some ei=>
    cases A<;>try exact z3.no
    case ck ck=>
     refine .bind (d19 _ _) fun q => ?_
     cases a5A ei.size (e9O len ei.zero) q.1 with
     | none=>exact .no
     | some rows=>exact .ite (.pure _) .no
theorem c8W(ck om:Option Nat)(v:V):z3 (R1 ck om v):=by
 unfold R1;cases om with
 | some e=>
  refine .ite (.pure _) (.ite ?_ ?_)
  ·cases v<;>try exact z3.no
   case own g j sz lo n=>
    refine .bind (.rd g j) fun e => ?_
    cases e<;>first|exact z3.no|exact .ite (.pure _) .no|(rename_i o _ _ _ _;cases o<;>first|exact z3.no|exact .ite (.pure _) .no)
  cases v<;>try first|exact z3.no|exact z3.pure _
  case own g j sz lo n=>
   cases lo with
   | succ k=>exact .no
   | zero=>
    refine .bind (.rd g j) fun e => ?_
    cases e<;>first|exact z3.no|exact .ite (.pure _) .no|(rename_i o _ _ _ _;cases o<;>first|exact z3.no|exact .ite (.pure _) .no)
 | none=>
  cases v<;>try first|exact z3.no|exact z3.pure _
  case own g j sz lo n=>
   refine .bind (.rd g j) fun e => ?_
   cases e<;>first|exact z3.no|exact .ite (.pure _) .no|(rename_i o _ _ _ _;cases o<;>first|exact z3.no|exact .ite (.pure _) .no)
  case nil=>cases ck<;>exact .pure _
theorem a9e:∀(vs:List V) (ck om:List (Option Nat)),z3 (a1w ck om vs)
 | [],ck,om=>by cases ck<;>cases om<;>exact .pure _
 | v::vs,ck,om=>.bind (c8W _ _ _) fun x=>.bind (a9e vs _ _) fun y=>.pure _
theorem d65(m:PM)(v:V):z3 (a0P m v):=by
 unfold a0P;cases m with
 | val ck om=>
  cases v<;>try first|exact z3.no|exact c8W _ _ _
  case agg cs=>exact .bind (a9e _ _ _) fun x=>.pure _
 | ptr ck om=>
  cases v<;>try exact z3.no
  case ptr g j off=>
   cases off with
   | succ k=>exact .no
   | zero=>
    refine .bind (.rd g j) fun e => ?_
    cases e<;>try exact z3.no
    case var e cs=>exact .bind (a9e _ _ _) fun x=>.pure _
 | row=>
  cases v<;>try exact z3.no
  case own g j sz lo n=>
   cases lo with
   | succ k=>exact .no
   | zero=>
    refine .bind (.rd g j) fun e => ?_
    cases e<;>first|exact z3.no|exact .ite (.pure _) .no|(rename_i o _ _ _ _;cases o<;>first|exact z3.no|exact .ite (.pure _) .no)
 | part=>
  cases v<;>try exact z3.no
  case own g j sz lo n=>
   refine .bind (.rd g j) fun e => ?_
   cases e<;>first|exact z3.no|exact .ite (.pure _) .no|(rename_i o _ _ _ _;cases o<;>first|exact z3.no|exact .ite (.pure _) .no)
theorem c5N:∀(vs:List V) (ms:List PM),z3 (a01 ms vs)
 | [],ms=>by cases ms<;>exact .pure _
 | v::vs,[]=>.no
 | v::vs,m::ms=>.bind (d65 m v) fun x=>.bind (c5N vs ms) fun y=>.pure _
theorem c0H:∀ids:List (Nat×Nat),z3 (a4O ids)
 | []=>.pure _
 | (g,j)::ids=>by
  unfold a4O;refine .bind (.rd g j) fun e => ?_
  cases e<;>try exact z3.no
  case row t sz n rows=>exact .bind (c0H ids) fun us=>.pure _
  case deep o t sz n rows=>
   cases o
   ·exact .bind (c0H ids) fun us=>.pure _
   ·exact .no
theorem c5D(grp:Nat)(args:List V)(ms:List PM)(fr:Bool)(res:V)(outs:List (Option V))(p:List V->Prop):z3 (a7W grp args ms fr res outs p):=by
 unfold a7W;refine .bind (c5N _ _) fun r=>.bind (c0H _) fun fz => ?_
 simp only;cases Q2 grp (G7 grp 0 res).2.length ms args outs with
 | none=>exact .no
 | some ue=>exact .ite (.pure _) .no
theorem d5h(P:Program)(grp f:Nat)(args:List V)(A:N2):z3 (b3s P grp f args A):=by
 unfold b3s;cases A<;>try exact z3.no
 case call ms fr res outs=>exact c5D _ _ _ _ _ _ _
 case callr k q ms fr res outs=>
  simp only;split
  ·split
   ·exact .bind (c5D _ _ _ _ _ _ _) fun o=>.pure _
   ·exact .no
  ·exact .no
theorem c4K(cx:Cx)(ty:Nat)(x y:V)(r:List V)(ck om:List (Option Nat)):z3 (a8C cx ty x y r ck om):=by
 unfold a8C;cases cx.T ty with
 | none=>exact .no
 | some ti=>
  cases y.cells with
  | none=>exact .no
  | some vs=>
   cases x<;>try exact z3.no
   case eptr g j sz idx off=>
    refine .bind (.rd g j) fun e=>.bind (a9e _ _ _) fun f => ?_
    cases e<;>try exact z3.no
    exact .ite (.pure _) .no
theorem e4Q(cx:Cx)(grp ty:Nat)(x:V)(r:List V):z3 (b1E cx grp ty x r):=by
 unfold b1E;cases cx.T ty with
 | none=>exact .no
 | some ti=>
  cases x<;>try exact z3.no
  case eptr g j sz idx off=>
   refine .bind (.rd g j) fun e => ?_
   cases e<;>try exact z3.no
   simp only;refine .ite ?_ .no;cases Q4 ti (I9 grp 0 ((r.drop off).take (if ti.agg=true then ti.size else 1))).1 with
   | none=>exact .no
   | some v=>exact .pure _
theorem e55(cx:Cx)(grp ty:Nat)(x:V)(r:List V):z3 (b0W cx grp ty x r):=by
 unfold b0W;cases cx.T ty with
 | none=>exact .no
 | some ti=>
  cases x<;>try exact z3.no
  case eptr g j sz idx off=>
   refine .bind (.rd g j) fun e => ?_
   cases e<;>try exact z3.no
   simp only;refine .ite ?_ .no;cases Q4 ti (I9 grp 0 ((r.drop off).take (if ti.agg=true then ti.size else 1))).1 with
   | none=>exact .no
   | some v=>exact .pure _
theorem e0H(cx:Cx)(ty:Nat)(x y:V)(r:List V)(ck om:List (Option Nat)):z3 (b2t cx ty x y r ck om):=by
 unfold b2t;refine .bind (c4K _ _ _ _ _ _ _) fun o => ?_
 split
 ·exact .bind (.rd _ _) fun _=>.pure _
 ·exact .no
theorem d4V(cx:Cx)(ty:Nat)(x:V)(r:List V):z3 (b09 cx ty x r):=by
 unfold b09;cases cx.T ty with
 | none=>exact .no
 | some ti=>
  cases x<;>try exact z3.no
  case eptr g j sz idx off=>
   refine .bind (.rd g j) fun e => ?_
   cases e<;>try exact z3.no
   simp only;refine .ite ?_ .no;cases Q4 ti ((r.drop off).take (if ti.agg=true then ti.size else 1)) with
   | none=>exact .no
   | some v=>exact .pure _
theorem d6T(cx:Cx)(grp ty:Nat)(l c:V)(ck om:List (Option Nat)):z3 (b3c cx grp ty l c ck om):=by
 unfold b3c;cases cx.T ty with
 | none=>exact .no
 | some ti=>
  simp only;cases ti.sl with
  | none=>exact .no
  | some e=>
   simp only;cases cx.T e with
   | none=>exact .no
   | some ei=>
    cases l<;>try exact z3.no
    cases c<;>try exact z3.no
    exact .bind (a9e _ _ _) fun f=>.ite (.pure _) .no
theorem e4I(cx:Cx)(grp ty len:Nat)(parts:List (Nat×V))(ck om:List (Option Nat)):z3 (b1z cx grp ty len parts ck om):=by
 unfold b1z;cases cx.T ty with
 | none=>exact .no
 | some ti=>
  simp only;cases ti.sl with
  | none=>exact .no
  | some e=>
   simp only;cases cx.T e with
   | none=>exact .no
   | some ei=>
    simp only;split
    ·split
     ·exact .bind (a9e _ _ _) fun f=>.ite (.pure _) .no
     ·exact .no
    ·exact .ite (.pure _) .no
    ·exact .no
theorem e41(cx:Cx)(grp ty:Nat)(s x:V):z3 (b2g cx grp ty s x):=by
 unfold b2g;cases cx.T ty with
 | none=>exact .no
 | some ti=>
  simp only;cases ti.sl with
  | none=>exact .no
  | some e=>
   simp only;cases cx.T e with
   | none=>exact .no
   | some ei=>
    simp only;split
    ·refine .bind (.rd _ _) fun e2 => ?_
     split
     ·refine .ite ?_ .no;split
      ·exact .pure _
      ·refine .bind (.rd _ _) fun e1 => ?_
       split
       ·exact .ite (.pure _) .no
       ·exact .no
      ·exact .no
     ·exact .no
    ·exact .no
theorem e4U(cx:Cx)(ty:Nat)(x ix:V):z3 (b16 cx ty x ix):=by
 unfold b16;cases cx.M ty with
 | none=>exact .no
 | some q=>
  obtain ⟨kt,m,z⟩:=q;cases x<;>try exact z3.no
  cases ix<;>try exact z3.no
  rename_i g j ks;simp only;cases a1Z ks with
  | none=>exact .no
  | some xs=>
   refine .bind (.rd g j) fun e => ?_
   cases e<;>try exact z3.no
   exact .ite (.pure _) .no
theorem e3Z(cx:Cx)(ty:Nat)(x ix y:V):z3 (b0x cx ty x ix y):=by
 unfold b0x;cases cx.M ty with
 | none=>exact .no
 | some q=>
  obtain ⟨kt,m,z⟩:=q;cases x<;>try exact z3.no
  cases ix<;>try exact z3.no
  rename_i g j ks;simp only;cases a1Z ks with
  | none=>exact .no
  | some xs=>
   refine .bind (.rd g j) fun e => ?_
   cases e<;>try exact z3.no
   exact .ite (.pure _) .no
theorem e1Y(cx:Cx)(grp:Nat)(ob:Oper)(t:List V)(A:N2):z3 (opM cx grp ob t A):=by
 unfold opM;cases ob.op<;>try exact z3.lift _
 case buildSlice ty len parts=>cases A<;>first|exact e4I _ _ _ _ _ _ _|exact d64 _ _ _ _ _ _
 case makeSlice ty l c=>cases A<;>first|exact d6T _ _ _ _ _ _ _|exact z3.lift _
 case load ty x=>cases A<;>first|exact e4Q _ _ _ _ _|exact e55 _ _ _ _ _|exact d4V _ _ _ _|exact e6o _ _ _ _
 case store ty x y=>
  cases ob.dst
  ·cases A<;>first|exact c4K _ _ _ _ _ _ _|exact e0H _ _ _ _ _ _ _|exact e3v _ _ _ _ _
  ·exact .no
 case makeMap ty r=>cases r<;>exact z3.lift _
 case lookup ty x ix ok=>cases ok<;>first|exact e4U _ _ _ _|exact z3.lift _
 case mapUpdate ty x ix y=>
  cases ob.dst
  ·exact e3Z _ _ _ _ _
  ·exact .no
 case call c=>
  obtain ⟨callee,args,tys⟩:=c;simp only;split
  ·refine .ite ?_ .no;cases A<;>first|exact e41 _ _ _ _ _|exact d96 _ _ _ _ _ _
  ·exact d7s _ _ _ _
  ·cases t0 t _<;>first|exact d5h _ _ _ _ _|exact z3.no
  ·exact .lift _
theorem e20(cx:Cx)(grp:Nat)(ob:Oper)(t:List V)(A:J1):z3 (a9C cx grp ob t A):=.bind (e1Y _ _ _ _ _) fun o=>.lift _
theorem d2F{t t':List V}:∀{xs:List Operand},(∀x∈xs,t0 t' x=t0 t x)->xs.map (t0 t')=xs.map (t0 t)
 | [],_=>rfl
 | x::xs,h=>by simp only [f0j];rw [h x (by simp),d2F fun y hy=>h y (by simp [hy])]
theorem c1r{t t':List V}:∀{ps:List (Nat×Operand)},(∀x∈ps.map (·.2),t0 t' x=t0 t x)->(ps.map fun (i,x)=>(i,t0 t' x))=(ps.map fun (i,x)=>(i,t0 t x))
 | [],_=>rfl
 | p::ps,h=>by
  simp only [f0j];rw [h p.2 (by simp),c1r fun y hy=>h y (by simp [hy])]
theorem d1N{t t':List V}{o:Option Operand}(h:∀x∈o.toList,t0 t' x=t0 t x):o.map (t0 t')=o.map (t0 t):=by
 cases o with
 | none=>rfl
 | some x=>simp only [f0K];rw [h x (by simp)]
theorem e7K{cx:Cx}{op:Op}{t t':List V}{A:N2}(h:∀x∈op.operands.toList,t0 t' x=t0 t x):Q8 cx op t' A=Q8 cx op t A:=by
 cases op<;>try rfl
 case makeFunc fn first captured=>cases fn<;>rfl
 case move x=>simp only [Q8];rw [h x (by simp [Op.operands])]
 case assign x=>simp only [Q8];rw [h x (by simp [Op.operands])]
 case pick c x y=>simp only [Q8];rw [h c (by simp [Op.operands]),h x (by simp [Op.operands]),h y (by simp [Op.operands])]
 case nilCheck x=>simp only [Q8];rw [h x (by simp [Op.operands])]
 case binOp o ty x y ty'=>simp only [Q8];rw [h x (by simp [Op.operands]),h y (by simp [Op.operands])]
 case unOp o ty x=>simp only [Q8];rw [h x (by simp [Op.operands])]
 case convert s d x=>simp only [Q8];rw [h x (by simp [Op.operands])]
 case extract x k=>simp only [Q8];rw [h x (by simp [Op.operands])]
 case field ty x f=>simp only [Q8];rw [h x (by simp [Op.operands])]
 case fieldAddr ty x f=>simp only [Q8];rw [h x (by simp [Op.operands])]
 case build ty parts=>simp only [Q8];rw [c1r (by simpa [Op.operands] using h)]
 case indexAddr ty x y=>simp only [Q8];rw [h x (by simp [Op.operands]),h y (by simp [Op.operands])]
 case index ty x y=>simp only [Q8];rw [h x (by simp [Op.operands]),h y (by simp [Op.operands])]
 case slice ty x lo hi mx=>
  cases mx with
  | some m=>rfl
  | none=>
   simp only [Q8];rw [h x (by simp [Op.operands]),d1N (o:=lo) (fun y hy=>h y (by simp [Op.operands] at hy⊢;simp [hy])),d1N (o:=hi) (fun y hy=>h y (by simp [Op.operands] at hy⊢;simp [hy]))]
 case call c=>
  obtain ⟨callee,args,tys⟩:=c;simp only [Q8];cases callee with
  | value x=>rfl
  | invoke x m=>rfl
  | builtin b=>
   have ha:∀x∈args.toList,t0 t' x=t0 t x:=fun x hx=>h x (by simpa [Op.operands,Call.operands] using hx)
   cases b<;>try rfl
   all_goals
    generalize args.toList=al at ha;generalize tys.toList=tl;rcases al with _|⟨s,_|⟨x,_|⟨y,al⟩⟩⟩<;>rcases tl with _|⟨ty,_|⟨ty',tl⟩⟩<;>try rfl
    all_goals simp only [ha s (by simp)]
    all_goals try simp only [ha x (by simp)]
theorem d67{cx:Cx}{grp:Nat}{ob:Oper}{t t':List V}{A:N2}(h:∀x∈ob.op.operands.toList,t0 t' x=t0 t x):opM cx grp ob t' A=opM cx grp ob t A:=by
 have hp:=e7K (cx:=cx) (A:=A) h;unfold opM;cases ho:ob.op<;>rw [ho] at h hp<;>simp only [hp]
 case box e x=>rw [h x (by simp [Op.operands])]
 case buildSlice ty len parts=>rw [c1r (by simpa [Op.operands] using h)]
 case makeSlice ty l c=>rw [h l (by simp [Op.operands]),h c (by simp [Op.operands])]
 case load ty x=>rw [h x (by simp [Op.operands])]
 case store ty x y=>rw [h x (by simp [Op.operands]),h y (by simp [Op.operands])]
 case makeMap ty r=>cases r<;>simp only [hp]
 case lookup ty x ix ok=>
  have h1:=h x (by simp [Op.operands]);have h2:=h ix (by simp [Op.operands]);cases ok<;>simp only [hp,h1,h2]
 case mapUpdate ty x ix y=>rw [h x (by simp [Op.operands]),h ix (by simp [Op.operands]),h y (by simp [Op.operands])]
 case call c=>
  obtain ⟨callee,args,tys⟩:=c;cases callee with
  | invoke x m=>rfl
  | value fop=>
   have h1:t0 t' fop=t0 t fop:=h fop (by simp [Op.operands,Call.operands]);have h2:args.toList.map (t0 t')=args.toList.map (t0 t):=d2F fun x hx=>h x (by simp [Op.operands,Call.operands] at hx⊢;simp [hx])
   simp only [h1,h2]
  | builtin b=>
   have ha:∀x∈args.toList,t0 t' x=t0 t x:=fun x hx=>h x (by simpa [Op.operands,Call.operands] using hx)
   cases b<;>try rfl
   all_goals
    generalize args.toList=al at ha;generalize tys.toList=tl;rcases al with _|⟨s,_|⟨x,_|⟨y,al⟩⟩⟩<;>rcases tl with _|⟨ty,_|⟨ty',_|⟨ty3,tl⟩⟩⟩<;>try rfl
    all_goals simp only [ha s (by simp),ha x (by simp)]
theorem c6y{t:List V}{dst:Option Nat}{v:V}{x:Operand}(h:∀d,dst=some d->x ≠ .tmp d):t0 (R2 t dst v) x=t0 t x:=by
 cases dst with
 | none=>rfl
 | some d=>
  cases x with
  | tmp k=>
   have:d≠k:=fun q=>h d rfl (by rw [q])
   simp [t0,R2,f0a this]
  | _=>rfl
theorem e6B{S:St}{g j g' j':Nat}{e e':s4}(h:¬(g=g'/\j=j')):(S.setE g j e).setE g' j' e'=(S.setE g' j' e').setE g j e:=by
 by_cases q:g=g'
 ·subst q;have hj:j≠j':=fun z=>h ⟨rfl,z⟩
  cases hx:S.h[g]? with
  | none=>unfold St.setE;simp [hx]
  | some o=>cases o with
   | none=>unfold St.setE;simp [hx]
   | some l=>
    have hlt:=(e9T.1 hx).1;rw [a2E hx,a2E hx,a2E (l:=l.set j e) (by simp [hlt]),a2E (l:=l.set j' e') (by simp [hlt])];simp only [List.set_set];rw [List.set_comm _ _ hj]
 ·unfold St.setE;cases hx:S.h[g]? with
  | none=>
   cases hy:S.h[g']? with
   | none=>simp [hx,hy]
   | some o=>cases o with
    | none=>simp [hx,hy]
    | some l=>simp [hx,hy,f0a (Ne.symm q)]
  | some o=>cases o with
   | none=>
    cases hy:S.h[g']? with
    | none=>simp [hx,hy]
    | some o=>cases o with
     | none=>simp [hx,hy]
     | some l=>simp [hx,hy,f0a (Ne.symm q)]
   | some l=>
    cases hy:S.h[g']? with
    | none=>simp [hx,hy,f0a q]
    | some o=>cases o with
     | none=>simp [hx,hy,f0a q]
     | some l'=>simp [hx,hy,f0a q,f0a (Ne.symm q),List.set_comm _ _ q]
theorem c4A{g j:Nat}{e:s4}:∀{us:List N1} {S:St},(∀u∈us,¬(g=u.1.1/\j=u.1.2))->(S.setE g j e).upds us=(S.upds us).setE g j e
 | [],_,_=>rfl
 | ((g',j'),e')::us,S,h=>by
  simp only [St.upds];rw [e6B (h ((g',j'),e') (by simp)),c4A fun u hu=>h u (by simp [hu])]
theorem b3t:∀{us vs:List N1} {S:St},(∀u∈us,∀v∈vs,u.1≠v.1)->(S.upds us).upds vs=(S.upds vs).upds us
 | [],_,_,_=>rfl
 | ((g,j),e)::us,vs,S,h=>by
  simp only [St.upds];rw [b3t fun u hu=>h u (by simp [hu]),c4A fun v hv q=>h ((g,j),e) (by simp) v hv (Prod.ext q.1 q.2)]
theorem d59{S:St}{g g':Nat}{n n':List s4}(h:g≠g'):(S.lay g n).lay g' n'=(S.lay g' n').lay g n:=by
 simp [St.lay,List.set_comm _ _ h]
theorem e6P{t:List V}{d d':Option Nat}{v v':V}(h:∀k,d=some k->d'≠some k):R2 (R2 t d v) d' v'=R2 (R2 t d' v') d v:=by
 cases d with
 | none=>rfl
 | some k=>cases d' with
  | none=>rfl
  | some k'=>
   have:k≠k':=fun q=>h k rfl (by rw [q])
   simp [R2,List.set_comm _ _ this]
def a3x(S:St)(t:List V):St:={S with t:=t}
def hp(S:St)(grp:Nat)(o:B6):St:=match o.new with
 | none=>S.upds o.upd
 | some new=>(S.upds o.upd).lay grp new
theorem c27(S:St)(grp:Nat)(dst:Option Nat)(o:B6):S.apply grp dst o=a3x (hp S grp o) (R2 S.t dst o.v):=by
 unfold St.apply hp a3x;cases o.new with
 | none=>simp only [St.upds_t]
 | some new=>simp only [St.lay,St.upds_t]
theorem d6E(S:St)(t:List V)(g j:Nat)(e:s4):(a3x S t).setE g j e=a3x (S.setE g j e) t:=by
 unfold a3x St.setE;simp only;split<;>rfl
theorem b9l(t:List V):∀(us:List N1) (S:St),(a3x S t).upds us=a3x (S.upds us) t
 | [],_=>rfl
 | ((g,j),e)::us,S=>by simp only [St.upds];rw [d6E,b9l]
theorem e8a(S:St)(t:List V)(grp:Nat)(o:B6):hp (a3x S t) grp o=a3x (hp S grp o) t:=by
 unfold hp;cases o.new with
 | none=>simp only [b9l]
 | some new=>simp only [b9l];rfl
theorem e8p{S:St}{g g':Nat}{o o':B6}(hg:g≠g')(h1:∀u∈o.upd,∀v∈o'.upd,u.1≠v.1)(h2:∀u∈o.upd,u.1.1≠g')(h3:∀u∈o'.upd,u.1.1≠g):hp (hp S g o) g' o'=hp (hp S g' o') g o:=by
 unfold hp;cases o.new with
 | none=>cases o'.new with
  | none=>simp only;exact b3t h1
  | some n'=>simp only;rw [<-b0k o.upd _ h2,b3t h1]
 | some n=>cases o'.new with
  | none=>simp only;rw [<-b0k o'.upd _ h3,b3t h1]
  | some n'=>
   simp only;rw [<-b0k o'.upd _ h3,<-b0k o.upd _ h2,b3t h1,d59 hg]
theorem e6e{S:St}{grp:Nat}{o:B6}{g j:Nat}(h1:g≠grp)(h2:∀u∈o.upd,u.1≠(g,j)):(hp S grp o).ent g j=S.ent g j:=by
 have:(S.upds o.upd).ent g j=S.ent g j:=by
  refine b39 ?_;unfold a84;rw [e9W];intro u hu;have:=h2 u hu;simp only [f0J,Bool.and_eq_false_iff,beq_eq_false_iff_ne];by_cases q:g=u.1.1
  ·right
   intro z;exact this (Prod.ext q.symm z.symm)
  ·exact .inl q
 unfold hp;cases o.new with
 | none=>exact this
 | some new=>simp only;rw [a7o h1];exact this
section
variable {cx:Cx} {ops:Array Oper} {base:Nat} {A:Nat->J1}
theorem c6s{i:Nat}{S S':St}{ps:List Prop}{ft:Y4}(h:Y1 cx ops base A i S=some (S',ps,ft)):∃o out,ops[i]?=some o/\S'=S.apply (base+i) o.dst out/\ft.wr=out.upd.map (·.1)/\
  ∀T:St,(∀x∈o.op.operands.toList,t0 T.t x=t0 S.t x)->a42 ops o T.t=a42 ops o S.t->(∀id∈ft.rd,T.ent id.1 id.2=S.ent id.1 id.2)->Y1 cx ops base A i T=some (T.apply (base+i) o.dst out,ps,ft):=by
 unfold Y1 at h;split at h<;>try (cases h;done)
 rename_i o ho;split at h<;>try (cases h;done)
 ·rename_i hw;split at h<;>try (cases h;done)
  rename_i out lg hop;injection h with h;injection h with h1 h2;injection h2 with h2 h3;subst h1;subst h2;subst h3;refine ⟨o,out,ho,rfl,rfl,?_⟩;intro T hx hwT hent;have hst:a9C cx (base+i) o T.t (A i)=a9C cx (base+i) o S.t (A i):=by
   unfold a9C;rw [d67 hx]
  have:=e20 cx (base+i) o S.t (A i) S.ent T.ent out lg hop hent;unfold Y1;rw [ho];simp only [hwT,hw,hst,this]
 ·rename_i hw;injection h with h;injection h with h1 h2;injection h2 with h2 h3;subst h1;subst h2;subst h3;refine ⟨o,{v:=.tup []},ho,rfl,rfl,?_⟩;intro T hx hwT hent;unfold Y1;rw [ho];simp only [hwT,hw];rfl
structure Ind(ops:Array Oper)(base:Nat)(x i:Nat)(f1 f2:Y4):Prop where
 ne:x≠i
 apart:∀o1 o2,ops[x]?=some o1->ops[i]?=some o2->o1.apart ops o2=true
 w1:∀id∈f1.wr,id ∉ f2.rd/\id ∉ f2.wr
 w2:∀id∈f2.wr,id ∉ f1.rd
 g1:∀id∈f2.rd++f2.wr,id.1≠base+x
 g2:∀id∈f1.rd++f1.wr,id.1≠base+i
theorem d2H{o:Oper}{x:Operand}(hx:x∈o.op.operands.toList){d:Nat}(hd:d ∉ o.looksAt ops):x ≠ .tmp d:=by
 intro q;subst q;apply hd;unfold Oper.looksAt;exact e9P.2 (.inl (List.mem_filterMap.2 ⟨_,hx,rfl⟩))
theorem c4Z{o:Oper}{t:List V}{dst:Option Nat}{v:V}(hd:∀d,dst=some d->d ∉ o.looksAt ops):a42 ops o (R2 t dst v)=a42 ops o t:=by
 unfold a42;split
 ·rfl
 ·rename_i j want hg;cases hj:(ops[j]?).bind (·.dst) with
  | none=>rfl
  | some d=>
   simp only;cases dst with
   | none=>rfl
   | some k=>
    have hk:k≠d:=by
     intro q;subst q;apply hd k rfl;unfold Oper.looksAt;rw [hg];exact e9P.2 (.inr (by simp [hj]))
    simp only [R2,f0a hk]
theorem b4Q{S:St}{grp:Nat}{dst:Option Nat}{o:B6}:(S.apply grp dst o).t=R2 S.t dst o.v:=by rw [c27];rfl
theorem c8L{S:St}{grp:Nat}{dst:Option Nat}{o:B6}{g j:Nat}(h1:g≠grp)(h2:(g,j) ∉ o.upd.map (·.1)):(S.apply grp dst o).ent g j=S.ent g j:=by
 rw [c27];show (hp S grp o).ent g j=_
 exact e6e h1 fun u hu q=>h2 (f0l.2 ⟨u,hu,q⟩)
theorem d6N{x i:Nat}{S S1 S2:St}{p1 p2:List Prop}{f1 f2:Y4}(hx:Y1 cx ops base A x S=some (S1,p1,f1))(hi:Y1 cx ops base A i S1=some (S2,p2,f2))(h:Ind ops base x i f1 f2) :
  ∃S1',Y1 cx ops base A i S=some (S1',p2,f2)/\Y1 cx ops base A x S1'=some (S2,p1,f1):=by
 obtain ⟨o1,out1,ho1,rfl,hw1,hr1⟩:=c6s hx;obtain ⟨o2,out2,ho2,rfl,hw2,hr2⟩:=c6s hi;obtain ⟨a1,a2,a3⟩:=Oper.apart_spec (h.apart o1 o2 ho1 ho2);have e1:=hr2 S (fun z hz=>by rw [b4Q,c6y fun d hd=>d2H (ops:=ops) hz (a1 d hd)]) (by rw [b4Q,c4Z a1]) (fun id hid=>by
  refine (c8L (h.g1 id (e9P.2 (.inl hid))) ?_).symm;rw [<-hw1];exact fun q=>(h.w1 id q).1 hid)
 refine ⟨_,e1,?_⟩;have e2:=hr1 (S.apply (base+i) o2.dst out2) (fun z hz=>by rw [b4Q,c6y fun d hd=>d2H (ops:=ops) hz (a3 d hd)]) (by rw [b4Q,c4Z a3]) (fun id hid=>by
  refine c8L (h.g2 id (e9P.2 (.inl hid))) ?_;rw [<-hw2];exact fun q=>h.w2 id q hid)
 rw [e2];congr 2
 simp only [c27,e8a];have hh:hp (hp S (base+x) out1) (base+i) out2=hp (hp S (base+i) out2) (base+x) out1:=by
  refine e8p (fun q=>h.ne (by omega)) ?_ ?_ ?_
  ·intro u hu v hv q;have m1:u.1∈f1.wr:=by rw [hw1];exact f0l.2 ⟨u,hu,rfl⟩
   have m2:v.1∈f2.wr:=by rw [hw2];exact f0l.2 ⟨v,hv,rfl⟩
   exact (h.w1 _ m1).2 (q▸m2)
  ·intro u hu;exact h.g2 _ (e9P.2 (.inr (by rw [hw1];exact f0l.2 ⟨u,hu,rfl⟩)))
  ·intro u hu;exact h.g1 _ (e9P.2 (.inr (by rw [hw2];exact f0l.2 ⟨u,hu,rfl⟩)))
 rw [hh];unfold a3x;simp only;rw [e6P (fun k hk q=>a2 k hk q)]
abbrev Rc:=Nat->List Prop×Y4
theorem d3s{rc:Rc}{i:Nat}:∀{l m:List Nat} {S S':St},(∀x∈l,Ind ops base x i (rc x).2 (rc i).2)->a0L cx ops base A (l++i::m) S=some (S',(l++i::m).map rc)->a0L cx ops base A (i::(l++m)) S=some (S',(i::(l++m)).map rc)
 | [],m,S,S',_,h=>h
 | x::l,m,S,S',hind,h=>by
  obtain ⟨S1,r,rs,h1,h2,h3⟩:=b2K h;simp only [f1q,f0j] at h3;injection h3 with h3 h4;subst h3;subst h4;have h5:=d3s (fun y hy=>hind y (by simp [hy])) h2;obtain ⟨S2,r2,rs2,h6,h7,h8⟩:=b2K h5;simp only [f0j] at h8;injection h8 with h8 h9;subst h8;subst h9;obtain ⟨S1',e1,e2⟩:=d6N (p1:=(rc x).1) (f1:=(rc x).2) (p2:=(rc i).1) (f2:=(rc i).2) h1 h6 (hind x (by simp));have e2':Y1 cx ops base A x S1'=some (S2,rc x):=e2;have e1':Y1 cx ops base A i S=some (S1',rc i):=e1;simp only [f1q,a0L,e1',e2',h7,f0j]
end
def a2H(ops:Array Oper)(i:Nat):List Nat:=
 match ops[i]? with
 | some o=>(o.after.toList.filter (Region.binds .any)).map (·.on)
 | none=>[]
def a20(ops:Array Oper):Nat->List (List Nat)
 | 0=>[]
 | k+1=>let L:=a20 ops k;L++[(a2H ops k).flatMap fun e=>e::L.getD e []]
def a6J(ops:Array Oper)(i:Nat):List Nat:=(a20 ops (i+1)).getD i []
theorem a6A(ops:Array Oper):∀k,(a20 ops k).length=k
 | 0=>rfl
 | k+1=>by simp [a20,a6A ops k]
theorem c1L(ops:Array Oper)(i:Nat):∀k,i<k->(a20 ops k).getD i []=a6J ops i
 | k+1,h=>by
  by_cases q:i=k
  ·subst q;rfl
  ·have:i<k:=by omega
   rw [<-c1L ops i k this];simp only [a20,f0g];rw [f0f (by rw [a6A];exact this)]
theorem e1C(ops:Array Oper)(i:Nat):a6J ops i=(a2H ops i).flatMap fun e=>e::(a20 ops i).getD e []:=by
 unfold a6J;simp only [a20,f0g];rw [e96 (by rw [a6A];omega),a6A];simp
theorem c8B{ops:Array Oper}{X7:Array Bool}{i:Nat}(h:i∈Region.ready .any ops X7):i<ops.size/\X7.getD i true=false/\∀e∈a2H ops i,X7.getD e false=true:=by
 unfold Region.ready at h;obtain ⟨h1,h2⟩:=f0C.1 h;have hlt:=f0I.1 h1;simp only [e9R,f0J] at h2;refine ⟨hlt,h2.1,?_⟩;intro e he;unfold a2H at he;rw [Array.getElem?_eq_getElem hlt] at he h2;simp only [f0l,f0C] at he;obtain ⟨ed,⟨hm,hb⟩,rfl⟩:=he;have:=h2.2;simp only [f0K,f0U,Array.all_eq_true_iff_forall_mem] at this;have:=this ed (by simpa using hm);simpa [hb] using this
theorem e4o{ops:Array Oper}{X7:Array Bool}{i:Nat}(hlt:i<ops.size)(hl:X7.getD i true=false)(he:∀e∈a2H ops i,X7.getD e false=true):i∈Region.ready .any ops X7:=by
 unfold Region.ready;refine f0C.2 ⟨f0I.2 hlt,?_⟩;rw [Array.getElem?_eq_getElem hlt];simp only [hl,e97,f0K,f0U,e95,Array.all_eq_true_iff_forall_mem];intro ed hm;by_cases hb:Region.binds .any ed=true
 ·have:ed.on∈a2H ops i:=by
   unfold a2H;rw [Array.getElem?_eq_getElem hlt];exact f0l.2 ⟨ed,f0C.2 ⟨by simpa using hm,hb⟩,rfl⟩
  simp [he _ this]
 ·simp [hb]
section
variable {cx:Cx} {Γ:N0} {ops:Array Oper} {base:Nat} {A:Nat->J1} {Q:Exit->Act->World->Prop} {S':St} {rc:Rc}
theorem d8q(c47:∀i,i<ops.size->∀e∈a2H ops i,e<i)(hind:∀x i,x<i->i<ops.size->x ∉ a6J ops i->Ind ops base x i (rc x).2 (rc i).2)(hob:∀i,i<ops.size->∀p∈(rc i).1,p)(hQ:∀a' w' F' ι',t7 Γ F' ι' S' a' w'->Q .normal a' w'):∀(fuel:Nat) (R:List Nat) (X7:Array Bool) (S:St) (F:Nat->Prop) (ι:Nat->Nat->Value) (a:Act) (w:World),
  R.length=fuel->X7.size=ops.size->R.Pairwise (· < ·)->(∀i,i<ops.size->(X7.getD i true=false↔i∈R))->(∀i∈R,i<ops.size)->(∀i,i<ops.size->i ∉ R->∀x∈a6J ops i,x ∉ R)->
  t7 Γ F ι S a w->(∀i∈R,base+i<S.h.length/\¬S.D (base+i))->a0L cx ops base A R S=some (S',R.map rc)->wpAny cx.P .any ops Q fuel X7 a w:=by
 intro fuel;induction fuel with
 | zero=>
  intro R X7 S F ι a w hR hsz hpw hlist hlt hdown hrel hfree hrun;have:R=[]:=e90 hR;subst this;unfold a0L at hrun;injection hrun with hrun;injection hrun with h1 h2;subst h1;refine ⟨?_,hQ _ _ _ _ hrel⟩;rw [List.eq_nil_iff_forall_not_mem];intro i hi;obtain ⟨h1,h2,_⟩:=c8B hi;have:=(hlist i h1).1 h2;simp at this
 | succ fuel ih=>
  intro R X7 S F ι a w hR hsz hpw hlist hlt hdown hrel hfree hrun;refine ⟨fun d8n => ?_,fun i hi => ?_⟩
  ·exfalso
   cases R with
   | nil=>simp at hR
   | cons r R=>
    have hr:=hlt r (by simp);have hrd:r∈Region.ready .any ops X7:=by
     refine e4o hr ((hlist r hr).2 (by simp)) ?_;intro e he;have hlt':=c47 r hr e he;have hen:e ∉ r::R:=by
      intro q;rcases e9V.1 q with q|q
      ·omega
      ·have:=(f0W.1 hpw).1 e q;omega
     have:=mt (hlist e (by omega)).1 hen;have hes:e<X7.size:=by omega
     simp only [Array.getD_eq_getD_getElem?,Array.getElem?_eq_getElem hes,f0U] at this⊢;simpa using this
    rw [d8n] at hrd;simp at hrd
  ·obtain ⟨hi1,hi2,hi3⟩:=c8B hi;have hiR:=(hlist i hi1).1 hi2;obtain ⟨A1,B1,hAB⟩:=List.append_of_mem hiR;have hpw':=hpw;rw [hAB] at hpw';obtain ⟨hpA,hpB,hpAB⟩:=f05.1 hpw';have hcl:∀x∈a6J ops i,x ∉ R:=by
    intro x hx;rw [e1C] at hx;obtain ⟨e,he,hx⟩:=List.mem_flatMap.1 hx;have hel:=c47 i hi1 e he;have heR:e ∉ R:=by
     intro q;have h1:=(hlist e (by omega)).2 q;have h2:=hi3 e he;have hes:e<X7.size:=by omega
     simp only [Array.getD_eq_getD_getElem?,Array.getElem?_eq_getElem hes,f0U] at h1 h2;rw [h1] at h2;cases h2
    rcases e9V.1 hx with rfl|hx
    ·exact heR
    ·rw [c1L ops e i hel] at hx;exact hdown e (by omega) heR x hx
   have hfront:=d3s (cx:=cx) (A:=A) (rc:=rc) (i:=i) (l:=A1) (m:=B1) (S:=S) (S':=S') (fun x hx=>by
    have hxR:x∈R:=by rw [hAB];simp [hx]
    exact hind x i (hpAB x hx i (by simp)) hi1 (fun q=>hcl x q hxR)) (by rw [<-hAB];exact hrun)
   obtain ⟨S1,r,rs,h1,h2,h3⟩:=b2K hfront;simp only [f0j] at h3;injection h3 with h3 h4;subst h3;subst h4;obtain ⟨hD,hl⟩:=c8x (ps:=(rc i).1) (ft:=(rc i).2) h1;refine d2x hrel (hfree i hiR).1 (hfree i hiR).2 (ps:=(rc i).1) (ft:=(rc i).2) h1 (hob i hi1) fun a' w' F' ι' hrel' => ?_
   have hsub:∀j,j∈A1++B1↔(j∈R/\j≠i):=by
    intro j;rw [hAB];simp only [e9P,e9V];constructor
    ·intro hj;refine ⟨by rcases hj with q|q<;>simp [q],?_⟩;rintro rfl
     rcases hj with q|q
     ·have:=hpAB j q j (by simp);omega
     ·have:=(f0W.1 hpB).1 j q;omega
    ·rintro ⟨q|rfl|q,hne⟩
     ·exact .inl q
     ·exact absurd rfl hne
     ·exact .inr q
   refine ih (A1++B1) _ S1 F' ι' a' w' ?_ (by simp [hsz]) ?_ ?_ ?_ ?_ hrel' ?_ h2
   ·rw [hAB] at hR;simp at hR⊢;omega
   ·refine f05.2 ⟨hpA,(f0W.1 hpB).2,fun x hx y hy=>hpAB x hx y (by simp [hy])⟩
   ·intro j hj;rw [hsub];have hjs:j<X7.size:=by omega
    simp only [Array.getD_eq_getD_getElem?];by_cases q:j=i
    ·subst q;simp [hjs]
    ·rw [Array.getElem?_setIfInBounds_ne (Ne.symm q),<-hlist j hj,Array.getD_eq_getD_getElem?];simp [q]
   ·intro j hj;exact hlt j ((hsub j).1 hj).1
   ·intro j hj hjn x hx hxm;have hxR:=((hsub x).1 hxm).1;by_cases q:j=i
    ·subst q;exact hcl x hx hxR
    ·exact hdown j hj (fun z=>hjn ((hsub j).2 ⟨z,q⟩)) x hx hxR
   ·intro j hj;have hjR:=((hsub j).1 hj)
    refine ⟨by rw [hl];exact (hfree j hjR.1).1,fun x => ?_⟩;rcases hD _ x with y|y
    ·exact (hfree j hjR.1).2 y
    ·exact hjR.2 (by omega)
end
def b66(l:List Nat)(x:Nat):Bool:=l.any fun y=>y==x
theorem e2O{l:List Nat}{x:Nat}:b66 l x=true↔x∈l:=by
 unfold b66;rw [f1a];constructor
 ·rintro ⟨y,hy,h⟩
  simp at h;exact h▸hy
 ·intro h;exact ⟨x,h,by simp⟩
def dnN:List Nat->List Nat
 | []=>[]
 | x::xs=>if b66 (dnN xs) x then dnN xs else x::dnN xs
theorem b8O{x:Nat}:∀{l:List Nat},x∈dnN l->x∈l
 | y::l,h=>by
  unfold dnN at h;split at h
  ·exact e9V.2 (.inr (b8O h))
  ·rcases e9V.1 h with rfl|h
   ·simp
   ·exact e9V.2 (.inr (b8O h))
def a7d(ops:Array Oper):Nat->List (List Nat)
 | 0=>[]
 | k+1=>let L:=a7d ops k;L++[dnN ((a2H ops k).flatMap fun e=>e::L.getD e [])]
theorem b4p(ops:Array Oper):∀k,(a7d ops k).length=k
 | 0=>rfl
 | k+1=>by simp [a7d,b4p ops k]
theorem c0c(ops:Array Oper):∀k i,∀x∈(a7d ops k).getD i [],x∈(a20 ops k).getD i []
 | 0,i,x,h=>by simp [a7d] at h
 | k+1,i,x,h=>by
  simp only [a7d,a20,f0g] at h⊢;by_cases q:i<k
  ·rw [f0f (by rw [b4p];exact q)] at h;rw [f0f (by rw [a6A];exact q)];have:=c0c ops k i x (by rw [f0g];exact h);rwa [f0g] at this
  ·rw [e96 (by rw [b4p];omega),b4p] at h;rw [e96 (by rw [a6A];omega),a6A];by_cases q':i=k
   ·subst q';simp only [Nat.sub_self,f1d,f0U] at h⊢;obtain ⟨e,he,hx⟩:=List.mem_flatMap.1 (b8O h);refine List.mem_flatMap.2 ⟨e,he,?_⟩;rcases e9V.1 hx with rfl|hx
    ·simp
    ·have:=c0c ops i e x (by rw [f0g];exact hx);rw [f0g] at this;exact e9V.2 (.inr this)
   ·have:i-k=(i-k-1)+1:=by omega
    rw [this] at h;simp at h
def c1Z(ops:Array Oper)(base x i:Nat)(f1 f2:Y4):Bool:=
  (match ops[x]?,ops[i]? with
   | some o1,some o2=>o1.apart ops o2
   | _,_=>false) &&
  f1.wr.all (fun id => !a1s f2.rd id && !a1s f2.wr id)&&f2.wr.all (fun id => !a1s f1.rd id) &&
  f2.rd.all (fun id => !(id.1==base+x))&&f2.wr.all (fun id => !(id.1==base+x)) &&
  f1.rd.all (fun id => !(id.1==base+i))&&f1.wr.all (fun id => !(id.1==base+i))
theorem b3S{l:List (Nat×Nat)}{x:Nat×Nat}(h:(!a1s l x)=true):x ∉ l:=by
 intro q;rw [a5h.2 q] at h;cases h
theorem e4j{ops:Array Oper}{base x i:Nat}{f1 f2:Y4}(hne:x<i)(h:c1Z ops base x i f1 f2=true):Ind ops base x i f1 f2:=by
 unfold c1Z at h;simp only [e9R] at h;obtain ⟨⟨⟨⟨⟨⟨h1,h2⟩,h3⟩,h4⟩,h5⟩,h6⟩,h7⟩:=h;refine ⟨by omega,?_,?_,?_,?_,?_⟩
 ·intro o1 o2 e1 e2;rw [e1,e2] at h1;exact h1
 ·intro id hid;have:=e9W.1 h2 id hid;simp only [e9R] at this;exact ⟨b3S this.1,b3S this.2⟩
 ·intro id hid;exact b3S (e9W.1 h3 id hid)
 ·intro id hid;rcases e9P.1 hid with q|q
  ·have:=e9W.1 h4 id q;simpa using this
  ·have:=e9W.1 h5 id q;simpa using this
 ·intro id hid;rcases e9P.1 hid with q|q
  ·have:=e9W.1 h6 id q;simpa using this
  ·have:=e9W.1 h7 id q;simpa using this
def c83(ops:Array Oper)(base:Nat)(L:List (List Nat))(fs:List Y4):Bool:=
 (e9Y ops.size).all fun i=>
  (a2H ops i).all (fun e=>Nat.blt e i) &&
  (e9Y i).all fun x=>b66 (L.getD i []) x||c1Z ops base x i (fs.getD x ⟨[],[]⟩) (fs.getD i ⟨[],[]⟩)
def c1I(A:List (Nat×J1))(i:Nat):J1:=
 match A with
 | []=>{}
 | (j,x)::A=>if j==i then x else c1I A i
def b5b:List (List Prop×Y4)->List Prop
 | []=>[]
 | r::rs=>r.1++b5b rs
theorem c4h{rs:List (List Prop×Y4)}(h:∀p∈b5b rs,p):∀r∈rs,∀p∈r.1,p:=by
 induction rs with
 | nil=>intro r hr;cases hr
 | cons r rs ih=>
  intro r' hr p hp;rcases e9V.1 hr with rfl|hr
  ·exact h p (e9P.2 (.inl hp))
  ·exact ih (fun p hp=>h p (e9P.2 (.inr hp))) r' hr p hp
def a3G:Nat->List (Option (List s4))
 | 0=>[]
 | n+1=>none::a3G n
theorem d1o:∀(n i:Nat) (l:List s4),(a3G n)[i]?≠some (some l)
 | 0,i,l=>by simp [a3G]
 | n+1,0,l=>by simp [a3G]
 | n+1,i+1,l=>by simpa [a3G] using d1o n i l
theorem d2U:∀n,(a3G n).length=n
 | 0=>rfl
 | n+1=>by simp [a3G,d2U n]
def St.more(S:St)(n:Nat):St:={S with h:=S.h++a3G n}
theorem b56{S:St}{n g:Nat}{l:List s4}:(S.more n).h[g]?=some (some l)↔S.h[g]?=some (some l):=by
 unfold St.more;simp only;by_cases q:g<S.h.length
 ·rw [f0f q]
 ·rw [e96 (by omega)];constructor
  ·intro h;exact absurd h (d1o _ _ _)
  ·intro h;have:=(e9T.1 h).1;omega
theorem a8S{S:St}{n g:Nat}:(S.more n).D g↔S.D g:=by
 unfold St.D;constructor
 ·rintro ⟨l,h⟩
  exact ⟨l,b56.1 h⟩
 ·rintro ⟨l,h⟩
  exact ⟨l,b56.2 h⟩
theorem b0A{S:St}{n g j:Nat}:(S.more n).ent g j=S.ent g j:=by
 have key:∀e,(S.more n).ent g j=some e↔S.ent g j=some e:=by
  intro e;constructor
  ·intro h;obtain ⟨l,hl⟩:=St.D_of_ent h;rw [a1c hl] at h;rw [a1c (b56.1 hl)];exact h
  ·intro h;obtain ⟨l,hl⟩:=St.D_of_ent h;rw [a1c hl] at h;rw [a1c (b56.2 hl)];exact h
 cases h:S.ent g j with
 | some e=>exact (key e).2 h
 | none=>
  cases h':(S.more n).ent g j with
  | none=>rfl
  | some e=>rw [(key e).1 h'] at h;cases h
theorem t7.more{Γ:N0}{F:Nat->Prop}{ι:Nat->Nat->Value}{S:St}{a:Act}{w:World}(h:t7 Γ F ι S a w)(n:Nat):t7 Γ F ι (S.more n) a w:=
  { F0:=h.F0,F1:=h.F1,F2:=h.F2,kept:=h.kept
    tmps:=h.tmps.imp fun _ _ x=>x.mono (fun _ _ _=>rfl) (fun _ y=>y) (fun g y=>a8S.2 y) (fun _ _ _=>rfl)
    ents:=fun g j e he=>(h.ents g j e (b0A▸he)).mono (fun _ _ _=>rfl) (fun _ y=>y) (fun g y=>a8S.2 y) (fun _ _ _=>rfl) (fun _ _ _=>rfl)
    sep:=fun g j e k he=>h.sep g j e k (b0A▸he)
    inj:=fun g j e g' j' e' k he he'=>h.inj g j e g' j' e' k (b0A▸he) (b0A▸he')
    defers:=h.defers
    pins:=fun j c hc=>⟨a8S.2 (h.pins j c hc).1,(h.pins j c hc).2⟩}
def b9v(cx:Cx)(ops:Array Oper)(draw:Bool)(A:List (Nat×J1))(S:St):Option (St×List Prop):=
 match a0L cx ops S.h.length (c1I A) (e9Y ops.size) (S.more ops.size) with
 | none=>none
 | some (S',rs)=>if draw then (if c83 ops S.h.length (a7d ops ops.size) (rs.map (·.2)) then some (S',b5b rs) else none) else some (S',b5b rs)
section
variable {cx:Cx} {Γ:N0} {F:Nat->Prop} {ι:Nat->Nat->Value} {S S':St} {a:Act} {w:World} {ops:Array Oper} {A:List (Nat×J1)}
theorem c4B{base:Nat}{B:Nat->J1}:∀{l:List Nat} {S S':St} {rs:List (List Prop×Y4)},a0L cx ops base B l S=some (S',rs)->rs.length=l.length
 | [],S,S',rs,h=>by
  unfold a0L at h;injection h with h;injection h with h1 h2;subst h2;rfl
 | i::l,S,S',rs,h=>by
  obtain ⟨S1,r,rs',h1,h2,rfl⟩:=b2K h;simp [c4B h2]
theorem d9N{α:Type}(d:α):∀{rs:List α} {n:Nat},rs.length=n->rs=(e9Y n).map fun i=>rs.getD i d:=by
 intro rs n h;apply List.ext_getElem
 ·simp [h]
 ·intro i h1 h2;simp [f0g,h1]
theorem e9c{draw:Bool}{id:Nat}{ps:List Prop}{Q:Exit->Act->World->Prop}(h:t7 Γ F ι S a w)(hr:b9v cx ops draw A S=some (S',ps))(hob:∀p∈ps,p)(hQ:∀a' w' F' ι',t7 Γ F' ι' S' a' w'->Q .normal a' w'):(Code.region id ops draw).wp cx.P Q a w:=by
 unfold b9v at hr;split at hr<;>try (cases hr;done)
 rename_i S1 rs hrun;have hfree:∀i∈e9Y ops.size,S.h.length+i<(S.more ops.size).h.length/\¬(S.more ops.size).D (S.h.length+i):=by
  intro i hi;refine ⟨by simp [St.more,d2U,f0I.1 hi],fun q => ?_⟩;obtain ⟨l,hl⟩:=a8S.1 q;have:=(e9T.1 hl).1;omega
 cases draw with
 | false=>
  simp only [f0O,if_false] at hr;injection hr with hr;injection hr with h1 h2;subst h1;subst h2;exact wp_region (d2A (h.more ops.size) List.nodup_range hfree hrun (c4h hob) hQ)
 | true=>
  simp only [if_true] at hr;split at hr<;>try (cases hr;done)
  rename_i hap;injection hr with hr;injection hr with h1 h2;subst h1;subst h2;have hw:t7 Γ F ι (S.more ops.size) a {w with drawn:=w.drawn+1}:=(h.more ops.size).world ⟨rfl,rfl,rfl⟩ (f0q _) (fun _ _=>rfl);have hlen:=c4B hrun;rw [List.length_range] at hlen;have hrs:=d9N (([],⟨[],[]⟩):List Prop×Y4) hlen;unfold c83 at hap;rw [e9W] at hap;have hap':∀i,i<ops.size->(∀e∈a2H ops i,e<i)/\∀x,x<i->x ∉ a6J ops i->Ind ops S.h.length x i ((rs.getD x ([],⟨[],[]⟩)).2) ((rs.getD i ([],⟨[],[]⟩)).2):=by
   intro i hi;have:=hap i (f0I.2 hi);simp only [e9R] at this;refine ⟨fun e he => ?_,fun x hx hc => ?_⟩
   ·have:=e9W.1 this.1 e he;rwa [Nat.blt_eq] at this
   ·have h2:=e9W.1 this.2 x (f0I.2 hx);rcases Bool.or_eq_true_iff.1 h2 with q|q
    ·exfalso
     apply hc;have:=c0c ops ops.size i x (e2O.1 q);rwa [c1L ops i ops.size hi] at this
    ·have:=e4j hx q;have hm:∀j,j<rs.length->(rs.map (·.2)).getD j ⟨[],[]⟩=(rs.getD j ([],⟨[],[]⟩)).2:=by
      intro j hj;simp [f0g,hj]
     rw [hm x (by omega),hm i (by omega)] at this;exact this
  refine wp_region_any cx.mixed ?_;have hrange:∀i,i<ops.size->rs.getD i ([],⟨[],[]⟩)∈rs:=by
   intro i hi;have:i<rs.length:=by omega
   simp [f0g,this]
  refine d8q (rc:=fun i=>rs.getD i ([],⟨[],[]⟩)) (base:=S.h.length) (A:=c1I A) (fun i hi=>(hap' i hi).1) (fun x i hx hi hc=>(hap' i hi).2 x hx hc) (fun i hi p hp=>c4h hob _ (hrange i hi) p hp) hQ
   ops.size (e9Y ops.size) _ _ F ι a _ (by simp) (by simp) ?_ ?_ ?_ ?_ hw hfree ?_
  ·exact List.pairwise_lt_range
  ·intro i hi;simp [f0I,hi,Array.getD_eq_getD_getElem?]
  ·intro i hi;exact f0I.1 hi
  ·intro i hi hn;exact absurd (f0I.2 hi) hn
  ·rw [<-hrs];exact hrun
end
def mvM(t:List V):List Item->Option (List Item)
 | .code .skip::k=>some k
 | .inBlock _::k=>some k
 | .code (.seq x y)::k=>some (.code x :: .code y::k)
 | .code (.cond c x y)::k=>match t0 t c with
  | .b true=>some (.code x::k)
  | .b false=>some (.code y::k)
  | _=>none
 | .code (.block id c)::k=>some (.code c :: .inBlock id::k)
 | .code (.loop c)::k=>some (.code c :: .inLoop c::k)
 | .inLoop c::k=>some (.code c :: .inLoop c::k)
 | .code (.exit id)::k=>exitTo id k
 | _=>none
abbrev Q6:=List (List (Nat×J1))
def goM(cx:Cx):Nat->List Item->St->Q6->Option (List Item×St×List Prop)
 | 0,_,_,_=>none
 | n+1,k,S,sc=>
  match k with
  | .code (.region id ops draw)::k'=>match sc with
   | []=>some (k,S,[])
   | A::sc'=>match b9v cx ops draw A S with
    | some (S1,ps)=>match goM cx n k' S1 sc' with
     | some (k2,S2,qs)=>some (k2,S2,ps++qs)
     | none=>none
    | none=>none
  | k=>match mvM S.t k with
   | some k1=>goM cx n k1 S sc
   | none=>match sc with
    | []=>some (k,S,[])
    | _::_=>none
section
variable {cx:Cx} {Γ:N0} {F:Nat->Prop} {ι:Nat->Nat->Value} {S S':St} {a:Act} {w:World} {b:Frame} {cs:List Frame} {k k':List Item}
theorem d8Q(h:t7 Γ F ι S a w)(hm:mvM S.t k=some k'):step cx.P (lone (b.at a k) cs w)=.next (lone (b.at a k') cs w):=by
 unfold mvM at hm;split at hm
 ·injection hm with hm;subst hm;exact step_skip
 ·injection hm with hm;subst hm;exact step_inBlock
 ·injection hm with hm;subst hm;exact step_seq
 ·rename_i c x y k0;have hc:=D5 h.tmps c;split at hm<;>try (cases hm;done)
  ·rename_i hx;injection hm with hm;subst hm;rw [hx] at hc;have:=step_cond (P:=cx.P) (b:=b) (k:=k0) (cs:=cs) (w:=w) (x:=x) (y:=y) hc.inv_b;simpa using this
  ·rename_i hx;injection hm with hm;subst hm;rw [hx] at hc;have:=step_cond (P:=cx.P) (b:=b) (k:=k0) (cs:=cs) (w:=w) (x:=x) (y:=y) hc.inv_b;simpa using this
 ·injection hm with hm;subst hm;exact step_block
 ·injection hm with hm;subst hm;exact step_loop
 ·injection hm with hm;subst hm;exact step_inLoop
 ·exact step_exit hm
 ·cases hm
theorem e77:∀{n:Nat} {k:List Item} {S:St} {F:Nat->Prop} {ι:Nat->Nat->Value} {a:Act} {w:World} {sc:Q6} {ps:List Prop},t7 Γ F ι S a w->goM cx n k S sc=some (k',S',ps)->(∀p∈ps,p)->
  ∃a' w' F' ι',Steps cx.P (lone (b.at a k) cs w) (lone (b.at a' k') cs w')/\t7 Γ F' ι' S' a' w':=by
 intro n;induction n with
 | zero=>intro k S F ι a w sc ps h hg hob;cases hg
 | succ n ih=>
  intro k S F ι a w sc ps h hg hob;unfold goM at hg;split at hg
  ·rename_i id ops draw k0;split at hg
   ·injection hg with hg;injection hg with h1 h2;injection h2 with h2 h3;subst h1;subst h2;exact ⟨a,w,F,ι,.refl _ _,h⟩
   ·rename_i A sc';split at hg<;>try (cases hg;done)
    rename_i S1 qs hr;split at hg<;>try (cases hg;done)
    rename_i k2 S2 rs hg2;injection hg with hg;injection hg with h1 h2;injection h2 with h2 h3;subst h1;subst h2;subst h3;have hwp:=e9c (cx:=cx) (draw:=draw) (id:=id) (Q:=fun e a' w'=>e=.normal/\∃F' ι',t7 Γ F' ι' S1 a' w') h hr (fun p hp=>hob p (e9P.2 (.inl hp)))
     (fun a' w' F' ι' hrel=>⟨rfl,F',ι',hrel⟩)
    obtain ⟨e,a1,w1,⟨he,F1,ι1,h1⟩,harr⟩:=hwp b k0 cs;subst he;obtain ⟨a2,w2,F2,ι2,hs,h2⟩:=ih h1 hg2 (fun p hp=>hob p (e9P.2 (.inr hp)));exact ⟨a2,w2,F2,ι2,Steps.trans harr hs,h2⟩
  ·split at hg
   ·rename_i k1 hm;obtain ⟨a2,w2,F2,ι2,hs,h2⟩:=ih h hg hob;exact ⟨a2,w2,F2,ι2,.head (d8Q h hm) hs,h2⟩
   ·split at hg<;>try (cases hg;done)
    injection hg with hg;injection hg with h1 h2;injection h2 with h2 h3;subst h1;subst h2;exact ⟨a,w,F,ι,.refl _ _,h⟩
end
structure N6 where
 f:Nat
 fn:Func
 rms:List PM
 oms:List (Option (Nat×PM))
def d14(w:World)(F:Nat->Prop)(fp:List Nat)(cargs:List Value)(res:V)(outs:List (Option V))(e:Ending)(w':World):Prop:=
 ∃ c F' fr fo,e=.returned c/\a3w (· ∈ fp) w w'/\(∀k,F k->F' k)/\(∀k,F' k->(F k\/k∈fp\/w.heap.size<=k)/\k<w'.heap.size)/\
   BR w' F' res c fr/\BO w' F' outs cargs fo/\(fr++fo).Nodup/\∀k∈fr++fo,¬F' k/\(k∈fp\/w.heap.size<=k)/\k<w'.heap.size
def PM.isVal:PM->Bool
 | .val .. => true
 | _=>false
def a52(bs:List Value):List (Option Nat)->Nat->List Value->Prop
 | [],_,[]=>True
 | none::om,j,d::ds=>d.oneCell'=true/\a52 bs om j ds
 | some _::om,j,d::ds=>bs[j]?=some d/\a52 bs om (j+1) ds
 | _,_,_=>False
inductive a1g:List (Option (Nat×PM))->List Value->List Value->Prop
 | nil (bs):a1g [] [] bs
 | skip (oms c cs bs) (t:a1g oms cs bs):a1g (none::oms) (c::cs) bs
 | pin (j m oms c cs bs) (hm:m.isVal=false) (h:bs[j]?=some c) (t:a1g oms cs bs):a1g (some (j,m)::oms) (c::cs) bs
 | agg (j ck om oms ds cs bs) (h:a52 bs om j ds) (t:a1g oms cs bs):a1g (some (j,.val ck om)::oms) (.agg ds.toArray::cs) bs
def I3(cx:Cx)(X:N6)(res:V)(outs:List (Option V))(k:List Item)(S:St):Prop:=
 ∀(w0:World) (F0:Nat->Prop) (fp:List Nat) (cargs bs:List Value),a1g X.oms cargs bs->(∀k,F0 k->k<w0.heap.size)->
 ∀(F:Nat->Prop) (ι:Nat->Nat->Value) (a:Act) (w:World) (b:Frame) (cs:List Frame),t7 ⟨w0,F0,(· ∈ fp),bs⟩ F ι S a w->b.fn=X.f->b.kind=.normal->
  ∃e w' fr,d14 w0 F0 fp cargs res outs e w'/\Comes cx.P (lone (b.at a k) cs w) (lone fr cs w') e/\fr.fn=X.f/\fr.leaving cx.P w' e
theorem I3.go{cx:Cx}{X:N6}{res:V}{outs:List (Option V)}{k k':List Item}{S S':St}{n:Nat}{sc:Q6}{ps:List Prop}(hg:goM cx n k S sc=some (k',S',ps))(hob:∀p∈ps,p)(h:I3 cx X res outs k' S'):I3 cx X res outs k S:=by
 intro w0 F0 fp cargs bs hp hF0 F ι a w b cs hrel hb1 hb2;obtain ⟨a',w',F',ι',hs,hrel'⟩:=e77 (b:=b) (cs:=cs) hrel hg hob;obtain ⟨e,w2,fr,h1,h2,h3,h4⟩:=h w0 F0 fp cargs bs hp hF0 F' ι' a' w' b cs hrel' hb1 hb2;exact ⟨e,w2,fr,h1,.of_steps hs h2,h3,h4⟩
def c0Y(cx:Cx)(t:List V)(r:ResultVar):j6 V:=
 match r with
 | .tmp k=>j6.pure (t.getD k .bot)
 | .cell a ty=>match cx.T ty with
  | some ti=>match t.getD a .bot with
   | .ptr g j off=>j6.bind (j6.rd g j) fun e=>match e with
    | .var _ cs=>match Q4 ti (cs.drop off) with
     | some v=>j6.pure v
     | none=>j6.no
    | _=>j6.no
   | _=>j6.no
  | none=>j6.no
def c3T(cx:Cx)(t:List V):List ResultVar->j6 (List V)
 | []=>j6.pure []
 | r::rs=>j6.bind (c0Y cx t r) fun v=>j6.bind (c3T cx t rs) fun vs=>j6.pure (v::vs)
def b55:List (Option Nat)->Nat->j6 (List V)
 | [],_=>j6.pure []
 | none::om,j=>j6.bind (b55 om j) fun vs=>j6.pure (.bot::vs)
 | some _::om,j=>j6.bind (j6.rd 0 j) fun e=>j6.bind (b55 om (j+1)) fun vs=>match e with
  | .row _ sz n _=>j6.pure (.own 0 j sz 0 n::vs)
  | .deep false _ sz n _=>j6.pure (.own 0 j sz 0 n::vs)
  | _=>j6.no
def a7k:List (Option (Nat×PM))->j6 (List V×List PM)
 | []=>j6.pure ([],[])
 | none::os=>a7k os
 | some (j,.val ck om)::os=>j6.bind (b55 om j) fun cs=>j6.bind (a7k os) fun x=>j6.pure (.agg cs::x.1,.val ck om::x.2)
 | some (j,m)::os=>j6.bind (j6.rd 0 j) fun e=>match m,e with
  | .ptr _ _,.var _ _=>j6.bind (a7k os) fun x=>j6.pure (.ptr 0 j 0::x.1,m::x.2)
  | .row,.row _ sz n _=>j6.bind (a7k os) fun x=>j6.pure (.own 0 j sz 0 n::x.1,m::x.2)
  | .row,.deep false _ sz n _=>j6.bind (a7k os) fun x=>j6.pure (.own 0 j sz 0 n::x.1,m::x.2)
  | _,_=>j6.no
def b4Y:List V->V
 | [v]=>v
 | vs=>.tup vs
def a7P:List (Option (Nat×PM))->List V->List (Option V)
 | [],_=>[]
 | none::os,vs=>none::a7P os vs
 | some _::os,v::vs=>some v::a7P os vs
 | some _::os,[]=>none::a7P os []
def c3U(cx:Cx)(X:N6)(t:List V):j6 (AR (List V)×Nat):=
 j6.bind (c3T cx t X.fn.results.toList) fun rv=>j6.bind (a7k X.oms) fun ov=>j6.bind (a01 (X.rms++ov.2) (rv++ov.1)) fun r=>
  if a2c r.ks&&r.ls.all (fun id => !a1s r.ks id)&&Nat.beq rv.length X.rms.length then j6.pure (r,rv.length) else j6.no
def b99(cx:Cx)(X:N6)(k:List Item)(S:St):Option (V×List (Option V)×List Prop):=
 match k with
 | .code .ret::_|[]=>match c3U cx X S.t S.ent with
  | some ((r,n),_)=>some (b4Y (r.v.take n),a7P X.oms (r.v.drop n),r.obl)
  | none=>none
 | _=>none
section
variable {cx:Cx} {Γ:N0} {F:Nat->Prop} {ι:Nat->Nat->Value} {S S':St} {a:Act} {w:World} {b:Frame} {cs:List Frame} {k k':List Item}
theorem c5o(h:t7 Γ F ι S a w)(k:Nat):RV w F S.D ι (S.t.getD k .bot) (a.tmps.getD k undef):=D5 h.tmps (.tmp k)
def b6o(P:Program)(tmps:Array Value)(w:World)(r:ResultVar)(c:Value):Prop:=
  ((match r with
    | .tmp t=>pure (tmps.getD t undef)
    | .cell a t=>do loadVar t (<-asAddr (tmps.getD a undef))):Sem Value).run P w=.ok c w
theorem e1k(h:t7 Γ F ι S a w){r:ResultVar}{v:V}{lg:List (Nat×Nat)}(hr:c0Y cx S.t r S.ent=some (v,lg)):∃c,b6o cx.P a.tmps w r c/\RV w F S.D ι v c:=by
 unfold c0Y at hr;cases r with
 | tmp k=>
  have:=j6.pure_some hr;injection this with this h9;subst this;exact ⟨_,rfl,c5o h k⟩
 | cell ad ty=>
  simp only at hr;cases hti:cx.T ty with
  | none=>rw [hti] at hr;cases hr
  | some ti=>
  rw [hti] at hr;obtain ⟨i,d,z,htf⟩:=cx.tf hti;have hx:=c5o h ad;generalize S.t.getD ad .bot=xv at hr hx;cases xv<;>try (cases hr;done)
  case ptr g j off=>
   obtain ⟨hD,b,hι,hc⟩:=hx.inv_ptr;obtain ⟨e,l1,l2,hrd,hp',hl12⟩:=j6.bind_some hr;clear hr;have he:=(j6.rd_some hrd).1;simp only at he;have hre:=h.ents g j e he;split at hp'<;>try (cases hp';done)
   ·rename_i e0 cs;obtain ⟨g0,cur,h1,hg,hcs⟩:=hre;rw [hι] at h1;injection h1 with h1;injection h1 with h1;injection h1 with h1;subst h1;cases hrv:Q4 ti (cs.drop off) with
    | none=>rw [hrv] at hp';cases hp'
    | some v'=>
    rw [hrv] at hp';have:=j6.pure_some hp';injection this with this h9;subst this;obtain ⟨c,hrd',hvc⟩:=a4U (hcs.drop off) hrv;refine ⟨c,?_,hvc⟩;unfold b6o;simp only [hc,asAddr];have:=c7M htf (a5v hg off) hrd';simpa [Sem.run_bind] using this
theorem c6P(h:t7 Γ F ι S a w):∀{rs:List ResultVar} {vs:List V} {lg:List (Nat×Nat)},c3T cx S.t rs S.ent=some (vs,lg)->∃cs,v6 (b6o cx.P a.tmps w) rs cs/\v6 (RV w F S.D ι) vs cs
 | [],vs,lg,hr=>by
  have:=j6.pure_some hr;injection this with this h9;subst this;exact ⟨[],.nil,.nil⟩
 | r::rs,vs,lg,hr=>by
  obtain ⟨v,l1,l2,h1,h2,_⟩:=j6.bind_some hr;obtain ⟨vs',l3,l4,h3,h4,_⟩:=j6.bind_some h2;have:=j6.pure_some h4;injection this with this h9;subst this;obtain ⟨c,e1,e2⟩:=e1k h h1;obtain ⟨cs,e3,e4⟩:=c6P h h3;exact ⟨c::cs,.cons e1 e3,.cons e2 e4⟩
def b0s:List Value->Value
 | [c]=>c
 | cs=>.tuple cs.toArray
theorem d2p{P:Program}{w:World}{α:Type}{f:α->Sem Value}:∀{l:List α} {cs:List Value},v6 (fun r c=>(f r).run P w=.ok c w) l cs->(l.mapM f).run P w=.ok cs w
 | _,_,.nil=>by simp [Sem.run]
 | _,_,.cons h t=>by
  rw [List.mapM_cons];have:=d2p t;simp [Sem.run_bind,h,this]
theorem e9z{P:Program}{fn:Func}{tmps:Array Value}{w:World}{cs:List Value}(h:v6 (b6o P tmps w) fn.results.toList cs):(results fn tmps).run P w=.ok (b0s cs) w:=by
 unfold results;have hm:=d2p (f:=fun r:ResultVar=>match r with
  | .tmp t=>pure (tmps.getD t undef)
  | .cell a t=>do loadVar t (<-asAddr (tmps.getD a undef))) (h.imp fun r c x=>x)
 have he:fn.results=fn.results.toList.toArray:=by simp
 rw [he,List.mapM_toArray];have hp:(if hh:cs.toArray.size=1 then cs.toArray[0] else Value.tuple cs.toArray)=b0s cs:=by
  rcases cs with _|⟨c,_|⟨c',cs⟩⟩
  ·rfl
  ·rfl
  ·have:¬(c::c'::cs).toArray.size=1:=by simp
   rw [dif_neg this];rfl
 simp only [map_eq_pure_bind,Sem.run_bind,bind_assoc,pure_bind];refine (congrArg (fun r=>Result.andThen r _) hm).trans ?_;simp only [Result.andThen];rw [<-hp];rfl
theorem c2n(h:t7 Γ F ι S a w):∀{om:List (Option Nat)} {j:Nat} {ds:List Value} {vs:List V} {lg:List (Nat×Nat)},a52 Γ.pins om j ds->b55 om j S.ent=some (vs,lg)->v6 (RC w F S.D ι) vs ds
 | [],j,[],vs,lg,_,hr=>by
  have:=j6.pure_some hr;injection this with h1 h2;subst h1;exact .nil
 | none::om,j,d::ds,vs,lg,hc,hr=>by
  obtain ⟨xs,l1,l2,h1,h2,_⟩:=j6.bind_some hr;have:=j6.pure_some h2;injection this with h3 h4;subst h3;exact .cons (.fv _ _ (.bot _ hc.1)) (c2n h hc.2 h1)
 | some _::om,j,d::ds,vs,lg,hc,hr=>by
  obtain ⟨e,l1,l2,hrd,hp,_⟩:=j6.bind_some hr;have he:=(j6.rd_some hrd).1;simp only at he;have hD:=St.D_of_ent he;have hι:=(h.pins j d hc.1).2;have hre:=h.ents 0 j e he;obtain ⟨xs,l3,l4,h1,h2,_⟩:=j6.bind_some hp;have ht:=c2n h hc.2 h1;split at h2<;>try (cases h2;done)
  ·have:=j6.pure_some h2;injection this with h3 h4;subst h3;refine .cons ?_ ht;have:=RC.whole hD rfl hre;rwa [hι] at this
  ·have:=j6.pure_some h2;injection this with h3 h4;subst h3;refine .cons ?_ ht;obtain ⟨flat,fs,ho,_⟩:=hre;have:=RC.wholeO (F:=F) (D:=S.D) hD rfl ho;rwa [hι] at this
 | [],_,_::_,_,_,hc,_=>hc.elim
 | none::_,_,[],_,_,hc,_=>hc.elim
 | some _::_,_,[],_,_,hc,_=>hc.elim
theorem a9Z(h:t7 Γ F ι S a w):∀{oms:List (Option (Nat×PM))} {cargs:List Value} {vs:List V} {ms:List PM} {lg:List (Nat×Nat)},a1g oms cargs Γ.pins->a7k oms S.ent=some ((vs,ms),lg)->∃cs,v6 (RV w F S.D ι) vs cs/\
  ∀{F1:Nat->Prop} {us:List V} {f:List Nat},BS w F1 us cs f->BO w F1 (a7P oms us) cargs f
 | [],_,vs,ms,lg,.nil _,hr=>by
  have:=j6.pure_some hr;injection this with h1 h2;injection h1 with h1 h3;subst h1;exact ⟨[],.nil,fun hb=>by cases hb;exact .nil⟩
 | none::oms,_,vs,ms,lg,.skip _ c cs _ t,hr=>by
  obtain ⟨cs',e1,e2⟩:=a9Z h t hr;exact ⟨cs',e1,fun {F1 us f} hb=>.skip _ _ _ _ (e2 hb)⟩
 | some (j,.val ck om)::oms,_,vs,ms,lg,.agg _ _ _ _ ds cs _ hc t,hr=>by
  obtain ⟨xs,l1,l2,hxs,hp,_⟩:=j6.bind_some hr;obtain ⟨x,l3,l4,h1,h2,_⟩:=j6.bind_some hp;have:=j6.pure_some h2;injection this with h3 h4;injection h3 with h3 h5;subst h3;obtain ⟨cs',e1,e2⟩:=a9Z h t h1;refine ⟨.agg ds.toArray::cs',.cons (.one _ _ (.agg _ _ (c2n h hc hxs))) e1,?_⟩;intro F1 us f hb;cases hb with
  | cons v c f vs cs fs h t=>exact .cons _ _ _ _ _ _ h (e2 t)
 | some (j,.val ck om)::oms,_,vs,ms,lg,.pin _ _ _ c cs _ hm hc t,hr=>by cases hm
 | some (j,.part)::oms,_,vs,ms,lg,.pin _ _ _ c cs _ hm hc t,hr=>by
  obtain ⟨e,l1,l2,hrd,hp,_⟩:=j6.bind_some hr;cases e<;>cases hp
 | some (j,.ptr ck om)::oms,_,vs,ms,lg,.pin _ _ _ c cs _ hm hc t,hr=>by
  obtain ⟨e,l1,l2,hrd,hp,_⟩:=j6.bind_some hr;have he:=(j6.rd_some hrd).1;simp only at he;have hD:=St.D_of_ent he;have hι:=(h.pins j c hc).2;have hre:=h.ents 0 j e he;cases e<;>try (cases hp;done)
  obtain ⟨x,l3,l4,h1,h2,_⟩:=j6.bind_some hp;have:=j6.pure_some h2;injection this with h3 h4;injection h3 with h3 h5;subst h3;obtain ⟨cs',e1,e2⟩:=a9Z h t h1;obtain ⟨g,cur,q1,q2,q3⟩:=hre;refine ⟨c::cs',.cons (.one _ _ (.cell _ _ ?_)) e1,?_⟩
  ·rw [<-hι,q1];exact .ptr 0 j 0 g hD q1
  ·intro F1 us f hb;cases hb with
   | cons v c f vs cs fs h t=>exact .cons _ _ _ _ _ _ h (e2 t)
 | some (j,.row)::oms,_,vs,ms,lg,.pin _ _ _ c cs _ hm hc t,hr=>by
  obtain ⟨e,l1,l2,hrd,hp,_⟩:=j6.bind_some hr;have he:=(j6.rd_some hrd).1;simp only at he;have hD:=St.D_of_ent he;have hι:=(h.pins j c hc).2;have hre:=h.ents 0 j e he;cases e<;>try (cases hp;done)
  case row=>
   obtain ⟨x,l3,l4,h1,h2,_⟩:=j6.bind_some hp;have:=j6.pure_some h2;injection this with h3 h4;injection h3 with h3 h5;subst h3;obtain ⟨cs',e1,e2⟩:=a9Z h t h1;refine ⟨c::cs',.cons (.one _ _ (.cell _ _ ?_)) e1,?_⟩
   ·have:=RC.whole hD rfl hre;rwa [hι] at this
   ·intro F1 us f hb;cases hb with
    | cons v c f vs cs fs h t=>exact .cons _ _ _ _ _ _ h (e2 t)
  case deep o _ _ _ _=>
   cases o<;>try (cases hp;done)
   obtain ⟨x,l3,l4,h1,h2,_⟩:=j6.bind_some hp;have:=j6.pure_some h2;injection this with h3 h4;injection h3 with h3 h5;subst h3;obtain ⟨cs',e1,e2⟩:=a9Z h t h1;obtain ⟨flat,fs,ho,_⟩:=hre;refine ⟨c::cs',.cons (.one _ _ (.cell _ _ ?_)) e1,?_⟩
   ·have:=RC.wholeO (F:=F) (D:=S.D) hD rfl ho;rwa [hι] at this
   ·intro F1 us f hb;cases hb with
    | cons v c f vs cs fs h t=>exact .cons _ _ _ _ _ _ h (e2 t)
theorem v6.app{α β:Type}{R:α->β->Prop}:∀{B4 bs cs ds},v6 R B4 bs->v6 R cs ds->v6 R (B4++cs) (bs++ds)
 | _,_,_,_,.nil,k=>k
 | _,_,_,_,.cons hx t,k=>.cons hx (t.app k)
theorem BS.split:∀{c1 c2:List Value} {vs:List V} {f:List Nat},BS w F vs (c1++c2) f->∃f1 f2,f=f1++f2/\BS w F (vs.take c1.length) c1 f1/\BS w F (vs.drop c1.length) c2 f2
 | [],c2,vs,f,h=>⟨[],f,rfl,by simpa using .nil,by simpa using h⟩
 | c::c1,c2,_,_,.cons v _ f vs _ fs h t=>by
  obtain ⟨f1,f2,rfl,h1,h2⟩:=BS.split t;exact ⟨f++f1,f2,by simp,.cons _ _ _ _ _ _ h h1,h2⟩
theorem BS.pack{vs:List V}{cs:List Value}{f:List Nat}(h:BS w F vs cs f):BR w F (b4Y vs) (b0s cs) f:=by
 cases h with
 | nil=>exact .tup _ _ _ .nil
 | cons v c f vs cs fs h t=>
  cases t with
  | nil=>rw [f0w];exact .one _ _ _ h
  | cons v' c' f' vs' cs' fs' h' t'=>exact .tup _ _ _ (.cons _ _ _ _ _ _ h (.cons _ _ _ _ _ _ h' t'))
theorem I3.ret{X:N6}{res:V}{outs:List (Option V)}{ps:List Prop}(hf:cx.P.funcs[X.f]?=some X.fn)(hr:b99 cx X k S=some (res,outs,ps))(hob:∀p∈ps,p):I3 cx X res outs k S:=by
 obtain ⟨r,n,lg,hR,rfl,rfl,rfl,hk⟩:∃r n lg,c3U cx X S.t S.ent=some ((r,n),lg)/\b4Y (r.v.take n)=res/\a7P X.oms (r.v.drop n)=outs/\r.obl=ps/\(k=[]\/∃k',k=.code .ret::k'):=by
  unfold b99 at hr;split at hr<;>try (cases hr;done)
  all_goals
   split at hr<;>try (cases hr;done)
   rename_i r n lg hR;injection hr with hr;injection hr with h1 h2;injection h2 with h2 h3;first|exact ⟨r,n,lg,hR,h1,h2,h3,.inr ⟨_,rfl⟩⟩|exact ⟨r,n,lg,hR,h1,h2,h3,.inl rfl⟩
 intro w0 F0 fp cargs bs hp hF0 F ι a w b cs h hb1 hb2;unfold c3U at hR;obtain ⟨rv,l1,l2,g1,g2,_⟩:=j6.bind_some hR;obtain ⟨⟨ov,om⟩,l3,l4,g3,g4,_⟩:=j6.bind_some g2;obtain ⟨r',l5,l6,g5,g6,_⟩:=j6.bind_some g4;simp only at g6;split at g6<;>try (cases g6;done)
 rename_i hchk;have:=j6.pure_some g6;injection this with e1 e2;injection e1 with e1 e3;subst e1;subst e3;simp only [e9R] at hchk;obtain ⟨⟨hnk,hls⟩,hlen⟩:=hchk;have hnk':=a3O hnk;have hdis:∀id∈r.ls,id ∉ r.ks:=fun id hid=>b3S (e9W.1 hls id hid)
 obtain ⟨rcs,q1,q2⟩:=c6P h g1;obtain ⟨ocs,q3,q4⟩:=a9Z h hp g3;let F1:Nat->Prop:=fun k=>F k\/∃id∈r.ls,∃e,S.ent id.1 id.2=some e/\EB w e (ι id.1 id.2) k
 obtain ⟨fpx,hbs,hfps,hhk,hhl⟩:=d2b (F1:=F1) h (fun k x=>.inl x) (q2.app q3) g5 hob (fun id hid e k he hk=>.inr ⟨id,hid,e,he,hk⟩);obtain ⟨f1,f2,hf12,b1,b2⟩:=hbs.split;have hl2:rcs.length=rv.length:=q2.length.symm;rw [hl2] at b1 b2;have hfpn:=K2.nodup h hfps hnk';have hF1lt:∀k,F1 k->k<w.heap.size:=by
  rintro k (x|⟨id,hid,e,he,hb⟩)
  ·exact h.F1 k x
  ·obtain ⟨e',he',hl'⟩:=hhl id hid;have:e=e':=by rw [he] at he';injection he'
   subst this;exact h.lt he hl' hb
 have hfin:d14 w0 F0 fp cargs (b4Y (r.v.take rv.length)) (a7P X.oms (r.v.drop rv.length)) (.returned (b0s rcs)) w:=by
  refine ⟨b0s rcs,F1,f1,f2,rfl,h.kept,fun k x=>.inl (h.F0 k x),?_,b1.pack,q4 b2,?_,?_⟩
  ·rintro k x
   refine ⟨?_,hF1lt k x⟩;rcases x with x|⟨id,hid,e,he,hb⟩
   ·exact h.F2 k x
   ·obtain ⟨e',he',hl'⟩:=hhl id hid;have:e=e':=by rw [he] at he';injection he'
    subst this;exact .inr (h.sep _ _ _ k he hl' hb).2
  ·rw [<-hf12];exact hfpn
  ·intro k hk;rw [<-hf12] at hk;obtain ⟨id,hid,e,he,hl,hb⟩:=hfps.mem hk;obtain ⟨z1,z2⟩:=h.sep _ _ e k he hl hb;refine ⟨?_,z2,h.lt he hl hb⟩;rintro (x|⟨id',hid',e0,he0,hb'⟩)
   ·exact z1 x
   ·obtain ⟨e',he',hl'⟩:=hhl id' hid';have:e0=e':=by rw [he0] at he';injection he'
    subst this;obtain ⟨y1,y2⟩:=h.inj _ _ e _ _ _ k he he' hl hl' hb hb';have:id=id':=Prod.ext y1 y2;exact hdis id' hid' (this▸hid)
 have hres:=e9z (P:=cx.P) q1;rcases hk with rfl|⟨k',rfl⟩
 ·exact ⟨_,w,_,hfin,.one step_end,hb1,rfl,h.defers,hb2,X.fn,by show cx.P.funcs[b.fn]?=_;rw [hb1];exact hf,hres⟩
 ·exact ⟨_,w,_,hfin,.one step_ret,hb1,rfl,h.defers,hb2,X.fn,by show cx.P.funcs[b.fn]?=_;rw [hb1];exact hf,hres⟩
end
inductive Loc where
 | tmp (t:Nat)
 | sub (t i:Nat)
 | cell (g j i:Nat)
def St.get(S:St):Loc->Option V
 | .tmp t=>S.t[t]?
 | .sub t i=>match S.t[t]? with
  | some (.agg cs)=>cs[i]?
  | _=>none
 | .cell g j i=>match S.ent g j with
  | some (.var _ cs)=>cs[i]?
  | _=>none
def St.put(S:St)(l:Loc)(v:V):St:=
 match l with
 | .tmp t=>{S with t:=S.t.set t v}
 | .sub t i=>match S.t[t]? with
  | some (.agg cs)=>{S with t:=S.t.set t (.agg (cs.set i v))}
  | _=>S
 | .cell g j i=>match S.ent g j with
  | some (.var e cs)=>S.setE g j (.var e (cs.set i v))
  | _=>S
inductive Fix where
 | own (l:Loc) (e sz:Nat)
 | frz (l:Loc) (ck:Option Nat)
 | is (l:Loc) (v:V)
 | ent (g j:Nat) (e:s4)
 | plug (g j idx off:Nat) (r:List V) (e:Nat)
 | shut (g j n:Nat) (rows:List (List V))
 | ownD (l:Loc) (e sz:Nat)
 | kill (g j:Nat)
def V.isCell:V->Bool
 | .agg _ | .tup _ | .bot=>false
 | _=>true
def a5S(f:Fix)(S:St):Option (St×List Prop):=
 match f with
 | .own l e sz=>match S.get l with
  | some .nil=>some (((S.more 1).lay S.h.length [.row e sz 0 []]).put l (.own S.h.length 0 sz 0 0),[])
  | _=>none
 | .frz l ck=>match S.get l with
  | some v=>if v.isCell then match fzP ck v S.ent with
   | some ((v',us,ps),_)=>some ((S.upds us).put l v',ps)
   | none=>none else none
  | none=>none
 | .is l v'=>match S.get l with
  | some v=>if v.isCell then some (S.put l v',[v=v']) else none
  | none=>none
 | .ent g j e'=>match S.ent g j with
  | some e=>some (S.setE g j e',[e=e'])
  | none=>none
 | .plug g j idx off r e=>match S.ent g j,r[off]? with
  | some (.deep o t sz n rows),some (.own g' j' sz' lo n')=>match R1 none (some e) (.own g' j' sz' lo n') S.ent with
   | some (f,_)=>if (off+1<=sz/\a2c f.ks/\a1s f.ks (g,j)=false)/\e≠a8T then some (S.upds (E9 f.ks++[((g,j),.deep o t sz n (rows.set idx (A5 r off [f.v])))]),(rows[idx]?=some r)::f.obl) else none
   | none=>none
  | _,_=>none
 | .kill g j=>match S.ent g j with
  | some _=>some (S.setE g j .dead,[])
  | none=>none
 | .shut g j n' rows'=>match S.ent g j with
  | some (.deep o t sz n rows)=>some (S.setE g j (.deep false t sz n' rows'),[rows=rows',F3 rows',n=n'])
  | _=>none
 | .ownD l e sz=>match S.get l with
  | some .nil=>some (((S.more 1).lay S.h.length [.deep false e sz 0 []]).put l (.own S.h.length 0 sz 0 0),[])
  | _=>none
def b2z:List Fix->St->Option (St×List Prop)
 | [],S=>some (S,[])
 | f::fs,S=>match a5S f S with
  | some (S1,ps)=>match b2z fs S1 with
   | some (S2,qs)=>some (S2,ps++qs)
   | none=>none
  | none=>none
section
variable {cx:Cx} {Γ:N0} {F:Nat->Prop} {ι:Nat->Nat->Value} {S S':St} {a:Act} {w:World}
theorem RV.isCell{D:Nat->Prop}{v:V}{c:Value}(h:RV w F D ι v c)(hv:v.isCell=true):RC w F D ι v c:=by
 cases h with
 | one v c h=>
  cases h with
  | cell v c h=>exact h
  | agg cs ds h=>cases hv
 | tup cs ds h=>cases hv
 | any c=>cases hv
theorem t7.withT(h:t7 Γ F ι S a w){t:List V}(ht:v6 (RV w F S.D ι) t a.tmps.toList):t7 Γ F ι {S with t:=t} a w:=
 {F0:=h.F0,F1:=h.F1,F2:=h.F2,kept:=h.kept,tmps:=ht,ents:=h.ents,sep:=h.sep,inj:=h.inj,defers:=h.defers,pins:=h.pins}
theorem v6.set_left{α β:Type}{R:α->β->Prop}{B4:List α}{bs:List β}(h:v6 R B4 bs){i:Nat}{x y:α}(hx:B4[i]?=some x)(hy:∀b,R x b->R y b):v6 R (B4.set i y) bs:=by
 obtain ⟨b,hb,hr⟩:=h.get hx;have:=h.set i (hy b hr);rwa [a0a hb] at this
theorem t7.putL(h:t7 Γ F ι S a w){l:Loc}{v v':V}(hg:S.get l=some v)(hc:v.isCell=true)(hr:∀c,RC w F S.D ι v c->RC w F S.D ι v' c):t7 Γ F ι (S.put l v') a w:=by
 cases l with
 | tmp t=>
  exact h.withT (h.tmps.set_left hg fun c hv=>.one _ _ (.cell _ _ (hr c (hv.isCell hc))))
 | sub t i=>
  unfold St.get at hg;unfold St.put;simp only at hg⊢;split at hg<;>try (cases hg;done)
  rename_i cs hcs;try rw [hcs]
  refine h.withT (h.tmps.set_left hcs fun c hv => ?_);cases hv with
  | one v c hv=>
   cases hv with
   | cell v c hv=>cases hv with|fv v c hv=>cases hv
   | agg cs ds hv=>exact .one _ _ (.agg _ _ (hv.set_left hg hr))
 | cell g j i=>
  unfold St.get at hg;unfold St.put;simp only at hg⊢;split at hg<;>try (cases hg;done)
  rename_i e cs hcs;try rw [hcs]
  try simp only
  refine h.write hcs rfl ⟨rfl,rfl,rfl⟩ rfl (fun _ _=>rfl) (fun _ => ?_) (fun _ hk=>hk);obtain ⟨g0,cur,h1,h2,h3⟩:=h.ents g j _ hcs;exact ⟨g0,cur,h1,h2,(h3.set_left hg hr).imp fun _ _ x=>x.mono (fun _ _ _=>rfl) (fun _ y=>y) (fun k y=>P7.2 y) (fun _ _ _=>rfl)⟩
theorem c7C{grp:Nat}{new:List s4}{l:Loc}{v:V}(h:S.get l=some v)(hn:¬S.D grp):(S.lay grp new).get l=some v:=by
 cases l with
 | tmp t=>exact h
 | sub t i=>exact h
 | cell g j i=>
  unfold St.get at h⊢;simp only at h⊢;split at h<;>try (cases h;done)
  rename_i e cs hcs;have:g≠grp:=fun q=>hn (q▸St.D_of_ent hcs)
  rw [a7o this,hcs];exact h
theorem c6B{n:Nat}{l:Loc}{v:V}(h:S.get l=some v):(S.more n).get l=some v:=by
 cases l with
 | tmp t=>exact h
 | sub t i=>exact h
 | cell g j i=>
  unfold St.get at h⊢;simp only at h⊢;rw [b0A];exact h
theorem d4W{e:Nat}{v:V}{H:Hp}{f:AR V}{lg:List (Nat×Nat)}(he:e≠a8T)(h:R1 none (some e) v H=some (f,lg)):f.ls=[]:=by
 unfold R1 at h;simp only at h;split at h
 ·have:=j6.pure_some h;injection this with h1 h2;rw [h1]
 (try rw [if_neg he] at h)
 cases v<;>try (cases h;done)
 case nil=>
  have:=j6.pure_some h;injection this with h1 h2;rw [h1]
 case own g j sz lo n=>
  cases lo with
  | succ q=>cases h
  | zero=>
   simp only at h;obtain ⟨en,l1,l2,hrd,hp,_⟩:=j6.bind_some h;cases en<;>try (cases hp;done)
   case row=>
    simp only at hp;split at hp<;>try (cases hp;done)
    have:=j6.pure_some hp;injection this with h1 h2;rw [h1]
   case deep o _ _ _ _=>
    cases o<;>try (cases hp;done)
    simp only at hp;split at hp<;>try (cases hp;done)
    have:=j6.pure_some hp;injection this with h1 h2;rw [h1]
theorem e4m{g j idx off e:Nat}{r:List V}{ps:List Prop}(h:t7 Γ F ι S a w)(hf:a5S (.plug g j idx off r e) S=some (S',ps))(hob:∀p∈ps,p):t7 Γ F ι S' a w:=by
 unfold a5S at hf;simp only at hf;split at hf<;>try (cases hf;done)
 rename_i o t sz n rows g' j' sz' lo n' he hv;split at hf<;>try (cases hf;done)
 rename_i f lg hm;split at hf<;>try (cases hf;done)
 rename_i hcond;injection hf with hf;injection hf with h1 h2;subst h1;subst h2;obtain ⟨⟨hoff,hks,hgj⟩,hpe⟩:=hcond;have hr:rows[idx]?=some r:=hob _ (by simp);obtain ⟨flat,fs,hor,hkl,hrn,hl,hnd,hnr⟩:=h.ents g j _ he;have hidx:=(e9T.1 hr).1;have hpos:idx*sz+sz<=n*sz:=by rw [<-f0A];exact f0b _ (by omega)
 have hle:idx*sz+off+1<=rows.flatten.length:=by rw [a3y hl,hrn];omega
 have hmid:(rows.flatten.drop (idx*sz+off)).take 1=[.own g' j' sz' lo n']:=by
  have:(rows.flatten.drop (idx*sz+off)).take 1=(r.drop off).take 1:=by
   rw [<-b1g hl hr,List.drop_take,List.take_take,f09];congr 1
   omega
  rw [this];obtain ⟨hlt,hv'⟩:=e9T.1 hv;rw [e98 hlt,hv'];rfl
 obtain ⟨fa,fm,fb,rfl,ka,km,kb⟩:=hkl.cut hle;rw [hmid] at km;obtain ⟨c,hc,hkc⟩:∃c,(flat.drop (idx*sz+off)).take 1=[c]/\RC w F S.D ι (.own g' j' sz' lo n') c:=by
  generalize (flat.drop (idx*sz+off)).take 1=cs at km;cases km with
  | cons v c f vs cs fs h t=>
   cases t;refine ⟨c,rfl,?_⟩;cases h with
   | rc h=>exact h
   | bc _ h=>cases h with
    | fv _ _ h=>exact .fv _ _ h
 obtain ⟨fp,hb,hfps,_⟩:=c3i (F1:=F) h (fun _ x=>x) hkc hm (fun p hp=>hob p (e9V.2 (.inr hp))) (by rw [d4W hpe hm];intro id hid;cases hid);have hbl:BL w F [f.v] [c] fp:=by
  have:=BL.cons _ _ _ _ _ _ hb .nil;simpa using this
 refine h.dput he hr (by simpa using hoff) hbl hfps (a3O hks) (fun q=>by rw [a5h.2 q] at hgj;cases hgj) ⟨rfl,rfl,rfl⟩ rfl (fun _ _=>rfl) ?_;intro flat2 ho2;have:=a8O ho2 hor (fun _ _=>rfl);subst this;have e1:A5 flat2 (idx*sz+off) [c]=flat2:=by
  unfold A5;rw [<-hc,e92];have hl1:((flat2.drop (idx*sz+off)).take 1).length=1:=by rw [hc];rfl
  rw [hl1];have e2:∀k:Nat,flat2.take k++((flat2.drop k).take 1++flat2.drop (k+1))=flat2:=fun k=>by
   rw [<-f09,f0s,f0s]
  exact e2 _
 rw [e1];exact ho2
theorem e0v{g j n':Nat}{rows':List (List V)}{ps:List Prop}(h:t7 Γ F ι S a w)(hf:a5S (.shut g j n' rows') S=some (S',ps))(hob:∀p∈ps,p):t7 Γ F ι S' a w:=by
 unfold a5S at hf;simp only at hf;split at hf<;>try (cases hf;done)
 rename_i o t sz n rows he;injection hf with hf;injection hf with h1 h2;subst h1;subst h2;have hrr:rows=rows':=hob _ (by simp);have hnr:F3 rows':=hob _ (by simp);have hnn:n=n':=hob _ (by simp);subst hrr;subst hnn;refine h.write he rfl ⟨rfl,rfl,rfl⟩ rfl (fun _ _=>rfl) (fun _ => ?_) (fun k hk=>hk);obtain ⟨flat,fs,q1,q2,q3,q4,q5,q6⟩:=h.ents g j _ he;exact ⟨flat,fs,q1,q2.mono (fun _ _ _=>rfl) (fun _ x=>x) (fun k x=>P7.2 x) (fun _ _ _=>rfl) (fun _ _=>rfl),q3,q4,q5,fun _=>hnr⟩
theorem e43{f:Fix}{ps:List Prop}(h:t7 Γ F ι S a w)(hf:a5S f S=some (S',ps))(hob:∀p∈ps,p):∃F' ι',t7 Γ F' ι' S' a w:=by
 unfold a5S at hf;split at hf
 ·rename_i l e sz;split at hf<;>try (cases hf;done)
  rename_i hg;injection hf with hf;injection hf with hf hf2;subst hf;have hn:¬(S.more 1).D S.h.length:=fun q=>by
   obtain ⟨x,hx⟩:=a8S.1 q;have:=(e9T.1 hx).1;omega
  have hlen:S.h.length<(S.more 1).h.length:=by simp [St.more,a3G]
  have hor:OR w F e sz (.slice none 0 0) 0 []:=⟨[],⟨by simp,.inl ⟨rfl,rfl⟩⟩,.nil,rfl,by simp⟩
  have hno:∀(j:Nat) (e':s4) (k:Nat),([.row e sz 0 []]:List s4)[j]?=some e'->EB w e' (K9 ι S.h.length (.slice none 0 0) S.h.length j) k->False:=by
   intro j e' k he hk;rw [O2] at hk;cases j with
   | zero=>
    simp at he;subst he;cases hk
   | succ j=>simp at he
  have h1:=(h.more 1).lay hlen hn (new:=[.row e sz 0 []]) (ι':=K9 ι S.h.length (.slice none 0 0)) (fun g j q=>a8x q)
   (fun j e' he=>by
    cases j with
    | zero=>
     simp at he;subst he;rw [O2];exact hor
    | succ j=>simp at he)
   (fun j e' k he hl hk=>(hno j e' k he hk).elim)
   (fun j e' j' e'' k he he' hl hl' hk hk'=>(hno j e' k he hk).elim)
   (fun j e' g' j' e'' k he he' hl hl' hk=>(hno j e' k he hk).elim)
  refine ⟨F,_,h1.putL (c7C (c6B hg) hn) rfl fun c hc => ?_⟩;have hcn:c=.slice none 0 0:=by
   cases hc with
   | fv v c hc=>cases hc;rfl
  subst hcn;exact RC.whole (a0y hlen) O2 hor
 ·rename_i l ck;split at hf<;>try (cases hf;done)
  rename_i v hg;split at hf<;>try (cases hf;done)
  rename_i hcell;split at hf<;>try (cases hf;done)
  rename_i v' us fps lg hz;injection hf with hf;injection hf with hf hf2;subst hf;subst hf2;have hfr:∀c,RC w F S.D ι v c->∃F',(∀k,F k->F' k)/\t7 Γ F' ι (S.upds us) a w/\Frz S (S.upds us)/\FV w F' v' c:=fun c hc=>b3y h (Frz.refl S) hc hz hob
  have hat:∃c,RC w F S.D ι v c:=by
   cases l with
   | tmp t=>
    obtain ⟨c,_,hv⟩:=h.tmps.get hg;exact ⟨c,hv.isCell hcell⟩
   | sub t i=>
    unfold St.get at hg;simp only at hg;split at hg<;>try (cases hg;done)
    rename_i cs hcs;obtain ⟨c,_,hv⟩:=h.tmps.get hcs;cases hv with
    | one v c hv=>
     cases hv with
     | cell v c hv=>cases hv with|fv v c hv=>cases hv
     | agg cs ds hv=>
      obtain ⟨c,_,hv⟩:=hv.get hg;exact ⟨c,hv⟩
   | cell g j i=>
    unfold St.get at hg;simp only at hg;split at hg<;>try (cases hg;done)
    rename_i e cs hcs;obtain ⟨g0,cur,h1,h2,h3⟩:=h.ents g j _ hcs;obtain ⟨c,_,hv⟩:=h3.get hg;exact ⟨c,hv⟩
  obtain ⟨c0,hc0⟩:=hat;obtain ⟨F',hF,hrel,hfz,hfv⟩:=hfr c0 hc0;clear hfr hfv;cases l with
  | tmp t=>
   obtain ⟨c,hct,hv⟩:=h.tmps.get hg;obtain ⟨F',hF,hrel,hfz,hfv⟩:=b3y h (Frz.refl S) (hv.isCell hcell) hz hob;refine ⟨F',ι,?_⟩;have ht:(S.upds us).t=S.t:=hfz.2.2.1;show t7 Γ F' ι {S.upds us with t:=(S.upds us).t.set t v'} a w
   refine hrel.withT ?_;have:=hrel.tmps.set t (b:=c) (.one _ _ (.cell _ _ (.fv _ _ hfv)));rwa [a0a hct] at this
  | sub t i=>
   unfold St.get at hg;simp only at hg;split at hg<;>try (cases hg;done)
   rename_i cs hcs;obtain ⟨c,hct,hv⟩:=h.tmps.get hcs;cases hv with
   | one v c hv=>
    cases hv with
    | cell v c hv=>cases hv with|fv v c hv=>cases hv
    | agg cs ds hv=>
     obtain ⟨c,hci,hvi⟩:=hv.get hg;obtain ⟨F',hF,hrel,hfz,hfv⟩:=b3y h (Frz.refl S) hvi hz hob;refine ⟨F',ι,?_⟩;have ht:(S.upds us).t=S.t:=hfz.2.2.1;unfold St.put;simp only [ht,hcs];have h2:=hrel.tmps;rw [ht] at h2;have:=hrel.withT (t:=S.t.set t (.agg (cs.set i v'))) ?_
     ·exact this
     ·have hagg:=h2.get hcs;obtain ⟨c',hct',hv'⟩:=hagg;rw [hct] at hct';injection hct' with hct';have hv2:v6 (RC w F' (S.upds us).D ι) cs ds:=by
       refine hv.imp fun _ _ x=>x.mono (fun _ _ _=>rfl) hF (fun k y=>(a0d S k us).2 y) (fun _ _ _=>rfl)
      have hset:=hv2.set i (b:=c) (.fv _ _ hfv);rw [a0a hci] at hset;have:=h2.set t (b:=.agg ds.toArray) (.one _ _ (.agg _ _ hset));rwa [a0a hct] at this
  | cell g j i=>
   unfold St.get at hg;simp only at hg;split at hg<;>try (cases hg;done)
   rename_i e cs hcs;obtain ⟨g0,cur,q1,q2,q3⟩:=h.ents g j _ hcs;obtain ⟨c,hci,hvi⟩:=q3.get hg;obtain ⟨F',hF,hrel,hfz,hfv⟩:=b3y h (Frz.refl S) hvi hz hob;refine ⟨F',ι,?_⟩;have hcs':(S.upds us).ent g j=some (.var e cs):=by
    rcases hfz.2.2.2 _ _ _ hcs with q|⟨e',sz,n,rows,q,_⟩
    ·exact q
    ·cases q
   unfold St.put;simp only [hcs'];refine hrel.write hcs' rfl ⟨rfl,rfl,rfl⟩ rfl (fun _ _=>rfl) (fun _ => ?_) (fun _ hk=>hk);have hset:=(q3.imp fun _ _ x=>RC.mono (D':=((S.upds us).setE g j (.var e (cs.set i v'))).D) (F':=F') (w':=w) (ι':=ι) (fun _ _ _=>rfl) hF (fun k y=>P7.2 ((a0d S k us).2 y)) (fun _ _ _=>rfl) x).set i (b:=c) (.fv _ _ hfv);rw [a0a hci] at hset;exact ⟨g0,cur,q1,q2,hset⟩
 ·rename_i l v';split at hf<;>try (cases hf;done)
  rename_i v hg;split at hf<;>try (cases hf;done)
  rename_i hcell;injection hf with hf;injection hf with hf hf2;subst hf;subst hf2;have:v=v':=hob _ (by simp);subst this;exact ⟨F,ι,h.putL hg hcell fun _ x=>x⟩
 ·rename_i g j e';split at hf<;>try (cases hf;done)
  rename_i e he;injection hf with hf;injection hf with hf hf2;subst hf;subst hf2;have:e=e':=hob _ (by simp);subst this;have hset:S.setE g j e=S:=by
   obtain ⟨l,hl⟩:=St.D_of_ent he;rw [a2E hl];rw [a1c hl] at he;rw [a0a he,a0a hl]
  rw [hset];exact ⟨F,ι,h⟩
 ·rename_i g j idx off r e;exact ⟨F,ι,e4m (g:=g) (j:=j) (idx:=idx) (off:=off) (r:=r) (e:=e) h hf hob⟩
 ·rename_i g j;split at hf<;>try (cases hf;done)
  rename_i e he;injection hf with hf;injection hf with hf hf2;subst hf;exact ⟨F,ι,h.kill he⟩
 ·rename_i g j n' rows';exact ⟨F,ι,e0v (g:=g) (j:=j) (n':=n') (rows':=rows') h hf hob⟩
 ·rename_i l e sz;split at hf<;>try (cases hf;done)
  rename_i hg;injection hf with hf;injection hf with hf hf2;subst hf;have hn:¬(S.more 1).D S.h.length:=fun q=>by
   obtain ⟨x,hx⟩:=a8S.1 q;have:=(e9T.1 hx).1;omega
  have hlen:S.h.length<(S.more 1).h.length:=by simp [St.more,a3G]
  have hor:OR w F e sz (.slice none 0 0) 0 []:=⟨[],⟨by simp,.inl ⟨rfl,rfl⟩⟩,.nil,rfl,by simp⟩
  have hno:∀(j:Nat) (e':s4) (k:Nat),([.deep false e sz 0 []]:List s4)[j]?=some e'->EB w e' (K9 ι S.h.length (.slice none 0 0) S.h.length j) k->False:=by
   intro j e' k he hk;rw [O2] at hk;cases j with
   | zero=>
    simp at he;subst he;have:=(EB.deep_iff (F:=F) (D:=S.D) (ι:=ι) (flat:=[]) (fs:=[]) ⟨by simp,.inl ⟨rfl,rfl⟩⟩ .nil).1 hk;simp [D4,B5] at this
   | succ j=>simp at he
  have h1:=(h.more 1).lay hlen hn (new:=[.deep false e sz 0 []]) (ι':=K9 ι S.h.length (.slice none 0 0)) (fun g j q=>a8x q)
   (fun j e' he=>by
    cases j with
    | zero=>
     simp at he;subst he;rw [O2];exact ⟨[],[],⟨by simp,.inl ⟨rfl,rfl⟩⟩,.nil,rfl,by simp,by simp [D4,B5],fun _=>by simp [F3]⟩
    | succ j=>simp at he)
   (fun j e' k he hl hk=>(hno j e' k he hk).elim)
   (fun j e' j' e'' k he he' hl hl' hk hk'=>(hno j e' k he hk).elim)
   (fun j e' g' j' e'' k he he' hl hl' hk=>(hno j e' k he hk).elim)
  refine ⟨F,_,h1.putL (c7C (c6B hg) hn) rfl fun c hc => ?_⟩;have hcn:c=.slice none 0 0:=by
   cases hc with
   | fv v c hc=>cases hc;rfl
  subst hcn;exact RC.whole (a0y hlen) O2 hor
theorem d7K(fs:List Fix):∀{S:St} {F:Nat->Prop} {ι:Nat->Nat->Value} {ps:List Prop},t7 Γ F ι S a w->b2z fs S=some (S',ps)->(∀p∈ps,p)->∃F' ι',t7 Γ F' ι' S' a w:=by
 induction fs with
 | nil=>
  intro S F ι ps h hf hob;injection hf with hf;injection hf with hf hf2;subst hf;exact ⟨F,ι,h⟩
 | cons f fs ih=>
  intro S F ι ps h hf hob;unfold b2z at hf;cases h1:a5S f S with
  | none=>rw [h1] at hf;cases hf
  | some x1=>
  obtain ⟨S1,ps1⟩:=x1;rw [h1] at hf;simp only at hf;cases h2:b2z fs S1 with
  | none=>rw [h2] at hf;cases hf
  | some x2=>
  obtain ⟨S2,ps2⟩:=x2;rw [h2] at hf;simp only at hf;injection hf with hf;injection hf with hf hf2;subst hf;subst hf2;obtain ⟨F1,ι1,h3⟩:=e43 h h1 (fun p hp=>hob p (e9P.2 (.inl hp)));exact ih h3 h2 (fun p hp=>hob p (e9P.2 (.inr hp)))
end
def a6y:List (Nat×Nat)->Nat×Nat->Nat->Option Nat
 | [],_,_=>none
 | y::l,x,i=>if y.1==x.1&&y.2==x.2 then some i else a6y l x (i+1)
def a9r(gs:List (Nat×Nat))(g j:Nat):Option (Nat×Nat):=
 match a6y gs (g,j) 1 with
 | some i=>some (i,0)
 | none=>match g with
  | 0=>some (0,j)
  | _+1=>none
def U7(gs:List (Nat×Nat))(v:V):V:=
 match v with
 | .own g j sz lo n=>match a9r gs g j with
  | some (g',j')=>.own g' j' sz lo n
  | none=>.bot
 | .ptr g j off=>match a9r gs g j with
  | some (g',j')=>.ptr g' j' off
  | none=>.bot
 | .eptr g j sz idx off=>match a9r gs g j with
  | some (g',j')=>.eptr g' j' sz idx off
  | none=>.bot
 | .fptr _=>.bot
 | .mp g j=>match a9r gs g j with
  | some (g',j')=>.mp g' j'
  | none=>.bot
 | v=>v
def b1F(gs:List (Nat×Nat))(v:V):V:=
 match v with
 | .agg cs=>.agg (cs.map (U7 gs))
 | v=>U7 gs v
def c2T(gs:List (Nat×Nat))(v:V):V:=
 match v with
 | .tup cs=>.tup (cs.map (b1F gs))
 | v=>b1F gs v
def a7h(gs:List (Nat×Nat))(e:s4):s4:=
 match e with
 | .var e cs=>.var e (cs.map (U7 gs))
 | .deep true _ _ _ _=>.dead
 | e=>e
def a8p(gs:List (Nat×Nat)):Nat->List Nat->List V->List V
 | _,_,[]=>[]
 | i,[],_::vs=>.bot::a8p gs (i+1) [] vs
 | i,k::ks,v::vs=>if Nat.beq k i then c2T gs v::a8p gs (i+1) ks vs else .bot::a8p gs (i+1) (k::ks) vs
def a77(S:St)(gs0:List (Nat×Nat)):List (Nat×Nat)->List (Option (List s4))
 | []=>[]
 | id::gs=>some [match S.ent id.1 id.2 with
  | some e=>a7h gs0 e
  | none=>.dead]::a77 S gs0 gs
def a8Y(gs:List (Nat×Nat)):Nat->List s4->List s4
 | _,[]=>[]
 | j,e::es=>(match a6y gs (0,j) 1 with
  | some _=>.dead
  | none=>a7h gs e)::a8Y gs (j+1) es
def a0S(keep:List Nat)(gs:List (Nat×Nat))(S:St):Option St:=
 if a2c gs then
  some {t:=a8p gs 0 keep S.t,h:=(match S.h with
   | some l::_=>some (a8Y gs 0 l)
   | _=>none)::a77 S gs gs}
 else none
section
variable {cx:Cx} {Γ:N0} {F:Nat->Prop} {ι:Nat->Nat->Value} {S S':St} {a:Act} {w:World} {keep:List Nat}
theorem c6k:∀{l:List (Nat×Nat)} {x:Nat×Nat} {i k:Nat},a6y l x i=some k->i<=k/\l[k-i]?=some x
 | [],x,i,k,h=>by cases h
 | y::l,x,i,k,h=>by
  unfold a6y at h;split at h
  ·rename_i q;injection h with h;subst h;simp at q;have:y=x:=Prod.ext q.1 q.2;exact ⟨f0q _,by simp [this]⟩
  ·obtain ⟨h1,h2⟩:=c6k h;refine ⟨by omega,?_⟩;have:k-i=(k-(i+1))+1:=by omega
   rw [this];simpa using h2
def a3N(ι:Nat->Nat->Value)(gs:List (Nat×Nat))(g j:Nat):Value:=
 match g with
 | 0=>ι 0 j
 | g+1=>match gs[g]? with
  | some id=>ι id.1 id.2
  | none=>.nilFunc
theorem c1d{gs0:List (Nat×Nat)}:∀{gs:List (Nat×Nat)} {i:Nat} {id:Nat×Nat},gs[i]?=some id->(a77 S gs0 gs)[i]?=some (some [match S.ent id.1 id.2 with
  | some e=>a7h gs0 e
  | none=>.dead])
 | id'::gs,0,id,h=>by simp at h;subst h;simp [a77]
 | id'::gs,i+1,id,h=>by simp at h;simp [a77,c1d h]
theorem d3B{gs0:List (Nat×Nat)}:∀{gs:List (Nat×Nat)},(a77 S gs0 gs).length=gs.length
 | []=>rfl
 | _::gs=>by simp [a77,d3B]
theorem c8i{gs:List (Nat×Nat)}(hp:a0S keep gs S=some S')(hD:S.D 0):S'.D 0:=by
 unfold a0S at hp;split at hp<;>try (cases hp;done)
 injection hp with hp;subst hp;obtain ⟨l,hl⟩:=hD;have:∃t,S.h=some l::t:=by
  cases hh:S.h with
  | nil=>rw [hh] at hl;simp at hl
  | cons x t=>rw [hh] at hl;simp at hl;exact ⟨t,by rw [hl]⟩
 obtain ⟨t,ht⟩:=this;rw [ht];exact ⟨_,rfl⟩
theorem b19{gs:List (Nat×Nat)}(hp:a0S keep gs S=some S'){g j g' j':Nat}(hn:a9r gs g j=some (g',j'))(hD:S.D g):S'.D g'/\a3N ι gs g' j'=ι g j:=by
 unfold a9r at hn;split at hn
 ·rename_i i hi;injection hn with hn;injection hn with h1 h2;subst h1;subst h2;unfold a0S at hp;split at hp<;>try (cases hp;done)
  injection hp with hp;subst hp;obtain ⟨h3,h4⟩:=c6k hi;obtain ⟨m,rfl⟩:∃m,i=m+1:=⟨i-1,by omega⟩
  simp only [Nat.add_sub_cancel] at h4;refine ⟨⟨_,(f0Y).trans (c1d h4)⟩,?_⟩;simp [a3N,h4]
 ·split at hn<;>try (cases hn;done)
  injection hn with hn;injection hn with h1 h2;subst h1;subst h2;exact ⟨c8i hp hD,rfl⟩
theorem c5b:∀{l:List (Nat×Nat)} {x:Nat×Nat} {i:Nat},a6y l x i=none->x ∉ l
 | [],x,i,_=>by simp
 | y::l,x,i,h=>by
  unfold a6y at h;split at h
  ·cases h
  ·rename_i q;intro hx;rcases e9V.1 hx with rfl|hx
   ·simp at q
   ·exact c5b h hx
theorem c99{gs:List (Nat×Nat)}:∀{l:List s4} {i j:Nat} {e:s4},(a8Y gs i l)[j]?=some e->e=.dead\/∃e0,l[j]?=some e0/\e=a7h gs e0/\(0,i+j) ∉ gs
 | [],i,j,e,h=>by simp [a8Y] at h
 | e1::l,i,0,e,h=>by
  simp only [a8Y,f1d] at h;injection h with h;split at h
  ·exact .inl h.symm
  ·rename_i hq;exact .inr ⟨e1,rfl,h.symm,by simpa using c5b hq⟩
 | e1::l,i,j+1,e,h=>by
  simp only [a8Y,f0Y] at h;rcases c99 h with h1|⟨e0,h1,h2,h3⟩
  ·exact .inl h1
  ·exact .inr ⟨e0,by simpa using h1,h2,by rw [show i+(j+1)=i+1+j by omega];exact h3⟩
theorem RC.ren{gs:List (Nat×Nat)}(hp:a0S keep gs S=some S'){v:V}{c:Value}(h:RC w F S.D ι v c):RC w F S'.D (a3N ι gs) (U7 gs v) c:=by
 cases h with
 | fv v c h=>
  have:U7 gs v=v:=by cases h<;>rfl
  rw [this];exact .fv _ _ h
 | own g j sz lo n b nn cap hD hι hlo hb0 hb1=>
  unfold U7;simp only;split
  ·rename_i g' j' hn;obtain ⟨h1,h2⟩:=b19 (ι:=ι) hp hn hD;exact .own g' j' sz lo n b nn cap h1 (h2.trans hι) hlo hb0 hb1
  ·exact .fv _ _ (.bot _ rfl)
 | own0 g j sz lo b cap hD hlo=>
  unfold U7;simp only;split
  ·rename_i g' j' hn;obtain ⟨h1,h2⟩:=b19 (ι:=ι) hp hn hD;exact .own0 g' j' sz lo b cap h1 hlo
  ·exact .fv _ _ (.bot _ rfl)
 | ptr g j off B5 hD hι=>
  unfold U7;simp only;split
  ·rename_i g' j' hn;obtain ⟨h1,h2⟩:=b19 (ι:=ι) hp hn hD;exact .ptr g' j' off B5 h1 (h2.trans hι)
  ·exact .fv _ _ (.bot _ rfl)
 | eptr g j sz idx off b hD hι=>
  unfold U7;simp only;split
  ·rename_i g' j' hn;obtain ⟨h1,h2⟩:=b19 (ι:=ι) hp hn hD;exact .eptr g' j' sz idx off b h1 (by rw [h2];exact hι)
  ·exact .fv _ _ (.bot _ rfl)
 | fptr cs g o ds hF h hs=>exact .fv _ _ (.bot _ rfl)
 | mp g j B5 hD hι=>
  unfold U7;simp only;split
  ·rename_i g' j' hn;obtain ⟨h1,h2⟩:=b19 (ι:=ι) hp hn hD;exact .mp g' j' B5 h1 (h2.trans hι)
  ·exact .fv _ _ (.bot _ rfl)
theorem v6.maps{α α' β:Type}{R:α->β->Prop}{R':α'->β->Prop}(f:α->α')(hf:∀x y,R x y->R' (f x) y):∀{B4 bs},v6 R B4 bs->v6 R' (B4.map f) bs
 | _,_,.nil=>.nil
 | _,_,.cons h t=>.cons (hf _ _ h) (t.maps f hf)
theorem RA.ren{gs:List (Nat×Nat)}(hp:a0S keep gs S=some S'){v:V}{c:Value}(h:RA w F S.D ι v c):RA w F S'.D (a3N ι gs) (b1F gs v) c:=by
 cases h with
 | cell v c h=>
  have:b1F gs v=U7 gs v:=by
   cases h with
   | fv v c h=>cases h<;>rfl
   | _=>rfl
  rw [this];exact .cell _ _ (h.ren hp)
 | agg cs ds h=>exact .agg _ _ (h.maps _ fun _ _ x=>x.ren hp)
theorem RV.ren{gs:List (Nat×Nat)}(hp:a0S keep gs S=some S'){v:V}{c:Value}(h:RV w F S.D ι v c):RV w F S'.D (a3N ι gs) (c2T gs v) c:=by
 cases h with
 | one v c h=>
  have:c2T gs v=b1F gs v:=by
   cases h with
   | cell v c h=>
    cases h with
    | fv v c h=>cases h<;>rfl
    | _=>rfl
   | agg cs ds h=>rfl
  rw [this];exact .one _ _ (h.ren hp)
 | tup cs ds h=>exact .tup _ _ (h.maps _ fun _ _ x=>x.ren hp)
 | any c=>exact .any c
theorem b8q{gs:List (Nat×Nat)}(hp:a0S keep gs S=some S'):∀{vs:List V} {cs:List Value},v6 (RV w F S.D ι) vs cs->∀(i:Nat) (ks:List Nat),v6 (RV w F S'.D (a3N ι gs)) (a8p gs i ks vs) cs
 | _,_,.nil,i,ks=>by cases ks<;>exact .nil
 | _,_,.cons h t,i,[]=>.cons (.any _) (b8q hp t _ _)
 | _,_,.cons h t,i,k::ks=>by
  unfold a8p;split
  ·exact .cons (h.ren hp) (b8q hp t _ _)
  ·exact .cons (.any _) (b8q hp t _ _)
theorem b3N{gs:List (Nat×Nat)}(hp:a0S keep gs S=some S'){g j:Nat}{e:s4}(he:S'.ent g j=some e):e=.dead\/∃g0 j0 e0,S.ent g0 j0=some e0/\e=a7h gs e0/\a3N ι gs g j=ι g0 j0/\((g=0/\g0=0/\j=j0/\(0,j) ∉ gs)\/(∃i,g=i+1/\j=0/\gs[i]?=some (g0,j0))):=by
 unfold a0S at hp;split at hp<;>try (cases hp;done)
 injection hp with hp;subst hp;cases g with
 | zero=>
  unfold St.ent at he;simp only [f1d] at he;split at he<;>try (cases he;done)
  rename_i l hl;injection hl with hl;split at hl<;>try (cases hl;done)
  rename_i l0 t hh;injection hl with hl;subst hl;rcases c99 he with h1|⟨e0,h1,h2,h3⟩
  ·exact .inl h1
  ·exact .inr ⟨0,j,e0,by unfold St.ent;rw [hh];exact h1,h2,rfl,.inl ⟨rfl,rfl,rfl,by simpa using h3⟩⟩
 | succ i=>
  unfold St.ent at he;simp only [f0Y] at he;split at he<;>try (cases he;done)
  rename_i l hl;have hlt:i<gs.length:=by
   have:=(e9T.1 hl).1;rwa [d3B] at this
  have hgi:gs[i]?=some gs[i]:=e9N hlt;generalize gs[i]=id at hgi;rw [c1d hgi] at hl;injection hl with hl;injection hl with hl;subst hl;cases j with
  | succ j=>simp at he
  | zero=>
   simp only [f1d] at he;injection he with he;cases hx:S.ent id.1 id.2 with
   | none=>rw [hx] at he;exact .inl he.symm
   | some e0=>
    rw [hx] at he;exact .inr ⟨id.1,id.2,e0,hx,he.symm,by simp [a3N,hgi],.inr ⟨i,rfl,rfl,hgi⟩⟩
theorem e33{α:Type}{l:List α}(h:l.Nodup){i j:Nat}{x:α}(hi:l[i]?=some x)(hj:l[j]?=some x):i=j:=by
 obtain ⟨h1,h2⟩:=e9T.1 hi;obtain ⟨h3,h4⟩:=e9T.1 hj;exact (List.getElem_inj h).1 (h2.trans h4.symm)
theorem d5j{gs:List (Nat×Nat)}(h:t7 Γ F ι S a w)(hp:a0S keep gs S=some S'):∃ι',t7 Γ F ι' S' a w:=by
  have hnd:gs.Nodup:=by
    unfold a0S at hp;split at hp<;>try (cases hp;done)
    rename_i hchk;exact a3O hchk
  have hlive:∀e:s4,(a7h gs e).live=true->e.live=true/\∀c k,EB w (a7h gs e) c k->EB w e c k:=by
    intro e he;cases e with
    | deep o e sz n rows=>
      cases o with
      | true=>cases he
      | false=>exact ⟨rfl,fun _ _ hk=>hk⟩
    | _=>exact ⟨he,fun _ _ hk=>hk⟩
  have ht:S'.t=a8p gs 0 keep S.t:=by
    unfold a0S at hp;split at hp<;>try (cases hp;done)
    injection hp with hp;subst hp;rfl
  refine ⟨a3N ι gs,?_⟩;exact
    { F0:=h.F0,F1:=h.F1,F2:=h.F2,kept:=h.kept
      tmps:=by rw [ht];exact b8q hp h.tmps 0 keep
      ents:=fun g j e he=>by
        rcases b3N (ι:=ι) hp he with rfl|⟨g0,j0,e0,h0,rfl,h2,_⟩
        · trivial
        · rw [h2];have hr:=h.ents _ _ _ h0;cases e0 with
          | var e cs=>
            obtain ⟨g1,cur,q1,q2,q3⟩:=hr;exact ⟨g1,cur,q1,q2,q3.maps _ fun _ _ x=>x.ren hp⟩
          | dead=>exact hr
          | arr e sz n rows=>exact hr
          | row e sz n rows=>exact hr
          | frz sz n rows=>exact hr
          | map t m es=>exact hr
          | deep o e sz n rows=>
            cases o with
            | true=>trivial
            | false=>
              obtain ⟨flat,fs,q1,q2,q3,q4,q5,q6⟩:=hr;exact ⟨flat,fs,q1,(q2.blOf (q6 rfl).flat).kl,q3,q4,q5,q6⟩
      sep:=fun g j e k he hl hk=>by
        rcases b3N (ι:=ι) hp he with rfl|⟨g0,j0,e0,h0,rfl,h2,_⟩
        · cases hl
        · rw [h2] at hk;exact h.sep _ _ _ k h0 (hlive _ hl).1 ((hlive _ hl).2 _ _ hk)
      inj:=fun g1 j1 e1 g2 j2 e2 k he1 he2 hl1 hl2 hk1 hk2=>by
        rcases b3N (ι:=ι) hp he1 with rfl|⟨x1,y1,z1,a1,rfl,b1,c1⟩
        · cases hl1
        rcases b3N (ι:=ι) hp he2 with rfl|⟨x2,y2,z2,a2,rfl,b2,c2⟩
        · cases hl2
        rw [b1] at hk1;rw [b2] at hk2;obtain ⟨q1,q2⟩:=h.inj _ _ _ _ _ _ k a1 a2 (hlive _ hl1).1 (hlive _ hl2).1 ((hlive _ hl1).2 _ _ hk1) ((hlive _ hl2).2 _ _ hk2);rcases c1 with ⟨u1,u2,u3,u4⟩|⟨i1,u1,u2,u3⟩<;>rcases c2 with ⟨v1,v2,v3,v4⟩|⟨i2,v1,v2,v3⟩
        · exact ⟨by omega,by omega⟩
        · refine absurd (e93 v3) ?_;rw [<-q1,<-q2,u2,<-u3];exact u4
        · refine absurd (e93 u3) ?_;rw [q1,q2,v2,<-v3];exact v4
        · rw [q1,q2] at u3;have:=e33 hnd u3 v3;exact ⟨by omega,by omega⟩
      defers:=h.defers
      pins:=fun j c hc=>by
        obtain ⟨h1,h2⟩:=h.pins j c hc;exact ⟨c8i hp h1,h2⟩}
end
def a98(cx:Cx)(k:List Item)(S:St)(sc:Q6)(fs:List Fix)(keep:List Nat)(gs:List (Nat×Nat)):Option (List Item×St×List Prop):=
 match goM cx 4000 k S sc with
 | some (k1,S1,ps)=>match b2z fs S1 with
  | some (S2,qs)=>match a0S keep gs S2 with
   | some S3=>some (k1,S3,ps++qs)
   | none=>none
  | none=>none
 | none=>none
theorem I3.seg0{cx:Cx}{X:N6}{res:V}{outs:List (Option V)}{k k':List Item}{S S':St}{sc:Q6}{fs:List Fix}{keep:List Nat}{gs:List (Nat×Nat)}{ps:List Prop}(hg:a98 cx k S sc fs keep gs=some (k',S',ps))(hob:∀p∈ps,p)(h:I3 cx X res outs k' S'):I3 cx X res outs k S:=by
 unfold a98 at hg;split at hg<;>try (cases hg;done)
 rename_i k1 S1 ps' h1;split at hg<;>try (cases hg;done)
 rename_i S2 qs h2;split at hg<;>try (cases hg;done)
 rename_i S3 h3;injection hg with hg;injection hg with e1 e2;injection e2 with e2 e3;subst e1;subst e2;subst e3;refine I3.go h1 (fun p hp=>hob p (e9P.2 (.inl hp))) ?_;intro w0 F0 fp cargs bs hp hF0 F ι a w b cs hrel hb1 hb2;obtain ⟨F',ι',hrel'⟩:=d7K fs hrel h2 (fun p hp=>hob p (e9P.2 (.inr hp)));obtain ⟨ι2,hrel2⟩:=d5j hrel' h3;exact h w0 F0 fp cargs bs hp hF0 F' ι2 a w b cs hrel2 hb1 hb2
def a8w(cx:Cx)(X:N6)(k:List Item)(S:St)(sc:Q6):Option (V×List (Option V)×List Prop):=
 match goM cx 4000 k S sc with
 | some (k1,S1,ps)=>match b99 cx X k1 S1 with
  | some (res,outs,qs)=>some (res,outs,ps++qs)
  | none=>none
 | none=>none
theorem I3.fin0{cx:Cx}{X:N6}{res:V}{outs:List (Option V)}{k:List Item}{S:St}{sc:Q6}{ps:List Prop}(hf:cx.P.funcs[X.f]?=some X.fn)(hg:a8w cx X k S sc=some (res,outs,ps))(hob:∀p∈ps,p):I3 cx X res outs k S:=by
 unfold a8w at hg;split at hg<;>try (cases hg;done)
 rename_i k1 S1 ps' h1;split at hg<;>try (cases hg;done)
 rename_i r o qs h2;injection hg with hg;injection hg with e1 e2;injection e2 with e2 e3;subst e1;subst e2;subst e3;exact I3.go h1 (fun p hp=>hob p (e9P.2 (.inl hp))) (I3.ret hf h2 fun p hp=>hob p (e9P.2 (.inr hp)))
def O4:List Prop->Prop
 | []=>True
 | p::ps=>p/\O4 ps
theorem O4.mem:∀{ps:List Prop},O4 ps->∀p∈ps,p
 | _::_,h,p,hp=>by
  rcases e9V.1 hp with rfl|hp
  ·exact h.1
  ·exact O4.mem h.2 p hp
theorem O4.nil:O4 []:=trivial
theorem I3.seg{cx:Cx}{X:N6}{res:V}{outs:List (Option V)}{k k':List Item}{S S':St}(sc:Q6)(fs:List Fix)(keep:List Nat)(gs:List (Nat×Nat))(ps:List Prop)(hob:O4 ps)(h:I3 cx X res outs k' S')(hg:a98 cx k S sc fs keep gs=some (k',S',ps)):I3 cx X res outs k S:=
 I3.seg0 hg hob.mem h
theorem I3.fin{cx:Cx}{X:N6}{res:V}{outs:List (Option V)}{k:List Item}{S:St}(hf:cx.P.funcs[X.f]?=some X.fn)(sc:Q6)(ps:List Prop)(hob:O4 ps)(hg:a8w cx X k S sc=some (res,outs,ps)):I3 cx X res outs k S:=
 I3.fin0 hf hg hob.mem
def a57:V->Bool
 | .osl .. | .dsl .. | .optr .. => true
 | _=>false
def a03:List (Option Nat)->List V->Bool
 | [],[]=>true
 | none::om,.osl .. :: _=>false
 | none::om,.dsl .. :: _=>false
 | none::om,_::vs=>a03 om vs
 | some _::om,.osl .. :: vs=>a03 om vs
 | some _::om,.dsl .. :: vs=>a03 om vs
 | _,_=>false
def d1l:PM->V->Bool
 | .val _ om,.agg vs=>a03 om vs
 | .val ..,_=>false
 | .part,_=>false
 | _,v=>a57 v
def a3s:Nat->List (Option (Nat×PM))->List V->Bool
 | _,[],[]=>true
 | j,none::os,v::vs=>a3s (j+(I5 0 j v).2.length) os vs
 | j,some (j',m)::os,v::vs=>Nat.beq j' j&&d1l m v&&a3s (j+(I5 0 j v).2.length) os vs
 | _,_,_=>false
def b6v:Nat->List V
 | 0=>[]
 | n+1=>.bot::b6v n
def a9D(X:N6)(args:List V):St:=
 let x:=W7 0 0 args
 {t:=x.1++b6v (X.fn.ntmps-args.length),h:=[some x.2]}
section
variable {w:World} {F:Nat->Prop}
theorem e88{v:V}{c:Value}{f:List Nat}(h:BA w F v c f)(j:Nat):∃bs:List Value,bs.length=(I5 0 j v).2.length/\G6 w (I5 0 j v).2 bs f/\(a57 v=true->bs.head?=some c)/\
  ∀(D:Nat->Prop) (ι:Nat->Nat->Value),D 0->At ι 0 j bs->f.Nodup->RA w F D ι (I5 0 j v).1 c/\Lie w F D ι (I5 0 j v).2 bs:=by
 by_cases ho:a57 v=true
 ·cases h with
  | cell v c f h=>
   cases h with
   | fv v c h=>cases h<;>cases ho
   | osl e sz n rows c h=>
    refine ⟨[c],rfl,.one fun k hk=>P6.2 hk,fun _=>rfl,fun D ι hD hat _=>⟨.cell _ _ (RC.whole hD (hat 0 c rfl) h),?_⟩⟩;intro k e' b he hb;cases k with
    | zero=>
     simp [I5,H7] at he hb;subst he;subst hb;exact h
    | succ k=>simp [I5,H7] at he
   | dsl e sz n rows c flat fs h1 h2 h3 h4=>
    obtain ⟨bs,q1,q2,q3⟩:=b6V (grp:=0) (BC.dsl e sz n rows c flat fs h1 h2 h3 h4) j;refine ⟨[c],rfl,.one fun k hk=>(EB.deep_iff (D:=fun _=>True) (ι:=fun _ _=>.nilFunc) h1 h2.kl).1 hk,fun _=>rfl,fun D ι hD hat hnd=>⟨.cell _ _ (RC.wholeO hD (hat 0 c rfl) h1),?_⟩⟩;intro k e' b he hb;cases k with
    | zero=>
     simp [I5,H7] at he hb;subst he;subst hb;exact ⟨flat,fs,h1,h2.kl,h3,h4,hnd,fun _=>F3.of_flat h2.noRef⟩
    | succ k=>simp [I5,H7] at he
  | agg cs ds f h=>cases ho
  | optr e cs g cur f hg h=>
   obtain ⟨bs,h1,h2,h3⟩:=a7x (grp:=0) h (j+1);refine ⟨.pointer (some ⟨g,0,none⟩)::bs,by simp [I5,h1],?_,fun _=>rfl,fun D ι hD hat hnd => ?_⟩
   ·exact G6.cons (w:=w) (e:=.var e (I9 0 (j+1) cs).1) (b:=.pointer (some ⟨g,0,none⟩)) (f1:=[g]) (fun k hk=>by
     have hk:B5 (.pointer (some ⟨g,0,none⟩))=some k:=hk;simp [B5] at hk;simp [hk]) h2
   have hat':At ι 0 (j+1) bs:=fun k b hb=>by
    have:=hat (k+1) b (by simpa using hb);rw [<-this];congr 1;omega
   obtain ⟨x,y⟩:=h3 D ι hD hat' (f0Q.1 hnd).2;refine ⟨.cell _ _ (.ptr 0 j 0 g hD (hat 0 _ rfl)),?_⟩;intro k e' b he hb;cases k with
   | zero=>
    simp [I5] at he hb;subst he;subst hb;exact ⟨g,cur,rfl,hg,x⟩
   | succ k=>exact y k e' b (by simpa [I5] using he) (by simpa using hb)
 ·obtain ⟨bs,h1,h2,h3⟩:=c2K (grp:=0) h j;exact ⟨bs,h1,h2,fun q=>absurd q ho,h3⟩
theorem c0r{pre b1 b2:List Value}:∀{om:List (Option Nat)} {j:Nat} {ds:List Value},a52 (pre++b1) om j ds->a52 (pre++(b1++b2)) om j ds
 | [],_,[],_=>trivial
 | none::om,j,d::ds,h=>⟨h.1,c0r h.2⟩
 | some _::om,j,d::ds,h=>by
  refine ⟨?_,c0r h.2⟩;have h1:=h.1;rw [<-e92,f0f (e9T.1 h1).1];exact h1
 | [],_,_::_,h=>h.elim
 | none::_,_,[],h=>h.elim
 | some _::_,_,[],h=>h.elim
theorem d0s:∀{vs:List V} {cs:List Value} {f:List Nat},BL w F vs cs f->∀j,∃bs:List Value,bs.length=(I9 0 j vs).2.length/\G6 w (I9 0 j vs).2 bs f/\
    (∀(om:List (Option Nat)) (pre:List Value),pre.length=j->a03 om vs=true->a52 (pre++bs) om j cs)/\
    ∀(D:Nat->Prop) (ι:Nat->Nat->Value),D 0->At ι 0 j bs->f.Nodup->v6 (RC w F D ι) (I9 0 j vs).1 cs/\Lie w F D ι (I9 0 j vs).2 bs
  | _,_,_,.nil,j=>⟨[],rfl,.nil,fun om pre _ h=>by cases om with|nil=>trivial|cons o om=>cases o<;>simp [a03] at h,fun D ι hD hat _=>⟨.nil,fun k e b he=>by simp [I9] at he⟩⟩
  | _,_,_,.cons v c f vs cs fs h t,j=>by
    have hone:=h.one;have hb:∃b1:List Value,b1.length=(H7 0 j v).2.length/\G6 w (H7 0 j v).2 b1 f/\(a57 v=true->b1=[c])/\(a57 v=false->b1=[])/\∀(D:Nat->Prop) (ι:Nat->Nat->Value),D 0->At ι 0 j b1->f.Nodup->RC w F D ι (H7 0 j v).1 c/\Lie w F D ι (H7 0 j v).2 b1:=by
      cases h with
      | fv v c h=>
        obtain ⟨b1,q1,q2,q3⟩:=b6V (grp:=0) (BC.fv (w:=w) v c h) j;have hv:(H7 0 j v).2=[]/\a57 v=false:=by cases h<;>exact ⟨rfl,rfl⟩
        have:b1=[]:=e90 (by rw [q1,hv.1];rfl);exact ⟨b1,q1,q2,fun q=>by (rw [hv.2] at q;cases q),fun _=>this,q3⟩
      | osl e sz n rows c h=>
        refine ⟨[c],rfl,.one fun k hk=>P6.2 hk,fun _=>rfl,(fun q=>by cases q),fun D ι hD hat _=>⟨RC.whole hD (hat 0 c rfl) h,?_⟩⟩;intro k e' b he hb;cases k with
        | zero=>
          simp [H7] at he hb;subst he;subst hb;exact h
        | succ k=>simp [H7] at he
      | dsl e sz n rows c flat fs h1 h2 h3 h4=>
        refine ⟨[c],rfl,.one fun k hk=>(EB.deep_iff (D:=fun _=>True) (ι:=fun _ _=>.nilFunc) h1 h2.kl).1 hk,fun _=>rfl,(fun q=>by cases q),fun D ι hD hat hnd=>⟨RC.wholeO hD (hat 0 c rfl) h1,?_⟩⟩;intro k e' b he hb;cases k with
        | zero=>
          simp [H7] at he hb;subst he;subst hb;exact ⟨flat,fs,h1,h2.kl,h3,h4,hnd,fun _=>F3.of_flat h2.noRef⟩
        | succ k=>simp [H7] at he
    obtain ⟨b1,hl1,hf1,hi1,hi0,h1⟩:=hb;obtain ⟨b2,hl2,hf2,hp2,h2⟩:=d0s t (j+(H7 0 j v).2.length);refine ⟨b1++b2,by simp [I9,hl1,hl2],hf1.append hf2 hl1,?_,fun D ι hD hat hnd => ?_⟩
    · intro om pre hpre hok;have hnext:∀om,a03 om vs=true->a52 (pre++(b1++b2)) om (j+(H7 0 j v).2.length) cs:=by
        intro om hok;have:=hp2 om (pre++b1) (by simp [hpre,hl1]) hok;rwa [e92] at this
      cases om with
      | nil=>simp [a03] at hok
      | cons o om=>
        by_cases hv:a57 v=true
        · obtain rfl:=hi1 hv;have hlen:(H7 0 j v).2.length=1:=by rw [<-hl1];rfl
          rw [hlen] at hnext;cases o with
          | none => cases v<;>first|(cases hv;done)|(simp [a03] at hok;done)|skip
                    cases h;rename_i h;cases h
          | some e=>
            refine ⟨?_,hnext om ?_⟩
            · rw [e96 (by omega)];simp [hpre]
            · cases v<;>first|(cases hv;done)|(simpa [a03] using hok)|(simp [a03] at hok;done)
        · have hv:a57 v=false:=by simpa using hv
          obtain rfl:=hi0 hv;have hlen:(H7 0 j v).2.length=0:=by rw [<-hl1];rfl
          rw [hlen] at hnext;cases o with
          | none=>
            refine ⟨hone,hnext om ?_⟩;cases v<;>first|(cases hv;done)|(simpa [a03] using hok)
          | some e=>cases v<;>first|(cases hv;done)|(simp [a03] at hok;done)
    · rw [e9X] at hnd;obtain ⟨x1,y1⟩:=h1 D ι hD hat.left hnd.1;obtain ⟨x2,y2⟩:=h2 D ι hD (by rw [<-hl1];exact hat.right) hnd.2.1;exact ⟨.cons x1 x2,y1.append y2 hl1.symm⟩
theorem d4L{v:V}{c:Value}{f:List Nat}(h:BA w F v c f)(j:Nat):∃bs:List Value,bs.length=(I5 0 j v).2.length/\G6 w (I5 0 j v).2 bs f/\
  (∀(m:PM) (oms:List (Option (Nat×PM))) (cs pre b2:List Value),pre.length=j->d1l m v=true->a1g oms cs (pre++(bs++b2))->a1g (some (j,m)::oms) (c::cs) (pre++(bs++b2)))/\
  ∀(D:Nat->Prop) (ι:Nat->Nat->Value),D 0->At ι 0 j bs->f.Nodup->RA w F D ι (I5 0 j v).1 c/\Lie w F D ι (I5 0 j v).2 bs:=by
 by_cases hv:∃cs,v=.agg cs
 ·obtain ⟨cs,rfl⟩:=hv;cases h with
  | cell v c f h=>cases h with|fv v c h=>cases h
  | agg cs ds f h=>
   obtain ⟨bs,h1,h2,hp,h3⟩:=d0s h j;refine ⟨bs,h1,h2,?_,fun D ι hD hat hnd=>⟨.agg _ _ (h3 D ι hD hat hnd).1,(h3 D ι hD hat hnd).2⟩⟩;intro m oms cs' pre b2 hpre hm t;cases m with
   | val ck om=>exact .agg _ _ _ _ _ _ _ (c0r (hp om pre hpre hm)) t
   | ptr ck om=>cases hm
   | row=>cases hm
   | part=>cases hm
 ·obtain ⟨bs,h1,h2,hh,h3⟩:=e88 h j;refine ⟨bs,h1,h2,?_,h3⟩;intro m oms cs' pre b2 hpre hm t;cases m with
  | val ck om=>cases v<;>first|exact absurd ⟨_,rfl⟩ hv|cases hm
  | part=>cases hm
  | ptr ck om=>
   refine .pin _ _ _ _ _ _ rfl ?_ t;have:=hh hm;cases bs with
   | nil=>cases this
   | cons b b1=>
    injection this with this;subst this;rw [e96 (by omega)];simp [hpre]
  | row=>
   refine .pin _ _ _ _ _ _ rfl ?_ t;have:=hh hm;cases bs with
   | nil=>cases this
   | cons b b1=>
    injection this with this;subst this;rw [e96 (by omega)];simp [hpre]
theorem e57{vs:List V}{cs:List Value}{f:List Nat}(h:BS w F vs cs f):∀j,∃bs:List Value,bs.length=(W7 0 j vs).2.length/\G6 w (W7 0 j vs).2 bs f/\
  (∀(oms:List (Option (Nat×PM))) (pre:List Value),pre.length=j->a3s j oms vs=true->a1g oms cs (pre++bs))/\
  ∀(D:Nat->Prop) (ι:Nat->Nat->Value),D 0->At ι 0 j bs->f.Nodup->v6 (RA w F D ι) (W7 0 j vs).1 cs/\Lie w F D ι (W7 0 j vs).2 bs:=by
 induction h with
 | nil=>
  refine fun j=>⟨[],rfl,.nil,fun oms pre _ hp => ?_,fun D ι hD hat _=>⟨.nil,fun k e b he=>by simp [W7] at he⟩⟩
  cases oms with
  | nil=>exact .nil _
  | cons o oms=>cases o<;>simp [a3s] at hp
 | cons v c f vs cs fs h t ih=>
  intro j;obtain ⟨b1,hl1,hf1,hh1,h1⟩:=d4L h j;obtain ⟨b2,hl2,hf2,hp2,h2⟩:=ih (j+(I5 0 j v).2.length);refine ⟨b1++b2,by simp [W7,hl1,hl2],hf1.append hf2 hl1,?_,fun D ι hD hat hnd => ?_⟩
  ·intro oms pre hpre hp;cases oms with
   | nil=>simp [a3s] at hp
   | cons o oms=>
    have hnext:∀oms,a3s (j+(I5 0 j v).2.length) oms vs=true->a1g oms cs (pre++(b1++b2)):=by
     intro oms hp;have:=hp2 oms (pre++b1) (by simp [hpre,hl1]) hp;rwa [e92] at this
    cases o with
    | none=>exact .skip _ _ _ _ (hnext oms (by simpa [a3s] using hp))
    | some q=>
     obtain ⟨j',m⟩:=q;simp only [a3s,e9R] at hp;obtain ⟨⟨e1,e2⟩,e3⟩:=hp;have hj:j'=j:=f0n e1;subst hj;exact hh1 m oms cs pre b2 hpre e2 (hnext oms e3)
  ·rw [e9X] at hnd;obtain ⟨x1,y1⟩:=h1 D ι hD hat.left hnd.1;obtain ⟨x2,y2⟩:=h2 D ι hD (by rw [<-hl1];exact hat.right) hnd.2.1;exact ⟨.cons x1 x2,y1.append y2 hl1.symm⟩
theorem c9B{D:Nat->Prop}{ι:Nat->Nat->Value}:∀n,v6 (RV w F D ι) (b6v n) (e9O n undef)
 | 0=>.nil
 | n+1=>.cons (.any _) (c9B n)
theorem BS.len{vs:List V}{cs:List Value}{f:List Nat}(h:BS w F vs cs f):vs.length=cs.length:=by
 induction h with
 | nil=>rfl
 | cons _ _ _ _ _ _ _ _ ih=>simp [ih]
end
theorem a1n.of{cx:Cx}{X:N6}{args:List V}{res:V}{outs:List (Option V)}{c:Code}(hf:cx.P.funcs[X.f]?=some X.fn)(hb:X.fn.body=some c) (hn:(X.fn.name == "runtime.NumGoroutine")=false) (ho:a3s 0 X.oms args=true)
    (h:I3 cx X res outs [.code c] (a9D X args)):a1n cx.P X.f args res outs:=by
  refine ⟨⟨X.fn,hf,hn,by rw [hb];rfl⟩,?_⟩;intro w F cargs fp hbs hfpn hfp hF;obtain ⟨bs,hl,hbf,hpin,hlie⟩:=e57 hbs 0;have hpin':=hpin X.oms [] rfl ho;rw [f0H] at hpin';obtain ⟨hargs,hents⟩:=hlie (a9D X args).D (a4E (fun _ _=>.nilFunc) 0 bs) ⟨_,rfl⟩ (fun k b hb=>by rw [f0y];exact a4j hb) hfpn;have hent:∀g j e,(a9D X args).ent g j=some e->g=0/\(W7 0 0 args).2[j]?=some e:=by
    intro g j e he;unfold St.ent a9D at he;cases g with
    | zero=>exact ⟨rfl,he⟩
    | succ g=>simp at he
  have hget:∀j e,(W7 0 0 args).2[j]?=some e->∃b,bs[j]?=some b/\a4E (fun _ _=>.nilFunc) 0 bs 0 j=b:=by
    intro j e he;have hj:j<bs.length:=by rw [hl];exact (e9T.1 he).1
    exact ⟨bs[j],e9N hj,a4j (e9N hj)⟩
  have hrel:t7 ⟨w,F,(· ∈ fp),bs⟩ F (a4E (fun _ _=>.nilFunc) 0 bs) (a9D X args) {tmps:=cargs.toArray++Array.replicate (X.fn.ntmps-cargs.toArray.size) undef,defers:=[]} w:=
    { F0:=fun _ x=>x,F1:=hF,F2:=fun _ x=>.inl x,kept:=.refl _ _
      tmps:=by
        show v6 _ ((W7 0 0 args).1++b6v (X.fn.ntmps-args.length)) _
        simp only [Array.toList_append,Array.toList_replicate,f1i];rw [hbs.len];exact (hargs.imp fun _ _ x=>RV.one _ _ x).app (c9B _)
      ents:=fun g j e he=>by
        obtain ⟨rfl,he⟩:=hent g j e he;obtain ⟨b,hb,hv⟩:=hget j e he;rw [hv];exact hents j e b he hb
      sep:=fun g j e k he hl' hk=>by
        obtain ⟨rfl,he⟩:=hent g j e he;obtain ⟨b,hb,hv⟩:=hget j e he;rw [hv] at hk;have:=hbf.mem he hb hk;exact ⟨(hfp k this).1,.inl this⟩
      inj:=fun g j e g' j' e' k he he' hl1 hl2 hk hk'=>by
        obtain ⟨rfl,he⟩:=hent g j e he;obtain ⟨rfl,he'⟩:=hent g' j' e' he';obtain ⟨b,hb,hv⟩:=hget j e he;obtain ⟨b',hb',hv'⟩:=hget j' e' he';rw [hv] at hk;rw [hv'] at hk';exact ⟨rfl,hbf.inj hfpn he hb hk he' hb' hk'⟩
      defers:=rfl
      pins:=fun j c hc=>⟨⟨_,rfl⟩,a4j hc⟩}
  intro cs;let b:Frame:={ (default:Frame) with fn:=X.f,kind:=.normal}
  have henter:Frame.enter cx.P X.f cargs.toArray .normal =
      b.at {tmps:=cargs.toArray++Array.replicate (X.fn.ntmps-cargs.toArray.size) undef,defers:=[]} [.code c]:=by
    simp [Frame.enter,Frame.at,hf,hb,b]
  obtain ⟨e,w',fr,h1,h2,h3,h4⟩:=h w F fp cargs bs hpin' hF F _ _ w b cs hrel rfl rfl;rw [<-henter] at h2;exact ⟨e,w',fr,h1,h2,h3,h4⟩
inductive l9 (R S B:Type) where
 | ret (r:R)
 | brk (b:B)
 | nxt (s:S)
inductive l8 (R B:Type) where
 | ret (r:R)
 | brk (b:B)
def a0m{R S B:Type}(body:S->Option (l9 R S B)):Nat->S->Option (l8 R B)
 | 0,_=>none
 | n+1,s=>match body s with
  | some (.ret r)=>some (.ret r)
  | some (.brk s)=>some (.brk s)
  | some (.nxt s)=>a0m body n s
  | none=>none
open Classical in
def s2{R S B:Type}(body:S->Option (l9 R S B))(s:S):Option (l8 R B):=
 if h:∃n r,a0m body n s=some r then some h.choose_spec.choose else none
theorem c0G{R S B:Type}{body:S->Option (l9 R S B)}:∀{n:Nat} {s:S} {r:l8 R B},a0m body n s=some r->∀m,n<=m->a0m body m s=some r
 | 0,s,r,h,_,_=>by cases h
 | n+1,s,r,h,0,hm=>by omega
 | n+1,s,r,h,m+1,hm=>by
  unfold a0m at h⊢;cases hb:body s with
  | none=>rw [hb] at h;cases h
  | some st=>
   rw [hb] at h;cases st with
   | ret x=>exact h
   | brk x=>exact h
   | nxt x=>exact c0G h m (by omega)
theorem b9X{R S B:Type}{body:S->Option (l9 R S B)}{s:S}{r:l8 R B}:s2 body s=some r ↔ ∃n,a0m body n s=some r:=by
 unfold s2;constructor
 ·intro h;split at h
  ·rename_i hx;injection h with h;exact ⟨_,h▸hx.choose_spec.choose_spec⟩
  ·cases h
 ·rintro ⟨n,h⟩
  have hx:∃n r,a0m body n s=some r:=⟨n,r,h⟩
  rw [dif_pos hx];have h1:=hx.choose_spec.choose_spec;have h2:=c0G h1 _ (Nat.le_max_left _ n);have h3:=c0G h _ (Nat.le_max_right hx.choose n);rw [h2] at h3;exact h3
theorem c2X{R S B:Type}(body:S->Option (l9 R S B))(s:S):s2 body s=match body s with
  | some (.ret r)=>some (.ret r)
  | some (.brk s)=>some (.brk s)
  | some (.nxt s)=>s2 body s
  | none=>none:=by
 apply Option.ext;intro r;rw [b9X];cases hb:body s with
 | none=>
  constructor
  ·rintro ⟨n,h⟩
   cases n with
   | zero=>cases h
   | succ n=>unfold a0m at h;rw [hb] at h;cases h
  ·intro h;cases h
 | some st=>
  cases st with
  | ret x=>
   constructor
   ·rintro ⟨n,h⟩
    cases n with
    | zero=>cases h
    | succ n=>unfold a0m at h;rw [hb] at h;exact h
   ·intro h;exact ⟨1,by unfold a0m;rw [hb];exact h⟩
  | brk x=>
   constructor
   ·rintro ⟨n,h⟩
    cases n with
    | zero=>cases h
    | succ n=>unfold a0m at h;rw [hb] at h;exact h
   ·intro h;exact ⟨1,by unfold a0m;rw [hb];exact h⟩
  | nxt x=>
   simp only;rw [b9X];constructor
   ·rintro ⟨n,h⟩
    cases n with
    | zero=>cases h
    | succ n=>unfold a0m at h;rw [hb] at h;exact ⟨n,h⟩
   ·rintro ⟨n,h⟩
    exact ⟨n+1,by unfold a0m;rw [hb];exact h⟩
def a9o{R S B:Type}(r:l8 R B)(I:S->Prop):l9 R S B->Prop
 | .ret x=>r=.ret x
 | .brk s=>r=.brk s
 | .nxt s=>I s
theorem d9X{R S B:Type}{body:S->Option (l9 R S B)}{I:S->Prop}{s:S}{r:l8 R B}(h:s2 body s=some r)(step:∀s st,body s=some st->a9o r I st->I s):I s:=by
 obtain ⟨n,h1⟩:=b9X.1 h;clear h;have h:=h1;clear h1;induction n generalizing s with
 | zero=>cases h
 | succ n ih=>
  unfold a0m at h;cases hb:body s with
  | none=>rw [hb] at h;cases h
  | some st=>
   rw [hb] at h;refine step s st hb ?_;cases st with
   | ret x=>injection h with h;exact h.symm
   | brk x=>injection h with h;exact h.symm
   | nxt x=>exact ih h
def l8.go{R B β:Type}(x:l8 R B)(kr:R->Option β)(ks:B->Option β):Option β:=
 match x with
 | .ret r=>kr r
 | .brk s=>ks s
def JC{B J:Type}(I:J->Prop)(r:B):l8 B J->Prop
 | .ret v=>some v=some r
 | .brk j=>I j
def idx{α:Type}(l:List α)(i:Int):Option α:=if 0<=i then l[i.toNat]? else none
def s5{β:Type}(p:Prop)[Decidable p](k:Option β):Option β:=if p then k else none
theorem b7W{α:Type}{l:List α}{i:Int}{x:α}(h:idx l i=some x):0<=i/\i<l.length/\l[i.toNat]?=some x:=by
 unfold idx at h;split at h
 ·rename_i hi;refine ⟨hi,?_,h⟩;have:=(e9T.1 h).1;omega
 ·cases h
section
variable {G:Prop} {α β R S:Type}
theorem A8{m:Option α}{f:α->Option β}{r:β}(h:m.bind f=some r)(k:∀x,m=some x->f x=some r->G):G:=by
 cases m with
 | none=>cases h
 | some x=>exact k x rfl h
theorem s9{p:Prop}[Decidable p]{a:Option β}{r:β}(h:s5 p a=some r)(k:p->a=some r->G):G:=by
 unfold s5 at h;split at h
 ·rename_i hp;exact k hp h
 ·cases h
theorem d5n{B:Type}{I:S->Prop}{r:l8 R B}{x:R}{st:l9 R S B}(h:some (l9.ret x)=some st)(hc:a9o r I st)(k:r=.ret x->G):G:=by
 injection h with h;subst h;exact k hc
theorem e0G{B:Type}{I:S->Prop}{r:l8 R B}{x:B}{st:l9 R S B}(h:some (l9.brk x)=some st)(hc:a9o r I st)(k:r=.brk x->G):G:=by
 injection h with h;subst h;exact k hc
theorem e1H{B:Type}{I:S->Prop}{r:l8 R B}{x:S}{st:l9 R S B}(h:some (l9.nxt x)=some st)(hc:a9o r I st)(k:I x->G):G:=by
 injection h with h;subst h;exact k hc
theorem d43{B:Type}{I:S->Prop}{r:l8 R B}{x:R}{st:l9 R S B}(h:some (l9.ret x)=some st)(hc:a9o r I st):r=.ret x:=d5n h hc id
theorem A0{B J:Type}{T:Option (l8 B J)}{K:J->Option B}{r:B}{I:J->Prop}(h:(T.bind fun x=>x.go some K)=some r)(rest:∀j,K j=some r->I j)(e06:∀x,T=some x->JC I r x->G):G:=by
 cases T with
 | none=>cases h
 | some x=>
  refine e06 x rfl ?_;cases x with
  | ret v=>exact h
  | brk j=>exact rest j h
theorem B9{B J:Type}{I:J->Prop}{r v:B}{x:l8 B J}(h:some (l8.ret v)=some x)(hc:JC I r x)(k:some v=some r->G):G:=by
 injection h with h;subst h;exact k hc
theorem e8R{B J:Type}{I:J->Prop}{r v:B}{x:l8 B J}(h:some (l8.ret v)=some x)(hc:JC I r x):some v=some r:=B9 h hc id
theorem o7{B J:Type}{I:J->Prop}{r:B}{x:l8 B J}{j:J}(h:some (l8.brk j)=some x)(hc:JC I r x)(k:I j->G):G:=by
 injection h with h;subst h;exact k hc
theorem e3r{B:Type}{body:S->Option (l9 R S B)}{s:S}{kr:R->Option β}{ks:B->Option β}{r:β}(h:((s2 body s).bind fun x=>x.go kr ks)=some r)(k:∀x,s2 body s=some x->(∀v,x=.ret v->kr v=some r)->(∀b,x=.brk b->ks b=some r)->G):G:=by
 cases hl:s2 body s with
 | none=>rw [hl] at h;cases h
 | some x=>
  rw [hl] at h;refine k x hl ?_ ?_
  ·intro v hv;subst hv;exact h
  ·intro b hb;subst hb;exact h
end
theorem I3.is{cx:Cx}{X:N6}{res b2q:V}{outs b3E:List (Option V)}{k:List Item}{S:St}(h:I3 cx X b2q b3E k S)(h1:res=b2q)(h2:outs=b3E):I3 cx X res outs k S:=by
 subst h1;subst h2;exact h
def vi(n:Int):V:=.i .i64 n
def bs:Nat->List V->List V
 | 0,l=>l
 | n+1,l=>.bot::bs n l
def l7{α:Type}(sz:Nat)(enc:α->List V)(l:List α):V:=.sl sz l.length (l.map enc)
def u0{α:Type}(e sz:Nat)(enc:α->List V)(l:List α):V:=.osl e sz l.length (l.map enc)
def m7{α:Type}(e sz:Nat)(enc:α->List V)(l:List α):s4:=.row e sz l.length (l.map enc)
def b1d{α:Type}(sz:Nat)(enc:α->List V)(l:List α):s4:=.frz sz l.length (l.map enc)
section
variable {α:Type} {enc:α->List V} {l:List α} {i:Int} {x:α}
theorem T2(h:idx l i=some x):(l.map enc)[i.toNat]?=some (enc x):=by
 rw [f0x,(b7W h).2.2];rfl
theorem a61(h:idx l i=some x):(l.map enc)[0+i.toNat]?=some (enc x):=by
 rw [f0y];exact T2 h
theorem N3(h:idx l i=some x):0<=i:=(b7W h).1
theorem b2l(h:idx l i=some x):i<(l.length:Nat):=(b7W h).2.1
theorem e1u{e sz:Nat}{y:α}{cs:List V}(h:cs=enc y):s4.row e sz (l.length+1) (l.map enc++[cs])=m7 e sz enc (l++[y]):=by
 subst h;simp [m7]
theorem c2h{e sz:Nat}{l':List α}{n:Nat}{rows:List (List V)}(h1:n=l'.length)(h2:rows=l'.map enc):s4.row e sz (l.length+n) (l.map enc++rows)=m7 e sz enc (l++l'):=by
 subst h1;subst h2;simp [m7]
theorem e8H{e sz:Nat}{k:Nat}{y:α}{cs:List V}(h:cs=enc y):s4.row e sz l.length ((l.map enc).set (0+k) cs)=m7 e sz enc (l.set k y):=by
 subst h;simp [m7,f1z]
theorem c9x{sz:Nat}{a b:Nat}(ha:a<=b)(hb:b<=l.length):V.sl sz (b-a) (((l.map enc).drop a).take (b-a))=l7 sz enc ((l.drop a).take (b-a)):=by
 have:min (b-a) (l.length-a)=b-a:=by omega
 simp [l7,List.map_take,List.map_drop,this]
end
def e7M(f:Func):Code:=match f.body with
 | some c=>c
 | none=>.skip
def a3B:Nat->Nat->List Bool->List Item->List Item
 | 0,_,_,k=>k
 | f+1,n,cs,k=>match k with
  | .code (.region id ops dr)::k'=>match n with
   | 0=>.code (.region id ops dr)::k'
   | n+1=>a3B f n cs k'
  | .code .skip::k'=>a3B f n cs k'
  | .inBlock _::k'=>a3B f n cs k'
  | .code (.seq x y)::k'=>a3B f n cs (.code x :: .code y::k')
  | .code (.cond o x y)::k'=>match cs with
   | c::cs=>a3B f n cs (.code (bif c then x else y)::k')
   | []=>.code (.cond o x y)::k'
  | .code (.block id c)::k'=>a3B f n cs (.code c :: .inBlock id::k')
  | .code (.loop c)::k'=>a3B f n cs (.code c :: .inLoop c::k')
  | .inLoop c::k'=>a3B f n cs (.code c :: .inLoop c::k')
  | .code (.exit id)::k'=>match exitTo id k' with
   | some k2=>a3B f n cs k2
   | none=>.code (.exit id)::k'
  | k=>k
def td(i:Nat)(d:Bool):Nat×J1:=(i,{d:=some d})
def tr(i:Nat)(cs:List V):Nat×J1:=(i,{a:=.row cs})
def m4(n:Int):Int:=IntKind.wrap .i64 n
section
variable {α:Type} {enc:α->List V} {l l':List α} {n:Nat} {x y:α} {cs:List V} {e sz:Nat}
theorem e6T(h:cs=enc x):s4.row e sz n (e9O n cs)=m7 e sz enc (e9O n x):=by
 subst h;simp [m7]
theorem a1R(h:l.length=n):s4.row e sz n (l.map enc)=m7 e sz enc l:=by
 subst h;rfl
theorem a8f{k:Nat}(h:cs=enc y):s4.arr e sz n ((l.map enc).set k cs)=.arr e sz n ((l.set k y).map enc):=by
 subst h;simp [f1z]
def C3(e sz:Nat)(enc:α->List V)(l:List α):s4:=.deep false e sz l.length (l.map enc)
def b0d(e sz:Nat)(enc:α->List V)(l:List α):V:=.dsl e sz l.length (l.map enc)
theorem e8K{k:Nat}(h:cs=enc y):s4.deep false e sz l.length ((l.map enc).set (0+k) cs)=C3 e sz enc (l.set k y):=by
 subst h;simp [C3,f1z]
theorem P3{k:Nat}(h:cs=enc y):(l.map enc).set (0+k) cs=(l.set k y).map enc:=by
 subst h;simp [f1z]
theorem a2h{rows:List (List V)}(h:rows=l.map enc)(hn:∀x,∀v∈enc x,v.isRef=false):F3 rows:=h▸F3.map hn l
theorem a2x{rows:List (List V)}{n:Nat}(h:rows=l.map enc)(hl:n=l.length):s4.deep false e sz n rows=C3 e sz enc l:=by
 subst h;subst hl;rfl
theorem c1T(h:cs=enc y):s4.deep false e sz (l.length+1) (l.map enc++[cs])=C3 e sz enc (l++[y]):=by
 subst h;simp [C3]
theorem c1v{L l1:List α}{lo n:Nat}(h:lo+n<=L.length):s4.row e sz (l1.length+n) (l1.map enc++((L.map enc).drop lo).take n)=m7 e sz enc (l1++(L.drop lo).take n):=by
 have:((L.drop lo).take n).length=n:=by simp;omega
 simp [m7,List.map_take,List.map_drop];omega
theorem c2F{L l1:List α}{lo n g:Nat}(h:lo+n<=L.length):V.own g 0 sz 0 (l1.length+n)=V.own g 0 sz 0 (l1++(L.drop lo).take n).length:=by
 congr 1
 simp;omega
theorem I2{rows X:List (List V)}{k:Nat}{c c':List V}(h:rows.set k c'=X):(rows.set k c).set k c'=X:=by rw [List.set_set];exact h
theorem Q7{rows:List (List V)}{k:Nat}(h:k<rows.length):(rows.set k cs)[k]?=some cs:=by simp [h]
theorem T9{rows:List (List V)}{k j:Nat}(h:k<rows.length):k<(rows.set j cs).length:=by simpa using h
theorem R5{i:Int}(h:idx l i=some y):0+i.toNat<(l.map enc).length:=by
 have:=(b2l h)
 have:=(N3 h)
 rw [f0X];omega
theorem b9m{i:Int}{f:α->V}(hf:∀x,enc x=[f x])(h:idx l i=some y):(l.map enc).flatten[i.toNat]?=some (f y):=by
 have e:(l.map enc).flatten=l.map f:=by
  induction l with
  | nil=>rfl
  | cons x l ih=>
   have ih':(l.map enc).flatten=l.map f:=by
    clear ih h;induction l with
    | nil=>rfl
    | cons x l ih=>simp [hf,ih]
   simp [hf,ih']
 rw [e,f0x];unfold idx at h;split at h
 ·rw [h];rfl
 ·cases h
theorem b1f{hi:Int}(h:0<=hi/\hi<=(l.length:Nat)):V.sl sz (hi.toNat-0) (((l.map enc).drop 0).take (hi.toNat-0))=l7 sz enc ((l.drop 0).take (hi.toNat-0)):=
 c9x (by omega) (by omega)
theorem b2U{lo:Int}(h:0<=lo/\lo<=(l.length:Nat)):V.sl sz (l.length-lo.toNat) (((l.map enc).drop lo.toNat).take (l.length-lo.toNat))=l7 sz enc ((l.drop lo.toNat).take (l.length-lo.toNat)):=
 c9x (by omega) (by omega)
end
def c2c:Nat->List (Option V)
 | 0=>[]
 | n+1=>none::c2c n
theorem S6:∀n,a3u (c2c n)
 | 0=>fun v h=>by cases h
 | n+1=>fun v h=>by
  rcases e9V.1 h with q|q
  ·cases q
  ·exact S6 n v q
section
variable {P:Program} {d:Nat} {xs ys:Array Value} {f:Field} {fs:List Field} {a b:Value} {r s:Bool} {w:World}
theorem b2s:(Op.eqFields d xs ys []).run P w=.ok true w:=by simp [Op.eqFields]
theorem a0U (hn:(f.name == "_")=false) (ha:(part f.type xs f.offset).run P w=.ok a w) (hb:(part f.type ys f.offset).run P w=.ok b w) (he:(Op.equalIn d f.type a b).run P w=.ok r w) (hr:(Op.eqFields d xs ys fs).run P w=.ok s w):(Op.eqFields d xs ys (f::fs)).run P w=.ok (r&&s) w:=by
 have hn':f.name ≠ "_" := by simpa using hn
 rw [Op.eqFields];simp only [if_pos hn',Sem.run_bind,ha,hb,he,Result.andThen_ok];cases r
 ·simp
 ·simpa using hr
theorem b2f{t:TypeId}{fs:Array Field}(hu:P.underlying t=some (.struct fs))(hp:P.stoodInHeld t=false)(h:(Op.eqFields d xs ys fs.toList).run P w=.ok r w):(Op.equalIn (d+1) t (.agg xs) (.agg ys)).run P w=.ok r w:=by
 have hf:P.fieldsOf t=fs:=by simp [Program.fieldsOf,hu]
 rw [run_equalIn_struct (P:=P) w d t xs ys (by rw [hf];exact hu) hp,hf];exact h
theorem a1h{t:TypeId}{k:IntKind}{m n:Int}(h:P.underlying t=some (.int k)):(Op.equalIn (d+1) t (.int .i64 m) (.int .i64 n)).run P w=.ok (m==n) w:=run_equalIn_int w d t .i64 k m n h
end
structure Pt(cx:Cx)(X:N6)(res:V)(outs:List (Option V))(k:List Item)(S:St)(sc:Q6)(ps:List Prop):Prop where
 f:O4 ps->I3 cx X res outs k S
def c7n{α:Type}:List α->List α->List α
 | [],b=>b
 | a::l,b=>c7n l (a::b)
def scO:Q6->Q6->Q6
 | [],b=>b
 | r::l,b=>scO l (c7n r []::b)
def psO:List Prop->List Prop->List Prop
 | [],b=>b
 | p::l,b=>psO l (p::b)
theorem b9e{ps:List Prop}:∀{qs:List Prop},O4 ps->O4 qs->O4 (psO ps qs):=by
 induction ps with
 | nil=>exact fun _ h=>h
 | cons p ps ih=>exact fun h h'=>ih h.2 ⟨h.1,h'⟩
def a4C{α β:Type}(m:Option α)(f:α->Option β)(g:Option β):Option β:=
 match m with
 | some x=>f x
 | none=>g
def dt(t:Nat×J1)(d:Bool):Nat×J1:=(t.1,{t.2 with d:=some d})
section
variable {cx:Cx} {X:N6} {res:V} {outs:List (Option V)} {k:List Item} {S:St} {sc:Q6} {ps:List Prop} {r:List (Nat×J1)} {α β:Type} {v:β}
theorem P0(h:Pt cx X res outs k S [] []):I3 cx X res outs k S:=h.f O4.nil
theorem rg(h:Pt cx X res outs k S ([]::sc) ps):Pt cx X res outs k S sc ps:=⟨h.f⟩
theorem o9(h:Pt cx X res outs k S ([]::[]::sc) ps):Pt cx X res outs k S sc ps:=⟨h.f⟩
theorem N4(h:Pt cx X res outs k S ([]::[]::[]::sc) ps):Pt cx X res outs k S sc ps:=⟨h.f⟩
theorem rg4(h:Pt cx X res outs k S ([]::[]::[]::[]::sc) ps):Pt cx X res outs k S sc ps:=⟨h.f⟩
theorem tl(t:Nat×J1)(h:Pt cx X res outs k S ((t::r)::sc) ps):Pt cx X res outs k S (r::sc) ps:=⟨h.f⟩
theorem ob{p:Prop}(q:p)(h:Pt cx X res outs k S sc (p::ps)):Pt cx X res outs k S sc ps:=⟨fun a=>h.f ⟨q,a⟩⟩
theorem om(p:Prop)(q:p)(h:Pt cx X res outs k S sc (p::ps)):Pt cx X res outs k S sc ps:=ob q h
theorem cdT(t:Nat×J1){e:Bool}{a b:Option β}(h:cond e a b=some v)(k1:e=true->a=some v->Pt cx X res outs k S ((dt t true::r)::sc) ((e=true)::ps))(k2:e=false->b=some v->Pt cx X res outs k S ((dt t false::r)::sc) ((e=false)::ps)):Pt cx X res outs k S (r::sc) ps:=by
 cases e with
 | true=>exact ob rfl (tl _ (k1 rfl h))
 | false=>exact ob rfl (tl _ (k2 rfl h))
theorem j5(i:Nat){e:Bool}{a b:Option β}(h:cond e a b=some v)(k1:a=some v->Pt cx X res outs k S ((td i true::r)::sc) ((e=true)::ps))(k2:b=some v->Pt cx X res outs k S ((td i false::r)::sc) ((e=false)::ps)):Pt cx X res outs k S (r::sc) ps:=by
 cases e with
 | true=>exact ob rfl (tl _ (k1 h))
 | false=>exact ob rfl (tl _ (k2 h))
theorem cb(t:Nat->Bool->α->Nat×J1){m:Option α}{p:α->Prop}(ok:∀x,m=some x->p x)(i:Nat)(fr:Bool){f:α->Option β}(h:m.bind f=some v)(g:∀x,f x=some v->Pt cx X res outs k S ((t i fr x::r)::sc) (p x::ps)):Pt cx X res outs k S (r::sc) ps:=
 A8 h fun x hx h=>ob (ok x hx) (tl _ (g x h))
theorem cbA(t:Nat->Bool->α->Nat×J1){m:Option α}{p:α->Prop}(ok:∀x,m=some x->p x)(i:Nat)(fr:Bool){f:α->Option β}{e:Option β}(h:a4C m f e=some v)(g:∀x,f x=some v->Pt cx X res outs k S ((t i fr x::r)::sc) (p x::ps))(g2:e=some v->Pt cx X res outs k S (r::sc) ps):Pt cx X res outs k S (r::sc) ps:=by
 cases m with
 | none=>exact g2 h
 | some x=>exact ob (ok x rfl) (tl _ (g x h))
theorem cbE(t:Nat->Bool->α->Nat×J1){m:Option α}{p:α->Prop}(ok:∀x,m=some x->p x){f:α->Option β}(h:m.bind f=some v)(g:∀x,p x->f x=some v->Pt cx X res outs k S sc ps):Pt cx X res outs k S sc ps:=
 A8 h fun x hx h=>g x (ok x hx) h
section
variable {enc:α->List V} {l l':List α} {I:Int} {x y z:α}
theorem x8(enc:α->List V)(i:Nat){f:α->Option β}(h:(idx l I).bind f=some v)(g:∀y,idx l I=some y->f y=some v->Pt cx X res outs k S ((tr i (enc y)::r)::sc) (((l.map enc)[I.toNat]?=some (enc y))::(I<((l.length:Nat):Int))::((0:Int)<=I)::ps)):Pt cx X res outs k S (r::sc) ps:=
 A8 h fun y hy h=>ob (N3 hy) (ob (b2l hy) (ob (T2 hy) (tl _ (g y hy h))))
theorem K3(enc:α->List V)(i:Nat)(hy:idx l I=some y)(g:Pt cx X res outs k S ((tr i (enc y)::r)::sc) (((l.map enc)[I.toNat]?=some (enc y))::(I<((l.length:Nat):Int))::((0:Int)<=I)::ps)):Pt cx X res outs k S (r::sc) ps:=
 ob (N3 hy) (ob (b2l hy) (ob (T2 hy) (tl _ g)))
theorem B2(hy:idx l I=some y)(g:Pt cx X res outs k S sc ((I<((l.length:Nat):Int))::((0:Int)<=I)::ps)):Pt cx X res outs k S sc ps:=ob (N3 hy) (ob (b2l hy) g)
theorem H4(enc:α->List V)(i:Nat)(hy:idx l I=some y)(g:Pt cx X res outs k S ((tr i (enc y)::r)::sc) (((l.map enc)[0+I.toNat]?=some (enc y))::ps)):Pt cx X res outs k S (r::sc) ps:=
 ob (a61 hy) (tl _ g)
theorem O5(e sz:Nat)(enc:α->List V)(i:Nat)(ck:List (Option Nat))(y:α)(hz:idx l I=some z)(g:Pt cx X res outs k S (((i,{a:=.rowck (enc z) ck,e:=some (m7 e sz enc (l.set I.toNat y))})::r)::sc) (((l.map enc)[0+I.toNat]?=some (enc z))::(s4.row e sz l.length ((l.map enc).set (0+I.toNat) (enc y))=m7 e sz enc (l.set I.toNat y))::ps)):Pt cx X res outs k S (r::sc) ps:=
 ob (e8H rfl) (ob (a61 hz) (tl _ g))
theorem U0(i w t sz b:Nat)(enc:α->List V)(z:α)(T:TI)(a:N2){N:Int}(e1:0<=N/\N*((b:Nat):Int)<=140737488355328)(hb:0<b)(hl:T.zero.length=sz)(g:Pt cx X res outs k S (((i,{a:=a,e:=some (m7 t sz enc (e9O N.toNat z)),v:=some (.own w 0 sz 0 (e9O N.toNat z).length)})::r)::sc)
   ((T.zero.length=sz)::(N*((b:Nat):Int)<=140737488355328/\0<b)::(N=N)::((0:Int)<=N)::(s4.row t sz N.toNat (e9O N.toNat (enc z))=m7 t sz enc (e9O N.toNat z))::(V.own w 0 sz 0 N.toNat=.own w 0 sz 0 (e9O N.toNat z).length)::ps)):Pt cx X res outs k S (r::sc) ps:=
 ob (by simp) (ob (e6T rfl) (ob e1.1 (ob rfl (ob ⟨e1.2,hb⟩ (ob hl (tl _ g))))))
theorem E5(i w t sz b:Nat)(enc:α->List V)(l:List α)(x:α)(h:(l.length+1)*b<=140737488355328)(g:Pt cx X res outs k S (((i,{v:=some (.own w 0 sz 0 (l++[x]).length),e:=some (m7 t sz enc (l++[x]))})::r)::sc)
   (((l.length+1)*b<=140737488355328)::(l.length=l.length)::(s4.row t sz (l.length+1) (l.map enc++[enc x])=m7 t sz enc (l++[x]))::(V.own w 0 sz 0 (l.length+1)=.own w 0 sz 0 (l++[x]).length)::ps)):Pt cx X res outs k S (r::sc) ps:=
 ob (by simp) (ob (e1u rfl) (ob rfl (ob h (tl _ g))))
theorem apL(i w t sz b:Nat)(enc:α->List V)(l l':List α)(h:(l.length+l'.length)*b<=140737488355328)(g:Pt cx X res outs k S (((i,{v:=some (.own w 0 sz 0 (l++l').length),e:=some (m7 t sz enc (l++l'))})::r)::sc)
   (((l.length+l'.length)*b<=140737488355328)::(l.length=l.length)::(s4.row t sz (l.length+l'.length) (l.map enc++l'.map enc)=m7 t sz enc (l++l'))::(V.own w 0 sz 0 (l.length+l'.length)=.own w 0 sz 0 (l++l').length)::ps)):Pt cx X res outs k S (r::sc) ps:=
 ob (by simp) (ob (c2h rfl rfl) (ob rfl (ob h (tl _ g))))
end
theorem sg(fs:List Fix)(keep:List Nat)(gs:List (Nat×Nat)){k':List Item}{S':St}(h:I3 cx X res outs k' S')(hg:a98 cx k S (scO sc []) fs keep gs=some (k',S',psO ps []):=by kernel_rfl):Pt cx X res outs k S sc ps:=
 ⟨fun a=>I3.seg _ fs keep gs _ (b9e a O4.nil) h hg⟩
def reT:List (Nat×V)->St->St×List Prop
 | [],S=>(S,[])
 | (i,v)::l,S=>match S.t[i]? with
  | some u=>match reT l {S with t:=S.t.set i v} with
   | (S',ps)=>(S',(u=v)::ps)
  | none=>reT l S
theorem b98:∀{l:List (Nat×V)} {S:St},O4 (reT l S).2->(reT l S).1=S
 | [],_,_=>rfl
 | (i,v)::l,S,h=>by
  unfold reT at h⊢;split at h
  ·rename_i u hu;have h1:u=v:=h.1;have h2:=b98 (l:=l) h.2;simp only;rw [h2,<-h1,a0a hu]
  ·exact b98 h
theorem O4.split:∀{ps qs:List Prop},O4 (ps++qs)->O4 ps/\O4 qs
 | [],_,h=>⟨trivial,h⟩
 | _::_,_,h=>⟨⟨h.1,(O4.split h.2).1⟩,(O4.split h.2).2⟩
def c0f(cx:Cx)(k:List Item)(S:St)(sc:Q6)(fs:List Fix)(keep:List Nat)(gs:List (Nat×Nat))(ts:List (Nat×V)):Option (List Item×St×List Prop):=
 match a98 cx k S sc fs keep gs with
 | some (k',S',ps)=>some (k',(reT ts S').1,ps++(reT ts S').2)
 | none=>none
theorem sgT(fs:List Fix)(keep:List Nat)(gs:List (Nat×Nat))(ts:List (Nat×V)){k':List Item}{S':St}(h:I3 cx X res outs k' S')(hg:c0f cx k S (scO sc []) fs keep gs ts=some (k',S',psO ps []):=by kernel_rfl):Pt cx X res outs k S sc ps:=by
 refine ⟨fun a => ?_⟩;unfold c0f at hg;split at hg<;>try (cases hg;done)
 rename_i k1 S1 ps1 h1;injection hg with hg;injection hg with e1 e2;injection e2 with e2 e3;have ha:=b9e a O4.nil;rw [<-e3] at ha;obtain ⟨a1,a2⟩:=O4.split ha;rw [<-e2,<-e1,b98 a2] at h;exact I3.seg _ fs keep gs _ a1 h h1
theorem a7Y{α:Type}{enc:α->List V}{gs:List (Nat×Nat)}(h:∀x,(enc x).map (U7 gs)=enc x):∀l:List α,((l.map enc).flatten.map (U7 gs))=(l.map enc).flatten
 | []=>rfl
 | x::l=>by
  simp only [f0j,f0d,f1g,h,a7Y h l]
theorem fn0{b2q:V}{b3E:List (Option V)}(hf:cx.P.funcs[X.f]?=some X.fn)(h:res=b2q/\outs=b3E)(hg:a8w cx X k S (scO sc [])=some (b2q,b3E,psO ps []):=by kernel_rfl):Pt cx X res outs k S sc ps:=
 ⟨fun a=>(I3.fin hf _ _ (b9e a O4.nil) hg).is h.1 h.2⟩
end
def C2(n:Int):Prop := -9223372036854775808<=n/\n<=9223372036854775807
def z9{α:Type}(bytes:Nat)(ok:α->Prop)(l:List α):Prop:=l.length*bytes<=140737488351232/\∀x∈l,ok x
def okT{α:Type}(x:α):Prop:=True
def Old(w:World)(k:Nat):Prop:=k<w.heap.size
def a8U(P:Program){α:Type}(t:TypeId)(enc:α->List V)(ok:α->Prop):Prop:=
 ∀{H:Type} (ec:TypeId×Value->H) (w:World) (fuel:Nat) (cs:List Value) (x:DataW H×List MemPlace),DataW.trod ec P w 0 (fun _=>true) true fuel t cs=some x->(x.1.weights P t).all (·<=reachBytes)=true->
  ∃y,FL w (Old w) (enc y) cs/\ok y
section
variable {P:Program} {α:Type} {t e:TypeId} {enc:α->List V} {ok:α->Prop}
def a4I(n:Int):Prop:=0<=n/\n<=255
theorem e81(ht:P.underlying t=some (.int .u8)):a8U P t (fun n:Int=>[.i .u8 n]) a4I:=by
 intro H ec w fuel cs x h _;obtain ⟨n,rfl,rfl,hw⟩:=DataW.trod_int ht h;refine ⟨n,.cons _ _ _ _ (.i _ _) .nil,?_⟩;simp only [Lit.wf,e9R,decide_eq_true_eq] at hw;exact hw
theorem d0u{H:Type}{P:Program}{e:TypeId}{p:Nat->Bool}:∀{ds:List (DataW H)},(DataW.weightsAll P e ds).all p=true->∀d∈ds,(d.weights P e).all p=true
 | [],_,d,hd=>by cases hd
 | d0::ds,h,d,hd=>by
  rw [DataW.weightsAll,List.all_append,e9R] at h;rcases e9V.1 hd with rfl|hd
  ·exact h.1
  ·exact d0u h.2 d hd
theorem FL.flat{w:World}{F:Nat->Prop}(vs:Nat->List V)(cs:Nat->List Value):∀n,(∀i,i<n->FL w F (vs i) (cs i))->FL w F ((e9Y n).flatMap vs) ((e9Y n).flatMap cs)
 | 0,_=>.nil
 | n+1,h=>by
  rw [List.range_succ,List.flatMap_append,List.flatMap_append];refine FL.append (FL.flat vs cs n fun i hi=>h i (by omega)) ?_;simpa using h n (by omega)
theorem b48{sz:Nat}(cs:Nat->List Value):∀n,(∀i,i<n->(cs i).length=sz)->∀i,i<n->∀j,j<sz->((e9Y n).flatMap cs)[i*sz+j]?=(cs i)[j]?/\((e9Y n).flatMap cs).length=n*sz
 | 0,_,i,hi,_,_=>by omega
 | n+1,h,i,hi,j,hj=>by
  have hl:((e9Y n).flatMap cs).length=n*sz:=by
   cases n with
   | zero=>simp
   | succ m=>exact (b48 cs (m+1) (fun i hi=>h i (by omega)) 0 (by omega) j hj).2
  rw [List.range_succ,List.flatMap_append];simp only [List.flatMap_cons,List.flatMap_nil,f0w];constructor
  ·by_cases hin:i<n
   ·have:i*sz+j<n*sz:=by
     have:(i+1)*sz<=n*sz:=f0b _ hin;rw [Nat.add_mul] at this;omega
    rw [f0f (by omega)];exact (b48 cs n (fun i hi=>h i (by omega)) i hin j hj).1
   ·have:i=n:=by omega
    subst this;rw [e96 (by omega),hl];congr 1
    omega
  ·rw [e91,hl,h n (by omega),Nat.add_mul,Nat.one_mul]
theorem e2v{β:Type}{n:Nat}{p:Nat->β->Prop}(d:β)(h:∀i,i<n->∃x,p i x):∃f:Nat->β,∀i,i<n->p i (f i):=by
 classical
 refine ⟨fun i=>if hi:i<n then (h i hi).choose else d,fun i hi => ?_⟩;simp only [dif_pos hi];exact (h i hi).choose_spec
theorem e5K{sz bytes:Nat}(ht:P.underlying t=some (.slice e))(he:a8U P e enc ok)(hsz:P.cellsOf e=sz)(h0:0<sz)(hb:P.bytesOf e=bytes)(hl:∀y,(enc y).length=sz):a8U P t (fun l:List α=>[l7 sz enc l]) (z9 bytes ok):=by
 intro H ec w fuel cs x h hw;rcases DataW.trod_slice ht h with ⟨rfl,rfl⟩|⟨a,len,cap,elems,rest,n,_,rfl,rfl,hbs,hlc,hcm,hlen,hel,hsp,hns⟩
 ·exact ⟨[],.cons _ _ _ _ (.sl0 sz none 0) .nil,by simp,by simp⟩
 simp only [DataW.weights,ht,List.all_cons,List.all_append,e9R,decide_eq_true_eq,f0X] at hw;obtain ⟨hw0,hw1,hw2⟩:=hw;have hrest:rest.length=cap-len:=by
  cases hs:(fun _:Nat=>true) a.block with
  | true=>exact (hsp rfl).1
  | false=>cases hs
 have hlen2:len*bytes<=140737488351232:=by
  rw [hb] at hw0;have:len*bytes<=(elems.length+rest.length)*bytes:=f0b _ (by omega);have h2:reachBytes=140737488351232:=rfl;omega
 cases Nat.eq_zero_or_pos len with
 | inl hz=>
  subst hz;exact ⟨[],.cons _ _ _ _ (.sl0 sz _ cap) .nil,by simp,by simp⟩
 | inr hpos=>
  have key:∀i,i<len->∃cy:List Value×α,w.cells? 0 (a.add (i*sz)) sz=some cy.1/\FL w (Old w) (enc cy.2) cy.1/\ok cy.2:=by
   intro i hi;have h1:=hel i hi;have hi':i<elems.length:=by omega
   rw [e9N hi',hsz] at h1;obtain ⟨ci,h2,h3⟩:=Option.bind_eq_some_iff.1 h1;obtain ⟨y,h4,h5⟩:=he ec w n ci _ h3 (d0u hw1 _ (f0l.2 ⟨_,e9Q hi',rfl⟩));exact ⟨(ci,y),h2,h4,h5⟩
  obtain ⟨cy0,_⟩:=key 0 hpos;obtain ⟨f,hf⟩:=e2v cy0 key;have hcl:∀i,i<len->(f i).1.length=sz:=fun i hi=>(World.cells?_some (hf i hi).1).2.1
  have hspot:a.spot=none:=by
   have:=(World.cells?_some (hf 0 hpos).1).2.2 0 h0;rw [e9N (by rw [hcl 0 hpos];exact h0)] at this;have:=World.cell?_spot this;simpa [Addr.add] using this
  have hold:Old w a.block:=by
   have:=(World.cells?_some (hf 0 hpos).1).2.2 0 h0;rw [e9N (by rw [hcl 0 hpos];exact h0)] at this;unfold World.cell? at this;unfold Old;split at this
   ·rename_i c _ _ hh;simpa [Addr.add] using (Array.getElem?_eq_some_iff.1 hh).1
   ·cases this
  refine ⟨(e9Y len).map fun i=>(f i).2,?_,?_,?_⟩
  ·have haddr:a=⟨a.block,a.off,none⟩:=by cases a;simp_all
   rw [show (Value.slice (some a) len cap)=.slice (some ⟨a.block,a.off,none⟩) len cap from by rw [<-haddr]];refine .cons _ _ _ _ ?_ .nil;unfold l7;rw [f0X,List.length_range];refine .sl sz len _ _ _ cap ((e9Y len).flatMap fun i=>(f i).1) hold ?_ ?_ ?_ hlc ?_
   ·have:=FL.flat (w:=w) (F:=Old w) (fun i=>enc (f i).2) (fun i=>(f i).1) len fun i hi=>(hf i hi).2.1
    rw [f1m,<-List.flatMap_def];exact this
   ·simp
   ·intro r hr;rw [f1m] at hr;obtain ⟨i,_,rfl⟩:=f0l.1 hr;exact hl _
   ·intro j u hu;have hlf:=(b48 (fun i=>(f i).1) len hcl 0 hpos 0 h0).2;have hj:j<len*sz:=by
     have:=(e9T.1 hu).1;omega
    have hq:j / sz<len:=Nat.div_lt_of_lt_mul (by rw [Nat.mul_comm];exact hj);have hr:j % sz<sz:=Nat.mod_lt _ h0;have hjs:j=j / sz*sz+j % sz:=by rw [Nat.mul_comm];exact (Nat.div_add_mod j sz).symm
    have hget:=(b48 (fun i=>(f i).1) len hcl _ hq _ hr).1;rw [<-hjs,hu] at hget;have hcell:=(World.cells?_some (hf _ hq).1).2.2 _ hr;rw [<-hget] at hcell;rw [<-hcell];have hadd:(a.add (j / sz*sz)).add (j % sz)=a.add j:=by
     rw [show (a.add (j / sz*sz)).add (j % sz)=a.add (j / sz*sz+j % sz) from Go.Deep.add_add a _ _,<-hjs]
    rw [hadd];congr 1
    unfold Addr.add;split
    ·rename_i h;subst h;exact haddr.symm
    ·rfl
  ·simpa using hlen2
  ·intro y hy;obtain ⟨i,hi,rfl⟩:=f0l.1 hy;exact (hf i (by simpa using hi)).2.2
section
variable {α':Type} {H:Type} {ec:TypeId×Value->H} {w:World} {base:Nat} {r:Reach} {v:Value} {d:DataW H} {p:List MemPlace}
theorem BA.of1{F:Nat->Prop}{x:V}{c:Value}(h:FL w F [x] [c]):BA w F x c []:=by
 cases h with
 | cons _ _ _ _ h _=>exact .cell _ _ _ (.fv _ _ h)
theorem d1A{f:α->V}(ht:P.underlying t=some (.slice e))(ho:a8U P t (fun y=>[f y]) ok)(hv:Value.okWide P w r base t v)(h:DataW.Trod ec P w 0 (fun _=>true) true t v d p)(hw:(d.weights P t).all (·<=reachBytes)=true):∃y,BA w (Old w) (f y) v []/\ok y:=by
 obtain ⟨a,l,c,rfl⟩:=WideShapes.okWide_slice ht hv;obtain ⟨fuel,hf⟩:=h;obtain ⟨y,h1,h2⟩:=ho ec w fuel _ _ hf hw;exact ⟨y,BA.of1 h1,h2⟩
end
theorem e6j{f:FuncId}{args:List V}{outs:List (Option V)}{vs:List Value}{W:World}(h:a1n P f args (.b true) outs)(hb:BS W (Old W) args vs []) :
  Calls P f vs.toArray W fun e W'=>e=.returned (.bool true)/\RowKit.Below W.heap.size W W':=by
 refine (h.2 W (Old W) vs [] hb List.nodup_nil (by simp) (fun k hk=>hk)).mono ?_;rintro e W' ⟨c,F',fr,fo,rfl,hk,_,_,hr,_,_,_⟩
 refine ⟨?_,hk.os,hk.tape,hk.output,hk.size,fun k hk'=>hk.block k hk' (by simp)⟩;cases hr with
 | one _ _ _ h=>
  cases h with
  | cell _ _ _ h=>
   cases h with
   | fv _ _ h=>cases h;rfl
end
abbrev LOV:=List (Option V)
abbrev KS:=List Item×St
def FK(cx:Cx)(X:N6)(res:V)(outs:LOV)(s:KS):Prop:=I3 cx X res outs s.1 s.2
structure LC(cx:Cx)(X:N6){R P E:Type}(fR:R->V)(fO:R->LOV)(SE:E->KS)(S:P->KS) where
 res:V
 outs:LOV
 x:l8 R E
 hb:∀s:E,x=.brk s->FK cx X res outs (SE s)
 hr:∀v:R,x=.ret v->res=fR v/\outs=fO v
 st:l9 R P E
 hc:a9o x (fun s=>FK cx X res outs (S s)) st
section
variable {cx:Cx} {X:N6} {R P E J:Type} {fR:R->V} {fO:R->LOV} {SE:E->KS} {SP:P->KS} {G:Prop} {α β:Type}
abbrev LB(cx:Cx)(X:N6)(fR:R->V)(fO:R->LOV)(SE:E->KS)(SP:P->KS)(b:P->Option (l9 R P E)):Prop := ∀(c:LC cx X fR fO SE SP) (s:P),b s=some c.st->FK cx X c.res c.outs (SP s)
abbrev NL(c:LC cx X fR fO SE SP)(S:J->KS)(f:J->Option (l9 R P E)):Prop := ∀s,f s=some c.st->FK cx X c.res c.outs (S s)
theorem LC.nx(c:LC cx X fR fO SE SP){s:P}(h:some (l9.nxt s)=some c.st)(g:FK cx X c.res c.outs (SP s)->G):G:=e1H h c.hc g
theorem LC.bk(c:LC cx X fR fO SE SP){s:E}(h:some (l9.brk s)=some c.st)(g:FK cx X c.res c.outs (SE s)->G):G:=e0G h c.hc fun e=>g (c.hb _ e)
theorem LC.rt(c:LC cx X fR fO SE SP){r:R}(h:some (l9.ret r)=some c.st):c.res=fR r/\c.outs=fO r:=c.hr _ (d43 h c.hc)
variable {res:V} {outs:LOV} {k:List Item} {S:St} {sc:Q6} {ps:List Prop} {r:List (Nat×J1)} {v:β} {s:KS}
theorem PK(h:Pt cx X res outs s.1 s.2 [] []):FK cx X res outs s:=h.f O4.nil
theorem sk(fs:List Fix)(keep:List Nat)(gs:List (Nat×Nat))(h:FK cx X res outs s)(hg:a98 cx k S (scO sc []) fs keep gs=some (s.1,s.2,psO ps []):=by kernel_rfl):Pt cx X res outs k S sc ps:=sg fs keep gs h hg
theorem skT(fs:List Fix)(keep:List Nat)(gs:List (Nat×Nat))(ts:List (Nat×V))(h:FK cx X res outs s)(hg:c0f cx k S (scO sc []) fs keep gs ts=some (s.1,s.2,psO ps []):=by kernel_rfl):Pt cx X res outs k S sc ps:=sgT fs keep gs ts h hg
theorem lp{b:P->Option (l9 R P E)}(B:LB cx X fR fO SE SP b){c5i:P}{g1:R->Option β}{g2:E->Option β}(h:((s2 b c5i).bind fun x=>x.go g1 g2)=some v)(h1:∀r,g1 r=some v->res=fR r/\outs=fO r)(h2:∀s,g2 s=some v->FK cx X res outs (SE s))(hs:FK cx X res outs (SP c5i)->Pt cx X res outs k S sc ps):Pt cx X res outs k S sc ps:=
 e3r h fun x hl hr hb=>hs (d9X (I:=fun s=>FK cx X res outs (SP s)) hl fun s st h hc=>B ⟨res,outs,x,fun s e=>h2 s (hb s e),fun v e=>h1 v (hr v e),st,hc⟩ s h)
theorem s8{α:Type}(a:List α)(h:Pt cx X res outs k S sc ((a.length=a.length)::ps)):Pt cx X res outs k S sc ps:=ob rfl h
theorem C8{α β:Type}(a:List α)(b:List β)(h:Pt cx X res outs k S sc ((b.length=b.length)::(a.length=a.length)::ps)):Pt cx X res outs k S sc ps:=ob rfl (ob rfl h)
theorem L6{α β γ:Type}(a:List α)(b:List β)(c:List γ)(h:Pt cx X res outs k S sc ((c.length=c.length)::(b.length=b.length)::(a.length=a.length)::ps)):Pt cx X res outs k S sc ps:=ob rfl (ob rfl (ob rfl h))
theorem I8{α β γ δ:Type}(a:List α)(b:List β)(c:List γ)(d:List δ)(h:Pt cx X res outs k S sc ((d.length=d.length)::(c.length=c.length)::(b.length=b.length)::(a.length=a.length)::ps)):Pt cx X res outs k S sc ps:=ob rfl (ob rfl (ob rfl (ob rfl h)))
theorem A6(α:Type)(h:Pt cx X res outs k S sc ((0=([]:List α).length)::ps)):Pt cx X res outs k S sc ps:=ob rfl h
theorem D8{α:Type}(x:α)(h:Pt cx X res outs k S sc ((1=[x].length)::ps)):Pt cx X res outs k S sc ps:=ob rfl h
theorem tk(i:Nat)(c:List (Option Nat))(h:Pt cx X res outs k S (((i,{a:=.ck c})::r)::sc) ps):Pt cx X res outs k S (r::sc) ps:=tl _ h
theorem oa(g j sz:Nat){α:Type}(a b:List α)(h:Pt cx X res outs k S sc ((V.own g j sz 0 (a.length+b.length)=.own g j sz 0 (a++b).length)::ps)):Pt cx X res outs k S sc ps:=ob (congrArg (V.own g j sz 0) e91.symm) h
theorem oz(e sz:Nat){α:Type}(f:α->List V)(a b:List α)(h:Pt cx X res outs k S sc ((s4.row e sz (a.length+b.length) (a.map f++b.map f)=m7 e sz f (a++b))::ps)):Pt cx X res outs k S sc ps:=ob (c2h rfl rfl) h
end
def eI(x:Int):List V:=[vi x]
def E1(x:Int):List V:=[.i .u8 x]
def eB(x:Bool):List V:=[.b x]
structure s3 where
 d7:Int
 Seq:Int
def U2(x:s3):List V:=[vi x.d7,vi x.Seq]
structure s1 where
 i6:Int
 j4:Int
def t8(x:s1):List V:=[vi x.i6,vi x.j4]
structure p9 where
 i6:Int
 d9:Int
def t9(x:p9):List V:=[vi x.i6,vi x.d9]
structure m9 where
 a9:List s1
 b6:List p9
 d9:Int
 Code:Int
def J9(x:m9):List V:=[l7 2 t8 x.a9,l7 2 t9 x.b6,vi x.d9,vi x.Code]
structure m5 where
 i8:Bool
 a5:s3
 b9:m9
def t5(x:m5):List V:=[.b x.i8,vi x.a5.d7,vi x.a5.Seq,l7 2 t8 x.b9.a9,l7 2 t9 x.b9.b6,vi x.b9.d9,vi x.b9.Code]
structure m6 where
 a8:Int
 g9:m5
def p7(x:m6):List V:=[vi x.a8,.b x.g9.i8,vi x.g9.a5.d7,vi x.g9.a5.Seq,l7 2 t8 x.g9.b9.a9,l7 2 t9 x.g9.b9.b6,vi x.g9.b9.d9,vi x.g9.b9.Code]
structure v5 where
 i5:Int
 a0:List m6
def V8(x:v5):List V:=[vi x.i5,l7 8 p7 x.a0]
structure r9 where
 a6:Int
 A:Int
 B:Int
 N:Int
def z8(x:r9):List V:=[vi x.a6,vi x.A,vi x.B,vi x.N]
structure j8 where
 Id:Int
 Acc:v5
 a7:List m5
 Seq:Int
 f0:Int
 a8:Int
 c9:List Bool
 i4:List m6
 c8:m5
 a0:List Bool
 j3:Bool
 i7:List r9
 b8:m5
 d6:List m5
def B3(x:j8):List V:=[vi x.Id,vi x.Acc.i5,l7 8 p7 x.Acc.a0,l7 7 t5 x.a7,vi x.Seq,vi x.f0,vi x.a8,l7 1 eB x.c9,l7 8 p7 x.i4,.b x.c8.i8,vi x.c8.a5.d7,vi x.c8.a5.Seq,l7 2 t8 x.c8.b9.a9,l7 2 t9 x.c8.b9.b6,vi x.c8.b9.d9,vi x.c8.b9.Code,l7 1 eB x.a0,.b x.j3,l7 4 z8 x.i7,.b x.b8.i8,vi x.b8.a5.d7,vi x.b8.a5.Seq,l7 2 t8 x.b8.b9.a9,l7 2 t9 x.b8.b9.b6,vi x.b8.b9.d9,vi x.b8.b9.Code,l7 7 t5 x.d6]
structure j9 where
 a6:Int
 c9:Int
 To:Int
 a8:Int
 g8:Int
 g9:m5
 a0:List m6
def s7(x:j9):List V:=[vi x.a6,vi x.c9,vi x.To,vi x.a8,vi x.g8,.b x.g9.i8,vi x.g9.a5.d7,vi x.g9.a5.Seq,l7 2 t8 x.g9.b9.a9,l7 2 t9 x.g9.b9.b6,vi x.g9.b9.d9,vi x.g9.b9.Code,l7 8 p7 x.a0]
structure C1 where
 a5:s3
 i7:List r9
def C4(x:C1):List V:=[vi x.a5.d7,vi x.a5.Seq,l7 4 z8 x.i7]
structure o8 where
 Node:Int
 a5:s3
 Code:Int
 d9:Int
def z4(x:o8):List V:=[vi x.Node,vi x.a5.d7,vi x.a5.Seq,vi x.Code,vi x.d9]
structure m8 where
 b7:List j8
 d8:List j9
 g7:List C1
 Told:List o8
def Y0(x:m8):List V:=[l7 27 B3 x.b7,l7 13 s7 x.d8,l7 3 C4 x.g7,l7 5 z4 x.Told]
structure w9 where
 a6:Int
 A:Int
 i7:List r9
def K8(x:w9):List V:=[vi x.a6,vi x.A,l7 4 z8 x.i7]
structure o6 where
 b:List Int
 p:Int
def L9(x:o6):List V:=[l7 1 E1 x.b,vi x.p]
structure q9 where
 j4:Int
 d9:Int
def z5(x:q9):List V:=[vi x.j4,vi x.d9]
structure s6 where
 a5:s3
 Code:Int
 d9:Int
def C0(x:s6):List V:=[vi x.a5.d7,vi x.a5.Seq,vi x.Code,vi x.d9]
structure u9 where
 At:Int
 i0:List q9
 i9:List s6
def a73(x:u9):List V:=[vi x.At,l7 2 z5 x.i0,l7 4 C0 x.i9]
structure p6 where
 n:j8
 out:List j9
 told:List o8
def d0f(x:p6):List V:=[vi x.n.Id,vi x.n.Acc.i5,l7 8 p7 x.n.Acc.a0,l7 7 t5 x.n.a7,vi x.n.Seq,vi x.n.f0,vi x.n.a8,l7 1 eB x.n.c9,l7 8 p7 x.n.i4,.b x.n.c8.i8,vi x.n.c8.a5.d7,vi x.n.c8.a5.Seq,l7 2 t8 x.n.c8.b9.a9,l7 2 t9 x.n.c8.b9.b6,vi x.n.c8.b9.d9,vi x.n.c8.b9.Code,l7 1 eB x.n.a0,.b x.n.j3,l7 4 z8 x.n.i7,.b x.n.b8.i8,vi x.n.b8.a5.d7,vi x.n.b8.a5.Seq,l7 2 t8 x.n.b8.b9.a9,l7 2 t9 x.n.b8.b9.b6,vi x.n.b8.b9.d9,vi x.n.b8.b9.Code,l7 7 t5 x.n.d6,l7 13 s7 x.out,l7 5 z4 x.told]
def u7(x:j8):List V:=[vi x.Id,vi x.Acc.i5,u0 130 8 p7 x.Acc.a0,u0 63 7 t5 x.a7,vi x.Seq,vi x.f0,vi x.a8,u0 4 1 eB x.c9,l7 8 p7 x.i4,.b x.c8.i8,vi x.c8.a5.d7,vi x.c8.a5.Seq,l7 2 t8 x.c8.b9.a9,l7 2 t9 x.c8.b9.b6,vi x.c8.b9.d9,vi x.c8.b9.Code,u0 4 1 eB x.a0,.b x.j3,l7 4 z8 x.i7,.b x.b8.i8,vi x.b8.a5.d7,vi x.b8.a5.Seq,l7 2 t8 x.b8.b9.a9,l7 2 t9 x.b8.b9.b6,vi x.b8.b9.d9,vi x.b8.b9.Code,u0 63 7 t5 x.d6]
theorem a1q(x:j8):∀v∈u7 x,v.isRef=false:=by simp [u7,V.isRef,vi,l7,u0,b0d]
theorem b8J(x:j8):a0G (u7 x)=B3 x:=by simp [u7,B3,a0G,a6v,vi,l7,u0,b0d]
def a0v(x:m6):List V:=[vi x.a8,.b x.g9.i8,vi x.g9.a5.d7,vi x.g9.a5.Seq,u0 159 2 t8 x.g9.b9.a9,u0 162 2 t9 x.g9.b9.b6,vi x.g9.b9.d9,vi x.g9.b9.Code]
theorem d7T(x:m6):a0G (a0v x)=p7 x:=by simp [a0v,p7,a0G,a6v,vi,l7,u0,b0d]
def E7(x_:j8):List V:=[vi x_.Id,vi x_.Acc.i5,u0 130 8 p7 x_.Acc.a0,u0 63 7 t5 x_.a7,vi x_.Seq,vi x_.f0,vi x_.a8,u0 4 1 eB x_.c9,l7 8 p7 x_.i4,.b x_.c8.i8,vi x_.c8.a5.d7,vi x_.c8.a5.Seq,l7 2 t8 x_.c8.b9.a9,l7 2 t9 x_.c8.b9.b6,vi x_.c8.b9.d9,vi x_.c8.b9.Code,u0 4 1 eB x_.a0,.b x_.j3,l7 4 z8 x_.i7,.b x_.b8.i8,vi x_.b8.a5.d7,vi x_.b8.a5.Seq,l7 2 t8 x_.b8.b9.a9,l7 2 t9 x_.b8.b9.b6,vi x_.b8.b9.d9,vi x_.b8.b9.Code,u0 63 7 t5 x_.d6]
def V9(x_:m8):List V:=[b0d 65 27 u7 x_.b7,u0 68 13 s7 x_.d8,u0 70 3 C4 x_.g7,u0 51 5 z4 x_.Told]
def d97(x_:j8):List V:=[vi x_.Id,vi x_.Acc.i5,l7 8 p7 x_.Acc.a0,u0 63 7 t5 x_.a7,vi x_.Seq,vi x_.f0,vi x_.a8,u0 4 1 eB x_.c9,l7 8 p7 x_.i4,.b x_.c8.i8,vi x_.c8.a5.d7,vi x_.c8.a5.Seq,l7 2 t8 x_.c8.b9.a9,l7 2 t9 x_.c8.b9.b6,vi x_.c8.b9.d9,vi x_.c8.b9.Code,u0 4 1 eB x_.a0,.b x_.j3,l7 4 z8 x_.i7,.b x_.b8.i8,vi x_.b8.a5.d7,vi x_.b8.a5.Seq,l7 2 t8 x_.b8.b9.a9,l7 2 t9 x_.b8.b9.b6,vi x_.b8.b9.d9,vi x_.b8.b9.Code,u0 63 7 t5 x_.d6]
def a4t(x_:m9):List V:=[u0 159 2 t8 x_.a9,u0 162 2 t9 x_.b6,vi x_.d9,vi x_.Code]
def e1i(x_:m5):List V:=[.b x_.i8,vi x_.a5.d7,vi x_.a5.Seq,u0 159 2 t8 x_.b9.a9,u0 162 2 t9 x_.b9.b6,vi x_.b9.d9,vi x_.b9.Code]
def d2h(x_:m6):List V:=[vi x_.a8,.b x_.g9.i8,vi x_.g9.a5.d7,vi x_.g9.a5.Seq,l7 2 t8 x_.g9.b9.a9,l7 2 t9 x_.g9.b9.b6,vi x_.g9.b9.d9,vi x_.g9.b9.Code]
def a7i(x_:j8):List V:=[vi x_.Id,vi x_.Acc.i5,.own 0 0 8 0 x_.Acc.a0.length,.own 0 1 7 0 x_.a7.length,vi x_.Seq,vi x_.f0,vi x_.a8,.own 0 2 1 0 x_.c9.length,l7 8 p7 x_.i4,.b x_.c8.i8,vi x_.c8.a5.d7,vi x_.c8.a5.Seq,l7 2 t8 x_.c8.b9.a9,l7 2 t9 x_.c8.b9.b6,vi x_.c8.b9.d9,vi x_.c8.b9.Code,.own 0 3 1 0 x_.a0.length,.b x_.j3,l7 4 z8 x_.i7,.b x_.b8.i8,vi x_.b8.a5.d7,vi x_.b8.a5.Seq,l7 2 t8 x_.b8.b9.a9,l7 2 t9 x_.b8.b9.b6,vi x_.b8.b9.d9,vi x_.b8.b9.Code,.own 0 4 7 0 x_.d6.length]
def a8a(x_:j8):List V:=[vi x_.Id,vi x_.Acc.i5,l7 8 p7 x_.Acc.a0,l7 7 t5 x_.a7,vi x_.Seq,vi x_.f0,vi x_.a8,l7 1 eB x_.c9,l7 8 p7 x_.i4,.b x_.c8.i8,vi x_.c8.a5.d7,vi x_.c8.a5.Seq,l7 2 t8 x_.c8.b9.a9,l7 2 t9 x_.c8.b9.b6,vi x_.c8.b9.d9,vi x_.c8.b9.Code,l7 1 eB x_.a0,.b x_.j3,l7 4 z8 x_.i7,.b x_.b8.i8,vi x_.b8.a5.d7,vi x_.b8.a5.Seq,l7 2 t8 x_.b8.b9.a9,l7 2 t9 x_.b8.b9.b6,vi x_.b8.b9.d9,vi x_.b8.b9.Code,l7 7 t5 x_.d6]
def a0f(x_:j9):List V:=[vi x_.a6,vi x_.c9,vi x_.To,vi x_.a8,vi x_.g8,.b x_.g9.i8,vi x_.g9.a5.d7,vi x_.g9.a5.Seq,l7 2 t8 x_.g9.b9.a9,l7 2 t9 x_.g9.b9.b6,vi x_.g9.b9.d9,vi x_.g9.b9.Code,l7 8 p7 x_.a0]
def a3T(x_:m5):List V:=[.b x_.i8,vi x_.a5.d7,vi x_.a5.Seq,l7 2 t8 x_.b9.a9,l7 2 t9 x_.b9.b6,vi x_.b9.d9,vi x_.b9.Code]
def b08(x_:u9):List V:=[vi x_.At,u0 179 2 z5 x_.i0,l7 4 C0 x_.i9]
def c8r(x_:j8):List V:=[.bot,.bot,u0 130 8 p7 x_.Acc.a0,u0 63 7 t5 x_.a7,.bot,.bot,.bot,u0 4 1 eB x_.c9,.bot,.bot,.bot,.bot,.bot,.bot,.bot,.bot,u0 4 1 eB x_.a0,.bot,.bot,.bot,.bot,.bot,.bot,.bot,.bot,.bot,u0 63 7 t5 x_.d6]
def b04(x_:j8):List V:=[vi x_.Id,vi x_.Acc.i5,.own 3 0 8 0 x_.Acc.a0.length,.own 4 0 7 0 x_.a7.length,vi x_.Seq,vi x_.f0,vi x_.a8,.own 5 0 1 0 x_.c9.length,l7 8 p7 x_.i4,.b x_.c8.i8,vi x_.c8.a5.d7,vi x_.c8.a5.Seq,l7 2 t8 x_.c8.b9.a9,l7 2 t9 x_.c8.b9.b6,vi x_.c8.b9.d9,vi x_.c8.b9.Code,.own 6 0 1 0 x_.a0.length,.b x_.j3,l7 4 z8 x_.i7,.b x_.b8.i8,vi x_.b8.a5.d7,vi x_.b8.a5.Seq,l7 2 t8 x_.b8.b9.a9,l7 2 t9 x_.b8.b9.b6,vi x_.b8.b9.d9,vi x_.b8.b9.Code,.own 7 0 7 0 x_.d6.length]
def c0I(x_:j8):List V:=[vi x_.Id,vi x_.Acc.i5,.own 0 1 8 0 x_.Acc.a0.length,.own 0 2 7 0 x_.a7.length,vi x_.Seq,vi x_.f0,vi x_.a8,.own 0 3 1 0 x_.c9.length,l7 8 p7 x_.i4,.b x_.c8.i8,vi x_.c8.a5.d7,vi x_.c8.a5.Seq,l7 2 t8 x_.c8.b9.a9,l7 2 t9 x_.c8.b9.b6,vi x_.c8.b9.d9,vi x_.c8.b9.Code,.own 0 4 1 0 x_.a0.length,.b x_.j3,l7 4 z8 x_.i7,.b x_.b8.i8,vi x_.b8.a5.d7,vi x_.b8.a5.Seq,l7 2 t8 x_.b8.b9.a9,l7 2 t9 x_.b8.b9.b6,vi x_.b8.b9.d9,vi x_.b8.b9.Code,.own 0 5 7 0 x_.d6.length]
def a7T(x_:m8):List V:=[u0 65 27 B3 x_.b7,u0 68 13 s7 x_.d8,u0 70 3 C4 x_.g7,u0 51 5 z4 x_.Told]
def b71(x_:p6):List V:=[vi x_.n.Id,vi x_.n.Acc.i5,l7 8 p7 x_.n.Acc.a0,u0 63 7 t5 x_.n.a7,vi x_.n.Seq,vi x_.n.f0,vi x_.n.a8,u0 4 1 eB x_.n.c9,l7 8 p7 x_.n.i4,.b x_.n.c8.i8,vi x_.n.c8.a5.d7,vi x_.n.c8.a5.Seq,l7 2 t8 x_.n.c8.b9.a9,l7 2 t9 x_.n.c8.b9.b6,vi x_.n.c8.b9.d9,vi x_.n.c8.b9.Code,u0 4 1 eB x_.n.a0,.b x_.n.j3,l7 4 z8 x_.n.i7,.b x_.n.b8.i8,vi x_.n.b8.a5.d7,vi x_.n.b8.a5.Seq,l7 2 t8 x_.n.b8.b9.a9,l7 2 t9 x_.n.b8.b9.b6,vi x_.n.b8.b9.d9,vi x_.n.b8.b9.Code,u0 63 7 t5 x_.n.d6,u0 68 13 s7 x_.out,u0 51 5 z4 x_.told]
def b3h(x_:u9):List V:=[vi x_.At,u0 179 2 z5 x_.i0,u0 203 4 C0 x_.i9]
def b9Q(x_:p6):List V:=[vi x_.n.Id,vi x_.n.Acc.i5,l7 8 p7 x_.n.Acc.a0,.own 0 1 7 0 x_.n.a7.length,vi x_.n.Seq,vi x_.n.f0,vi x_.n.a8,.own 0 2 1 0 x_.n.c9.length,l7 8 p7 x_.n.i4,.b x_.n.c8.i8,vi x_.n.c8.a5.d7,vi x_.n.c8.a5.Seq,l7 2 t8 x_.n.c8.b9.a9,l7 2 t9 x_.n.c8.b9.b6,vi x_.n.c8.b9.d9,vi x_.n.c8.b9.Code,.own 0 3 1 0 x_.n.a0.length,.b x_.n.j3,l7 4 z8 x_.n.i7,.b x_.n.b8.i8,vi x_.n.b8.a5.d7,vi x_.n.b8.a5.Seq,l7 2 t8 x_.n.b8.b9.a9,l7 2 t9 x_.n.b8.b9.b6,vi x_.n.b8.b9.d9,vi x_.n.b8.b9.Code,l7 7 t5 x_.n.d6,.own 0 4 13 0 x_.out.length,.own 0 5 5 0 x_.told.length]
def J5(x_:p6):List V:=[vi x_.n.Id,vi x_.n.Acc.i5,l7 8 p7 x_.n.Acc.a0,u0 63 7 t5 x_.n.a7,vi x_.n.Seq,vi x_.n.f0,vi x_.n.a8,u0 4 1 eB x_.n.c9,l7 8 p7 x_.n.i4,.b x_.n.c8.i8,vi x_.n.c8.a5.d7,vi x_.n.c8.a5.Seq,l7 2 t8 x_.n.c8.b9.a9,l7 2 t9 x_.n.c8.b9.b6,vi x_.n.c8.b9.d9,vi x_.n.c8.b9.Code,u0 4 1 eB x_.n.a0,.b x_.n.j3,l7 4 z8 x_.n.i7,.b x_.n.b8.i8,vi x_.n.b8.a5.d7,vi x_.n.b8.a5.Seq,l7 2 t8 x_.n.b8.b9.a9,l7 2 t9 x_.n.b8.b9.b6,vi x_.n.b8.b9.d9,vi x_.n.b8.b9.Code,l7 7 t5 x_.n.d6,u0 68 13 s7 x_.out,u0 51 5 z4 x_.told]
def b0D(x_:p6):List V:=[vi x_.n.Id,vi x_.n.Acc.i5,l7 8 p7 x_.n.Acc.a0,.own 1 0 7 0 x_.n.a7.length,vi x_.n.Seq,vi x_.n.f0,vi x_.n.a8,.own 2 0 1 0 x_.n.c9.length,l7 8 p7 x_.n.i4,.b x_.n.c8.i8,vi x_.n.c8.a5.d7,vi x_.n.c8.a5.Seq,l7 2 t8 x_.n.c8.b9.a9,l7 2 t9 x_.n.c8.b9.b6,vi x_.n.c8.b9.d9,vi x_.n.c8.b9.Code,.own 3 0 1 0 x_.n.a0.length,.b x_.n.j3,l7 4 z8 x_.n.i7,.b x_.n.b8.i8,vi x_.n.b8.a5.d7,vi x_.n.b8.a5.Seq,l7 2 t8 x_.n.b8.b9.a9,l7 2 t9 x_.n.b8.b9.b6,vi x_.n.b8.b9.d9,vi x_.n.b8.b9.Code,l7 7 t5 x_.n.d6,.own 4 0 13 0 x_.out.length,.own 5 0 5 0 x_.told.length]
def d5s(x_:p6):List V:=[vi x_.n.Id,vi x_.n.Acc.i5,l7 8 p7 x_.n.Acc.a0,.own 6 0 7 0 x_.n.a7.length,vi x_.n.Seq,vi x_.n.f0,vi x_.n.a8,.own 5 0 1 0 x_.n.c9.length,l7 8 p7 x_.n.i4,.b x_.n.c8.i8,vi x_.n.c8.a5.d7,vi x_.n.c8.a5.Seq,l7 2 t8 x_.n.c8.b9.a9,l7 2 t9 x_.n.c8.b9.b6,vi x_.n.c8.b9.d9,vi x_.n.c8.b9.Code,.own 4 0 1 0 x_.n.a0.length,.b x_.n.j3,l7 4 z8 x_.n.i7,.b x_.n.b8.i8,vi x_.n.b8.a5.d7,vi x_.n.b8.a5.Seq,l7 2 t8 x_.n.b8.b9.a9,l7 2 t9 x_.n.b8.b9.b6,vi x_.n.b8.b9.d9,vi x_.n.b8.b9.Code,l7 7 t5 x_.n.d6,.own 3 0 13 0 x_.out.length,.own 2 0 5 0 x_.told.length]
def b00(x_:p6):List V:=[vi x_.n.Id,vi x_.n.Acc.i5,l7 8 p7 x_.n.Acc.a0,.own 3 0 7 0 x_.n.a7.length,vi x_.n.Seq,vi x_.n.f0,vi x_.n.a8,.own 4 0 1 0 x_.n.c9.length,l7 8 p7 x_.n.i4,.b x_.n.c8.i8,vi x_.n.c8.a5.d7,vi x_.n.c8.a5.Seq,l7 2 t8 x_.n.c8.b9.a9,l7 2 t9 x_.n.c8.b9.b6,vi x_.n.c8.b9.d9,vi x_.n.c8.b9.Code,.own 5 0 1 0 x_.n.a0.length,.b x_.n.j3,l7 4 z8 x_.n.i7,.b x_.n.b8.i8,vi x_.n.b8.a5.d7,vi x_.n.b8.a5.Seq,l7 2 t8 x_.n.b8.b9.a9,l7 2 t9 x_.n.b8.b9.b6,vi x_.n.b8.b9.d9,vi x_.n.b8.b9.Code,l7 7 t5 x_.n.d6,.own 6 0 13 0 x_.out.length,.own 7 0 5 0 x_.told.length]
def d1c(x_:p6):List V:=[vi x_.n.Id,vi x_.n.Acc.i5,l7 8 p7 x_.n.Acc.a0,.own 1 0 7 0 x_.n.a7.length,vi x_.n.Seq,vi x_.n.f0,vi x_.n.a8,.own 0 2 1 0 x_.n.c9.length,l7 8 p7 x_.n.i4,.b x_.n.c8.i8,vi x_.n.c8.a5.d7,vi x_.n.c8.a5.Seq,l7 2 t8 x_.n.c8.b9.a9,l7 2 t9 x_.n.c8.b9.b6,vi x_.n.c8.b9.d9,vi x_.n.c8.b9.Code,.own 2 0 1 0 x_.n.a0.length,.b x_.n.j3,l7 4 z8 x_.n.i7,.b x_.n.b8.i8,vi x_.n.b8.a5.d7,vi x_.n.b8.a5.Seq,l7 2 t8 x_.n.b8.b9.a9,l7 2 t9 x_.n.b8.b9.b6,vi x_.n.b8.b9.d9,vi x_.n.b8.b9.Code,l7 7 t5 x_.n.d6,.own 0 4 13 0 x_.out.length,.own 0 5 5 0 x_.told.length]
def e8m(x_:p6):List V:=[vi x_.n.Id,vi x_.n.Acc.i5,l7 8 p7 x_.n.Acc.a0,.own 1 0 7 0 x_.n.a7.length,vi x_.n.Seq,vi x_.n.f0,vi x_.n.a8,.own 0 2 1 0 x_.n.c9.length,l7 8 p7 x_.n.i4,.b x_.n.c8.i8,vi x_.n.c8.a5.d7,vi x_.n.c8.a5.Seq,l7 2 t8 x_.n.c8.b9.a9,l7 2 t9 x_.n.c8.b9.b6,vi x_.n.c8.b9.d9,vi x_.n.c8.b9.Code,.own 2 0 1 0 x_.n.a0.length,.b x_.n.j3,l7 4 z8 x_.n.i7,.b x_.n.b8.i8,vi x_.n.b8.a5.d7,vi x_.n.b8.a5.Seq,l7 2 t8 x_.n.b8.b9.a9,l7 2 t9 x_.n.b8.b9.b6,vi x_.n.b8.b9.d9,vi x_.n.b8.b9.Code,l7 7 t5 x_.n.d6,.own 0 4 13 0 x_.out.length,.own 3 0 5 0 x_.told.length]
def d5P(x_:p6):List V:=[vi x_.n.Id,vi x_.n.Acc.i5,l7 8 p7 x_.n.Acc.a0,.own 4 0 7 0 x_.n.a7.length,vi x_.n.Seq,vi x_.n.f0,vi x_.n.a8,.own 5 0 1 0 x_.n.c9.length,l7 8 p7 x_.n.i4,.b x_.n.c8.i8,vi x_.n.c8.a5.d7,vi x_.n.c8.a5.Seq,l7 2 t8 x_.n.c8.b9.a9,l7 2 t9 x_.n.c8.b9.b6,vi x_.n.c8.b9.d9,vi x_.n.c8.b9.Code,.own 6 0 1 0 x_.n.a0.length,.b x_.n.j3,l7 4 z8 x_.n.i7,.b x_.n.b8.i8,vi x_.n.b8.a5.d7,vi x_.n.b8.a5.Seq,l7 2 t8 x_.n.b8.b9.a9,l7 2 t9 x_.n.b8.b9.b6,vi x_.n.b8.b9.d9,vi x_.n.b8.b9.Code,l7 7 t5 x_.n.d6,.own 7 0 13 0 x_.out.length,.own 8 0 5 0 x_.told.length]
def a3p(x_:j8):List s4:=[m7 130 8 p7 x_.Acc.a0,m7 63 7 t5 x_.a7,m7 4 1 eB x_.c9,m7 4 1 eB x_.a0,m7 63 7 t5 x_.d6]
def b2J(x_:j8):List (Option (List s4)):=[some [m7 130 8 p7 x_.Acc.a0],some [m7 63 7 t5 x_.a7],some [m7 4 1 eB x_.c9],some [m7 4 1 eB x_.a0],some [m7 63 7 t5 x_.d6]]
def c1X(x_:p6):List s4:=[m7 63 7 t5 x_.n.a7,m7 4 1 eB x_.n.c9,m7 4 1 eB x_.n.a0,m7 68 13 s7 x_.out,m7 51 5 z4 x_.told]
def a2Q(x_:p6):List (Option (List s4)):=[some [m7 63 7 t5 x_.n.a7],some [m7 4 1 eB x_.n.c9],some [m7 4 1 eB x_.n.a0],some [m7 68 13 s7 x_.out],some [m7 51 5 z4 x_.told]]
def d7l(x_:p6):List (Option (List s4)):=[some [m7 51 5 z4 x_.told],some [m7 68 13 s7 x_.out],some [m7 4 1 eB x_.n.a0],some [m7 4 1 eB x_.n.c9],some [m7 63 7 t5 x_.n.a7]]
def c4z(x_:p6):List s4:=[m7 68 13 s7 x_.out,m7 51 5 z4 x_.told]
def d2o(x_:p6):List (Option (List s4)):=[some [m7 63 7 t5 x_.n.a7],some [m7 4 1 eB x_.n.a0]]
def d90(x_:p6):List (Option (List s4)):=[some [m7 63 7 t5 x_.n.a7],some [m7 4 1 eB x_.n.a0],some [m7 51 5 z4 x_.told]]
def E4:List (Option Nat):=[none,none,some 130,some 63,none,none,none,some 4,none,none,none,none,none,none,none,none,some 4,none,none,none,none,none,none,none,none,none,some 63]
def W1:List (Option Nat):=[some 1000065,some 68,some 70,some 51]
def om3:List (Option Nat):=[none,none,none,some 63,none,none,none,some 4,none,none,none,none,none,none,none,none,some 4,none,none,none,none,none,none,none,none,none,some 63]
def om4:List (Option Nat):=[some 159,some 162,none,none]
def om5:List (Option Nat):=[none,none,none,some 159,some 162,none,none]
def om6:List (Option Nat):=[some 8000000,some 68,some 70,some 51]
def om7:List (Option Nat):=[some 65,some 68,some 70,some 51]
def om8:List (Option Nat):=[none,none,none,some 63,none,none,none,some 4,none,none,none,none,none,none,none,none,some 4,none,none,none,none,none,none,none,none,none,some 63,some 68,some 51]
def L1:List (Option Nat):=[none,none,none,some 63,none,none,none,some 4,none,none,none,none,none,none,none,none,some 4,none,none,none,none,none,none,none,none,none,none,some 68,some 51]
def E8:List (Option Nat):=[some 27,some 13,some 3,some 5]
def M7:List (Option Nat):=[some 2,some 2,none,none]
def I1:List (Option Nat):=[none,none,none,some 2,some 2,none,none]
def A4:List (Option Nat):=[none,none,some 8,some 7,none,none,none,some 1,some 8,none,none,none,some 2,some 2,none,none,some 1,none,some 4,none,none,none,some 2,some 2,none,none,some 7]
def B0:List (Option Nat):=[none,none,none,none,none,none,none,none,some 2,some 2,none,none,some 8]
def O7:List (Option Nat):=[none,none,none,none,some 2,some 2,none,none]
def H0:List (Option Nat):=[none,none,some 8,some 7,none,none,none,some 1,some 8,none,none,none,some 2,some 2,none,none,some 1,none,some 4,none,none,none,some 2,some 2,none,none,some 7,some 13,some 5]
theorem c6a(d:Nat)(w:World)(x0 x1 y0 y1:Int):(Op.equalIn (d+2) 49 (.agg #[.int .i64 x0,.int .i64 x1]) (.agg #[.int .i64 y0,.int .i64 y1])).run Tryz.prog w=.ok ((x0==y0)&&((x1==y1)&&true)) w:=by
 refine b2f Tryz.underlying49 Tryz.stoodInHeld49 ?_;refine a0U (by rfl) (by first|(go_simp;done)|(go_simp;rfl)) (by first|(go_simp;done)|(go_simp;rfl)) (a1h Tryz.underlying3) ?_;refine a0U (by rfl) (by first|(go_simp;done)|(go_simp;rfl)) (by first|(go_simp;done)|(go_simp;rfl)) (a1h Tryz.underlying3) ?_;exact b2s
theorem d8L(xs ys:List Int)(w:World)(hx:xs.length=2)(hy:ys.length=2):(Op.equal 49 (.agg (xs.map (Value.int .i64)).toArray) (.agg (ys.map (Value.int .i64)).toArray)).run Tryz.prog w=.ok (xs==ys) w:=by
 match xs,ys,hx,hy with
 | [x0,x1],[y0,y1],_,_=>
  have h:=c6a 9998 w x0 x1 y0 y1;have e:((x0==y0)&&((x1==y1)&&true))=([x0,x1]==([y0,y1]:List Int)):=by simp [f1o]
  rw [e] at h;exact h
theorem e6J(d:Nat)(w:World)(x0 x1 x2 x3 x4 y0 y1 y2 y3 y4:Int):(Op.equalIn (d+3) 51 (.agg #[.int .i64 x0,.int .i64 x1,.int .i64 x2,.int .i64 x3,.int .i64 x4]) (.agg #[.int .i64 y0,.int .i64 y1,.int .i64 y2,.int .i64 y3,.int .i64 y4])).run Tryz.prog w=.ok ((x0==y0)&&(((x1==y1)&&((x2==y2)&&true))&&((x3==y3)&&((x4==y4)&&true)))) w:=by
 refine b2f Tryz.underlying51 Tryz.stoodInHeld51 ?_;refine a0U (by rfl) (by first|(go_simp;done)|(go_simp;rfl)) (by first|(go_simp;done)|(go_simp;rfl)) (a1h Tryz.underlying3) ?_;refine a0U (by rfl) (by first|(go_simp;done)|(go_simp;rfl)) (by first|(go_simp;done)|(go_simp;rfl)) (c6a (d+0) w x1 x2 y1 y2) ?_;refine a0U (by rfl) (by first|(go_simp;done)|(go_simp;rfl)) (by first|(go_simp;done)|(go_simp;rfl)) (a1h Tryz.underlying3) ?_;refine a0U (by rfl) (by first|(go_simp;done)|(go_simp;rfl)) (by first|(go_simp;done)|(go_simp;rfl)) (a1h Tryz.underlying3) ?_;exact b2s
theorem e8P(xs ys:List Int)(w:World)(hx:xs.length=5)(hy:ys.length=5):(Op.equal 51 (.agg (xs.map (Value.int .i64)).toArray) (.agg (ys.map (Value.int .i64)).toArray)).run Tryz.prog w=.ok (xs==ys) w:=by
 match xs,ys,hx,hy with
 | [x0,x1,x2,x3,x4],[y0,y1,y2,y3,y4],_,_=>
  have h:=e6J 9997 w x0 x1 x2 x3 x4 y0 y1 y2 y3 y4;have e:((x0==y0)&&(((x1==y1)&&((x2==y2)&&true))&&((x3==y3)&&((x4==y4)&&true))))=([x0,x1,x2,x3,x4]==([y0,y1,y2,y3,y4]:List Int)):=by simp [f1o]
  rw [e] at h;exact h
theorem e3z(d:Nat)(w:World)(x0 x1 x2 x3 y0 y1 y2 y3:Int):(Op.equalIn (d+2) 92 (.agg #[.int .i64 x0,.int .i64 x1,.int .i64 x2,.int .i64 x3]) (.agg #[.int .i64 y0,.int .i64 y1,.int .i64 y2,.int .i64 y3])).run Tryz.prog w=.ok ((x0==y0)&&((x1==y1)&&((x2==y2)&&((x3==y3)&&true)))) w:=by
 refine b2f Tryz.underlying92 Tryz.stoodInHeld92 ?_;refine a0U (by rfl) (by first|(go_simp;done)|(go_simp;rfl)) (by first|(go_simp;done)|(go_simp;rfl)) (a1h Tryz.underlying3) ?_;refine a0U (by rfl) (by first|(go_simp;done)|(go_simp;rfl)) (by first|(go_simp;done)|(go_simp;rfl)) (a1h Tryz.underlying3) ?_;refine a0U (by rfl) (by first|(go_simp;done)|(go_simp;rfl)) (by first|(go_simp;done)|(go_simp;rfl)) (a1h Tryz.underlying3) ?_;refine a0U (by rfl) (by first|(go_simp;done)|(go_simp;rfl)) (by first|(go_simp;done)|(go_simp;rfl)) (a1h Tryz.underlying3) ?_;exact b2s
theorem e9j(xs ys:List Int)(w:World)(hx:xs.length=4)(hy:ys.length=4):(Op.equal 92 (.agg (xs.map (Value.int .i64)).toArray) (.agg (ys.map (Value.int .i64)).toArray)).run Tryz.prog w=.ok (xs==ys) w:=by
 match xs,ys,hx,hy with
 | [x0,x1,x2,x3],[y0,y1,y2,y3],_,_=>
  have h:=e3z 9998 w x0 x1 x2 x3 y0 y1 y2 y3;have e:((x0==y0)&&((x1==y1)&&((x2==y2)&&((x3==y3)&&true))))=([x0,x1,x2,x3]==([y0,y1,y2,y3]:List Int)):=by simp [f1o]
  rw [e] at h;exact h
theorem e3t(d:Nat)(w:World)(x0 x1 y0 y1:Int):(Op.equalIn (d+2) 159 (.agg #[.int .i64 x0,.int .i64 x1]) (.agg #[.int .i64 y0,.int .i64 y1])).run Tryz.prog w=.ok ((x0==y0)&&((x1==y1)&&true)) w:=by
 refine b2f Tryz.underlying159 Tryz.stoodInHeld159 ?_;refine a0U (by rfl) (by first|(go_simp;done)|(go_simp;rfl)) (by first|(go_simp;done)|(go_simp;rfl)) (a1h Tryz.underlying3) ?_;refine a0U (by rfl) (by first|(go_simp;done)|(go_simp;rfl)) (by first|(go_simp;done)|(go_simp;rfl)) (a1h Tryz.underlying3) ?_;exact b2s
theorem e0j(xs ys:List Int)(w:World)(hx:xs.length=2)(hy:ys.length=2):(Op.equal 159 (.agg (xs.map (Value.int .i64)).toArray) (.agg (ys.map (Value.int .i64)).toArray)).run Tryz.prog w=.ok (xs==ys) w:=by
 match xs,ys,hx,hy with
 | [x0,x1],[y0,y1],_,_=>
  have h:=e3t 9998 w x0 x1 y0 y1;have e:((x0==y0)&&((x1==y1)&&true))=([x0,x1]==([y0,y1]:List Int)):=by simp [f1o]
  rw [e] at h;exact h
theorem d4M(d:Nat)(w:World)(x0 x1 y0 y1:Int):(Op.equalIn (d+2) 162 (.agg #[.int .i64 x0,.int .i64 x1]) (.agg #[.int .i64 y0,.int .i64 y1])).run Tryz.prog w=.ok ((x0==y0)&&((x1==y1)&&true)) w:=by
 refine b2f Tryz.underlying162 Tryz.stoodInHeld162 ?_;refine a0U (by rfl) (by first|(go_simp;done)|(go_simp;rfl)) (by first|(go_simp;done)|(go_simp;rfl)) (a1h Tryz.underlying3) ?_;refine a0U (by rfl) (by first|(go_simp;done)|(go_simp;rfl)) (by first|(go_simp;done)|(go_simp;rfl)) (a1h Tryz.underlying3) ?_;exact b2s
theorem e1b(xs ys:List Int)(w:World)(hx:xs.length=2)(hy:ys.length=2):(Op.equal 162 (.agg (xs.map (Value.int .i64)).toArray) (.agg (ys.map (Value.int .i64)).toArray)).run Tryz.prog w=.ok (xs==ys) w:=by
 match xs,ys,hx,hy with
 | [x0,x1],[y0,y1],_,_=>
  have h:=d4M 9998 w x0 x1 y0 y1;have e:((x0==y0)&&((x1==y1)&&true))=([x0,x1]==([y0,y1]:List Int)):=by simp [f1o]
  rw [e] at h;exact h
def ti3:TI:={size:=1,bytes:=8,agg:=false,zero:=[vi 0],sl:=none,arr:=none,ik:=some .i64,fs:=none,str:=false,ptr:=none,bl:=false}
def ti4:TI:={size:=1,bytes:=1,agg:=false,zero:=[.b false],sl:=none,arr:=none,ik:=none,fs:=none,str:=false,ptr:=none,bl:=true}
def ti5:TI:={size:=1,bytes:=1,agg:=false,zero:=[.i .u8 0],sl:=none,arr:=none,ik:=some .u8,fs:=none,str:=false,ptr:=none,bl:=false}
def c9X:TI:={size:=1,bytes:=24,agg:=false,zero:=[.nil],sl:=some 5,arr:=none,ik:=none,fs:=none,str:=false,ptr:=none,bl:=false}
def c5m:TI:={size:=1,bytes:=24,agg:=false,zero:=[.nil],sl:=some 65,arr:=none,ik:=none,fs:=none,str:=false,ptr:=none,bl:=false}
def c69:TI:={size:=1,bytes:=24,agg:=false,zero:=[.nil],sl:=some 68,arr:=none,ik:=none,fs:=none,str:=false,ptr:=none,bl:=false}
def c7t:TI:={size:=1,bytes:=24,agg:=false,zero:=[.nil],sl:=some 70,arr:=none,ik:=none,fs:=none,str:=false,ptr:=none,bl:=false}
def d09:TI:={size:=1,bytes:=24,agg:=false,zero:=[.nil],sl:=some 51,arr:=none,ik:=none,fs:=none,str:=false,ptr:=none,bl:=false}
def c6D:TI:={size:=4,bytes:=96,agg:=true,zero:=[.nil,.nil,.nil,.nil],sl:=none,arr:=none,ik:=none,fs:=some [(0,23),(1,24),(2,25),(3,26)],str:=false,ptr:=none,bl:=false}
def d0V:TI:={size:=1,bytes:=24,agg:=false,zero:=[.nil],sl:=some 38,arr:=none,ik:=none,fs:=none,str:=false,ptr:=none,bl:=false}
def d3d:TI:={size:=1,bytes:=24,agg:=false,zero:=[.nil],sl:=some 92,arr:=none,ik:=none,fs:=none,str:=false,ptr:=none,bl:=false}
def d3P:TI:={size:=3,bytes:=40,agg:=true,zero:=[vi 0,vi 0,.nil],sl:=none,arr:=none,ik:=none,fs:=some [(0,3),(1,3),(2,36)],str:=false,ptr:=none,bl:=false}
def d0K:TI:={size:=1,bytes:=24,agg:=false,zero:=[.nil],sl:=some 3,arr:=none,ik:=none,fs:=none,str:=false,ptr:=none,bl:=false}
def c4e:TI:={size:=2,bytes:=16,agg:=true,zero:=[vi 0,vi 0],sl:=none,arr:=none,ik:=none,fs:=some [(0,3),(1,3)],str:=false,ptr:=none,bl:=false}
def c0Z:TI:={size:=5,bytes:=40,agg:=true,zero:=[vi 0,vi 0,vi 0,vi 0,vi 0],sl:=none,arr:=none,ik:=none,fs:=some [(0,3),(1,49),(3,3),(4,3)],str:=false,ptr:=none,bl:=false}
def d0G:TI:={size:=1,bytes:=24,agg:=false,zero:=[.nil],sl:=some 130,arr:=none,ik:=none,fs:=none,str:=false,ptr:=none,bl:=false}
def d2O:TI:={size:=2,bytes:=32,agg:=true,zero:=[vi 0,.nil],sl:=none,arr:=none,ik:=none,fs:=some [(0,3),(1,53)],str:=false,ptr:=none,bl:=false}
def c5I:TI:={size:=1,bytes:=24,agg:=false,zero:=[.nil],sl:=some 63,arr:=none,ik:=none,fs:=none,str:=false,ptr:=none,bl:=false}
def c3Y:TI:={size:=1,bytes:=24,agg:=false,zero:=[.nil],sl:=some 4,arr:=none,ik:=none,fs:=none,str:=false,ptr:=none,bl:=false}
def c6J:TI:={size:=1,bytes:=24,agg:=false,zero:=[.nil],sl:=some 159,arr:=none,ik:=none,fs:=none,str:=false,ptr:=none,bl:=false}
def c5r:TI:={size:=1,bytes:=24,agg:=false,zero:=[.nil],sl:=some 162,arr:=none,ik:=none,fs:=none,str:=false,ptr:=none,bl:=false}
def d0c:TI:={size:=4,bytes:=64,agg:=true,zero:=[.nil,.nil,vi 0,vi 0],sl:=none,arr:=none,ik:=none,fs:=some [(0,58),(1,59),(2,3),(3,3)],str:=false,ptr:=none,bl:=false}
def c0p:TI:={size:=7,bytes:=88,agg:=true,zero:=[.b false,vi 0,vi 0,.nil,.nil,vi 0,vi 0],sl:=none,arr:=none,ik:=none,fs:=some [(0,4),(1,49),(3,61)],str:=false,ptr:=none,bl:=false}
def c2o:TI:={size:=27,bytes:=392,agg:=true,zero:=[vi 0,vi 0,.nil,.nil,vi 0,vi 0,vi 0,.nil,.nil,.b false,vi 0,vi 0,.nil,.nil,vi 0,vi 0,.nil,.b false,.nil,.b false,vi 0,vi 0,.nil,.nil,vi 0,vi 0,.nil],sl:=none,arr:=none,ik:=none,fs:=some [(0,3),(1,55),(3,56),(4,3),(5,3),(6,3),(7,57),(8,53),(9,63),(16,57),(17,4),(18,36),(19,63),(26,56)],str:=false,ptr:=none,bl:=false}
def c3g:TI:={size:=13,bytes:=152,agg:=true,zero:=[vi 0,vi 0,vi 0,vi 0,vi 0,.b false,vi 0,vi 0,.nil,.nil,vi 0,vi 0,.nil],sl:=none,arr:=none,ik:=none,fs:=some [(0,3),(1,3),(2,3),(3,3),(4,3),(5,63),(12,53)],str:=false,ptr:=none,bl:=false}
def c0t:TI:={size:=3,bytes:=40,agg:=true,zero:=[vi 0,vi 0,.nil],sl:=none,arr:=none,ik:=none,fs:=some [(0,49),(2,36)],str:=false,ptr:=none,bl:=false}
def c42:TI:={size:=2,bytes:=32,agg:=true,zero:=[.nil,vi 0],sl:=none,arr:=none,ik:=none,fs:=some [(0,22),(1,3)],str:=false,ptr:=none,bl:=false}
def c3G:TI:={size:=4,bytes:=32,agg:=true,zero:=[vi 0,vi 0,vi 0,vi 0],sl:=none,arr:=none,ik:=none,fs:=some [(0,3),(1,3),(2,3),(3,3)],str:=false,ptr:=none,bl:=false}
def c5y:TI:={size:=1,bytes:=24,agg:=false,zero:=[.nil],sl:=some 179,arr:=none,ik:=none,fs:=none,str:=false,ptr:=none,bl:=false}
def b2V:TI:={size:=8,bytes:=96,agg:=true,zero:=[vi 0,.b false,vi 0,vi 0,.nil,.nil,vi 0,vi 0],sl:=none,arr:=none,ik:=none,fs:=some [(0,3),(1,63)],str:=false,ptr:=none,bl:=false}
def c9G:TI:={size:=1,bytes:=24,agg:=false,zero:=[.nil],sl:=some 203,arr:=none,ik:=none,fs:=none,str:=false,ptr:=none,bl:=false}
def c35:TI:={size:=3,bytes:=56,agg:=true,zero:=[vi 0,.nil,.nil],sl:=none,arr:=none,ik:=none,fs:=some [(0,3),(1,116),(2,142)],str:=false,ptr:=none,bl:=false}
def c89:TI:={size:=29,bytes:=440,agg:=true,zero:=[vi 0,vi 0,.nil,.nil,vi 0,vi 0,vi 0,.nil,.nil,.b false,vi 0,vi 0,.nil,.nil,vi 0,vi 0,.nil,.b false,.nil,.b false,vi 0,vi 0,.nil,.nil,vi 0,vi 0,.nil,.nil,.nil],sl:=none,arr:=none,ik:=none,fs:=some [(0,65),(27,24),(28,26)],str:=false,ptr:=none,bl:=false}
def c0w:TI:={size:=2,bytes:=16,agg:=true,zero:=[vi 0,vi 0],sl:=none,arr:=none,ik:=none,fs:=some [(0,3),(1,3)],str:=false,ptr:=none,bl:=false}
def b8F:TI:={size:=2,bytes:=16,agg:=true,zero:=[vi 0,vi 0],sl:=none,arr:=none,ik:=none,fs:=some [(0,3),(1,3)],str:=false,ptr:=none,bl:=false}
def d2N:TI:={size:=4,bytes:=4,agg:=true,zero:=[.b false,.b false,.b false,.b false],sl:=none,arr:=some (4,4),ik:=none,fs:=none,str:=false,ptr:=none,bl:=false}
def c9t:TI:={size:=4,bytes:=32,agg:=true,zero:=[vi 0,vi 0,vi 0,vi 0],sl:=none,arr:=some (4,3),ik:=none,fs:=none,str:=false,ptr:=none,bl:=false}
def b3B:TI:={size:=2,bytes:=16,agg:=true,zero:=[vi 0,vi 0],sl:=none,arr:=none,ik:=none,fs:=some [(0,3),(1,3)],str:=false,ptr:=none,bl:=false}
def b9y:TI:={size:=4,bytes:=32,agg:=true,zero:=[vi 0,vi 0,vi 0,vi 0],sl:=none,arr:=none,ik:=none,fs:=some [(0,49),(2,3),(3,3)],str:=false,ptr:=none,bl:=false}
def b8X:List (Nat×TI):=[(3,ti3),(4,ti4),(5,ti5),(22,c9X),(23,c5m),(24,c69),(25,c7t),(26,d09),(28,c6D),(29,d0V),(36,d3d),(38,d3P),(45,d0K),(49,c4e),(51,c0Z),(53,d0G),(55,d2O),(56,c5I),(57,c3Y),(58,c6J),(59,c5r),(61,d0c),(63,c0p),(65,c2o),(68,c3g),(70,c0t),(79,c42),(92,c3G),(116,c5y),(130,b2V),(142,c9G),(144,c35),(152,c89),(159,c0w),(162,b8F),(168,d2N),(176,c9t),(179,b3B),(203,b9y)]
def b7y:List (Nat×TI)->Nat->Option TI
 | [],_=>none
 | (k,x)::l,t=>if Nat.beq k t then some x else b7y l t
theorem e2U{l:List (Nat×TI)}{t:Nat}{x:TI}(h:b7y l t=some x):(t,x)∈l:=by
 induction l with
 | nil=>cases h
 | cons p l ih=>
  obtain ⟨k,y⟩:=p;unfold b7y at h;split at h
  ·rename_i hk;have:k=t:=f0n hk;injection h with h;subst this;subst h;simp
  ·exact e9V.2 (.inr (ih h))
theorem e4B:F5 Tryz.prog 3=some ti3:=by kernel_rfl
theorem d35:F5 Tryz.prog 4=some ti4:=by kernel_rfl
theorem d33:F5 Tryz.prog 5=some ti5:=by kernel_rfl
theorem e6f:F5 Tryz.prog 22=some c9X:=by kernel_rfl
theorem d7U:F5 Tryz.prog 23=some c5m:=by kernel_rfl
theorem d7h:F5 Tryz.prog 24=some c69:=by kernel_rfl
theorem e4e:F5 Tryz.prog 25=some c7t:=by kernel_rfl
theorem e08:F5 Tryz.prog 26=some d09:=by kernel_rfl
theorem e2o:F5 Tryz.prog 28=some c6D:=by kernel_rfl
theorem e0x:F5 Tryz.prog 29=some d0V:=by kernel_rfl
theorem e5X:F5 Tryz.prog 36=some d3d:=by kernel_rfl
theorem e8s:F5 Tryz.prog 38=some d3P:=by kernel_rfl
theorem d6O:F5 Tryz.prog 45=some d0K:=by kernel_rfl
theorem e1t:F5 Tryz.prog 49=some c4e:=by kernel_rfl
theorem e6d:F5 Tryz.prog 51=some c0Z:=by kernel_rfl
theorem d5i:F5 Tryz.prog 53=some d0G:=by kernel_rfl
theorem e1c:F5 Tryz.prog 55=some d2O:=by kernel_rfl
theorem e6M:F5 Tryz.prog 56=some c5I:=by kernel_rfl
theorem d85:F5 Tryz.prog 57=some c3Y:=by kernel_rfl
theorem d6v:F5 Tryz.prog 58=some c6J:=by kernel_rfl
theorem e3a:F5 Tryz.prog 59=some c5r:=by kernel_rfl
theorem e2m:F5 Tryz.prog 61=some d0c:=by kernel_rfl
theorem e9i:F5 Tryz.prog 63=some c0p:=by kernel_rfl
theorem e3U:F5 Tryz.prog 65=some c2o:=by kernel_rfl
theorem e7j:F5 Tryz.prog 68=some c3g:=by kernel_rfl
theorem e7t:F5 Tryz.prog 70=some c0t:=by kernel_rfl
theorem d9i:F5 Tryz.prog 79=some c42:=by kernel_rfl
theorem d92:F5 Tryz.prog 92=some c3G:=by kernel_rfl
theorem d5R:F5 Tryz.prog 116=some c5y:=by kernel_rfl
theorem d73:F5 Tryz.prog 130=some b2V:=by kernel_rfl
theorem e4R:F5 Tryz.prog 142=some c9G:=by kernel_rfl
theorem e4N:F5 Tryz.prog 144=some c35:=by kernel_rfl
theorem e7n:F5 Tryz.prog 152=some c89:=by kernel_rfl
theorem e7N:F5 Tryz.prog 159=some c0w:=by kernel_rfl
theorem e7d:F5 Tryz.prog 162=some b8F:=by kernel_rfl
theorem e22:F5 Tryz.prog 168=some d2N:=by kernel_rfl
theorem d95:F5 Tryz.prog 176=some c9t:=by kernel_rfl
theorem e1Z:F5 Tryz.prog 179=some b3B:=by kernel_rfl
theorem d5b:F5 Tryz.prog 203=some b9y:=by kernel_rfl
theorem e1y:∀p∈b8X,F5 Tryz.prog p.1=some p.2:=by
 intro p hp;simp only [b8X,e9V,List.not_mem_nil,or_false] at hp;rcases hp with rfl|rfl|rfl|rfl|rfl|rfl|rfl|rfl|rfl|rfl|rfl|rfl|rfl|rfl|rfl|rfl|rfl|rfl|rfl|rfl|rfl|rfl|rfl|rfl|rfl|rfl|rfl|rfl|rfl|rfl|rfl|rfl|rfl|rfl|rfl|rfl|rfl|rfl|rfl
 ·exact e4B
 ·exact d35
 ·exact d33
 ·exact e6f
 ·exact d7U
 ·exact d7h
 ·exact e4e
 ·exact e08
 ·exact e2o
 ·exact e0x
 ·exact e5X
 ·exact e8s
 ·exact d6O
 ·exact e1t
 ·exact e6d
 ·exact d5i
 ·exact e1c
 ·exact e6M
 ·exact d85
 ·exact d6v
 ·exact e3a
 ·exact e2m
 ·exact e9i
 ·exact e3U
 ·exact e7j
 ·exact e7t
 ·exact d9i
 ·exact d92
 ·exact d5R
 ·exact d73
 ·exact e4R
 ·exact e4N
 ·exact e7n
 ·exact e7N
 ·exact e7d
 ·exact e22
 ·exact d95
 ·exact e1Z
 ·exact d5b
def b07(t:Nat):Option Nat:=if Nat.beq t 49 then some 2 else if Nat.beq t 51 then some 5 else if Nat.beq t 92 then some 4 else if Nat.beq t 159 then some 2 else if Nat.beq t 162 then some 2 else  none
theorem d6k(t m:Nat)(h:b07 t=some m)(xs ys:List Int)(w:World)(hx:xs.length=m)(hy:ys.length=m):(Op.equal t (.agg (xs.map (Value.int .i64)).toArray) (.agg (ys.map (Value.int .i64)).toArray)).run Tryz.prog w=.ok (xs==ys) w:=by
 unfold b07 at h;split at h
 ·rename_i hk;have hm:2=m:=f0L h;rw [f0n hk];exact d8L xs ys w (hx.trans hm.symm) (hy.trans hm.symm)
 split at h
 ·rename_i hk;have hm:5=m:=f0L h;rw [f0n hk];exact e8P xs ys w (hx.trans hm.symm) (hy.trans hm.symm)
 split at h
 ·rename_i hk;have hm:4=m:=f0L h;rw [f0n hk];exact e9j xs ys w (hx.trans hm.symm) (hy.trans hm.symm)
 split at h
 ·rename_i hk;have hm:2=m:=f0L h;rw [f0n hk];exact e0j xs ys w (hx.trans hm.symm) (hy.trans hm.symm)
 split at h
 ·rename_i hk;have hm:2=m:=f0L h;rw [f0n hk];exact e1b xs ys w (hx.trans hm.symm) (hy.trans hm.symm)
 cases h
theorem d6b(t m:Nat)(h:b07 t=some m):Tryz.prog.eqGuardType Tryz.prog.depth t=false:=by
 unfold b07 at h;split at h
 ·rename_i hk;have hm:2=m:=f0L h;rw [f0n hk];exact Tryz.eqGuardType49
 split at h
 ·rename_i hk;have hm:5=m:=f0L h;rw [f0n hk];exact Tryz.eqGuardType51
 split at h
 ·rename_i hk;have hm:4=m:=f0L h;rw [f0n hk];exact Tryz.eqGuardType92
 split at h
 ·rename_i hk;have hm:2=m:=f0L h;rw [f0n hk];exact Tryz.eqGuardType159
 split at h
 ·rename_i hk;have hm:2=m:=f0L h;rw [f0n hk];exact Tryz.eqGuardType162
 cases h
theorem e8Z:Tryz.prog.follows .mixedOrders=true:=by kernel_rfl
def cx:Cx where
 P:=Tryz.prog
 mixed:=e8Z
 T:=b7y b8X
 hT:=fun t ti h=>e1y (t,ti) (e2U h)
 E:=b07
 hE:=d6k
 hG:=d6b
 M:=fun _=>none
 hM:=fun _ _ _ _ h=>nomatch h
structure FS(α:Type) where
 f:Nat
 fn:Func
 m:List PM
 o:List (Option (Nat×PM))
 ms:List PM
 R:α->V
 O:α->LOV
 h:cx.P.funcs[f]?=some fn
def FS.X{α:Type}(q:FS α):N6:=⟨q.f,q.fn,q.m,q.o⟩
def FS.c{α:Type}(q:FS α):Code:=e7M q.fn
def FS.t{α:Type}(q:FS α)(i:Nat)(fr:Bool)(r:α):Nat×J1:=(i,{a:=.call q.ms fr (q.R r) (q.O r)})
def FS.k{α:Type}(q:FS α)(i:Nat)(l:List Bool):List Item:=a3B 2000 i l [.code q.c]
def noK:Unit->KS:=fun _=>([],⟨[],[]⟩)
section
variable {α β J P E:Type}
abbrev OK(q:FS α)(args:List V)(m:Option α):Prop := ∀r,m=some r->a1n cx.P q.f args (q.R r) (q.O r)
abbrev NG(q:FS α)(r:α)(S:J->KS)(f:J->Option β)(v:β):Prop := ∀s,f s=some v->FK cx q.X (q.R r) (q.O r) (S s)
abbrev NF(q:FS α)(r:α)(S:J->KS)(f:J->Option α):Prop:=NG q r S f r
abbrev K6(q:FS α)(SE:E->KS)(S:P->KS):=LC cx q.X q.R q.O SE S
abbrev LQ(q:FS α)(SE:E->KS)(S:P->KS)(b:P->Option (l9 α P E)):Prop:=LB cx q.X q.R q.O SE S b
theorem p8(q:FS α){args:List V}{m:Option α}(h:∀r,m=some r->Pt cx q.X (q.R r) (q.O r) [.code q.c] (a9D q.X args) [] [])(hb:q.X.fn.body=some q.c:=by kernel_rfl) (hn:(q.X.fn.name == "runtime.NumGoroutine")=false:=by kernel_rfl) (ho:a3s 0 q.X.oms args=true:=by kernel_rfl):OK q args m:=
 fun r hm=>a1n.of (X:=q.X) q.h hb hn ho (P0 (h r hm))
theorem FS.rt(q:FS α){x y:α}(h:some x=some y):q.R y=q.R x/\q.O y=q.O x:=by
 injection h with h;subst h;exact ⟨rfl,rfl⟩
variable {X:N6} {res:V} {outs:LOV} {k:List Item} {S:St} {sc:Q6} {ps:List Prop} {t:List (Nat×J1)} {v:β}
theorem fE{q:FS α}{x y:α}(h:some x=some y)(hg:a8w cx q.X k S (scO sc [])=some (q.R x,q.O x,psO ps []):=by kernel_rfl):Pt cx q.X (q.R y) (q.O y) k S sc ps:=fn0 q.h (q.rt h) hg
theorem fL{q:FS α}{SE:E->KS}{SP:P->KS}(c:K6 q SE SP){x:α}(h:some (l9.ret x)=some c.st)(hg:a8w cx q.X k S (scO sc [])=some (q.R x,q.O x,psO ps []):=by kernel_rfl):Pt cx q.X c.res c.outs k S sc ps:=fn0 q.h (c.rt h) hg
theorem j7(q:FS α){m:Option α}{p:α->Prop}(ok:∀x,m=some x->p x)(i:Nat){f:α->Option β}(h:m.bind f=some v)(g:∀x,f x=some v->Pt cx X res outs k S ((q.t i false x::t)::sc) (p x::ps)):Pt cx X res outs k S (t::sc) ps:=cb q.t ok i false h g
theorem cbS(q:FS α){m:Option α}{p:α->Prop}(ok:∀x,m=some x->p x)(i:Nat){f:α->Option β}(a:∀x,J8 (q.R x))(b:∀x,a3u (q.O x))(h:m.bind f=some v)(g:∀x,f x=some v->Pt cx X res outs k S ((q.t i true x::t)::sc) ((J8 (q.R x)/\a3u (q.O x))::p x::ps)):Pt cx X res outs k S (t::sc) ps:=
 cb q.t ok i true h fun x h=>ob ⟨a x,b x⟩ (g x h)
theorem R4(q:FS α){m:Option α}{p:α->Prop}(ok:∀x,m=some x->p x)(i n:Nat){f:α->Option β}(h:m.bind f=some v)(g:∀x,f x=some v->Pt cx X res outs k S ((q.t i true x::t)::sc) ((J8 (q.R x)/\a3u (q.O x))::p x::ps))(a:∀x,J8 (q.R x):=by exact fun _=>rfl)(b:∀x,q.O x=c2c n:=by exact fun _=>rfl):Pt cx X res outs k S (t::sc) ps:=cbS q ok i a (fun x=>b x▸S6 n) h g
theorem e7Z{γ:Type}{e d:γ->List V}(hv:∀x,a0G (d x)=e x){l:List γ}{n:Nat}(h:n<=l.length){sz:Nat}:V.sl sz n (((V1 (l.map d)).drop 0).take n)=l7 sz e (l.take n):=by
 rw [b8w hv,f0G,<-List.map_take];unfold l7;rw [f0e,Nat.min_eq_left h]
theorem osc(q:FS α)(x:α)(a:J8 (q.R x))(b:a3u (q.O x))(h:Pt cx X res outs k S sc ((J8 (q.R x)/\a3u (q.O x))::ps)):Pt cx X res outs k S sc ps:=ob ⟨a,b⟩ h
end
theorem C6{X:N6}{res:V}{outs:LOV}{k:List Item}{S:St}{sc:Q6}{ps:List Prop}(x:p6)(h:Pt cx X res outs k S sc ((x.told.length=x.told.length)::(x.out.length=x.out.length)::(x.n.a0.length=x.n.a0.length)::(x.n.c9.length=x.n.c9.length)::(x.n.a7.length=x.n.a7.length)::ps)):Pt cx X res outs k S sc ps:=ob rfl (ob rfl (ob rfl (ob rfl (ob rfl (h)))))
theorem H8{X:N6}{res:V}{outs:LOV}{k:List Item}{S:St}{sc:Q6}{ps:List Prop}(x:j8)(h:Pt cx X res outs k S sc ((x.d6.length=x.d6.length)::(x.a0.length=x.a0.length)::(x.c9.length=x.c9.length)::(x.a7.length=x.a7.length)::ps)):Pt cx X res outs k S sc ps:=ob rfl (ob rfl (ob rfl (ob rfl (h))))
theorem x9{X:N6}{res:V}{outs:LOV}{k:List Item}{S:St}{sc:Q6}{ps:List Prop}(x:j8)(h:Pt cx X res outs k S sc ((x.d6.length=x.d6.length)::(x.a0.length=x.a0.length)::(x.c9.length=x.c9.length)::(x.a7.length=x.a7.length)::(x.Acc.a0.length=x.Acc.a0.length)::ps)):Pt cx X res outs k S sc ps:=ob rfl (ob rfl (ob rfl (ob rfl (ob rfl (h)))))
theorem olR{X:N6}{res:V}{outs:LOV}{k:List Item}{S:St}{sc:Q6}{ps:List Prop}(x:m9)(h:Pt cx X res outs k S sc ((x.b6.length=x.b6.length)::(x.a9.length=x.a9.length)::ps)):Pt cx X res outs k S sc ps:=ob rfl (ob rfl (h))
theorem z7{X:N6}{res:V}{outs:LOV}{k:List Item}{S:St}{sc:Q6}{ps:List Prop}(x:m8)(h:Pt cx X res outs k S sc ((x.Told.length=x.Told.length)::(x.g7.length=x.g7.length)::(x.d8.length=x.d8.length)::(x.b7.length=x.b7.length)::ps)):Pt cx X res outs k S sc ps:=ob rfl (ob rfl (ob rfl (ob rfl (h))))
def a02(x_:j8):List V:=[vi x_.Id,vi x_.Acc.i5,u0 130 8 p7 x_.Acc.a0,u0 63 7 t5 x_.a7,vi x_.Seq,vi x_.f0,vi x_.a8,u0 4 1 eB x_.c9,l7 8 p7 x_.i4,.b x_.c8.i8,vi x_.c8.a5.d7,vi x_.c8.a5.Seq,l7 2 t8 x_.c8.b9.a9,l7 2 t9 x_.c8.b9.b6,vi x_.c8.b9.d9,vi x_.c8.b9.Code,u0 4 1 eB x_.a0,.b x_.j3,l7 4 z8 x_.i7,.b x_.b8.i8,vi x_.b8.a5.d7,vi x_.b8.a5.Seq,l7 2 t8 x_.b8.b9.a9,l7 2 t9 x_.b8.b9.b6,vi x_.b8.b9.d9,vi x_.b8.b9.Code,u0 63 7 t5 x_.d6]
def a82(x_:j8):List V:=[u0 63 7 t5 x_.a7,vi x_.Seq,vi x_.f0,vi x_.a8,u0 4 1 eB x_.c9,l7 8 p7 x_.i4,.b x_.c8.i8,vi x_.c8.a5.d7,vi x_.c8.a5.Seq,l7 2 t8 x_.c8.b9.a9,l7 2 t9 x_.c8.b9.b6,vi x_.c8.b9.d9,vi x_.c8.b9.Code,u0 4 1 eB x_.a0,.b x_.j3,l7 4 z8 x_.i7,.b x_.b8.i8,vi x_.b8.a5.d7,vi x_.b8.a5.Seq,l7 2 t8 x_.b8.b9.a9,l7 2 t9 x_.b8.b9.b6,vi x_.b8.b9.d9,vi x_.b8.b9.Code,u0 63 7 t5 x_.d6]
def a2B(x_:j8):List V:=[l7 8 p7 x_.i4,.b x_.c8.i8,vi x_.c8.a5.d7,vi x_.c8.a5.Seq,l7 2 t8 x_.c8.b9.a9,l7 2 t9 x_.c8.b9.b6,vi x_.c8.b9.d9,vi x_.c8.b9.Code]
def a0T(x_:j8):List V:=[.b x_.j3,l7 4 z8 x_.i7,.b x_.b8.i8,vi x_.b8.a5.d7,vi x_.b8.a5.Seq,l7 2 t8 x_.b8.b9.a9,l7 2 t9 x_.b8.b9.b6,vi x_.b8.b9.d9,vi x_.b8.b9.Code]
def a0D(x_:m9):List V:=[l7 2 t8 x_.a9,l7 2 t9 x_.b6,vi x_.d9,vi x_.Code]
def d1m(x_:j8):List V:=[vi x_.Id,vi x_.Acc.i5,u0 130 8 p7 x_.Acc.a0,u0 63 7 t5 x_.a7,vi x_.Seq,vi x_.f0,vi x_.a8,u0 4 1 eB x_.c9,l7 8 p7 x_.i4,.b x_.c8.i8,vi x_.c8.a5.d7,vi x_.c8.a5.Seq,l7 2 t8 x_.c8.b9.a9,l7 2 t9 x_.c8.b9.b6,vi x_.c8.b9.d9,vi x_.c8.b9.Code]
def d3H(x_:j8):List V:=[vi x_.Id,vi x_.Acc.i5,u0 130 8 p7 x_.Acc.a0,u0 63 7 t5 x_.a7,vi x_.Seq,vi x_.f0,vi x_.a8,u0 4 1 eB x_.c9,l7 8 p7 x_.i4,.b x_.c8.i8,vi x_.c8.a5.d7,vi x_.c8.a5.Seq,l7 2 t8 x_.c8.b9.a9,l7 2 t9 x_.c8.b9.b6,vi x_.c8.b9.d9,vi x_.c8.b9.Code,u0 4 1 eB x_.a0,.b x_.j3,l7 4 z8 x_.i7,.b x_.b8.i8,vi x_.b8.a5.d7,vi x_.b8.a5.Seq,l7 2 t8 x_.b8.b9.a9,l7 2 t9 x_.b8.b9.b6,vi x_.b8.b9.d9,vi x_.b8.b9.Code]
def b5m(x_:m5):List V:=[.b x_.i8,vi x_.a5.d7,vi x_.a5.Seq,l7 2 t8 x_.b9.a9,l7 2 t9 x_.b9.b6,vi x_.b9.d9,vi x_.b9.Code]
def c9j(x_:j9):List V:=[vi x_.g8,.b x_.g9.i8,vi x_.g9.a5.d7,vi x_.g9.a5.Seq,l7 2 t8 x_.g9.b9.a9,l7 2 t9 x_.g9.b9.b6,vi x_.g9.b9.d9,vi x_.g9.b9.Code,l7 8 p7 x_.a0]
def H2(x_:m8):List V:=[l7 27 B3 x_.b7,l7 13 s7 x_.d8,l7 3 C4 x_.g7,l7 5 z4 x_.Told]
def b30:FS (o6):=⟨11,Tryz.f11,[.ptr [some 1,none] []],[none],[.val [some 1] []],fun r=>.optr 79 (L9 r),fun _=>[none],Tryz.func11⟩
def e1z:(List Int)->KS:=fun b7c=>⟨b30.k 3 [true],(l7 1 E1 b7c::(bs 10 [])),[some []]⟩
def c2U(b7c:List Int):Option o6:=
 some (o6.mk b7c 0)
theorem e2C(r):NF b30 r e1z (fun s=>c2U s):=fun b7c h=>PK<|rg<|fE h
def b5a(code:List Int):Option o6:=
 (((bif decide ((code.length:Int)>2000) then (s5 ((0:Int)<=2000/\2000<=(code.length:Int)) (some (l8.brk ((code.drop 0).take ((2000:Int).toNat-0))))) else some (l8.brk code)):Option (l8 o6 (List Int))).bind fun x=>x.go some fun j=>c2U j)
theorem d8m{code}:OK b30 [l7 1 E1 code] (b5a code):=
 p8 _ fun r h=>rg<|A0 h (e2C r) fun x1 h hc1=>rg<|j5 2 h (fun h=>rg<|s9 h fun e1 h=>om (V.sl 1 ((2000:Int).toNat-0) (((code.map E1).drop 0).take ((2000:Int).toNat-0))=l7 1 E1 ((code.drop 0).take ((2000:Int).toNat-0))) (b1f e1)<|ob e1.1<|ob e1.2<|tl (1,{v:=some (l7 1 E1 ((code.drop 0).take ((2000:Int).toNat-0)))})<|(o7 h hc1 fun hI=>sk [] [0] [] hI)) (fun h=>(o7 h hc1 fun hI=>sk [] [0] [] hI))
def b88:FS (j8):=⟨77,Tryz.f77,[.val A4 E4],[none],[.val [] []],fun r=>.agg (E7 r),fun _=>[none],Tryz.func77⟩
def a8N(id:Int):Option j8:=
 (bif decide (id<0) then some (j8.mk 0 (v5.mk 0 []) [] 0 0 0 [] [] (m5.mk false (s3.mk 0 0) (m9.mk [] [] 0 0)) [] false [] (m5.mk false (s3.mk 0 0) (m9.mk [] [] 0 0)) []) else (bif decide (id>=3) then some (j8.mk 0 (v5.mk 0 []) [] 0 0 0 [] [] (m5.mk false (s3.mk 0 0) (m9.mk [] [] 0 0)) [] false [] (m5.mk false (s3.mk 0 0) (m9.mk [] [] 0 0)) []) else some (j8.mk id (v5.mk 0 []) [] 0 0 0 [] [] (m5.mk false (s3.mk 0 0) (m9.mk [] [] 0 0)) [] false [] (m5.mk false (s3.mk 0 0) (m9.mk [] [] 0 0)) [])))
theorem d0y{id}:OK b88 [vi id] (a8N id):=
 p8 _ fun r h=>o9<|j5 2 h (fun h=>rg<|fE h) (fun h=>j5 5 h (fun h=>rg<|fE h) (fun h=>rg<|fE h))
def a7t:FS (m8):=⟨33,Tryz.f33,[.val E8 W1],[],[],fun r=>.agg (V9 r),fun _=>[],Tryz.func33⟩
def c4l:(List j8)->KS:=fun Nodes1=>⟨a7t.k 4 [false],(.ptr 1 0 0::(.ptr 2 0 0::(bs 14 []))),[some [],some [.var 28 [.nil,.nil,.nil,.nil]],some [.var 28 [.own 3 0 27 0 Nodes1.length,.nil,.nil,.nil]],some [C3 65 27 u7 Nodes1]]⟩
def c4T(Nodes1:List j8):Option m8:=
 some (m8.mk Nodes1 [] [] [])
theorem e3H(r):NF a7t r c4l (fun s=>c4T s):=fun Nodes1 h=>PK<|rg<|s8 Nodes1<|fE h
def d5Z:((List j8)×Int)->KS:=fun (b7,i)=>⟨a7t.k 3 [],(.ptr 1 0 0::(.ptr 2 0 0::(vi i::(bs 13 [])))),[some [],some [.var 28 [.nil,.nil,.nil,.nil]],some [.var 28 [.own 3 0 27 0 b7.length,.nil,.nil,.nil]],some [C3 65 27 u7 b7]]⟩
def e0V(Z6:j8):List V:=(a02 Z6)
def a2T(b7:List j8)(i:Int):Option (l9 m8 ((List j8)×Int) (List j8)):=
 (bif decide (i<3) then ((a8N i).bind fun Z6=>(s5 ((b7.length+1)*392<=140737488355328) (some (l9.nxt (b7++[Z6],m4 (i+1)))))) else some (l9.brk b7))
theorem d9s:LQ a7t c4l d5Z (fun s=>a2T s.1 s.2):=fun lc (b7,i) h=>PK<|rg<|j5 1 h (fun h=>rg<|j7 b88 d0y 3 h fun Z6 h=>om (s4.deep false 65 27 1 [(e0V Z6)]=C3 65 27 u7 [Z6]) rfl<|x9 Z6<|tl (4,{a:=.dck [none,none,some 8,some 7,none,none,none,some 1,some 8,none,none,none,some 2,some 2,none,none,some 1,none,some 4,none,none,none,some 2,some 2,none,none,some 7] [none,none,some 130,some 63,none,none,none,some 4,none,none,none,none,none,none,none,none,some 4,none,none,none,none,none,none,none,none,none,some 63],e:=some (C3 65 27 u7 [Z6])})<|s9 h fun e1 h=>om (V.own 11 0 27 0 (b7.length+1)=.own 11 0 27 0 (b7++[Z6]).length) (by simp)<|om (s4.deep false 65 27 (b7.length+1) (b7.map u7++[u7 Z6])=C3 65 27 u7 (b7++[Z6])) (c1T rfl)<|s8 b7<|ob e1<|om (1=1) rfl<|tl (5,{a:=.dck [] [],v:=some (.own 11 0 27 0 (b7++[Z6]).length),e:=some (C3 65 27 u7 (b7++[Z6]))})<|rg<|(lc.nx h fun hI=>sk [] [0,1,2] [(1,0),(2,0),(11,0)] hI)) (fun h=>(lc.bk h fun hI=>sk [] [0,1] [(1,0),(2,0),(3,0)] hI))
def b5B:Option m8:=
 ((s2 (fun s:(List j8)×Int=>a2T s.1 s.2) ([],0)).bind fun x=>x.go (fun r=>some r) fun s=>c4T s)
theorem e67:OK a7t [] b5B:=
 p8 _ fun r h=>N4<|lp (d9s) h (fun _ h=>a7t.rt h) (e3H r) fun hI=>sk [.ownD (.cell 3 0 0) 65 27] [0,1,2] [(1,0),(3,0),(6,0)] hI
def A7:FS (Int×o6):=⟨34,Tryz.f34,[.val [] []],[some (0,.ptr [some 1,none] []),none],[.ptr [some 1,none] [],.val [] []],fun r=>vi r.1,fun r=>[some (.optr 79 (L9 r.2)),none],Tryz.func34⟩
def A3(r_:o6)(n:Int):Option (Int×o6):=
 (bif decide (n<1) then some (0,(o6.mk r_.b (m4 (r_.p+1)))) else (bif ((r_.b.length:Int)==0) then some (0,(o6.mk r_.b (m4 (r_.p+1)))) else (bif decide ((m4 ((m4 (r_.p+1))-1))<(r_.b.length:Int)) then ((idx r_.b (m4 ((m4 (r_.p+1))-1))).bind fun y=>(s5 (n≠0) (some (e9U (m4 y) n,(o6.mk r_.b (m4 (r_.p+1))))))) else (s5 ((r_.b.length:Int)≠0) (((idx r_.b (e9U (m4 ((m4 (r_.p+1))-1)) (r_.b.length:Int))).bind fun y1=>(s5 ((r_.b.length:Int)≠0) (((idx r_.b (e9U (m4 ((m4 ((m4 ((m4 (r_.p+1))-1))*7))+3)) (r_.b.length:Int))).bind fun y2=>(s5 ((r_.b.length:Int)≠0) ((s5 (n≠0) (some (e9U (a6t .i64 (m4 ((m4 ((m4 ((m4 ((m4 y1)*131))+(m4 ((m4 y2)*1117))))+(m4 ((m4 ((m4 (r_.p+1))-1))*29))))+(m4 ((m4 (f1r (m4 ((m4 (r_.p+1))-1)) (r_.b.length:Int)))*53)))) (m4 (f1r (m4 ((m4 ((m4 ((m4 ((m4 y1)*131))+(m4 ((m4 y2)*1117))))+(m4 ((m4 ((m4 (r_.p+1))-1))*29))))+(m4 ((m4 (f1r (m4 ((m4 (r_.p+1))-1)) (r_.b.length:Int)))*53)))) 64))) n,(o6.mk r_.b (m4 (r_.p+1)))))))))))))))))
theorem A9{r_ n}:OK A7 [.optr 79 (L9 r_),vi n] (A3 r_ n):=
 p8 _ fun r h=>N4<|j5 2 h (fun h=>rg<|fE h) (fun h=>j5 9 h (fun h=>rg<|fE h) (fun h=>o9<|j5 6 h (fun h=>rg<|x8 E1 5 h fun y hy h=>s9 h fun e1 h=>ob e1<|fE h) (fun h=>rg<|s9 h fun e2 h=>ob e2<|x8 E1 11 h fun y1 hy1 h=>s9 h fun e3 h=>ob e3<|x8 E1 28 h fun y2 hy2 h=>s9 h fun e4 h=>ob e4<|rg<|om (64≠(0:Int)) (by decide)<|rg<|s9 h fun e5 h=>ob e5<|fE h)))
def c7L:FS (m9):=⟨152,Tryz.f152,[.val M7 []],[none],[.val M7 []],fun r=>.agg (J9 r),fun _=>[none],Tryz.func152⟩
def b82(r_:m9):Option m9:=
 (s5 ((([]:List s1).length+r_.a9.length)*16<=140737488355328) ((s5 ((([]:List p9).length+r_.b6.length)*16<=140737488355328) (some (m9.mk (([]:List s1)++r_.a9) (([]:List p9)++r_.b6) r_.d9 r_.Code)))))
theorem e00{r_}:OK c7L [.agg (J9 r_)] (b82 r_):=
 p8 _ fun r h=>o9<|tk 0 []<|s9 h fun e1 h=>oa 6 0 2 ([]:List s1) r_.a9<|oz 159 2 t8 ([]:List s1) r_.a9<|A6 s1<|ob e1<|tl (3,{v:=some (.own 6 0 2 0 (([]:List s1)++r_.a9).length),e:=some (m7 159 2 t8 (([]:List s1)++r_.a9))})<|tk 4 []<|s9 h fun e2 h=>oa 10 0 2 ([]:List p9) r_.b6<|oz 162 2 t9 ([]:List p9) r_.b6<|A6 p9<|ob e2<|tl (7,{v:=some (.own 10 0 2 0 (([]:List p9)++r_.b6).length),e:=some (m7 162 2 t9 (([]:List p9)++r_.b6))})<|C8 (([]:List s1)++r_.a9) (([]:List p9)++r_.b6)<|fE h
def Z4:FS (m5):=⟨104,Tryz.f104,[.val I1 []],[none],[.val I1 []],fun r=>.agg (t5 r),fun _=>[none],Tryz.func104⟩
def V7(e_:m5):Option m5:=
 ((b82 e_.b9).bind fun c8T=>some (m5.mk e_.i8 e_.a5 c8T))
theorem a0C{e_}:OK Z4 [.agg (t5 e_)] (V7 e_):=
 p8 _ fun r h=>o9<|j7 c7L e00 6 h fun c8T h=>fE h
def a3E:FS (List m6):=⟨103,Tryz.f103,[.val [some 8] [some 130]],[none],[.val [some 8] []],fun r=>u0 130 8 p7 r,fun _=>[none],Tryz.func103⟩
def c4r:(List m6)->KS:=fun out1=>⟨a3E.k 4 [false],(bs 3 (.own 1 0 8 0 out1.length::(bs 24 []))),[some [],some [m7 130 8 p7 out1]]⟩
def c6v(out1:List m6):Option (List m6):=
 some out1
theorem e5l(r):NF a3E r c4r (fun s=>c6v s):=fun out1 h=>PK<|rg<|s8 out1<|fE h
def d52(list:List m6):((List m6)×Int)->KS:=fun (out,i)=>⟨a3E.k 3 [],(l7 8 p7 list::(bs 2 (.own 1 0 8 0 out.length::(vi i::(bs 23 []))))),[some [],some [m7 130 8 p7 out]]⟩
def b20(list:List m6)(out:List m6)(i:Int):Option (l9 (List m6) ((List m6)×Int) (List m6)):=
 (bif decide (i<(list.length:Int)) then ((idx list i).bind fun vote=>((V7 vote.g9).bind fun l5Entry=>(s5 ((out.length+1)*96<=140737488355328) (some (l9.nxt (out++[(m6.mk vote.a8 l5Entry)],m4 (i+1))))))) else some (l9.brk out))
theorem e8w(list):LQ a3E c4r (d52 list) (fun s=>b20 list s.1 s.2):=fun lc (out,i) h=>PK<|rg<|j5 3 h (fun h=>rg<|x8 p7 3 h fun vote J6 h=>K3 p7 8 J6<|j7 Z4 a0C 11 h fun l5Entry h=>tk 13 O7<|s9 h fun e1 h=>E5 14 20 130 8 96 p7 out (m6.mk vote.a8 l5Entry) e1<|D8 (m6.mk vote.a8 l5Entry)<|rg<|(lc.nx h fun hI=>sk [] [0,3,4] [(20,0)] hI)) (fun h=>(lc.bk h fun hI=>sk [] [3] [(1,0)] hI))
def a6R(list:List m6):Option (List m6):=
 ((s2 (fun s:(List m6)×Int=>b20 list s.1 s.2) (([]:List m6),0)).bind fun x=>x.go (fun r=>some r) fun s=>c6v s)
theorem b4M{list}:OK a3E [l7 8 p7 list] (a6R list):=
 p8 _ fun r h=>o9<|tk 0 O7<|rg<|lp (e8w list) h (fun _ h=>a3E.rt h) (e5l r) fun hI=>om ((.own 2 0 8 0 0:V)=.own 2 0 8 0 ([]:List m6).length) (by simp)<|sk [.is (.tmp 3) (.own 2 0 8 0 ([]:List m6).length)] [0,3,4] [(2,0)] hI
def b0O:FS (j9):=⟨53,Tryz.f53,[.val B0 []],[none],[.val B0 []],fun r=>.agg (s7 r),fun _=>[none],Tryz.func53⟩
def a7A(m:j9):Option j9:=
 ((V7 m.g9).bind fun l5Entry=>((a6R m.a0).bind fun V4=>some (j9.mk m.a6 m.c9 m.To m.a8 m.g8 l5Entry V4)))
theorem b5n{m}:OK b0O [.agg (s7 m)] (a7A m):=
 p8 _ fun r h=>N4<|j7 Z4 a0C 2 h fun l5Entry h=>rg<|j7 a3E b4M 2 h fun V4 h=>rg<|s8 V4<|fE h
def W0:FS (m8):=⟨60,Tryz.f60,[.val E8 W1],[none,none],[.val E8 W1,.val [some 13] []],fun r=>.agg (V9 r),fun _=>[none,none],Tryz.func60⟩
def c6M(w:m8):(List j9)->KS:=fun Net1=>⟨W0.k 3 [false],(bs 2 (.ptr 1 0 0::(bs 1 (.ptr 3 0 0::(bs 24 []))))),[some [C3 65 27 u7 w.b7,.dead,m7 70 3 C4 w.g7,m7 51 5 z4 w.Told],some [.var 28 [.own 0 0 27 0 w.b7.length,.own 2 0 13 0 Net1.length,.own 0 2 3 0 w.g7.length,.own 0 3 5 0 w.Told.length]],some [m7 68 13 s7 Net1],some [.var 28 [.nil,.nil,.nil,.nil]]]⟩
def c5a(w:m8)(Net1:List j9):Option m8:=
 some (m8.mk w.b7 Net1 w.g7 w.Told)
theorem d7H(w)(r):NF W0 r (c6M w) (fun s=>c5a w s):=fun Net1 h=>PK<|rg<|I8 w.b7 Net1 w.g7 w.Told<|fE h
def e9v(w:m8)(list:List j9):((List j9)×Int)->KS:=fun (d8,i)=>⟨W0.k 2 [],(bs 1 (l7 13 s7 list::(.ptr 1 0 0::(bs 1 (.ptr 2 0 0::(vi i::(bs 23 []))))))),[some [C3 65 27 u7 w.b7,.dead,m7 70 3 C4 w.g7,m7 51 5 z4 w.Told],some [.var 28 [.own 0 0 27 0 w.b7.length,.own 3 0 13 0 d8.length,.own 0 2 3 0 w.g7.length,.own 0 3 5 0 w.Told.length]],some [.var 28 [.nil,.nil,.nil,.nil]],some [m7 68 13 s7 d8]]⟩
def a2s(list:List j9)(d8:List j9)(i:Int):Option (l9 m8 ((List j9)×Int) (List j9)):=
 (bif decide (i<(list.length:Int)) then (bif decide ((d8.length:Int)<40) then ((idx list i).bind fun msg=>((a7A msg).bind fun F4=>(s5 ((d8.length+1)*152<=140737488355328) (some (l9.nxt (d8++[F4],m4 (i+1))))))) else some (l9.brk d8)) else some (l9.brk d8))
theorem e8V(w list):LQ W0 (c6M w) (e9v w list) (fun s=>a2s list s.1 s.2):=fun lc (d8,i) h=>PK<|rg<|j5 4 h (fun h=>j5 9 h (fun h=>rg<|x8 s7 4 h fun msg hmsg h=>j7 b0O b5n 6 h fun F4 h=>tk 7 B0<|s9 h fun e1 h=>E5 8 22 68 13 152 s7 d8 F4 e1<|D8 F4<|rg<|(lc.nx h fun hI=>sk [] [1,2,4,5] [(1,0),(2,0),(22,0)] hI)) (fun h=>(lc.bk h fun hI=>sk [] [2,4] [(1,0),(3,0),(2,0)] hI))) (fun h=>(lc.bk h fun hI=>sk [] [2,4] [(1,0),(3,0),(2,0)] hI))
def a0t(w:m8)(list:List j9):Option m8:=
 ((s2 (fun s:(List j9)×Int=>a2s list s.1 s.2) (w.d8,0)).bind fun x=>x.go (fun r=>some r) fun s=>c5a w s)
theorem a10{w list}:OK W0 [.agg (V9 w),l7 13 s7 list] (a0t w list):=
 p8 _ fun r h=>o9<|lp (e8V w list) h (fun _ h=>W0.rt h) (d7H w r) fun hI=>sk [] [1,2,4,5] [(1,0),(2,0),(0,1)] hI
def c2B:FS (m8):=⟨105,Tryz.f105,[.val E8 W1],[none,none],[.val E8 W1,.val [] []],fun r=>.agg (V9 r),fun _=>[none,none],Tryz.func105⟩
def b1V(w:m8)(i:Int):Option m8:=
 (s5 ((0:Int)<=i/\i<=(w.d8.length:Int)) ((s5 ((([]:List j9).length+(i.toNat-0))*152<=140737488355328) ((s5 ((0:Int)<=m4 (i+1)/\m4 (i+1)<=(w.d8.length:Int)) ((s5 (((([]:List j9)++(w.d8.drop (0+0)).take (i.toNat-0)).length+(w.d8.length-(m4 (i+1)).toNat))*152<=140737488355328) (some (m8.mk w.b7 ((([]:List j9)++(w.d8.drop (0+0)).take (i.toNat-0))++(w.d8.drop (0+(m4 (i+1)).toNat)).take (w.d8.length-(m4 (i+1)).toNat)) w.g7 w.Told)))))))))
set_option maxRecDepth 20000 in
theorem c5R{w i}:OK c2B [.agg (V9 w),vi i] (b1V w i):=
 p8 _ fun r h=>o9<|tk 0 B0<|s9 h fun e1 h=>ob e1.1<|ob e1.2<|s9 h fun e2 h=>om (V.own 8 0 13 0 (([]:List j9).length+(i.toNat-0))=.own 8 0 13 0 (([]:List j9)++(w.d8.drop (0+0)).take (i.toNat-0)).length) (c2F (by omega))<|om (s4.row 68 13 (([]:List j9).length+(i.toNat-0)) (([]:List j9).map s7++((w.d8.map s7).drop (0+0)).take (i.toNat-0))=m7 68 13 s7 (([]:List j9)++(w.d8.drop (0+0)).take (i.toNat-0))) (c1v (by omega))<|A6 j9<|ob e2<|om ((0+0)+(i.toNat-0)<=w.d8.length) (by omega)<|tl (5,{a:=.part,v:=some (.own 8 0 13 0 (([]:List j9)++(w.d8.drop (0+0)).take (i.toNat-0)).length),e:=some (m7 68 13 s7 (([]:List j9)++(w.d8.drop (0+0)).take (i.toNat-0)))})<|s9 h fun e3 h=>ob e3.1<|ob e3.2<|s9 h fun e4 h=>om (V.own 14 0 13 0 ((([]:List j9)++(w.d8.drop (0+0)).take (i.toNat-0)).length+(w.d8.length-(m4 (i+1)).toNat))=.own 14 0 13 0 ((([]:List j9)++(w.d8.drop (0+0)).take (i.toNat-0))++(w.d8.drop (0+(m4 (i+1)).toNat)).take (w.d8.length-(m4 (i+1)).toNat)).length) (c2F (by omega))<|om (s4.row 68 13 ((([]:List j9)++(w.d8.drop (0+0)).take (i.toNat-0)).length+(w.d8.length-(m4 (i+1)).toNat)) ((([]:List j9)++(w.d8.drop (0+0)).take (i.toNat-0)).map s7++((w.d8.map s7).drop (0+(m4 (i+1)).toNat)).take (w.d8.length-(m4 (i+1)).toNat))=m7 68 13 s7 ((([]:List j9)++(w.d8.drop (0+0)).take (i.toNat-0))++(w.d8.drop (0+(m4 (i+1)).toNat)).take (w.d8.length-(m4 (i+1)).toNat))) (c1v (by omega))<|s8 (([]:List j9)++(w.d8.drop (0+0)).take (i.toNat-0))<|ob e4<|om ((0+(m4 (i+1)).toNat)+(w.d8.length-(m4 (i+1)).toNat)<=w.d8.length) (by omega)<|tl (11,{a:=.part,v:=some (.own 14 0 13 0 ((([]:List j9)++(w.d8.drop (0+0)).take (i.toNat-0))++(w.d8.drop (0+(m4 (i+1)).toNat)).take (w.d8.length-(m4 (i+1)).toNat)).length),e:=some (m7 68 13 s7 ((([]:List j9)++(w.d8.drop (0+0)).take (i.toNat-0))++(w.d8.drop (0+(m4 (i+1)).toNat)).take (w.d8.length-(m4 (i+1)).toNat)))})<|rg<|I8 w.b7 ((([]:List j9)++(w.d8.drop (0+0)).take (i.toNat-0))++(w.d8.drop (0+(m4 (i+1)).toNat)).take (w.d8.length-(m4 (i+1)).toNat)) w.g7 w.Told<|fE h
def a1v:FS (Bool):=⟨73,Tryz.f73,[.val [] []],[none],[.val [] []],fun r=>.b r,fun _=>[none],Tryz.func73⟩
def a0O(n:Int):Option Bool:=
 (bif decide (n>=1) then some (decide (n<=3000)) else some false)
theorem a1I{n}:OK a1v [vi n] (a0O n):=
 p8 _ fun r h=>o9<|j5 2 h (fun h=>fE h) (fun h=>fE h)
def a4T:FS (v5×Bool):=⟨109,Tryz.f109,[.val [none,some 8] [none,some 9000000],.val [] []],[none,none],[.val [none,some 8] [],.val [] []],fun r=>.tup [.agg [vi r.1.i5,.bot],.b r.2],fun _=>[none,none],Tryz.func109⟩
def a9M(a:v5)(bal:Int):Option (v5×Bool):=
 ((a0O bal).bind fun W9=>(bif (!W9) then some (a,false) else (bif decide (bal<a.i5) then some (a,false) else none)))
theorem c1e{a bal}:OK a4T [.agg (V8 a),vi bal] (a9M a bal):=
 p8 _ fun r h=>o9<|j7 a1v a1I 1 h fun W9 h=>j5 3 h (fun h=>rg<|fE h) (fun h=>j5 8 h (fun h=>rg<|fE h) (fun h=>(nomatch h)))
def a3t:FS (List j9):=⟨179,Tryz.f179,[.val [some 13] []],[none,none],[.val B0 [],.val B0 []],fun r=>l7 13 s7 r,fun _=>[none,none],Tryz.func179⟩
def a4J(m:j9)(out:j9):Option (List j9):=
 some [(j9.mk out.a6 m.To m.c9 out.a8 out.g8 out.g9 out.a0)]
theorem a6E{m out}:OK a3t [.agg (s7 m),.agg (s7 out)] (a4J m out):=
 p8 _ fun r h=>rg4<|tk 1 B0<|D8 (j9.mk out.a6 m.To m.c9 out.a8 out.g8 out.g9 out.a0)<|fE h
def c7B(rv:Value):FS (j8):=⟨108,Tryz.f108,[.val A4 om3],[none],[.val A4 om3],fun r=>.agg ([vi r.Id,vi r.Acc.i5,.raw rv]++a82 r),fun _=>[none],Tryz.func108⟩
def c4g(n:j8):Option j8:=
 some (j8.mk n.Id n.Acc n.a7 n.Seq 0 0 [] [] (m5.mk false (s3.mk 0 0) (m9.mk [] [] 0 0)) [] n.j3 n.i7 n.b8 n.d6)
theorem d84{n}(rv):OK (c7B rv) [.agg ([vi n.Id,vi n.Acc.i5,.raw rv]++a82 n)] (c4g n):=
 p8 _ fun r h=>rg4<|rg4<|C8 n.a7 n.d6<|fE h
def b23(rv:Value):FS (j8):=⟨158,Tryz.f158,[.val A4 om3],[none,none],[.val A4 om3,.val [] []],fun r=>.agg ([vi r.Id,vi r.Acc.i5,.raw rv]++a82 r),fun _=>[none,none],Tryz.func158⟩
def e3o(i:Nat)(fr:Bool)(r:j8):Nat×J1:=(i,{a:=.callr 0 2 [.val A4 om3,.val [] []] fr (.agg ([vi r.Id,vi r.Acc.i5,.hole]++a82 r)) [none,none]})
def e2S(rv:Value)(n:j8):Unit->KS:=fun _=>⟨(b23 rv).k 2 [false],(bs 2 (.ptr 1 0 0::(bs 1 (.ptr 2 0 0::(bs 12 []))))),[some [m7 63 7 t5 n.a7,m7 4 1 eB n.c9,m7 4 1 eB n.a0,m7 63 7 t5 n.d6],some [.var 65 ([vi n.Id,vi n.Acc.i5,.raw rv,.own 0 0 7 0 n.a7.length,vi n.Seq,vi n.f0,vi n.a8,.own 0 1 1 0 n.c9.length]++a2B n++[.own 0 2 1 0 n.a0.length]++a0T n++[.own 0 3 7 0 n.d6.length])],some [.var 65 [vi 0,vi 0,.nil,.nil,vi 0,vi 0,vi 0,.nil,.nil,.b false,vi 0,vi 0,.nil,.nil,vi 0,vi 0,.nil,.b false,.nil,.b false,vi 0,vi 0,.nil,.nil,vi 0,vi 0,.nil]]]⟩
def c6I(n:j8):Option j8:=
 some n
theorem d6L(rv n)(r):NF (b23 rv) r (e2S rv n) (fun s=>c6I n):=fun _ h=>PK<|rg<|H8 n<|fE h
def b0F(n:j8)(bal:Int):Option j8:=
 (((bif (n.f0 != 0) then (bif decide (bal>n.a8) then ((c4g n).bind fun r_=>some (l8.ret r_)) else some (l8.brk ())) else some (l8.brk ())):Option (l8 j8 Unit)).bind fun x=>x.go some fun j=>c6I n)
theorem e23{n bal}(rv):OK (b23 rv) [.agg ([vi n.Id,vi n.Acc.i5,.raw rv]++a82 n),vi bal] (b0F n bal):=
 p8 _ fun r h=>rg<|A0 h (d6L rv n r) fun x1 h hc1=>rg<|j5 3 h (fun h=>j5 8 h (fun h=>rg<|cb (c7B rv).t (d84 rv) 1 false h fun r_ h=>H8 n<|(B9 h hc1 fun h=>H8 r_<|fE h)) (fun h=>(o7 h hc1 fun hI=>sk [] [2,4] [(1,0),(2,0)] hI))) (fun h=>(o7 h hc1 fun hI=>sk [] [2,4] [(1,0),(2,0)] hI))
theorem e0U{n bal}(r)(h:b0F n bal=some r):∀c,a1n cx.P 158 [.agg ([vi n.Id,vi n.Acc.i5,.raw c]++a82 n),vi bal] ((b23 c).R r) ((b23 c).O r):=fun c=>e23 c r h
def a9s:FS (v5×Bool):=⟨109,Tryz.f109,[.val [none,some 8] [none,some 130],.val [] []],[none,none],[.val [none,some 8] [none,some 130],.val [] []],fun r=>.tup [.agg [vi r.1.i5,u0 130 8 p7 r.1.a0],.b r.2],fun _=>[none,none],Tryz.func109⟩
def a5B(a:v5)(bal:Int):Option (v5×Bool):=
 ((a0O bal).bind fun W9=>(bif (!W9) then some (a,false) else (bif decide (bal<a.i5) then some (a,false) else some ((v5.mk bal a.a0),true))))
theorem b1t{a bal}:OK a9s [.agg [vi a.i5,u0 130 8 p7 a.a0],vi bal] (a5B a bal):=
 p8 _ fun r h=>o9<|j7 a1v a1I 1 h fun W9 h=>j5 3 h (fun h=>rg<|s8 a.a0<|fE h) (fun h=>j5 8 h (fun h=>rg<|s8 a.a0<|fE h) (fun h=>o9<|s8 a.a0<|fE h))
def d0I:FS (m9):=⟨152,Tryz.f152,[.val M7 om4],[none],[.val M7 []],fun r=>.agg (a4t r),fun _=>[none],Tryz.func152⟩
def b8V(r_:m9):Option m9:=
 (s5 ((([]:List s1).length+r_.a9.length)*16<=140737488355328) ((s5 ((([]:List p9).length+r_.b6.length)*16<=140737488355328) (some (m9.mk (([]:List s1)++r_.a9) (([]:List p9)++r_.b6) r_.d9 r_.Code)))))
theorem d6R{r_}:OK d0I [.agg (J9 r_)] (b8V r_):=
 p8 _ fun r h=>o9<|tk 0 []<|s9 h fun e1 h=>oa 6 0 2 ([]:List s1) r_.a9<|oz 159 2 t8 ([]:List s1) r_.a9<|A6 s1<|ob e1<|tl (3,{v:=some (.own 6 0 2 0 (([]:List s1)++r_.a9).length),e:=some (m7 159 2 t8 (([]:List s1)++r_.a9))})<|tk 4 []<|s9 h fun e2 h=>oa 10 0 2 ([]:List p9) r_.b6<|oz 162 2 t9 ([]:List p9) r_.b6<|A6 p9<|ob e2<|tl (7,{v:=some (.own 10 0 2 0 (([]:List p9)++r_.b6).length),e:=some (m7 162 2 t9 (([]:List p9)++r_.b6))})<|C8 (([]:List s1)++r_.a9) (([]:List p9)++r_.b6)<|fE h
def d2R:FS (m5):=⟨104,Tryz.f104,[.val I1 om5],[none],[.val I1 []],fun r=>.agg (e1i r),fun _=>[none],Tryz.func104⟩
def b8h(e_:m5):Option m5:=
 ((b8V e_.b9).bind fun d=>some (m5.mk e_.i8 e_.a5 d))
theorem d9A{e_}:OK d2R [.agg (t5 e_)] (b8h e_):=
 p8 _ fun r h=>o9<|j7 d0I d6R 6 h fun d h=>olR d<|fE h
def a2w:FS (List m6):=⟨103,Tryz.f103,[.val [some 8] [some 1000130]],[none],[.part],fun r=>b0d 130 8 a0v r,fun _=>[none],Tryz.func103⟩
def c5O:(List m6)->KS:=fun out1=>⟨a2w.k 4 [false],(bs 3 (.own 1 0 8 0 out1.length::(bs 24 []))),[some [],some [C3 130 8 a0v out1]]⟩
def d28(out1:List m6):Option (List m6):=
 some out1
theorem d8H(r):NF a2w r c5O (fun s=>d28 s):=fun out1 h=>PK<|rg<|s8 out1<|fE h
def d7C(list:List m6):((List m6)×Int)->KS:=fun (out,i)=>⟨a2w.k 3 [],(l7 8 p7 list::(bs 2 (.own 1 0 8 0 out.length::(vi i::(bs 23 []))))),[some [],some [C3 130 8 a0v out]]⟩
def e42(vote:m6)(d:m5):List V:=[vi vote.a8,.b d.i8,vi d.a5.d7,vi d.a5.Seq,u0 159 2 t8 d.b9.a9,u0 162 2 t9 d.b9.b6,vi d.b9.d9,vi d.b9.Code]
def b0n(list:List m6)(out:List m6)(i:Int):Option (l9 (List m6) ((List m6)×Int) (List m6)):=
 (bif decide (i<(list.length:Int)) then ((idx list i).bind fun vote=>((b8h vote.g9).bind fun d=>(s5 ((out.length+1)*96<=140737488355328) (some (l9.nxt (out++[(m6.mk vote.a8 d)],m4 (i+1))))))) else some (l9.brk out))
theorem d6e(list):LQ a2w c5O (d7C list) (fun s=>b0n list s.1 s.2):=fun lc (out,i) h=>PK<|rg<|j5 3 h (fun h=>rg<|x8 p7 3 h fun vote J6 h=>K3 p7 8 J6<|j7 d2R d9A 11 h fun d h=>om (s4.deep false 130 8 1 [(e42 vote d)]=C3 130 8 a0v [(m6.mk vote.a8 d)]) rfl<|olR d.b9<|tl (13,{a:=.dck [none,none,none,none,some 2,some 2,none,none] [none,none,none,none,some 159,some 162,none,none],e:=some (C3 130 8 a0v [(m6.mk vote.a8 d)])})<|s9 h fun e1 h=>om (V.own 20 0 8 0 (out.length+1)=.own 20 0 8 0 (out++[(m6.mk vote.a8 d)]).length) (by simp)<|om (s4.deep false 130 8 (out.length+1) (out.map a0v++[a0v (m6.mk vote.a8 d)])=C3 130 8 a0v (out++[(m6.mk vote.a8 d)])) (c1T rfl)<|s8 out<|ob e1<|om (1=1) rfl<|tl (14,{a:=.dck [] [],v:=some (.own 20 0 8 0 (out++[(m6.mk vote.a8 d)]).length),e:=some (C3 130 8 a0v (out++[(m6.mk vote.a8 d)]))})<|rg<|(lc.nx h fun hI=>sk [] [0,3,4] [(20,0)] hI)) (fun h=>(lc.bk h fun hI=>sk [] [3] [(1,0)] hI))
def b78(list:List m6):Option (List m6):=
 ((s2 (fun s:(List m6)×Int=>b0n list s.1 s.2) (([]:List m6),0)).bind fun x=>x.go (fun r=>some r) fun s=>d28 s)
theorem d4R{list}:OK a2w [l7 8 p7 list] (b78 list):=
 p8 _ fun r h=>o9<|om (s4.deep false 130 8 0 []=C3 130 8 a0v ([]:List m6)) rfl<|tl (0,{a:=.dck [] [],e:=some (C3 130 8 a0v ([]:List m6))})<|rg<|lp (d6e list) h (fun _ h=>a2w.rt h) (d8H r) fun hI=>om ((.own 2 0 8 0 0:V)=.own 2 0 8 0 ([]:List m6).length) (by simp)<|sk [.is (.tmp 3) (.own 2 0 8 0 ([]:List m6).length)] [0,3,4] [(2,0)] hI
def c53:FS (j8×List j9):=⟨153,Tryz.f153,[.val A4 E4,.val [some 13] []],[none,none],[.val A4 E4,.val B0 []],fun r=>.tup [.agg (E7 r.1),l7 13 s7 r.2],fun _=>[none,none],Tryz.func153⟩
def b5P(n:j8)(m:j9):Option (j8×List j9):=
 (a4C (a9M n.Acc m.a8) (fun no=>(bif (!no.2) then ((a4J m (j9.mk 6 0 0 n.Acc.i5 0 (m5.mk false (s3.mk 0 0) (m9.mk [] [] 0 0)) [])).bind fun a1r=>some (n,a1r)) else none)) (((a5B n.Acc m.a8).bind fun l6Promise=>(bif (!l6Promise.2) then none else ((b0F (j8.mk n.Id l6Promise.1 n.a7 n.Seq n.f0 n.a8 n.c9 n.i4 n.c8 n.a0 n.j3 n.i7 n.b8 n.d6) m.a8).bind fun r_=>(bif decide (m.g8<(l6Promise.1.a0.length:Int)) then (s5 ((0:Int)<=m.g8/\m.g8<=(l6Promise.1.a0.length:Int)) (((b78 ((l6Promise.1.a0.drop m.g8.toNat).take (l6Promise.1.a0.length-m.g8.toNat))).bind fun d=>((a4J m (j9.mk 2 0 0 m.a8 m.g8 (m5.mk false (s3.mk 0 0) (m9.mk [] [] 0 0)) d)).bind fun a4a=>some ((j8.mk r_.Id (v5.mk r_.Acc.i5 l6Promise.1.a0) r_.a7 r_.Seq r_.f0 r_.a8 r_.c9 r_.i4 r_.c8 r_.a0 r_.j3 r_.i7 r_.b8 r_.d6),a4a))))) else ((a4J m (j9.mk 2 0 0 m.a8 m.g8 (m5.mk false (s3.mk 0 0) (m9.mk [] [] 0 0)) ([]:List m6))).bind fun c7e=>some ((j8.mk r_.Id (v5.mk r_.Acc.i5 l6Promise.1.a0) r_.a7 r_.Seq r_.f0 r_.a8 r_.c9 r_.i4 r_.c8 r_.a0 r_.j3 r_.i7 r_.b8 r_.d6),c7e))))))))
set_option maxRecDepth 20000 in
theorem d6r{n m}:OK c53 [.agg (E7 n),.agg (s7 m)] (b5P n m):=
 p8 _ fun r h=>o9<|cbA a4T.t c1e 4 true h (fun no h=>osc a4T no (by simp [a4T,J8,S8,N8,V.simple,vi,u0,V8,eB,t5,eI,t9,t8,U2,J9,p7]) (S6 2)<|s8 n.Acc.a0<|rg<|j5 1 h (fun h=>rg<|j7 a3t a6E 6 h fun a1r h=>x9 n<|fE h) (fun h=>(nomatch h))) (fun h=>j7 a9s b1t 4 h fun l6Promise h=>s8 n.Acc.a0<|rg<|j5 1 h (fun h=>(nomatch h)) (fun h=>o9<|cb e3o e0U 3 false h fun r_ h=>H8 n<|rg<|tk 0 O7<|rg<|j5 5 h (fun h=>rg<|s9 h fun e1 h=>ob e1.1<|ob e1.2<|A8 h fun d hd h=>om (a1n cx.P 103 [.sl 8 (l6Promise.1.a0.length-m.g8.toNat) (((l6Promise.1.a0.map p7).drop (0+m.g8.toNat)).take (l6Promise.1.a0.length-m.g8.toNat))] (a2w.R d) (a2w.O d)) (by rw [f0y,b2U e1];exact (d4R d hd))<|osc a2w d (by simp [a2w,J8,S8,N8,V.simple,vi,u0,b4m,eB,t5,eI,t9,t8,U2,J9,p7,a0v,b0d]) (S6 1)<|om ((0+m.g8.toNat)+(l6Promise.1.a0.length-m.g8.toNat)<=l6Promise.1.a0.length) (by omega)<|tl (a2w.t 5 true d)<|rg<|A8 h fun a4a d6B h=>om (a1n cx.P 179 [.agg (s7 m),.agg [vi 2,vi 0,vi 0,vi m.a8,vi m.g8,.b false,vi 0,vi 0,l7 2 t8 ([]:List s1),l7 2 t9 ([]:List p9),vi 0,vi 0,.sl 8 d.length (V1 (d.map a0v))]] (a3t.R a4a) (a3t.O a4a)) (by simp only [b8w d7T];exact (a6E a4a d6B))<|s8 d<|tl (a3t.t 8 false a4a)<|s8 l6Promise.1.a0<|H8 r_<|fE h) (fun h=>rg<|j7 a3t a6E 8 h fun c7e h=>A6 m6<|s8 l6Promise.1.a0<|H8 r_<|fE h)))
end
end Go.Proofs.YtpkapdcfblhkoaaGreat
