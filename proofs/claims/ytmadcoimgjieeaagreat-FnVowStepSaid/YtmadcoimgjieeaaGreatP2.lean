/- What the law leans on, part 2. -/
import Derived.Test.YtmadcoimgjieeaaGreatP1
import Derived.WideKeyRuns
import Derived.Below
import Derived.Carry
import Derived.ChangeArms
import Derived.Deep.Slices
import Derived.WideShapes
import Derived.Test.YtmadcoimgjieeaaGreatProg
set_option linter.unusedVariables false
set_option linter.unusedSimpArgs false
set_option linter.unnecessarySimpa false
namespace Go.Proofs.YtmadcoimgjieeaaGreat
open Go
open List renaming getElem?_eq_getElem->f8N,replicate->f8O,mem_append->f8P,getElem_mem->f8Q,all_eq_true->f8S,getElem?_eq_some_iff->f8U,mem_singleton->f8V,range->f8W,mem_cons->f8X,nodup_append->f8Z,length_append->f9a,eq_nil_of_length_eq_zero->f9b,mem_of_getElem?->f9c,getD_eq_getElem?_getD->f9d,getElem?_append_right->f9h,append_assoc->f9i,drop_eq_getElem_cons->f9j,getElem?_set_ne->f9k,getElem?_append_left->f9l,flatten_cons->f9t,mem_map->f9w,mem_or_eq_of_mem_set->f9y,map_cons->f9z,append_nil->f9C,take_of_length_le->f9F,length_map->f9I,mem_replicate->f9J,nil_append->f9M,take_append_drop->f9O,mem_range->f9P,mem_flatten->f9Q,getElem?_map->f9R,mem_of_mem_drop->f9S,mem_of_mem_take->f9T,mem_filter->f9V,getElem?_cons_zero->f9Z,map_append->g0f,getElem?_cons_succ->g0h,pairwise_cons->g0l,nodup_cons->g0o,any_eq_true->g0p,sublist_append_right->g0D,pairwise_append->g0F,Perm->g0K,drop_drop->g0L,cons_append->g0M,replicate_succ->g0Q,size_toArray->g0T,toArray->g0V,map_map->g0W,Sublist->g0X,not_mem_nil->g01,any_cons->g05,flatten_append->g06
open Bool renaming and_eq_true->f8R,true_and->f8Y,not_eq_true'->f9v,not_false->f9x,false_or->f9B,false_eq_true->g0k,and_assoc->g1b
open Nat renaming le_refl->f9f,mul_le_mul_right->f9u,le_trans->f9A,eq_of_beq_eq_true->f9K,zero_add->f9W,succ_mul->g0b,le_mul_of_pos_right->g0v,add_zero->g0z,zero_le->g0J
open Option renaming getD_some->g0d,map_some->g0i,map_eq_some_iff->g0w
open Option.some renaming inj->g0j
noncomputable section
section
variable {cx:Cx} {Γ:O7} {F:Nat->Prop} {ι:Nat->Nat->Value} {S:St} {a:Act} {w:World}
theorem u6.writeX(h:u6 Γ F ι S a w){g j:Nat}{e e':s9}(he:S.ent g j=some e)(hl:e.live=true){w':World}(hk:w'.os=w.os/\w'.tape=w.tape/\w'.output=w.output)(hsz:w'.heap.size=w.heap.size)(hb:∀k,¬EB w e (ι g j) k->w'.heap[k]?=w.heap[k]?)(hn:I4 w w' F->RE w' F (S.setE g j e').D ι e' (ι g j)){X:List Nat}(hX:∀k∈X,¬F k/\(Γ.own k\/Γ.w0.heap.size<=k)/\∀g' j' e'',S.ent g' j'=some e''->e''.live=true->¬EB w e'' (ι g' j') k)(hin:∀k,EB w' e' (ι g j) k->EB w e (ι g j) k\/k∈X):u6 Γ F ι (S.setE g j e') a w':=by
  have hs:I4 w w' F:=a1t fun k hF=>hb k fun q=>(h.sep g j e k he hl q).1 hF
  have hD:∀k,S.D k->(S.setE g j e').D k:=fun k x=>R2.2 x
  have hoth:∀g' j' e'',S.ent g' j'=some e''->e''.live=true->¬(g'=g/\j'=j)->∀k,EB w e'' (ι g' j') k->w'.heap[k]?=w.heap[k]?:=fun g' j' e'' he'' hl'' q k a2j=>hb k fun q'=>q (h.inj g' j' e'' g j e k he'' he hl'' hl a2j q')
  have hone:∀g2 j2 e2 k,S.ent g2 j2=some e2->e2.live=true->¬(g2=g/\j2=j)->EB w' e' (ι g j) k->EB w' e2 (ι g2 j2) k->False:=by
    intro g2 j2 e2 k h2 l2 q2 k1 k2;have k2':=(h.ents g2 j2 e2 h2).back (hoth g2 j2 e2 h2 l2 q2) k2;rcases hin k k1 with x|x
    · exact q2 (h.inj g2 j2 e2 g j e k h2 he l2 hl k2' x)
    · exact (hX k x).2.2 g2 j2 e2 h2 l2 k2'
  exact
    { F0:=h.F0
      F1:=fun k hF=>hsz▸h.F1 k hF
      F2:=h.F2
      kept:=⟨hk.1.trans h.kept.os,hk.2.1.trans h.kept.tape,hk.2.2.trans h.kept.output,hsz▸h.kept.size,fun k hk' hno=>by
        rw [hb k fun q => ?_]
        · exact h.kept.block k hk' hno
        · rcases (h.sep g j e k he hl q).2 with x|x
          · exact hno x
          · omega⟩
      tmps:=by rw [a8M];exact h.tmps.imp fun _ _ x=>x.mono hs (fun _ y=>y) hD (fun _ _ _=>rfl)
      ents:=fun g' j' e'' he''=>by
        rw [Q5 he] at he'';split at he''
        · rename_i q;obtain ⟨rfl,rfl⟩:=q;injection he'' with he'';subst he'';exact hn hs
        · rename_i q;exact (h.ents g' j' e'' he'').mono hs (fun _ y=>y) hD (fun _ _ _=>rfl) fun k hl'' a2j=>hoth g' j' e'' he'' hl'' q k a2j
      sep:=fun g' j' e'' k he'' hl'' a2j=>by
        rw [Q5 he] at he'';split at he''
        · rename_i q;obtain ⟨rfl,rfl⟩:=q;injection he'' with he'';subst he'';rcases hin k a2j with x|x
          · exact h.sep g' j' e k he hl x
          · exact ⟨(hX k x).1,(hX k x).2.1⟩
        · rename_i q;exact h.sep g' j' e'' k he'' hl'' ((h.ents g' j' e'' he'').back (hoth g' j' e'' he'' hl'' q) a2j)
      inj:=fun g1 j1 e1 g2 j2 e2 k h1 h2 l1 l2 k1 k2=>by
        rw [Q5 he] at h1 h2;split at h1<;>split at h2
        · rename_i q1 q2;exact ⟨q1.1.trans q2.1.symm,q1.2.trans q2.2.symm⟩
        · rename_i q1 q2;obtain ⟨rfl,rfl⟩:=q1;injection h1 with h1;subst h1;exact (hone g2 j2 e2 k h2 l2 q2 k1 k2).elim
        · rename_i q1 q2;obtain ⟨rfl,rfl⟩:=q2;injection h2 with h2;subst h2;exact (hone g1 j1 e1 k h1 l1 q1 k2 k1).elim
        · rename_i q1 q2;exact h.inj g1 j1 e1 g2 j2 e2 k h1 h2 l1 l2 ((h.ents g1 j1 e1 h1).back (hoth g1 j1 e1 h1 l1 q1) k1) ((h.ents g2 j2 e2 h2).back (hoth g2 j2 e2 h2 l2 q2) k2)
      defers:=h.defers
      pins:=fun j c hc=>⟨hD _ (h.pins j c hc).1,(h.pins j c hc).2⟩}
theorem I8.splice{rows:List (List V)}(h:I8 rows){idx off:Nat}{r vs:List V}(hr:rows[idx]?=some r)(hv:∀v∈vs,v.isRef=false):I8 (rows.set idx (A7 r off vs)):=by
 intro q hq v hm;rcases f9y hq with hq|rfl
 ·exact h q hq v hm
 ·unfold A7 at hm;have hrr:=h r (f9c hr);rcases f8P.1 hm with hm|hm
  ·rcases f8P.1 hm with hm|hm
   ·exact hrr v (f9T hm)
   ·exact hv v hm
  ·exact hrr v (f9S hm)
theorem u6.dput(h:u6 Γ F ι S a w){g j t sz n:Nat}{o:Bool}{rows:List (List V)}(he:S.ent g j=some (.deep o t sz n rows)){idx off:Nat}{r vs:List V}{ds:List Value}{fp:List Nat}{ks:List (Nat×Nat)}(hr:rows[idx]?=some r)(hoff:off+vs.length<=sz)(hbl:BL w F vs ds fp)(hfps:N3 S w ι ks fp)(hks:ks.Nodup)(hgj:(g,j) ∉ ks){w':World}(hw:w'.os=w.os/\w'.tape=w.tape/\w'.output=w.output)(hsz:w'.heap.size=w.heap.size)(hb:∀k,B7 (ι g j)≠some k->w'.heap[k]?=w.heap[k]?)(hnew:∀flat,w.ownsRow 0 t sz (ι g j) n flat->w'.ownsRow 0 t sz (ι g j) n (A7 flat (idx*sz+off) ds)) :
  u6 Γ F ι (S.upds (G5 ks++[((g,j),.deep o t sz n (rows.set idx (A7 r off vs)))])) a w':=by
 obtain ⟨flat,fs,hor,hkl,hn,hl,hnd,hnr⟩:=h.ents g j _ he;have h1:=h.killAll ks fun id hid=>by
  obtain ⟨e,he,_⟩:=hfps.live id hid;exact ⟨e,he⟩
 have he1:(S.upds (G5 ks)).ent g j=some (.deep o t sz n rows):=by rw [d8M hgj];exact he
 have hidx:=(f8U.1 hr).1;have hpos:idx*sz+sz<=n*sz:=by rw [<-g0b];exact f9u _ (by omega)
 obtain ⟨fa,fm,fb,rfl,hrow,_⟩:=hkl.splice (k:=idx*sz+off) hbl.kl (by rw [a33 hl,hn];omega);rw [<-a7Z hl hr hoff] at hrow;have hfpx:∀k∈fp,¬F k/\(Γ.own k\/Γ.w0.heap.size<=k)/\k ∉ E3 (ι g j)++(fa++(fm++fb))/\∀g' j' e'',(S.upds (G5 ks)).ent g' j'=some e''->e''.live=true->¬EB w e'' (ι g' j') k:=by
  intro k hk;obtain ⟨id,hid,e',he',hl',hb'⟩:=hfps.mem hk;obtain ⟨z1,z2⟩:=h.sep _ _ e' k he' hl' hb';refine ⟨z1,z2,?_,?_⟩
  ·intro q;obtain ⟨y1,y2⟩:=h.inj _ _ _ _ _ _ k he he' rfl hl' ((EB.deep_iff hor hkl).2 q) hb';exact hgj (by rw [show (g,j)=id from Prod.ext y1 y2];exact hid)
  ·intro g' j' e'' he'' hl'' hb'';rcases b0o _ he'' with ⟨_,rfl⟩|⟨q1,q2⟩
   ·cases hl''
   ·obtain ⟨y1,y2⟩:=h.inj _ _ _ _ _ _ k q2 he' hl'' hl' hb'' hb';exact q1 (by rw [show (g',j')=id from Prod.ext y1 y2];exact hid)
 have hnd2:(E3 (ι g j)++(fa++fb)).Nodup:=by
  refine List.Nodup.sublist ?_ hnd;exact g0X.append_left (g0X.append_left (g0D _ _) _) _
 have hnd':(E3 (ι g j)++(fa++(fp++fb))).Nodup:=by
  refine (a8k (a8k (g0K.refl (fp++fb)))).nodup_iff.2 ?_;refine f8Z.2 ⟨N3.nodup h hfps hks,hnd2,?_⟩;intro k hk k' hk' hkk;subst hkk;refine (hfpx k hk).2.2.1 ?_;simp only [f8P] at hk'⊢;rcases hk' with q|q|q<;>simp [q]
 have hre:I4 w w' F->RE w' F ((S.upds (G5 ks)).setE g j (.deep o t sz n (rows.set idx (A7 r off vs)))).D ι (.deep o t sz n (rows.set idx (A7 r off vs))) (ι g j):=by
  intro hs;refine ⟨_,_,hnew flat hor,hrow.mono hs (fun _ x=>x) (fun k x=>R2.2 ((a0p S k _).2 x)) (fun _ _ _=>rfl) ?_,by simpa using hn,?_,hnd',fun q=>(hnr q).splice hr hbl.noRef⟩
  ·intro k hk;refine hb k fun q => ?_
   exact (f8Z.1 hnd').2.2 k (R7.2 q) k hk rfl
  ·intro q hq;rcases f9y hq with hq|rfl
   ·exact hl q hq
   ·have:=hl r (f9c hr);rw [a3C _ _ _ (by omega)];exact this
 rw [St.upds_append];refine h1.writeX he1 rfl hw hsz (fun k hk=>hb k fun q=>hk (EB.top q)) hre (X:=fp) (fun k hk=>⟨(hfpx k hk).1,(hfpx k hk).2.1,(hfpx k hk).2.2.2⟩) ?_;intro k hk;have hs:I4 w w' F:=a1t fun k hF=>hb k fun q=>(h.sep g j _ k he rfl (EB.top q)).1 hF
 obtain ⟨flat2,fs2,ho2,hkl2,_⟩:=hre hs;have hk2:=(EB.deep_iff ho2 hkl2).1 hk;have hkl3:=hrow.mono (w':=w') hs (fun _ x=>x) (fun k x=>x) (fun _ _ _=>rfl) (fun k hk=>hb k fun q=>(f8Z.1 hnd').2.2 k (R7.2 q) k hk rfl);have hfl:=b0N ho2 (hnew flat hor) (fun _ _=>rfl);subst hfl;rw [hkl2.det hkl3 (fun _ _=>rfl)] at hk2;simp only [f8P] at hk2;rw [EB.deep_iff hor hkl];simp only [f8P];rcases hk2 with q|q|q|q<;>simp [q]
def a95(cx:Cx)(ty:Nat)(x y:V)(r:List V)(ck om:List (Option Nat)):j8 B6:=
 match cx.T ty,y.cells with
 | some ti,some vs=>match x with
  | .eptr g j sz idx off=>j8.bind (j8.rd g j) fun e=>j8.bind (a1O ck om vs) fun f=>match e with
   | .deep o t sz' n rows=>if sz'=sz/\vs.length=ti.size/\off+vs.length<=sz/\f.ls.isEmpty/\a3q f.ks/\a1Q f.ks (g,j)=false then
     j8.pure {v:=.bot,upd:=G5 f.ks++[((g,j),.deep o t sz n (rows.set idx (A7 r off f.v)))],obl:=(rows[idx]?=some r)::f.obl}
    else j8.no
   | _=>j8.no
  | _=>j8.no
 | _,_=>j8.no
theorem BL.len{F:Nat->Prop}:∀{vs:List V} {cs:List Value} {f:List Nat},BL w F vs cs f->vs.length=cs.length
 | _,_,_,.nil=>rfl
 | _,_,_,.cons _ _ _ _ _ _ _ t=>by simp [BL.len t]
theorem d41(h:u6 Γ F ι S a w){grp:Nat}{ob:Oper}{ty:Nat}{x y:Operand}{r:List V}{ck om:List (Option Nat)}(ho:ob.op=.store ty x y)(hd:ob.dst=none){out:B6}{lg:List (Nat×Nat)}(hp:a95 cx ty (t6 S.t x) (t6 S.t y) r ck om S.ent=some (out,lg))(hob:∀p∈out.obl,p):U7 cx.P Γ ι S grp ob out a w:=by
 have hx:=E1 h.tmps x;have hy:=E1 h.tmps y;unfold a95 at hp;cases hti:cx.T ty with
 | none=>rw [hti] at hp;cases hp
 | some ti=>
 cases hvs:(t6 S.t y).cells with
 | none=>rw [hti,hvs] at hp;cases hp
 | some vs=>
 rw [hti,hvs] at hp;simp only at hp;obtain ⟨i,d,z,htf⟩:=cx.tf hti;have hcells:=hy.cells hvs;have hone:=hcells.all_one;have hclen:vs.length=(a.eval y).cells.size:=by simpa using hcells.length
 generalize t6 S.t x=xv at hp hx;cases xv<;>try (cases hp;done)
 case eptr g j sz idx off=>
  obtain ⟨hD,b,hι,hc⟩:=hx.inv_eptr;obtain ⟨e,l1,l2,hrd,hp',hl12⟩:=j8.bind_some hp;clear hp;have he:=(j8.rd_some hrd).1;simp only at he;obtain ⟨f,l3,l4,hf,hp'',hl34⟩:=j8.bind_some hp';clear hp';cases e<;>try (cases hp'';done)
  rename_i o t sz' n rows;simp only at hp'';split at hp''<;>try (cases hp'';done)
  rename_i hcond;obtain ⟨rfl,hc1,hc2,hc3,hc4,hc5⟩:=hcond;have:=j8.pure_some hp'';injection this with h2 h3;subst h2;have hr:rows[idx]?=some r:=hob _ (f8X.2 (.inl rfl));have hls:f.ls=[]:=List.isEmpty_iff.1 hc3;obtain ⟨fp,hbl,hfps,hh⟩:=b32 (F1:=F) h (fun _ x=>x) hcells hf (fun p hp=>hob p (f8X.2 (.inr hp))) (by rw [hls];intro id hid;cases hid);obtain ⟨flat0,fs0,hor0,hkl0,hn0,hl0,_⟩:=h.ents g j _ he;have hidx:=(f8U.1 hr).1;have hvl:f.v.length=vs.length:=by rw [hbl.len,hclen];simp
  rcases hor0.2 with ⟨hv,h0⟩|⟨g0,cap,cur,hv,hbg,hg,hnc,hcm,hcs,ht⟩
  ·omega
  ·have hb:b=g0:=by rw [hv] at hι;simp [B7] at hι;omega
   subst hb;have hcl:n*sz'<=cur.size:=by rw [hcs];exact f9u _ hnc
   have hpos:idx*sz'+sz'<=n*sz':=by rw [<-g0b];exact f9u _ (by omega)
   have hrun:=b7F (P:=cx.P) ho htf hc hg (by omega) (by omega) hone;refine ⟨_,undef,_,F,ι,hrun,.inr ⟨rfl,rfl⟩,?_⟩;rw [hd,b3H,b5p];refine h.dput he hr (by omega) hbl hfps (a5n hc4) (fun q=>by rw [a57.2 q] at hc5;cases hc5) ⟨rfl,rfl,rfl⟩ (b3X _ _ _) (fun k hk=>setRow_other w b k _ fun q=>hk (by rw [hι,q])) ?_;intro flat hor;have hfl:=b0N hor hor0 (fun _ _=>rfl);subst hfl;have hflat:flat.length=n*sz':=hor.1;refine ⟨?_,.inr ⟨b,cap,_,hv,hbg,setRow_heap w b cur _ t (0,0) hg,hnc,hcm,?_,?_⟩⟩
   ·rw [a3C _ _ _ (by simp;omega)];exact hor.1
   ·rw [g0T,a3C _ _ _ (by simp;omega)];simpa using hcs
   ·rw [<-ht];exact c1v _ _ _ _ (by simp;omega) (by simpa using hcl)
theorem c2h{t sz n:Nat}{rows:List (List V)}{c:Value}{flat:List Value}{b idx off m:Nat}{r:List V}(ho:w.ownsRow 0 t sz c n flat)(hn:rows.length=n)(hl:∀r∈rows,r.length=sz)(hb:B7 c=some b)(hr:rows[idx]?=some r)(hoff:off+m<=sz) :
  P7 w b (idx*sz+off) ((flat.drop (idx*sz+off)).take m)/\((rows.flatten.drop (idx*sz+off)).take m=(r.drop off).take m)/\idx*sz+off+m<=rows.flatten.length:=by
 have hidx:=(f8U.1 hr).1;have hpos:idx*sz+sz<=n*sz:=by rw [<-g0b];exact f9u _ (by omega)
 refine ⟨?_,?_,by rw [a33 hl,hn];omega⟩
 ·rcases ho.2 with ⟨hv,h0⟩|⟨g0,cap,cur,hv,_,hg,hnc,hcm,hcs,ht⟩
  ·rw [hv] at hb;cases hb
  ·rw [hv] at hb;simp [B7] at hb;subst hb;have hseg:P7 w g0 0 flat:=by
    rw [<-ht];have:=(a5X hg 0).take (n*sz);simpa using this
   have:=(hseg.drop (idx*sz+off)).take m;simpa using this
 ·rw [<-b1W hl hr,List.drop_take,List.take_take,g0L];congr 1
  omega
def b4G(cx:Cx)(grp ty:Nat)(x:V)(r:List V):j8 B6:=
 match cx.T ty with
 | none=>j8.no
 | some ti=>match x with
  | .eptr g j sz idx off=>j8.bind (j8.rd g j) fun e=>match e with
   | .deep _ t sz' n rows=>
    let m:=if ti.agg then ti.size else 1
    let y:=L5 grp 0 ((r.drop off).take m);if sz'=sz/\off+m<=sz/\((r.drop off).take m).all (fun v => !v.isRef) then
     match U0 ti y.1 with
     | some v=>j8.pure {v:=v,new:=some y.2,upd:=[((g,j),.deep true t sz n (rows.set idx (A7 r off y.1)))],obl:=[rows[idx]?=some r]}
     | none=>j8.no
    else j8.no
   | _=>j8.no
  | _=>j8.no
theorem KL.toBL{w:World}{F D:Nat->Prop}{ι:Nat->Nat->Value}{vs:List V}{cs:List Value}{f:List Nat}(h:KL w F D ι vs cs f)(hv:vs.all (fun v => !v.isRef)=true):BL w F vs cs f:=by
 refine h.blOf fun v hm => ?_
 have:=f8S.1 hv v hm;simpa using this
theorem c7E(grp:Nat):∀(vs:List V) (j:Nat),(L5 grp j vs).1.length=vs.length
 | [],_=>rfl
 | v::vs,j=>by simp [L5,c7E grp vs]
theorem f2g{S:St}{g j:Nat}{e e':s9}:(S.setE g j e).setE g j e'=S.setE g j e':=by
 cases hx:S.h[g]? with
 | none=>unfold St.setE;simp [hx]
 | some o=>cases o with
  | none=>unfold St.setE;simp [hx]
  | some l=>
   have hlt:=(f8U.1 hx).1;rw [a3E hx,a3E hx,a3E (l:=l.set j e) (by simp [hlt])];simp only [List.set_set]
set_option maxHeartbeats 800000 in
theorem e85(h:u6 Γ F ι S a w){grp:Nat}(hg:grp<S.h.length)(hn:¬S.D grp){ob:Oper}{ty:Nat}{x:Operand}{r:List V}(ho:ob.op=.load ty x){out:B6}{lg:List (Nat×Nat)}(hp:b4G cx grp ty (t6 S.t x) r S.ent=some (out,lg))(hob:∀p∈out.obl,p):U7 cx.P Γ ι S grp ob out a w:=by
 have hx:=E1 h.tmps x;unfold b4G at hp;cases hti:cx.T ty with
 | none=>rw [hti] at hp;cases hp
 | some ti=>
 rw [hti] at hp;obtain ⟨i,d,z,htf⟩:=cx.tf hti;generalize t6 S.t x=xv at hp hx;cases xv<;>try (cases hp;done)
 case eptr g j sz idx off=>
  obtain ⟨hD,b,hι,hc⟩:=hx.inv_eptr;obtain ⟨e,l1,l2,hrd,hp',hl12⟩:=j8.bind_some hp;clear hp;have he:=(j8.rd_some hrd).1;simp only at he;cases e<;>try (cases hp';done)
  rename_i o t sz' n rows;simp only at hp';obtain ⟨m,hm⟩:∃m,(if ti.agg=true then ti.size else 1)=m:=⟨_,rfl⟩
  rw [hm] at hp';split at hp'<;>try (cases hp';done)
  rename_i hcond;obtain ⟨rfl,hc1,hc2⟩:=hcond;obtain ⟨y,hy⟩:∃y,L5 grp 0 ((r.drop off).take m)=y:=⟨_,rfl⟩
  rw [hy] at hp';cases hrv:U0 ti y.1 with
  | none=>rw [hrv] at hp';cases hp'
  | some v=>
  rw [hrv] at hp';have:=j8.pure_some hp';injection this with h2 h3;subst h2;have hr:rows[idx]?=some r:=hob _ (by simp);obtain ⟨flat,fs,hor,hkl,hrn,hl,hnd,hnr⟩:=h.ents g j _ he;obtain ⟨hseg,hmid,hle⟩:=c2h hor hrn hl hι hr hc1;have hrl:=hl r (f9c hr);have hml:((r.drop off).take m).length=m:=by simp;omega
  have hgg:g≠grp:=fun q=>hn (q▸hD)
  obtain ⟨k,hk⟩:∃k,idx*sz'+off=k:=⟨_,rfl⟩
  rw [hk] at hseg hmid hle;obtain ⟨fa,fm,fb,rfl,ka,km,kb⟩:=hkl.cut (k:=k) (m:=m) hle;rw [hmid] at km;have hbl:=km.toBL hc2;have hds:(flat.drop k).take m=((flat.drop k).take m):=rfl;have hflen:flat.length=rows.flatten.length:=hkl.len.symm;have hspl:∀us:List V,us.length=m->(rows.set idx (A7 r off us)).flatten=rows.flatten.take k++(us++rows.flatten.drop (k+m)):=by
   intro us hus;rw [a7Z hl hr (by omega),hk];unfold A7;rw [hus,f9i]
  have hfs:flat=flat.take k++((flat.drop k).take m++flat.drop (k+m)):=by
   rw [<-g0L,f9O,f9O]
  have hrl':∀us:List V,us.length=m->∀q∈rows.set idx (A7 r off us),q.length=sz':=by
   intro us hus q hq;rcases f9y hq with hq|rfl
   ·exact hl q hq
   ·rw [a3C _ _ _ (by omega)];exact hrl
  have hnd2:(E3 (ι g j)++(fa++fb)).Nodup:=List.Nodup.sublist (g0X.append_left (g0X.append_left (g0D _ _) _) _) hnd;have hndm:fm.Nodup:=(f8Z.1 (f8Z.1 (f8Z.1 hnd).2.1).2.1).1;have hdm:∀k∈fm,k ∉ E3 (ι g j)++(fa++fb):=by
   intro q hq hq';have hp:=(a8k (C:=E3 (ι g j)) (a8k (C:=fa) (g0K.refl (fm++fb)))).nodup_iff.1 hnd;exact (f8Z.1 hp).2.2 q hq q hq' rfl
  obtain ⟨us0,hus0⟩:∃us:List V,us=((r.drop off).take m).map fun _=>V.bot:=⟨_,rfl⟩
  have hus0l:us0.length=m:=by rw [hus0,f9I,hml]
  have kl0:∀{D':Nat->Prop} {ι':Nat->Nat->Value},(∀k,S.D k->D' k)->(∀g j,S.D g->ι' g j=ι g j)->∀{us:List V},us.length=m->KL w F D' ι' us ((flat.drop k).take m) []->KL w F D' ι' (rows.set idx (A7 r off us)).flatten flat (fa++([]++fb)):=by
   intro D' ι' h1 h2 us hus hku;rw [hspl us hus,hfs];have l1:(flat.take k).length=k:=by simp;omega
   have e1:(flat.take k++((flat.drop k).take m++flat.drop (k+m)))=flat:=hfs.symm;exact (ka.mono (fun _ _ _=>rfl) (fun _ x=>x) h1 h2 (fun _ _=>rfl)).app (hku.app (kb.mono (fun _ _ _=>rfl) (fun _ x=>x) h1 h2 (fun _ _=>rfl)))
  have hmem0:∀q,q∈E3 (ι g j)++(fa++([]++fb))->q∈E3 (ι g j)++(fa++(fm++fb)):=by
   intro q hq;simp only [f8P,g01,false_or] at hq⊢;rcases hq with x|x|x<;>simp [x]
  have rel1:u6 Γ F ι (S.setE g j (.deep true t sz' n (rows.set idx (A7 r off us0)))) a w:=by
   have k1:=kl0 (D':=S.D) (ι':=ι) (fun _ x=>x) (fun _ _ _=>rfl) hus0l (hus0▸km.bots);refine h.write he rfl ⟨rfl,rfl,rfl⟩ rfl (fun _ _=>rfl) (fun _ => ?_) ?_
   ·exact ⟨flat,_,hor,k1.mono (fun _ _ _=>rfl) (fun _ x=>x) (fun k x=>R2.2 x) (fun _ _ _=>rfl) (fun _ _=>rfl),by simpa using hrn,hrl' _ hus0l,by simpa using hnd2,fun q=>by cases q⟩
   ·intro q hq;exact (EB.deep_iff hor hkl).2 (hmem0 q ((EB.deep_iff hor k1).1 hq))
  have he1:(S.setE g j (.deep true t sz' n (rows.set idx (A7 r off us0)))).ent g j=some (.deep true t sz' n (rows.set idx (A7 r off us0))):=by rw [Q5 he];simp
  obtain ⟨bs,hbsl,hhas,hth⟩:=a8l (grp:=grp) hbl 0;rw [hy] at hbsl hhas hth;obtain ⟨ι',hι'⟩:∃ι',ι'=a4F ι grp bs:=⟨_,rfl⟩
  have hne:∀g j,g≠grp->ι' g j=ι g j:=fun g j q=>by rw [hι'];exact c7e q
  have hlenS:grp<(S.setE g j (.deep true t sz' n (rows.set idx (A7 r off us0)))).h.length:=by rw [b0u];exact hg
  have hnD:¬(S.setE g j (.deep true t sz' n (rows.set idx (A7 r off us0)))).D grp:=fun q=>hn (R2.1 q)
  have hDg:=a0N (S:=S.setE g j (.deep true t sz' n (rows.set idx (A7 r off us0)))) (new:=y.2) hlenS;obtain ⟨hrc,hlie⟩:=hth ((S.setE g j (.deep true t sz' n (rows.set idx (A7 r off us0)))).lay grp y.2).D ι' hDg (fun q c hq=>by rw [hι',f9W];exact a44 hq) hndm;have hvb:∀(q:Nat) (e:s9),y.2[q]?=some e->bs[q]?=some (ι' grp q):=by
   intro q e hq;have hlt:q<bs.length:=by rw [hbsl];exact (f8U.1 hq).1
   have hv:ι' grp q=bs[q]:=by rw [hι'];exact a44 (f8N hlt)
   rw [hv];exact f8N hlt
  have hmB:∀k∈fm,EB w (.deep o t sz' n rows) (ι g j) k:=fun k hk=>(EB.deep_iff hor hkl).2 (by simp [hk])
  have k1:=kl0 (D':=S.D) (ι':=ι) (fun _ x=>x) (fun _ _ _=>rfl) hus0l (hus0▸km.bots);have rel2:=rel1.lay hlenS hnD (new:=y.2) (ι':=ι') hne (fun q e he=>hlie q e _ he (hvb q e he))
   (fun q e k he hl hk=>h.sep _ _ _ k ‹S.ent g j=some (.deep o t sz' n rows)› rfl (hmB k (hhas.mem he (hvb q e he) hk)))
   (fun q e q' e' k he he' hl hl' hk hk'=>hhas.inj hndm he (hvb q e he) hk he' (hvb q' e' he') hk')
   (fun q e g' j' e' k he0 he' hl hl' hk hk'=>by
    have hkm:=hhas.mem he0 (hvb q e he0) hk;rw [Q5 he] at he';split at he'
    ·rename_i qq;obtain ⟨rfl,rfl⟩:=qq;injection he' with he';subst he';exact hdm k hkm (by simpa using (EB.deep_iff hor k1).1 hk')
    ·rename_i qq;exact qq (h.inj _ _ _ _ _ _ k he' he hl' rfl hk' (hmB k hkm)))
  have he2:((S.setE g j (.deep true t sz' n (rows.set idx (A7 r off us0)))).lay grp y.2).ent g j=some (.deep true t sz' n (rows.set idx (A7 r off us0))):=by rw [a9q hgg];exact he1
  have hyl:y.1.length=m:=by rw [<-hy,c7E,hml]
  have hor':w.ownsRow 0 t sz' (ι' g j) n flat:=by rw [hne g j hgg];exact hor
  have hDD:∀k,S.D k->((S.setE g j (.deep true t sz' n (rows.set idx (A7 r off us0)))).lay grp y.2).D k:=fun k x=>b8u (R2.2 x)
  have hιD:∀g' j',S.D g'->ι' g' j'=ι g' j':=fun g' j' x=>hne g' j' fun q=>hn (q▸x)
  have k2:=kl0 (D':=((S.setE g j (.deep true t sz' n (rows.set idx (A7 r off us0)))).lay grp y.2).D) (ι':=ι') hDD hιD hyl (KL.ofRC hrc);have k1':=kl0 (D':=((S.setE g j (.deep true t sz' n (rows.set idx (A7 r off us0)))).lay grp y.2).D) (ι':=ι') hDD hιD hus0l (hus0▸km.bots.mono (fun _ _ _=>rfl) (fun _ x=>x) hDD hιD (fun _ _=>rfl));have rel3:=rel2.write he2 rfl (e':=.deep true t sz' n (rows.set idx (A7 r off y.1))) ⟨rfl,rfl,rfl⟩ rfl (fun _ _=>rfl)
   (fun _=>⟨flat,_,hor',k2.mono (fun _ _ _=>rfl) (fun _ x=>x) (fun k x=>R2.2 x) (fun _ _ _=>rfl) (fun _ _=>rfl),by simpa using hrn,hrl' _ hyl,by rw [hne g j hgg];simpa using hnd2,fun q=>by cases q⟩)
   (fun q hq=>(EB.deep_iff hor' k1').2 ((EB.deep_iff hor' k2).1 hq))
  obtain ⟨c,hrd',hvc⟩:=a7e hrc hrv;refine ⟨_,c,w,F,ι',a6m ho htf (by rw [hc,hk]) hseg hrd',.inl rfl,?_⟩;have hput:=rel3.put ob.dst (hvc.mono (fun _ _ _=>rfl) (fun _ x=>x) (fun k x=>R2.2 x) (fun _ _ _=>rfl));rw [<-d8C hgg,f2g] at hput;exact hput
def V.plainO:V->Bool
 | .own .. => true
 | v=>v.plain
theorem KL.plainO{w:World}{F D:Nat->Prop}{ι:Nat->Nat->Value}:∀{vs:List V} {cs:List Value} {f:List Nat},KL w F D ι vs cs f->vs.all V.plainO=true->x9 (RC w F D ι) vs cs
 | _,_,_,.nil,_=>.nil
 | _,_,_,.cons v c f vs cs fs h t,hp=>by
  simp only [List.all_cons,f8R] at hp;refine .cons ?_ (KL.plainO t hp.2);have hv:=hp.1;cases h with
  | rc h=>exact h
  | bc _ h=>cases h with
   | fv v c h=>exact .fv _ _ h
   | _=>cases hv
def b2T(cx:Cx)(ty:Nat)(x:V)(r:List V):j8 B6:=
 match cx.T ty with
 | none=>j8.no
 | some ti=>match x with
  | .eptr g j sz idx off=>j8.bind (j8.rd g j) fun e=>match e with
   | .deep _ t sz' n rows=>
    let m:=if ti.agg then ti.size else 1
    if sz'=sz/\off+m<=sz/\((r.drop off).take m).all V.plainO then
     match U0 ti ((r.drop off).take m) with
     | some v=>j8.pure {v:=v,obl:=[rows[idx]?=some r]}
     | none=>j8.no
    else j8.no
   | _=>j8.no
  | _=>j8.no
theorem e4g(h:u6 Γ F ι S a w){grp:Nat}{ob:Oper}{ty:Nat}{x:Operand}{r:List V}(ho:ob.op=.load ty x){out:B6}{lg:List (Nat×Nat)}(hp:b2T cx ty (t6 S.t x) r S.ent=some (out,lg))(hob:∀p∈out.obl,p):U7 cx.P Γ ι S grp ob out a w:=by
 have hx:=E1 h.tmps x;unfold b2T at hp;cases hti:cx.T ty with
 | none=>rw [hti] at hp;cases hp
 | some ti=>
 rw [hti] at hp;obtain ⟨i,d,z,htf⟩:=cx.tf hti;generalize t6 S.t x=xv at hp hx;cases xv<;>try (cases hp;done)
 case eptr g j sz idx off=>
  obtain ⟨hD,b,hι,hc⟩:=hx.inv_eptr;obtain ⟨e,l1,l2,hrd,hp',hl12⟩:=j8.bind_some hp;clear hp;have he:=(j8.rd_some hrd).1;simp only at he;cases e<;>try (cases hp';done)
  rename_i o t sz' n rows;simp only at hp';obtain ⟨m,hm⟩:∃m,(if ti.agg=true then ti.size else 1)=m:=⟨_,rfl⟩
  rw [hm] at hp';split at hp'<;>try (cases hp';done)
  rename_i hcond;obtain ⟨rfl,hc1,hc2⟩:=hcond;cases hrv:U0 ti ((r.drop off).take m) with
  | none=>rw [hrv] at hp';cases hp'
  | some v=>
  rw [hrv] at hp';have:=j8.pure_some hp';injection this with h2 h3;subst h2;have hr:rows[idx]?=some r:=hob _ (by simp);obtain ⟨flat,fs,hor,hkl,hrn,hl,hnd,hnr⟩:=h.ents g j _ he;obtain ⟨hseg,hmid,hle⟩:=c2h hor hrn hl hι hr hc1;obtain ⟨fa,fm,fb,rfl,ka,km,kb⟩:=hkl.cut hle;rw [hmid] at km;obtain ⟨c,hrd',hvc⟩:=a7e (D:=S.D) (ι:=ι) (km.plainO hc2) hrv;exact ⟨_,c,w,F,ι,a6m ho htf hc hseg hrd',.inl rfl,by rw [a7z];exact h.put ob.dst hvc⟩
def b3e(cx:Cx)(grp ty:Nat)(l c:V)(ck om:List (Option Nat)):j8 B6:=
 match cx.T ty with
 | some ti=>match ti.sl with
  | some e=>match cx.T e with
   | some ei=>match l,c with
    | .i _ n,.i _ n'=>j8.bind (a1O ck om ei.zero) fun f=>
     if f.ks.isEmpty/\f.ls.isEmpty then
      j8.pure {v:=.own grp 0 ei.size 0 n.toNat,new:=some [.deep false e ei.size n.toNat (f8O n.toNat f.v)],obl:=[0<=n,n'=n,n*ei.bytes<=140737488355328/\0<ei.bytes,ei.zero.length=ei.size]++f.obl}
     else j8.no
    | _,_=>j8.no
   | none=>j8.no
  | none=>j8.no
 | none=>j8.no
theorem BL.replicate{w:World}{F D:Nat->Prop}{ι:Nat->Nat->Value}{vs:List V}{cs:List Value}(h:KL w F D ι vs cs []):∀n,KL w F D ι (f8O n vs).flatten (f8O n cs).flatten []
 | 0=>.nil
 | n+1=>by
  rw [g0Q,g0Q,f9t,f9t];exact h.app (BL.replicate h n)
theorem f6P(h:u6 Γ F ι S a w){grp:Nat}(hg:grp<S.h.length)(hn:¬S.D grp){ob:Oper}{ty:Nat}{l c:Operand}(ho:ob.op=.makeSlice ty l c){ck om:List (Option Nat)}{out:B6}{lg:List (Nat×Nat)}(hp:b3e cx grp ty (t6 S.t l) (t6 S.t c) ck om S.ent=some (out,lg))(hob:∀p∈out.obl,p):U7 cx.P Γ ι S grp ob out a w:=by
 have hl:=E1 h.tmps l;have hc:=E1 h.tmps c;unfold b3e at hp;cases hti:cx.T ty with
 | none=>rw [hti] at hp;cases hp
 | some ti=>
 rw [hti] at hp;simp only at hp;cases hs:ti.sl with
 | none=>rw [hs] at hp;cases hp
 | some e=>
 rw [hs] at hp;simp only at hp;cases hei:cx.T e with
 | none=>rw [hei] at hp;cases hp
 | some ei=>
 rw [hei] at hp;simp only at hp;generalize t6 S.t l=lv at hp hl;generalize t6 S.t c=cv at hp hc;cases lv<;>try (cases hp;done)
 cases cv<;>try (cases hp;done)
 rename_i k n k' n';simp only at hp;obtain ⟨f,l1,l2,hf,hp',_⟩:=j8.bind_some hp;clear hp;split at hp'<;>try (cases hp';done)
 rename_i hcond;have:=j8.pure_some hp';injection this with h3 h4;subst h3;have p1:0<=n:=hob _ (by simp);have p2:n'=n:=hob _ (by simp);have p3:n*ei.bytes<=140737488355328/\0<ei.bytes:=hob _ (by simp);have p4:ei.zero.length=ei.size:=hob _ (by simp);have p5:∀p∈f.obl,p:=fun p hp=>hob p (f8P.2 (.inr hp))
 subst p2;obtain ⟨m,rfl⟩:=Int.eq_ofNat_of_zero_le p1;obtain ⟨i,d,z,htf⟩:=cx.tf hti;obtain ⟨i',d',z',hef⟩:=cx.tf hei;obtain rfl:=htf.isSl hs;have hzs:z'.cells.size=ei.size:=by rw [<-p4,<-hef.zeros];simp
 have hb1:m*ei.bytes<=140737488355328:=by
  have:=p3.1;rw [<-Int.natCast_mul] at this;omega
 have hb2:m<=140737488355328:=f9A (g0v _ p3.2) hb1;obtain ⟨w',hr,hown,hgr⟩:=run_make_full (P:=cx.P) w 0 ty e i' z' ei.size htf.und hef.info hef.zero hef.size k k' m (by rw [hef.bytes,Nat.mul_comm];omega) (by unfold maxLen;omega) (g0J _);have hrun:(execOp a.eval ob).run cx.P w=.ok (.value (.slice (some ⟨w.heap.size,0,none⟩) m m)) w':=by
  simp [execOp,ho,hl.inv_i,hc.inv_i,hr]
 have hz:x9 (RC w F S.D ι) ei.zero z'.cells.toList:=by
  rw [<-hef.zeros];exact (FL.ofCells (w:=w) (F:=F) _ hef.one).all2.imp fun _ _ x=>.fv _ _ x
 obtain ⟨fp,hbl,hfps,hh⟩:=b32 (F1:=F) h (fun _ x=>x) hz hf p5 (by rw [List.isEmpty_iff.1 hcond.2];intro id hid;cases hid);have hfp:fp=[]:=by
  rw [List.isEmpty_iff.1 hcond.1] at hfps;cases hfps;rfl
 subst hfp;have hs':I4 w w' F:=a1t fun g hg=>hgr.block g (h.F1 g hg) (by simp)
 have hbl':BL w' F f.v z'.cells.toList []:=hbl.mono hs' (fun _ x=>x) (fun k hk=>by cases hk);have hrowl:∀r∈f8O m f.v,r.length=ei.size:=fun r hr=>by
  rw [(f9J.1 hr).2,hbl.len];simpa using hzs
 have hkl:∀{D:Nat->Prop} {ι:Nat->Nat->Value},KL w' F D ι (f8O m f.v).flatten (f8O m z'.cells.toList).flatten []:=BL.replicate hbl'.kl m
 have hown':=hown;rw [<-hzs,b5Z,hzs] at hown';have hor:RE w' F (S.lay grp [.deep false e ei.size m (f8O m f.v)]).D (N0 ι grp (.slice (some ⟨w.heap.size,0,none⟩) m m)) (.deep false e ei.size m (f8O m f.v)) (.slice (some ⟨w.heap.size,0,none⟩) m m):=
  ⟨_,[],hown',hkl,by simp,hrowl,by simp [E3,B7],fun _=>I8.of_flat fun v hv=>by
   obtain ⟨q,hq,hv⟩:=f9Q.1 hv;rw [(f9J.1 hq).2] at hv;exact hbl.noRef v hv⟩
 have hrel:=h.new1 hg hn hgr (ent:=.deep false e ei.size m (f8O m f.v)) (c0:=.slice (some ⟨w.heap.size,0,none⟩) m m) (by
  intro q hq;have:=(EB.deep_iff (D:=fun _=>True) (ι:=fun _ _=>.nilFunc) hown' hkl).1 hq;simp [E3,B7] at this;omega) hor
 refine ⟨_,_,_,F,N0 ι grp (.slice (some ⟨w.heap.size,0,none⟩) m m),hrun,.inl rfl,?_⟩;exact hrel.put ob.dst (.cell (RC.wholeO (a0N hg) Q2 hown'))
end
def a3e:List (List Int×V)->List Int->V->V
 | [],_,z=>z
 | p::es,k,z=>if k==p.1 then p.2 else a3e es k z
def a2f:List (List Int×V)->List Int->V->List (List Int×V)
 | [],k,v=>[(k,v)]
 | p::es,k,v=>if k==p.1 then (p.1,v)::es else p::a2f es k v
def a0r:List (List Int×V)->List Int->Nat->Option (Nat×Value)
 | [],_,_=>none
 | p::es,k,i=>if k==p.1 then some (i,p.2.conc) else a0r es k (i+1)
theorem d35{P:Program}{w:World}{r:Nat}{es:Array MapEntry}{clock:Nat}(o:Obj)(hb:w.heap[r]?=some (.map es clock)):(setObj r o).run P w=.ok () {w with heap:=w.heap.setIfInBounds r o}:=by
 simp [setObj,Sem.run,hb]
theorem d5p{w:World}{r:Nat}{o o':Obj}(hb:w.heap[r]?=some o):(w.heap.setIfInBounds r o')[r]?=some o'/\∀r',r'≠r->(w.heap.setIfInBounds r o')[r']?=w.heap[r']?:=by
 have hlt:=(Array.getElem?_eq_some_iff.1 hb).1;exact ⟨by simp [hlt],fun r' q=>by rw [Array.getElem?_setIfInBounds_ne (Ne.symm q)]⟩
theorem c8T(z:V)(k:List Int):∀(es:List (List Int×V)) (i:Nat),(a3e es k z).conc=match a0r es k i with
  | some (_,v)=>v
  | none=>z.conc
 | [],_=>rfl
 | p::es,i=>by
  unfold a3e a0r;split
  ·rfl
  ·exact c8T z k es (i+1)
theorem RV.simple{w:World}{F D:Nat->Prop}{ι:Nat->Nat->Value}{v:V}{c:Value}(h:RV w F D ι v c)(hv:v.simple=true):c=v.conc:=by
 cases h with
 | one v c h=>
  cases h with
  | cell v c h=>
   cases h with
   | fv v c h=>cases h<;>first|rfl|(cases hv;done)
   | _=>cases hv
  | agg cs ds h=>cases hv
 | tup cs ds h=>cases hv
 | any c=>cases hv
section
variable {P:Program} {kt m:Nat} {w:World}
theorem c1S(hE:∀(xs ys:List Int) (w:World),xs.length=m->ys.length=m->(Op.equal kt (kv xs) (kv ys)).run P w=.ok (xs==ys) w){k:List Int}(hk:k.length=m):∀(es:List (List Int×V)) (l:List MapEntry) (i:Nat),l.map (fun e=>(e.key,e.val))=es.map (fun p=>(kv p.1,p.2.conc))->(∀p∈es,p.1.length=m)->(Instr.findAsking kt (kv k) l i).run P w=.ok (a0r es k i) w
 | [],[],i,_,_=>by simp [Instr.findAsking,a0r]
 | [],_::_,_,h,_=>by cases h
 | _::_,[],_,h,_=>by cases h
 | p::es,e::l,i,h,hl=>by
  simp only [f9z,List.cons.injEq,Prod.mk.injEq] at h;obtain ⟨⟨h1,h2⟩,h3⟩:=h;unfold Instr.findAsking;rw [h1];simp only [Sem.run_bind,hE k p.1 w hk (hl p (by simp)),Result.andThen_ok];unfold a0r;by_cases q:(k==p.1)=true
  ·rw [if_pos q,if_pos q,h2];rfl
  ·rw [if_neg q,if_neg q];exact c1S hE hk es l (i+1) h3 fun p hp=>hl p (by simp [hp])
theorem f6j:∀(n:Nat) (xs:List Int),Instr.sameBits (n+2) (kv xs) (kv xs)=true:=by
 intro n xs;unfold kv Instr.sameBits;simp only [g0T,beq_self_eq_true,f8Y];induction xs with
 | nil=>rfl
 | cons x xs ih=>
  simp only [f9z,List.zip_cons_cons,List.all_cons,f8R];exact ⟨by simp [Instr.sameBits],by simpa using ih⟩
theorem c8u{k:List Int}{j:Nat}{v:Value}:∀{es:List (List Int×V)} {i:Nat},a0r es k i=some (j,v)->i<=j
 | [],_,h=>by cases h
 | p::es,i,h=>by
  unfold a0r at h;split at h
  ·injection h with h;injection h with h;omega
  ·have:=c8u h;omega
theorem d2q{k:List Int}{x:V}{v:Value}:∀{es:List (List Int×V)} {l:List MapEntry} {i j:Nat},l.map (fun e=>(e.key,e.val))=es.map (fun p=>(kv p.1,p.2.conc))->a0r es k i=some (j,v)->
  (∃e,l[j-i]?=some e/\e.key=kv k)/\((l.modify (j-i) fun e=>{e with key:=kv k,val:=x.conc}).map (fun e=>(e.key,e.val))=(a2f es k x).map (fun p=>(kv p.1,p.2.conc)))
 | [],_,_,_,_,h=>by cases h
 | _::_,[],_,_,h,_=>by cases h
 | p::es,e::l,i,j,h,hf=>by
  simp only [f9z,List.cons.injEq,Prod.mk.injEq] at h;obtain ⟨⟨h1,h2⟩,h3⟩:=h;unfold a0r at hf;unfold a2f;split at hf
  ·rename_i q;injection hf with hf;injection hf with hf1 hf2;subst hf1;have:k=p.1:=by simpa using q
   rw [Nat.sub_self,if_pos q];exact ⟨⟨e,rfl,by rw [h1,this]⟩,by simp [List.modify_cons,h3,this]⟩
  ·rename_i q;rw [if_neg q];have hge:=c8u hf;obtain ⟨⟨e',h4,h5⟩,h6⟩:=d2q (x:=x) h3 hf;obtain ⟨d,hd⟩:∃d,j-i=d+1:=⟨j-i-1,by omega⟩
   have hd':j-(i+1)=d:=by omega
   rw [hd'] at h4 h6;rw [hd];refine ⟨⟨e',by simpa using h4,h5⟩,?_⟩;rw [List.modify_succ_cons];simp only [f9z,h1,h2,h6]
theorem c9b{k:List Int}{x:V}:∀{es:List (List Int×V)} {i:Nat},a0r es k i=none->a2f es k x=es++[(k,x)]
 | [],_,_=>rfl
 | p::es,i,h=>by
  unfold a0r at h;unfold a2f;split at h
  ·cases h
  ·rename_i q;rw [if_neg q,c9b h];rfl
theorem d4h{k:List Int}{x:V}{p:List Int×V->Prop}:∀{es:List (List Int×V)},(∀q∈es,p q)->(∀q∈es,p (q.1,x))->p (k,x)->∀q∈a2f es k x,p q
 | [],_,_,h3,q,hq=>by
  simp only [a2f,f8V] at hq;subst hq;exact h3
 | e::es,h1,h2,h3,q,hq=>by
  unfold a2f at hq;split at hq
  ·rcases f8X.1 hq with rfl|hq
   ·exact h2 e (by simp)
   ·exact h1 q (by simp [hq])
  ·rcases f8X.1 hq with rfl|hq
   ·exact h1 _ (by simp)
   ·exact d4h (fun q hq=>h1 q (by simp [hq])) (fun q hq=>h2 q (by simp [hq])) h3 q hq
end
theorem f8o{P:Program}{w:World}{em:Bool}{n kt:Nat}{fs:Array Field}{xs:Array Value}(hu:P.underlying kt=some (.struct fs))(h:∀f∈fs.toList,∃a,(part f.type xs f.offset).run P w=.ok a w/\(Instr.checkKey em n f.type a).run P w=.ok () w):(Instr.checkKey em (n+1) kt (.agg xs)).run P w=.ok () w:=by
 rw [Instr.checkKey];simp only [Sem.run_bind,run_underlying hu,Result.andThen_ok];rw [<-Array.forIn_toList];generalize fs.toList=l at h;induction l with
 | nil=>rfl
 | cons f l ih=>
  obtain ⟨a,h1,h2⟩:=h f (by simp);have ih':=ih fun f hf=>h f (by simp [hf])
  simp only [List.forIn_cons,Sem.run_bind];by_cases q:f.name = "_"
  ·simp [q];simpa using ih'
  ·simp [q,Sem.run_bind,h1,h2];simpa using ih'
theorem d7e{P:Program}{w:World}{em:Bool}{n t:Nat}{k j:IntKind}{x:Int}(hu:P.underlying t=some (.int k)):(Instr.checkKey em (n+1) t (.int j x)).run P w=.ok () w:=by
 rw [Instr.checkKey];simp [Sem.run_bind,run_underlying hu]
section
variable {cx:Cx} {Γ:O7} {F:Nat->Prop} {ι:Nat->Nat->Value} {S S':St} {a:Act} {w:World}
theorem RV.inv_mp{D:Nat->Prop}{g j:Nat}{c:Value}(h:RV w F D ι (.mp g j) c):D g/\∃b,ι g j=.map (some b)/\c=.map (some b):=by
 cases h with
 | one v c h=>cases h with
  | cell v c h=>cases h with
   | fv v c h=>cases h
   | mp g j b h1 h2=>exact ⟨h1,b,h2,rfl⟩
def c5m(cx:Cx)(grp ty:Nat):Option B6:=
 match cx.M ty with
 | some (_,m,_)=>some {v:=.mp grp 0,new:=some [.map ty m []]}
 | none=>none
theorem f7M(h:u6 Γ F ι S a w){grp:Nat}(hg:grp<S.h.length)(hn:¬S.D grp){ob:Oper}{ty:Nat}(ho:ob.op=.makeMap ty none){out:B6}(hp:c5m cx grp ty=some out):U7 cx.P Γ ι S grp ob out a w:=by
 unfold c5m at hp;split at hp<;>try (cases hp;done)
 injection hp with hp;subst hp;rename_i kt m z hM;have hrun:(execOp a.eval ob).run cx.P w=.ok (.value (.map (some w.heap.size))) (w.alloc (.map #[] 0)):=by
  simp only [execOp,ho,Option.map_none];rfl
 have hrel:=h.new1 hg hn (a4H w (.map #[] 0)) (ent:=.map ty m []) (c0:=.map (some w.heap.size))
  (by intro k hk;simp [EB,B7] at hk;omega) ⟨w.heap.size,#[],0,rfl,a9m w _,rfl,fun p hp=>by cases hp⟩
 refine ⟨_,_,_,F,N0 ι grp (.map (some w.heap.size)),hrun,.inl rfl,?_⟩;exact hrel.put ob.dst (.cell (.mp grp 0 w.heap.size (a0N hg) Q2))
def b3j(cx:Cx)(ty:Nat)(x ix:V):j8 B6:=
 match cx.M ty with
 | none=>j8.no
 | some (kt,m,z)=>match x,ix with
  | .mp g j,.agg ks=>match a2s ks with
   | some xs=>j8.bind (j8.rd g j) fun e=>match e with
    | .map t' m' es=>if m'=m/\xs.length=m then j8.pure {v:=a3e es xs z} else j8.no
    | _=>j8.no
   | none=>j8.no
  | _,_=>j8.no
theorem d8o{xs:List Int}{z:V}(hz:z.simple=true):∀{es:List (List Int×V)},(∀p∈es,p.2.simple=true)->(a3e es xs z).simple=true
 | [],_=>hz
 | p::es,h=>by
  unfold a3e;split
  ·exact h p (by simp)
  ·exact d8o hz fun p hp=>h p (by simp [hp])
theorem e5m(h:u6 Γ F ι S a w){grp:Nat}{ob:Oper}{ty:Nat}{x ix:Operand}(ho:ob.op=.lookup ty x ix false){out:B6}{lg:List (Nat×Nat)}(hp:b3j cx ty (t6 S.t x) (t6 S.t ix) S.ent=some (out,lg)):U7 cx.P Γ ι S grp ob out a w:=by
 have hx:=E1 h.tmps x;have hi:=E1 h.tmps ix;unfold b3j at hp;cases hM:cx.M ty with
 | none=>rw [hM] at hp;cases hp
 | some q=>
 obtain ⟨kt,m,z⟩:=q;rw [hM] at hp;simp only at hp;generalize t6 S.t x=xv at hp hx;generalize t6 S.t ix=iv at hp hi;cases xv<;>try (cases hp;done)
 cases iv<;>try (cases hp;done)
 rename_i g j ks;simp only at hp;cases hks:a2s ks with
 | none=>rw [hks] at hp;cases hp
 | some xs=>
 rw [hks] at hp;obtain ⟨e,l1,l2,hrd,hp',hl12⟩:=j8.bind_some hp;clear hp;have he:=(j8.rd_some hrd).1;simp only at he hp';cases e<;>try (cases hp';done)
 rename_i t' m' es;simp only at hp';split at hp'<;>try (cases hp';done)
 rename_i hcond;obtain ⟨rfl,hlen⟩:=hcond;have:=j8.pure_some hp';injection this with h2 h3;subst h2;obtain ⟨hD,b,hι,hc⟩:=hx.inv_mp;obtain ⟨ds,hds,hall⟩:=hi.inv_agg;have hints:=b5M hall hks;subst hints;obtain ⟨b',arr,clock,hb,hheap,hes,hok⟩:=h.ents g j _ he;rw [hι] at hb;injection hb with hb;injection hb with hb;subst hb;obtain ⟨vt,hu,hE,hwide,hz,hzs,hck⟩:=cx.hM ty kt m' z hM;have hck':∀em,(Instr.checkKey em 10000 kt (kv xs)).run cx.P w=.ok () w:=fun em=>hck em xs w hlen
 have hfind:(Instr.findKey kt (kv xs) arr.toList).run cx.P w=.ok (a0r es xs 0) w:=by
  rw [run_findKey_eq w (by unfold b7P at hwide;exact hwide)];exact c1S (fun xs ys w h1 h2=>cx.hE kt m' hE xs ys w h1 h2) hlen es arr.toList 0 hes fun p hp=>(hok p hp).1
 have hrun:(execOp a.eval ob).run cx.P w=.ok (.value (a3e es xs z).conc) w:=by
  rw [c8T z xs es 0];simp only [execOp,ho,hc,hds,Instr.lookup,Sem.run_bind,run_underlying hu,Result.andThen_ok,run_getObj_map w b arr clock hheap];rw [show (Value.agg (xs.map (Value.int .i64)).toArray)=kv xs from rfl];simp only [Sem.run_pure,Sem.run_bind,hck',Result.andThen_ok,hfind];cases a0r es xs 0 with
  | none=>simp [hz,Sem.run_bind]
  | some q=>simp
 have hs:=d8o (xs:=xs) hzs fun p hp=>(hok p hp).2
 refine ⟨_,_,w,F,ι,hrun,.inl rfl,?_⟩;rw [a7z];exact h.put ob.dst (.fv (FV.conc hs))
def b3n(cx:Cx)(ty:Nat)(x ix y:V):j8 B6:=
 match cx.M ty with
 | none=>j8.no
 | some (kt,m,z)=>match x,ix with
  | .mp g j,.agg ks=>match a2s ks with
   | some xs=>j8.bind (j8.rd g j) fun e=>match e with
    | .map t' m' es=>if m'=m/\xs.length=m/\y.simple=true then j8.pure {v:=.bot,upd:=[((g,j),.map t' m (a2f es xs y))]} else j8.no
    | _=>j8.no
   | none=>j8.no
  | _,_=>j8.no
theorem f7o(h:u6 Γ F ι S a w){grp:Nat}{ob:Oper}{ty:Nat}{x ix y:Operand}(ho:ob.op=.mapUpdate ty x ix y)(hd:ob.dst=none){out:B6}{lg:List (Nat×Nat)}(hp:b3n cx ty (t6 S.t x) (t6 S.t ix) (t6 S.t y) S.ent=some (out,lg)):U7 cx.P Γ ι S grp ob out a w:=by
 have hx:=E1 h.tmps x;have hi:=E1 h.tmps ix;have hy:=E1 h.tmps y;unfold b3n at hp;cases hM:cx.M ty with
 | none=>rw [hM] at hp;cases hp
 | some q=>
 obtain ⟨kt,m,z⟩:=q;rw [hM] at hp;simp only at hp;generalize t6 S.t x=xv at hp hx;generalize t6 S.t ix=iv at hp hi;generalize t6 S.t y=yv at hp hy;cases xv<;>try (cases hp;done)
 cases iv<;>try (cases hp;done)
 rename_i g j ks;simp only at hp;cases hks:a2s ks with
 | none=>rw [hks] at hp;cases hp
 | some xs=>
 rw [hks] at hp;obtain ⟨e,l1,l2,hrd,hp',hl12⟩:=j8.bind_some hp;clear hp;have he:=(j8.rd_some hrd).1;simp only at he hp';cases e<;>try (cases hp';done)
 rename_i t' m' es;simp only at hp';split at hp'<;>try (cases hp';done)
 rename_i hcond;obtain ⟨rfl,hlen,hys⟩:=hcond;have:=j8.pure_some hp';injection this with h2 h3;subst h2;obtain ⟨hD,b,hι,hc⟩:=hx.inv_mp;obtain ⟨ds,hds,hall⟩:=hi.inv_agg;have hints:=b5M hall hks;subst hints;have hyc:=hy.simple hys;obtain ⟨b',arr,clock,hb,hheap,hes,hok⟩:=h.ents g j _ he;rw [hι] at hb;injection hb with hb;injection hb with hb;subst hb;obtain ⟨vt,hu,hE,hwide,hz,hzs,hck⟩:=cx.hM ty kt m' z hM;have hck':∀em,(Instr.checkKey em 10000 kt (kv xs)).run cx.P w=.ok () w:=fun em=>hck em xs w hlen
 have hfind:(Instr.findKey kt (kv xs) arr.toList).run cx.P w=.ok (a0r es xs 0) w:=by
  rw [run_findKey_eq w (by unfold b7P at hwide;exact hwide)];exact c1S (fun xs ys w h1 h2=>cx.hE kt m' hE xs ys w h1 h2) hlen es arr.toList 0 hes fun p hp=>(hok p hp).1
 have hlt:b<w.heap.size:=(Array.getElem?_eq_some_iff.1 hheap).1;obtain ⟨arr',clock',hrun,hes'⟩:∃arr' clock',(execOp a.eval ob).run cx.P w=.ok .skip {w with heap:=w.heap.setIfInBounds b (.map arr' clock')}/\arr'.toList.map (fun e=>(e.key,e.val))=(a2f es xs yv).map (fun p=>(kv p.1,p.2.conc)):=by
  have e0:(Value.agg (xs.map (Value.int .i64)).toArray)=kv xs:=rfl;cases hf:a0r es xs 0 with
  | none=>
   refine ⟨arr.push {key:=kv xs,val:=yv.conc,born:=clock},clock+1,?_,?_⟩
   ·simp only [execOp,ho,hc,hds,hyc,Instr.mapUpdate,Sem.run_bind,run_underlying hu,Result.andThen_ok,run_getObj_map w b arr clock hheap];rw [e0];simp only [Sem.run_pure,Sem.run_bind,hck',Result.andThen_ok,hfind,hf,d35 _ hheap]
   ·rw [c9b hf];simp [hes]
  | some q=>
   obtain ⟨i,v⟩:=q;obtain ⟨⟨e,he1,he2⟩,he3⟩:=d2q (x:=yv) hes hf;rw [Nat.sub_zero] at he1 he3;have hkey:((arr[i]?).map (·.key)).getD (kv xs)=kv xs:=by
    have:arr[i]?=some e:=by simpa using he1
    rw [this];exact he2
   refine ⟨arr.modify i fun e=>{e with key:=kv xs,val:=yv.conc},clock,?_,?_⟩
   ·simp only [execOp,ho,hc,hds,hyc,Instr.mapUpdate,Sem.run_bind,run_underlying hu,Result.andThen_ok,run_getObj_map w b arr clock hheap];rw [e0];simp only [Sem.run_pure,Sem.run_bind,hck',Result.andThen_ok,hfind,hf,hkey,Instr.keyThatStays,f6j 9998,if_true,d35 _ hheap]
   ·rw [Array.toList_modify];exact he3
 refine ⟨_,undef,_,F,ι,hrun,.inr ⟨rfl,rfl⟩,?_⟩;rw [hd,b3H,b5p];have hsz:(w.heap.setIfInBounds b (.map arr' clock')).size=w.heap.size:=by simp
 refine h.write he rfl ⟨rfl,rfl,rfl⟩ hsz (fun k hk => ?_) (fun _ => ?_) (fun k hk=>hk)
 ·refine (d5p hheap).2 k fun q=>hk ?_
  rw [q,hι];rfl
 ·exact ⟨b,arr',clock',hι,(d5p hheap).1,hes',d4h hok (fun q hq=>⟨(hok q hq).1,hys⟩) ⟨hlen,hys⟩⟩
end
theorem c7a{α:Type}(key:α->List Int)(k:List Int):∀l:List α,a3e (l.map fun x=>(key x,.b true)) k (.b false)=.b (l.any fun x=>k==key x)
 | []=>rfl
 | x::l=>by
  simp only [f9z,a3e,g05];by_cases q:(k==key x)=true
  ·simp [q]
  ·simp only [q,if_false,f9B,c7a key k l];rfl
def a8H{α:Type}(key:α->List Int)(l:List α)(y:α):List α:=if l.any (fun x=>key y==key x) then l else l++[y]
theorem d1y{α:Type}(key:α->List Int)(y:α):∀l:List α,a2f (l.map fun x=>(key x,.b true)) (key y) (.b true)=(a8H key l y).map fun x=>(key x,.b true)
 | []=>rfl
 | x::l=>by
  have ih:=d1y key y l;unfold a8H at ih⊢;simp only [f9z,a2f,g05];by_cases q:(key y==key x)=true
  ·simp [q]
  ·have q':(key y==key x)=false:=by simpa using q
   simp only [q',f9B];rw [if_neg (by simp),ih];by_cases c:(l.any fun x=>key y==key x)=true
   ·rw [if_pos c,if_pos c];rfl
   ·rw [if_neg c,if_neg c];rfl
section
variable {cx:Cx} {Γ:O7} {F:Nat->Prop} {ι:Nat->Nat->Value} {S S':St} {a:Act} {w:World}
theorem u6.killsR:∀{ks:List (Nat×Nat)} {S:St},u6 Γ F ι S a w->(∀id∈ks,∃e,S.ent id.1 id.2=some e)->u6 Γ F ι (S.upds (G5 ks)) a w
 | [],S,h,_=>h
 | id::ks,S,h,hk=>by
  obtain ⟨e,he⟩:=hk id (by simp);refine u6.killsR (S:=S.setE id.1 id.2 .dead) (h.kill he) fun id' hid => ?_
  obtain ⟨e',he'⟩:=hk id' (by simp [hid]);rw [Q5 he];split
  ·exact ⟨_,rfl⟩
  ·exact ⟨e',he'⟩
theorem I8.flatB{rows:List (List V)}(h:I8 rows):rows.flatten.all (fun v => !v.isRef)=true:=by
 rw [f8S];intro v hv;obtain ⟨r,hr,hv⟩:=f9Q.1 hv;rw [h r hr v hv];rfl
theorem u6.layDeep(h:u6 Γ F ι S a w){grp:Nat}(hgl:grp<S.h.length)(hn:¬S.D grp){X:Option Nat}{w':World}(hgr:w.grownBy w' X)(hX:∀k,X=some k->¬F k/\(Γ.own k\/Γ.w0.heap.size<=k)/\∀g j e,S.ent g j=some e->e.live=true->¬EB w e (ι g j) k){e sz n:Nat}{rows:List (List V)}{sv:Value}{flat:List Value}{fs:List Nat}(hown:w'.ownsRow 0 e sz sv n flat)(hbl:BL w F rows.flatten flat fs)(hlen:rows.length=n)(hl:∀r∈rows,r.length=sz)(hsv:∀k,B7 sv=some k->X=some k\/w.heap.size<=k)(hfs:∀k∈fs,¬F k/\(Γ.own k\/Γ.w0.heap.size<=k)/\(∀g j e,S.ent g j=some e->e.live=true->¬EB w e (ι g j) k)/\X≠some k)(hnd:fs.Nodup) :
  u6 Γ F (N0 ι grp sv) (S.lay grp [.deep false e sz n rows]) a w'/\RC w' F (S.lay grp [.deep false e sz n rows]).D (N0 ι grp sv) (.own grp 0 sz 0 n) sv:=by
 have hs:I4 w w' F:=a1t fun g hF=>hgr.block g (h.F1 g hF) fun q=>(hX g q.symm).1 hF
 have hlt:=hbl.lt;have hbl':BL w' F rows.flatten flat fs:=hbl.mono hs (fun _ x=>x) fun k hk=>hgr.block k (hlt k hk) fun q=>(hfs k hk).2.2.2 q.symm
 have hkl:∀{D:Nat->Prop} {ι:Nat->Nat->Value},KL w' F D ι rows.flatten flat fs:=hbl'.kl
 have hEB:∀k,EB w' (.deep false e sz n rows) sv k->(X=some k\/w.heap.size<=k)\/k∈fs:=by
  intro k hk;rcases f8P.1 ((EB.deep_iff (D:=fun _=>True) (ι:=fun _ _=>.nilFunc) hown hkl).1 hk) with q|q
  ·exact .inl (hsv k (R7.1 q))
  ·exact .inr q
 have h':=h.world2 hgr hX;have hback:∀{g' j' e' k},S.ent g' j'=some e'->e'.live=true->EB w' e' (ι g' j') k->EB w e' (ι g' j') k:=fun he' hl' hk'=>
  (h.ents _ _ _ he').back (fun k q=>hgr.block k (h.lt he' hl' q) fun z=>(hX k z.symm).2.2 _ _ _ he' hl' q) hk'
 refine ⟨h'.lay hgl hn (fun g j q=>a9S q) ?_ ?_ ?_ ?_,RC.wholeO (a0N hgl) Q2 hown⟩
 ·intro j e1 he;cases j with
  | succ j=>simp at he
  | zero=>
   simp at he;subst he;rw [Q2];refine ⟨flat,fs,hown,hkl,hlen,hl,f8Z.2 ⟨c5f sv,hnd,?_⟩,fun _=>I8.of_flat hbl.noRef⟩;intro k hk k' hk' hkk;subst hkk;rcases hsv k (R7.1 hk) with q|q
   ·exact (hfs k hk').2.2.2 q
   ·have:=hlt k hk';omega
 ·intro j e1 k he hl1 hk;rw [Q2] at hk;cases j with
  | succ j=>simp at he
  | zero=>
   simp at he;subst he;rcases hEB k hk with (q|q)|q
   ·exact ⟨(hX k q).1,(hX k q).2.1⟩
   ·refine ⟨fun hF => ?_,.inr (f9A h.kept.size q)⟩;have:=h.F1 k hF;omega
   ·exact ⟨(hfs k q).1,(hfs k q).2.1⟩
 ·intro j e1 j' e1' k he he' _ _ _ _;cases j<;>cases j'<;>simp_all
 ·intro j e1 g' j' e' k he he' _ hl' hk hk';rw [Q2] at hk;cases j with
  | succ j=>simp at he
  | zero=>
   simp at he;subst he;have hk2:=hback he' hl' hk';rcases hEB k hk with (q|q)|q
   ·exact (hX k q).2.2 g' j' e' he' hl' hk2
   ·have:=h.lt he' hl' hk2;omega
   ·exact (hfs k q).2.2.1 g' j' e' he' hl' hk2
def b0F:V->V
 | .osl .. | .dsl .. => .bot
 | v=>v
theorem KL.holes:∀{vs:List V} {cs:List Value} {f:List Nat} {D:Nat->Prop} {ι:Nat->Nat->Value},KL w F D ι vs cs f->vs.all (fun v => !v.isRef)=true->KL w F D ι (vs.map b0F) cs []
 | _,_,_,_,_,.nil,_=>.nil
 | _,_,_,D,ι,.cons v c f vs cs fs h t,hv=>by
  simp only [List.all_cons,f8R] at hv;have h1:KC w F D ι (b0F v) c []:=by
   have hone:=h.one;cases h with
   | rc h=>
    have:b0F v=v:=by
     cases h with
     | fv v c h=>cases h<;>rfl
     | _=>rfl
    rw [this];exact .rc _ _ h
   | bc _ h=>cases h with
    | fv _ _ h=>
     have:b0F v=v:=by cases h<;>rfl
     rw [this];exact .rc _ _ (.fv _ _ h)
    | _=>exact .rc _ _ (.fv _ _ (.bot _ hone))
  exact .cons _ _ [] _ _ [] h1 (KL.holes t hv.2)
def b10(cx:Cx)(grp ty:Nat)(x:V)(r:List V):j8 B6:=
 match cx.T ty with
 | none=>j8.no
 | some ti=>match x with
  | .eptr g j sz idx off=>j8.bind (j8.rd g j) fun e=>match e with
   | .deep _ t sz' n rows=>
    let m:=if ti.agg then ti.size else 1
    let y:=L5 grp 0 ((r.drop off).take m);if sz'=sz/\off+m<=sz/\((r.drop off).take m).all (fun v => !v.isRef) then
     match U0 ti y.1 with
     | some v=>j8.pure {v:=v,new:=some y.2,upd:=[((g,j),.deep true t sz n (rows.set idx (A7 r off (((r.drop off).take m).map b0F))))],obl:=[rows[idx]?=some r]}
     | none=>j8.no
    else j8.no
   | _=>j8.no
  | _=>j8.no
set_option maxHeartbeats 800000 in
theorem f3K(h:u6 Γ F ι S a w){grp:Nat}(hg:grp<S.h.length)(hn:¬S.D grp){ob:Oper}{ty:Nat}{x:Operand}{r:List V}(ho:ob.op=.load ty x){out:B6}{lg:List (Nat×Nat)}(hp:b10 cx grp ty (t6 S.t x) r S.ent=some (out,lg))(hob:∀p∈out.obl,p):U7 cx.P Γ ι S grp ob out a w:=by
 have hx:=E1 h.tmps x;unfold b10 at hp;cases hti:cx.T ty with
 | none=>rw [hti] at hp;cases hp
 | some ti=>
 rw [hti] at hp;obtain ⟨i,d,z,htf⟩:=cx.tf hti;generalize t6 S.t x=xv at hp hx;cases xv<;>try (cases hp;done)
 case eptr g j sz idx off=>
  obtain ⟨hD,b,hι,hc⟩:=hx.inv_eptr;obtain ⟨e,l1,l2,hrd,hp',hl12⟩:=j8.bind_some hp;clear hp;have he:=(j8.rd_some hrd).1;simp only at he;cases e<;>try (cases hp';done)
  rename_i o t sz' n rows;simp only at hp';obtain ⟨m,hm⟩:∃m,(if ti.agg=true then ti.size else 1)=m:=⟨_,rfl⟩
  rw [hm] at hp';split at hp'<;>try (cases hp';done)
  rename_i hcond;obtain ⟨rfl,hc1,hc2⟩:=hcond;obtain ⟨y,hy⟩:∃y,L5 grp 0 ((r.drop off).take m)=y:=⟨_,rfl⟩
  rw [hy] at hp';cases hrv:U0 ti y.1 with
  | none=>rw [hrv] at hp';cases hp'
  | some v=>
  rw [hrv] at hp';have:=j8.pure_some hp';injection this with h2 h3;subst h2;have hr:rows[idx]?=some r:=hob _ (by simp);obtain ⟨flat,fs,hor,hkl,hrn,hl,hnd,hnr⟩:=h.ents g j _ he;obtain ⟨hseg,hmid,hle⟩:=c2h hor hrn hl hι hr hc1;have hrl:=hl r (f9c hr);have hml:((r.drop off).take m).length=m:=by simp;omega
  have hgg:g≠grp:=fun q=>hn (q▸hD)
  obtain ⟨k,hk⟩:∃k,idx*sz'+off=k:=⟨_,rfl⟩
  rw [hk] at hseg hmid hle;obtain ⟨fa,fm,fb,rfl,ka,km,kb⟩:=hkl.cut (k:=k) (m:=m) hle;rw [hmid] at km;have hbl:=km.toBL hc2;have hds:(flat.drop k).take m=((flat.drop k).take m):=rfl;have hflen:flat.length=rows.flatten.length:=hkl.len.symm;have hspl:∀us:List V,us.length=m->(rows.set idx (A7 r off us)).flatten=rows.flatten.take k++(us++rows.flatten.drop (k+m)):=by
   intro us hus;rw [a7Z hl hr (by omega),hk];unfold A7;rw [hus,f9i]
  have hfs:flat=flat.take k++((flat.drop k).take m++flat.drop (k+m)):=by
   rw [<-g0L,f9O,f9O]
  have hrl':∀us:List V,us.length=m->∀q∈rows.set idx (A7 r off us),q.length=sz':=by
   intro us hus q hq;rcases f9y hq with hq|rfl
   ·exact hl q hq
   ·rw [a3C _ _ _ (by omega)];exact hrl
  have hnd2:(E3 (ι g j)++(fa++fb)).Nodup:=List.Nodup.sublist (g0X.append_left (g0X.append_left (g0D _ _) _) _) hnd;have hndm:fm.Nodup:=(f8Z.1 (f8Z.1 (f8Z.1 hnd).2.1).2.1).1;have hdm:∀k∈fm,k ∉ E3 (ι g j)++(fa++fb):=by
   intro q hq hq';have hp:=(a8k (C:=E3 (ι g j)) (a8k (C:=fa) (g0K.refl (fm++fb)))).nodup_iff.1 hnd;exact (f8Z.1 hp).2.2 q hq q hq' rfl
  obtain ⟨us0,hus0⟩:∃us:List V,us=((r.drop off).take m).map b0F:=⟨_,rfl⟩
  have hus0l:us0.length=m:=by rw [hus0,f9I,hml]
  have kl0:∀{D':Nat->Prop} {ι':Nat->Nat->Value},(∀k,S.D k->D' k)->(∀g j,S.D g->ι' g j=ι g j)->∀{us:List V},us.length=m->KL w F D' ι' us ((flat.drop k).take m) []->KL w F D' ι' (rows.set idx (A7 r off us)).flatten flat (fa++([]++fb)):=by
   intro D' ι' h1 h2 us hus hku;rw [hspl us hus,hfs];have l1:(flat.take k).length=k:=by simp;omega
   have e1:(flat.take k++((flat.drop k).take m++flat.drop (k+m)))=flat:=hfs.symm;exact (ka.mono (fun _ _ _=>rfl) (fun _ x=>x) h1 h2 (fun _ _=>rfl)).app (hku.app (kb.mono (fun _ _ _=>rfl) (fun _ x=>x) h1 h2 (fun _ _=>rfl)))
  have hmem0:∀q,q∈E3 (ι g j)++(fa++([]++fb))->q∈E3 (ι g j)++(fa++(fm++fb)):=by
   intro q hq;simp only [f8P,g01,false_or] at hq⊢;rcases hq with x|x|x<;>simp [x]
  have rel1:u6 Γ F ι (S.setE g j (.deep true t sz' n (rows.set idx (A7 r off us0)))) a w:=by
   have k1:=kl0 (D':=S.D) (ι':=ι) (fun _ x=>x) (fun _ _ _=>rfl) hus0l (hus0▸km.holes hc2);refine h.write he rfl ⟨rfl,rfl,rfl⟩ rfl (fun _ _=>rfl) (fun _ => ?_) ?_
   ·exact ⟨flat,_,hor,k1.mono (fun _ _ _=>rfl) (fun _ x=>x) (fun k x=>R2.2 x) (fun _ _ _=>rfl) (fun _ _=>rfl),by simpa using hrn,hrl' _ hus0l,by simpa using hnd2,fun q=>by cases q⟩
   ·intro q hq;exact (EB.deep_iff hor hkl).2 (hmem0 q ((EB.deep_iff hor k1).1 hq))
  have he1:(S.setE g j (.deep true t sz' n (rows.set idx (A7 r off us0)))).ent g j=some (.deep true t sz' n (rows.set idx (A7 r off us0))):=by rw [Q5 he];simp
  obtain ⟨bs,hbsl,hhas,hth⟩:=a8l (grp:=grp) hbl 0;rw [hy] at hbsl hhas hth;obtain ⟨ι',hι'⟩:∃ι',ι'=a4F ι grp bs:=⟨_,rfl⟩
  have hne:∀g j,g≠grp->ι' g j=ι g j:=fun g j q=>by rw [hι'];exact c7e q
  have hlenS:grp<(S.setE g j (.deep true t sz' n (rows.set idx (A7 r off us0)))).h.length:=by rw [b0u];exact hg
  have hnD:¬(S.setE g j (.deep true t sz' n (rows.set idx (A7 r off us0)))).D grp:=fun q=>hn (R2.1 q)
  have hDg:=a0N (S:=S.setE g j (.deep true t sz' n (rows.set idx (A7 r off us0)))) (new:=y.2) hlenS;obtain ⟨hrc,hlie⟩:=hth ((S.setE g j (.deep true t sz' n (rows.set idx (A7 r off us0)))).lay grp y.2).D ι' hDg (fun q c hq=>by rw [hι',f9W];exact a44 hq) hndm;have hvb:∀(q:Nat) (e:s9),y.2[q]?=some e->bs[q]?=some (ι' grp q):=by
   intro q e hq;have hlt:q<bs.length:=by rw [hbsl];exact (f8U.1 hq).1
   have hv:ι' grp q=bs[q]:=by rw [hι'];exact a44 (f8N hlt)
   rw [hv];exact f8N hlt
  have hmB:∀k∈fm,EB w (.deep o t sz' n rows) (ι g j) k:=fun k hk=>(EB.deep_iff hor hkl).2 (by simp [hk])
  have k1:=kl0 (D':=S.D) (ι':=ι) (fun _ x=>x) (fun _ _ _=>rfl) hus0l (hus0▸km.holes hc2);have rel2:=rel1.lay hlenS hnD (new:=y.2) (ι':=ι') hne (fun q e he=>hlie q e _ he (hvb q e he))
   (fun q e k he hl hk=>h.sep _ _ _ k ‹S.ent g j=some (.deep o t sz' n rows)› rfl (hmB k (hhas.mem he (hvb q e he) hk)))
   (fun q e q' e' k he he' hl hl' hk hk'=>hhas.inj hndm he (hvb q e he) hk he' (hvb q' e' he') hk')
   (fun q e g' j' e' k he0 he' hl hl' hk hk'=>by
    have hkm:=hhas.mem he0 (hvb q e he0) hk;rw [Q5 he] at he';split at he'
    ·rename_i qq;obtain ⟨rfl,rfl⟩:=qq;injection he' with he';subst he';exact hdm k hkm (by simpa using (EB.deep_iff hor k1).1 hk')
    ·rename_i qq;exact qq (h.inj _ _ _ _ _ _ k he' he hl' rfl hk' (hmB k hkm)))
  have he2:((S.setE g j (.deep true t sz' n (rows.set idx (A7 r off us0)))).lay grp y.2).ent g j=some (.deep true t sz' n (rows.set idx (A7 r off us0))):=by rw [a9q hgg];exact he1
  obtain ⟨c,hrd',hvc⟩:=a7e hrc hrv;refine ⟨_,c,w,F,ι',a6m ho htf (by rw [hc,hk]) hseg hrd',.inl rfl,?_⟩;have hput:=rel2.put ob.dst hvc;rw [hus0] at hput;exact hput
theorem u6.shut(h:u6 Γ F ι S a w){g j t sz n:Nat}{o:Bool}{rows:List (List V)}(he:S.ent g j=some (.deep o t sz n rows))(hn:I8 rows):u6 Γ F ι (S.setE g j (.deep false t sz n rows)) a w:=by
 refine h.write he rfl ⟨rfl,rfl,rfl⟩ rfl (fun _ _=>rfl) (fun _ => ?_) (fun k hk=>hk);obtain ⟨flat,fs,q1,q2,q3,q4,q5,q6⟩:=h.ents g j _ he;exact ⟨flat,fs,q1,q2.mono (fun _ _ _=>rfl) (fun _ x=>x) (fun k x=>R2.2 x) (fun _ _ _=>rfl) (fun _ _=>rfl),q3,q4,q5,fun _=>hn⟩
theorem c1t{g j:Nat}:∀{us:List O9} {S:St} {e:s9},S.ent g j=some e->∃e',(S.upds us).ent g j=some e'
 | [],_,e,h=>⟨e,h⟩
 | ((g',j'),e')::us,S,e,h=>by
  cases hx:S.ent g' j' with
  | none=>
   have:(S.setE g' j' e').ent g j=some e:=by
    by_cases q:g=g'/\j=j'
    ·rw [q.1,q.2,hx] at h;cases h
    ·rw [a6i q];exact h
   exact c1t (us:=us) (S:=S.setE g' j' e') this
  | some e0=>
   have:∃e1,(S.setE g' j' e').ent g j=some e1:=by
    rw [Q5 hx];split
    ·exact ⟨_,rfl⟩
    ·exact ⟨e,h⟩
   obtain ⟨e1,h1⟩:=this;exact c1t (us:=us) (S:=S.setE g' j' e') h1
def b2g(cx:Cx)(ty:Nat)(x y:V)(r:List V)(ck om:List (Option Nat)):j8 B6:=
 j8.bind (a95 cx ty x y r ck om) fun o=>match o.new,o.upd.reverse with
  | none,((g,j),.deep b t sz n rows)::us=>j8.bind (j8.rd g j) fun _=>j8.pure {v:=o.v,upd:=o.upd++[((g,j),.deep false t sz n rows)],obl:=I8 rows::o.obl}
  | _,_=>j8.no
theorem e6T{S:St}{g j:Nat}{e:s9}{t:List V}:({S with t:=t}:St).setE g j e={S.setE g j e with t:=t}:=by
 unfold St.setE;cases S.h[g]? with
 | none=>rfl
 | some o=>cases o<;>rfl
theorem e5b(h:u6 Γ F ι S a w){grp:Nat}{ob:Oper}{ty:Nat}{x y:Operand}{r:List V}{ck om:List (Option Nat)}(ho:ob.op=.store ty x y)(hd:ob.dst=none){out:B6}{lg:List (Nat×Nat)}(hp:b2g cx ty (t6 S.t x) (t6 S.t y) r ck om S.ent=some (out,lg))(hob:∀p∈out.obl,p):U7 cx.P Γ ι S grp ob out a w:=by
 unfold b2g at hp;obtain ⟨o,l1,l2,hd1,hp',_⟩:=j8.bind_some hp;clear hp;simp only at hp';cases hnew:o.new with
 | some _=>rw [hnew] at hp';cases hp'
 | none=>
 rw [hnew] at hp';cases hrev:o.upd.reverse with
 | nil=>rw [hrev] at hp';cases hp'
 | cons u us=>
 rw [hrev] at hp';obtain ⟨⟨g,j⟩,e⟩:=u;cases e<;>try (cases hp';done)
 rename_i b t sz n rows;simp only at hp';obtain ⟨e0,l3,l4,hrd,hp'',_⟩:=j8.bind_some hp';have he0:=(j8.rd_some hrd).1;simp only at he0;have:=j8.pure_some hp'';injection this with h2 h3;subst h2;have hnr:I8 rows:=hob _ (by simp);obtain ⟨nx,c,w',F',ι',hrun,hnx,hrel⟩:=d41 h (grp:=grp) ho hd hd1 (fun p hp=>hob p (by simp [hp]));refine ⟨nx,c,w',F',ι',hrun,hnx,?_⟩;have hu:o.upd=us.reverse++[((g,j),.deep b t sz n rows)]:=by
  have:=congrArg List.reverse hrev;simpa using this
 have happ:S.apply grp ob.dst o={S.upds o.upd with t:=T4 S.t ob.dst o.v}:=by
  unfold St.apply;rw [hnew];simp only [St.upds_t]
 rw [happ] at hrel;have hent:({S.upds o.upd with t:=T4 S.t ob.dst o.v}:St).ent g j=some (.deep b t sz n rows):=by
  show (S.upds o.upd).ent g j=_
  rw [hu,St.upds_append];obtain ⟨e1,he1⟩:=c1t (us:=us.reverse) he0;show ((S.upds us.reverse).setE g j _).ent g j=_
  rw [Q5 he1];simp
 have hs:=hrel.shut hent hnr;rw [e6T] at hs;unfold St.apply;simp only [St.upds_append,St.upds_t];exact hs
def b4H(cx:Cx)(grp ty len:Nat)(parts:List (Nat×V))(ck om:List (Option Nat)):j8 B6:=
 match cx.T ty with
 | some ti=>match ti.sl with
  | some e=>match cx.T e with
   | some ei=>match parts with
    | [(0,x)]=>match x.cells with
     | some cs=>j8.bind (a1O ck om cs) fun f=>
      if len=1/\cs.length=ei.size/\ei.zero.length=ei.size/\0<ei.size/\ei.size<=16777216/\a3q f.ks=true/\f.ls.isEmpty=true then
       j8.pure {v:=.own grp 0 ei.size 0 1,new:=some [.deep false e ei.size 1 [f.v]],upd:=G5 f.ks,obl:=f.obl}
      else j8.no
     | none=>j8.no
    | []=>
     if len=0/\ei.zero.length=ei.size/\0<ei.size/\ei.size<=16777216 then
      j8.pure {v:=.own grp 0 ei.size 0 0,new:=some [.deep false e ei.size 0 []]}
     else j8.no
    | _=>j8.no
   | none=>j8.no
  | none=>j8.no
 | none=>j8.no
theorem e7l{u:Value}{ds:Array Value}{sz:Nat}(hu:u.cells.size=sz)(hd:ds.size=sz):∃es:Array Value,Instr.fill (fun i=>some (i*sz,sz)) ds [(0,u)]=some es/\es.toList=u.cells.toList:=by
 have hout:=c1K u.cells.toList 0 (0*sz) ds (by simp only [Array.length_toList];omega);refine ⟨u.cells.toList.zipIdx.foldl (fun (cs:Array Value) (x:Value×Nat)=>cs.setIfInBounds (0*sz+x.2) x.1) ds,?_,?_⟩
 ·have hcond':(u.cells.size≠sz||0*sz+u.cells.size>ds.size)=false:=by
   simp [hu];omega
  simp only [Instr.fill,hcond'];simp only [g0k,if_false];congr 1
  rw [<-Array.foldl_toList,Array.toList_zipIdx]
 ·rw [hout,Nat.zero_mul,g0z,c8J];simp only [Array.length_toList];omega
theorem f6M(h:u6 Γ F ι S a w){grp:Nat}(hg:grp<S.h.length)(hn:¬S.D grp){ob:Oper}{ty len:Nat}{parts:Array (Nat×Operand)}{ck om:List (Option Nat)}(ho:ob.op=.buildSlice ty len parts){out:B6}{lg:List (Nat×Nat)}(hp:b4H cx grp ty len (parts.toList.map fun (i,x)=>(i,t6 S.t x)) ck om S.ent=some (out,lg))(hob:∀p∈out.obl,p):U7 cx.P Γ ι S grp ob out a w:=by
 unfold b4H at hp;cases hti:cx.T ty with
 | none=>rw [hti] at hp;cases hp
 | some ti=>
 rw [hti] at hp;simp only at hp;cases hsl:ti.sl with
 | none=>rw [hsl] at hp;cases hp
 | some e=>
 rw [hsl] at hp;simp only at hp;cases hei:cx.T e with
 | none=>rw [hei] at hp;cases hp
 | some ei=>
 rw [hei] at hp;simp only at hp;have hrel:=c3T h.tmps parts.toList;generalize hpl:(parts.toList.map fun (i,x)=>(i,t6 S.t x))=pl at hp hrel;generalize hql:(parts.toList.map fun (i,x)=>(i,a.eval x))=ql at hrel;cases hrel with
 | nil=>
  simp only at hp;split at hp<;>try (cases hp;done)
  rename_i hcond;obtain ⟨rfl,hc2,hc3,hc4⟩:=hcond;have:=j8.pure_some hp;injection this with h3 h4;subst h3;obtain ⟨ti',d,z,htf⟩:=cx.tf hti;obtain ⟨ti2,d',z',hef⟩:=cx.tf hei;obtain rfl:=htf.isSl hsl;have hmd:(madeCells z'.cells (0*ei.size)) = #[]:=by simp [madeCells]
  have hrun:(execOp a.eval ob).run cx.P w=.ok (.value (.slice (some ⟨w.heap.size,0,none⟩) 0 0)) (w.alloc (.cells #[] e)):=by
   have:=c7t (w:=w) (len:=0) htf rfl hef (by omega) (qs:=parts.map fun (i,x)=>(i,a.eval x)) (es := #[]) (by rw [Array.toList_map,hql,hmd];rfl);simp [execOp,ho,this]
  have hgr:=a4H w (.cells #[] e);have hown:(w.alloc (.cells #[] e)).ownsRow 0 e ei.size (.slice (some ⟨w.heap.size,0,none⟩) 0 0) 0 []:=
   ⟨by simp,.inr ⟨w.heap.size,0,#[],rfl,g0J _,a9m w _,f9f _,by simp,by simp,by simp⟩⟩
  obtain ⟨r1,r2⟩:=h.layDeep hg hn hgr (fun k q=>by cases q) (rows:=[]) (sv:=.slice (some ⟨w.heap.size,0,none⟩) 0 0) hown (show BL w F [].flatten [] [] from .nil) rfl (by simp) (by intro k hk;simp [B7] at hk;exact .inr (by omega)) (by simp) .nil;exact ⟨_,_,_,F,N0 ι grp (.slice (some ⟨w.heap.size,0,none⟩) 0 0),hrun,.inl rfl,r1.put ob.dst (.cell r2)⟩
 | @cons p q pl ql hpq ht=>
 obtain ⟨i,x⟩:=p;obtain ⟨i',u⟩:=q;obtain ⟨hii,hxu⟩:=hpq;simp only at hii hxu;subst hii;cases ht with
 | cons _ _=>cases i<;>cases hp
 | nil=>
 cases i with
 | succ i=>cases hp
 | zero=>
 simp only at hp;cases hcs:x.cells with
 | none=>rw [hcs] at hp;cases hp
 | some cs=>
 rw [hcs] at hp;obtain ⟨f,l1,l2,hf,hp',_⟩:=j8.bind_some hp;clear hp;split at hp'<;>try (cases hp';done)
 rename_i hcond;obtain ⟨rfl,hc1,hc2,hc3,hc4,hc5,hc6⟩:=hcond;have:=j8.pure_some hp';injection this with h3 h4;subst h3;obtain ⟨ti',d,z,htf⟩:=cx.tf hti;obtain ⟨ti2,d',z',hef⟩:=cx.tf hei;obtain rfl:=htf.isSl hsl;have hrc:=hxu.cells hcs;obtain ⟨fp,hbl,hfps,hh⟩:=b32 (F1:=F) h (fun _ x=>x) hrc hf hob (by rw [List.isEmpty_iff.1 hc6];intro id hid;cases hid);have hul:u.cells.size=ei.size:=by rw [<-hc1,hrc.length];simp
 have hzs:z'.cells.size=ei.size:=by rw [<-hc2,<-hef.zeros];simp
 have hmd:(madeCells z'.cells (1*ei.size)).size=ei.size:=by simp [madeCells]
 obtain ⟨es,hfill,hes⟩:=e7l (u:=u) (ds:=madeCells z'.cells (1*ei.size)) hul hmd;have hel:es.size=1*ei.size:=by
  have:=congrArg List.length hes;simp only [Array.length_toList] at this;omega
 have hrun:(execOp a.eval ob).run cx.P w=.ok (.value (.slice (some ⟨w.heap.size,0,none⟩) 1 1)) (w.alloc (.cells es e)):=by
  have:=c7t (w:=w) (len:=1) htf rfl hef (by omega) (qs:=parts.map fun (i,x)=>(i,a.eval x)) (es:=es) (by rw [Array.toList_map,hql];exact hfill);simp [execOp,ho,this]
 have hgr:=a4H w (.cells es e);have hown:(w.alloc (.cells es e)).ownsRow 0 e ei.size (.slice (some ⟨w.heap.size,0,none⟩) 1 1) 1 u.cells.toList:=by
  refine ⟨by simp only [Array.length_toList];omega,.inr ⟨w.heap.size,1,es,rfl,g0J _,a9m w _,f9f _,by unfold maxLen;omega,hel,?_⟩⟩;rw [hes,f9F (by simp only [Array.length_toList];omega)]
 have hkl:=h.killsR (fun id hid=>(hfps.live id hid).imp fun _ x=>x.1);have hnd:=N3.nodup h hfps (a5n hc5);have hgk:grp<(S.upds (G5 f.ks)).h.length:=by rw [St.upds_len];exact hg
 have hnk:¬(S.upds (G5 f.ks)).D grp:=fun q=>hn ((a0p S grp _).1 q)
 obtain ⟨r1,r2⟩:=hkl.layDeep hgk hnk hgr (fun k q=>by cases q) (rows:=[f.v]) (sv:=.slice (some ⟨w.heap.size,0,none⟩) 1 1) hown (by simpa using hbl) rfl (by
   intro r hr;rw [f8V.1 hr,hbl.len];simp only [Array.length_toList];exact hul) (by intro k hk;simp [B7] at hk;exact .inr (by omega)) (by
   intro k hk;obtain ⟨id,hid,e1,he1,hl1,hk1⟩:=hfps.mem hk;obtain ⟨x1,x2⟩:=h.sep _ _ _ k he1 hl1 hk1;refine ⟨x1,x2,?_,by simp⟩;intro g' j' e' he' hl' hk';rcases b0o _ he' with ⟨_,rfl⟩|⟨hni,he2⟩
   ·cases hl'
   ·obtain ⟨y1,y2⟩:=h.inj _ _ _ _ _ _ k he2 he1 hl' hl1 hk' hk1;exact hni (by rw [y1,y2];exact hid)) hnd
 exact ⟨_,_,_,F,N0 ι grp (.slice (some ⟨w.heap.size,0,none⟩) 1 1),hrun,.inl rfl,r1.put ob.dst (.cell r2)⟩
def b2S(cx:Cx)(grp ty:Nat)(s x:V):j8 B6:=
 match cx.T ty with
 | some ti=>match ti.sl with
  | some e=>match cx.T e with
   | some ei=>match x with
    | .own g2 j2 sz2 0 m=>j8.bind (j8.rd g2 j2) fun e2=>match e2 with
     | .deep false t2 sz2' m' rows2=>
      if t2=e/\sz2=ei.size/\sz2'=ei.size/\0<ei.size/\0<ei.bytes/\ei.zero.length=ei.size/\0<m' then
       match s with
       | .nil=>j8.pure {v:=.own grp 0 ei.size 0 m',new:=some [.deep false e ei.size m' rows2],upd:=G5 [(g2,j2)],obl:=[m=m',m'*ei.bytes<=140737488355328]}
       | .own g j sz 0 n=>j8.bind (j8.rd g j) fun e1=>match e1 with
        | .deep false t sz' n' rows=>
         if t=e/\sz=ei.size/\sz'=ei.size/\a3q [(g,j),(g2,j2)]=true then
          j8.pure {v:=.own grp 0 ei.size 0 (n'+m'),new:=some [.deep false e ei.size (n'+m') (rows++rows2)],upd:=G5 [(g,j),(g2,j2)],obl:=[n=n',(n'+m')*ei.bytes<=140737488355328,m=m']}
         else j8.no
        | _=>j8.no
       | _=>j8.no
      else j8.no
     | _=>j8.no
    | _=>j8.no
   | none=>j8.no
  | none=>j8.no
 | none=>j8.no
theorem c6n{g j sz n e sz':Nat}{c:Value}{flat:List Value}(hs:RV w F S.D ι (.own g j sz 0 n) c)(hown:w.ownsRow 0 e sz' (ι g j) n flat):c=ι g j:=by
 obtain ⟨hD,⟨b,nn,cap,hι,hlo,hb0,hb1,hc⟩|⟨hl0',_⟩⟩:=hs.inv_own;case inr=>omega
 rcases hown.2 with ⟨hv,hz⟩|⟨g0,cap0,cur,hv,_⟩
 ·rw [hι] at hv;injection hv with e1 e2 e3;subst e1;subst e2;subst e3;subst hz;rw [hc,hι];simp
 ·rw [hι] at hv;injection hv with e1 e2 e3;subst e1;subst e2;subst e3;rw [hc,hι];by_cases q:cap=0
  ·simp [q]
  ·simp [q,Addr.add]
theorem d19{P:Program}{ty e:Nat}{ti ei:TI}{i i':TypeInfo}{d d':TypeDesc}{z z':Value}(htf:TF P ty ti i d z)(hd:d=.slice e)(hef:TF P e ei i' d' z')(h0:0<ei.size)(hb0:0<ei.bytes)(hzl:ei.zero.length=ei.size){sv sv2:Value}{n m:Nat}{flat flat2:List Value}(hown:w.ownsRow 0 e ei.size sv n flat)(hown2:w.ownsRow 0 e ei.size sv2 m flat2)(hm:0<m)(hone:∀u∈flat2,u.oneCell'=true)(hb:(n+m)*ei.bytes<=140737488355328)(rt:Nat) :
  ∃v' w',(Builtin.append_ #[ty,ty] rt #[sv,sv2]).run P w=.ok v' w'/\w'.ownsRow 0 e ei.size v' (n+m) (flat++flat2)/\w.grownBy w' sv.ownBlock/\(v'.ownBlock=sv.ownBlock\/v'.ownBlock=some w.heap.size):=by
 subst hd;have hzs:z'.cells.size=ei.size:=by rw [<-hzl,<-hef.zeros];simp
 have hm63:n+m<=maxLen:=by
  have:n+m<=140737488355328:=f9A (g0v _ hb0) hb;unfold maxLen;omega
 rcases hown2.2 with ⟨_,q⟩|⟨g2,cap2,cur2,rfl,_,hg2,hnc2,_,hcs2,ht2⟩
 ·omega
 ·have hseg:P7 w g2 0 flat2:=by
   rw [<-ht2];have:=(a5X hg2 0).take (m*ei.size);simpa using this
  obtain ⟨v',w',h1,h2,h3,_,h5⟩:=run_append_own_at (P:=P) w 0 ty rt e i' z' ei.size ei.bytes htf.und hef.info hef.zero hef.size hef.bytes hzs h0 sv n flat hown ⟨g2,0,none⟩ m cap2 flat2 hown2.1 (by
   intro j u hu;rw [a3r];exact hseg j u hu) hone hm63 hb (g0J _)
  exact ⟨v',w',h1,h2,h3,h5⟩
theorem BL.ones:∀{vs:List V} {cs:List Value} {f:List Nat},BL w F vs cs f->∀u∈cs,u.oneCell'=true
 | _,_,_,.cons v c f vs cs fs h t,u,hu=>by
  rcases f8X.1 hu with rfl|hu
  ·exact h.one
  ·exact BL.ones t u hu
theorem BL.app:∀{vs vs':List V} {cs cs':List Value} {f f':List Nat},BL w F vs cs f->BL w F vs' cs' f'->BL w F (vs++vs') (cs++cs') (f++f')
 | _,_,_,_,_,_,.nil,k=>k
 | _,_,_,_,_,_,.cons v c f vs cs fs h t,k=>by
  rw [f9i];exact .cons v c f _ _ _ h (BL.app t k)
theorem d9m(h:u6 Γ F ι S a w){grp:Nat}(hg:grp<S.h.length)(hn:¬S.D grp){ob:Oper}{ty:Nat}{s x:Operand}(ho:ob.op=.call {callee:=.builtin .append,args := #[s,x],argTypes := #[ty,ty]}){out:B6}{lg:List (Nat×Nat)}(hp:b2S cx grp ty (t6 S.t s) (t6 S.t x) S.ent=some (out,lg))(hob:∀p∈out.obl,p):U7 cx.P Γ ι S grp ob out a w:=by
 have hs:=E1 h.tmps s;have hx:=E1 h.tmps x;unfold b2S at hp;cases hti:cx.T ty with
 | none=>rw [hti] at hp;cases hp
 | some ti=>
 rw [hti] at hp;simp only at hp;cases hsl:ti.sl with
 | none=>rw [hsl] at hp;cases hp
 | some e=>
 rw [hsl] at hp;simp only at hp;cases hei:cx.T e with
 | none=>rw [hei] at hp;cases hp
 | some ei=>
 rw [hei] at hp;simp only at hp;obtain ⟨i,d,z,htf⟩:=cx.tf hti;obtain ⟨i',d',z',hef⟩:=cx.tf hei;have hd:=htf.isSl hsl;generalize t6 S.t s=sv at hp hs;generalize t6 S.t x=xv at hp hx;cases xv<;>try (cases hp;done)
 rename_i g2 j2 sz2 lo2 m;cases lo2 with
 | succ q=>cases hp
 | zero=>
 simp only at hp;obtain ⟨e2,l1,l2,hrd2,hp',_⟩:=j8.bind_some hp;clear hp;have he2:=(j8.rd_some hrd2).1;simp only at he2;cases e2<;>try (cases hp';done)
 rename_i o2 t2 sz2' m' rows2;cases o2 with
 | true=>cases hp'
 | false=>
 simp only at hp';split at hp'<;>try (cases hp';done)
 rename_i hcond;obtain ⟨rfl,rfl,rfl,hc3,hc4,hc5,hc6⟩:=hcond;obtain ⟨flat2,fs2,hown2,hkl2,hlen2,hl2,hnd2,hnr2⟩:=h.ents g2 j2 _ he2;have hbl2:=hkl2.toBL (hnr2 rfl).flatB;have hin2:∀k∈E3 (ι g2 j2)++fs2,EB w (.deep false t2 ei.size m' rows2) (ι g2 j2) k:=fun k hk=>(EB.deep_iff hown2 hkl2).2 hk
 cases sv<;>try (cases hp';done)
 case nil=>
  have:=j8.pure_some hp';injection this with h3 h4;subst h3;obtain hcs:=hs.inv_nil;have hmm:m=m':=hob _ (by simp);subst hmm;have hb:m*ei.bytes<=140737488355328:=hob _ (by simp);obtain ⟨v',w',hr,hown,hgr,hat⟩:=d19 htf hd hef hc3 hc4 hc5 (World.ownsRow_nil w 0 t2 ei.size) hown2 hc6 hbl2.ones (by simpa using hb) ob.type;have hxc:=c6n hx hown2;have hrun:(execOp a.eval ob).run cx.P w=.ok (.value v') w':=by
   simp [execOp,ho,resolve,invoke,builtin,hcs,hxc,hr]
  have hkl:=h.killsR (ks:=[(g2,j2)]) (fun id hid=>by rw [f8V.1 hid];exact ⟨_,he2⟩);have hgk:grp<(S.upds (G5 [(g2,j2)])).h.length:=by rw [St.upds_len];exact hg
  have hnk:¬(S.upds (G5 [(g2,j2)])).D grp:=fun q=>hn ((a0p S grp _).1 q)
  simp only [f9W,f9M] at hown;obtain ⟨r1,r2⟩:=hkl.layDeep hgk hnk hgr (fun k q=>by cases q) hown hbl2 hlen2 hl2 (by
   intro k hk;rw [<-b0I hown] at hk;rcases hat with q|q
   ·rw [q] at hk;cases hk
   ·rw [q] at hk;injection hk with hk;exact .inr (by omega)) (by
   intro k hk;have hk1:=hin2 k (f8P.2 (.inr hk));obtain ⟨x1,x2⟩:=h.sep _ _ _ k he2 rfl hk1;refine ⟨x1,x2,?_,by intro q;cases q⟩;intro g' j' e' he' hl' hk';rcases b0o _ he' with ⟨_,rfl⟩|⟨hni,he3⟩
   ·cases hl'
   ·obtain ⟨y1,y2⟩:=h.inj _ _ _ _ _ _ k he3 he2 hl' rfl hk' hk1;exact hni (by rw [y1,y2];simp)) (f8Z.1 hnd2).2.1
  exact ⟨_,_,_,F,N0 ι grp v',hrun,.inl rfl,r1.put ob.dst (.cell r2)⟩
 case own g j sz lo n=>
  cases lo with
  | succ q=>cases hp'
  | zero=>
  simp only at hp';obtain ⟨e1,l3,l4,hrd1,hp'',_⟩:=j8.bind_some hp';clear hp';have he1:=(j8.rd_some hrd1).1;simp only at he1;cases e1<;>try (cases hp'';done)
  rename_i o1 t1 sz1 n' rows;cases o1 with
  | true=>cases hp''
  | false=>
  simp only at hp'';split at hp''<;>try (cases hp'';done)
  rename_i hcond;obtain ⟨rfl,rfl,rfl,hnod⟩:=hcond;have:=j8.pure_some hp'';injection this with h3 h4;subst h3;have hnn:n=n':=hob _ (by simp);subst hnn;have hb:(n+m')*ei.bytes<=140737488355328:=hob _ (by simp);have hmm:m=m':=hob _ (by simp);subst hmm;obtain ⟨flat1,fs1,hown1,hkl1,hlen1,hl1,hnd1,hnr1⟩:=h.ents g j _ he1;have hbl1:=hkl1.toBL (hnr1 rfl).flatB;have hin1:∀k∈E3 (ι g j)++fs1,EB w (.deep false t1 ei.size n rows) (ι g j) k:=fun k hk=>(EB.deep_iff hown1 hkl1).2 hk
  have hne:¬(g=g2/\j=j2):=by
   have:=a5n hnod;rw [g0o] at this;intro q;exact this.1 (by rw [q.1,q.2];simp)
  obtain ⟨v',w',hr,hown,hgr,hat⟩:=d19 htf hd hef hc3 hc4 hc5 hown1 hown2 hc6 hbl2.ones hb ob.type;have hxc:=c6n hx hown2;have hsc:=c6n hs hown1;have hrun:(execOp a.eval ob).run cx.P w=.ok (.value v') w':=by
   simp [execOp,ho,resolve,invoke,builtin,hsc,hxc,hr]
  have hkl:=h.killsR (ks:=[(g,j),(g2,j2)]) (fun id hid=>by
   rcases f8X.1 hid with rfl|hid
   ·exact ⟨_,he1⟩
   ·rw [f8V.1 hid];exact ⟨_,he2⟩)
  have hgk:grp<(S.upds (G5 [(g,j),(g2,j2)])).h.length:=by rw [St.upds_len];exact hg
  have hnk:¬(S.upds (G5 [(g,j),(g2,j2)])).D grp:=fun q=>hn ((a0p S grp _).1 q)
  have hob1:∀k,(ι g j).ownBlock=some k->k∈E3 (ι g j):=fun k hk=>R7.2 (by rw [<-b0I hown1];exact hk)
  have free1:∀k∈E3 (ι g j)++fs1,∀g' j' e',(S.upds (G5 [(g,j),(g2,j2)])).ent g' j'=some e'->e'.live=true->¬EB w e' (ι g' j') k:=by
   intro k hk g' j' e' he' hl' hk';rcases b0o _ he' with ⟨_,rfl⟩|⟨hni,he3⟩
   ·cases hl'
   ·obtain ⟨y1,y2⟩:=h.inj _ _ _ _ _ _ k he3 he1 hl' rfl hk' (hin1 k hk);exact hni (by rw [y1,y2];simp)
  have free2:∀k∈E3 (ι g2 j2)++fs2,∀g' j' e',(S.upds (G5 [(g,j),(g2,j2)])).ent g' j'=some e'->e'.live=true->¬EB w e' (ι g' j') k:=by
   intro k hk g' j' e' he' hl' hk';rcases b0o _ he' with ⟨_,rfl⟩|⟨hni,he3⟩
   ·cases hl'
   ·obtain ⟨y1,y2⟩:=h.inj _ _ _ _ _ _ k he3 he2 hl' rfl hk' (hin2 k hk);exact hni (by rw [y1,y2];simp)
  have hdis:∀k,k∈E3 (ι g j)++fs1->k∈E3 (ι g2 j2)++fs2->False:=by
   intro k q1 q2;obtain ⟨y1,y2⟩:=h.inj _ _ _ _ _ _ k he1 he2 rfl rfl (hin1 k q1) (hin2 k q2);exact hne ⟨y1,y2⟩
  obtain ⟨r1,r2⟩:=hkl.layDeep hgk hnk hgr (fun k q=>by
   have hk:k∈E3 (ι g j)++fs1:=f8P.2 (.inl (hob1 k q));obtain ⟨x1,x2⟩:=h.sep _ _ _ k he1 rfl (hin1 k hk);exact ⟨x1,x2,free1 k hk⟩) (rows:=rows++rows2) hown (by rw [g06];exact hbl1.app hbl2) (by rw [f9a,hlen1,hlen2]) (by
   intro r hr';rcases f8P.1 hr' with q|q
   ·exact hl1 r q
   ·exact hl2 r q) (by
   intro k hk;rw [<-b0I hown] at hk;rcases hat with q|q
   ·rw [q] at hk;exact .inl hk
   ·rw [q] at hk;injection hk with hk;exact .inr (by omega)) (by
   intro k hk;rcases f8P.1 hk with q|q
   ·have hk1:k∈E3 (ι g j)++fs1:=f8P.2 (.inr q);obtain ⟨x1,x2⟩:=h.sep _ _ _ k he1 rfl (hin1 k hk1);exact ⟨x1,x2,free1 k hk1,fun z=>(f8Z.1 hnd1).2.2 k (hob1 k z) k q rfl⟩
   ·have hk2:k∈E3 (ι g2 j2)++fs2:=f8P.2 (.inr q);obtain ⟨x1,x2⟩:=h.sep _ _ _ k he2 rfl (hin2 k hk2);exact ⟨x1,x2,free2 k hk2,fun z=>hdis k (f8P.2 (.inl (hob1 k z))) hk2⟩) (by
   rw [f8Z];exact ⟨(f8Z.1 hnd1).2.1,(f8Z.1 hnd2).2.1,fun k q k' q' z=>by
    subst z;exact hdis k (f8P.2 (.inr q)) (f8P.2 (.inr q'))⟩)
  exact ⟨_,_,_,F,N0 ι grp v',hrun,.inl rfl,r1.put ob.dst (.cell r2)⟩
end
structure L6 where
 a:P4:=.none
 d:Option Bool:=none
 v:Option V:=none
 e:Option s9:=none
def c2S(d:Option Bool)(o:B6):Option B6:=
 match d with
 | some d=>match o.v with
  | .b x=>some {o with v:=.b d,obl:=(x=d)::o.obl}
  | _=>none
 | none=>some o
def c0k(v:Option V)(o:B6):Option B6:=
 match v with
 | some v=>some {o with v:=v,obl:=(o.v=v)::o.obl}
 | none=>some o
def b2m(e:s9):List ((Nat×Nat)×s9)->Option (List ((Nat×Nat)×s9)×Prop)
 | []=>none
 | [u]=>some ([(u.1,e)],u.2=e)
 | u::us=>match b2m e us with
  | some (us',p)=>some (u::us',p)
  | none=>none
def b9Z(e:Option s9)(o:B6):Option B6:=
 match e with
 | some e=>match o.new with
  | some [e0]=>some {o with new:=some [e],obl:=(e0=e)::o.obl}
  | some _=>none
  | none=>match b2m e o.upd with
   | some (us,p)=>some {o with upd:=us,obl:=p::o.obl}
   | none=>none
 | none=>some o
def c30(T:L6)(o:B6):Option B6:=
 match b9Z T.e o with
 | some o1=>match c0k T.v o1 with
  | some o2=>c2S T.d o2
  | none=>none
 | none=>none
def opM(cx:Cx)(grp:Nat)(ob:Oper)(t:List V)(A:P4):j8 B6:=
 match ob.op with
 | .alloc e=>j8.lift (c48 cx grp e)
 | .box e x=>j8.lift (c4N cx grp e (t6 t x))
 | .buildSlice ty len parts=>match A with
  | .dck ck om=>b4H cx grp ty len (parts.toList.map fun (i,x)=>(i,t6 t x)) ck om
  | A=>b2r cx grp ty len (parts.toList.map fun (i,x)=>(i,t6 t x)) A
 | .makeSlice ty l c=>match A with
  | .dck ck om=>b3e cx grp ty (t6 t l) (t6 t c) ck om
  | A=>j8.lift (c5g cx grp ty (t6 t l) (t6 t c) (e02 A))
 | .load ty x=>match A with
  | .drow r=>b4G cx grp ty (t6 t x) r
  | .prow r=>b2T cx ty (t6 t x) r
  | .dtak r=>b10 cx grp ty (t6 t x) r
  | A=>b2v cx ty (t6 t x) A
 | .store ty x y=>match ob.dst with
  | none=>match A with
   | .dst r ck om=>a95 cx ty (t6 t x) (t6 t y) r ck om
   | .dsc r ck om=>b2g cx ty (t6 t x) (t6 t y) r ck om
   | A=>b2C cx ty (t6 t x) (t6 t y) A
  | some _=>j8.no
 | .makeMap ty none=>j8.lift (c5m cx grp ty)
 | .lookup ty x ix false=>b3j cx ty (t6 t x) (t6 t ix)
 | .mapUpdate ty x ix y=>match ob.dst with
  | none=>b3n cx ty (t6 t x) (t6 t ix) (t6 t y)
  | some _=>j8.no
 | .call c=>match c.callee,c.args.toList,c.argTypes.toList with
  | .builtin .append,[s,x],[ty,ty']=>if ty=ty' then (match A with
   | .dck _ _=>b2S cx grp ty (t6 t s) (t6 t x)
   | .part=>b1z true cx grp ty (t6 t s) (t6 t x)
   | _=>b1z false cx grp ty (t6 t s) (t6 t x)) else j8.no
  | .builtin .copy,[s,x],[ty,_]=>b3L cx ty (t6 t s) (t6 t x)
  | .value fop,args,_=>match t6 t fop with
   | .fn f=>b22 cx.P grp f (args.map (t6 t)) A
   | _=>j8.no
  | _,_,_=>j8.lift ((T5 cx ob.op t A).map fun q=>{v:=q.1,obl:=q.2})
 | _=>j8.lift ((T5 cx ob.op t A).map fun q=>{v:=q.1,obl:=q.2})
section
variable {cx:Cx} {Γ:O7} {F:Nat->Prop} {ι:Nat->Nat->Value} {S:St} {a:Act} {w:World}
def c59(P:Program)(Γ:O7)(S':St)(ob:Oper)(a:Act)(w:World):Prop:=
 (∃nx c w' F' ι',(execOp a.eval ob).run P w=.ok nx w'/\(nx=.value c\/(nx=.skip/\c=undef))/\u6 Γ F' ι' S' (a.put ob.dst c) w')\/
 (∃f args,(execOp a.eval ob).run P w=.ok (.enter f args) w/\Calls P f args w fun e w' => ∃c F' ι',e=.returned c/\u6 Γ F' ι' S' (a.put ob.dst c) w')
theorem e1Z(h:u6 Γ F ι S a w){grp:Nat}(hg:grp<S.h.length)(hn:¬S.D grp){ob:Oper}{A:P4}{out:B6}{lg:List (Nat×Nat)}(hp:opM cx grp ob S.t A S.ent=some (out,lg))(hob:∀p∈out.obl,p):c59 cx.P Γ (S.apply grp ob.dst out) ob a w:=by
 have pure:∀{op:Op} {out:B6} {lg},ob.op=op->j8.lift ((T5 cx op S.t A).map fun q=>({v:=q.1,obl:=q.2}:B6)) S.ent=some (out,lg)->(∀p∈out.obl,p)->c59 cx.P Γ (S.apply grp ob.dst out) ob a w:=by
  intro op out lg hop hp hob;subst hop;obtain ⟨h1,_⟩:=j8.lift_some hp;obtain ⟨q,hq,he⟩:=g0w.1 h1;simp only at he;subst he;obtain ⟨c,hr,hv⟩:=f2F h.tmps hq hob;exact .inl ⟨_,c,w,F,ι,hr,.inl rfl,by rw [a7z];exact h.put ob.dst hv⟩
 unfold opM at hp;cases ho:ob.op;case alloc e=>
  rw [ho] at hp;exact .inl (e2j h hg hn ho (j8.lift_some hp).1 hob)
 case box e x=>
  rw [ho] at hp;exact .inl (d9y h hg hn ho (j8.lift_some hp).1)
 case buildSlice ty len parts=>
  rw [ho] at hp;cases A;case dck ck om=>exact .inl (f6M h hg hn ho hp hob)
  all_goals exact .inl (f8f h hg hn ho hp hob)
 case makeSlice ty l c=>
  rw [ho] at hp;cases A;case dck ck om=>exact .inl (f6P h hg hn ho hp hob)
  all_goals exact .inl (e2s h hg hn ho (j8.lift_some hp).1 hob)
 case load ty x=>
  rw [ho] at hp;cases A;case drow r=>exact .inl (e85 h hg hn ho hp hob)
  case prow r=>exact .inl (e4g h ho hp hob)
  case dtak r=>exact .inl (f3K h hg hn ho hp hob)
  all_goals exact .inl (f4H h ho hp hob)
 case store ty x y=>
  rw [ho] at hp;cases hd:ob.dst with
  | some d=>rw [hd] at hp;cases hp
  | none=>
   rw [hd] at hp;have:U7 cx.P Γ ι S grp ob out a w:=by
    cases A;case dst r ck om=>exact d41 h (grp:=grp) ho hd hp hob
    case dsc r ck om=>exact e5b h (grp:=grp) ho hd hp hob
    all_goals exact e8p h (grp:=grp) ho hd hp hob
   rw [<-hd];exact .inl this
 case makeMap ty r=>
  rw [ho] at hp;cases r with
  | none=>exact .inl (f7M h hg hn ho (j8.lift_some hp).1)
  | some r=>exact pure ho hp hob
 case lookup ty x ix ok=>
  rw [ho] at hp;cases ok with
  | false=>exact .inl (e5m h ho hp)
  | true=>exact pure ho hp hob
 case mapUpdate ty x ix y=>
  rw [ho] at hp;cases hd:ob.dst with
  | some d=>rw [hd] at hp;cases hp
  | none=>
   rw [hd] at hp;have:U7 cx.P Γ ι S grp ob out a w:=f7o h (grp:=grp) ho hd hp;rw [<-hd];exact .inl this
 case call c=>
  rw [ho] at hp;obtain ⟨callee,args,tys⟩:=c;simp only at hp;cases callee with
  | invoke x m=>exact pure ho hp hob
  | value fop=>
   simp only at hp;generalize hfe:t6 S.t fop=fv at hp;cases fv<;>try (cases hp;done)
   rename_i f;obtain ⟨h1,h2⟩:=f0L h hg hn ho hfe hp hob;exact .inr ⟨f,_,h1,h2⟩
  | builtin b=>
   cases b;case append=>
    generalize hargs:args.toList=al at hp;generalize htys:tys.toList=tl at hp;rcases al with _|⟨s,_|⟨x,_|⟨y,al⟩⟩⟩<;>rcases tl with _|⟨ty,_|⟨ty',_|⟨ty3,tl⟩⟩⟩<;>try exact pure ho hp hob
    have ha:args = #[s,x]:=by simpa using congrArg g0V hargs
    have hy:tys = #[ty,ty']:=by simpa using congrArg g0V htys
    subst ha;subst hy;simp only at hp;by_cases q:ty=ty'
    ·subst q;rw [if_pos rfl] at hp;cases A;case dck ck om=>exact .inl (d9m h hg hn ho hp hob)
     all_goals exact .inl (d8X (rt:=0) h hg hn ho hp hob)
    ·rw [if_neg q] at hp;cases hp
   case copy=>
    generalize hargs:args.toList=al at hp;generalize htys:tys.toList=tl at hp;rcases al with _|⟨s,_|⟨x,_|⟨y,al⟩⟩⟩<;>rcases tl with _|⟨ty,_|⟨ty',_|⟨ty3,tl⟩⟩⟩<;>try exact pure ho hp hob
    have ha:args = #[s,x]:=by simpa using congrArg g0V hargs
    have hy:tys = #[ty,ty']:=by simpa using congrArg g0V htys
    subst ha;subst hy;exact .inl (f7H h ho hp hob)
   all_goals exact pure ho hp hob
 all_goals
  rw [ho] at hp;exact pure ho hp hob
theorem d3q{e:s9}:∀{us us':List ((Nat×Nat)×s9)} {p:Prop},b2m e us=some (us',p)->p->us'=us
 | [],_,_,h,_=>by cases h
 | [u],us',p,h,hp=>by
  unfold b2m at h;injection h with h;injection h with h1 h2;subst h1;subst h2;have:u.2=e:=hp;subst this;rfl
 | u::u2::us,us',p,h,hp=>by
  unfold b2m at h;split at h<;>try (cases h;done)
  rename_i us1 p1 h1;injection h with h;injection h with h2 h3;subst h2;subst h3;rw [d3q h1 hp]
theorem f6x{d:Option Bool}{o o':B6}(hd:c2S d o=some o')(hob:∀p∈o'.obl,p):(∀p∈o.obl,p)/\o'.new=o.new/\o'.upd=o.upd/\o'.v=o.v:=by
 unfold c2S at hd;split at hd
 ·split at hd<;>try (cases hd;done)
  rename_i d _ x hv;injection hd with hd;subst hd;have hx:x=d:=hob _ (by simp);exact ⟨fun p hp=>hob p (by simp [hp]),rfl,rfl,by simp [hv,hx]⟩
 ·injection hd with hd;subst hd;exact ⟨hob,rfl,rfl,rfl⟩
theorem f2V{v:Option V}{o o':B6}(hd:c0k v o=some o')(hob:∀p∈o'.obl,p):(∀p∈o.obl,p)/\o'.new=o.new/\o'.upd=o.upd/\o'.v=o.v:=by
 unfold c0k at hd;split at hd
 ·rename_i v;injection hd with hd;subst hd;have hx:o.v=v:=hob _ (by simp);exact ⟨fun p hp=>hob p (by simp [hp]),rfl,rfl,hx.symm⟩
 ·injection hd with hd;subst hd;exact ⟨hob,rfl,rfl,rfl⟩
theorem e01{e:Option s9}{o o':B6}(hd:b9Z e o=some o')(hob:∀p∈o'.obl,p):(∀p∈o.obl,p)/\o'.new=o.new/\o'.upd=o.upd/\o'.v=o.v:=by
 unfold b9Z at hd;split at hd
 ·rename_i e;split at hd
  ·rename_i e0 hn;injection hd with hd;subst hd;have hx:e0=e:=hob _ (by simp);exact ⟨fun p hp=>hob p (by simp [hp]),by rw [hn,hx],rfl,rfl⟩
  ·cases hd
  ·split at hd<;>try (cases hd;done)
   rename_i us p h1;injection hd with hd;subst hd;have hx:p:=hob _ (by simp);exact ⟨fun p hp=>hob p (by simp [hp]),rfl,d3q h1 hx,rfl⟩
 ·injection hd with hd;subst hd;exact ⟨hob,rfl,rfl,rfl⟩
theorem f4i{T:L6}{o o':B6}(hd:c30 T o=some o')(hob:∀p∈o'.obl,p):(∀p∈o.obl,p)/\o'.new=o.new/\o'.upd=o.upd/\o'.v=o.v:=by
 unfold c30 at hd;cases h1:b9Z T.e o with
 | none=>rw [h1] at hd;cases hd
 | some o1=>
 rw [h1] at hd;simp only at hd;cases h2:c0k T.v o1 with
 | none=>rw [h2] at hd;cases hd
 | some o2=>
 rw [h2] at hd;obtain ⟨a1,a2,a3,a4⟩:=f6x hd hob;obtain ⟨b1,b2,b3,b4⟩:=f2V h2 a1;obtain ⟨c1,c2,c3,c4⟩:=e01 h1 b1;exact ⟨c1,a2.trans (b2.trans c2),a3.trans (b3.trans c3),a4.trans (b4.trans c4)⟩
def a9X(cx:Cx)(grp:Nat)(ob:Oper)(t:List V)(A:L6):j8 B6:=j8.bind (opM cx grp ob t A.a) fun o=>j8.lift (c30 A o)
theorem f5g{S:St}{grp:Nat}{dst:Option Nat}{o o':B6}(h1:o'.new=o.new)(h2:o'.upd=o.upd)(h3:o'.v=o.v):S.apply grp dst o'=S.apply grp dst o:=by
 unfold St.apply;rw [h1,h2,h3]
theorem f7f(h:u6 Γ F ι S a w){grp:Nat}(hg:grp<S.h.length)(hn:¬S.D grp){ob:Oper}{A:L6}{out:B6}{lg:List (Nat×Nat)}(hp:a9X cx grp ob S.t A S.ent=some (out,lg))(hob:∀p∈out.obl,p):c59 cx.P Γ (S.apply grp ob.dst out) ob a w:=by
 obtain ⟨o,l1,l2,h1,h2,_⟩:=j8.bind_some hp;obtain ⟨h3,_⟩:=j8.lift_some h2;simp only at h3;obtain ⟨h4,h5,h6,h7⟩:=f4i h3 hob;rw [f5g h5 h6 h7];exact e1Z h hg hn h1 h4
def a7B(ops:Array Oper)(o:Oper)(t:List V):Option Bool:=
 match o.guard with
 | none=>some true
 | some (j,want)=>match (ops[j]?).bind (·.dst) with
  | some d=>match t[d]? with
   | some (.b x)=>some (x==want)
   | some (.tup [])=>some false
   | _=>none
  | none=>none
theorem d0t{ops:Array Oper}{o:Oper}{b:Bool}{D:Nat->Prop}{t:List V}(ht:x9 (RV w F D ι) t a.tmps.toList)(h:a7B ops o t=some b):Region.wanted o (yielded ops a.tmps)=b:=by
 unfold a7B at h;unfold Region.wanted;split at h
 ·rename_i hg;rw [hg];injection h
 ·rename_i j want hg;rw [hg];simp only;cases hd:(ops[j]?).bind (·.dst) with
  | none=>rw [hd] at h;cases h
  | some d=>
   rw [hd] at h;simp only at h;split at h<;>try (cases h;done)
   rename_i x hx;injection h with h;obtain ⟨c,hc,hv⟩:=ht.get hx;obtain rfl:=hv.inv_b;have:yielded ops a.tmps j=some x:=by
    unfold yielded;simp only [hd];rw [Array.getElem?_toList] at hc;simp [hc]
   rw [this,<-h];cases x<;>cases want<;>rfl
   ·rename_i hx;injection h with h;obtain ⟨c,hc,hv⟩:=ht.get hx;have hcc:c=undef:=by
     cases hv with
     | one v c hv=>cases hv with|cell v c hv=>cases hv with|fv v c hv=>cases hv
     | tup cs ds hv=>cases hv;rfl
    subst hcc;have:yielded ops a.tmps j=none:=by
     unfold yielded;simp only [hd];rw [Array.getElem?_toList] at hc;simp [hc,undef]
    rw [this,<-h];rfl
end
structure Z2 where
 rd:List (Nat×Nat)
 wr:List (Nat×Nat)
def Z9(cx:Cx)(ops:Array Oper)(base:Nat)(A:Nat->L6)(i:Nat)(S:St):Option (St×List Prop×Z2):=
 match ops[i]? with
 | none=>none
 | some o=>match a7B ops o S.t with
  | some true=>match a9X cx (base+i) o S.t (A i) S.ent with
   | some (out,lg)=>some (S.apply (base+i) o.dst out,out.obl,⟨lg,out.upd.map (·.1)⟩)
   | none=>none
  | some false=>some ({S with t:=T4 S.t o.dst (.tup [])},[],⟨[],[]⟩)
  | none=>none
section
variable {cx:Cx} {Γ:O7} {F:Nat->Prop} {ι:Nat->Nat->Value} {S S':St} {a:Act} {w:World} {ops:Array Oper} {base:Nat} {A:Nat->L6}
theorem e7N{grp:Nat}{dst:Option Nat}{out:B6}{g:Nat}(h:(S.apply grp dst out).D g):S.D g\/g=grp:=by
 unfold St.apply at h;simp only at h;split at h
 ·exact .inl ((a0p S g _).1 h)
 ·rename_i new hnew;by_cases q:g=grp
  ·exact .inr q
  ·left
   obtain ⟨l,hl⟩:=h;simp only [St.lay,f9k (Ne.symm q)] at hl;exact (a0p S g _).1 ⟨l,hl⟩
theorem e09{grp:Nat}{dst:Option Nat}{out:B6}:(S.apply grp dst out).h.length=S.h.length:=by
 unfold St.apply;simp only;split
 ·exact St.upds_len S _
 ·simp [St.lay,St.upds_len]
theorem d32{i:Nat}{ps:List Prop}{ft:Z2}(h:Z9 cx ops base A i S=some (S',ps,ft)):(∀g,S'.D g->S.D g\/g=base+i)/\S'.h.length=S.h.length:=by
 unfold Z9 at h;split at h<;>try (cases h;done)
 split at h<;>try (cases h;done)
 ·split at h<;>try (cases h;done)
  injection h with h;injection h with h1 h2;subst h1;exact ⟨fun g x=>e7N x,e09⟩
 ·injection h with h;injection h with h1 h2;subst h1;exact ⟨fun g x=>.inl x,rfl⟩
theorem d7B{Q:Exit->Act->World->Prop}{K:Act->World->Prop}{i:Nat}{ps:List Prop}{ft:Z2}(h:u6 Γ F ι S a w)(hg:base+i<S.h.length)(hn:¬S.D (base+i))(hs:Z9 cx ops base A i S=some (S',ps,ft))(hob:∀p∈ps,p)(hK:∀a' w' F' ι',u6 Γ F' ι' S' a' w'->K a' w'):wpOp cx.P ops Q i K a w:=by
 unfold Z9 at hs;unfold wpOp;split at hs<;>try (cases hs;done)
 rename_i o ho;rw [ho];simp only;split at hs<;>try (cases hs;done)
 ·rename_i hw;have hwant:=d0t h.tmps hw;rw [hwant];simp only [if_true];split at hs<;>try (cases hs;done)
  rename_i out lg hop;injection hs with hs;injection hs with h1 h2;injection h2 with h2 h3;subst h1;subst h2;left
  unfold Oper.wp;rcases f7f h hg hn hop hob with ⟨nx,c,w',F',ι',hr,hnx,hrel⟩|⟨f,args,hr,hcalls⟩
  ·rw [hr];rcases hnx with rfl|⟨rfl,rfl⟩
   ·exact hK _ _ _ _ hrel
   ·exact hK _ _ _ _ hrel
  ·rw [hr];refine hcalls.mono ?_;rintro e w' ⟨c,F',ι',rfl,hrel⟩
   exact hK _ _ _ _ hrel
 ·rename_i hw;have hwant:=d0t h.tmps hw;rw [hwant];simp only [g0k,if_false];injection hs with hs;injection hs with h1 h2;subst h1;exact hK _ _ _ _ (h.put o.dst (.tup [] [] .nil))
def a1o(cx:Cx)(ops:Array Oper)(base:Nat)(A:Nat->L6):List Nat->St->Option (St×List (List Prop×Z2))
 | [],S=>some (S,[])
 | i::l,S=>match Z9 cx ops base A i S with
  | some (S1,r)=>match a1o cx ops base A l S1 with
   | some (S2,rs)=>some (S2,r::rs)
   | none=>none
  | none=>none
theorem b11{i:Nat}{l:List Nat}{rs:List (List Prop×Z2)}(h:a1o cx ops base A (i::l) S=some (S',rs)):∃S1 r rs',Z9 cx ops base A i S=some (S1,r)/\a1o cx ops base A l S1=some (S',rs')/\rs=r::rs':=by
 unfold a1o at h;split at h<;>try (cases h;done)
 rename_i S1 r h1;split at h<;>try (cases h;done)
 rename_i S2 rs' h2;injection h with h;injection h with h3 h4;subst h3;subst h4;exact ⟨S1,r,rs',h1,h2,rfl⟩
theorem c8L{Q:Exit->Act->World->Prop}:∀{l:List Nat} {S:St} {F:Nat->Prop} {ι:Nat->Nat->Value} {a:Act} {w:World} {rs:List (List Prop×Z2)},u6 Γ F ι S a w->l.Nodup->(∀i∈l,base+i<S.h.length/\¬S.D (base+i))->a1o cx ops base A l S=some (S',rs)->(∀r∈rs,∀p∈r.1,p)->
  (∀a' w' F' ι',u6 Γ F' ι' S' a' w'->Q .normal a' w')->wpOps cx.P ops Q l a w
 | [],S,F,ι,a,w,rs,h,_,_,hr,_,hQ=>by
  unfold a1o at hr;injection hr with hr;injection hr with h1 h2;subst h1;exact hQ _ _ _ _ h
 | i::l,S,F,ι,a,w,rs,h,hn,hfree,hr,hob,hQ=>by
  obtain ⟨S1,r,rs',h1,h2,rfl⟩:=b11 hr;rw [wpOps_cons];have hn':=g0o.1 hn;obtain ⟨hD,hl⟩:=d32 (ps:=r.1) (ft:=r.2) h1;refine d7B h (hfree i (by simp)).1 (hfree i (by simp)).2 (ps:=r.1) (ft:=r.2) h1 (hob r (by simp)) fun a' w' F' ι' hrel => ?_
  refine c8L hrel hn'.2 (fun j hj => ?_) h2 (fun r' hr'=>hob r' (by simp [hr'])) hQ;refine ⟨by rw [hl];exact (hfree j (by simp [hj])).1,fun x => ?_⟩;rcases hD _ x with y|y
  ·exact (hfree j (by simp [hj])).2 y
  ·have:i=j:=by omega
   exact hn'.1 (this▸hj)
end
def z6{α:Type}(m:j8 α):Prop := ∀(H H':Hp) r lg,m H=some (r,lg)->(∀id∈lg,H' id.1 id.2=H id.1 id.2)->m H'=some (r,lg)
namespace z6
variable {α β:Type}
theorem pure(a:α):z6 (j8.pure a):=fun _ _ _ _ h _=>h
theorem no:z6 (j8.no:j8 α):=fun _ _ _ _ h _=>h
theorem lift(o:Option α):z6 (j8.lift o):=by
 intro H H' r lg h _;unfold j8.lift at h⊢;exact h
theorem rd(g j:Nat):z6 (j8.rd g j):=by
 intro H H' r lg h hH;obtain ⟨h1,h2⟩:=j8.rd_some h;simp only at h1 h2;subst h2;have:=hH (g,j) (by simp);unfold j8.rd;simp only at this;rw [this,h1]
theorem bind{m:j8 α}{f:α->j8 β}(hm:z6 m)(hf:∀a,z6 (f a)):z6 (j8.bind m f):=by
 intro H H' r lg h hH;obtain ⟨a,l,l',h1,h2,h3⟩:=j8.bind_some h;simp only at h2 h3;subst h3;unfold j8.bind;rw [hm H H' a l h1 (fun id hid=>hH id (f8P.2 (.inl hid)))];simp only;rw [hf a H H' r l' h2 (fun id hid=>hH id (f8P.2 (.inr hid)))]
theorem ite{c:Prop}[Decidable c]{m n:j8 α}(hm:z6 m)(hn:z6 n):z6 (if c then m else n):=by
 split<;>assumption
end z6
theorem f4g(ck:Option Nat)(v:V):z6 (fzP ck v):=by
 unfold fzP;cases v<;>try exact z6.no
 case own g j sz lo n=>
  refine .bind (.rd g j) fun e => ?_
  cases e<;>first|exact z6.no|exact .ite (.pure _) .no
 case nil=>cases ck<;>exact .pure _
 all_goals exact .pure _
theorem c6s:∀(vs:List V) (ck:List (Option Nat)),z6 (b12 ck vs)
 | [],ck=>by cases ck<;>exact .pure _
 | v::vs,ck=>.bind (f4g _ _) fun x=>.bind (c6s vs _) fun y=>.pure _
theorem e6A(cx:Cx)(ty:Nat)(x:V)(A:P4):z6 (b2v cx ty x A):=by
 unfold b2v;cases cx.T ty with
 | none=>exact .no
 | some ti=>
  cases x<;>try exact z6.no
  case ptr g j off=>
   refine .bind (.rd g j) fun e => ?_
   cases e<;>try exact z6.no
   case var e cs=>simp only;cases U0 ti (cs.drop off)<;>first|exact .no|exact .pure _
   case arr e sz n rows=>exact .ite (.pure _) .no
  case eptr g j sz idx off=>
   refine .bind (.rd g j) fun e => ?_
   cases A<;>try exact z6.no
   case row r=>
    simp only;cases U0 ti (r.drop off) with
    | none=>exact .no
    | some v=>cases e<;>first|exact z6.no|exact .ite (.pure _) .no
  case fptr cs=>simp only;cases U0 ti cs<;>first|exact .no|exact .pure _
theorem e4K(cx:Cx)(ty:Nat)(x y:V)(A:P4):z6 (b2C cx ty x y A):=by
 unfold b2C;cases cx.T ty with
 | none=>exact .no
 | some ti=>
  cases y.cells with
  | none=>exact .no
  | some vs=>
   cases x<;>try exact z6.no
   case ptr g j off=>
    refine .bind (.rd g j) fun e => ?_
    cases e<;>first|exact z6.no|exact .ite (.pure _) .no
   case eptr g j sz idx off=>
    refine .bind (.rd g j) fun e => ?_
    cases A<;>try exact z6.no
    case rowck r ck=>
     refine .bind (c6s _ _) fun f => ?_
     cases e<;>first|exact z6.no|exact .ite (.pure _) .no
theorem d3x(pt:Bool)(x:V):z6 (b0r pt x):=by
 unfold b0r;cases x<;>try first|exact z6.no|exact z6.pure _
 case own g j sz lo n=>
  refine .bind (.rd g j) fun e => ?_
  cases e<;>first|exact z6.no|exact .ite (.pure _) .no
theorem e6N(pt:Bool)(cx:Cx)(grp ty:Nat)(s x:V):z6 (b1z pt cx grp ty s x):=by
 unfold b1z;cases cx.T ty with
 | none=>exact .no
 | some ti=>
  simp only;cases ti.sl with
  | none=>exact .no
  | some e=>
   simp only;cases cx.T e with
   | none=>exact .no
   | some ei=>
    refine .bind (d3x _ x) fun q=>.ite ?_ .no
    cases s<;>try first|exact z6.no|exact z6.pure _
    case own g j sz lo n=>
     cases lo with
     | succ k=>exact .no
     | zero=>
      refine .bind (.rd g j) fun e => ?_
      cases e<;>first|exact z6.no|exact .ite (.pure _) .no
theorem d9A(cx:Cx)(ty:Nat)(s x:V):z6 (b3L cx ty s x):=by
 unfold b3L;cases cx.T ty with
 | none=>exact .no
 | some ti=>
  simp only;cases ti.sl with
  | none=>exact .no
  | some e=>
   simp only;cases cx.T e with
   | none=>exact .no
   | some ei=>
    refine .bind (d3x _ x) fun q => ?_
    cases s<;>try exact z6.no
    case own g j sz lo n=>
     cases lo with
     | succ k=>exact .no
     | zero=>
      refine .bind (.rd g j) fun e => ?_
      cases e<;>first|exact z6.no|exact .ite (.pure _) .no
theorem d8H(ck:List (Option Nat)):∀ps:List (Nat×V),z6 (b1I ck ps)
 | []=>.pure _
 | (i,v)::ps=>by
  unfold b1I;cases v.cells with
  | none=>exact .no
  | some cs=>exact .bind (c6s _ _) fun x=>.bind (d8H ck ps) fun y=>.pure _
theorem e7i(cx:Cx)(grp ty len:Nat)(parts:List (Nat×V))(A:P4):z6 (b2r cx grp ty len parts A):=by
 unfold b2r;cases cx.T ty with
 | none=>exact .no
 | some ti=>
  simp only;cases ti.sl with
  | none=>exact .no
  | some e=>
   simp only;cases cx.T e with
   | none=>exact .no
   | some ei=>
    cases A<;>try exact z6.no
    case ck ck=>
     refine .bind (d8H _ _) fun q => ?_
     cases a6Q ei.size (f8O len ei.zero) q.1 with
     | none=>exact .no
     | some rows=>exact .ite (.pure _) .no
theorem d29(ck om:Option Nat)(v:V):z6 (S7 ck om v):=by
 unfold S7;cases om with
 | some e=>
  refine .ite (.pure _) ?_;cases v<;>try first|exact z6.no|exact z6.pure _
  case own g j sz lo n=>
   cases lo with
   | succ k=>exact .no
   | zero=>
    refine .bind (.rd g j) fun e => ?_
    cases e<;>first|exact z6.no|exact .ite (.pure _) .no|(rename_i o _ _ _ _;cases o<;>first|exact z6.no|exact .ite (.pure _) .no)
 | none=>
  cases v<;>try first|exact z6.no|exact z6.pure _
  case own g j sz lo n=>
   refine .bind (.rd g j) fun e => ?_
   cases e<;>first|exact z6.no|exact .ite (.pure _) .no|(rename_i o _ _ _ _;cases o<;>first|exact z6.no|exact .ite (.pure _) .no)
  case nil=>cases ck<;>exact .pure _
theorem b0e:∀(vs:List V) (ck om:List (Option Nat)),z6 (a1O ck om vs)
 | [],ck,om=>by cases ck<;>cases om<;>exact .pure _
 | v::vs,ck,om=>.bind (d29 _ _ _) fun x=>.bind (b0e vs _ _) fun y=>.pure _
theorem f7d(m:PM)(v:V):z6 (a1x m v):=by
 unfold a1x;cases m with
 | val ck om=>
  cases v<;>try first|exact z6.no|exact d29 _ _ _
  case agg cs=>exact .bind (b0e _ _ _) fun x=>.pure _
 | ptr ck om=>
  cases v<;>try exact z6.no
  case ptr g j off=>
   cases off with
   | succ k=>exact .no
   | zero=>
    refine .bind (.rd g j) fun e => ?_
    cases e<;>try exact z6.no
    case var e cs=>exact .bind (b0e _ _ _) fun x=>.pure _
 | row=>
  cases v<;>try exact z6.no
  case own g j sz lo n=>
   cases lo with
   | succ k=>exact .no
   | zero=>
    refine .bind (.rd g j) fun e => ?_
    cases e<;>first|exact z6.no|exact .ite (.pure _) .no|(rename_i o _ _ _ _;cases o<;>first|exact z6.no|exact .ite (.pure _) .no)
 | part=>
  cases v<;>try exact z6.no
  case own g j sz lo n=>
   refine .bind (.rd g j) fun e => ?_
   cases e<;>first|exact z6.no|exact .ite (.pure _) .no|(rename_i o _ _ _ _;cases o<;>first|exact z6.no|exact .ite (.pure _) .no)
theorem d6V:∀(vs:List V) (ms:List PM),z6 (a1J ms vs)
 | [],ms=>by cases ms<;>exact .pure _
 | v::vs,[]=>.no
 | v::vs,m::ms=>.bind (f7d m v) fun x=>.bind (d6V vs ms) fun y=>.pure _
theorem c1D:∀ids:List (Nat×Nat),z6 (a4J ids)
 | []=>.pure _
 | (g,j)::ids=>by
  unfold a4J;refine .bind (.rd g j) fun e => ?_
  cases e<;>try exact z6.no
  case row t sz n rows=>exact .bind (c1D ids) fun us=>.pure _
  case deep o t sz n rows=>
   cases o
   ·exact .bind (c1D ids) fun us=>.pure _
   ·exact .no
theorem d11(grp:Nat)(args:List V)(ms:List PM)(fr:Bool)(res:V)(outs:List (Option V))(p:List V->Prop):z6 (a9o grp args ms fr res outs p):=by
 unfold a9o;refine .bind (d6V _ _) fun r=>.bind (c1D _) fun fz => ?_
 simp only;cases S0 grp (I7 grp 0 res).2.length ms args outs with
 | none=>exact .no
 | some ue=>exact .ite (.pure _) .no
theorem e7c(P:Program)(grp f:Nat)(args:List V)(A:P4):z6 (b22 P grp f args A):=by
 unfold b22;cases A<;>try exact z6.no
 case call ms fr res outs=>exact d11 _ _ _ _ _ _ _
 case callr k q ms fr res outs=>
  simp only;split
  ·split
   ·exact .bind (d11 _ _ _ _ _ _ _) fun o=>.pure _
   ·exact .no
  ·exact .no
theorem d7w(cx:Cx)(ty:Nat)(x y:V)(r:List V)(ck om:List (Option Nat)):z6 (a95 cx ty x y r ck om):=by
 unfold a95;cases cx.T ty with
 | none=>exact .no
 | some ti=>
  cases y.cells with
  | none=>exact .no
  | some vs=>
   cases x<;>try exact z6.no
   case eptr g j sz idx off=>
    refine .bind (.rd g j) fun e=>.bind (b0e _ _ _) fun f => ?_
    cases e<;>try exact z6.no
    exact .ite (.pure _) .no
theorem e9T(cx:Cx)(grp ty:Nat)(x:V)(r:List V):z6 (b4G cx grp ty x r):=by
 unfold b4G;cases cx.T ty with
 | none=>exact .no
 | some ti=>
  cases x<;>try exact z6.no
  case eptr g j sz idx off=>
   refine .bind (.rd g j) fun e => ?_
   cases e<;>try exact z6.no
   simp only;refine .ite ?_ .no;cases U0 ti (L5 grp 0 ((r.drop off).take (if ti.agg=true then ti.size else 1))).1 with
   | none=>exact .no
   | some v=>exact .pure _
theorem e96(cx:Cx)(grp ty:Nat)(x:V)(r:List V):z6 (b10 cx grp ty x r):=by
 unfold b10;cases cx.T ty with
 | none=>exact .no
 | some ti=>
  cases x<;>try exact z6.no
  case eptr g j sz idx off=>
   refine .bind (.rd g j) fun e => ?_
   cases e<;>try exact z6.no
   simp only;refine .ite ?_ .no;cases U0 ti (L5 grp 0 ((r.drop off).take (if ti.agg=true then ti.size else 1))).1 with
   | none=>exact .no
   | some v=>exact .pure _
theorem f7h(cx:Cx)(ty:Nat)(x y:V)(r:List V)(ck om:List (Option Nat)):z6 (b2g cx ty x y r ck om):=by
 unfold b2g;refine .bind (d7w _ _ _ _ _ _ _) fun o => ?_
 split
 ·exact .bind (.rd _ _) fun _=>.pure _
 ·exact .no
theorem f6E(cx:Cx)(ty:Nat)(x:V)(r:List V):z6 (b2T cx ty x r):=by
 unfold b2T;cases cx.T ty with
 | none=>exact .no
 | some ti=>
  cases x<;>try exact z6.no
  case eptr g j sz idx off=>
   refine .bind (.rd g j) fun e => ?_
   cases e<;>try exact z6.no
   simp only;refine .ite ?_ .no;cases U0 ti ((r.drop off).take (if ti.agg=true then ti.size else 1)) with
   | none=>exact .no
   | some v=>exact .pure _
theorem f0S(cx:Cx)(grp ty:Nat)(l c:V)(ck om:List (Option Nat)):z6 (b3e cx grp ty l c ck om):=by
 unfold b3e;cases cx.T ty with
 | none=>exact .no
 | some ti=>
  simp only;cases ti.sl with
  | none=>exact .no
  | some e=>
   simp only;cases cx.T e with
   | none=>exact .no
   | some ei=>
    cases l<;>try exact z6.no
    cases c<;>try exact z6.no
    exact .bind (b0e _ _ _) fun f=>.ite (.pure _) .no
theorem f1P(cx:Cx)(grp ty len:Nat)(parts:List (Nat×V))(ck om:List (Option Nat)):z6 (b4H cx grp ty len parts ck om):=by
 unfold b4H;cases cx.T ty with
 | none=>exact .no
 | some ti=>
  simp only;cases ti.sl with
  | none=>exact .no
  | some e=>
   simp only;cases cx.T e with
   | none=>exact .no
   | some ei=>
    simp only;split
    ·split
     ·exact .bind (b0e _ _ _) fun f=>.ite (.pure _) .no
     ·exact .no
    ·exact .ite (.pure _) .no
    ·exact .no
theorem e2f(cx:Cx)(grp ty:Nat)(s x:V):z6 (b2S cx grp ty s x):=by
 unfold b2S;cases cx.T ty with
 | none=>exact .no
 | some ti=>
  simp only;cases ti.sl with
  | none=>exact .no
  | some e=>
   simp only;cases cx.T e with
   | none=>exact .no
   | some ei=>
    simp only;split
    ·refine .bind (.rd _ _) fun e2 => ?_
     split
     ·refine .ite ?_ .no;split
      ·exact .pure _
      ·refine .bind (.rd _ _) fun e1 => ?_
       split
       ·exact .ite (.pure _) .no
       ·exact .no
      ·exact .no
     ·exact .no
    ·exact .no
theorem f8y(cx:Cx)(ty:Nat)(x ix:V):z6 (b3j cx ty x ix):=by
 unfold b3j;cases cx.M ty with
 | none=>exact .no
 | some q=>
  obtain ⟨kt,m,z⟩:=q;cases x<;>try exact z6.no
  cases ix<;>try exact z6.no
  rename_i g j ks;simp only;cases a2s ks with
  | none=>exact .no
  | some xs=>
   refine .bind (.rd g j) fun e => ?_
   cases e<;>try exact z6.no
   exact .ite (.pure _) .no
theorem f1D(cx:Cx)(ty:Nat)(x ix y:V):z6 (b3n cx ty x ix y):=by
 unfold b3n;cases cx.M ty with
 | none=>exact .no
 | some q=>
  obtain ⟨kt,m,z⟩:=q;cases x<;>try exact z6.no
  cases ix<;>try exact z6.no
  rename_i g j ks;simp only;cases a2s ks with
  | none=>exact .no
  | some xs=>
   refine .bind (.rd g j) fun e => ?_
   cases e<;>try exact z6.no
   exact .ite (.pure _) .no
theorem e4L(cx:Cx)(grp:Nat)(ob:Oper)(t:List V)(A:P4):z6 (opM cx grp ob t A):=by
 unfold opM;cases ob.op<;>try exact z6.lift _
 case buildSlice ty len parts=>cases A<;>first|exact f1P _ _ _ _ _ _ _|exact e7i _ _ _ _ _ _
 case makeSlice ty l c=>cases A<;>first|exact f0S _ _ _ _ _ _ _|exact z6.lift _
 case load ty x=>cases A<;>first|exact e9T _ _ _ _ _|exact e96 _ _ _ _ _|exact f6E _ _ _ _|exact e6A _ _ _ _
 case store ty x y=>
  cases ob.dst
  ·cases A<;>first|exact d7w _ _ _ _ _ _ _|exact f7h _ _ _ _ _ _ _|exact e4K _ _ _ _ _
  ·exact .no
 case makeMap ty r=>cases r<;>exact z6.lift _
 case lookup ty x ix ok=>cases ok<;>first|exact f8y _ _ _ _|exact z6.lift _
 case mapUpdate ty x ix y=>
  cases ob.dst
  ·exact f1D _ _ _ _ _
  ·exact .no
 case call c=>
  obtain ⟨callee,args,tys⟩:=c;simp only;split
  ·refine .ite ?_ .no;cases A<;>first|exact e2f _ _ _ _ _|exact e6N _ _ _ _ _ _
  ·exact d9A _ _ _ _
  ·cases t6 t _<;>first|exact e7c _ _ _ _ _|exact z6.no
  ·exact .lift _
theorem e73(cx:Cx)(grp:Nat)(ob:Oper)(t:List V)(A:L6):z6 (a9X cx grp ob t A):=.bind (e4L _ _ _ _ _) fun o=>.lift _
theorem c7P{t t':List V}:∀{xs:List Operand},(∀x∈xs,t6 t' x=t6 t x)->xs.map (t6 t')=xs.map (t6 t)
 | [],_=>rfl
 | x::xs,h=>by simp only [f9z];rw [h x (by simp),c7P fun y hy=>h y (by simp [hy])]
theorem c3s{t t':List V}:∀{ps:List (Nat×Operand)},(∀x∈ps.map (·.2),t6 t' x=t6 t x)->(ps.map fun (i,x)=>(i,t6 t' x))=(ps.map fun (i,x)=>(i,t6 t x))
 | [],_=>rfl
 | p::ps,h=>by
  simp only [f9z];rw [h p.2 (by simp),c3s fun y hy=>h y (by simp [hy])]
theorem d1v{t t':List V}{o:Option Operand}(h:∀x∈o.toList,t6 t' x=t6 t x):o.map (t6 t')=o.map (t6 t):=by
 cases o with
 | none=>rfl
 | some x=>simp only [g0i];rw [h x (by simp)]
theorem f4N{cx:Cx}{op:Op}{t t':List V}{A:P4}(h:∀x∈op.operands.toList,t6 t' x=t6 t x):T5 cx op t' A=T5 cx op t A:=by
 cases op<;>try rfl
 case makeFunc fn first captured=>cases fn<;>rfl
 case move x=>simp only [T5];rw [h x (by simp [Op.operands])]
 case assign x=>simp only [T5];rw [h x (by simp [Op.operands])]
 case pick c x y=>simp only [T5];rw [h c (by simp [Op.operands]),h x (by simp [Op.operands]),h y (by simp [Op.operands])]
 case nilCheck x=>simp only [T5];rw [h x (by simp [Op.operands])]
 case binOp o ty x y ty'=>simp only [T5];rw [h x (by simp [Op.operands]),h y (by simp [Op.operands])]
 case unOp o ty x=>simp only [T5];rw [h x (by simp [Op.operands])]
 case convert s d x=>simp only [T5];rw [h x (by simp [Op.operands])]
 case extract x k=>simp only [T5];rw [h x (by simp [Op.operands])]
 case field ty x f=>simp only [T5];rw [h x (by simp [Op.operands])]
 case fieldAddr ty x f=>simp only [T5];rw [h x (by simp [Op.operands])]
 case build ty parts=>simp only [T5];rw [c3s (by simpa [Op.operands] using h)]
 case indexAddr ty x y=>simp only [T5];rw [h x (by simp [Op.operands]),h y (by simp [Op.operands])]
 case index ty x y=>simp only [T5];rw [h x (by simp [Op.operands]),h y (by simp [Op.operands])]
 case slice ty x lo hi mx=>
  cases mx with
  | some m=>rfl
  | none=>
   simp only [T5];rw [h x (by simp [Op.operands]),d1v (o:=lo) (fun y hy=>h y (by simp [Op.operands] at hy⊢;simp [hy])),d1v (o:=hi) (fun y hy=>h y (by simp [Op.operands] at hy⊢;simp [hy]))]
 case call c=>
  obtain ⟨callee,args,tys⟩:=c;simp only [T5];cases callee with
  | value x=>rfl
  | invoke x m=>rfl
  | builtin b=>
   have ha:∀x∈args.toList,t6 t' x=t6 t x:=fun x hx=>h x (by simpa [Op.operands,Call.operands] using hx)
   cases b<;>try rfl
   all_goals
    generalize args.toList=al at ha;generalize tys.toList=tl;rcases al with _|⟨s,_|⟨x,_|⟨y,al⟩⟩⟩<;>rcases tl with _|⟨ty,_|⟨ty',tl⟩⟩<;>try rfl
    all_goals simp only [ha s (by simp)]
    all_goals try simp only [ha x (by simp)]
theorem e37{cx:Cx}{grp:Nat}{ob:Oper}{t t':List V}{A:P4}(h:∀x∈ob.op.operands.toList,t6 t' x=t6 t x):opM cx grp ob t' A=opM cx grp ob t A:=by
 have hp:=f4N (cx:=cx) (A:=A) h;unfold opM;cases ho:ob.op<;>rw [ho] at h hp<;>simp only [hp]
 case box e x=>rw [h x (by simp [Op.operands])]
 case buildSlice ty len parts=>rw [c3s (by simpa [Op.operands] using h)]
 case makeSlice ty l c=>rw [h l (by simp [Op.operands]),h c (by simp [Op.operands])]
 case load ty x=>rw [h x (by simp [Op.operands])]
 case store ty x y=>rw [h x (by simp [Op.operands]),h y (by simp [Op.operands])]
 case makeMap ty r=>cases r<;>simp only [hp]
 case lookup ty x ix ok=>
  have h1:=h x (by simp [Op.operands]);have h2:=h ix (by simp [Op.operands]);cases ok<;>simp only [hp,h1,h2]
 case mapUpdate ty x ix y=>rw [h x (by simp [Op.operands]),h ix (by simp [Op.operands]),h y (by simp [Op.operands])]
 case call c=>
  obtain ⟨callee,args,tys⟩:=c;cases callee with
  | invoke x m=>rfl
  | value fop=>
   have h1:t6 t' fop=t6 t fop:=h fop (by simp [Op.operands,Call.operands]);have h2:args.toList.map (t6 t')=args.toList.map (t6 t):=c7P fun x hx=>h x (by simp [Op.operands,Call.operands] at hx⊢;simp [hx])
   simp only [h1,h2]
  | builtin b=>
   have ha:∀x∈args.toList,t6 t' x=t6 t x:=fun x hx=>h x (by simpa [Op.operands,Call.operands] using hx)
   cases b<;>try rfl
   all_goals
    generalize args.toList=al at ha;generalize tys.toList=tl;rcases al with _|⟨s,_|⟨x,_|⟨y,al⟩⟩⟩<;>rcases tl with _|⟨ty,_|⟨ty',_|⟨ty3,tl⟩⟩⟩<;>try rfl
    all_goals simp only [ha s (by simp),ha x (by simp)]
theorem c7S{t:List V}{dst:Option Nat}{v:V}{x:Operand}(h:∀d,dst=some d->x ≠ .tmp d):t6 (T4 t dst v) x=t6 t x:=by
 cases dst with
 | none=>rfl
 | some d=>
  cases x with
  | tmp k=>
   have:d≠k:=fun q=>h d rfl (by rw [q])
   simp [t6,T4,f9k this]
  | _=>rfl
theorem e7d{S:St}{g j g' j':Nat}{e e':s9}(h:¬(g=g'/\j=j')):(S.setE g j e).setE g' j' e'=(S.setE g' j' e').setE g j e:=by
 by_cases q:g=g'
 ·subst q;have hj:j≠j':=fun z=>h ⟨rfl,z⟩
  cases hx:S.h[g]? with
  | none=>unfold St.setE;simp [hx]
  | some o=>cases o with
   | none=>unfold St.setE;simp [hx]
   | some l=>
    have hlt:=(f8U.1 hx).1;rw [a3E hx,a3E hx,a3E (l:=l.set j e) (by simp [hlt]),a3E (l:=l.set j' e') (by simp [hlt])];simp only [List.set_set];rw [List.set_comm _ _ hj]
 ·unfold St.setE;cases hx:S.h[g]? with
  | none=>
   cases hy:S.h[g']? with
   | none=>simp [hx,hy]
   | some o=>cases o with
    | none=>simp [hx,hy]
    | some l=>simp [hx,hy,f9k (Ne.symm q)]
  | some o=>cases o with
   | none=>
    cases hy:S.h[g']? with
    | none=>simp [hx,hy]
    | some o=>cases o with
     | none=>simp [hx,hy]
     | some l=>simp [hx,hy,f9k (Ne.symm q)]
   | some l=>
    cases hy:S.h[g']? with
    | none=>simp [hx,hy,f9k q]
    | some o=>cases o with
     | none=>simp [hx,hy,f9k q]
     | some l'=>simp [hx,hy,f9k q,f9k (Ne.symm q),List.set_comm _ _ q]
theorem c8l{g j:Nat}{e:s9}:∀{us:List O9} {S:St},(∀u∈us,¬(g=u.1.1/\j=u.1.2))->(S.setE g j e).upds us=(S.upds us).setE g j e
 | [],_,_=>rfl
 | ((g',j'),e')::us,S,h=>by
  simp only [St.upds];rw [e7d (h ((g',j'),e') (by simp)),c8l fun u hu=>h u (by simp [hu])]
theorem b3p:∀{us vs:List O9} {S:St},(∀u∈us,∀v∈vs,u.1≠v.1)->(S.upds us).upds vs=(S.upds vs).upds us
 | [],_,_,_=>rfl
 | ((g,j),e)::us,vs,S,h=>by
  simp only [St.upds];rw [b3p fun u hu=>h u (by simp [hu]),c8l fun v hv q=>h ((g,j),e) (by simp) v hv (Prod.ext q.1 q.2)]
theorem e3g{S:St}{g g':Nat}{n n':List s9}(h:g≠g'):(S.lay g n).lay g' n'=(S.lay g' n').lay g n:=by
 simp [St.lay,List.set_comm _ _ h]
theorem f1u{t:List V}{d d':Option Nat}{v v':V}(h:∀k,d=some k->d'≠some k):T4 (T4 t d v) d' v'=T4 (T4 t d' v') d v:=by
 cases d with
 | none=>rfl
 | some k=>cases d' with
  | none=>rfl
  | some k'=>
   have:k≠k':=fun q=>h k rfl (by rw [q])
   simp [T4,List.set_comm _ _ this]
def a39(S:St)(t:List V):St:={S with t:=t}
def hp(S:St)(grp:Nat)(o:B6):St:=match o.new with
 | none=>S.upds o.upd
 | some new=>(S.upds o.upd).lay grp new
theorem c3g(S:St)(grp:Nat)(dst:Option Nat)(o:B6):S.apply grp dst o=a39 (hp S grp o) (T4 S.t dst o.v):=by
 unfold St.apply hp a39;cases o.new with
 | none=>simp only [St.upds_t]
 | some new=>simp only [St.lay,St.upds_t]
theorem e25(S:St)(t:List V)(g j:Nat)(e:s9):(a39 S t).setE g j e=a39 (S.setE g j e) t:=by
 unfold a39 St.setE;simp only;split<;>rfl
theorem c7i(t:List V):∀(us:List O9) (S:St),(a39 S t).upds us=a39 (S.upds us) t
 | [],_=>rfl
 | ((g,j),e)::us,S=>by simp only [St.upds];rw [e25,c7i]
theorem f3n(S:St)(t:List V)(grp:Nat)(o:B6):hp (a39 S t) grp o=a39 (hp S grp o) t:=by
 unfold hp;cases o.new with
 | none=>simp only [c7i]
 | some new=>simp only [c7i];rfl
theorem f4n{S:St}{g g':Nat}{o o':B6}(hg:g≠g')(h1:∀u∈o.upd,∀v∈o'.upd,u.1≠v.1)(h2:∀u∈o.upd,u.1.1≠g')(h3:∀u∈o'.upd,u.1.1≠g):hp (hp S g o) g' o'=hp (hp S g' o') g o:=by
 unfold hp;cases o.new with
 | none=>cases o'.new with
  | none=>simp only;exact b3p h1
  | some n'=>simp only;rw [<-a9J o.upd _ h2,b3p h1]
 | some n=>cases o'.new with
  | none=>simp only;rw [<-a9J o'.upd _ h3,b3p h1]
  | some n'=>
   simp only;rw [<-a9J o'.upd _ h3,<-a9J o.upd _ h2,b3p h1,e3g hg]
theorem f5k{S:St}{grp:Nat}{o:B6}{g j:Nat}(h1:g≠grp)(h2:∀u∈o.upd,u.1≠(g,j)):(hp S grp o).ent g j=S.ent g j:=by
 have:(S.upds o.upd).ent g j=S.ent g j:=by
  refine b92 ?_;unfold b0y;rw [f8S];intro u hu;have:=h2 u hu;simp only [f9v,Bool.and_eq_false_iff,beq_eq_false_iff_ne];by_cases q:g=u.1.1
  ·right
   intro z;exact this (Prod.ext q.symm z.symm)
  ·exact .inl q
 unfold hp;cases o.new with
 | none=>exact this
 | some new=>simp only;rw [a9q h1];exact this
section
variable {cx:Cx} {ops:Array Oper} {base:Nat} {A:Nat->L6}
theorem d0x{i:Nat}{S S':St}{ps:List Prop}{ft:Z2}(h:Z9 cx ops base A i S=some (S',ps,ft)):∃o out,ops[i]?=some o/\S'=S.apply (base+i) o.dst out/\ft.wr=out.upd.map (·.1)/\
  ∀T:St,(∀x∈o.op.operands.toList,t6 T.t x=t6 S.t x)->a7B ops o T.t=a7B ops o S.t->(∀id∈ft.rd,T.ent id.1 id.2=S.ent id.1 id.2)->Z9 cx ops base A i T=some (T.apply (base+i) o.dst out,ps,ft):=by
 unfold Z9 at h;split at h<;>try (cases h;done)
 rename_i o ho;split at h<;>try (cases h;done)
 ·rename_i hw;split at h<;>try (cases h;done)
  rename_i out lg hop;injection h with h;injection h with h1 h2;injection h2 with h2 h3;subst h1;subst h2;subst h3;refine ⟨o,out,ho,rfl,rfl,?_⟩;intro T hx hwT hent;have hst:a9X cx (base+i) o T.t (A i)=a9X cx (base+i) o S.t (A i):=by
   unfold a9X;rw [e37 hx]
  have:=e73 cx (base+i) o S.t (A i) S.ent T.ent out lg hop hent;unfold Z9;rw [ho];simp only [hwT,hw,hst,this]
 ·rename_i hw;injection h with h;injection h with h1 h2;injection h2 with h2 h3;subst h1;subst h2;subst h3;refine ⟨o,{v:=.tup []},ho,rfl,rfl,?_⟩;intro T hx hwT hent;unfold Z9;rw [ho];simp only [hwT,hw];rfl
structure Ind(ops:Array Oper)(base:Nat)(x i:Nat)(f1 f2:Z2):Prop where
 ne:x≠i
 apart:∀o1 o2,ops[x]?=some o1->ops[i]?=some o2->o1.apart ops o2=true
 w1:∀id∈f1.wr,id ∉ f2.rd/\id ∉ f2.wr
 w2:∀id∈f2.wr,id ∉ f1.rd
 g1:∀id∈f2.rd++f2.wr,id.1≠base+x
 g2:∀id∈f1.rd++f1.wr,id.1≠base+i
theorem d4y{o:Oper}{x:Operand}(hx:x∈o.op.operands.toList){d:Nat}(hd:d ∉ o.looksAt ops):x ≠ .tmp d:=by
 intro q;subst q;apply hd;unfold Oper.looksAt;exact f8P.2 (.inl (List.mem_filterMap.2 ⟨_,hx,rfl⟩))
theorem d2x{o:Oper}{t:List V}{dst:Option Nat}{v:V}(hd:∀d,dst=some d->d ∉ o.looksAt ops):a7B ops o (T4 t dst v)=a7B ops o t:=by
 unfold a7B;split
 ·rfl
 ·rename_i j want hg;cases hj:(ops[j]?).bind (·.dst) with
  | none=>rfl
  | some d=>
   simp only;cases dst with
   | none=>rfl
   | some k=>
    have hk:k≠d:=by
     intro q;subst q;apply hd k rfl;unfold Oper.looksAt;rw [hg];exact f8P.2 (.inr (by simp [hj]))
    simp only [T4,f9k hk]
theorem c1b{S:St}{grp:Nat}{dst:Option Nat}{o:B6}:(S.apply grp dst o).t=T4 S.t dst o.v:=by rw [c3g];rfl
theorem d4H{S:St}{grp:Nat}{dst:Option Nat}{o:B6}{g j:Nat}(h1:g≠grp)(h2:(g,j) ∉ o.upd.map (·.1)):(S.apply grp dst o).ent g j=S.ent g j:=by
 rw [c3g];show (hp S grp o).ent g j=_
 exact f5k h1 fun u hu q=>h2 (f9w.2 ⟨u,hu,q⟩)
theorem e50{x i:Nat}{S S1 S2:St}{p1 p2:List Prop}{f1 f2:Z2}(hx:Z9 cx ops base A x S=some (S1,p1,f1))(hi:Z9 cx ops base A i S1=some (S2,p2,f2))(h:Ind ops base x i f1 f2) :
  ∃S1',Z9 cx ops base A i S=some (S1',p2,f2)/\Z9 cx ops base A x S1'=some (S2,p1,f1):=by
 obtain ⟨o1,out1,ho1,rfl,hw1,hr1⟩:=d0x hx;obtain ⟨o2,out2,ho2,rfl,hw2,hr2⟩:=d0x hi;obtain ⟨a1,a2,a3⟩:=Oper.apart_spec (h.apart o1 o2 ho1 ho2);have e1:=hr2 S (fun z hz=>by rw [c1b,c7S fun d hd=>d4y (ops:=ops) hz (a1 d hd)]) (by rw [c1b,d2x a1]) (fun id hid=>by
  refine (d4H (h.g1 id (f8P.2 (.inl hid))) ?_).symm;rw [<-hw1];exact fun q=>(h.w1 id q).1 hid)
 refine ⟨_,e1,?_⟩;have e2:=hr1 (S.apply (base+i) o2.dst out2) (fun z hz=>by rw [c1b,c7S fun d hd=>d4y (ops:=ops) hz (a3 d hd)]) (by rw [c1b,d2x a3]) (fun id hid=>by
  refine d4H (h.g2 id (f8P.2 (.inl hid))) ?_;rw [<-hw2];exact fun q=>h.w2 id q hid)
 rw [e2];congr 2
 simp only [c3g,f3n];have hh:hp (hp S (base+x) out1) (base+i) out2=hp (hp S (base+i) out2) (base+x) out1:=by
  refine f4n (fun q=>h.ne (by omega)) ?_ ?_ ?_
  ·intro u hu v hv q;have m1:u.1∈f1.wr:=by rw [hw1];exact f9w.2 ⟨u,hu,rfl⟩
   have m2:v.1∈f2.wr:=by rw [hw2];exact f9w.2 ⟨v,hv,rfl⟩
   exact (h.w1 _ m1).2 (q▸m2)
  ·intro u hu;exact h.g2 _ (f8P.2 (.inr (by rw [hw1];exact f9w.2 ⟨u,hu,rfl⟩)))
  ·intro u hu;exact h.g1 _ (f8P.2 (.inr (by rw [hw2];exact f9w.2 ⟨u,hu,rfl⟩)))
 rw [hh];unfold a39;simp only;rw [f1u (fun k hk q=>a2 k hk q)]
abbrev Rc:=Nat->List Prop×Z2
theorem d2p{rc:Rc}{i:Nat}:∀{l m:List Nat} {S S':St},(∀x∈l,Ind ops base x i (rc x).2 (rc i).2)->a1o cx ops base A (l++i::m) S=some (S',(l++i::m).map rc)->a1o cx ops base A (i::(l++m)) S=some (S',(i::(l++m)).map rc)
 | [],m,S,S',_,h=>h
 | x::l,m,S,S',hind,h=>by
  obtain ⟨S1,r,rs,h1,h2,h3⟩:=b11 h;simp only [g0M,f9z] at h3;injection h3 with h3 h4;subst h3;subst h4;have h5:=d2p (fun y hy=>hind y (by simp [hy])) h2;obtain ⟨S2,r2,rs2,h6,h7,h8⟩:=b11 h5;simp only [f9z] at h8;injection h8 with h8 h9;subst h8;subst h9;obtain ⟨S1',e1,e2⟩:=e50 (p1:=(rc x).1) (f1:=(rc x).2) (p2:=(rc i).1) (f2:=(rc i).2) h1 h6 (hind x (by simp));have e2':Z9 cx ops base A x S1'=some (S2,rc x):=e2;have e1':Z9 cx ops base A i S=some (S1',rc i):=e1;simp only [g0M,a1o,e1',e2',h7,f9z]
end
def a3n(ops:Array Oper)(i:Nat):List Nat:=
 match ops[i]? with
 | some o=>(o.after.toList.filter (Region.binds .any)).map (·.on)
 | none=>[]
def a4i(ops:Array Oper):Nat->List (List Nat)
 | 0=>[]
 | k+1=>let L:=a4i ops k;L++[(a3n ops k).flatMap fun e=>e::L.getD e []]
def a87(ops:Array Oper)(i:Nat):List Nat:=(a4i ops (i+1)).getD i []
theorem a8R(ops:Array Oper):∀k,(a4i ops k).length=k
 | 0=>rfl
 | k+1=>by simp [a4i,a8R ops k]
theorem c2e(ops:Array Oper)(i:Nat):∀k,i<k->(a4i ops k).getD i []=a87 ops i
 | k+1,h=>by
  by_cases q:i=k
  ·subst q;rfl
  ·have:i<k:=by omega
   rw [<-c2e ops i k this];simp only [a4i,f9d];rw [f9l (by rw [a8R];exact this)]
theorem e1u(ops:Array Oper)(i:Nat):a87 ops i=(a3n ops i).flatMap fun e=>e::(a4i ops i).getD e []:=by
 unfold a87;simp only [a4i,f9d];rw [f9h (by rw [a8R];omega),a8R];simp
theorem d1J{ops:Array Oper}{Z7:Array Bool}{i:Nat}(h:i∈Region.ready .any ops Z7):i<ops.size/\Z7.getD i true=false/\∀e∈a3n ops i,Z7.getD e false=true:=by
 unfold Region.ready at h;obtain ⟨h1,h2⟩:=f9V.1 h;have hlt:=f9P.1 h1;simp only [f8R,f9v] at h2;refine ⟨hlt,h2.1,?_⟩;intro e he;unfold a3n at he;rw [Array.getElem?_eq_getElem hlt] at he h2;simp only [f9w,f9V] at he;obtain ⟨ed,⟨hm,hb⟩,rfl⟩:=he;have:=h2.2;simp only [g0i,g0d,Array.all_eq_true_iff_forall_mem] at this;have:=this ed (by simpa using hm);simpa [hb] using this
theorem e9f{ops:Array Oper}{Z7:Array Bool}{i:Nat}(hlt:i<ops.size)(hl:Z7.getD i true=false)(he:∀e∈a3n ops i,Z7.getD e false=true):i∈Region.ready .any ops Z7:=by
 unfold Region.ready;refine f9V.2 ⟨f9P.2 hlt,?_⟩;rw [Array.getElem?_eq_getElem hlt];simp only [hl,f9x,g0i,g0d,f8Y,Array.all_eq_true_iff_forall_mem];intro ed hm;by_cases hb:Region.binds .any ed=true
 ·have:ed.on∈a3n ops i:=by
   unfold a3n;rw [Array.getElem?_eq_getElem hlt];exact f9w.2 ⟨ed,f9V.2 ⟨by simpa using hm,hb⟩,rfl⟩
  simp [he _ this]
 ·simp [hb]
section
variable {cx:Cx} {Γ:O7} {ops:Array Oper} {base:Nat} {A:Nat->L6} {Q:Exit->Act->World->Prop} {S':St} {rc:Rc}
theorem f1X(c9J:∀i,i<ops.size->∀e∈a3n ops i,e<i)(hind:∀x i,x<i->i<ops.size->x ∉ a87 ops i->Ind ops base x i (rc x).2 (rc i).2)(hob:∀i,i<ops.size->∀p∈(rc i).1,p)(hQ:∀a' w' F' ι',u6 Γ F' ι' S' a' w'->Q .normal a' w'):∀(fuel:Nat) (R:List Nat) (Z7:Array Bool) (S:St) (F:Nat->Prop) (ι:Nat->Nat->Value) (a:Act) (w:World),
  R.length=fuel->Z7.size=ops.size->R.Pairwise (· < ·)->(∀i,i<ops.size->(Z7.getD i true=false↔i∈R))->(∀i∈R,i<ops.size)->(∀i,i<ops.size->i ∉ R->∀x∈a87 ops i,x ∉ R)->
  u6 Γ F ι S a w->(∀i∈R,base+i<S.h.length/\¬S.D (base+i))->a1o cx ops base A R S=some (S',R.map rc)->wpAny cx.P .any ops Q fuel Z7 a w:=by
 intro fuel;induction fuel with
 | zero=>
  intro R Z7 S F ι a w hR hsz hpw hlist hlt hdown hrel hfree hrun;have:R=[]:=f9b hR;subst this;unfold a1o at hrun;injection hrun with hrun;injection hrun with h1 h2;subst h1;refine ⟨?_,hQ _ _ _ _ hrel⟩;rw [List.eq_nil_iff_forall_not_mem];intro i hi;obtain ⟨h1,h2,_⟩:=d1J hi;have:=(hlist i h1).1 h2;simp at this
 | succ fuel ih=>
  intro R Z7 S F ι a w hR hsz hpw hlist hlt hdown hrel hfree hrun;refine ⟨fun d9v => ?_,fun i hi => ?_⟩
  ·exfalso
   cases R with
   | nil=>simp at hR
   | cons r R=>
    have hr:=hlt r (by simp);have hrd:r∈Region.ready .any ops Z7:=by
     refine e9f hr ((hlist r hr).2 (by simp)) ?_;intro e he;have hlt':=c9J r hr e he;have hen:e ∉ r::R:=by
      intro q;rcases f8X.1 q with q|q
      ·omega
      ·have:=(g0l.1 hpw).1 e q;omega
     have:=mt (hlist e (by omega)).1 hen;have hes:e<Z7.size:=by omega
     simp only [Array.getD_eq_getD_getElem?,Array.getElem?_eq_getElem hes,g0d] at this⊢;simpa using this
    rw [d9v] at hrd;simp at hrd
  ·obtain ⟨hi1,hi2,hi3⟩:=d1J hi;have hiR:=(hlist i hi1).1 hi2;obtain ⟨A1,B1,hAB⟩:=List.append_of_mem hiR;have hpw':=hpw;rw [hAB] at hpw';obtain ⟨hpA,hpB,hpAB⟩:=g0F.1 hpw';have hcl:∀x∈a87 ops i,x ∉ R:=by
    intro x hx;rw [e1u] at hx;obtain ⟨e,he,hx⟩:=List.mem_flatMap.1 hx;have hel:=c9J i hi1 e he;have heR:e ∉ R:=by
     intro q;have h1:=(hlist e (by omega)).2 q;have h2:=hi3 e he;have hes:e<Z7.size:=by omega
     simp only [Array.getD_eq_getD_getElem?,Array.getElem?_eq_getElem hes,g0d] at h1 h2;rw [h1] at h2;cases h2
    rcases f8X.1 hx with rfl|hx
    ·exact heR
    ·rw [c2e ops e i hel] at hx;exact hdown e (by omega) heR x hx
   have hfront:=d2p (cx:=cx) (A:=A) (rc:=rc) (i:=i) (l:=A1) (m:=B1) (S:=S) (S':=S') (fun x hx=>by
    have hxR:x∈R:=by rw [hAB];simp [hx]
    exact hind x i (hpAB x hx i (by simp)) hi1 (fun q=>hcl x q hxR)) (by rw [<-hAB];exact hrun)
   obtain ⟨S1,r,rs,h1,h2,h3⟩:=b11 hfront;simp only [f9z] at h3;injection h3 with h3 h4;subst h3;subst h4;obtain ⟨hD,hl⟩:=d32 (ps:=(rc i).1) (ft:=(rc i).2) h1;refine d7B hrel (hfree i hiR).1 (hfree i hiR).2 (ps:=(rc i).1) (ft:=(rc i).2) h1 (hob i hi1) fun a' w' F' ι' hrel' => ?_
   have hsub:∀j,j∈A1++B1↔(j∈R/\j≠i):=by
    intro j;rw [hAB];simp only [f8P,f8X];constructor
    ·intro hj;refine ⟨by rcases hj with q|q<;>simp [q],?_⟩;rintro rfl
     rcases hj with q|q
     ·have:=hpAB j q j (by simp);omega
     ·have:=(g0l.1 hpB).1 j q;omega
    ·rintro ⟨q|rfl|q,hne⟩
     ·exact .inl q
     ·exact absurd rfl hne
     ·exact .inr q
   refine ih (A1++B1) _ S1 F' ι' a' w' ?_ (by simp [hsz]) ?_ ?_ ?_ ?_ hrel' ?_ h2
   ·rw [hAB] at hR;simp at hR⊢;omega
   ·refine g0F.2 ⟨hpA,(g0l.1 hpB).2,fun x hx y hy=>hpAB x hx y (by simp [hy])⟩
   ·intro j hj;rw [hsub];have hjs:j<Z7.size:=by omega
    simp only [Array.getD_eq_getD_getElem?];by_cases q:j=i
    ·subst q;simp [hjs]
    ·rw [Array.getElem?_setIfInBounds_ne (Ne.symm q),<-hlist j hj,Array.getD_eq_getD_getElem?];simp [q]
   ·intro j hj;exact hlt j ((hsub j).1 hj).1
   ·intro j hj hjn x hx hxm;have hxR:=((hsub x).1 hxm).1;by_cases q:j=i
    ·subst q;exact hcl x hx hxR
    ·exact hdown j hj (fun z=>hjn ((hsub j).2 ⟨z,q⟩)) x hx hxR
   ·intro j hj;have hjR:=((hsub j).1 hj)
    refine ⟨by rw [hl];exact (hfree j hjR.1).1,fun x => ?_⟩;rcases hD _ x with y|y
    ·exact (hfree j hjR.1).2 y
    ·exact hjR.2 (by omega)
end
def c0D(l:List Nat)(x:Nat):Bool:=l.any fun y=>y==x
theorem f4u{l:List Nat}{x:Nat}:c0D l x=true↔x∈l:=by
 unfold c0D;rw [g0p];constructor
 ·rintro ⟨y,hy,h⟩
  simp at h;exact h▸hy
 ·intro h;exact ⟨x,h,by simp⟩
def dnN:List Nat->List Nat
 | []=>[]
 | x::xs=>if c0D (dnN xs) x then dnN xs else x::dnN xs
theorem c4v{x:Nat}:∀{l:List Nat},x∈dnN l->x∈l
 | y::l,h=>by
  unfold dnN at h;split at h
  ·exact f8X.2 (.inr (c4v h))
  ·rcases f8X.1 h with rfl|h
   ·simp
   ·exact f8X.2 (.inr (c4v h))
def a8K(ops:Array Oper):Nat->List (List Nat)
 | 0=>[]
 | k+1=>let L:=a8K ops k;L++[dnN ((a3n ops k).flatMap fun e=>e::L.getD e [])]
theorem b51(ops:Array Oper):∀k,(a8K ops k).length=k
 | 0=>rfl
 | k+1=>by simp [a8K,b51 ops k]
theorem c44(ops:Array Oper):∀k i,∀x∈(a8K ops k).getD i [],x∈(a4i ops k).getD i []
 | 0,i,x,h=>by simp [a8K] at h
 | k+1,i,x,h=>by
  simp only [a8K,a4i,f9d] at h⊢;by_cases q:i<k
  ·rw [f9l (by rw [b51];exact q)] at h;rw [f9l (by rw [a8R];exact q)];have:=c44 ops k i x (by rw [f9d];exact h);rwa [f9d] at this
  ·rw [f9h (by rw [b51];omega),b51] at h;rw [f9h (by rw [a8R];omega),a8R];by_cases q':i=k
   ·subst q';simp only [Nat.sub_self,f9Z,g0d] at h⊢;obtain ⟨e,he,hx⟩:=List.mem_flatMap.1 (c4v h);refine List.mem_flatMap.2 ⟨e,he,?_⟩;rcases f8X.1 hx with rfl|hx
    ·simp
    ·have:=c44 ops i e x (by rw [f9d];exact hx);rw [f9d] at this;exact f8X.2 (.inr this)
   ·have:i-k=(i-k-1)+1:=by omega
    rw [this] at h;simp at h
def c1r(ops:Array Oper)(base x i:Nat)(f1 f2:Z2):Bool:=
  (match ops[x]?,ops[i]? with
   | some o1,some o2=>o1.apart ops o2
   | _,_=>false) &&
  f1.wr.all (fun id => !a1Q f2.rd id && !a1Q f2.wr id)&&f2.wr.all (fun id => !a1Q f1.rd id) &&
  f2.rd.all (fun id => !(id.1==base+x))&&f2.wr.all (fun id => !(id.1==base+x)) &&
  f1.rd.all (fun id => !(id.1==base+i))&&f1.wr.all (fun id => !(id.1==base+i))
theorem b8A{l:List (Nat×Nat)}{x:Nat×Nat}(h:(!a1Q l x)=true):x ∉ l:=by
 intro q;rw [a57.2 q] at h;cases h
theorem f5J{ops:Array Oper}{base x i:Nat}{f1 f2:Z2}(hne:x<i)(h:c1r ops base x i f1 f2=true):Ind ops base x i f1 f2:=by
 unfold c1r at h;simp only [f8R] at h;obtain ⟨⟨⟨⟨⟨⟨h1,h2⟩,h3⟩,h4⟩,h5⟩,h6⟩,h7⟩:=h;refine ⟨by omega,?_,?_,?_,?_,?_⟩
 ·intro o1 o2 e1 e2;rw [e1,e2] at h1;exact h1
 ·intro id hid;have:=f8S.1 h2 id hid;simp only [f8R] at this;exact ⟨b8A this.1,b8A this.2⟩
 ·intro id hid;exact b8A (f8S.1 h3 id hid)
 ·intro id hid;rcases f8P.1 hid with q|q
  ·have:=f8S.1 h4 id q;simpa using this
  ·have:=f8S.1 h5 id q;simpa using this
 ·intro id hid;rcases f8P.1 hid with q|q
  ·have:=f8S.1 h6 id q;simpa using this
  ·have:=f8S.1 h7 id q;simpa using this
def d13(ops:Array Oper)(base:Nat)(L:List (List Nat))(fs:List Z2):Bool:=
 (f8W ops.size).all fun i=>
  (a3n ops i).all (fun e=>Nat.blt e i) &&
  (f8W i).all fun x=>c0D (L.getD i []) x||c1r ops base x i (fs.getD x ⟨[],[]⟩) (fs.getD i ⟨[],[]⟩)
def c2K(A:List (Nat×L6))(i:Nat):L6:=
 match A with
 | []=>{}
 | (j,x)::A=>if j==i then x else c2K A i
def c0v:List (List Prop×Z2)->List Prop
 | []=>[]
 | r::rs=>r.1++c0v rs
theorem d33{rs:List (List Prop×Z2)}(h:∀p∈c0v rs,p):∀r∈rs,∀p∈r.1,p:=by
 induction rs with
 | nil=>intro r hr;cases hr
 | cons r rs ih=>
  intro r' hr p hp;rcases f8X.1 hr with rfl|hr
  ·exact h p (f8P.2 (.inl hp))
  ·exact ih (fun p hp=>h p (f8P.2 (.inr hp))) r' hr p hp
def a4e:Nat->List (Option (List s9))
 | 0=>[]
 | n+1=>none::a4e n
theorem c70:∀(n i:Nat) (l:List s9),(a4e n)[i]?≠some (some l)
 | 0,i,l=>by simp [a4e]
 | n+1,0,l=>by simp [a4e]
 | n+1,i+1,l=>by simpa [a4e] using c70 n i l
theorem c9d:∀n,(a4e n).length=n
 | 0=>rfl
 | n+1=>by simp [a4e,c9d n]
def St.more(S:St)(n:Nat):St:={S with h:=S.h++a4e n}
theorem c0l{S:St}{n g:Nat}{l:List s9}:(S.more n).h[g]?=some (some l)↔S.h[g]?=some (some l):=by
 unfold St.more;simp only;by_cases q:g<S.h.length
 ·rw [f9l q]
 ·rw [f9h (by omega)];constructor
  ·intro h;exact absurd h (c70 _ _ _)
  ·intro h;have:=(f8U.1 h).1;omega
theorem a9G{S:St}{n g:Nat}:(S.more n).D g↔S.D g:=by
 unfold St.D;constructor
 ·rintro ⟨l,h⟩
  exact ⟨l,c0l.1 h⟩
 ·rintro ⟨l,h⟩
  exact ⟨l,c0l.2 h⟩
theorem b5i{S:St}{n g j:Nat}:(S.more n).ent g j=S.ent g j:=by
 have key:∀e,(S.more n).ent g j=some e↔S.ent g j=some e:=by
  intro e;constructor
  ·intro h;obtain ⟨l,hl⟩:=St.D_of_ent h;rw [a1D hl] at h;rw [a1D (c0l.1 hl)];exact h
  ·intro h;obtain ⟨l,hl⟩:=St.D_of_ent h;rw [a1D hl] at h;rw [a1D (c0l.2 hl)];exact h
 cases h:S.ent g j with
 | some e=>exact (key e).2 h
 | none=>
  cases h':(S.more n).ent g j with
  | none=>rfl
  | some e=>rw [(key e).1 h'] at h;cases h
theorem u6.more{Γ:O7}{F:Nat->Prop}{ι:Nat->Nat->Value}{S:St}{a:Act}{w:World}(h:u6 Γ F ι S a w)(n:Nat):u6 Γ F ι (S.more n) a w:=
  { F0:=h.F0,F1:=h.F1,F2:=h.F2,kept:=h.kept
    tmps:=h.tmps.imp fun _ _ x=>x.mono (fun _ _ _=>rfl) (fun _ y=>y) (fun g y=>a9G.2 y) (fun _ _ _=>rfl)
    ents:=fun g j e he=>(h.ents g j e (b5i▸he)).mono (fun _ _ _=>rfl) (fun _ y=>y) (fun g y=>a9G.2 y) (fun _ _ _=>rfl) (fun _ _ _=>rfl)
    sep:=fun g j e k he=>h.sep g j e k (b5i▸he)
    inj:=fun g j e g' j' e' k he he'=>h.inj g j e g' j' e' k (b5i▸he) (b5i▸he')
    defers:=h.defers
    pins:=fun j c hc=>⟨a9G.2 (h.pins j c hc).1,(h.pins j c hc).2⟩}
def c5K(cx:Cx)(ops:Array Oper)(draw:Bool)(A:List (Nat×L6))(S:St):Option (St×List Prop):=
 match a1o cx ops S.h.length (c2K A) (f8W ops.size) (S.more ops.size) with
 | none=>none
 | some (S',rs)=>if draw then (if d13 ops S.h.length (a8K ops ops.size) (rs.map (·.2)) then some (S',c0v rs) else none) else some (S',c0v rs)
section
variable {cx:Cx} {Γ:O7} {F:Nat->Prop} {ι:Nat->Nat->Value} {S S':St} {a:Act} {w:World} {ops:Array Oper} {A:List (Nat×L6)}
theorem d8O{base:Nat}{B:Nat->L6}:∀{l:List Nat} {S S':St} {rs:List (List Prop×Z2)},a1o cx ops base B l S=some (S',rs)->rs.length=l.length
 | [],S,S',rs,h=>by
  unfold a1o at h;injection h with h;injection h with h1 h2;subst h2;rfl
 | i::l,S,S',rs,h=>by
  obtain ⟨S1,r,rs',h1,h2,rfl⟩:=b11 h;simp [d8O h2]
theorem f1N{α:Type}(d:α):∀{rs:List α} {n:Nat},rs.length=n->rs=(f8W n).map fun i=>rs.getD i d:=by
 intro rs n h;apply List.ext_getElem
 ·simp [h]
 ·intro i h1 h2;simp [f9d,h1]
theorem f4c{draw:Bool}{id:Nat}{ps:List Prop}{Q:Exit->Act->World->Prop}(h:u6 Γ F ι S a w)(hr:c5K cx ops draw A S=some (S',ps))(hob:∀p∈ps,p)(hQ:∀a' w' F' ι',u6 Γ F' ι' S' a' w'->Q .normal a' w'):(Code.region id ops draw).wp cx.P Q a w:=by
 unfold c5K at hr;split at hr<;>try (cases hr;done)
 rename_i S1 rs hrun;have hfree:∀i∈f8W ops.size,S.h.length+i<(S.more ops.size).h.length/\¬(S.more ops.size).D (S.h.length+i):=by
  intro i hi;refine ⟨by simp [St.more,c9d,f9P.1 hi],fun q => ?_⟩;obtain ⟨l,hl⟩:=a9G.1 q;have:=(f8U.1 hl).1;omega
 cases draw with
 | false=>
  simp only [g0k,if_false] at hr;injection hr with hr;injection hr with h1 h2;subst h1;subst h2;exact wp_region (c8L (h.more ops.size) List.nodup_range hfree hrun (d33 hob) hQ)
 | true=>
  simp only [if_true] at hr;split at hr<;>try (cases hr;done)
  rename_i hap;injection hr with hr;injection hr with h1 h2;subst h1;subst h2;have hw:u6 Γ F ι (S.more ops.size) a {w with drawn:=w.drawn+1}:=(h.more ops.size).world ⟨rfl,rfl,rfl⟩ (f9f _) (fun _ _=>rfl);have hlen:=d8O hrun;rw [List.length_range] at hlen;have hrs:=f1N (([],⟨[],[]⟩):List Prop×Z2) hlen;unfold d13 at hap;rw [f8S] at hap;have hap':∀i,i<ops.size->(∀e∈a3n ops i,e<i)/\∀x,x<i->x ∉ a87 ops i->Ind ops S.h.length x i ((rs.getD x ([],⟨[],[]⟩)).2) ((rs.getD i ([],⟨[],[]⟩)).2):=by
   intro i hi;have:=hap i (f9P.2 hi);simp only [f8R] at this;refine ⟨fun e he => ?_,fun x hx hc => ?_⟩
   ·have:=f8S.1 this.1 e he;rwa [Nat.blt_eq] at this
   ·have h2:=f8S.1 this.2 x (f9P.2 hx);rcases Bool.or_eq_true_iff.1 h2 with q|q
    ·exfalso
     apply hc;have:=c44 ops ops.size i x (f4u.1 q);rwa [c2e ops i ops.size hi] at this
    ·have:=f5J hx q;have hm:∀j,j<rs.length->(rs.map (·.2)).getD j ⟨[],[]⟩=(rs.getD j ([],⟨[],[]⟩)).2:=by
      intro j hj;simp [f9d,hj]
     rw [hm x (by omega),hm i (by omega)] at this;exact this
  refine wp_region_any cx.mixed ?_;have hrange:∀i,i<ops.size->rs.getD i ([],⟨[],[]⟩)∈rs:=by
   intro i hi;have:i<rs.length:=by omega
   simp [f9d,this]
  refine f1X (rc:=fun i=>rs.getD i ([],⟨[],[]⟩)) (base:=S.h.length) (A:=c2K A) (fun i hi=>(hap' i hi).1) (fun x i hx hi hc=>(hap' i hi).2 x hx hc) (fun i hi p hp=>d33 hob _ (hrange i hi) p hp) hQ
   ops.size (f8W ops.size) _ _ F ι a _ (by simp) (by simp) ?_ ?_ ?_ ?_ hw hfree ?_
  ·exact List.pairwise_lt_range
  ·intro i hi;simp [f9P,hi,Array.getD_eq_getD_getElem?]
  ·intro i hi;exact f9P.1 hi
  ·intro i hi hn;exact absurd (f9P.2 hi) hn
  ·rw [<-hrs];exact hrun
end
def mvM(t:List V):List Item->Option (List Item)
 | .code .skip::k=>some k
 | .inBlock _::k=>some k
 | .code (.seq x y)::k=>some (.code x :: .code y::k)
 | .code (.cond c x y)::k=>match t6 t c with
  | .b true=>some (.code x::k)
  | .b false=>some (.code y::k)
  | _=>none
 | .code (.block id c)::k=>some (.code c :: .inBlock id::k)
 | .code (.loop c)::k=>some (.code c :: .inLoop c::k)
 | .inLoop c::k=>some (.code c :: .inLoop c::k)
 | .code (.exit id)::k=>exitTo id k
 | _=>none
abbrev S9:=List (List (Nat×L6))
def goM(cx:Cx):Nat->List Item->St->S9->Option (List Item×St×List Prop)
 | 0,_,_,_=>none
 | n+1,k,S,sc=>
  match k with
  | .code (.region id ops draw)::k'=>match sc with
   | []=>some (k,S,[])
   | A::sc'=>match c5K cx ops draw A S with
    | some (S1,ps)=>match goM cx n k' S1 sc' with
     | some (k2,S2,qs)=>some (k2,S2,ps++qs)
     | none=>none
    | none=>none
  | k=>match mvM S.t k with
   | some k1=>goM cx n k1 S sc
   | none=>match sc with
    | []=>some (k,S,[])
    | _::_=>none
section
variable {cx:Cx} {Γ:O7} {F:Nat->Prop} {ι:Nat->Nat->Value} {S S':St} {a:Act} {w:World} {b:Frame} {cs:List Frame} {k k':List Item}
theorem e1m(h:u6 Γ F ι S a w)(hm:mvM S.t k=some k'):step cx.P (lone (b.at a k) cs w)=.next (lone (b.at a k') cs w):=by
 unfold mvM at hm;split at hm
 ·injection hm with hm;subst hm;exact step_skip
 ·injection hm with hm;subst hm;exact step_inBlock
 ·injection hm with hm;subst hm;exact step_seq
 ·rename_i c x y k0;have hc:=E1 h.tmps c;split at hm<;>try (cases hm;done)
  ·rename_i hx;injection hm with hm;subst hm;rw [hx] at hc;have:=step_cond (P:=cx.P) (b:=b) (k:=k0) (cs:=cs) (w:=w) (x:=x) (y:=y) hc.inv_b;simpa using this
  ·rename_i hx;injection hm with hm;subst hm;rw [hx] at hc;have:=step_cond (P:=cx.P) (b:=b) (k:=k0) (cs:=cs) (w:=w) (x:=x) (y:=y) hc.inv_b;simpa using this
 ·injection hm with hm;subst hm;exact step_block
 ·injection hm with hm;subst hm;exact step_loop
 ·injection hm with hm;subst hm;exact step_inLoop
 ·exact step_exit hm
 ·cases hm
theorem f2n:∀{n:Nat} {k:List Item} {S:St} {F:Nat->Prop} {ι:Nat->Nat->Value} {a:Act} {w:World} {sc:S9} {ps:List Prop},u6 Γ F ι S a w->goM cx n k S sc=some (k',S',ps)->(∀p∈ps,p)->
  ∃a' w' F' ι',Steps cx.P (lone (b.at a k) cs w) (lone (b.at a' k') cs w')/\u6 Γ F' ι' S' a' w':=by
 intro n;induction n with
 | zero=>intro k S F ι a w sc ps h hg hob;cases hg
 | succ n ih=>
  intro k S F ι a w sc ps h hg hob;unfold goM at hg;split at hg
  ·rename_i id ops draw k0;split at hg
   ·injection hg with hg;injection hg with h1 h2;injection h2 with h2 h3;subst h1;subst h2;exact ⟨a,w,F,ι,.refl _ _,h⟩
   ·rename_i A sc';split at hg<;>try (cases hg;done)
    rename_i S1 qs hr;split at hg<;>try (cases hg;done)
    rename_i k2 S2 rs hg2;injection hg with hg;injection hg with h1 h2;injection h2 with h2 h3;subst h1;subst h2;subst h3;have hwp:=f4c (cx:=cx) (draw:=draw) (id:=id) (Q:=fun e a' w'=>e=.normal/\∃F' ι',u6 Γ F' ι' S1 a' w') h hr (fun p hp=>hob p (f8P.2 (.inl hp)))
     (fun a' w' F' ι' hrel=>⟨rfl,F',ι',hrel⟩)
    obtain ⟨e,a1,w1,⟨he,F1,ι1,h1⟩,harr⟩:=hwp b k0 cs;subst he;obtain ⟨a2,w2,F2,ι2,hs,h2⟩:=ih h1 hg2 (fun p hp=>hob p (f8P.2 (.inr hp)));exact ⟨a2,w2,F2,ι2,Steps.trans harr hs,h2⟩
  ·split at hg
   ·rename_i k1 hm;obtain ⟨a2,w2,F2,ι2,hs,h2⟩:=ih h hg hob;exact ⟨a2,w2,F2,ι2,.head (e1m h hm) hs,h2⟩
   ·split at hg<;>try (cases hg;done)
    injection hg with hg;injection hg with h1 h2;injection h2 with h2 h3;subst h1;subst h2;exact ⟨a,w,F,ι,.refl _ _,h⟩
end
structure P3 where
 f:Nat
 fn:Func
 rms:List PM
 oms:List (Option (Nat×PM))
def d2d(w:World)(F:Nat->Prop)(fp:List Nat)(cargs:List Value)(res:V)(outs:List (Option V))(e:Ending)(w':World):Prop:=
 ∃ c F' fr fo,e=.returned c/\a3Q (· ∈ fp) w w'/\(∀k,F k->F' k)/\(∀k,F' k->(F k\/k∈fp\/w.heap.size<=k)/\k<w'.heap.size)/\
   BR w' F' res c fr/\BO w' F' outs cargs fo/\(fr++fo).Nodup/\∀k∈fr++fo,¬F' k/\(k∈fp\/w.heap.size<=k)/\k<w'.heap.size
def PM.isVal:PM->Bool
 | .val .. => true
 | _=>false
def a6f(bs:List Value):List (Option Nat)->Nat->List Value->Prop
 | [],_,[]=>True
 | none::om,j,d::ds=>d.oneCell'=true/\a6f bs om j ds
 | some _::om,j,d::ds=>bs[j]?=some d/\a6f bs om (j+1) ds
 | _,_,_=>False
inductive a16:List (Option (Nat×PM))->List Value->List Value->Prop
 | nil (bs):a16 [] [] bs
 | skip (oms c cs bs) (t:a16 oms cs bs):a16 (none::oms) (c::cs) bs
 | pin (j m oms c cs bs) (hm:m.isVal=false) (h:bs[j]?=some c) (t:a16 oms cs bs):a16 (some (j,m)::oms) (c::cs) bs
 | agg (j ck om oms ds cs bs) (h:a6f bs om j ds) (t:a16 oms cs bs):a16 (some (j,.val ck om)::oms) (.agg ds.toArray::cs) bs
def K7(cx:Cx)(X:P3)(res:V)(outs:List (Option V))(k:List Item)(S:St):Prop:=
 ∀(w0:World) (F0:Nat->Prop) (fp:List Nat) (cargs bs:List Value),a16 X.oms cargs bs->(∀k,F0 k->k<w0.heap.size)->
 ∀(F:Nat->Prop) (ι:Nat->Nat->Value) (a:Act) (w:World) (b:Frame) (cs:List Frame),u6 ⟨w0,F0,(· ∈ fp),bs⟩ F ι S a w->b.fn=X.f->b.kind=.normal->
  ∃e w' fr,d2d w0 F0 fp cargs res outs e w'/\Comes cx.P (lone (b.at a k) cs w) (lone fr cs w') e/\fr.fn=X.f/\fr.leaving cx.P w' e
theorem K7.go{cx:Cx}{X:P3}{res:V}{outs:List (Option V)}{k k':List Item}{S S':St}{n:Nat}{sc:S9}{ps:List Prop}(hg:goM cx n k S sc=some (k',S',ps))(hob:∀p∈ps,p)(h:K7 cx X res outs k' S'):K7 cx X res outs k S:=by
 intro w0 F0 fp cargs bs hp hF0 F ι a w b cs hrel hb1 hb2;obtain ⟨a',w',F',ι',hs,hrel'⟩:=f2n (b:=b) (cs:=cs) hrel hg hob;obtain ⟨e,w2,fr,h1,h2,h3,h4⟩:=h w0 F0 fp cargs bs hp hF0 F' ι' a' w' b cs hrel' hb1 hb2;exact ⟨e,w2,fr,h1,.of_steps hs h2,h3,h4⟩
def c7h(cx:Cx)(t:List V)(r:ResultVar):j8 V:=
 match r with
 | .tmp k=>j8.pure (t.getD k .bot)
 | .cell a ty=>match cx.T ty with
  | some ti=>match t.getD a .bot with
   | .ptr g j off=>j8.bind (j8.rd g j) fun e=>match e with
    | .var _ cs=>match U0 ti (cs.drop off) with
     | some v=>j8.pure v
     | none=>j8.no
    | _=>j8.no
   | _=>j8.no
  | none=>j8.no
def c2f(cx:Cx)(t:List V):List ResultVar->j8 (List V)
 | []=>j8.pure []
 | r::rs=>j8.bind (c7h cx t r) fun v=>j8.bind (c2f cx t rs) fun vs=>j8.pure (v::vs)
def c0A:List (Option Nat)->Nat->j8 (List V)
 | [],_=>j8.pure []
 | none::om,j=>j8.bind (c0A om j) fun vs=>j8.pure (.bot::vs)
 | some _::om,j=>j8.bind (j8.rd 0 j) fun e=>j8.bind (c0A om (j+1)) fun vs=>match e with
  | .row _ sz n _=>j8.pure (.own 0 j sz 0 n::vs)
  | .deep false _ sz n _=>j8.pure (.own 0 j sz 0 n::vs)
  | _=>j8.no
def a8e:List (Option (Nat×PM))->j8 (List V×List PM)
 | []=>j8.pure ([],[])
 | none::os=>a8e os
 | some (j,.val ck om)::os=>j8.bind (c0A om j) fun cs=>j8.bind (a8e os) fun x=>j8.pure (.agg cs::x.1,.val ck om::x.2)
 | some (j,m)::os=>j8.bind (j8.rd 0 j) fun e=>match m,e with
  | .ptr _ _,.var _ _=>j8.bind (a8e os) fun x=>j8.pure (.ptr 0 j 0::x.1,m::x.2)
  | .row,.row _ sz n _=>j8.bind (a8e os) fun x=>j8.pure (.own 0 j sz 0 n::x.1,m::x.2)
  | .row,.deep false _ sz n _=>j8.bind (a8e os) fun x=>j8.pure (.own 0 j sz 0 n::x.1,m::x.2)
  | _,_=>j8.no
def c0P:List V->V
 | [v]=>v
 | vs=>.tup vs
def a8c:List (Option (Nat×PM))->List V->List (Option V)
 | [],_=>[]
 | none::os,vs=>none::a8c os vs
 | some _::os,v::vs=>some v::a8c os vs
 | some _::os,[]=>none::a8c os []
def c45(cx:Cx)(X:P3)(t:List V):j8 (AR (List V)×Nat):=
 j8.bind (c2f cx t X.fn.results.toList) fun rv=>j8.bind (a8e X.oms) fun ov=>j8.bind (a1J (X.rms++ov.2) (rv++ov.1)) fun r=>
  if a3q r.ks&&r.ls.all (fun id => !a1Q r.ks id)&&Nat.beq rv.length X.rms.length then j8.pure (r,rv.length) else j8.no
def c32(cx:Cx)(X:P3)(k:List Item)(S:St):Option (V×List (Option V)×List Prop):=
 match k with
 | .code .ret::_|[]=>match c45 cx X S.t S.ent with
  | some ((r,n),_)=>some (c0P (r.v.take n),a8c X.oms (r.v.drop n),r.obl)
  | none=>none
 | _=>none
section
variable {cx:Cx} {Γ:O7} {F:Nat->Prop} {ι:Nat->Nat->Value} {S S':St} {a:Act} {w:World} {b:Frame} {cs:List Frame} {k k':List Item}
theorem c83(h:u6 Γ F ι S a w)(k:Nat):RV w F S.D ι (S.t.getD k .bot) (a.tmps.getD k undef):=E1 h.tmps (.tmp k)
def b8n(P:Program)(tmps:Array Value)(w:World)(r:ResultVar)(c:Value):Prop:=
  ((match r with
    | .tmp t=>pure (tmps.getD t undef)
    | .cell a t=>do loadVar t (<-asAddr (tmps.getD a undef))):Sem Value).run P w=.ok c w
theorem e2q(h:u6 Γ F ι S a w){r:ResultVar}{v:V}{lg:List (Nat×Nat)}(hr:c7h cx S.t r S.ent=some (v,lg)):∃c,b8n cx.P a.tmps w r c/\RV w F S.D ι v c:=by
 unfold c7h at hr;cases r with
 | tmp k=>
  have:=j8.pure_some hr;injection this with this h9;subst this;exact ⟨_,rfl,c83 h k⟩
 | cell ad ty=>
  simp only at hr;cases hti:cx.T ty with
  | none=>rw [hti] at hr;cases hr
  | some ti=>
  rw [hti] at hr;obtain ⟨i,d,z,htf⟩:=cx.tf hti;have hx:=c83 h ad;generalize S.t.getD ad .bot=xv at hr hx;cases xv<;>try (cases hr;done)
  case ptr g j off=>
   obtain ⟨hD,b,hι,hc⟩:=hx.inv_ptr;obtain ⟨e,l1,l2,hrd,hp',hl12⟩:=j8.bind_some hr;clear hr;have he:=(j8.rd_some hrd).1;simp only at he;have hre:=h.ents g j e he;split at hp'<;>try (cases hp';done)
   ·rename_i e0 cs;obtain ⟨g0,cur,h1,hg,hcs⟩:=hre;rw [hι] at h1;injection h1 with h1;injection h1 with h1;injection h1 with h1;subst h1;cases hrv:U0 ti (cs.drop off) with
    | none=>rw [hrv] at hp';cases hp'
    | some v'=>
    rw [hrv] at hp';have:=j8.pure_some hp';injection this with this h9;subst this;obtain ⟨c,hrd',hvc⟩:=a7e (hcs.drop off) hrv;refine ⟨c,?_,hvc⟩;unfold b8n;simp only [hc,asAddr];have:=d2j htf (a5X hg off) hrd';simpa [Sem.run_bind] using this
theorem d6h(h:u6 Γ F ι S a w):∀{rs:List ResultVar} {vs:List V} {lg:List (Nat×Nat)},c2f cx S.t rs S.ent=some (vs,lg)->∃cs,x9 (b8n cx.P a.tmps w) rs cs/\x9 (RV w F S.D ι) vs cs
 | [],vs,lg,hr=>by
  have:=j8.pure_some hr;injection this with this h9;subst this;exact ⟨[],.nil,.nil⟩
 | r::rs,vs,lg,hr=>by
  obtain ⟨v,l1,l2,h1,h2,_⟩:=j8.bind_some hr;obtain ⟨vs',l3,l4,h3,h4,_⟩:=j8.bind_some h2;have:=j8.pure_some h4;injection this with this h9;subst this;obtain ⟨c,e1,e2⟩:=e2q h h1;obtain ⟨cs,e3,e4⟩:=d6h h h3;exact ⟨c::cs,.cons e1 e3,.cons e2 e4⟩
def b36:List Value->Value
 | [c]=>c
 | cs=>.tuple cs.toArray
theorem c9E{P:Program}{w:World}{α:Type}{f:α->Sem Value}:∀{l:List α} {cs:List Value},x9 (fun r c=>(f r).run P w=.ok c w) l cs->(l.mapM f).run P w=.ok cs w
 | _,_,.nil=>by simp [Sem.run]
 | _,_,.cons h t=>by
  rw [List.mapM_cons];have:=c9E t;simp [Sem.run_bind,h,this]
theorem d89{P:Program}{fn:Func}{tmps:Array Value}{w:World}{cs:List Value}(h:x9 (b8n P tmps w) fn.results.toList cs):(results fn tmps).run P w=.ok (b36 cs) w:=by
 unfold results;have hm:=c9E (f:=fun r:ResultVar=>match r with
  | .tmp t=>pure (tmps.getD t undef)
  | .cell a t=>do loadVar t (<-asAddr (tmps.getD a undef))) (h.imp fun r c x=>x)
 have he:fn.results=fn.results.toList.toArray:=by simp
 rw [he,List.mapM_toArray];have hp:(if hh:cs.toArray.size=1 then cs.toArray[0] else Value.tuple cs.toArray)=b36 cs:=by
  rcases cs with _|⟨c,_|⟨c',cs⟩⟩
  ·rfl
  ·rfl
  ·have:¬(c::c'::cs).toArray.size=1:=by simp
   rw [dif_neg this];rfl
 simp only [map_eq_pure_bind,Sem.run_bind,bind_assoc,pure_bind];refine (congrArg (fun r=>Result.andThen r _) hm).trans ?_;simp only [Result.andThen];rw [<-hp];rfl
theorem c3Y(h:u6 Γ F ι S a w):∀{om:List (Option Nat)} {j:Nat} {ds:List Value} {vs:List V} {lg:List (Nat×Nat)},a6f Γ.pins om j ds->c0A om j S.ent=some (vs,lg)->x9 (RC w F S.D ι) vs ds
 | [],j,[],vs,lg,_,hr=>by
  have:=j8.pure_some hr;injection this with h1 h2;subst h1;exact .nil
 | none::om,j,d::ds,vs,lg,hc,hr=>by
  obtain ⟨xs,l1,l2,h1,h2,_⟩:=j8.bind_some hr;have:=j8.pure_some h2;injection this with h3 h4;subst h3;exact .cons (.fv _ _ (.bot _ hc.1)) (c3Y h hc.2 h1)
 | some _::om,j,d::ds,vs,lg,hc,hr=>by
  obtain ⟨e,l1,l2,hrd,hp,_⟩:=j8.bind_some hr;have he:=(j8.rd_some hrd).1;simp only at he;have hD:=St.D_of_ent he;have hι:=(h.pins j d hc.1).2;have hre:=h.ents 0 j e he;obtain ⟨xs,l3,l4,h1,h2,_⟩:=j8.bind_some hp;have ht:=c3Y h hc.2 h1;split at h2<;>try (cases h2;done)
  ·have:=j8.pure_some h2;injection this with h3 h4;subst h3;refine .cons ?_ ht;have:=RC.whole hD rfl hre;rwa [hι] at this
  ·have:=j8.pure_some h2;injection this with h3 h4;subst h3;refine .cons ?_ ht;obtain ⟨flat,fs,ho,_⟩:=hre;have:=RC.wholeO (F:=F) (D:=S.D) hD rfl ho;rwa [hι] at this
 | [],_,_::_,_,_,hc,_=>hc.elim
 | none::_,_,[],_,_,hc,_=>hc.elim
 | some _::_,_,[],_,_,hc,_=>hc.elim
theorem b0Z(h:u6 Γ F ι S a w):∀{oms:List (Option (Nat×PM))} {cargs:List Value} {vs:List V} {ms:List PM} {lg:List (Nat×Nat)},a16 oms cargs Γ.pins->a8e oms S.ent=some ((vs,ms),lg)->∃cs,x9 (RV w F S.D ι) vs cs/\
  ∀{F1:Nat->Prop} {us:List V} {f:List Nat},BS w F1 us cs f->BO w F1 (a8c oms us) cargs f
 | [],_,vs,ms,lg,.nil _,hr=>by
  have:=j8.pure_some hr;injection this with h1 h2;injection h1 with h1 h3;subst h1;exact ⟨[],.nil,fun hb=>by cases hb;exact .nil⟩
 | none::oms,_,vs,ms,lg,.skip _ c cs _ t,hr=>by
  obtain ⟨cs',e1,e2⟩:=b0Z h t hr;exact ⟨cs',e1,fun {F1 us f} hb=>.skip _ _ _ _ (e2 hb)⟩
 | some (j,.val ck om)::oms,_,vs,ms,lg,.agg _ _ _ _ ds cs _ hc t,hr=>by
  obtain ⟨xs,l1,l2,hxs,hp,_⟩:=j8.bind_some hr;obtain ⟨x,l3,l4,h1,h2,_⟩:=j8.bind_some hp;have:=j8.pure_some h2;injection this with h3 h4;injection h3 with h3 h5;subst h3;obtain ⟨cs',e1,e2⟩:=b0Z h t h1;refine ⟨.agg ds.toArray::cs',.cons (.one _ _ (.agg _ _ (c3Y h hc hxs))) e1,?_⟩;intro F1 us f hb;cases hb with
  | cons v c f vs cs fs h t=>exact .cons _ _ _ _ _ _ h (e2 t)
 | some (j,.val ck om)::oms,_,vs,ms,lg,.pin _ _ _ c cs _ hm hc t,hr=>by cases hm
 | some (j,.part)::oms,_,vs,ms,lg,.pin _ _ _ c cs _ hm hc t,hr=>by
  obtain ⟨e,l1,l2,hrd,hp,_⟩:=j8.bind_some hr;cases e<;>cases hp
 | some (j,.ptr ck om)::oms,_,vs,ms,lg,.pin _ _ _ c cs _ hm hc t,hr=>by
  obtain ⟨e,l1,l2,hrd,hp,_⟩:=j8.bind_some hr;have he:=(j8.rd_some hrd).1;simp only at he;have hD:=St.D_of_ent he;have hι:=(h.pins j c hc).2;have hre:=h.ents 0 j e he;cases e<;>try (cases hp;done)
  obtain ⟨x,l3,l4,h1,h2,_⟩:=j8.bind_some hp;have:=j8.pure_some h2;injection this with h3 h4;injection h3 with h3 h5;subst h3;obtain ⟨cs',e1,e2⟩:=b0Z h t h1;obtain ⟨g,cur,q1,q2,q3⟩:=hre;refine ⟨c::cs',.cons (.one _ _ (.cell _ _ ?_)) e1,?_⟩
  ·rw [<-hι,q1];exact .ptr 0 j 0 g hD q1
  ·intro F1 us f hb;cases hb with
   | cons v c f vs cs fs h t=>exact .cons _ _ _ _ _ _ h (e2 t)
 | some (j,.row)::oms,_,vs,ms,lg,.pin _ _ _ c cs _ hm hc t,hr=>by
  obtain ⟨e,l1,l2,hrd,hp,_⟩:=j8.bind_some hr;have he:=(j8.rd_some hrd).1;simp only at he;have hD:=St.D_of_ent he;have hι:=(h.pins j c hc).2;have hre:=h.ents 0 j e he;cases e<;>try (cases hp;done)
  case row=>
   obtain ⟨x,l3,l4,h1,h2,_⟩:=j8.bind_some hp;have:=j8.pure_some h2;injection this with h3 h4;injection h3 with h3 h5;subst h3;obtain ⟨cs',e1,e2⟩:=b0Z h t h1;refine ⟨c::cs',.cons (.one _ _ (.cell _ _ ?_)) e1,?_⟩
   ·have:=RC.whole hD rfl hre;rwa [hι] at this
   ·intro F1 us f hb;cases hb with
    | cons v c f vs cs fs h t=>exact .cons _ _ _ _ _ _ h (e2 t)
  case deep o _ _ _ _=>
   cases o<;>try (cases hp;done)
   obtain ⟨x,l3,l4,h1,h2,_⟩:=j8.bind_some hp;have:=j8.pure_some h2;injection this with h3 h4;injection h3 with h3 h5;subst h3;obtain ⟨cs',e1,e2⟩:=b0Z h t h1;obtain ⟨flat,fs,ho,_⟩:=hre;refine ⟨c::cs',.cons (.one _ _ (.cell _ _ ?_)) e1,?_⟩
   ·have:=RC.wholeO (F:=F) (D:=S.D) hD rfl ho;rwa [hι] at this
   ·intro F1 us f hb;cases hb with
    | cons v c f vs cs fs h t=>exact .cons _ _ _ _ _ _ h (e2 t)
theorem x9.app{α β:Type}{R:α->β->Prop}:∀{B4 bs cs ds},x9 R B4 bs->x9 R cs ds->x9 R (B4++cs) (bs++ds)
 | _,_,_,_,.nil,k=>k
 | _,_,_,_,.cons hx t,k=>.cons hx (t.app k)
theorem BS.split:∀{c1 c2:List Value} {vs:List V} {f:List Nat},BS w F vs (c1++c2) f->∃f1 f2,f=f1++f2/\BS w F (vs.take c1.length) c1 f1/\BS w F (vs.drop c1.length) c2 f2
 | [],c2,vs,f,h=>⟨[],f,rfl,by simpa using .nil,by simpa using h⟩
 | c::c1,c2,_,_,.cons v _ f vs _ fs h t=>by
  obtain ⟨f1,f2,rfl,h1,h2⟩:=BS.split t;exact ⟨f++f1,f2,by simp,.cons _ _ _ _ _ _ h h1,h2⟩
theorem BS.pack{vs:List V}{cs:List Value}{f:List Nat}(h:BS w F vs cs f):BR w F (c0P vs) (b36 cs) f:=by
 cases h with
 | nil=>exact .tup _ _ _ .nil
 | cons v c f vs cs fs h t=>
  cases t with
  | nil=>rw [f9C];exact .one _ _ _ h
  | cons v' c' f' vs' cs' fs' h' t'=>exact .tup _ _ _ (.cons _ _ _ _ _ _ h (.cons _ _ _ _ _ _ h' t'))
theorem K7.ret{X:P3}{res:V}{outs:List (Option V)}{ps:List Prop}(hf:cx.P.funcs[X.f]?=some X.fn)(hr:c32 cx X k S=some (res,outs,ps))(hob:∀p∈ps,p):K7 cx X res outs k S:=by
 obtain ⟨r,n,lg,hR,rfl,rfl,rfl,hk⟩:∃r n lg,c45 cx X S.t S.ent=some ((r,n),lg)/\c0P (r.v.take n)=res/\a8c X.oms (r.v.drop n)=outs/\r.obl=ps/\(k=[]\/∃k',k=.code .ret::k'):=by
  unfold c32 at hr;split at hr<;>try (cases hr;done)
  all_goals
   split at hr<;>try (cases hr;done)
   rename_i r n lg hR;injection hr with hr;injection hr with h1 h2;injection h2 with h2 h3;first|exact ⟨r,n,lg,hR,h1,h2,h3,.inr ⟨_,rfl⟩⟩|exact ⟨r,n,lg,hR,h1,h2,h3,.inl rfl⟩
 intro w0 F0 fp cargs bs hp hF0 F ι a w b cs h hb1 hb2;unfold c45 at hR;obtain ⟨rv,l1,l2,g1,g2,_⟩:=j8.bind_some hR;obtain ⟨⟨ov,om⟩,l3,l4,g3,g4,_⟩:=j8.bind_some g2;obtain ⟨r',l5,l6,g5,g6,_⟩:=j8.bind_some g4;simp only at g6;split at g6<;>try (cases g6;done)
 rename_i hchk;have:=j8.pure_some g6;injection this with e1 e2;injection e1 with e1 e3;subst e1;subst e3;simp only [f8R] at hchk;obtain ⟨⟨hnk,hls⟩,hlen⟩:=hchk;have hnk':=a5n hnk;have hdis:∀id∈r.ls,id ∉ r.ks:=fun id hid=>b8A (f8S.1 hls id hid)
 obtain ⟨rcs,q1,q2⟩:=d6h h g1;obtain ⟨ocs,q3,q4⟩:=b0Z h hp g3;let F1:Nat->Prop:=fun k=>F k\/∃id∈r.ls,∃e,S.ent id.1 id.2=some e/\EB w e (ι id.1 id.2) k
 obtain ⟨fpx,hbs,hfps,hhk,hhl⟩:=d7z (F1:=F1) h (fun k x=>.inl x) (q2.app q3) g5 hob (fun id hid e k he hk=>.inr ⟨id,hid,e,he,hk⟩);obtain ⟨f1,f2,hf12,b1,b2⟩:=hbs.split;have hl2:rcs.length=rv.length:=q2.length.symm;rw [hl2] at b1 b2;have hfpn:=N3.nodup h hfps hnk';have hF1lt:∀k,F1 k->k<w.heap.size:=by
  rintro k (x|⟨id,hid,e,he,hb⟩)
  ·exact h.F1 k x
  ·obtain ⟨e',he',hl'⟩:=hhl id hid;have:e=e':=by rw [he] at he';injection he'
   subst this;exact h.lt he hl' hb
 have hfin:d2d w0 F0 fp cargs (c0P (r.v.take rv.length)) (a8c X.oms (r.v.drop rv.length)) (.returned (b36 rcs)) w:=by
  refine ⟨b36 rcs,F1,f1,f2,rfl,h.kept,fun k x=>.inl (h.F0 k x),?_,b1.pack,q4 b2,?_,?_⟩
  ·rintro k x
   refine ⟨?_,hF1lt k x⟩;rcases x with x|⟨id,hid,e,he,hb⟩
   ·exact h.F2 k x
   ·obtain ⟨e',he',hl'⟩:=hhl id hid;have:e=e':=by rw [he] at he';injection he'
    subst this;exact .inr (h.sep _ _ _ k he hl' hb).2
  ·rw [<-hf12];exact hfpn
  ·intro k hk;rw [<-hf12] at hk;obtain ⟨id,hid,e,he,hl,hb⟩:=hfps.mem hk;obtain ⟨z1,z2⟩:=h.sep _ _ e k he hl hb;refine ⟨?_,z2,h.lt he hl hb⟩;rintro (x|⟨id',hid',e0,he0,hb'⟩)
   ·exact z1 x
   ·obtain ⟨e',he',hl'⟩:=hhl id' hid';have:e0=e':=by rw [he0] at he';injection he'
    subst this;obtain ⟨y1,y2⟩:=h.inj _ _ e _ _ _ k he he' hl hl' hb hb';have:id=id':=Prod.ext y1 y2;exact hdis id' hid' (this▸hid)
 have hres:=d89 (P:=cx.P) q1;rcases hk with rfl|⟨k',rfl⟩
 ·exact ⟨_,w,_,hfin,.one step_end,hb1,rfl,h.defers,hb2,X.fn,by show cx.P.funcs[b.fn]?=_;rw [hb1];exact hf,hres⟩
 ·exact ⟨_,w,_,hfin,.one step_ret,hb1,rfl,h.defers,hb2,X.fn,by show cx.P.funcs[b.fn]?=_;rw [hb1];exact hf,hres⟩
end
inductive Loc where
 | tmp (t:Nat)
 | sub (t i:Nat)
 | cell (g j i:Nat)
def St.get(S:St):Loc->Option V
 | .tmp t=>S.t[t]?
 | .sub t i=>match S.t[t]? with
  | some (.agg cs)=>cs[i]?
  | _=>none
 | .cell g j i=>match S.ent g j with
  | some (.var _ cs)=>cs[i]?
  | _=>none
def St.put(S:St)(l:Loc)(v:V):St:=
 match l with
 | .tmp t=>{S with t:=S.t.set t v}
 | .sub t i=>match S.t[t]? with
  | some (.agg cs)=>{S with t:=S.t.set t (.agg (cs.set i v))}
  | _=>S
 | .cell g j i=>match S.ent g j with
  | some (.var e cs)=>S.setE g j (.var e (cs.set i v))
  | _=>S
inductive Fix where
 | own (l:Loc) (e sz:Nat)
 | frz (l:Loc) (ck:Option Nat)
 | is (l:Loc) (v:V)
 | ent (g j:Nat) (e:s9)
 | plug (g j idx off:Nat) (r:List V) (e:Nat)
 | shut (g j n:Nat) (rows:List (List V))
 | ownD (l:Loc) (e sz:Nat)
 | kill (g j:Nat)
def V.isCell:V->Bool
 | .agg _ | .tup _ | .bot=>false
 | _=>true
def a5T(f:Fix)(S:St):Option (St×List Prop):=
 match f with
 | .own l e sz=>match S.get l with
  | some .nil=>some (((S.more 1).lay S.h.length [.row e sz 0 []]).put l (.own S.h.length 0 sz 0 0),[])
  | _=>none
 | .frz l ck=>match S.get l with
  | some v=>if v.isCell then match fzP ck v S.ent with
   | some ((v',us,ps),_)=>some ((S.upds us).put l v',ps)
   | none=>none else none
  | none=>none
 | .is l v'=>match S.get l with
  | some v=>if v.isCell then some (S.put l v',[v=v']) else none
  | none=>none
 | .ent g j e'=>match S.ent g j with
  | some e=>some (S.setE g j e',[e=e'])
  | none=>none
 | .plug g j idx off r e=>match S.ent g j,r[off]? with
  | some (.deep o t sz n rows),some (.own g' j' sz' lo n')=>match S7 none (some e) (.own g' j' sz' lo n') S.ent with
   | some (f,_)=>if off+1<=sz/\a3q f.ks/\a1Q f.ks (g,j)=false then some (S.upds (G5 f.ks++[((g,j),.deep o t sz n (rows.set idx (A7 r off [f.v])))]),(rows[idx]?=some r)::f.obl) else none
   | none=>none
  | _,_=>none
 | .kill g j=>match S.ent g j with
  | some _=>some (S.setE g j .dead,[])
  | none=>none
 | .shut g j n' rows'=>match S.ent g j with
  | some (.deep o t sz n rows)=>some (S.setE g j (.deep false t sz n' rows'),[rows=rows',I8 rows',n=n'])
  | _=>none
 | .ownD l e sz=>match S.get l with
  | some .nil=>some (((S.more 1).lay S.h.length [.deep false e sz 0 []]).put l (.own S.h.length 0 sz 0 0),[])
  | _=>none
def b3U:List Fix->St->Option (St×List Prop)
 | [],S=>some (S,[])
 | f::fs,S=>match a5T f S with
  | some (S1,ps)=>match b3U fs S1 with
   | some (S2,qs)=>some (S2,ps++qs)
   | none=>none
  | none=>none
section
variable {cx:Cx} {Γ:O7} {F:Nat->Prop} {ι:Nat->Nat->Value} {S S':St} {a:Act} {w:World}
theorem RV.isCell{D:Nat->Prop}{v:V}{c:Value}(h:RV w F D ι v c)(hv:v.isCell=true):RC w F D ι v c:=by
 cases h with
 | one v c h=>
  cases h with
  | cell v c h=>exact h
  | agg cs ds h=>cases hv
 | tup cs ds h=>cases hv
 | any c=>cases hv
theorem u6.withT(h:u6 Γ F ι S a w){t:List V}(ht:x9 (RV w F S.D ι) t a.tmps.toList):u6 Γ F ι {S with t:=t} a w:=
 {F0:=h.F0,F1:=h.F1,F2:=h.F2,kept:=h.kept,tmps:=ht,ents:=h.ents,sep:=h.sep,inj:=h.inj,defers:=h.defers,pins:=h.pins}
theorem x9.set_left{α β:Type}{R:α->β->Prop}{B4:List α}{bs:List β}(h:x9 R B4 bs){i:Nat}{x y:α}(hx:B4[i]?=some x)(hy:∀b,R x b->R y b):x9 R (B4.set i y) bs:=by
 obtain ⟨b,hb,hr⟩:=h.get hx;have:=h.set i (hy b hr);rwa [a0m hb] at this
theorem u6.putL(h:u6 Γ F ι S a w){l:Loc}{v v':V}(hg:S.get l=some v)(hc:v.isCell=true)(hr:∀c,RC w F S.D ι v c->RC w F S.D ι v' c):u6 Γ F ι (S.put l v') a w:=by
 cases l with
 | tmp t=>
  exact h.withT (h.tmps.set_left hg fun c hv=>.one _ _ (.cell _ _ (hr c (hv.isCell hc))))
 | sub t i=>
  unfold St.get at hg;unfold St.put;simp only at hg⊢;split at hg<;>try (cases hg;done)
  rename_i cs hcs;try rw [hcs]
  refine h.withT (h.tmps.set_left hcs fun c hv => ?_);cases hv with
  | one v c hv=>
   cases hv with
   | cell v c hv=>cases hv with|fv v c hv=>cases hv
   | agg cs ds hv=>exact .one _ _ (.agg _ _ (hv.set_left hg hr))
 | cell g j i=>
  unfold St.get at hg;unfold St.put;simp only at hg⊢;split at hg<;>try (cases hg;done)
  rename_i e cs hcs;try rw [hcs]
  try simp only
  refine h.write hcs rfl ⟨rfl,rfl,rfl⟩ rfl (fun _ _=>rfl) (fun _ => ?_) (fun _ hk=>hk);obtain ⟨g0,cur,h1,h2,h3⟩:=h.ents g j _ hcs;exact ⟨g0,cur,h1,h2,(h3.set_left hg hr).imp fun _ _ x=>x.mono (fun _ _ _=>rfl) (fun _ y=>y) (fun k y=>R2.2 y) (fun _ _ _=>rfl)⟩
theorem d7Q{grp:Nat}{new:List s9}{l:Loc}{v:V}(h:S.get l=some v)(hn:¬S.D grp):(S.lay grp new).get l=some v:=by
 cases l with
 | tmp t=>exact h
 | sub t i=>exact h
 | cell g j i=>
  unfold St.get at h⊢;simp only at h⊢;split at h<;>try (cases h;done)
  rename_i e cs hcs;have:g≠grp:=fun q=>hn (q▸St.D_of_ent hcs)
  rw [a9q this,hcs];exact h
theorem d0e{n:Nat}{l:Loc}{v:V}(h:S.get l=some v):(S.more n).get l=some v:=by
 cases l with
 | tmp t=>exact h
 | sub t i=>exact h
 | cell g j i=>
  unfold St.get at h⊢;simp only at h⊢;rw [b5i];exact h
theorem f7L{e:Nat}{v:V}{H:Hp}{f:AR V}{lg:List (Nat×Nat)}(h:S7 none (some e) v H=some (f,lg)):f.ls=[]:=by
 unfold S7 at h;simp only at h;split at h
 ·have:=j8.pure_some h;injection this with h1 h2;rw [h1]
 cases v<;>try (cases h;done)
 case nil=>
  have:=j8.pure_some h;injection this with h1 h2;rw [h1]
 case own g j sz lo n=>
  cases lo with
  | succ q=>cases h
  | zero=>
   simp only at h;obtain ⟨en,l1,l2,hrd,hp,_⟩:=j8.bind_some h;cases en<;>try (cases hp;done)
   case row=>
    simp only at hp;split at hp<;>try (cases hp;done)
    have:=j8.pure_some hp;injection this with h1 h2;rw [h1]
   case deep o _ _ _ _=>
    cases o<;>try (cases hp;done)
    simp only at hp;split at hp<;>try (cases hp;done)
    have:=j8.pure_some hp;injection this with h1 h2;rw [h1]
theorem e4h{g j idx off e:Nat}{r:List V}{ps:List Prop}(h:u6 Γ F ι S a w)(hf:a5T (.plug g j idx off r e) S=some (S',ps))(hob:∀p∈ps,p):u6 Γ F ι S' a w:=by
 unfold a5T at hf;simp only at hf;split at hf<;>try (cases hf;done)
 rename_i o t sz n rows g' j' sz' lo n' he hv;split at hf<;>try (cases hf;done)
 rename_i f lg hm;split at hf<;>try (cases hf;done)
 rename_i hcond;injection hf with hf;injection hf with h1 h2;subst h1;subst h2;obtain ⟨hoff,hks,hgj⟩:=hcond;have hr:rows[idx]?=some r:=hob _ (by simp);obtain ⟨flat,fs,hor,hkl,hrn,hl,hnd,hnr⟩:=h.ents g j _ he;have hidx:=(f8U.1 hr).1;have hpos:idx*sz+sz<=n*sz:=by rw [<-g0b];exact f9u _ (by omega)
 have hle:idx*sz+off+1<=rows.flatten.length:=by rw [a33 hl,hrn];omega
 have hmid:(rows.flatten.drop (idx*sz+off)).take 1=[.own g' j' sz' lo n']:=by
  have:(rows.flatten.drop (idx*sz+off)).take 1=(r.drop off).take 1:=by
   rw [<-b1W hl hr,List.drop_take,List.take_take,g0L];congr 1
   omega
  rw [this];obtain ⟨hlt,hv'⟩:=f8U.1 hv;rw [f9j hlt,hv'];rfl
 obtain ⟨fa,fm,fb,rfl,ka,km,kb⟩:=hkl.cut hle;rw [hmid] at km;obtain ⟨c,hc,hkc⟩:∃c,(flat.drop (idx*sz+off)).take 1=[c]/\RC w F S.D ι (.own g' j' sz' lo n') c:=by
  generalize (flat.drop (idx*sz+off)).take 1=cs at km;cases km with
  | cons v c f vs cs fs h t=>
   cases t;refine ⟨c,rfl,?_⟩;cases h with
   | rc h=>exact h
   | bc _ h=>cases h with
    | fv _ _ h=>exact .fv _ _ h
 obtain ⟨fp,hb,hfps,_⟩:=c6d (F1:=F) h (fun _ x=>x) hkc hm (fun p hp=>hob p (f8X.2 (.inr hp))) (by rw [f7L hm];intro id hid;cases hid);have hbl:BL w F [f.v] [c] fp:=by
  have:=BL.cons _ _ _ _ _ _ hb .nil;simpa using this
 refine h.dput he hr (by simpa using hoff) hbl hfps (a5n hks) (fun q=>by rw [a57.2 q] at hgj;cases hgj) ⟨rfl,rfl,rfl⟩ rfl (fun _ _=>rfl) ?_;intro flat2 ho2;have:=b0N ho2 hor (fun _ _=>rfl);subst this;have e1:A7 flat2 (idx*sz+off) [c]=flat2:=by
  unfold A7;rw [<-hc,f9i];have hl1:((flat2.drop (idx*sz+off)).take 1).length=1:=by rw [hc];rfl
  rw [hl1];have e2:∀k:Nat,flat2.take k++((flat2.drop k).take 1++flat2.drop (k+1))=flat2:=fun k=>by
   rw [<-g0L,f9O,f9O]
  exact e2 _
 rw [e1];exact ho2
theorem e1d{g j n':Nat}{rows':List (List V)}{ps:List Prop}(h:u6 Γ F ι S a w)(hf:a5T (.shut g j n' rows') S=some (S',ps))(hob:∀p∈ps,p):u6 Γ F ι S' a w:=by
 unfold a5T at hf;simp only at hf;split at hf<;>try (cases hf;done)
 rename_i o t sz n rows he;injection hf with hf;injection hf with h1 h2;subst h1;subst h2;have hrr:rows=rows':=hob _ (by simp);have hnr:I8 rows':=hob _ (by simp);have hnn:n=n':=hob _ (by simp);subst hrr;subst hnn;refine h.write he rfl ⟨rfl,rfl,rfl⟩ rfl (fun _ _=>rfl) (fun _ => ?_) (fun k hk=>hk);obtain ⟨flat,fs,q1,q2,q3,q4,q5,q6⟩:=h.ents g j _ he;exact ⟨flat,fs,q1,q2.mono (fun _ _ _=>rfl) (fun _ x=>x) (fun k x=>R2.2 x) (fun _ _ _=>rfl) (fun _ _=>rfl),q3,q4,q5,fun _=>hnr⟩
theorem e3r{f:Fix}{ps:List Prop}(h:u6 Γ F ι S a w)(hf:a5T f S=some (S',ps))(hob:∀p∈ps,p):∃F' ι',u6 Γ F' ι' S' a w:=by
 unfold a5T at hf;split at hf
 ·rename_i l e sz;split at hf<;>try (cases hf;done)
  rename_i hg;injection hf with hf;injection hf with hf hf2;subst hf;have hn:¬(S.more 1).D S.h.length:=fun q=>by
   obtain ⟨x,hx⟩:=a9G.1 q;have:=(f8U.1 hx).1;omega
  have hlen:S.h.length<(S.more 1).h.length:=by simp [St.more,a4e]
  have hor:OR w F e sz (.slice none 0 0) 0 []:=⟨[],⟨by simp,.inl ⟨rfl,rfl⟩⟩,.nil,rfl,by simp⟩
  have hno:∀(j:Nat) (e':s9) (k:Nat),([.row e sz 0 []]:List s9)[j]?=some e'->EB w e' (N0 ι S.h.length (.slice none 0 0) S.h.length j) k->False:=by
   intro j e' k he hk;rw [Q2] at hk;cases j with
   | zero=>
    simp at he;subst he;cases hk
   | succ j=>simp at he
  have h1:=(h.more 1).lay hlen hn (new:=[.row e sz 0 []]) (ι':=N0 ι S.h.length (.slice none 0 0)) (fun g j q=>a9S q)
   (fun j e' he=>by
    cases j with
    | zero=>
     simp at he;subst he;rw [Q2];exact hor
    | succ j=>simp at he)
   (fun j e' k he hl hk=>(hno j e' k he hk).elim)
   (fun j e' j' e'' k he he' hl hl' hk hk'=>(hno j e' k he hk).elim)
   (fun j e' g' j' e'' k he he' hl hl' hk=>(hno j e' k he hk).elim)
  refine ⟨F,_,h1.putL (d7Q (d0e hg) hn) rfl fun c hc => ?_⟩;have hcn:c=.slice none 0 0:=by
   cases hc with
   | fv v c hc=>cases hc;rfl
  subst hcn;exact RC.whole (a0N hlen) Q2 hor
 ·rename_i l ck;split at hf<;>try (cases hf;done)
  rename_i v hg;split at hf<;>try (cases hf;done)
  rename_i hcell;split at hf<;>try (cases hf;done)
  rename_i v' us fps lg hz;injection hf with hf;injection hf with hf hf2;subst hf;subst hf2;have hfr:∀c,RC w F S.D ι v c->∃F',(∀k,F k->F' k)/\u6 Γ F' ι (S.upds us) a w/\Frz S (S.upds us)/\FV w F' v' c:=fun c hc=>b2H h (Frz.refl S) hc hz hob
  have hat:∃c,RC w F S.D ι v c:=by
   cases l with
   | tmp t=>
    obtain ⟨c,_,hv⟩:=h.tmps.get hg;exact ⟨c,hv.isCell hcell⟩
   | sub t i=>
    unfold St.get at hg;simp only at hg;split at hg<;>try (cases hg;done)
    rename_i cs hcs;obtain ⟨c,_,hv⟩:=h.tmps.get hcs;cases hv with
    | one v c hv=>
     cases hv with
     | cell v c hv=>cases hv with|fv v c hv=>cases hv
     | agg cs ds hv=>
      obtain ⟨c,_,hv⟩:=hv.get hg;exact ⟨c,hv⟩
   | cell g j i=>
    unfold St.get at hg;simp only at hg;split at hg<;>try (cases hg;done)
    rename_i e cs hcs;obtain ⟨g0,cur,h1,h2,h3⟩:=h.ents g j _ hcs;obtain ⟨c,_,hv⟩:=h3.get hg;exact ⟨c,hv⟩
  obtain ⟨c0,hc0⟩:=hat;obtain ⟨F',hF,hrel,hfz,hfv⟩:=hfr c0 hc0;clear hfr hfv;cases l with
  | tmp t=>
   obtain ⟨c,hct,hv⟩:=h.tmps.get hg;obtain ⟨F',hF,hrel,hfz,hfv⟩:=b2H h (Frz.refl S) (hv.isCell hcell) hz hob;refine ⟨F',ι,?_⟩;have ht:(S.upds us).t=S.t:=hfz.2.2.1;show u6 Γ F' ι {S.upds us with t:=(S.upds us).t.set t v'} a w
   refine hrel.withT ?_;have:=hrel.tmps.set t (b:=c) (.one _ _ (.cell _ _ (.fv _ _ hfv)));rwa [a0m hct] at this
  | sub t i=>
   unfold St.get at hg;simp only at hg;split at hg<;>try (cases hg;done)
   rename_i cs hcs;obtain ⟨c,hct,hv⟩:=h.tmps.get hcs;cases hv with
   | one v c hv=>
    cases hv with
    | cell v c hv=>cases hv with|fv v c hv=>cases hv
    | agg cs ds hv=>
     obtain ⟨c,hci,hvi⟩:=hv.get hg;obtain ⟨F',hF,hrel,hfz,hfv⟩:=b2H h (Frz.refl S) hvi hz hob;refine ⟨F',ι,?_⟩;have ht:(S.upds us).t=S.t:=hfz.2.2.1;unfold St.put;simp only [ht,hcs];have h2:=hrel.tmps;rw [ht] at h2;have:=hrel.withT (t:=S.t.set t (.agg (cs.set i v'))) ?_
     ·exact this
     ·have hagg:=h2.get hcs;obtain ⟨c',hct',hv'⟩:=hagg;rw [hct] at hct';injection hct' with hct';have hv2:x9 (RC w F' (S.upds us).D ι) cs ds:=by
       refine hv.imp fun _ _ x=>x.mono (fun _ _ _=>rfl) hF (fun k y=>(a0p S k us).2 y) (fun _ _ _=>rfl)
      have hset:=hv2.set i (b:=c) (.fv _ _ hfv);rw [a0m hci] at hset;have:=h2.set t (b:=.agg ds.toArray) (.one _ _ (.agg _ _ hset));rwa [a0m hct] at this
  | cell g j i=>
   unfold St.get at hg;simp only at hg;split at hg<;>try (cases hg;done)
   rename_i e cs hcs;obtain ⟨g0,cur,q1,q2,q3⟩:=h.ents g j _ hcs;obtain ⟨c,hci,hvi⟩:=q3.get hg;obtain ⟨F',hF,hrel,hfz,hfv⟩:=b2H h (Frz.refl S) hvi hz hob;refine ⟨F',ι,?_⟩;have hcs':(S.upds us).ent g j=some (.var e cs):=by
    rcases hfz.2.2.2 _ _ _ hcs with q|⟨e',sz,n,rows,q,_⟩
    ·exact q
    ·cases q
   unfold St.put;simp only [hcs'];refine hrel.write hcs' rfl ⟨rfl,rfl,rfl⟩ rfl (fun _ _=>rfl) (fun _ => ?_) (fun _ hk=>hk);have hset:=(q3.imp fun _ _ x=>RC.mono (D':=((S.upds us).setE g j (.var e (cs.set i v'))).D) (F':=F') (w':=w) (ι':=ι) (fun _ _ _=>rfl) hF (fun k y=>R2.2 ((a0p S k us).2 y)) (fun _ _ _=>rfl) x).set i (b:=c) (.fv _ _ hfv);rw [a0m hci] at hset;exact ⟨g0,cur,q1,q2,hset⟩
 ·rename_i l v';split at hf<;>try (cases hf;done)
  rename_i v hg;split at hf<;>try (cases hf;done)
  rename_i hcell;injection hf with hf;injection hf with hf hf2;subst hf;subst hf2;have:v=v':=hob _ (by simp);subst this;exact ⟨F,ι,h.putL hg hcell fun _ x=>x⟩
 ·rename_i g j e';split at hf<;>try (cases hf;done)
  rename_i e he;injection hf with hf;injection hf with hf hf2;subst hf;subst hf2;have:e=e':=hob _ (by simp);subst this;have hset:S.setE g j e=S:=by
   obtain ⟨l,hl⟩:=St.D_of_ent he;rw [a3E hl];rw [a1D hl] at he;rw [a0m he,a0m hl]
  rw [hset];exact ⟨F,ι,h⟩
 ·rename_i g j idx off r e;exact ⟨F,ι,e4h (g:=g) (j:=j) (idx:=idx) (off:=off) (r:=r) (e:=e) h hf hob⟩
 ·rename_i g j;split at hf<;>try (cases hf;done)
  rename_i e he;injection hf with hf;injection hf with hf hf2;subst hf;exact ⟨F,ι,h.kill he⟩
 ·rename_i g j n' rows';exact ⟨F,ι,e1d (g:=g) (j:=j) (n':=n') (rows':=rows') h hf hob⟩
 ·rename_i l e sz;split at hf<;>try (cases hf;done)
  rename_i hg;injection hf with hf;injection hf with hf hf2;subst hf;have hn:¬(S.more 1).D S.h.length:=fun q=>by
   obtain ⟨x,hx⟩:=a9G.1 q;have:=(f8U.1 hx).1;omega
  have hlen:S.h.length<(S.more 1).h.length:=by simp [St.more,a4e]
  have hor:OR w F e sz (.slice none 0 0) 0 []:=⟨[],⟨by simp,.inl ⟨rfl,rfl⟩⟩,.nil,rfl,by simp⟩
  have hno:∀(j:Nat) (e':s9) (k:Nat),([.deep false e sz 0 []]:List s9)[j]?=some e'->EB w e' (N0 ι S.h.length (.slice none 0 0) S.h.length j) k->False:=by
   intro j e' k he hk;rw [Q2] at hk;cases j with
   | zero=>
    simp at he;subst he;have:=(EB.deep_iff (F:=F) (D:=S.D) (ι:=ι) (flat:=[]) (fs:=[]) ⟨by simp,.inl ⟨rfl,rfl⟩⟩ .nil).1 hk;simp [E3,B7] at this
   | succ j=>simp at he
  have h1:=(h.more 1).lay hlen hn (new:=[.deep false e sz 0 []]) (ι':=N0 ι S.h.length (.slice none 0 0)) (fun g j q=>a9S q)
   (fun j e' he=>by
    cases j with
    | zero=>
     simp at he;subst he;rw [Q2];exact ⟨[],[],⟨by simp,.inl ⟨rfl,rfl⟩⟩,.nil,rfl,by simp,by simp [E3,B7],fun _=>by simp [I8]⟩
    | succ j=>simp at he)
   (fun j e' k he hl hk=>(hno j e' k he hk).elim)
   (fun j e' j' e'' k he he' hl hl' hk hk'=>(hno j e' k he hk).elim)
   (fun j e' g' j' e'' k he he' hl hl' hk=>(hno j e' k he hk).elim)
  refine ⟨F,_,h1.putL (d7Q (d0e hg) hn) rfl fun c hc => ?_⟩;have hcn:c=.slice none 0 0:=by
   cases hc with
   | fv v c hc=>cases hc;rfl
  subst hcn;exact RC.whole (a0N hlen) Q2 hor
theorem f1y(fs:List Fix):∀{S:St} {F:Nat->Prop} {ι:Nat->Nat->Value} {ps:List Prop},u6 Γ F ι S a w->b3U fs S=some (S',ps)->(∀p∈ps,p)->∃F' ι',u6 Γ F' ι' S' a w:=by
 induction fs with
 | nil=>
  intro S F ι ps h hf hob;injection hf with hf;injection hf with hf hf2;subst hf;exact ⟨F,ι,h⟩
 | cons f fs ih=>
  intro S F ι ps h hf hob;unfold b3U at hf;cases h1:a5T f S with
  | none=>rw [h1] at hf;cases hf
  | some x1=>
  obtain ⟨S1,ps1⟩:=x1;rw [h1] at hf;simp only at hf;cases h2:b3U fs S1 with
  | none=>rw [h2] at hf;cases hf
  | some x2=>
  obtain ⟨S2,ps2⟩:=x2;rw [h2] at hf;simp only at hf;injection hf with hf;injection hf with hf hf2;subst hf;subst hf2;obtain ⟨F1,ι1,h3⟩:=e3r h h1 (fun p hp=>hob p (f8P.2 (.inl hp)));exact ih h3 h2 (fun p hp=>hob p (f8P.2 (.inr hp)))
end
def a8w:List (Nat×Nat)->Nat×Nat->Nat->Option Nat
 | [],_,_=>none
 | y::l,x,i=>if y.1==x.1&&y.2==x.2 then some i else a8w l x (i+1)
def b0d(gs:List (Nat×Nat))(g j:Nat):Option (Nat×Nat):=
 match a8w gs (g,j) 1 with
 | some i=>some (i,0)
 | none=>match g with
  | 0=>some (0,j)
  | _+1=>none
def W7(gs:List (Nat×Nat))(v:V):V:=
 match v with
 | .own g j sz lo n=>match b0d gs g j with
  | some (g',j')=>.own g' j' sz lo n
  | none=>.bot
 | .ptr g j off=>match b0d gs g j with
  | some (g',j')=>.ptr g' j' off
  | none=>.bot
 | .eptr g j sz idx off=>match b0d gs g j with
  | some (g',j')=>.eptr g' j' sz idx off
  | none=>.bot
 | .fptr _=>.bot
 | .mp g j=>match b0d gs g j with
  | some (g',j')=>.mp g' j'
  | none=>.bot
 | v=>v
def b3D(gs:List (Nat×Nat))(v:V):V:=
 match v with
 | .agg cs=>.agg (cs.map (W7 gs))
 | v=>W7 gs v
def c1B(gs:List (Nat×Nat))(v:V):V:=
 match v with
 | .tup cs=>.tup (cs.map (b3D gs))
 | v=>b3D gs v
def a7D(gs:List (Nat×Nat))(e:s9):s9:=
 match e with
 | .var e cs=>.var e (cs.map (W7 gs))
 | .deep true _ _ _ _=>.dead
 | e=>e
def a8j(gs:List (Nat×Nat)):Nat->List Nat->List V->List V
 | _,_,[]=>[]
 | i,[],_::vs=>.bot::a8j gs (i+1) [] vs
 | i,k::ks,v::vs=>if Nat.beq k i then c1B gs v::a8j gs (i+1) ks vs else .bot::a8j gs (i+1) (k::ks) vs
def a7J(S:St)(gs0:List (Nat×Nat)):List (Nat×Nat)->List (Option (List s9))
 | []=>[]
 | id::gs=>some [match S.ent id.1 id.2 with
  | some e=>a7D gs0 e
  | none=>.dead]::a7J S gs0 gs
def b1x(gs:List (Nat×Nat)):Nat->List s9->List s9
 | _,[]=>[]
 | j,e::es=>(match a8w gs (0,j) 1 with
  | some _=>.dead
  | none=>a7D gs e)::b1x gs (j+1) es
def a1l(keep:List Nat)(gs:List (Nat×Nat))(S:St):Option St:=
 if a3q gs then
  some {t:=a8j gs 0 keep S.t,h:=(match S.h with
   | some l::_=>some (b1x gs 0 l)
   | _=>none)::a7J S gs gs}
 else none
section
variable {cx:Cx} {Γ:O7} {F:Nat->Prop} {ι:Nat->Nat->Value} {S S':St} {a:Act} {w:World} {keep:List Nat}
theorem d75:∀{l:List (Nat×Nat)} {x:Nat×Nat} {i k:Nat},a8w l x i=some k->i<=k/\l[k-i]?=some x
 | [],x,i,k,h=>by cases h
 | y::l,x,i,k,h=>by
  unfold a8w at h;split at h
  ·rename_i q;injection h with h;subst h;simp at q;have:y=x:=Prod.ext q.1 q.2;exact ⟨f9f _,by simp [this]⟩
  ·obtain ⟨h1,h2⟩:=d75 h;refine ⟨by omega,?_⟩;have:k-i=(k-(i+1))+1:=by omega
   rw [this];simpa using h2
def a5c(ι:Nat->Nat->Value)(gs:List (Nat×Nat))(g j:Nat):Value:=
 match g with
 | 0=>ι 0 j
 | g+1=>match gs[g]? with
  | some id=>ι id.1 id.2
  | none=>.nilFunc
theorem c5A{gs0:List (Nat×Nat)}:∀{gs:List (Nat×Nat)} {i:Nat} {id:Nat×Nat},gs[i]?=some id->(a7J S gs0 gs)[i]?=some (some [match S.ent id.1 id.2 with
  | some e=>a7D gs0 e
  | none=>.dead])
 | id'::gs,0,id,h=>by simp at h;subst h;simp [a7J]
 | id'::gs,i+1,id,h=>by simp at h;simp [a7J,c5A h]
theorem d7E{gs0:List (Nat×Nat)}:∀{gs:List (Nat×Nat)},(a7J S gs0 gs).length=gs.length
 | []=>rfl
 | _::gs=>by simp [a7J,d7E]
theorem d5G{gs:List (Nat×Nat)}(hp:a1l keep gs S=some S')(hD:S.D 0):S'.D 0:=by
 unfold a1l at hp;split at hp<;>try (cases hp;done)
 injection hp with hp;subst hp;obtain ⟨l,hl⟩:=hD;have:∃t,S.h=some l::t:=by
  cases hh:S.h with
  | nil=>rw [hh] at hl;simp at hl
  | cons x t=>rw [hh] at hl;simp at hl;exact ⟨t,by rw [hl]⟩
 obtain ⟨t,ht⟩:=this;rw [ht];exact ⟨_,rfl⟩
theorem b5b{gs:List (Nat×Nat)}(hp:a1l keep gs S=some S'){g j g' j':Nat}(hn:b0d gs g j=some (g',j'))(hD:S.D g):S'.D g'/\a5c ι gs g' j'=ι g j:=by
 unfold b0d at hn;split at hn
 ·rename_i i hi;injection hn with hn;injection hn with h1 h2;subst h1;subst h2;unfold a1l at hp;split at hp<;>try (cases hp;done)
  injection hp with hp;subst hp;obtain ⟨h3,h4⟩:=d75 hi;obtain ⟨m,rfl⟩:∃m,i=m+1:=⟨i-1,by omega⟩
  simp only [Nat.add_sub_cancel] at h4;refine ⟨⟨_,(g0h).trans (c5A h4)⟩,?_⟩;simp [a5c,h4]
 ·split at hn<;>try (cases hn;done)
  injection hn with hn;injection hn with h1 h2;subst h1;subst h2;exact ⟨d5G hp hD,rfl⟩
theorem d6Y:∀{l:List (Nat×Nat)} {x:Nat×Nat} {i:Nat},a8w l x i=none->x ∉ l
 | [],x,i,_=>by simp
 | y::l,x,i,h=>by
  unfold a8w at h;split at h
  ·cases h
  ·rename_i q;intro hx;rcases f8X.1 hx with rfl|hx
   ·simp at q
   ·exact d6Y h hx
theorem c9n{gs:List (Nat×Nat)}:∀{l:List s9} {i j:Nat} {e:s9},(b1x gs i l)[j]?=some e->e=.dead\/∃e0,l[j]?=some e0/\e=a7D gs e0/\(0,i+j) ∉ gs
 | [],i,j,e,h=>by simp [b1x] at h
 | e1::l,i,0,e,h=>by
  simp only [b1x,f9Z] at h;injection h with h;split at h
  ·exact .inl h.symm
  ·rename_i hq;exact .inr ⟨e1,rfl,h.symm,by simpa using d6Y hq⟩
 | e1::l,i,j+1,e,h=>by
  simp only [b1x,g0h] at h;rcases c9n h with h1|⟨e0,h1,h2,h3⟩
  ·exact .inl h1
  ·exact .inr ⟨e0,by simpa using h1,h2,by rw [show i+(j+1)=i+1+j by omega];exact h3⟩
theorem RC.ren{gs:List (Nat×Nat)}(hp:a1l keep gs S=some S'){v:V}{c:Value}(h:RC w F S.D ι v c):RC w F S'.D (a5c ι gs) (W7 gs v) c:=by
 cases h with
 | fv v c h=>
  have:W7 gs v=v:=by cases h<;>rfl
  rw [this];exact .fv _ _ h
 | own g j sz lo n b nn cap hD hι hlo hb0 hb1=>
  unfold W7;simp only;split
  ·rename_i g' j' hn;obtain ⟨h1,h2⟩:=b5b (ι:=ι) hp hn hD;exact .own g' j' sz lo n b nn cap h1 (h2.trans hι) hlo hb0 hb1
  ·exact .fv _ _ (.bot _ rfl)
 | own0 g j sz lo b cap hD hlo=>
  unfold W7;simp only;split
  ·rename_i g' j' hn;obtain ⟨h1,h2⟩:=b5b (ι:=ι) hp hn hD;exact .own0 g' j' sz lo b cap h1 hlo
  ·exact .fv _ _ (.bot _ rfl)
 | ptr g j off B7 hD hι=>
  unfold W7;simp only;split
  ·rename_i g' j' hn;obtain ⟨h1,h2⟩:=b5b (ι:=ι) hp hn hD;exact .ptr g' j' off B7 h1 (h2.trans hι)
  ·exact .fv _ _ (.bot _ rfl)
 | eptr g j sz idx off b hD hι=>
  unfold W7;simp only;split
  ·rename_i g' j' hn;obtain ⟨h1,h2⟩:=b5b (ι:=ι) hp hn hD;exact .eptr g' j' sz idx off b h1 (by rw [h2];exact hι)
  ·exact .fv _ _ (.bot _ rfl)
 | fptr cs g o ds hF h hs=>exact .fv _ _ (.bot _ rfl)
 | mp g j B7 hD hι=>
  unfold W7;simp only;split
  ·rename_i g' j' hn;obtain ⟨h1,h2⟩:=b5b (ι:=ι) hp hn hD;exact .mp g' j' B7 h1 (h2.trans hι)
  ·exact .fv _ _ (.bot _ rfl)
theorem x9.maps{α α' β:Type}{R:α->β->Prop}{R':α'->β->Prop}(f:α->α')(hf:∀x y,R x y->R' (f x) y):∀{B4 bs},x9 R B4 bs->x9 R' (B4.map f) bs
 | _,_,.nil=>.nil
 | _,_,.cons h t=>.cons (hf _ _ h) (t.maps f hf)
theorem RA.ren{gs:List (Nat×Nat)}(hp:a1l keep gs S=some S'){v:V}{c:Value}(h:RA w F S.D ι v c):RA w F S'.D (a5c ι gs) (b3D gs v) c:=by
 cases h with
 | cell v c h=>
  have:b3D gs v=W7 gs v:=by
   cases h with
   | fv v c h=>cases h<;>rfl
   | _=>rfl
  rw [this];exact .cell _ _ (h.ren hp)
 | agg cs ds h=>exact .agg _ _ (h.maps _ fun _ _ x=>x.ren hp)
theorem RV.ren{gs:List (Nat×Nat)}(hp:a1l keep gs S=some S'){v:V}{c:Value}(h:RV w F S.D ι v c):RV w F S'.D (a5c ι gs) (c1B gs v) c:=by
 cases h with
 | one v c h=>
  have:c1B gs v=b3D gs v:=by
   cases h with
   | cell v c h=>
    cases h with
    | fv v c h=>cases h<;>rfl
    | _=>rfl
   | agg cs ds h=>rfl
  rw [this];exact .one _ _ (h.ren hp)
 | tup cs ds h=>exact .tup _ _ (h.maps _ fun _ _ x=>x.ren hp)
 | any c=>exact .any c
theorem b6c{gs:List (Nat×Nat)}(hp:a1l keep gs S=some S'):∀{vs:List V} {cs:List Value},x9 (RV w F S.D ι) vs cs->∀(i:Nat) (ks:List Nat),x9 (RV w F S'.D (a5c ι gs)) (a8j gs i ks vs) cs
 | _,_,.nil,i,ks=>by cases ks<;>exact .nil
 | _,_,.cons h t,i,[]=>.cons (.any _) (b6c hp t _ _)
 | _,_,.cons h t,i,k::ks=>by
  unfold a8j;split
  ·exact .cons (h.ren hp) (b6c hp t _ _)
  ·exact .cons (.any _) (b6c hp t _ _)
theorem b8U{gs:List (Nat×Nat)}(hp:a1l keep gs S=some S'){g j:Nat}{e:s9}(he:S'.ent g j=some e):e=.dead\/∃g0 j0 e0,S.ent g0 j0=some e0/\e=a7D gs e0/\a5c ι gs g j=ι g0 j0/\((g=0/\g0=0/\j=j0/\(0,j) ∉ gs)\/(∃i,g=i+1/\j=0/\gs[i]?=some (g0,j0))):=by
 unfold a1l at hp;split at hp<;>try (cases hp;done)
 injection hp with hp;subst hp;cases g with
 | zero=>
  unfold St.ent at he;simp only [f9Z] at he;split at he<;>try (cases he;done)
  rename_i l hl;injection hl with hl;split at hl<;>try (cases hl;done)
  rename_i l0 t hh;injection hl with hl;subst hl;rcases c9n he with h1|⟨e0,h1,h2,h3⟩
  ·exact .inl h1
  ·exact .inr ⟨0,j,e0,by unfold St.ent;rw [hh];exact h1,h2,rfl,.inl ⟨rfl,rfl,rfl,by simpa using h3⟩⟩
 | succ i=>
  unfold St.ent at he;simp only [g0h] at he;split at he<;>try (cases he;done)
  rename_i l hl;have hlt:i<gs.length:=by
   have:=(f8U.1 hl).1;rwa [d7E] at this
  have hgi:gs[i]?=some gs[i]:=f8N hlt;generalize gs[i]=id at hgi;rw [c5A hgi] at hl;injection hl with hl;injection hl with hl;subst hl;cases j with
  | succ j=>simp at he
  | zero=>
   simp only [f9Z] at he;injection he with he;cases hx:S.ent id.1 id.2 with
   | none=>rw [hx] at he;exact .inl he.symm
   | some e0=>
    rw [hx] at he;exact .inr ⟨id.1,id.2,e0,hx,he.symm,by simp [a5c,hgi],.inr ⟨i,rfl,rfl,hgi⟩⟩
theorem f1x{α:Type}{l:List α}(h:l.Nodup){i j:Nat}{x:α}(hi:l[i]?=some x)(hj:l[j]?=some x):i=j:=by
 obtain ⟨h1,h2⟩:=f8U.1 hi;obtain ⟨h3,h4⟩:=f8U.1 hj;exact (List.getElem_inj h).1 (h2.trans h4.symm)
theorem e9p{gs:List (Nat×Nat)}(h:u6 Γ F ι S a w)(hp:a1l keep gs S=some S'):∃ι',u6 Γ F ι' S' a w:=by
  have hnd:gs.Nodup:=by
    unfold a1l at hp;split at hp<;>try (cases hp;done)
    rename_i hchk;exact a5n hchk
  have hlive:∀e:s9,(a7D gs e).live=true->e.live=true/\∀c k,EB w (a7D gs e) c k->EB w e c k:=by
    intro e he;cases e with
    | deep o e sz n rows=>
      cases o with
      | true=>cases he
      | false=>exact ⟨rfl,fun _ _ hk=>hk⟩
    | _=>exact ⟨he,fun _ _ hk=>hk⟩
  have ht:S'.t=a8j gs 0 keep S.t:=by
    unfold a1l at hp;split at hp<;>try (cases hp;done)
    injection hp with hp;subst hp;rfl
  refine ⟨a5c ι gs,?_⟩;exact
    { F0:=h.F0,F1:=h.F1,F2:=h.F2,kept:=h.kept
      tmps:=by rw [ht];exact b6c hp h.tmps 0 keep
      ents:=fun g j e he=>by
        rcases b8U (ι:=ι) hp he with rfl|⟨g0,j0,e0,h0,rfl,h2,_⟩
        · trivial
        · rw [h2];have hr:=h.ents _ _ _ h0;cases e0 with
          | var e cs=>
            obtain ⟨g1,cur,q1,q2,q3⟩:=hr;exact ⟨g1,cur,q1,q2,q3.maps _ fun _ _ x=>x.ren hp⟩
          | dead=>exact hr
          | arr e sz n rows=>exact hr
          | row e sz n rows=>exact hr
          | frz sz n rows=>exact hr
          | map t m es=>exact hr
          | deep o e sz n rows=>
            cases o with
            | true=>trivial
            | false=>
              obtain ⟨flat,fs,q1,q2,q3,q4,q5,q6⟩:=hr;exact ⟨flat,fs,q1,(q2.blOf (q6 rfl).flat).kl,q3,q4,q5,q6⟩
      sep:=fun g j e k he hl hk=>by
        rcases b8U (ι:=ι) hp he with rfl|⟨g0,j0,e0,h0,rfl,h2,_⟩
        · cases hl
        · rw [h2] at hk;exact h.sep _ _ _ k h0 (hlive _ hl).1 ((hlive _ hl).2 _ _ hk)
      inj:=fun g1 j1 e1 g2 j2 e2 k he1 he2 hl1 hl2 hk1 hk2=>by
        rcases b8U (ι:=ι) hp he1 with rfl|⟨x1,y1,z1,a1,rfl,b1,c1⟩
        · cases hl1
        rcases b8U (ι:=ι) hp he2 with rfl|⟨x2,y2,z2,a2,rfl,b2,c2⟩
        · cases hl2
        rw [b1] at hk1;rw [b2] at hk2;obtain ⟨q1,q2⟩:=h.inj _ _ _ _ _ _ k a1 a2 (hlive _ hl1).1 (hlive _ hl2).1 ((hlive _ hl1).2 _ _ hk1) ((hlive _ hl2).2 _ _ hk2);rcases c1 with ⟨u1,u2,u3,u4⟩|⟨i1,u1,u2,u3⟩<;>rcases c2 with ⟨v1,v2,v3,v4⟩|⟨i2,v1,v2,v3⟩
        · exact ⟨by omega,by omega⟩
        · refine absurd (f9c v3) ?_;rw [<-q1,<-q2,u2,<-u3];exact u4
        · refine absurd (f9c u3) ?_;rw [q1,q2,v2,<-v3];exact v4
        · rw [q1,q2] at u3;have:=f1x hnd u3 v3;exact ⟨by omega,by omega⟩
      defers:=h.defers
      pins:=fun j c hc=>by
        obtain ⟨h1,h2⟩:=h.pins j c hc;exact ⟨d5G hp h1,h2⟩}
end
def a9Z(cx:Cx)(k:List Item)(S:St)(sc:S9)(fs:List Fix)(keep:List Nat)(gs:List (Nat×Nat)):Option (List Item×St×List Prop):=
 match goM cx 4000 k S sc with
 | some (k1,S1,ps)=>match b3U fs S1 with
  | some (S2,qs)=>match a1l keep gs S2 with
   | some S3=>some (k1,S3,ps++qs)
   | none=>none
  | none=>none
 | none=>none
theorem K7.seg0{cx:Cx}{X:P3}{res:V}{outs:List (Option V)}{k k':List Item}{S S':St}{sc:S9}{fs:List Fix}{keep:List Nat}{gs:List (Nat×Nat)}{ps:List Prop}(hg:a9Z cx k S sc fs keep gs=some (k',S',ps))(hob:∀p∈ps,p)(h:K7 cx X res outs k' S'):K7 cx X res outs k S:=by
 unfold a9Z at hg;split at hg<;>try (cases hg;done)
 rename_i k1 S1 ps' h1;split at hg<;>try (cases hg;done)
 rename_i S2 qs h2;split at hg<;>try (cases hg;done)
 rename_i S3 h3;injection hg with hg;injection hg with e1 e2;injection e2 with e2 e3;subst e1;subst e2;subst e3;refine K7.go h1 (fun p hp=>hob p (f8P.2 (.inl hp))) ?_;intro w0 F0 fp cargs bs hp hF0 F ι a w b cs hrel hb1 hb2;obtain ⟨F',ι',hrel'⟩:=f1y fs hrel h2 (fun p hp=>hob p (f8P.2 (.inr hp)));obtain ⟨ι2,hrel2⟩:=e9p hrel' h3;exact h w0 F0 fp cargs bs hp hF0 F' ι2 a w b cs hrel2 hb1 hb2
def b1H(cx:Cx)(X:P3)(k:List Item)(S:St)(sc:S9):Option (V×List (Option V)×List Prop):=
 match goM cx 4000 k S sc with
 | some (k1,S1,ps)=>match c32 cx X k1 S1 with
  | some (res,outs,qs)=>some (res,outs,ps++qs)
  | none=>none
 | none=>none
theorem K7.fin0{cx:Cx}{X:P3}{res:V}{outs:List (Option V)}{k:List Item}{S:St}{sc:S9}{ps:List Prop}(hf:cx.P.funcs[X.f]?=some X.fn)(hg:b1H cx X k S sc=some (res,outs,ps))(hob:∀p∈ps,p):K7 cx X res outs k S:=by
 unfold b1H at hg;split at hg<;>try (cases hg;done)
 rename_i k1 S1 ps' h1;split at hg<;>try (cases hg;done)
 rename_i r o qs h2;injection hg with hg;injection hg with e1 e2;injection e2 with e2 e3;subst e1;subst e2;subst e3;exact K7.go h1 (fun p hp=>hob p (f8P.2 (.inl hp))) (K7.ret hf h2 fun p hp=>hob p (f8P.2 (.inr hp)))
def Q0:List Prop->Prop
 | []=>True
 | p::ps=>p/\Q0 ps
theorem Q0.mem:∀{ps:List Prop},Q0 ps->∀p∈ps,p
 | _::_,h,p,hp=>by
  rcases f8X.1 hp with rfl|hp
  ·exact h.1
  ·exact Q0.mem h.2 p hp
theorem Q0.nil:Q0 []:=trivial
theorem K7.seg{cx:Cx}{X:P3}{res:V}{outs:List (Option V)}{k k':List Item}{S S':St}(sc:S9)(fs:List Fix)(keep:List Nat)(gs:List (Nat×Nat))(ps:List Prop)(hob:Q0 ps)(h:K7 cx X res outs k' S')(hg:a9Z cx k S sc fs keep gs=some (k',S',ps)):K7 cx X res outs k S:=
 K7.seg0 hg hob.mem h
theorem K7.fin{cx:Cx}{X:P3}{res:V}{outs:List (Option V)}{k:List Item}{S:St}(hf:cx.P.funcs[X.f]?=some X.fn)(sc:S9)(ps:List Prop)(hob:Q0 ps)(hg:b1H cx X k S sc=some (res,outs,ps)):K7 cx X res outs k S:=
 K7.fin0 hf hg hob.mem
def a6k:V->Bool
 | .osl .. | .dsl .. | .optr .. => true
 | _=>false
def a2a:List (Option Nat)->List V->Bool
 | [],[]=>true
 | none::om,.osl .. :: _=>false
 | none::om,.dsl .. :: _=>false
 | none::om,_::vs=>a2a om vs
 | some _::om,.osl .. :: vs=>a2a om vs
 | some _::om,.dsl .. :: vs=>a2a om vs
 | _,_=>false
def d7m:PM->V->Bool
 | .val _ om,.agg vs=>a2a om vs
 | .val ..,_=>false
 | .part,_=>false
 | _,v=>a6k v
def a3K:Nat->List (Option (Nat×PM))->List V->Bool
 | _,[],[]=>true
 | j,none::os,v::vs=>a3K (j+(K3 0 j v).2.length) os vs
 | j,some (j',m)::os,v::vs=>Nat.beq j' j&&d7m m v&&a3K (j+(K3 0 j v).2.length) os vs
 | _,_,_=>false
def c08:Nat->List V
 | 0=>[]
 | n+1=>.bot::c08 n
def b05(X:P3)(args:List V):St:=
 let x:=Y8 0 0 args
 {t:=x.1++c08 (X.fn.ntmps-args.length),h:=[some x.2]}
section
variable {w:World} {F:Nat->Prop}
theorem d9I{v:V}{c:Value}{f:List Nat}(h:BA w F v c f)(j:Nat):∃bs:List Value,bs.length=(K3 0 j v).2.length/\H9 w (K3 0 j v).2 bs f/\(a6k v=true->bs.head?=some c)/\
  ∀(D:Nat->Prop) (ι:Nat->Nat->Value),D 0->At ι 0 j bs->f.Nodup->RA w F D ι (K3 0 j v).1 c/\Lie w F D ι (K3 0 j v).2 bs:=by
 by_cases ho:a6k v=true
 ·cases h with
  | cell v c f h=>
   cases h with
   | fv v c h=>cases h<;>cases ho
   | osl e sz n rows c h=>
    refine ⟨[c],rfl,.one fun k hk=>R7.2 hk,fun _=>rfl,fun D ι hD hat _=>⟨.cell _ _ (RC.whole hD (hat 0 c rfl) h),?_⟩⟩;intro k e' b he hb;cases k with
    | zero=>
     simp [K3,K1] at he hb;subst he;subst hb;exact h
    | succ k=>simp [K3,K1] at he
   | dsl e sz n rows c flat fs h1 h2 h3 h4=>
    obtain ⟨bs,q1,q2,q3⟩:=b9i (grp:=0) (BC.dsl e sz n rows c flat fs h1 h2 h3 h4) j;refine ⟨[c],rfl,.one fun k hk=>(EB.deep_iff (D:=fun _=>True) (ι:=fun _ _=>.nilFunc) h1 h2.kl).1 hk,fun _=>rfl,fun D ι hD hat hnd=>⟨.cell _ _ (RC.wholeO hD (hat 0 c rfl) h1),?_⟩⟩;intro k e' b he hb;cases k with
    | zero=>
     simp [K3,K1] at he hb;subst he;subst hb;exact ⟨flat,fs,h1,h2.kl,h3,h4,hnd,fun _=>I8.of_flat h2.noRef⟩
    | succ k=>simp [K3,K1] at he
  | agg cs ds f h=>cases ho
  | optr e cs g cur f hg h=>
   obtain ⟨bs,h1,h2,h3⟩:=a8l (grp:=0) h (j+1);refine ⟨.pointer (some ⟨g,0,none⟩)::bs,by simp [K3,h1],?_,fun _=>rfl,fun D ι hD hat hnd => ?_⟩
   ·exact H9.cons (w:=w) (e:=.var e (L5 0 (j+1) cs).1) (b:=.pointer (some ⟨g,0,none⟩)) (f1:=[g]) (fun k hk=>by
     have hk:B7 (.pointer (some ⟨g,0,none⟩))=some k:=hk;simp [B7] at hk;simp [hk]) h2
   have hat':At ι 0 (j+1) bs:=fun k b hb=>by
    have:=hat (k+1) b (by simpa using hb);rw [<-this];congr 1;omega
   obtain ⟨x,y⟩:=h3 D ι hD hat' (g0o.1 hnd).2;refine ⟨.cell _ _ (.ptr 0 j 0 g hD (hat 0 _ rfl)),?_⟩;intro k e' b he hb;cases k with
   | zero=>
    simp [K3] at he hb;subst he;subst hb;exact ⟨g,cur,rfl,hg,x⟩
   | succ k=>exact y k e' b (by simpa [K3] using he) (by simpa using hb)
 ·obtain ⟨bs,h1,h2,h3⟩:=c20 (grp:=0) h j;exact ⟨bs,h1,h2,fun q=>absurd q ho,h3⟩
theorem c3K{pre b1 b2:List Value}:∀{om:List (Option Nat)} {j:Nat} {ds:List Value},a6f (pre++b1) om j ds->a6f (pre++(b1++b2)) om j ds
 | [],_,[],_=>trivial
 | none::om,j,d::ds,h=>⟨h.1,c3K h.2⟩
 | some _::om,j,d::ds,h=>by
  refine ⟨?_,c3K h.2⟩;have h1:=h.1;rw [<-f9i,f9l (f8U.1 h1).1];exact h1
 | [],_,_::_,h=>h.elim
 | none::_,_,[],h=>h.elim
 | some _::_,_,[],h=>h.elim
theorem d7f:∀{vs:List V} {cs:List Value} {f:List Nat},BL w F vs cs f->∀j,∃bs:List Value,bs.length=(L5 0 j vs).2.length/\H9 w (L5 0 j vs).2 bs f/\
    (∀(om:List (Option Nat)) (pre:List Value),pre.length=j->a2a om vs=true->a6f (pre++bs) om j cs)/\
    ∀(D:Nat->Prop) (ι:Nat->Nat->Value),D 0->At ι 0 j bs->f.Nodup->x9 (RC w F D ι) (L5 0 j vs).1 cs/\Lie w F D ι (L5 0 j vs).2 bs
  | _,_,_,.nil,j=>⟨[],rfl,.nil,fun om pre _ h=>by cases om with|nil=>trivial|cons o om=>cases o<;>simp [a2a] at h,fun D ι hD hat _=>⟨.nil,fun k e b he=>by simp [L5] at he⟩⟩
  | _,_,_,.cons v c f vs cs fs h t,j=>by
    have hone:=h.one;have hb:∃b1:List Value,b1.length=(K1 0 j v).2.length/\H9 w (K1 0 j v).2 b1 f/\(a6k v=true->b1=[c])/\(a6k v=false->b1=[])/\∀(D:Nat->Prop) (ι:Nat->Nat->Value),D 0->At ι 0 j b1->f.Nodup->RC w F D ι (K1 0 j v).1 c/\Lie w F D ι (K1 0 j v).2 b1:=by
      cases h with
      | fv v c h=>
        obtain ⟨b1,q1,q2,q3⟩:=b9i (grp:=0) (BC.fv (w:=w) v c h) j;have hv:(K1 0 j v).2=[]/\a6k v=false:=by cases h<;>exact ⟨rfl,rfl⟩
        have:b1=[]:=f9b (by rw [q1,hv.1];rfl);exact ⟨b1,q1,q2,fun q=>by (rw [hv.2] at q;cases q),fun _=>this,q3⟩
      | osl e sz n rows c h=>
        refine ⟨[c],rfl,.one fun k hk=>R7.2 hk,fun _=>rfl,(fun q=>by cases q),fun D ι hD hat _=>⟨RC.whole hD (hat 0 c rfl) h,?_⟩⟩;intro k e' b he hb;cases k with
        | zero=>
          simp [K1] at he hb;subst he;subst hb;exact h
        | succ k=>simp [K1] at he
      | dsl e sz n rows c flat fs h1 h2 h3 h4=>
        refine ⟨[c],rfl,.one fun k hk=>(EB.deep_iff (D:=fun _=>True) (ι:=fun _ _=>.nilFunc) h1 h2.kl).1 hk,fun _=>rfl,(fun q=>by cases q),fun D ι hD hat hnd=>⟨RC.wholeO hD (hat 0 c rfl) h1,?_⟩⟩;intro k e' b he hb;cases k with
        | zero=>
          simp [K1] at he hb;subst he;subst hb;exact ⟨flat,fs,h1,h2.kl,h3,h4,hnd,fun _=>I8.of_flat h2.noRef⟩
        | succ k=>simp [K1] at he
    obtain ⟨b1,hl1,hf1,hi1,hi0,h1⟩:=hb;obtain ⟨b2,hl2,hf2,hp2,h2⟩:=d7f t (j+(K1 0 j v).2.length);refine ⟨b1++b2,by simp [L5,hl1,hl2],hf1.append hf2 hl1,?_,fun D ι hD hat hnd => ?_⟩
    · intro om pre hpre hok;have hnext:∀om,a2a om vs=true->a6f (pre++(b1++b2)) om (j+(K1 0 j v).2.length) cs:=by
        intro om hok;have:=hp2 om (pre++b1) (by simp [hpre,hl1]) hok;rwa [f9i] at this
      cases om with
      | nil=>simp [a2a] at hok
      | cons o om=>
        by_cases hv:a6k v=true
        · obtain rfl:=hi1 hv;have hlen:(K1 0 j v).2.length=1:=by rw [<-hl1];rfl
          rw [hlen] at hnext;cases o with
          | none => cases v<;>first|(cases hv;done)|(simp [a2a] at hok;done)|skip
                    cases h;rename_i h;cases h
          | some e=>
            refine ⟨?_,hnext om ?_⟩
            · rw [f9h (by omega)];simp [hpre]
            · cases v<;>first|(cases hv;done)|(simpa [a2a] using hok)|(simp [a2a] at hok;done)
        · have hv:a6k v=false:=by simpa using hv
          obtain rfl:=hi0 hv;have hlen:(K1 0 j v).2.length=0:=by rw [<-hl1];rfl
          rw [hlen] at hnext;cases o with
          | none=>
            refine ⟨hone,hnext om ?_⟩;cases v<;>first|(cases hv;done)|(simpa [a2a] using hok)
          | some e=>cases v<;>first|(cases hv;done)|(simp [a2a] at hok;done)
    · rw [f8Z] at hnd;obtain ⟨x1,y1⟩:=h1 D ι hD hat.left hnd.1;obtain ⟨x2,y2⟩:=h2 D ι hD (by rw [<-hl1];exact hat.right) hnd.2.1;exact ⟨.cons x1 x2,y1.append y2 hl1.symm⟩
theorem e3K{v:V}{c:Value}{f:List Nat}(h:BA w F v c f)(j:Nat):∃bs:List Value,bs.length=(K3 0 j v).2.length/\H9 w (K3 0 j v).2 bs f/\
  (∀(m:PM) (oms:List (Option (Nat×PM))) (cs pre b2:List Value),pre.length=j->d7m m v=true->a16 oms cs (pre++(bs++b2))->a16 (some (j,m)::oms) (c::cs) (pre++(bs++b2)))/\
  ∀(D:Nat->Prop) (ι:Nat->Nat->Value),D 0->At ι 0 j bs->f.Nodup->RA w F D ι (K3 0 j v).1 c/\Lie w F D ι (K3 0 j v).2 bs:=by
 by_cases hv:∃cs,v=.agg cs
 ·obtain ⟨cs,rfl⟩:=hv;cases h with
  | cell v c f h=>cases h with|fv v c h=>cases h
  | agg cs ds f h=>
   obtain ⟨bs,h1,h2,hp,h3⟩:=d7f h j;refine ⟨bs,h1,h2,?_,fun D ι hD hat hnd=>⟨.agg _ _ (h3 D ι hD hat hnd).1,(h3 D ι hD hat hnd).2⟩⟩;intro m oms cs' pre b2 hpre hm t;cases m with
   | val ck om=>exact .agg _ _ _ _ _ _ _ (c3K (hp om pre hpre hm)) t
   | ptr ck om=>cases hm
   | row=>cases hm
   | part=>cases hm
 ·obtain ⟨bs,h1,h2,hh,h3⟩:=d9I h j;refine ⟨bs,h1,h2,?_,h3⟩;intro m oms cs' pre b2 hpre hm t;cases m with
  | val ck om=>cases v<;>first|exact absurd ⟨_,rfl⟩ hv|cases hm
  | part=>cases hm
  | ptr ck om=>
   refine .pin _ _ _ _ _ _ rfl ?_ t;have:=hh hm;cases bs with
   | nil=>cases this
   | cons b b1=>
    injection this with this;subst this;rw [f9h (by omega)];simp [hpre]
  | row=>
   refine .pin _ _ _ _ _ _ rfl ?_ t;have:=hh hm;cases bs with
   | nil=>cases this
   | cons b b1=>
    injection this with this;subst this;rw [f9h (by omega)];simp [hpre]
theorem f3D{vs:List V}{cs:List Value}{f:List Nat}(h:BS w F vs cs f):∀j,∃bs:List Value,bs.length=(Y8 0 j vs).2.length/\H9 w (Y8 0 j vs).2 bs f/\
  (∀(oms:List (Option (Nat×PM))) (pre:List Value),pre.length=j->a3K j oms vs=true->a16 oms cs (pre++bs))/\
  ∀(D:Nat->Prop) (ι:Nat->Nat->Value),D 0->At ι 0 j bs->f.Nodup->x9 (RA w F D ι) (Y8 0 j vs).1 cs/\Lie w F D ι (Y8 0 j vs).2 bs:=by
 induction h with
 | nil=>
  refine fun j=>⟨[],rfl,.nil,fun oms pre _ hp => ?_,fun D ι hD hat _=>⟨.nil,fun k e b he=>by simp [Y8] at he⟩⟩
  cases oms with
  | nil=>exact .nil _
  | cons o oms=>cases o<;>simp [a3K] at hp
 | cons v c f vs cs fs h t ih=>
  intro j;obtain ⟨b1,hl1,hf1,hh1,h1⟩:=e3K h j;obtain ⟨b2,hl2,hf2,hp2,h2⟩:=ih (j+(K3 0 j v).2.length);refine ⟨b1++b2,by simp [Y8,hl1,hl2],hf1.append hf2 hl1,?_,fun D ι hD hat hnd => ?_⟩
  ·intro oms pre hpre hp;cases oms with
   | nil=>simp [a3K] at hp
   | cons o oms=>
    have hnext:∀oms,a3K (j+(K3 0 j v).2.length) oms vs=true->a16 oms cs (pre++(b1++b2)):=by
     intro oms hp;have:=hp2 oms (pre++b1) (by simp [hpre,hl1]) hp;rwa [f9i] at this
    cases o with
    | none=>exact .skip _ _ _ _ (hnext oms (by simpa [a3K] using hp))
    | some q=>
     obtain ⟨j',m⟩:=q;simp only [a3K,f8R] at hp;obtain ⟨⟨e1,e2⟩,e3⟩:=hp;have hj:j'=j:=f9K e1;subst hj;exact hh1 m oms cs pre b2 hpre e2 (hnext oms e3)
  ·rw [f8Z] at hnd;obtain ⟨x1,y1⟩:=h1 D ι hD hat.left hnd.1;obtain ⟨x2,y2⟩:=h2 D ι hD (by rw [<-hl1];exact hat.right) hnd.2.1;exact ⟨.cons x1 x2,y1.append y2 hl1.symm⟩
theorem c8m{D:Nat->Prop}{ι:Nat->Nat->Value}:∀n,x9 (RV w F D ι) (c08 n) (f8O n undef)
 | 0=>.nil
 | n+1=>.cons (.any _) (c8m n)
theorem BS.len{vs:List V}{cs:List Value}{f:List Nat}(h:BS w F vs cs f):vs.length=cs.length:=by
 induction h with
 | nil=>rfl
 | cons _ _ _ _ _ _ _ _ ih=>simp [ih]
end
theorem a0K.of{cx:Cx}{X:P3}{args:List V}{res:V}{outs:List (Option V)}{c:Code}(hf:cx.P.funcs[X.f]?=some X.fn)(hb:X.fn.body=some c) (hn:(X.fn.name == "runtime.NumGoroutine")=false) (ho:a3K 0 X.oms args=true)
    (h:K7 cx X res outs [.code c] (b05 X args)):a0K cx.P X.f args res outs:=by
  refine ⟨⟨X.fn,hf,hn,by rw [hb];rfl⟩,?_⟩;intro w F cargs fp hbs hfpn hfp hF;obtain ⟨bs,hl,hbf,hpin,hlie⟩:=f3D hbs 0;have hpin':=hpin X.oms [] rfl ho;rw [f9M] at hpin';obtain ⟨hargs,hents⟩:=hlie (b05 X args).D (a4F (fun _ _=>.nilFunc) 0 bs) ⟨_,rfl⟩ (fun k b hb=>by rw [f9W];exact a44 hb) hfpn;have hent:∀g j e,(b05 X args).ent g j=some e->g=0/\(Y8 0 0 args).2[j]?=some e:=by
    intro g j e he;unfold St.ent b05 at he;cases g with
    | zero=>exact ⟨rfl,he⟩
    | succ g=>simp at he
  have hget:∀j e,(Y8 0 0 args).2[j]?=some e->∃b,bs[j]?=some b/\a4F (fun _ _=>.nilFunc) 0 bs 0 j=b:=by
    intro j e he;have hj:j<bs.length:=by rw [hl];exact (f8U.1 he).1
    exact ⟨bs[j],f8N hj,a44 (f8N hj)⟩
  have hrel:u6 ⟨w,F,(· ∈ fp),bs⟩ F (a4F (fun _ _=>.nilFunc) 0 bs) (b05 X args) {tmps:=cargs.toArray++Array.replicate (X.fn.ntmps-cargs.toArray.size) undef,defers:=[]} w:=
    { F0:=fun _ x=>x,F1:=hF,F2:=fun _ x=>.inl x,kept:=.refl _ _
      tmps:=by
        show x9 _ ((Y8 0 0 args).1++c08 (X.fn.ntmps-args.length)) _
        simp only [Array.toList_append,Array.toList_replicate,g0T];rw [hbs.len];exact (hargs.imp fun _ _ x=>RV.one _ _ x).app (c8m _)
      ents:=fun g j e he=>by
        obtain ⟨rfl,he⟩:=hent g j e he;obtain ⟨b,hb,hv⟩:=hget j e he;rw [hv];exact hents j e b he hb
      sep:=fun g j e k he hl' hk=>by
        obtain ⟨rfl,he⟩:=hent g j e he;obtain ⟨b,hb,hv⟩:=hget j e he;rw [hv] at hk;have:=hbf.mem he hb hk;exact ⟨(hfp k this).1,.inl this⟩
      inj:=fun g j e g' j' e' k he he' hl1 hl2 hk hk'=>by
        obtain ⟨rfl,he⟩:=hent g j e he;obtain ⟨rfl,he'⟩:=hent g' j' e' he';obtain ⟨b,hb,hv⟩:=hget j e he;obtain ⟨b',hb',hv'⟩:=hget j' e' he';rw [hv] at hk;rw [hv'] at hk';exact ⟨rfl,hbf.inj hfpn he hb hk he' hb' hk'⟩
      defers:=rfl
      pins:=fun j c hc=>⟨⟨_,rfl⟩,a44 hc⟩}
  intro cs;let b:Frame:={ (default:Frame) with fn:=X.f,kind:=.normal}
  have henter:Frame.enter cx.P X.f cargs.toArray .normal =
      b.at {tmps:=cargs.toArray++Array.replicate (X.fn.ntmps-cargs.toArray.size) undef,defers:=[]} [.code c]:=by
    simp [Frame.enter,Frame.at,hf,hb,b]
  obtain ⟨e,w',fr,h1,h2,h3,h4⟩:=h w F fp cargs bs hpin' hF F _ _ w b cs hrel rfl rfl;rw [<-henter] at h2;exact ⟨e,w',fr,h1,h2,h3,h4⟩
inductive j7 (R S B:Type) where
 | ret (r:R)
 | brk (b:B)
 | nxt (s:S)
inductive l9 (R B:Type) where
 | ret (r:R)
 | brk (b:B)
def a0L{R S B:Type}(body:S->Option (j7 R S B)):Nat->S->Option (l9 R B)
 | 0,_=>none
 | n+1,s=>match body s with
  | some (.ret r)=>some (.ret r)
  | some (.brk s)=>some (.brk s)
  | some (.nxt s)=>a0L body n s
  | none=>none
open Classical in
def o7{R S B:Type}(body:S->Option (j7 R S B))(s:S):Option (l9 R B):=
 if h:∃n r,a0L body n s=some r then some h.choose_spec.choose else none
theorem c3B{R S B:Type}{body:S->Option (j7 R S B)}:∀{n:Nat} {s:S} {r:l9 R B},a0L body n s=some r->∀m,n<=m->a0L body m s=some r
 | 0,s,r,h,_,_=>by cases h
 | n+1,s,r,h,0,hm=>by omega
 | n+1,s,r,h,m+1,hm=>by
  unfold a0L at h⊢;cases hb:body s with
  | none=>rw [hb] at h;cases h
  | some st=>
   rw [hb] at h;cases st with
   | ret x=>exact h
   | brk x=>exact h
   | nxt x=>exact c3B h m (by omega)
theorem c2d{R S B:Type}{body:S->Option (j7 R S B)}{s:S}{r:l9 R B}:o7 body s=some r ↔ ∃n,a0L body n s=some r:=by
 unfold o7;constructor
 ·intro h;split at h
  ·rename_i hx;injection h with h;exact ⟨_,h▸hx.choose_spec.choose_spec⟩
  ·cases h
 ·rintro ⟨n,h⟩
  have hx:∃n r,a0L body n s=some r:=⟨n,r,h⟩
  rw [dif_pos hx];have h1:=hx.choose_spec.choose_spec;have h2:=c3B h1 _ (Nat.le_max_left _ n);have h3:=c3B h _ (Nat.le_max_right hx.choose n);rw [h2] at h3;exact h3
theorem c6E{R S B:Type}(body:S->Option (j7 R S B))(s:S):o7 body s=match body s with
  | some (.ret r)=>some (.ret r)
  | some (.brk s)=>some (.brk s)
  | some (.nxt s)=>o7 body s
  | none=>none:=by
 apply Option.ext;intro r;rw [c2d];cases hb:body s with
 | none=>
  constructor
  ·rintro ⟨n,h⟩
   cases n with
   | zero=>cases h
   | succ n=>unfold a0L at h;rw [hb] at h;cases h
  ·intro h;cases h
 | some st=>
  cases st with
  | ret x=>
   constructor
   ·rintro ⟨n,h⟩
    cases n with
    | zero=>cases h
    | succ n=>unfold a0L at h;rw [hb] at h;exact h
   ·intro h;exact ⟨1,by unfold a0L;rw [hb];exact h⟩
  | brk x=>
   constructor
   ·rintro ⟨n,h⟩
    cases n with
    | zero=>cases h
    | succ n=>unfold a0L at h;rw [hb] at h;exact h
   ·intro h;exact ⟨1,by unfold a0L;rw [hb];exact h⟩
  | nxt x=>
   simp only;rw [c2d];constructor
   ·rintro ⟨n,h⟩
    cases n with
    | zero=>cases h
    | succ n=>unfold a0L at h;rw [hb] at h;exact ⟨n,h⟩
   ·rintro ⟨n,h⟩
    exact ⟨n+1,by unfold a0L;rw [hb];exact h⟩
def b0f{R S B:Type}(r:l9 R B)(I:S->Prop):j7 R S B->Prop
 | .ret x=>r=.ret x
 | .brk s=>r=.brk s
 | .nxt s=>I s
theorem e6E{R S B:Type}{body:S->Option (j7 R S B)}{I:S->Prop}{s:S}{r:l9 R B}(h:o7 body s=some r)(step:∀s st,body s=some st->b0f r I st->I s):I s:=by
 obtain ⟨n,h1⟩:=c2d.1 h;clear h;have h:=h1;clear h1;induction n generalizing s with
 | zero=>cases h
 | succ n ih=>
  unfold a0L at h;cases hb:body s with
  | none=>rw [hb] at h;cases h
  | some st=>
   rw [hb] at h;refine step s st hb ?_;cases st with
   | ret x=>injection h with h;exact h.symm
   | brk x=>injection h with h;exact h.symm
   | nxt x=>exact ih h
def l9.go{R B β:Type}(x:l9 R B)(kr:R->Option β)(ks:B->Option β):Option β:=
 match x with
 | .ret r=>kr r
 | .brk s=>ks s
def JC{B J:Type}(I:J->Prop)(r:B):l9 B J->Prop
 | .ret v=>some v=some r
 | .brk j=>I j
def idx{α:Type}(l:List α)(i:Int):Option α:=if 0<=i then l[i.toNat]? else none
def t5{β:Type}(p:Prop)[Decidable p](k:Option β):Option β:=if p then k else none
theorem c07{α:Type}{l:List α}{i:Int}{x:α}(h:idx l i=some x):0<=i/\i<l.length/\l[i.toNat]?=some x:=by
 unfold idx at h;split at h
 ·rename_i hi;refine ⟨hi,?_,h⟩;have:=(f8U.1 h).1;omega
 ·cases h
section
variable {G:Prop} {α β R S:Type}
theorem B0{m:Option α}{f:α->Option β}{r:β}(h:m.bind f=some r)(k:∀x,m=some x->f x=some r->G):G:=by
 cases m with
 | none=>cases h
 | some x=>exact k x rfl h
theorem t9{p:Prop}[Decidable p]{a:Option β}{r:β}(h:t5 p a=some r)(k:p->a=some r->G):G:=by
 unfold t5 at h;split at h
 ·rename_i hp;exact k hp h
 ·cases h
theorem e5R{B:Type}{I:S->Prop}{r:l9 R B}{x:R}{st:j7 R S B}(h:some (j7.ret x)=some st)(hc:b0f r I st)(k:r=.ret x->G):G:=by
 injection h with h;subst h;exact k hc
theorem f1s{B:Type}{I:S->Prop}{r:l9 R B}{x:B}{st:j7 R S B}(h:some (j7.brk x)=some st)(hc:b0f r I st)(k:r=.brk x->G):G:=by
 injection h with h;subst h;exact k hc
theorem f0g{B:Type}{I:S->Prop}{r:l9 R B}{x:S}{st:j7 R S B}(h:some (j7.nxt x)=some st)(hc:b0f r I st)(k:I x->G):G:=by
 injection h with h;subst h;exact k hc
theorem d9t{B:Type}{I:S->Prop}{r:l9 R B}{x:R}{st:j7 R S B}(h:some (j7.ret x)=some st)(hc:b0f r I st):r=.ret x:=e5R h hc id
theorem A4{B J:Type}{T:Option (l9 B J)}{K:J->Option B}{r:B}{I:J->Prop}(h:(T.bind fun x=>x.go some K)=some r)(rest:∀j,K j=some r->I j)(e98:∀x,T=some x->JC I r x->G):G:=by
 cases T with
 | none=>cases h
 | some x=>
  refine e98 x rfl ?_;cases x with
  | ret v=>exact h
  | brk j=>exact rest j h
theorem B8{B J:Type}{I:J->Prop}{r v:B}{x:l9 B J}(h:some (l9.ret v)=some x)(hc:JC I r x)(k:some v=some r->G):G:=by
 injection h with h;subst h;exact k hc
theorem e2F{B J:Type}{I:J->Prop}{r v:B}{x:l9 B J}(h:some (l9.ret v)=some x)(hc:JC I r x):some v=some r:=B8 h hc id
theorem o9{B J:Type}{I:J->Prop}{r:B}{x:l9 B J}{j:J}(h:some (l9.brk j)=some x)(hc:JC I r x)(k:I j->G):G:=by
 injection h with h;subst h;exact k hc
theorem e9S{B:Type}{body:S->Option (j7 R S B)}{s:S}{kr:R->Option β}{ks:B->Option β}{r:β}(h:((o7 body s).bind fun x=>x.go kr ks)=some r)(k:∀x,o7 body s=some x->(∀v,x=.ret v->kr v=some r)->(∀b,x=.brk b->ks b=some r)->G):G:=by
 cases hl:o7 body s with
 | none=>rw [hl] at h;cases h
 | some x=>
  rw [hl] at h;refine k x hl ?_ ?_
  ·intro v hv;subst hv;exact h
  ·intro b hb;subst hb;exact h
end
theorem K7.is{cx:Cx}{X:P3}{res b3C:V}{outs b3N:List (Option V)}{k:List Item}{S:St}(h:K7 cx X b3C b3N k S)(h1:res=b3C)(h2:outs=b3N):K7 cx X res outs k S:=by
 subst h1;subst h2;exact h
def vi(n:Int):V:=.i .i64 n
def bs:Nat->List V->List V
 | 0,l=>l
 | n+1,l=>.bot::bs n l
def l7{α:Type}(sz:Nat)(enc:α->List V)(l:List α):V:=.sl sz l.length (l.map enc)
def v6{α:Type}(e sz:Nat)(enc:α->List V)(l:List α):V:=.osl e sz l.length (l.map enc)
def m6{α:Type}(e sz:Nat)(enc:α->List V)(l:List α):s9:=.row e sz l.length (l.map enc)
def b2U{α:Type}(sz:Nat)(enc:α->List V)(l:List α):s9:=.frz sz l.length (l.map enc)
section
variable {α:Type} {enc:α->List V} {l:List α} {i:Int} {x:α}
theorem V5(h:idx l i=some x):(l.map enc)[i.toNat]?=some (enc x):=by
 rw [f9R,(c07 h).2.2];rfl
theorem b1V(h:idx l i=some x):(l.map enc)[0+i.toNat]?=some (enc x):=by
 rw [f9W];exact V5 h
theorem P5(h:idx l i=some x):0<=i:=(c07 h).1
theorem b3J(h:idx l i=some x):i<(l.length:Nat):=(c07 h).2.1
theorem d9e{e sz:Nat}{y:α}{cs:List V}(h:cs=enc y):s9.row e sz (l.length+1) (l.map enc++[cs])=m6 e sz enc (l++[y]):=by
 subst h;simp [m6]
theorem c6f{e sz:Nat}{l':List α}{n:Nat}{rows:List (List V)}(h1:n=l'.length)(h2:rows=l'.map enc):s9.row e sz (l.length+n) (l.map enc++rows)=m6 e sz enc (l++l'):=by
 subst h1;subst h2;simp [m6]
theorem f6r{e sz:Nat}{k:Nat}{y:α}{cs:List V}(h:cs=enc y):s9.row e sz l.length ((l.map enc).set (0+k) cs)=m6 e sz enc (l.set k y):=by
 subst h;simp [m6,List.map_set]
theorem c86{sz:Nat}{a b:Nat}(ha:a<=b)(hb:b<=l.length):V.sl sz (b-a) (((l.map enc).drop a).take (b-a))=l7 sz enc ((l.drop a).take (b-a)):=by
 have:min (b-a) (l.length-a)=b-a:=by omega
 simp [l7,List.map_take,List.map_drop,this]
end
def e48(f:Func):Code:=match f.body with
 | some c=>c
 | none=>.skip
def a3T:Nat->Nat->List Bool->List Item->List Item
 | 0,_,_,k=>k
 | f+1,n,cs,k=>match k with
  | .code (.region id ops dr)::k'=>match n with
   | 0=>.code (.region id ops dr)::k'
   | n+1=>a3T f n cs k'
  | .code .skip::k'=>a3T f n cs k'
  | .inBlock _::k'=>a3T f n cs k'
  | .code (.seq x y)::k'=>a3T f n cs (.code x :: .code y::k')
  | .code (.cond o x y)::k'=>match cs with
   | c::cs=>a3T f n cs (.code (bif c then x else y)::k')
   | []=>.code (.cond o x y)::k'
  | .code (.block id c)::k'=>a3T f n cs (.code c :: .inBlock id::k')
  | .code (.loop c)::k'=>a3T f n cs (.code c :: .inLoop c::k')
  | .inLoop c::k'=>a3T f n cs (.code c :: .inLoop c::k')
  | .code (.exit id)::k'=>match exitTo id k' with
   | some k2=>a3T f n cs k2
   | none=>.code (.exit id)::k'
  | k=>k
def td(i:Nat)(d:Bool):Nat×L6:=(i,{d:=some d})
def tr(i:Nat)(cs:List V):Nat×L6:=(i,{a:=.row cs})
def m7(n:Int):Int:=IntKind.wrap .i64 n
section
variable {α:Type} {enc:α->List V} {l l':List α} {n:Nat} {x y:α} {cs:List V} {e sz:Nat}
theorem f5r(h:cs=enc x):s9.row e sz n (f8O n cs)=m6 e sz enc (f8O n x):=by
 subst h;simp [m6]
theorem a1h(h:l.length=n):s9.row e sz n (l.map enc)=m6 e sz enc l:=by
 subst h;rfl
theorem a9h{k:Nat}(h:cs=enc y):s9.arr e sz n ((l.map enc).set k cs)=.arr e sz n ((l.set k y).map enc):=by
 subst h;simp [List.map_set]
def C6(e sz:Nat)(enc:α->List V)(l:List α):s9:=.deep false e sz l.length (l.map enc)
def b1c(e sz:Nat)(enc:α->List V)(l:List α):V:=.dsl e sz l.length (l.map enc)
theorem a0P{k:Nat}(h:cs=enc y):(l.map enc).set (0+k) cs=(l.set k y).map enc:=by
 subst h;simp [List.map_set]
theorem a9t{rows:List (List V)}(h:rows=l.map enc)(hn:∀x,∀v∈enc x,v.isRef=false):I8 rows:=h▸I8.map hn l
theorem a9k{rows:List (List V)}{n:Nat}(h:rows=l.map enc)(hl:n=l.length):s9.deep false e sz n rows=C6 e sz enc l:=by
 subst h;subst hl;rfl
theorem c58(h:cs=enc y):s9.deep false e sz (l.length+1) (l.map enc++[cs])=C6 e sz enc (l++[y]):=by
 subst h;simp [C6]
theorem c49{L l1:List α}{lo n:Nat}(h:lo+n<=L.length):s9.row e sz (l1.length+n) (l1.map enc++((L.map enc).drop lo).take n)=m6 e sz enc (l1++(L.drop lo).take n):=by
 have:((L.drop lo).take n).length=n:=by simp;omega
 simp [m6,List.map_take,List.map_drop];omega
theorem c6I{L l1:List α}{lo n g:Nat}(h:lo+n<=L.length):V.own g 0 sz 0 (l1.length+n)=V.own g 0 sz 0 (l1++(L.drop lo).take n).length:=by
 congr 1
 simp;omega
theorem X1{rows X:List (List V)}{k:Nat}{c c':List V}(h:rows.set k c'=X):(rows.set k c).set k c'=X:=by rw [List.set_set];exact h
theorem a2c{rows:List (List V)}{k:Nat}(h:k<rows.length):(rows.set k cs)[k]?=some cs:=by simp [h]
theorem a4l{rows:List (List V)}{k j:Nat}(h:k<rows.length):k<(rows.set j cs).length:=by simpa using h
theorem a1Z{i:Int}(h:idx l i=some y):0+i.toNat<(l.map enc).length:=by
 have:=(b3J h)
 have:=(P5 h)
 rw [f9I];omega
theorem c43{i:Int}{f:α->V}(hf:∀x,enc x=[f x])(h:idx l i=some y):(l.map enc).flatten[i.toNat]?=some (f y):=by
 have e:(l.map enc).flatten=l.map f:=by
  induction l with
  | nil=>rfl
  | cons x l ih=>
   have ih':(l.map enc).flatten=l.map f:=by
    clear ih h;induction l with
    | nil=>rfl
    | cons x l ih=>simp [hf,ih]
   simp [hf,ih']
 rw [e,f9R];unfold idx at h;split at h
 ·rw [h];rfl
 ·cases h
theorem b8C{hi:Int}(h:0<=hi/\hi<=(l.length:Nat)):V.sl sz (hi.toNat-0) (((l.map enc).drop 0).take (hi.toNat-0))=l7 sz enc ((l.drop 0).take (hi.toNat-0)):=
 c86 (by omega) (by omega)
theorem b33{lo:Int}(h:0<=lo/\lo<=(l.length:Nat)):V.sl sz (l.length-lo.toNat) (((l.map enc).drop lo.toNat).take (l.length-lo.toNat))=l7 sz enc ((l.drop lo.toNat).take (l.length-lo.toNat)):=
 c86 (by omega) (by omega)
end
def c4a:Nat->List (Option V)
 | 0=>[]
 | n+1=>none::c4a n
theorem Q4:∀n,a4D (c4a n)
 | 0=>fun v h=>by cases h
 | n+1=>fun v h=>by
  rcases f8X.1 h with q|q
  ·cases q
  ·exact Q4 n v q
section
variable {P:Program} {d:Nat} {xs ys:Array Value} {f:Field} {fs:List Field} {a b:Value} {r s:Bool} {w:World}
theorem b9q:(Op.eqFields d xs ys []).run P w=.ok true w:=by simp [Op.eqFields]
theorem a6j (hn:(f.name == "_")=false) (ha:(part f.type xs f.offset).run P w=.ok a w) (hb:(part f.type ys f.offset).run P w=.ok b w) (he:(Op.equalIn d f.type a b).run P w=.ok r w) (hr:(Op.eqFields d xs ys fs).run P w=.ok s w):(Op.eqFields d xs ys (f::fs)).run P w=.ok (r&&s) w:=by
 have hn':f.name ≠ "_" := by simpa using hn
 rw [Op.eqFields];simp only [if_pos hn',Sem.run_bind,ha,hb,he,Result.andThen_ok];cases r
 ·simp
 ·simpa using hr
theorem b9h{t:TypeId}{fs:Array Field}(hu:P.underlying t=some (.struct fs))(hp:P.stoodInHeld t=false)(h:(Op.eqFields d xs ys fs.toList).run P w=.ok r w):(Op.equalIn (d+1) t (.agg xs) (.agg ys)).run P w=.ok r w:=by
 have hf:P.fieldsOf t=fs:=by simp [Program.fieldsOf,hu]
 rw [run_equalIn_struct (P:=P) w d t xs ys (by rw [hf];exact hu) hp,hf];exact h
theorem a7m{t:TypeId}{k:IntKind}{m n:Int}(h:P.underlying t=some (.int k)):(Op.equalIn (d+1) t (.int .i64 m) (.int .i64 n)).run P w=.ok (m==n) w:=run_equalIn_int w d t .i64 k m n h
end
structure Pt(cx:Cx)(X:P3)(res:V)(outs:List (Option V))(k:List Item)(S:St)(sc:S9)(ps:List Prop):Prop where
 f:Q0 ps->K7 cx X res outs k S
def d58{α:Type}:List α->List α->List α
 | [],b=>b
 | a::l,b=>d58 l (a::b)
def scO:S9->S9->S9
 | [],b=>b
 | r::l,b=>scO l (d58 r []::b)
def psO:List Prop->List Prop->List Prop
 | [],b=>b
 | p::l,b=>psO l (p::b)
theorem c10{ps:List Prop}:∀{qs:List Prop},Q0 ps->Q0 qs->Q0 (psO ps qs):=by
 induction ps with
 | nil=>exact fun _ h=>h
 | cons p ps ih=>exact fun h h'=>ih h.2 ⟨h.1,h'⟩
def a5D{α β:Type}(m:Option α)(f:α->Option β)(g:Option β):Option β:=
 match m with
 | some x=>f x
 | none=>g
def dt(t:Nat×L6)(d:Bool):Nat×L6:=(t.1,{t.2 with d:=some d})
section
variable {cx:Cx} {X:P3} {res:V} {outs:List (Option V)} {k:List Item} {S:St} {sc:S9} {ps:List Prop} {r:List (Nat×L6)} {α β:Type} {v:β}
theorem P0(h:Pt cx X res outs k S [] []):K7 cx X res outs k S:=h.f Q0.nil
theorem rg(h:Pt cx X res outs k S ([]::sc) ps):Pt cx X res outs k S sc ps:=⟨h.f⟩
theorem n9(h:Pt cx X res outs k S ([]::[]::sc) ps):Pt cx X res outs k S sc ps:=⟨h.f⟩
theorem L8(h:Pt cx X res outs k S ([]::[]::[]::sc) ps):Pt cx X res outs k S sc ps:=⟨h.f⟩
theorem rg4(h:Pt cx X res outs k S ([]::[]::[]::[]::sc) ps):Pt cx X res outs k S sc ps:=⟨h.f⟩
theorem tl(t:Nat×L6)(h:Pt cx X res outs k S ((t::r)::sc) ps):Pt cx X res outs k S (r::sc) ps:=⟨h.f⟩
theorem ob{p:Prop}(q:p)(h:Pt cx X res outs k S sc (p::ps)):Pt cx X res outs k S sc ps:=⟨fun a=>h.f ⟨q,a⟩⟩
theorem om(p:Prop)(q:p)(h:Pt cx X res outs k S sc (p::ps)):Pt cx X res outs k S sc ps:=ob q h
theorem cdT(t:Nat×L6){e:Bool}{a b:Option β}(h:cond e a b=some v)(k1:e=true->a=some v->Pt cx X res outs k S ((dt t true::r)::sc) ((e=true)::ps))(k2:e=false->b=some v->Pt cx X res outs k S ((dt t false::r)::sc) ((e=false)::ps)):Pt cx X res outs k S (r::sc) ps:=by
 cases e with
 | true=>exact ob rfl (tl _ (k1 rfl h))
 | false=>exact ob rfl (tl _ (k2 rfl h))
theorem j5(i:Nat){e:Bool}{a b:Option β}(h:cond e a b=some v)(k1:a=some v->Pt cx X res outs k S ((td i true::r)::sc) ((e=true)::ps))(k2:b=some v->Pt cx X res outs k S ((td i false::r)::sc) ((e=false)::ps)):Pt cx X res outs k S (r::sc) ps:=by
 cases e with
 | true=>exact ob rfl (tl _ (k1 h))
 | false=>exact ob rfl (tl _ (k2 h))
theorem cb(t:Nat->Bool->α->Nat×L6){m:Option α}{p:α->Prop}(ok:∀x,m=some x->p x)(i:Nat)(fr:Bool){f:α->Option β}(h:m.bind f=some v)(g:∀x,f x=some v->Pt cx X res outs k S ((t i fr x::r)::sc) (p x::ps)):Pt cx X res outs k S (r::sc) ps:=
 B0 h fun x hx h=>ob (ok x hx) (tl _ (g x h))
theorem cbA(t:Nat->Bool->α->Nat×L6){m:Option α}{p:α->Prop}(ok:∀x,m=some x->p x)(i:Nat)(fr:Bool){f:α->Option β}{e:Option β}(h:a5D m f e=some v)(g:∀x,f x=some v->Pt cx X res outs k S ((t i fr x::r)::sc) (p x::ps))(g2:e=some v->Pt cx X res outs k S (r::sc) ps):Pt cx X res outs k S (r::sc) ps:=by
 cases m with
 | none=>exact g2 h
 | some x=>exact ob (ok x rfl) (tl _ (g x h))
theorem cbE(t:Nat->Bool->α->Nat×L6){m:Option α}{p:α->Prop}(ok:∀x,m=some x->p x){f:α->Option β}(h:m.bind f=some v)(g:∀x,p x->f x=some v->Pt cx X res outs k S sc ps):Pt cx X res outs k S sc ps:=
 B0 h fun x hx h=>g x (ok x hx) h
section
variable {enc:α->List V} {l l':List α} {I:Int} {x y z:α}
theorem u0(enc:α->List V)(i:Nat){f:α->Option β}(h:(idx l I).bind f=some v)(g:∀y,idx l I=some y->f y=some v->Pt cx X res outs k S ((tr i (enc y)::r)::sc) (((l.map enc)[I.toNat]?=some (enc y))::(I<((l.length:Nat):Int))::((0:Int)<=I)::ps)):Pt cx X res outs k S (r::sc) ps:=
 B0 h fun y hy h=>ob (P5 hy) (ob (b3J hy) (ob (V5 hy) (tl _ (g y hy h))))
theorem I1(enc:α->List V)(i:Nat)(hy:idx l I=some y)(g:Pt cx X res outs k S ((tr i (enc y)::r)::sc) (((l.map enc)[I.toNat]?=some (enc y))::(I<((l.length:Nat):Int))::((0:Int)<=I)::ps)):Pt cx X res outs k S (r::sc) ps:=
 ob (P5 hy) (ob (b3J hy) (ob (V5 hy) (tl _ g)))
theorem C0(hy:idx l I=some y)(g:Pt cx X res outs k S sc ((I<((l.length:Nat):Int))::((0:Int)<=I)::ps)):Pt cx X res outs k S sc ps:=ob (P5 hy) (ob (b3J hy) g)
theorem I6(enc:α->List V)(i:Nat)(hy:idx l I=some y)(g:Pt cx X res outs k S ((tr i (enc y)::r)::sc) (((l.map enc)[0+I.toNat]?=some (enc y))::ps)):Pt cx X res outs k S (r::sc) ps:=
 ob (b1V hy) (tl _ g)
theorem Q6(e sz:Nat)(enc:α->List V)(i:Nat)(ck:List (Option Nat))(y:α)(hz:idx l I=some z)(g:Pt cx X res outs k S (((i,{a:=.rowck (enc z) ck,e:=some (m6 e sz enc (l.set I.toNat y))})::r)::sc) (((l.map enc)[0+I.toNat]?=some (enc z))::(s9.row e sz l.length ((l.map enc).set (0+I.toNat) (enc y))=m6 e sz enc (l.set I.toNat y))::ps)):Pt cx X res outs k S (r::sc) ps:=
 ob (f6r rfl) (ob (b1V hz) (tl _ g))
theorem S8(i w t sz b:Nat)(enc:α->List V)(z:α)(T:TI)(a:P4){N:Int}(e1:0<=N/\N*((b:Nat):Int)<=140737488355328)(hb:0<b)(hl:T.zero.length=sz)(g:Pt cx X res outs k S (((i,{a:=a,e:=some (m6 t sz enc (f8O N.toNat z)),v:=some (.own w 0 sz 0 (f8O N.toNat z).length)})::r)::sc)
   ((T.zero.length=sz)::(N*((b:Nat):Int)<=140737488355328/\0<b)::(N=N)::((0:Int)<=N)::(s9.row t sz N.toNat (f8O N.toNat (enc z))=m6 t sz enc (f8O N.toNat z))::(V.own w 0 sz 0 N.toNat=.own w 0 sz 0 (f8O N.toNat z).length)::ps)):Pt cx X res outs k S (r::sc) ps:=
 ob (by simp) (ob (f5r rfl) (ob e1.1 (ob rfl (ob ⟨e1.2,hb⟩ (ob hl (tl _ g))))))
theorem F7(i w t sz b:Nat)(enc:α->List V)(l:List α)(x:α)(h:(l.length+1)*b<=140737488355328)(g:Pt cx X res outs k S (((i,{v:=some (.own w 0 sz 0 (l++[x]).length),e:=some (m6 t sz enc (l++[x]))})::r)::sc)
   (((l.length+1)*b<=140737488355328)::(l.length=l.length)::(s9.row t sz (l.length+1) (l.map enc++[enc x])=m6 t sz enc (l++[x]))::(V.own w 0 sz 0 (l.length+1)=.own w 0 sz 0 (l++[x]).length)::ps)):Pt cx X res outs k S (r::sc) ps:=
 ob (by simp) (ob (d9e rfl) (ob rfl (ob h (tl _ g))))
theorem apL(i w t sz b:Nat)(enc:α->List V)(l l':List α)(h:(l.length+l'.length)*b<=140737488355328)(g:Pt cx X res outs k S (((i,{v:=some (.own w 0 sz 0 (l++l').length),e:=some (m6 t sz enc (l++l'))})::r)::sc)
   (((l.length+l'.length)*b<=140737488355328)::(l.length=l.length)::(s9.row t sz (l.length+l'.length) (l.map enc++l'.map enc)=m6 t sz enc (l++l'))::(V.own w 0 sz 0 (l.length+l'.length)=.own w 0 sz 0 (l++l').length)::ps)):Pt cx X res outs k S (r::sc) ps:=
 ob (by simp) (ob (c6f rfl rfl) (ob rfl (ob h (tl _ g))))
end
theorem sg(fs:List Fix)(keep:List Nat)(gs:List (Nat×Nat)){k':List Item}{S':St}(h:K7 cx X res outs k' S')(hg:a9Z cx k S (scO sc []) fs keep gs=some (k',S',psO ps []):=by kernel_rfl):Pt cx X res outs k S sc ps:=
 ⟨fun a=>K7.seg _ fs keep gs _ (c10 a Q0.nil) h hg⟩
def reT:List (Nat×V)->St->St×List Prop
 | [],S=>(S,[])
 | (i,v)::l,S=>match S.t[i]? with
  | some u=>match reT l {S with t:=S.t.set i v} with
   | (S',ps)=>(S',(u=v)::ps)
  | none=>reT l S
theorem c6b:∀{l:List (Nat×V)} {S:St},Q0 (reT l S).2->(reT l S).1=S
 | [],_,_=>rfl
 | (i,v)::l,S,h=>by
  unfold reT at h⊢;split at h
  ·rename_i u hu;have h1:u=v:=h.1;have h2:=c6b (l:=l) h.2;simp only;rw [h2,<-h1,a0m hu]
  ·exact c6b h
theorem Q0.split:∀{ps qs:List Prop},Q0 (ps++qs)->Q0 ps/\Q0 qs
 | [],_,h=>⟨trivial,h⟩
 | _::_,_,h=>⟨⟨h.1,(Q0.split h.2).1⟩,(Q0.split h.2).2⟩
def c6l(cx:Cx)(k:List Item)(S:St)(sc:S9)(fs:List Fix)(keep:List Nat)(gs:List (Nat×Nat))(ts:List (Nat×V)):Option (List Item×St×List Prop):=
 match a9Z cx k S sc fs keep gs with
 | some (k',S',ps)=>some (k',(reT ts S').1,ps++(reT ts S').2)
 | none=>none
theorem sgT(fs:List Fix)(keep:List Nat)(gs:List (Nat×Nat))(ts:List (Nat×V)){k':List Item}{S':St}(h:K7 cx X res outs k' S')(hg:c6l cx k S (scO sc []) fs keep gs ts=some (k',S',psO ps []):=by kernel_rfl):Pt cx X res outs k S sc ps:=by
 refine ⟨fun a => ?_⟩;unfold c6l at hg;split at hg<;>try (cases hg;done)
 rename_i k1 S1 ps1 h1;injection hg with hg;injection hg with e1 e2;injection e2 with e2 e3;have ha:=c10 a Q0.nil;rw [<-e3] at ha;obtain ⟨a1,a2⟩:=Q0.split ha;rw [<-e2,<-e1,c6b a2] at h;exact K7.seg _ fs keep gs _ a1 h h1
theorem a79{α:Type}{enc:α->List V}{gs:List (Nat×Nat)}(h:∀x,(enc x).map (W7 gs)=enc x):∀l:List α,((l.map enc).flatten.map (W7 gs))=(l.map enc).flatten
 | []=>rfl
 | x::l=>by
  simp only [f9z,f9t,g0f,h,a79 h l]
theorem fn0{b3C:V}{b3N:List (Option V)}(hf:cx.P.funcs[X.f]?=some X.fn)(h:res=b3C/\outs=b3N)(hg:b1H cx X k S (scO sc [])=some (b3C,b3N,psO ps []):=by kernel_rfl):Pt cx X res outs k S sc ps:=
 ⟨fun a=>(K7.fin hf _ _ (c10 a Q0.nil) hg).is h.1 h.2⟩
end
def H3(n:Int):Prop := -9223372036854775808<=n/\n<=9223372036854775807
def A2{α:Type}(bytes:Nat)(ok:α->Prop)(l:List α):Prop:=l.length*bytes<=140737488351232/\∀x∈l,ok x
def okT{α:Type}(x:α):Prop:=True
def Old(w:World)(k:Nat):Prop:=k<w.heap.size
def a90(P:Program){α:Type}(t:TypeId)(enc:α->List V)(ok:α->Prop):Prop:=
 ∀{H:Type} (ec:TypeId×Value->H) (w:World) (fuel:Nat) (cs:List Value) (x:DataW H×List MemPlace),DataW.trod ec P w 0 (fun _=>true) true fuel t cs=some x->(x.1.weights P t).all (·<=reachBytes)=true->
  ∃y,FL w (Old w) (enc y) cs/\ok y
section
variable {P:Program} {α:Type} {t e:TypeId} {enc:α->List V} {ok:α->Prop}
def a5g(n:Int):Prop:=0<=n/\n<=255
theorem e3f(ht:P.underlying t=some (.int .u8)):a90 P t (fun n:Int=>[.i .u8 n]) a5g:=by
 intro H ec w fuel cs x h _;obtain ⟨n,rfl,rfl,hw⟩:=DataW.trod_int ht h;refine ⟨n,.cons _ _ _ _ (.i _ _) .nil,?_⟩;simp only [Lit.wf,f8R,decide_eq_true_eq] at hw;exact hw
theorem d6D{H:Type}{P:Program}{e:TypeId}{p:Nat->Bool}:∀{ds:List (DataW H)},(DataW.weightsAll P e ds).all p=true->∀d∈ds,(d.weights P e).all p=true
 | [],_,d,hd=>by cases hd
 | d0::ds,h,d,hd=>by
  rw [DataW.weightsAll,List.all_append,f8R] at h;rcases f8X.1 hd with rfl|hd
  ·exact h.1
  ·exact d6D h.2 d hd
theorem FL.flat{w:World}{F:Nat->Prop}(vs:Nat->List V)(cs:Nat->List Value):∀n,(∀i,i<n->FL w F (vs i) (cs i))->FL w F ((f8W n).flatMap vs) ((f8W n).flatMap cs)
 | 0,_=>.nil
 | n+1,h=>by
  rw [List.range_succ,List.flatMap_append,List.flatMap_append];refine FL.append (FL.flat vs cs n fun i hi=>h i (by omega)) ?_;simpa using h n (by omega)
theorem c1a{sz:Nat}(cs:Nat->List Value):∀n,(∀i,i<n->(cs i).length=sz)->∀i,i<n->∀j,j<sz->((f8W n).flatMap cs)[i*sz+j]?=(cs i)[j]?/\((f8W n).flatMap cs).length=n*sz
 | 0,_,i,hi,_,_=>by omega
 | n+1,h,i,hi,j,hj=>by
  have hl:((f8W n).flatMap cs).length=n*sz:=by
   cases n with
   | zero=>simp
   | succ m=>exact (c1a cs (m+1) (fun i hi=>h i (by omega)) 0 (by omega) j hj).2
  rw [List.range_succ,List.flatMap_append];simp only [List.flatMap_cons,List.flatMap_nil,f9C];constructor
  ·by_cases hin:i<n
   ·have:i*sz+j<n*sz:=by
     have:(i+1)*sz<=n*sz:=f9u _ hin;rw [Nat.add_mul] at this;omega
    rw [f9l (by omega)];exact (c1a cs n (fun i hi=>h i (by omega)) i hin j hj).1
   ·have:i=n:=by omega
    subst this;rw [f9h (by omega),hl];congr 1
    omega
  ·rw [f9a,hl,h n (by omega),Nat.add_mul,Nat.one_mul]
theorem f3R{β:Type}{n:Nat}{p:Nat->β->Prop}(d:β)(h:∀i,i<n->∃x,p i x):∃f:Nat->β,∀i,i<n->p i (f i):=by
 classical
 refine ⟨fun i=>if hi:i<n then (h i hi).choose else d,fun i hi => ?_⟩;simp only [dif_pos hi];exact (h i hi).choose_spec
theorem e9v{sz bytes:Nat}(ht:P.underlying t=some (.slice e))(he:a90 P e enc ok)(hsz:P.cellsOf e=sz)(h0:0<sz)(hb:P.bytesOf e=bytes)(hl:∀y,(enc y).length=sz):a90 P t (fun l:List α=>[l7 sz enc l]) (A2 bytes ok):=by
 intro H ec w fuel cs x h hw;rcases DataW.trod_slice ht h with ⟨rfl,rfl⟩|⟨a,len,cap,elems,rest,n,_,rfl,rfl,hbs,hlc,hcm,hlen,hel,hsp,hns⟩
 ·exact ⟨[],.cons _ _ _ _ (.sl0 sz none 0) .nil,by simp,by simp⟩
 simp only [DataW.weights,ht,List.all_cons,List.all_append,f8R,decide_eq_true_eq,f9I] at hw;obtain ⟨hw0,hw1,hw2⟩:=hw;have hrest:rest.length=cap-len:=by
  cases hs:(fun _:Nat=>true) a.block with
  | true=>exact (hsp rfl).1
  | false=>cases hs
 have hlen2:len*bytes<=140737488351232:=by
  rw [hb] at hw0;have:len*bytes<=(elems.length+rest.length)*bytes:=f9u _ (by omega);have h2:reachBytes=140737488351232:=rfl;omega
 cases Nat.eq_zero_or_pos len with
 | inl hz=>
  subst hz;exact ⟨[],.cons _ _ _ _ (.sl0 sz _ cap) .nil,by simp,by simp⟩
 | inr hpos=>
  have key:∀i,i<len->∃cy:List Value×α,w.cells? 0 (a.add (i*sz)) sz=some cy.1/\FL w (Old w) (enc cy.2) cy.1/\ok cy.2:=by
   intro i hi;have h1:=hel i hi;have hi':i<elems.length:=by omega
   rw [f8N hi',hsz] at h1;obtain ⟨ci,h2,h3⟩:=Option.bind_eq_some_iff.1 h1;obtain ⟨y,h4,h5⟩:=he ec w n ci _ h3 (d6D hw1 _ (f9w.2 ⟨_,f8Q hi',rfl⟩));exact ⟨(ci,y),h2,h4,h5⟩
  obtain ⟨cy0,_⟩:=key 0 hpos;obtain ⟨f,hf⟩:=f3R cy0 key;have hcl:∀i,i<len->(f i).1.length=sz:=fun i hi=>(World.cells?_some (hf i hi).1).2.1
  have hspot:a.spot=none:=by
   have:=(World.cells?_some (hf 0 hpos).1).2.2 0 h0;rw [f8N (by rw [hcl 0 hpos];exact h0)] at this;have:=World.cell?_spot this;simpa [Addr.add] using this
  have hold:Old w a.block:=by
   have:=(World.cells?_some (hf 0 hpos).1).2.2 0 h0;rw [f8N (by rw [hcl 0 hpos];exact h0)] at this;unfold World.cell? at this;unfold Old;split at this
   ·rename_i c _ _ hh;simpa [Addr.add] using (Array.getElem?_eq_some_iff.1 hh).1
   ·cases this
  refine ⟨(f8W len).map fun i=>(f i).2,?_,?_,?_⟩
  ·have haddr:a=⟨a.block,a.off,none⟩:=by cases a;simp_all
   rw [show (Value.slice (some a) len cap)=.slice (some ⟨a.block,a.off,none⟩) len cap from by rw [<-haddr]];refine .cons _ _ _ _ ?_ .nil;unfold l7;rw [f9I,List.length_range];refine .sl sz len _ _ _ cap ((f8W len).flatMap fun i=>(f i).1) hold ?_ ?_ ?_ hlc ?_
   ·have:=FL.flat (w:=w) (F:=Old w) (fun i=>enc (f i).2) (fun i=>(f i).1) len fun i hi=>(hf i hi).2.1
    rw [g0W,<-List.flatMap_def];exact this
   ·simp
   ·intro r hr;rw [g0W] at hr;obtain ⟨i,_,rfl⟩:=f9w.1 hr;exact hl _
   ·intro j u hu;have hlf:=(c1a (fun i=>(f i).1) len hcl 0 hpos 0 h0).2;have hj:j<len*sz:=by
     have:=(f8U.1 hu).1;omega
    have hq:j / sz<len:=Nat.div_lt_of_lt_mul (by rw [Nat.mul_comm];exact hj);have hr:j % sz<sz:=Nat.mod_lt _ h0;have hjs:j=j / sz*sz+j % sz:=by rw [Nat.mul_comm];exact (Nat.div_add_mod j sz).symm
    have hget:=(c1a (fun i=>(f i).1) len hcl _ hq _ hr).1;rw [<-hjs,hu] at hget;have hcell:=(World.cells?_some (hf _ hq).1).2.2 _ hr;rw [<-hget] at hcell;rw [<-hcell];have hadd:(a.add (j / sz*sz)).add (j % sz)=a.add j:=by
     rw [show (a.add (j / sz*sz)).add (j % sz)=a.add (j / sz*sz+j % sz) from Go.Deep.add_add a _ _,<-hjs]
    rw [hadd];congr 1
    unfold Addr.add;split
    ·rename_i h;subst h;exact haddr.symm
    ·rfl
  ·simpa using hlen2
  ·intro y hy;obtain ⟨i,hi,rfl⟩:=f9w.1 hy;exact (hf i (by simpa using hi)).2.2
section
variable {α':Type} {H:Type} {ec:TypeId×Value->H} {w:World} {base:Nat} {r:Reach} {v:Value} {d:DataW H} {p:List MemPlace}
theorem BA.of1{F:Nat->Prop}{x:V}{c:Value}(h:FL w F [x] [c]):BA w F x c []:=by
 cases h with
 | cons _ _ _ _ h _=>exact .cell _ _ _ (.fv _ _ h)
theorem c8M{f:α->V}(ht:P.underlying t=some (.slice e))(ho:a90 P t (fun y=>[f y]) ok)(hv:Value.okWide P w r base t v)(h:DataW.Trod ec P w 0 (fun _=>true) true t v d p)(hw:(d.weights P t).all (·<=reachBytes)=true):∃y,BA w (Old w) (f y) v []/\ok y:=by
 obtain ⟨a,l,c,rfl⟩:=WideShapes.okWide_slice ht hv;obtain ⟨fuel,hf⟩:=h;obtain ⟨y,h1,h2⟩:=ho ec w fuel _ _ hf hw;exact ⟨y,BA.of1 h1,h2⟩
end
theorem e7D{f:FuncId}{args:List V}{outs:List (Option V)}{vs:List Value}{W:World}(h:a0K P f args (.b true) outs)(hb:BS W (Old W) args vs []) :
  Calls P f vs.toArray W fun e W'=>e=.returned (.bool true)/\RowKit.Below W.heap.size W W':=by
 refine (h.2 W (Old W) vs [] hb List.nodup_nil (by simp) (fun k hk=>hk)).mono ?_;rintro e W' ⟨c,F',fr,fo,rfl,hk,_,_,hr,_,_,_⟩
 refine ⟨?_,hk.os,hk.tape,hk.output,hk.size,fun k hk'=>hk.block k hk' (by simp)⟩;cases hr with
 | one _ _ _ h=>
  cases h with
  | cell _ _ _ h=>
   cases h with
   | fv _ _ h=>cases h;rfl
end
abbrev LOV:=List (Option V)
abbrev KS:=List Item×St
def FK(cx:Cx)(X:P3)(res:V)(outs:LOV)(s:KS):Prop:=K7 cx X res outs s.1 s.2
structure LC(cx:Cx)(X:P3){R P E:Type}(fR:R->V)(fO:R->LOV)(SE:E->KS)(S:P->KS) where
 res:V
 outs:LOV
 x:l9 R E
 hb:∀s:E,x=.brk s->FK cx X res outs (SE s)
 hr:∀v:R,x=.ret v->res=fR v/\outs=fO v
 st:j7 R P E
 hc:b0f x (fun s=>FK cx X res outs (S s)) st
section
variable {cx:Cx} {X:P3} {R P E J:Type} {fR:R->V} {fO:R->LOV} {SE:E->KS} {SP:P->KS} {G:Prop} {α β:Type}
abbrev LB(cx:Cx)(X:P3)(fR:R->V)(fO:R->LOV)(SE:E->KS)(SP:P->KS)(b:P->Option (j7 R P E)):Prop := ∀(c:LC cx X fR fO SE SP) (s:P),b s=some c.st->FK cx X c.res c.outs (SP s)
abbrev NL(c:LC cx X fR fO SE SP)(S:J->KS)(f:J->Option (j7 R P E)):Prop := ∀s,f s=some c.st->FK cx X c.res c.outs (S s)
theorem LC.nx(c:LC cx X fR fO SE SP){s:P}(h:some (j7.nxt s)=some c.st)(g:FK cx X c.res c.outs (SP s)->G):G:=f0g h c.hc g
theorem LC.bk(c:LC cx X fR fO SE SP){s:E}(h:some (j7.brk s)=some c.st)(g:FK cx X c.res c.outs (SE s)->G):G:=f1s h c.hc fun e=>g (c.hb _ e)
theorem LC.rt(c:LC cx X fR fO SE SP){r:R}(h:some (j7.ret r)=some c.st):c.res=fR r/\c.outs=fO r:=c.hr _ (d9t h c.hc)
variable {res:V} {outs:LOV} {k:List Item} {S:St} {sc:S9} {ps:List Prop} {r:List (Nat×L6)} {v:β} {s:KS}
theorem PK(h:Pt cx X res outs s.1 s.2 [] []):FK cx X res outs s:=h.f Q0.nil
theorem sk(fs:List Fix)(keep:List Nat)(gs:List (Nat×Nat))(h:FK cx X res outs s)(hg:a9Z cx k S (scO sc []) fs keep gs=some (s.1,s.2,psO ps []):=by kernel_rfl):Pt cx X res outs k S sc ps:=sg fs keep gs h hg
theorem skT(fs:List Fix)(keep:List Nat)(gs:List (Nat×Nat))(ts:List (Nat×V))(h:FK cx X res outs s)(hg:c6l cx k S (scO sc []) fs keep gs ts=some (s.1,s.2,psO ps []):=by kernel_rfl):Pt cx X res outs k S sc ps:=sgT fs keep gs ts h hg
theorem lp{b:P->Option (j7 R P E)}(B:LB cx X fR fO SE SP b){d6Q:P}{g1:R->Option β}{g2:E->Option β}(h:((o7 b d6Q).bind fun x=>x.go g1 g2)=some v)(h1:∀r,g1 r=some v->res=fR r/\outs=fO r)(h2:∀s,g2 s=some v->FK cx X res outs (SE s))(hs:FK cx X res outs (SP d6Q)->Pt cx X res outs k S sc ps):Pt cx X res outs k S sc ps:=
 e9S h fun x hl hr hb=>hs (e6E (I:=fun s=>FK cx X res outs (SP s)) hl fun s st h hc=>B ⟨res,outs,x,fun s e=>h2 s (hb s e),fun v e=>h1 v (hr v e),st,hc⟩ s h)
theorem s8{α:Type}(a:List α)(h:Pt cx X res outs k S sc ((a.length=a.length)::ps)):Pt cx X res outs k S sc ps:=ob rfl h
theorem C9{α β:Type}(a:List α)(b:List β)(h:Pt cx X res outs k S sc ((b.length=b.length)::(a.length=a.length)::ps)):Pt cx X res outs k S sc ps:=ob rfl (ob rfl h)
theorem Y2{α β γ:Type}(a:List α)(b:List β)(c:List γ)(h:Pt cx X res outs k S sc ((c.length=c.length)::(b.length=b.length)::(a.length=a.length)::ps)):Pt cx X res outs k S sc ps:=ob rfl (ob rfl (ob rfl h))
theorem H8{α β γ δ:Type}(a:List α)(b:List β)(c:List γ)(d:List δ)(h:Pt cx X res outs k S sc ((d.length=d.length)::(c.length=c.length)::(b.length=b.length)::(a.length=a.length)::ps)):Pt cx X res outs k S sc ps:=ob rfl (ob rfl (ob rfl (ob rfl h)))
theorem A9(α:Type)(h:Pt cx X res outs k S sc ((0=([]:List α).length)::ps)):Pt cx X res outs k S sc ps:=ob rfl h
theorem E7{α:Type}(x:α)(h:Pt cx X res outs k S sc ((1=[x].length)::ps)):Pt cx X res outs k S sc ps:=ob rfl h
theorem tk(i:Nat)(c:List (Option Nat))(h:Pt cx X res outs k S (((i,{a:=.ck c})::r)::sc) ps):Pt cx X res outs k S (r::sc) ps:=tl _ h
theorem oa(g j sz:Nat){α:Type}(a b:List α)(h:Pt cx X res outs k S sc ((V.own g j sz 0 (a.length+b.length)=.own g j sz 0 (a++b).length)::ps)):Pt cx X res outs k S sc ps:=ob (congrArg (V.own g j sz 0) f9a.symm) h
theorem oz(e sz:Nat){α:Type}(f:α->List V)(a b:List α)(h:Pt cx X res outs k S sc ((s9.row e sz (a.length+b.length) (a.map f++b.map f)=m6 e sz f (a++b))::ps)):Pt cx X res outs k S sc ps:=ob (c6f rfl rfl) h
end
def eI(x:Int):List V:=[vi x]
def J8(x:Int):List V:=[.i .u8 x]
def eB(x:Bool):List V:=[.b x]
structure n5 where
 b9:Int
 Seq:Int
def F4(x:n5):List V:=[vi x.b9,vi x.Seq]
structure r9 where
 i5:Int
 j4:Int
def w8(x:r9):List V:=[vi x.i5,vi x.j4]
structure p8 where
 i5:Int
 d8:Int
def w9(x:p8):List V:=[vi x.i5,vi x.d8]
structure n7 where
 b5:List r9
 b7:List p8
 d8:Int
 Code:Int
def R9(x:n7):List V:=[l7 2 w8 x.b5,l7 2 w9 x.b7,vi x.d8,vi x.Code]
structure m4 where
 i7:Bool
 a5:n5
 b6:n7
def s6(x:m4):List V:=[.b x.i7,vi x.a5.b9,vi x.a5.Seq,l7 2 w8 x.b6.b5,l7 2 w9 x.b6.b7,vi x.b6.d8,vi x.b6.Code]
structure m8 where
 a8:Int
 g9:m4
def q8(x:m8):List V:=[vi x.a8,.b x.g9.i7,vi x.g9.a5.b9,vi x.g9.a5.Seq,l7 2 w8 x.g9.b6.b5,l7 2 w9 x.g9.b6.b7,vi x.g9.b6.d8,vi x.g9.b6.Code]
structure z0 where
 i0:Int
 a7:List m8
def a0Z(x:z0):List V:=[vi x.i0,l7 8 q8 x.a7]
structure n8 where
 a9:Int
 A:Int
 B:Int
 N:Int
def A6(x:n8):List V:=[vi x.a9,vi x.A,vi x.B,vi x.N]
structure j6 where
 Id:Int
 Acc:z0
 a6:List m4
 Seq:Int
 d6:Int
 a8:Int
 c9:List Bool
 i4:List m8
 c8:m4
 a7:List Bool
 i9:Bool
 i6:List n8
 b8:m4
 f0:List m4
def x6(x:j6):List V:=[vi x.Id,vi x.Acc.i0,l7 8 q8 x.Acc.a7,l7 7 s6 x.a6,vi x.Seq,vi x.d6,vi x.a8,l7 1 eB x.c9,l7 8 q8 x.i4,.b x.c8.i7,vi x.c8.a5.b9,vi x.c8.a5.Seq,l7 2 w8 x.c8.b6.b5,l7 2 w9 x.c8.b6.b7,vi x.c8.b6.d8,vi x.c8.b6.Code,l7 1 eB x.a7,.b x.i9,l7 4 A6 x.i6,.b x.b8.i7,vi x.b8.a5.b9,vi x.b8.a5.Seq,l7 2 w8 x.b8.b6.b5,l7 2 w9 x.b8.b6.b7,vi x.b8.b6.d8,vi x.b8.b6.Code,l7 7 s6 x.f0]
structure l8 where
 a9:Int
 c9:Int
 To:Int
 a8:Int
 g8:Int
 g9:m4
 a7:List m8
def t7(x:l8):List V:=[vi x.a9,vi x.c9,vi x.To,vi x.a8,vi x.g8,.b x.g9.i7,vi x.g9.a5.b9,vi x.g9.a5.Seq,l7 2 w8 x.g9.b6.b5,l7 2 w9 x.g9.b6.b7,vi x.g9.b6.d8,vi x.g9.b6.Code,l7 8 q8 x.a7]
structure x8 where
 a5:n5
 i6:List n8
def C1(x:x8):List V:=[vi x.a5.b9,vi x.a5.Seq,l7 4 A6 x.i6]
structure n6 where
 Node:Int
 a5:n5
 Code:Int
 d8:Int
def z5(x:n6):List V:=[vi x.Node,vi x.a5.b9,vi x.a5.Seq,vi x.Code,vi x.d8]
structure m5 where
 a0:List j6
 d7:List l8
 d9:List x8
 Told:List n6
def J7(x:m5):List V:=[l7 27 x6 x.a0,l7 13 t7 x.d7,l7 3 C1 x.d9,l7 5 z5 x.Told]
structure s5 where
 a9:Int
 A:Int
 i6:List n8
def J6(x:s5):List V:=[vi x.a9,vi x.A,l7 4 A6 x.i6]
structure t8 where
 b:List Int
 p:Int
def a0g(x:t8):List V:=[l7 1 J8 x.b,vi x.p]
structure m9 where
 j4:Int
 d8:Int
def x7(x:m9):List V:=[vi x.j4,vi x.d8]
structure q9 where
 a5:n5
 Code:Int
 d8:Int
def B9(x:q9):List V:=[vi x.a5.b9,vi x.a5.Seq,vi x.Code,vi x.d8]
structure u5 where
 At:Int
 g7:List m9
 i8:List q9
def a77(x:u5):List V:=[vi x.At,l7 2 x7 x.g7,l7 4 B9 x.i8]
structure p7 where
 n:j6
 out:List l8
 told:List n6
def c7T(x:p7):List V:=[vi x.n.Id,vi x.n.Acc.i0,l7 8 q8 x.n.Acc.a7,l7 7 s6 x.n.a6,vi x.n.Seq,vi x.n.d6,vi x.n.a8,l7 1 eB x.n.c9,l7 8 q8 x.n.i4,.b x.n.c8.i7,vi x.n.c8.a5.b9,vi x.n.c8.a5.Seq,l7 2 w8 x.n.c8.b6.b5,l7 2 w9 x.n.c8.b6.b7,vi x.n.c8.b6.d8,vi x.n.c8.b6.Code,l7 1 eB x.n.a7,.b x.n.i9,l7 4 A6 x.n.i6,.b x.n.b8.i7,vi x.n.b8.a5.b9,vi x.n.b8.a5.Seq,l7 2 w8 x.n.b8.b6.b5,l7 2 w9 x.n.b8.b6.b7,vi x.n.b8.b6.d8,vi x.n.b8.b6.Code,l7 7 s6 x.n.f0,l7 13 t7 x.out,l7 5 z5 x.told]
def z7(x:j6):List V:=[vi x.Id,vi x.Acc.i0,v6 61 8 q8 x.Acc.a7,v6 52 7 s6 x.a6,vi x.Seq,vi x.d6,vi x.a8,v6 4 1 eB x.c9,l7 8 q8 x.i4,.b x.c8.i7,vi x.c8.a5.b9,vi x.c8.a5.Seq,l7 2 w8 x.c8.b6.b5,l7 2 w9 x.c8.b6.b7,vi x.c8.b6.d8,vi x.c8.b6.Code,v6 4 1 eB x.a7,.b x.i9,l7 4 A6 x.i6,.b x.b8.i7,vi x.b8.a5.b9,vi x.b8.a5.Seq,l7 2 w8 x.b8.b6.b5,l7 2 w9 x.b8.b6.b7,vi x.b8.b6.d8,vi x.b8.b6.Code,v6 52 7 s6 x.f0]
theorem a6l(x:j6):∀v∈z7 x,v.isRef=false:=by simp [z7,V.isRef,vi,l7,v6,b1c]
theorem c4l(x:j6):a2e (z7 x)=x6 x:=by simp [z7,x6,a2e,a8L,vi,l7,v6,b1c]
def a0U(x:m8):List V:=[vi x.a8,.b x.g9.i7,vi x.g9.a5.b9,vi x.g9.a5.Seq,v6 153 2 w8 x.g9.b6.b5,v6 156 2 w9 x.g9.b6.b7,vi x.g9.b6.d8,vi x.g9.b6.Code]
theorem e2Q(x:m8):a2e (a0U x)=q8 x:=by simp [a0U,q8,a2e,a8L,vi,l7,v6,b1c]
def a10(l:List n8):List V:=[l7 4 A6 l]
def G1(x:n5):List Int:=[x.b9,x.Seq]
def e9R(x_:j6):List V:=[vi x_.Id,vi x_.Acc.i0,l7 8 q8 x_.Acc.a7,v6 52 7 s6 x_.a6,vi x_.Seq,vi x_.d6,vi x_.a8,v6 4 1 eB x_.c9,l7 8 q8 x_.i4,.b x_.c8.i7,vi x_.c8.a5.b9,vi x_.c8.a5.Seq,l7 2 w8 x_.c8.b6.b5,l7 2 w9 x_.c8.b6.b7,vi x_.c8.b6.d8,vi x_.c8.b6.Code,v6 4 1 eB x_.a7,.b x_.i9,l7 4 A6 x_.i6,.b x_.b8.i7,vi x_.b8.a5.b9,vi x_.b8.a5.Seq,l7 2 w8 x_.b8.b6.b5,l7 2 w9 x_.b8.b6.b7,vi x_.b8.b6.d8,vi x_.b8.b6.Code,v6 52 7 s6 x_.f0]
def a72(x_:m5):List V:=[v6 54 27 x6 x_.a0,v6 82 13 t7 x_.d7,v6 85 3 C1 x_.d9,v6 89 5 z5 x_.Told]
def H5(x_:j6):List V:=[vi x_.Id,vi x_.Acc.i0,v6 61 8 q8 x_.Acc.a7,v6 52 7 s6 x_.a6,vi x_.Seq,vi x_.d6,vi x_.a8,v6 4 1 eB x_.c9,l7 8 q8 x_.i4,.b x_.c8.i7,vi x_.c8.a5.b9,vi x_.c8.a5.Seq,l7 2 w8 x_.c8.b6.b5,l7 2 w9 x_.c8.b6.b7,vi x_.c8.b6.d8,vi x_.c8.b6.Code,v6 4 1 eB x_.a7,.b x_.i9,l7 4 A6 x_.i6,.b x_.b8.i7,vi x_.b8.a5.b9,vi x_.b8.a5.Seq,l7 2 w8 x_.b8.b6.b5,l7 2 w9 x_.b8.b6.b7,vi x_.b8.b6.d8,vi x_.b8.b6.Code,v6 52 7 s6 x_.f0]
def U5(x_:m5):List V:=[b1c 54 27 z7 x_.a0,v6 82 13 t7 x_.d7,v6 85 3 C1 x_.d9,v6 89 5 z5 x_.Told]
def a7o(x_:n7):List V:=[v6 153 2 w8 x_.b5,v6 156 2 w9 x_.b7,vi x_.d8,vi x_.Code]
def e6L(x_:m4):List V:=[.b x_.i7,vi x_.a5.b9,vi x_.a5.Seq,v6 153 2 w8 x_.b6.b5,v6 156 2 w9 x_.b6.b7,vi x_.b6.d8,vi x_.b6.Code]
def d76(x_:m8):List V:=[vi x_.a8,.b x_.g9.i7,vi x_.g9.a5.b9,vi x_.g9.a5.Seq,l7 2 w8 x_.g9.b6.b5,l7 2 w9 x_.g9.b6.b7,vi x_.g9.b6.d8,vi x_.g9.b6.Code]
def a8d(x_:j6):List V:=[vi x_.Id,vi x_.Acc.i0,.own 0 0 8 0 x_.Acc.a7.length,.own 0 1 7 0 x_.a6.length,vi x_.Seq,vi x_.d6,vi x_.a8,.own 0 2 1 0 x_.c9.length,l7 8 q8 x_.i4,.b x_.c8.i7,vi x_.c8.a5.b9,vi x_.c8.a5.Seq,l7 2 w8 x_.c8.b6.b5,l7 2 w9 x_.c8.b6.b7,vi x_.c8.b6.d8,vi x_.c8.b6.Code,.own 0 3 1 0 x_.a7.length,.b x_.i9,l7 4 A6 x_.i6,.b x_.b8.i7,vi x_.b8.a5.b9,vi x_.b8.a5.Seq,l7 2 w8 x_.b8.b6.b5,l7 2 w9 x_.b8.b6.b7,vi x_.b8.b6.d8,vi x_.b8.b6.Code,.own 0 4 7 0 x_.f0.length]
def Y4(x_:j6):List V:=[vi x_.Id,vi x_.Acc.i0,l7 8 q8 x_.Acc.a7,l7 7 s6 x_.a6,vi x_.Seq,vi x_.d6,vi x_.a8,l7 1 eB x_.c9,l7 8 q8 x_.i4,.b x_.c8.i7,vi x_.c8.a5.b9,vi x_.c8.a5.Seq,l7 2 w8 x_.c8.b6.b5,l7 2 w9 x_.c8.b6.b7,vi x_.c8.b6.d8,vi x_.c8.b6.Code,l7 1 eB x_.a7,.b x_.i9,l7 4 A6 x_.i6,.b x_.b8.i7,vi x_.b8.a5.b9,vi x_.b8.a5.Seq,l7 2 w8 x_.b8.b6.b5,l7 2 w9 x_.b8.b6.b7,vi x_.b8.b6.d8,vi x_.b8.b6.Code,l7 7 s6 x_.f0]
def a4I(x_:l8):List V:=[vi x_.a9,vi x_.c9,vi x_.To,vi x_.a8,vi x_.g8,.b x_.g9.i7,vi x_.g9.a5.b9,vi x_.g9.a5.Seq,l7 2 w8 x_.g9.b6.b5,l7 2 w9 x_.g9.b6.b7,vi x_.g9.b6.d8,vi x_.g9.b6.Code,l7 8 q8 x_.a7]
def a13(x_:m4):List V:=[.b x_.i7,vi x_.a5.b9,vi x_.a5.Seq,l7 2 w8 x_.b6.b5,l7 2 w9 x_.b6.b7,vi x_.b6.d8,vi x_.b6.Code]
def b2E(x_:u5):List V:=[vi x_.At,v6 124 2 x7 x_.g7,l7 4 B9 x_.i8]
def f0W(x_:j6):List V:=[.bot,.bot,v6 61 8 q8 x_.Acc.a7,v6 52 7 s6 x_.a6,.bot,.bot,.bot,v6 4 1 eB x_.c9,.bot,.bot,.bot,.bot,.bot,.bot,.bot,.bot,v6 4 1 eB x_.a7,.bot,.bot,.bot,.bot,.bot,.bot,.bot,.bot,.bot,v6 52 7 s6 x_.f0]
def f4d(x_:j6):List V:=[vi x_.Id,vi x_.Acc.i0,.own 3 0 8 0 x_.Acc.a7.length,.own 4 0 7 0 x_.a6.length,vi x_.Seq,vi x_.d6,vi x_.a8,.own 5 0 1 0 x_.c9.length,l7 8 q8 x_.i4,.b x_.c8.i7,vi x_.c8.a5.b9,vi x_.c8.a5.Seq,l7 2 w8 x_.c8.b6.b5,l7 2 w9 x_.c8.b6.b7,vi x_.c8.b6.d8,vi x_.c8.b6.Code,.own 6 0 1 0 x_.a7.length,.b x_.i9,l7 4 A6 x_.i6,.b x_.b8.i7,vi x_.b8.a5.b9,vi x_.b8.a5.Seq,l7 2 w8 x_.b8.b6.b5,l7 2 w9 x_.b8.b6.b7,vi x_.b8.b6.d8,vi x_.b8.b6.Code,.own 7 0 7 0 x_.f0.length]
def b9c(x_:p7):List V:=[vi x_.n.Id,vi x_.n.Acc.i0,l7 8 q8 x_.n.Acc.a7,v6 52 7 s6 x_.n.a6,vi x_.n.Seq,vi x_.n.d6,vi x_.n.a8,v6 4 1 eB x_.n.c9,l7 8 q8 x_.n.i4,.b x_.n.c8.i7,vi x_.n.c8.a5.b9,vi x_.n.c8.a5.Seq,l7 2 w8 x_.n.c8.b6.b5,l7 2 w9 x_.n.c8.b6.b7,vi x_.n.c8.b6.d8,vi x_.n.c8.b6.Code,v6 4 1 eB x_.n.a7,.b x_.n.i9,l7 4 A6 x_.n.i6,.b x_.n.b8.i7,vi x_.n.b8.a5.b9,vi x_.n.b8.a5.Seq,l7 2 w8 x_.n.b8.b6.b5,l7 2 w9 x_.n.b8.b6.b7,vi x_.n.b8.b6.d8,vi x_.n.b8.b6.Code,v6 52 7 s6 x_.n.f0,v6 82 13 t7 x_.out,v6 89 5 z5 x_.told]
def b4j(x_:u5):List V:=[vi x_.At,v6 124 2 x7 x_.g7,v6 183 4 B9 x_.i8]
def c1X(x_:p7):List V:=[vi x_.n.Id,vi x_.n.Acc.i0,l7 8 q8 x_.n.Acc.a7,.own 0 1 7 0 x_.n.a6.length,vi x_.n.Seq,vi x_.n.d6,vi x_.n.a8,.own 0 2 1 0 x_.n.c9.length,l7 8 q8 x_.n.i4,.b x_.n.c8.i7,vi x_.n.c8.a5.b9,vi x_.n.c8.a5.Seq,l7 2 w8 x_.n.c8.b6.b5,l7 2 w9 x_.n.c8.b6.b7,vi x_.n.c8.b6.d8,vi x_.n.c8.b6.Code,.own 0 3 1 0 x_.n.a7.length,.b x_.n.i9,l7 4 A6 x_.n.i6,.b x_.n.b8.i7,vi x_.n.b8.a5.b9,vi x_.n.b8.a5.Seq,l7 2 w8 x_.n.b8.b6.b5,l7 2 w9 x_.n.b8.b6.b7,vi x_.n.b8.b6.d8,vi x_.n.b8.b6.Code,l7 7 s6 x_.n.f0,.own 0 4 13 0 x_.out.length,.own 0 5 5 0 x_.told.length]
def M0(x_:p7):List V:=[vi x_.n.Id,vi x_.n.Acc.i0,l7 8 q8 x_.n.Acc.a7,v6 52 7 s6 x_.n.a6,vi x_.n.Seq,vi x_.n.d6,vi x_.n.a8,v6 4 1 eB x_.n.c9,l7 8 q8 x_.n.i4,.b x_.n.c8.i7,vi x_.n.c8.a5.b9,vi x_.n.c8.a5.Seq,l7 2 w8 x_.n.c8.b6.b5,l7 2 w9 x_.n.c8.b6.b7,vi x_.n.c8.b6.d8,vi x_.n.c8.b6.Code,v6 4 1 eB x_.n.a7,.b x_.n.i9,l7 4 A6 x_.n.i6,.b x_.n.b8.i7,vi x_.n.b8.a5.b9,vi x_.n.b8.a5.Seq,l7 2 w8 x_.n.b8.b6.b5,l7 2 w9 x_.n.b8.b6.b7,vi x_.n.b8.b6.d8,vi x_.n.b8.b6.Code,l7 7 s6 x_.n.f0,v6 82 13 t7 x_.out,v6 89 5 z5 x_.told]
def b3V(x_:p7):List V:=[vi x_.n.Id,vi x_.n.Acc.i0,l7 8 q8 x_.n.Acc.a7,.own 1 0 7 0 x_.n.a6.length,vi x_.n.Seq,vi x_.n.d6,vi x_.n.a8,.own 2 0 1 0 x_.n.c9.length,l7 8 q8 x_.n.i4,.b x_.n.c8.i7,vi x_.n.c8.a5.b9,vi x_.n.c8.a5.Seq,l7 2 w8 x_.n.c8.b6.b5,l7 2 w9 x_.n.c8.b6.b7,vi x_.n.c8.b6.d8,vi x_.n.c8.b6.Code,.own 3 0 1 0 x_.n.a7.length,.b x_.n.i9,l7 4 A6 x_.n.i6,.b x_.n.b8.i7,vi x_.n.b8.a5.b9,vi x_.n.b8.a5.Seq,l7 2 w8 x_.n.b8.b6.b5,l7 2 w9 x_.n.b8.b6.b7,vi x_.n.b8.b6.d8,vi x_.n.b8.b6.Code,l7 7 s6 x_.n.f0,.own 4 0 13 0 x_.out.length,.own 5 0 5 0 x_.told.length]
def d90(x_:p7):List V:=[vi x_.n.Id,vi x_.n.Acc.i0,l7 8 q8 x_.n.Acc.a7,.own 6 0 7 0 x_.n.a6.length,vi x_.n.Seq,vi x_.n.d6,vi x_.n.a8,.own 5 0 1 0 x_.n.c9.length,l7 8 q8 x_.n.i4,.b x_.n.c8.i7,vi x_.n.c8.a5.b9,vi x_.n.c8.a5.Seq,l7 2 w8 x_.n.c8.b6.b5,l7 2 w9 x_.n.c8.b6.b7,vi x_.n.c8.b6.d8,vi x_.n.c8.b6.Code,.own 4 0 1 0 x_.n.a7.length,.b x_.n.i9,l7 4 A6 x_.n.i6,.b x_.n.b8.i7,vi x_.n.b8.a5.b9,vi x_.n.b8.a5.Seq,l7 2 w8 x_.n.b8.b6.b5,l7 2 w9 x_.n.b8.b6.b7,vi x_.n.b8.b6.d8,vi x_.n.b8.b6.Code,l7 7 s6 x_.n.f0,.own 3 0 13 0 x_.out.length,.own 2 0 5 0 x_.told.length]
def b37(x_:p7):List V:=[vi x_.n.Id,vi x_.n.Acc.i0,l7 8 q8 x_.n.Acc.a7,.own 3 0 7 0 x_.n.a6.length,vi x_.n.Seq,vi x_.n.d6,vi x_.n.a8,.own 4 0 1 0 x_.n.c9.length,l7 8 q8 x_.n.i4,.b x_.n.c8.i7,vi x_.n.c8.a5.b9,vi x_.n.c8.a5.Seq,l7 2 w8 x_.n.c8.b6.b5,l7 2 w9 x_.n.c8.b6.b7,vi x_.n.c8.b6.d8,vi x_.n.c8.b6.Code,.own 5 0 1 0 x_.n.a7.length,.b x_.n.i9,l7 4 A6 x_.n.i6,.b x_.n.b8.i7,vi x_.n.b8.a5.b9,vi x_.n.b8.a5.Seq,l7 2 w8 x_.n.b8.b6.b5,l7 2 w9 x_.n.b8.b6.b7,vi x_.n.b8.b6.d8,vi x_.n.b8.b6.Code,l7 7 s6 x_.n.f0,.own 6 0 13 0 x_.out.length,.own 7 0 5 0 x_.told.length]
def d1U(x_:p7):List V:=[vi x_.n.Id,vi x_.n.Acc.i0,l7 8 q8 x_.n.Acc.a7,.own 1 0 7 0 x_.n.a6.length,vi x_.n.Seq,vi x_.n.d6,vi x_.n.a8,.own 0 2 1 0 x_.n.c9.length,l7 8 q8 x_.n.i4,.b x_.n.c8.i7,vi x_.n.c8.a5.b9,vi x_.n.c8.a5.Seq,l7 2 w8 x_.n.c8.b6.b5,l7 2 w9 x_.n.c8.b6.b7,vi x_.n.c8.b6.d8,vi x_.n.c8.b6.Code,.own 2 0 1 0 x_.n.a7.length,.b x_.n.i9,l7 4 A6 x_.n.i6,.b x_.n.b8.i7,vi x_.n.b8.a5.b9,vi x_.n.b8.a5.Seq,l7 2 w8 x_.n.b8.b6.b5,l7 2 w9 x_.n.b8.b6.b7,vi x_.n.b8.b6.d8,vi x_.n.b8.b6.Code,l7 7 s6 x_.n.f0,.own 0 4 13 0 x_.out.length,.own 0 5 5 0 x_.told.length]
def e9h(x_:p7):List V:=[vi x_.n.Id,vi x_.n.Acc.i0,l7 8 q8 x_.n.Acc.a7,.own 1 0 7 0 x_.n.a6.length,vi x_.n.Seq,vi x_.n.d6,vi x_.n.a8,.own 0 2 1 0 x_.n.c9.length,l7 8 q8 x_.n.i4,.b x_.n.c8.i7,vi x_.n.c8.a5.b9,vi x_.n.c8.a5.Seq,l7 2 w8 x_.n.c8.b6.b5,l7 2 w9 x_.n.c8.b6.b7,vi x_.n.c8.b6.d8,vi x_.n.c8.b6.Code,.own 2 0 1 0 x_.n.a7.length,.b x_.n.i9,l7 4 A6 x_.n.i6,.b x_.n.b8.i7,vi x_.n.b8.a5.b9,vi x_.n.b8.a5.Seq,l7 2 w8 x_.n.b8.b6.b5,l7 2 w9 x_.n.b8.b6.b7,vi x_.n.b8.b6.d8,vi x_.n.b8.b6.Code,l7 7 s6 x_.n.f0,.own 0 4 13 0 x_.out.length,.own 3 0 5 0 x_.told.length]
def e4B(x_:p7):List V:=[vi x_.n.Id,vi x_.n.Acc.i0,l7 8 q8 x_.n.Acc.a7,.own 4 0 7 0 x_.n.a6.length,vi x_.n.Seq,vi x_.n.d6,vi x_.n.a8,.own 5 0 1 0 x_.n.c9.length,l7 8 q8 x_.n.i4,.b x_.n.c8.i7,vi x_.n.c8.a5.b9,vi x_.n.c8.a5.Seq,l7 2 w8 x_.n.c8.b6.b5,l7 2 w9 x_.n.c8.b6.b7,vi x_.n.c8.b6.d8,vi x_.n.c8.b6.Code,.own 6 0 1 0 x_.n.a7.length,.b x_.n.i9,l7 4 A6 x_.n.i6,.b x_.n.b8.i7,vi x_.n.b8.a5.b9,vi x_.n.b8.a5.Seq,l7 2 w8 x_.n.b8.b6.b5,l7 2 w9 x_.n.b8.b6.b7,vi x_.n.b8.b6.d8,vi x_.n.b8.b6.Code,l7 7 s6 x_.n.f0,.own 7 0 13 0 x_.out.length,.own 8 0 5 0 x_.told.length]
def a7R(x_:j6):List s9:=[m6 61 8 q8 x_.Acc.a7,m6 52 7 s6 x_.a6,m6 4 1 eB x_.c9,m6 4 1 eB x_.a7,m6 52 7 s6 x_.f0]
def e1q(x_:j6):List (Option (List s9)):=[some [m6 61 8 q8 x_.Acc.a7],some [m6 52 7 s6 x_.a6],some [m6 4 1 eB x_.c9],some [m6 4 1 eB x_.a7],some [m6 52 7 s6 x_.f0]]
def c5s(x_:p7):List s9:=[m6 52 7 s6 x_.n.a6,m6 4 1 eB x_.n.c9,m6 4 1 eB x_.n.a7,m6 82 13 t7 x_.out,m6 89 5 z5 x_.told]
def a2W(x_:p7):List (Option (List s9)):=[some [m6 52 7 s6 x_.n.a6],some [m6 4 1 eB x_.n.c9],some [m6 4 1 eB x_.n.a7],some [m6 82 13 t7 x_.out],some [m6 89 5 z5 x_.told]]
def f2m(x_:p7):List (Option (List s9)):=[some [m6 89 5 z5 x_.told],some [m6 82 13 t7 x_.out],some [m6 4 1 eB x_.n.a7],some [m6 4 1 eB x_.n.c9],some [m6 52 7 s6 x_.n.a6]]
def d5N(x_:p7):List s9:=[m6 82 13 t7 x_.out,m6 89 5 z5 x_.told]
def d8D(x_:p7):List (Option (List s9)):=[some [m6 52 7 s6 x_.n.a6],some [m6 4 1 eB x_.n.a7]]
def e0A(x_:p7):List (Option (List s9)):=[some [m6 52 7 s6 x_.n.a6],some [m6 4 1 eB x_.n.a7],some [m6 89 5 z5 x_.told]]
def om1:List (Option Nat):=[none,none,none,some 52,none,none,none,some 4,none,none,none,none,none,none,none,none,some 4,none,none,none,none,none,none,none,none,none,some 52]
def om2:List (Option Nat):=[some 54,some 82,some 85,some 89]
def H2:List (Option Nat):=[none,none,some 61,some 52,none,none,none,some 4,none,none,none,none,none,none,none,none,some 4,none,none,none,none,none,none,none,none,none,some 52]
def V8:List (Option Nat):=[some 1000054,some 82,some 85,some 89]
def om5:List (Option Nat):=[some 153,some 156,none,none]
def om6:List (Option Nat):=[none,none,none,some 153,some 156,none,none]
def om7:List (Option Nat):=[none,none,none,some 52,none,none,none,some 4,none,none,none,none,none,none,none,none,some 4,none,none,none,none,none,none,none,none,none,some 52,some 82,some 89]
def M2:List (Option Nat):=[none,none,none,some 52,none,none,none,some 4,none,none,none,none,none,none,none,none,some 4,none,none,none,none,none,none,none,none,none,none,some 82,some 89]
def C3:List (Option Nat):=[some 27,some 13,some 3,some 5]
def O8:List (Option Nat):=[some 2,some 2,none,none]
def J5:List (Option Nat):=[none,none,none,some 2,some 2,none,none]
def A8:List (Option Nat):=[none,none,some 8,some 7,none,none,none,some 1,some 8,none,none,none,some 2,some 2,none,none,some 1,none,some 4,none,none,none,some 2,some 2,none,none,some 7]
def U8:List (Option Nat):=[none,none,none,none,some 2,some 2,none,none]
def C2:List (Option Nat):=[none,none,none,none,none,none,none,none,some 2,some 2,none,none,some 8]
def J4:List (Option Nat):=[none,none,some 8,some 7,none,none,none,some 1,some 8,none,none,none,some 2,some 2,none,none,some 1,none,some 4,none,none,none,some 2,some 2,none,none,some 7,some 13,some 5]
theorem e8g(d:Nat)(w:World)(x0 x1 y0 y1:Int):(Op.equalIn (d+2) 46 (.agg #[.int .i64 x0,.int .i64 x1]) (.agg #[.int .i64 y0,.int .i64 y1])).run Tryz.prog w=.ok ((x0==y0)&&((x1==y1)&&true)) w:=by
 refine b9h Tryz.underlying46 Tryz.stoodInHeld46 ?_;refine a6j (by rfl) (by first|(go_simp;done)|(go_simp;rfl)) (by first|(go_simp;done)|(go_simp;rfl)) (a7m Tryz.underlying3) ?_;refine a6j (by rfl) (by first|(go_simp;done)|(go_simp;rfl)) (by first|(go_simp;done)|(go_simp;rfl)) (a7m Tryz.underlying3) ?_;exact b9q
theorem f6q(xs ys:List Int)(w:World)(hx:xs.length=2)(hy:ys.length=2):(Op.equal 46 (.agg (xs.map (Value.int .i64)).toArray) (.agg (ys.map (Value.int .i64)).toArray)).run Tryz.prog w=.ok (xs==ys) w:=by
 match xs,ys,hx,hy with
 | [x0,x1],[y0,y1],_,_=>
  have h:=e8g 9998 w x0 x1 y0 y1;have e:((x0==y0)&&((x1==y1)&&true))=([x0,x1]==([y0,y1]:List Int)):=by simp [g1b]
  rw [e] at h;exact h
theorem d9l(d:Nat)(w:World)(x0 x1 y0 y1:Int):(Op.equalIn (d+2) 124 (.agg #[.int .i64 x0,.int .i64 x1]) (.agg #[.int .i64 y0,.int .i64 y1])).run Tryz.prog w=.ok ((x0==y0)&&((x1==y1)&&true)) w:=by
 refine b9h Tryz.underlying124 Tryz.stoodInHeld124 ?_;refine a6j (by rfl) (by first|(go_simp;done)|(go_simp;rfl)) (by first|(go_simp;done)|(go_simp;rfl)) (a7m Tryz.underlying3) ?_;refine a6j (by rfl) (by first|(go_simp;done)|(go_simp;rfl)) (by first|(go_simp;done)|(go_simp;rfl)) (a7m Tryz.underlying3) ?_;exact b9q
theorem f5x(xs ys:List Int)(w:World)(hx:xs.length=2)(hy:ys.length=2):(Op.equal 124 (.agg (xs.map (Value.int .i64)).toArray) (.agg (ys.map (Value.int .i64)).toArray)).run Tryz.prog w=.ok (xs==ys) w:=by
 match xs,ys,hx,hy with
 | [x0,x1],[y0,y1],_,_=>
  have h:=d9l 9998 w x0 x1 y0 y1;have e:((x0==y0)&&((x1==y1)&&true))=([x0,x1]==([y0,y1]:List Int)):=by simp [g1b]
  rw [e] at h;exact h
theorem e8H(d:Nat)(w:World)(x0 x1 y0 y1:Int):(Op.equalIn (d+2) 153 (.agg #[.int .i64 x0,.int .i64 x1]) (.agg #[.int .i64 y0,.int .i64 y1])).run Tryz.prog w=.ok ((x0==y0)&&((x1==y1)&&true)) w:=by
 refine b9h Tryz.underlying153 Tryz.stoodInHeld153 ?_;refine a6j (by rfl) (by first|(go_simp;done)|(go_simp;rfl)) (by first|(go_simp;done)|(go_simp;rfl)) (a7m Tryz.underlying3) ?_;refine a6j (by rfl) (by first|(go_simp;done)|(go_simp;rfl)) (by first|(go_simp;done)|(go_simp;rfl)) (a7m Tryz.underlying3) ?_;exact b9q
theorem e7P(xs ys:List Int)(w:World)(hx:xs.length=2)(hy:ys.length=2):(Op.equal 153 (.agg (xs.map (Value.int .i64)).toArray) (.agg (ys.map (Value.int .i64)).toArray)).run Tryz.prog w=.ok (xs==ys) w:=by
 match xs,ys,hx,hy with
 | [x0,x1],[y0,y1],_,_=>
  have h:=e8H 9998 w x0 x1 y0 y1;have e:((x0==y0)&&((x1==y1)&&true))=([x0,x1]==([y0,y1]:List Int)):=by simp [g1b]
  rw [e] at h;exact h
theorem e1F(d:Nat)(w:World)(x0 x1 y0 y1:Int):(Op.equalIn (d+2) 156 (.agg #[.int .i64 x0,.int .i64 x1]) (.agg #[.int .i64 y0,.int .i64 y1])).run Tryz.prog w=.ok ((x0==y0)&&((x1==y1)&&true)) w:=by
 refine b9h Tryz.underlying156 Tryz.stoodInHeld156 ?_;refine a6j (by rfl) (by first|(go_simp;done)|(go_simp;rfl)) (by first|(go_simp;done)|(go_simp;rfl)) (a7m Tryz.underlying3) ?_;refine a6j (by rfl) (by first|(go_simp;done)|(go_simp;rfl)) (by first|(go_simp;done)|(go_simp;rfl)) (a7m Tryz.underlying3) ?_;exact b9q
theorem e6K(xs ys:List Int)(w:World)(hx:xs.length=2)(hy:ys.length=2):(Op.equal 156 (.agg (xs.map (Value.int .i64)).toArray) (.agg (ys.map (Value.int .i64)).toArray)).run Tryz.prog w=.ok (xs==ys) w:=by
 match xs,ys,hx,hy with
 | [x0,x1],[y0,y1],_,_=>
  have h:=e1F 9998 w x0 x1 y0 y1;have e:((x0==y0)&&((x1==y1)&&true))=([x0,x1]==([y0,y1]:List Int)):=by simp [g1b]
  rw [e] at h;exact h
def ti3:TI:={size:=1,bytes:=8,agg:=false,zero:=[vi 0],sl:=none,arr:=none,ik:=some .i64,fs:=none,str:=false,ptr:=none,bl:=false}
def ti4:TI:={size:=1,bytes:=1,agg:=false,zero:=[.b false],sl:=none,arr:=none,ik:=none,fs:=none,str:=false,ptr:=none,bl:=true}
def ti5:TI:={size:=1,bytes:=1,agg:=false,zero:=[.i .u8 0],sl:=none,arr:=none,ik:=some .u8,fs:=none,str:=false,ptr:=none,bl:=false}
def d6p:TI:={size:=1,bytes:=24,agg:=false,zero:=[.nil],sl:=some 5,arr:=none,ik:=none,fs:=none,str:=false,ptr:=none,bl:=false}
def d5U:TI:={size:=1,bytes:=24,agg:=false,zero:=[.nil],sl:=some 54,arr:=none,ik:=none,fs:=none,str:=false,ptr:=none,bl:=false}
def d3B:TI:={size:=1,bytes:=24,agg:=false,zero:=[.nil],sl:=some 82,arr:=none,ik:=none,fs:=none,str:=false,ptr:=none,bl:=false}
def c96:TI:={size:=1,bytes:=24,agg:=false,zero:=[.nil],sl:=some 85,arr:=none,ik:=none,fs:=none,str:=false,ptr:=none,bl:=false}
def d1k:TI:={size:=1,bytes:=24,agg:=false,zero:=[.nil],sl:=some 89,arr:=none,ik:=none,fs:=none,str:=false,ptr:=none,bl:=false}
def d73:TI:={size:=4,bytes:=96,agg:=true,zero:=[.nil,.nil,.nil,.nil],sl:=none,arr:=none,ik:=none,fs:=some [(0,23),(1,24),(2,25),(3,26)],str:=false,ptr:=none,bl:=false}
def d3J:TI:={size:=1,bytes:=24,agg:=false,zero:=[.nil],sl:=some 36,arr:=none,ik:=none,fs:=none,str:=false,ptr:=none,bl:=false}
def d71:TI:={size:=1,bytes:=24,agg:=false,zero:=[.nil],sl:=some 98,arr:=none,ik:=none,fs:=none,str:=false,ptr:=none,bl:=false}
def d0V:TI:={size:=3,bytes:=40,agg:=true,zero:=[vi 0,vi 0,.nil],sl:=none,arr:=none,ik:=none,fs:=some [(0,3),(1,3),(2,34)],str:=false,ptr:=none,bl:=false}
def c8X:TI:={size:=1,bytes:=24,agg:=false,zero:=[.nil],sl:=some 61,arr:=none,ik:=none,fs:=none,str:=false,ptr:=none,bl:=false}
def c7G:TI:={size:=2,bytes:=32,agg:=true,zero:=[vi 0,.nil],sl:=none,arr:=none,ik:=none,fs:=some [(0,3),(1,40)],str:=false,ptr:=none,bl:=false}
def d02:TI:={size:=1,bytes:=24,agg:=false,zero:=[.nil],sl:=some 52,arr:=none,ik:=none,fs:=none,str:=false,ptr:=none,bl:=false}
def d0v:TI:={size:=1,bytes:=24,agg:=false,zero:=[.nil],sl:=some 4,arr:=none,ik:=none,fs:=none,str:=false,ptr:=none,bl:=false}
def c37:TI:={size:=2,bytes:=16,agg:=true,zero:=[vi 0,vi 0],sl:=none,arr:=none,ik:=none,fs:=some [(0,3),(1,3)],str:=false,ptr:=none,bl:=false}
def c71:TI:={size:=1,bytes:=24,agg:=false,zero:=[.nil],sl:=some 153,arr:=none,ik:=none,fs:=none,str:=false,ptr:=none,bl:=false}
def d1l:TI:={size:=1,bytes:=24,agg:=false,zero:=[.nil],sl:=some 156,arr:=none,ik:=none,fs:=none,str:=false,ptr:=none,bl:=false}
def d5T:TI:={size:=4,bytes:=64,agg:=true,zero:=[.nil,.nil,vi 0,vi 0],sl:=none,arr:=none,ik:=none,fs:=some [(0,47),(1,48),(2,3),(3,3)],str:=false,ptr:=none,bl:=false}
def c60:TI:={size:=7,bytes:=88,agg:=true,zero:=[.b false,vi 0,vi 0,.nil,.nil,vi 0,vi 0],sl:=none,arr:=none,ik:=none,fs:=some [(0,4),(1,46),(3,50)],str:=false,ptr:=none,bl:=false}
def c28:TI:={size:=27,bytes:=392,agg:=true,zero:=[vi 0,vi 0,.nil,.nil,vi 0,vi 0,vi 0,.nil,.nil,.b false,vi 0,vi 0,.nil,.nil,vi 0,vi 0,.nil,.b false,.nil,.b false,vi 0,vi 0,.nil,.nil,vi 0,vi 0,.nil],sl:=none,arr:=none,ik:=none,fs:=some [(0,3),(1,42),(3,43),(4,3),(5,3),(6,3),(7,44),(8,40),(9,52),(16,44),(17,4),(18,34),(19,52),(26,43)],str:=false,ptr:=none,bl:=false}
def b3a:TI:={size:=8,bytes:=96,agg:=true,zero:=[vi 0,.b false,vi 0,vi 0,.nil,.nil,vi 0,vi 0],sl:=none,arr:=none,ik:=none,fs:=some [(0,3),(1,52)],str:=false,ptr:=none,bl:=false}
def c8y:TI:={size:=1,bytes:=24,agg:=false,zero:=[.nil],sl:=some 46,arr:=none,ik:=none,fs:=none,str:=false,ptr:=none,bl:=false}
def d2U:TI:={size:=1,bytes:=24,agg:=false,zero:=[.nil],sl:=some 34,arr:=none,ik:=none,fs:=none,str:=false,ptr:=none,bl:=false}
def d5f:TI:={size:=1,bytes:=24,agg:=false,zero:=[.nil],sl:=some 124,arr:=none,ik:=none,fs:=none,str:=false,ptr:=none,bl:=false}
def c7K:TI:={size:=1,bytes:=24,agg:=false,zero:=[.nil],sl:=some 3,arr:=none,ik:=none,fs:=none,str:=false,ptr:=none,bl:=false}
def d5n:TI:={size:=1,bytes:=24,agg:=false,zero:=[.nil],sl:=some 183,arr:=none,ik:=none,fs:=none,str:=false,ptr:=none,bl:=false}
def c8v:TI:={size:=3,bytes:=56,agg:=true,zero:=[vi 0,.nil,.nil],sl:=none,arr:=none,ik:=none,fs:=some [(0,3),(1,69),(2,75)],str:=false,ptr:=none,bl:=false}
def c5h:TI:={size:=13,bytes:=152,agg:=true,zero:=[vi 0,vi 0,vi 0,vi 0,vi 0,.b false,vi 0,vi 0,.nil,.nil,vi 0,vi 0,.nil],sl:=none,arr:=none,ik:=none,fs:=some [(0,3),(1,3),(2,3),(3,3),(4,3),(5,52),(12,40)],str:=false,ptr:=none,bl:=false}
def c2P:TI:={size:=3,bytes:=40,agg:=true,zero:=[vi 0,vi 0,.nil],sl:=none,arr:=none,ik:=none,fs:=some [(0,46),(2,34)],str:=false,ptr:=none,bl:=false}
def c5l:TI:={size:=5,bytes:=40,agg:=true,zero:=[vi 0,vi 0,vi 0,vi 0,vi 0],sl:=none,arr:=none,ik:=none,fs:=some [(0,3),(1,46),(3,3),(4,3)],str:=false,ptr:=none,bl:=false}
def c7d:TI:={size:=4,bytes:=32,agg:=true,zero:=[vi 0,vi 0,vi 0,vi 0],sl:=none,arr:=none,ik:=none,fs:=some [(0,3),(1,3),(2,3),(3,3)],str:=false,ptr:=none,bl:=false}
def d8c:TI:={size:=2,bytes:=32,agg:=true,zero:=[.nil,vi 0],sl:=none,arr:=none,ik:=none,fs:=some [(0,22),(1,3)],str:=false,ptr:=none,bl:=false}
def b4N:TI:={size:=2,bytes:=16,agg:=true,zero:=[vi 0,vi 0],sl:=none,arr:=none,ik:=none,fs:=some [(0,3),(1,3)],str:=false,ptr:=none,bl:=false}
def c40:TI:={size:=2,bytes:=16,agg:=true,zero:=[vi 0,vi 0],sl:=none,arr:=none,ik:=none,fs:=some [(0,3),(1,3)],str:=false,ptr:=none,bl:=false}
def c7b:TI:={size:=2,bytes:=16,agg:=true,zero:=[vi 0,vi 0],sl:=none,arr:=none,ik:=none,fs:=some [(0,3),(1,3)],str:=false,ptr:=none,bl:=false}
def d0C:TI:={size:=29,bytes:=440,agg:=true,zero:=[vi 0,vi 0,.nil,.nil,vi 0,vi 0,vi 0,.nil,.nil,.b false,vi 0,vi 0,.nil,.nil,vi 0,vi 0,.nil,.b false,.nil,.b false,vi 0,vi 0,.nil,.nil,vi 0,vi 0,.nil,.nil,.nil],sl:=none,arr:=none,ik:=none,fs:=some [(0,54),(27,24),(28,26)],str:=false,ptr:=none,bl:=false}
def c1w:TI:={size:=4,bytes:=32,agg:=true,zero:=[vi 0,vi 0,vi 0,vi 0],sl:=none,arr:=none,ik:=none,fs:=some [(0,46),(2,3),(3,3)],str:=false,ptr:=none,bl:=false}
def d4n:TI:={size:=4,bytes:=32,agg:=true,zero:=[vi 0,vi 0,vi 0,vi 0],sl:=none,arr:=some (4,3),ik:=none,fs:=none,str:=false,ptr:=none,bl:=false}
def c8O:TI:={size:=4,bytes:=4,agg:=true,zero:=[.b false,.b false,.b false,.b false],sl:=none,arr:=some (4,4),ik:=none,fs:=none,str:=false,ptr:=none,bl:=false}
def c2V:List (Nat×TI):=[(3,ti3),(4,ti4),(5,ti5),(22,d6p),(23,d5U),(24,d3B),(25,c96),(26,d1k),(28,d73),(31,d3J),(34,d71),(36,d0V),(40,c8X),(42,c7G),(43,d02),(44,d0v),(46,c37),(47,c71),(48,d1l),(50,d5T),(52,c60),(54,c28),(61,b3a),(64,c8y),(66,d2U),(69,d5f),(70,c7K),(75,d5n),(77,c8v),(82,c5h),(85,c2P),(89,c5l),(98,c7d),(107,d8c),(124,b4N),(153,c40),(156,c7b),(168,d0C),(183,c1w),(188,d4n),(192,c8O)]
def c1c:List (Nat×TI)->Nat->Option TI
 | [],_=>none
 | (k,x)::l,t=>if Nat.beq k t then some x else c1c l t
theorem e2p{l:List (Nat×TI)}{t:Nat}{x:TI}(h:c1c l t=some x):(t,x)∈l:=by
 induction l with
 | nil=>cases h
 | cons p l ih=>
  obtain ⟨k,y⟩:=p;unfold c1c at h;split at h
  ·rename_i hk;have:k=t:=f9K hk;injection h with h;subst this;subst h;simp
  ·exact f8X.2 (.inr (ih h))
theorem f2U:G3 Tryz.prog 3=some ti3:=by kernel_rfl
theorem f8d:G3 Tryz.prog 4=some ti4:=by kernel_rfl
theorem e1z:G3 Tryz.prog 5=some ti5:=by kernel_rfl
theorem f4B:G3 Tryz.prog 22=some d6p:=by kernel_rfl
theorem e92:G3 Tryz.prog 23=some d5U:=by kernel_rfl
theorem e77:G3 Tryz.prog 24=some d3B:=by kernel_rfl
theorem e8d:G3 Tryz.prog 25=some c96:=by kernel_rfl
theorem f0p:G3 Tryz.prog 26=some d1k:=by kernel_rfl
theorem e2y:G3 Tryz.prog 28=some d73:=by kernel_rfl
theorem f7s:G3 Tryz.prog 31=some d3J:=by kernel_rfl
theorem f0Y:G3 Tryz.prog 34=some d71:=by kernel_rfl
theorem f0r:G3 Tryz.prog 36=some d0V:=by kernel_rfl
theorem f7i:G3 Tryz.prog 40=some c8X:=by kernel_rfl
theorem f1d:G3 Tryz.prog 42=some c7G:=by kernel_rfl
theorem f7Y:G3 Tryz.prog 43=some d02:=by kernel_rfl
theorem e9r:G3 Tryz.prog 44=some d0v:=by kernel_rfl
theorem f5d:G3 Tryz.prog 46=some c37:=by kernel_rfl
theorem e69:G3 Tryz.prog 47=some c71:=by kernel_rfl
theorem e53:G3 Tryz.prog 48=some d1l:=by kernel_rfl
theorem f2R:G3 Tryz.prog 50=some d5T:=by kernel_rfl
theorem f4t:G3 Tryz.prog 52=some c60:=by kernel_rfl
theorem e4b:G3 Tryz.prog 54=some c28:=by kernel_rfl
theorem d9n:G3 Tryz.prog 61=some b3a:=by kernel_rfl
theorem e6p:G3 Tryz.prog 64=some c8y:=by kernel_rfl
theorem e8B:G3 Tryz.prog 66=some d2U:=by kernel_rfl
theorem e1n:G3 Tryz.prog 69=some d5f:=by kernel_rfl
theorem f4W:G3 Tryz.prog 70=some c7K:=by kernel_rfl
theorem e0e:G3 Tryz.prog 75=some d5n:=by kernel_rfl
theorem f8n:G3 Tryz.prog 77=some c8v:=by kernel_rfl
theorem e3L:G3 Tryz.prog 82=some c5h:=by kernel_rfl
theorem e5G:G3 Tryz.prog 85=some c2P:=by kernel_rfl
theorem e1l:G3 Tryz.prog 89=some c5l:=by kernel_rfl
theorem e6d:G3 Tryz.prog 98=some c7d:=by kernel_rfl
theorem e6U:G3 Tryz.prog 107=some d8c:=by kernel_rfl
theorem e7B:G3 Tryz.prog 124=some b4N:=by kernel_rfl
theorem e7v:G3 Tryz.prog 153=some c40:=by kernel_rfl
theorem d98:G3 Tryz.prog 156=some c7b:=by kernel_rfl
theorem f1I:G3 Tryz.prog 168=some d0C:=by kernel_rfl
theorem f2B:G3 Tryz.prog 183=some c1w:=by kernel_rfl
theorem f0b:G3 Tryz.prog 188=some d4n:=by kernel_rfl
theorem e3I:G3 Tryz.prog 192=some c8O:=by kernel_rfl
theorem e1E:∀p∈c2V,G3 Tryz.prog p.1=some p.2:=by
 intro p hp;simp only [c2V,f8X,g01,or_false] at hp;rcases hp with rfl|rfl|rfl|rfl|rfl|rfl|rfl|rfl|rfl|rfl|rfl|rfl|rfl|rfl|rfl|rfl|rfl|rfl|rfl|rfl|rfl|rfl|rfl|rfl|rfl|rfl|rfl|rfl|rfl|rfl|rfl|rfl|rfl|rfl|rfl|rfl|rfl|rfl|rfl|rfl|rfl
 ·exact f2U
 ·exact f8d
 ·exact e1z
 ·exact f4B
 ·exact e92
 ·exact e77
 ·exact e8d
 ·exact f0p
 ·exact e2y
 ·exact f7s
 ·exact f0Y
 ·exact f0r
 ·exact f7i
 ·exact f1d
 ·exact f7Y
 ·exact e9r
 ·exact f5d
 ·exact e69
 ·exact e53
 ·exact f2R
 ·exact f4t
 ·exact e4b
 ·exact d9n
 ·exact e6p
 ·exact e8B
 ·exact e1n
 ·exact f4W
 ·exact e0e
 ·exact f8n
 ·exact e3L
 ·exact e5G
 ·exact e1l
 ·exact e6d
 ·exact e6U
 ·exact e7B
 ·exact e7v
 ·exact d98
 ·exact f1I
 ·exact f2B
 ·exact f0b
 ·exact e3I
def a9P(t:Nat):Option Nat:=if Nat.beq t 46 then some 2 else if Nat.beq t 124 then some 2 else if Nat.beq t 153 then some 2 else if Nat.beq t 156 then some 2 else  none
theorem e6y(t m:Nat)(h:a9P t=some m)(xs ys:List Int)(w:World)(hx:xs.length=m)(hy:ys.length=m):(Op.equal t (.agg (xs.map (Value.int .i64)).toArray) (.agg (ys.map (Value.int .i64)).toArray)).run Tryz.prog w=.ok (xs==ys) w:=by
 unfold a9P at h;split at h
 ·rename_i hk;have hm:2=m:=g0j h;rw [f9K hk];exact f6q xs ys w (hx.trans hm.symm) (hy.trans hm.symm)
 split at h
 ·rename_i hk;have hm:2=m:=g0j h;rw [f9K hk];exact f5x xs ys w (hx.trans hm.symm) (hy.trans hm.symm)
 split at h
 ·rename_i hk;have hm:2=m:=g0j h;rw [f9K hk];exact e7P xs ys w (hx.trans hm.symm) (hy.trans hm.symm)
 split at h
 ·rename_i hk;have hm:2=m:=g0j h;rw [f9K hk];exact e6K xs ys w (hx.trans hm.symm) (hy.trans hm.symm)
 cases h
theorem e1P(t m:Nat)(h:a9P t=some m):Tryz.prog.eqGuardType Tryz.prog.depth t=false:=by
 unfold a9P at h;split at h
 ·rename_i hk;have hm:2=m:=g0j h;rw [f9K hk];exact Tryz.eqGuardType46
 split at h
 ·rename_i hk;have hm:2=m:=g0j h;rw [f9K hk];exact Tryz.eqGuardType124
 split at h
 ·rename_i hk;have hm:2=m:=g0j h;rw [f9K hk];exact Tryz.eqGuardType153
 split at h
 ·rename_i hk;have hm:2=m:=g0j h;rw [f9K hk];exact Tryz.eqGuardType156
 cases h
theorem e5k:Tryz.prog.underlying 110=some (.map 46 4):=by kernel_rfl
theorem f8h(w:World):(zeroValue 4).run Tryz.prog w=.ok (.bool false) w:=by kernel_rfl
theorem e1c(em:Bool)(xs:List Int)(w:World)(h:xs.length=2):(Instr.checkKey em 10000 46 (kv xs)).run Tryz.prog w=.ok () w:=by
 match xs,h with
 | [x0,x1],_=>
  refine f8o (n:=9999) Tryz.underlying46 fun f hf => ?_
  simp only [f8X,g01,or_false] at hf;rcases hf with rfl|rfl
  ·exact ⟨.int .i64 x0,by first|(go_simp;done)|(go_simp;rfl),d7e (n:=9998) Tryz.underlying3⟩
  ·exact ⟨.int .i64 x1,by first|(go_simp;done)|(go_simp;rfl),d7e (n:=9998) Tryz.underlying3⟩
def c19(t:Nat):Option (Nat×Nat×V):=if Nat.beq t 110 then some (46,2,.b false) else  none
theorem e8L(t kt m:Nat)(z:V)(h:c19 t=some (kt,m,z)):∃vt,Tryz.prog.underlying t=some (.map kt vt)/\a9P kt=some m/\b7P (Tryz.prog.underlying kt)=true/\(∀w,(zeroValue vt).run Tryz.prog w=.ok z.conc w)/\z.simple=true/\∀(em:Bool) (xs:List Int) (w:World),xs.length=m->(Instr.checkKey em 10000 kt (kv xs)).run Tryz.prog w=.ok () w:=by
 unfold c19 at h;split at h
 ·rename_i hk;injection h with h;injection h with h1 h;injection h with h2 h3;subst h1;subst h2;subst h3;obtain rfl:=f9K hk;exact ⟨4,e5k,rfl,by rw [Tryz.underlying46];rfl,f8h,rfl,e1c⟩
 cases h
theorem e2S:Tryz.prog.follows .mixedOrders=true:=by kernel_rfl
def cx:Cx where
 P:=Tryz.prog
 mixed:=e2S
 T:=c1c c2V
 hT:=fun t ti h=>e1E (t,ti) (e2p h)
 E:=a9P
 hE:=e6y
 hG:=e1P
 M:=c19
 hM:=e8L
structure FS(α:Type) where
 f:Nat
 fn:Func
 m:List PM
 o:List (Option (Nat×PM))
 ms:List PM
 R:α->V
 O:α->LOV
 h:cx.P.funcs[f]?=some fn
def FS.X{α:Type}(q:FS α):P3:=⟨q.f,q.fn,q.m,q.o⟩
def FS.c{α:Type}(q:FS α):Code:=e48 q.fn
def FS.t{α:Type}(q:FS α)(i:Nat)(fr:Bool)(r:α):Nat×L6:=(i,{a:=.call q.ms fr (q.R r) (q.O r)})
def FS.k{α:Type}(q:FS α)(i:Nat)(l:List Bool):List Item:=a3T 2000 i l [.code q.c]
def noK:Unit->KS:=fun _=>([],⟨[],[]⟩)
section
variable {α β J P E:Type}
abbrev OK(q:FS α)(args:List V)(m:Option α):Prop := ∀r,m=some r->a0K cx.P q.f args (q.R r) (q.O r)
abbrev NG(q:FS α)(r:α)(S:J->KS)(f:J->Option β)(v:β):Prop := ∀s,f s=some v->FK cx q.X (q.R r) (q.O r) (S s)
abbrev NF(q:FS α)(r:α)(S:J->KS)(f:J->Option α):Prop:=NG q r S f r
abbrev D4(q:FS α)(SE:E->KS)(S:P->KS):=LC cx q.X q.R q.O SE S
abbrev LQ(q:FS α)(SE:E->KS)(S:P->KS)(b:P->Option (j7 α P E)):Prop:=LB cx q.X q.R q.O SE S b
theorem o8(q:FS α){args:List V}{m:Option α}(h:∀r,m=some r->Pt cx q.X (q.R r) (q.O r) [.code q.c] (b05 q.X args) [] [])(hb:q.X.fn.body=some q.c:=by kernel_rfl) (hn:(q.X.fn.name == "runtime.NumGoroutine")=false:=by kernel_rfl) (ho:a3K 0 q.X.oms args=true:=by kernel_rfl):OK q args m:=
 fun r hm=>a0K.of (X:=q.X) q.h hb hn ho (P0 (h r hm))
theorem FS.rt(q:FS α){x y:α}(h:some x=some y):q.R y=q.R x/\q.O y=q.O x:=by
 injection h with h;subst h;exact ⟨rfl,rfl⟩
variable {X:P3} {res:V} {outs:LOV} {k:List Item} {S:St} {sc:S9} {ps:List Prop} {t:List (Nat×L6)} {v:β}
theorem fE{q:FS α}{x y:α}(h:some x=some y)(hg:b1H cx q.X k S (scO sc [])=some (q.R x,q.O x,psO ps []):=by kernel_rfl):Pt cx q.X (q.R y) (q.O y) k S sc ps:=fn0 q.h (q.rt h) hg
theorem fL{q:FS α}{SE:E->KS}{SP:P->KS}(c:D4 q SE SP){x:α}(h:some (j7.ret x)=some c.st)(hg:b1H cx q.X k S (scO sc [])=some (q.R x,q.O x,psO ps []):=by kernel_rfl):Pt cx q.X c.res c.outs k S sc ps:=fn0 q.h (c.rt h) hg
theorem j9(q:FS α){m:Option α}{p:α->Prop}(ok:∀x,m=some x->p x)(i:Nat){f:α->Option β}(h:m.bind f=some v)(g:∀x,f x=some v->Pt cx X res outs k S ((q.t i false x::t)::sc) (p x::ps)):Pt cx X res outs k S (t::sc) ps:=cb q.t ok i false h g
theorem cbS(q:FS α){m:Option α}{p:α->Prop}(ok:∀x,m=some x->p x)(i:Nat){f:α->Option β}(a:∀x,L2 (q.R x))(b:∀x,a4D (q.O x))(h:m.bind f=some v)(g:∀x,f x=some v->Pt cx X res outs k S ((q.t i true x::t)::sc) ((L2 (q.R x)/\a4D (q.O x))::p x::ps)):Pt cx X res outs k S (t::sc) ps:=
 cb q.t ok i true h fun x h=>ob ⟨a x,b x⟩ (g x h)
theorem R3(q:FS α){m:Option α}{p:α->Prop}(ok:∀x,m=some x->p x)(i n:Nat){f:α->Option β}(h:m.bind f=some v)(g:∀x,f x=some v->Pt cx X res outs k S ((q.t i true x::t)::sc) ((L2 (q.R x)/\a4D (q.O x))::p x::ps))(a:∀x,L2 (q.R x):=by exact fun _=>rfl)(b:∀x,q.O x=c4a n:=by exact fun _=>rfl):Pt cx X res outs k S (t::sc) ps:=cbS q ok i a (fun x=>b x▸Q4 n) h g
theorem osc(q:FS α)(x:α)(a:L2 (q.R x))(b:a4D (q.O x))(h:Pt cx X res outs k S sc ((L2 (q.R x)/\a4D (q.O x))::ps)):Pt cx X res outs k S sc ps:=ob ⟨a,b⟩ h
end
theorem D2{X:P3}{res:V}{outs:LOV}{k:List Item}{S:St}{sc:S9}{ps:List Prop}(x:p7)(h:Pt cx X res outs k S sc ((x.told.length=x.told.length)::(x.out.length=x.out.length)::(x.n.a7.length=x.n.a7.length)::(x.n.c9.length=x.n.c9.length)::(x.n.a6.length=x.n.a6.length)::ps)):Pt cx X res outs k S sc ps:=ob rfl (ob rfl (ob rfl (ob rfl (ob rfl (h)))))
theorem K0{X:P3}{res:V}{outs:LOV}{k:List Item}{S:St}{sc:S9}{ps:List Prop}(x:j6)(h:Pt cx X res outs k S sc ((x.f0.length=x.f0.length)::(x.a7.length=x.a7.length)::(x.c9.length=x.c9.length)::(x.a6.length=x.a6.length)::ps)):Pt cx X res outs k S sc ps:=ob rfl (ob rfl (ob rfl (ob rfl (h))))
theorem A3{X:P3}{res:V}{outs:LOV}{k:List Item}{S:St}{sc:S9}{ps:List Prop}(x:j6)(h:Pt cx X res outs k S sc ((x.f0.length=x.f0.length)::(x.a7.length=x.a7.length)::(x.c9.length=x.c9.length)::(x.a6.length=x.a6.length)::(x.Acc.a7.length=x.Acc.a7.length)::ps)):Pt cx X res outs k S sc ps:=ob rfl (ob rfl (ob rfl (ob rfl (ob rfl (h)))))
theorem olR{X:P3}{res:V}{outs:LOV}{k:List Item}{S:St}{sc:S9}{ps:List Prop}(x:n7)(h:Pt cx X res outs k S sc ((x.b7.length=x.b7.length)::(x.b5.length=x.b5.length)::ps)):Pt cx X res outs k S sc ps:=ob rfl (ob rfl (h))
theorem B3{X:P3}{res:V}{outs:LOV}{k:List Item}{S:St}{sc:S9}{ps:List Prop}(x:m5)(h:Pt cx X res outs k S sc ((x.Told.length=x.Told.length)::(x.d9.length=x.d9.length)::(x.d7.length=x.d7.length)::(x.a0.length=x.a0.length)::ps)):Pt cx X res outs k S sc ps:=ob rfl (ob rfl (ob rfl (ob rfl (h))))
def a6p(x_:j6):List V:=[vi x_.Id,vi x_.Acc.i0,v6 61 8 q8 x_.Acc.a7,v6 52 7 s6 x_.a6,vi x_.Seq,vi x_.d6,vi x_.a8,v6 4 1 eB x_.c9,l7 8 q8 x_.i4,.b x_.c8.i7,vi x_.c8.a5.b9,vi x_.c8.a5.Seq,l7 2 w8 x_.c8.b6.b5,l7 2 w9 x_.c8.b6.b7,vi x_.c8.b6.d8,vi x_.c8.b6.Code,v6 4 1 eB x_.a7,.b x_.i9,l7 4 A6 x_.i6,.b x_.b8.i7,vi x_.b8.a5.b9,vi x_.b8.a5.Seq,l7 2 w8 x_.b8.b6.b5,l7 2 w9 x_.b8.b6.b7,vi x_.b8.b6.d8,vi x_.b8.b6.Code,v6 52 7 s6 x_.f0]
def b0B(x_:j6):List V:=[v6 52 7 s6 x_.a6,vi x_.Seq,vi x_.d6,vi x_.a8,v6 4 1 eB x_.c9,l7 8 q8 x_.i4,.b x_.c8.i7,vi x_.c8.a5.b9,vi x_.c8.a5.Seq,l7 2 w8 x_.c8.b6.b5,l7 2 w9 x_.c8.b6.b7,vi x_.c8.b6.d8,vi x_.c8.b6.Code,v6 4 1 eB x_.a7,.b x_.i9,l7 4 A6 x_.i6,.b x_.b8.i7,vi x_.b8.a5.b9,vi x_.b8.a5.Seq,l7 2 w8 x_.b8.b6.b5,l7 2 w9 x_.b8.b6.b7,vi x_.b8.b6.d8,vi x_.b8.b6.Code,v6 52 7 s6 x_.f0]
def a64(x_:j6):List V:=[l7 8 q8 x_.i4,.b x_.c8.i7,vi x_.c8.a5.b9,vi x_.c8.a5.Seq,l7 2 w8 x_.c8.b6.b5,l7 2 w9 x_.c8.b6.b7,vi x_.c8.b6.d8,vi x_.c8.b6.Code]
def a3O(x_:j6):List V:=[.b x_.i9,l7 4 A6 x_.i6,.b x_.b8.i7,vi x_.b8.a5.b9,vi x_.b8.a5.Seq,l7 2 w8 x_.b8.b6.b5,l7 2 w9 x_.b8.b6.b7,vi x_.b8.b6.d8,vi x_.b8.b6.Code]
def a0S(x_:n7):List V:=[l7 2 w8 x_.b5,l7 2 w9 x_.b7,vi x_.d8,vi x_.Code]
def B2(x_:m5):List V:=[l7 27 x6 x_.a0,l7 13 t7 x_.d7,l7 3 C1 x_.d9,l7 5 z5 x_.Told]
def D5:FS (Bool):=⟨44,Tryz.f44,[.val [] []],[none,none,none],[.val [] [],.val [] [],.val [] []],fun r=>.b r,fun _=>[none,none,none],Tryz.func44⟩
def D7(n:Int)(low:Int)(high:Int):Option Bool:=
 (bif decide (n>=low) then some (decide (n<=high)) else some false)
theorem G0{n low high}:OK D5 [vi n,vi low,vi high] (D7 n low high):=
 o8 _ fun r h=>n9<|j5 3 h (fun h=>fE h) (fun h=>fE h)
def c7M:FS (j6):=⟨18,Tryz.f18,[.val A8 []],[none],[.val [] []],fun r=>.agg (x6 r),fun _=>[none],Tryz.func18⟩
def b7b(id:Int):Option j6:=
 ((D7 id 0 2).bind fun in_=>(bif (!in_) then some (j6.mk 0 (z0.mk 0 []) [] 0 0 0 [] [] (m4.mk false (n5.mk 0 0) (n7.mk [] [] 0 0)) [] false [] (m4.mk false (n5.mk 0 0) (n7.mk [] [] 0 0)) []) else some (j6.mk id (z0.mk 0 []) [] 0 0 0 [] [] (m4.mk false (n5.mk 0 0) (n7.mk [] [] 0 0)) [] false [] (m4.mk false (n5.mk 0 0) (n7.mk [] [] 0 0)) [])))
theorem f2l{id}:OK c7M [vi id] (b7b id):=
 o8 _ fun r h=>n9<|j9 D5 G0 1 h fun in_ h=>j5 2 h (fun h=>rg<|fE h) (fun h=>rg<|fE h)
def d2D:FS (List j6):=⟨45,Tryz.f45,[.val [some 27] [some 54]],[none],[.val [some 27] []],fun r=>v6 54 27 x6 r,fun _=>[none],Tryz.func45⟩
def c4H(list:List j6):Option (List j6):=
 (bif ((list.length:Int)==0) then some [] else (t5 (0<=(list.length:Int)/\(list.length:Int)*392<=140737488355328) ((t5 (list.length=(f8O (list.length:Int).toNat (j6.mk 0 (z0.mk 0 []) [] 0 0 0 [] [] (m4.mk false (n5.mk 0 0) (n7.mk [] [] 0 0)) [] false [] (m4.mk false (n5.mk 0 0) (n7.mk [] [] 0 0)) [])).length) (some list)))))
theorem f1Y{list}:OK d2D [l7 27 x6 list] (c4H list):=
 o8 _ fun r h=>n9<|j5 2 h (fun h=>rg<|fE h) (fun h=>rg<|t9 h fun e1 h=>S8 2 7 54 27 392 x6 (j6.mk 0 (z0.mk 0 []) [] 0 0 0 [] [] (m4.mk false (n5.mk 0 0) (n7.mk [] [] 0 0)) [] false [] (m4.mk false (n5.mk 0 0) (n7.mk [] [] 0 0)) []) c28 (.ck A8) e1 (by decide) (by rfl)<|rg<|t9 h fun e2 h=>om (s9.row 54 27 (f8O (list.length:Int).toNat (j6.mk 0 (z0.mk 0 []) [] 0 0 0 [] [] (m4.mk false (n5.mk 0 0) (n7.mk [] [] 0 0)) [] false [] (m4.mk false (n5.mk 0 0) (n7.mk [] [] 0 0)) [])).length (list.map x6)=m6 54 27 x6 list) (a1h e2)<|s8 (f8O (list.length:Int).toNat (j6.mk 0 (z0.mk 0 []) [] 0 0 0 [] [] (m4.mk false (n5.mk 0 0) (n7.mk [] [] 0 0)) [] false [] (m4.mk false (n5.mk 0 0) (n7.mk [] [] 0 0)) []))<|ob e2<|tl (2,{e:=some (m6 54 27 x6 list)})<|rg<|om ((f8O (list.length:Int).toNat (j6.mk 0 (z0.mk 0 []) [] 0 0 0 [] [] (m4.mk false (n5.mk 0 0) (n7.mk [] [] 0 0)) [] false [] (m4.mk false (n5.mk 0 0) (n7.mk [] [] 0 0)) [])).length=list.length) (by simp)<|fE h)
def d8s:FS (List l8):=⟨90,Tryz.f90,[.val [some 13] [some 82]],[none],[.val [some 13] []],fun r=>v6 82 13 t7 r,fun _=>[none],Tryz.func90⟩
def c2o(list:List l8):Option (List l8):=
 (bif ((list.length:Int)==0) then some [] else (t5 (0<=(list.length:Int)/\(list.length:Int)*152<=140737488355328) ((t5 (list.length=(f8O (list.length:Int).toNat (l8.mk 0 0 0 0 0 (m4.mk false (n5.mk 0 0) (n7.mk [] [] 0 0)) [])).length) (some list)))))
theorem e5e{list}:OK d8s [l7 13 t7 list] (c2o list):=
 o8 _ fun r h=>n9<|j5 2 h (fun h=>rg<|fE h) (fun h=>rg<|t9 h fun e1 h=>S8 2 7 82 13 152 t7 (l8.mk 0 0 0 0 0 (m4.mk false (n5.mk 0 0) (n7.mk [] [] 0 0)) []) c5h (.ck C2) e1 (by decide) (by rfl)<|rg<|t9 h fun e2 h=>om (s9.row 82 13 (f8O (list.length:Int).toNat (l8.mk 0 0 0 0 0 (m4.mk false (n5.mk 0 0) (n7.mk [] [] 0 0)) [])).length (list.map t7)=m6 82 13 t7 list) (a1h e2)<|s8 (f8O (list.length:Int).toNat (l8.mk 0 0 0 0 0 (m4.mk false (n5.mk 0 0) (n7.mk [] [] 0 0)) []))<|ob e2<|tl (2,{e:=some (m6 82 13 t7 list)})<|rg<|om ((f8O (list.length:Int).toNat (l8.mk 0 0 0 0 0 (m4.mk false (n5.mk 0 0) (n7.mk [] [] 0 0)) [])).length=list.length) (by simp)<|fE h)
def a2w:FS (List r9):=⟨185,Tryz.f185,[.val [some 2] [some 153]],[none],[.val [some 2] []],fun r=>v6 153 2 w8 r,fun _=>[none],Tryz.func185⟩
def a3j(list:List r9):Option (List r9):=
 (bif ((list.length:Int)==0) then some [] else (t5 (0<=(list.length:Int)/\(list.length:Int)*16<=140737488355328) ((t5 (list.length=(f8O (list.length:Int).toNat (r9.mk 0 0)).length) (some list)))))
theorem b1b{list}:OK a2w [l7 2 w8 list] (a3j list):=
 o8 _ fun r h=>n9<|j5 2 h (fun h=>rg<|fE h) (fun h=>rg<|t9 h fun e1 h=>S8 2 7 153 2 16 w8 (r9.mk 0 0) c40 (.none) e1 (by decide) (by rfl)<|rg<|t9 h fun e2 h=>om (s9.row 153 2 (f8O (list.length:Int).toNat (r9.mk 0 0)).length (list.map w8)=m6 153 2 w8 list) (a1h e2)<|s8 (f8O (list.length:Int).toNat (r9.mk 0 0))<|ob e2<|tl (2,{e:=some (m6 153 2 w8 list)})<|rg<|om ((f8O (list.length:Int).toNat (r9.mk 0 0)).length=list.length) (by simp)<|fE h)
def c0R:FS (List p8):=⟨186,Tryz.f186,[.val [some 2] [some 156]],[none],[.val [some 2] []],fun r=>v6 156 2 w9 r,fun _=>[none],Tryz.func186⟩
def a8i(list:List p8):Option (List p8):=
 (bif ((list.length:Int)==0) then some [] else (t5 (0<=(list.length:Int)/\(list.length:Int)*16<=140737488355328) ((t5 (list.length=(f8O (list.length:Int).toNat (p8.mk 0 0)).length) (some list)))))
theorem c7C{list}:OK c0R [l7 2 w9 list] (a8i list):=
 o8 _ fun r h=>n9<|j5 2 h (fun h=>rg<|fE h) (fun h=>rg<|t9 h fun e1 h=>S8 2 7 156 2 16 w9 (p8.mk 0 0) c7b (.none) e1 (by decide) (by rfl)<|rg<|t9 h fun e2 h=>om (s9.row 156 2 (f8O (list.length:Int).toNat (p8.mk 0 0)).length (list.map w9)=m6 156 2 w9 list) (a1h e2)<|s8 (f8O (list.length:Int).toNat (p8.mk 0 0))<|ob e2<|tl (2,{e:=some (m6 156 2 w9 list)})<|rg<|om ((f8O (list.length:Int).toNat (p8.mk 0 0)).length=list.length) (by simp)<|fE h)
def d4p:FS (n7):=⟨137,Tryz.f137,[.val O8 []],[none],[.val O8 []],fun r=>.agg (R9 r),fun _=>[none],Tryz.func137⟩
def c2s(r_:n7):Option n7:=
 ((a3j r_.b5).bind fun read=>((a8i r_.b7).bind fun put=>some (n7.mk read put r_.d8 r_.Code)))
theorem e1w{r_}:OK d4p [.agg (R9 r_)] (c2s r_):=
 o8 _ fun r h=>n9<|j9 a2w b1b 2 h fun read h=>j9 c0R c7C 5 h fun put h=>C9 read put<|fE h
def b0p:FS (m4):=⟨95,Tryz.f95,[.val J5 []],[none],[.val J5 []],fun r=>.agg (s6 r),fun _=>[none],Tryz.func95⟩
def a6D(e_:m4):Option m4:=
 ((c2s e_.b6).bind fun d8b=>some (m4.mk e_.i7 e_.a5 d8b))
theorem b45{e_}:OK b0p [.agg (s6 e_)] (a6D e_):=
 o8 _ fun r h=>n9<|j9 d4p e1w 6 h fun d8b h=>fE h
def d4C:FS (List m8):=⟨136,Tryz.f136,[.val [some 8] [some 61]],[none],[.val [some 8] []],fun r=>v6 61 8 q8 r,fun _=>[none],Tryz.func136⟩
def c6L(list:List m8):Option (List m8):=
 (bif ((list.length:Int)==0) then some [] else (t5 (0<=(list.length:Int)/\(list.length:Int)*96<=140737488355328) ((t5 (list.length=(f8O (list.length:Int).toNat (m8.mk 0 (m4.mk false (n5.mk 0 0) (n7.mk [] [] 0 0)))).length) (some list)))))
theorem e89{list}:OK d4C [l7 8 q8 list] (c6L list):=
 o8 _ fun r h=>n9<|j5 2 h (fun h=>rg<|fE h) (fun h=>rg<|t9 h fun e1 h=>S8 2 7 61 8 96 q8 (m8.mk 0 (m4.mk false (n5.mk 0 0) (n7.mk [] [] 0 0))) b3a (.ck U8) e1 (by decide) (by rfl)<|rg<|t9 h fun e2 h=>om (s9.row 61 8 (f8O (list.length:Int).toNat (m8.mk 0 (m4.mk false (n5.mk 0 0) (n7.mk [] [] 0 0)))).length (list.map q8)=m6 61 8 q8 list) (a1h e2)<|s8 (f8O (list.length:Int).toNat (m8.mk 0 (m4.mk false (n5.mk 0 0) (n7.mk [] [] 0 0))))<|ob e2<|tl (2,{e:=some (m6 61 8 q8 list)})<|rg<|om ((f8O (list.length:Int).toNat (m8.mk 0 (m4.mk false (n5.mk 0 0) (n7.mk [] [] 0 0)))).length=list.length) (by simp)<|fE h)
def a4j:FS (List m8):=⟨94,Tryz.f94,[.val [some 8] [some 61]],[none],[.val [some 8] []],fun r=>v6 61 8 q8 r,fun _=>[none],Tryz.func94⟩
def c8s:(List m8)->KS:=fun out1=>⟨a4j.k 4 [false],(bs 3 (.own 1 0 8 0 out1.length::(bs 20 []))),[some [],some [m6 61 8 q8 out1]]⟩
def d4t(out1:List m8):Option (List m8):=
 some out1
theorem e8a(r):NF a4j r c8s (fun s=>d4t s):=fun out1 h=>PK<|rg<|s8 out1<|fE h
def e1b(vote:List m8):((List m8)×Int)->KS:=fun (out,v9)=>⟨a4j.k 3 [],(bs 3 (.own 1 0 8 0 out.length::(bs 4 (vi (vote.length:Int)::(vi v9::(bs 14 [])))))),[some [],some [m6 61 8 q8 out]]⟩
def b9w(vote:List m8)(out:List m8)(v9:Int):Option (j7 (List m8) ((List m8)×Int) (List m8)):=
 (bif decide (v9<(vote.length:Int)) then ((idx out v9).bind fun S6=>((a6D S6.g9).bind fun a0a=>some (j7.nxt (out.set v9.toNat (m8.mk S6.a8 a0a),m7 (v9+1))))) else some (j7.brk out))
theorem e57(vote):LQ a4j c8s (e1b vote) (fun s=>b9w vote s.1 s.2):=fun lc (out,v9) h=>PK<|rg<|j5 0 h (fun h=>n9<|B0 h fun S6 a4k h=>C0 a4k<|I6 q8 6 a4k<|j9 b0p b45 7 h fun a0a h=>C0 a4k<|Q6 61 8 q8 10 J5 (m8.mk S6.a8 a0a) a4k<|rg<|(lc.nx h fun hI=>om ((.own 1 0 8 0 out.length:V)=.own 1 0 8 0 (out.set v9.toNat (m8.mk S6.a8 a0a)).length) (by simp)<|sk [.is (.tmp 3) (.own 1 0 8 0 (out.set v9.toNat (m8.mk S6.a8 a0a)).length)] [3,8,9] [(1,0)] hI)) (fun h=>(lc.bk h fun hI=>sk [] [3] [(1,0)] hI))
def a89(list:List m8):Option (List m8):=
 ((c6L list).bind fun vote=>((o7 (fun s:(List m8)×Int=>b9w vote s.1 s.2) (vote,0)).bind fun x=>x.go (fun r=>some r) fun s=>d4t s))
theorem b94{list}:OK a4j [l7 8 q8 list] (a89 list):=
 o8 _ fun r h=>n9<|j9 d4C e89 1 h fun vote h=>rg<|lp (e57 vote) h (fun _ h=>a4j.rt h) (e8a r) fun hI=>sk [] [3,8,9] [(3,0)] hI
def d2C:FS (l8):=⟨91,Tryz.f91,[.val C2 []],[none],[.val C2 []],fun r=>.agg (t7 r),fun _=>[none],Tryz.func91⟩
def c0X(m:l8):Option l8:=
 ((a6D m.g9).bind fun a0a=>((a89 m.a7).bind fun a0I=>some (l8.mk m.a9 m.c9 m.To m.a8 m.g8 a0a a0I)))
theorem d9q{m}:OK d2C [.agg (t7 m)] (c0X m):=
 o8 _ fun r h=>L8<|j9 b0p b45 2 h fun a0a h=>rg<|j9 a4j b94 2 h fun a0I h=>rg<|s8 a0I<|fE h
def a6O:FS (List l8):=⟨46,Tryz.f46,[.val [some 13] [some 82]],[none],[.val [some 13] []],fun r=>v6 82 13 t7 r,fun _=>[none],Tryz.func46⟩
def d7l:(List l8)->KS:=fun out1=>⟨a6O.k 4 [false],(bs 3 (.own 1 0 13 0 out1.length::(bs 18 []))),[some [],some [m6 82 13 t7 out1]]⟩
def d34(out1:List l8):Option (List l8):=
 some out1
theorem e47(r):NF a6O r d7l (fun s=>d34 s):=fun out1 h=>PK<|rg<|s8 out1<|fE h
def f8A(msg:List l8):((List l8)×Int)->KS:=fun (out,v9)=>⟨a6O.k 3 [],(bs 3 (.own 1 0 13 0 out.length::(bs 4 (vi (msg.length:Int)::(vi v9::(bs 12 [])))))),[some [],some [m6 82 13 t7 out]]⟩
def b9M(msg:List l8)(out:List l8)(v9:Int):Option (j7 (List l8) ((List l8)×Int) (List l8)):=
 (bif decide (v9<(msg.length:Int)) then ((idx out v9).bind fun d5C=>((c0X d5C).bind fun b2B=>some (j7.nxt (out.set v9.toNat b2B,m7 (v9+1))))) else some (j7.brk out))
theorem e1t(msg):LQ a6O d7l (f8A msg) (fun s=>b9M msg s.1 s.2):=fun lc (out,v9) h=>PK<|rg<|j5 0 h (fun h=>n9<|B0 h fun d5C b8W h=>C0 b8W<|I6 t7 5 b8W<|j9 d2C d9q 6 h fun b2B h=>C0 b8W<|Q6 82 13 t7 8 C2 b2B b8W<|rg<|(lc.nx h fun hI=>om ((.own 1 0 13 0 out.length:V)=.own 1 0 13 0 (out.set v9.toNat b2B).length) (by simp)<|sk [.is (.tmp 3) (.own 1 0 13 0 (out.set v9.toNat b2B).length)] [3,8,9] [(1,0)] hI)) (fun h=>(lc.bk h fun hI=>sk [] [3] [(1,0)] hI))
def b23(list:List l8):Option (List l8):=
 ((c2o list).bind fun msg=>((o7 (fun s:(List l8)×Int=>b9M msg s.1 s.2) (msg,0)).bind fun x=>x.go (fun r=>some r) fun s=>d34 s))
theorem d1O{list}:OK a6O [l7 13 t7 list] (b23 list):=
 o8 _ fun r h=>n9<|j9 d8s e5e 1 h fun msg h=>rg<|lp (e1t msg) h (fun _ h=>a6O.rt h) (e47 r) fun hI=>sk [] [3,8,9] [(3,0)] hI
def d8P:FS (List x8):=⟨47,Tryz.f47,[.val [some 3] [some 85]],[none],[.val [some 3] []],fun r=>v6 85 3 C1 r,fun _=>[none],Tryz.func47⟩
def c3N(list:List x8):Option (List x8):=
 (bif ((list.length:Int)==0) then some [] else (t5 (0<=(list.length:Int)/\(list.length:Int)*40<=140737488355328) ((t5 (list.length=(f8O (list.length:Int).toNat (x8.mk (n5.mk 0 0) [])).length) (some list)))))
theorem e3Z{list}:OK d8P [l7 3 C1 list] (c3N list):=
 o8 _ fun r h=>n9<|j5 2 h (fun h=>rg<|fE h) (fun h=>rg<|t9 h fun e1 h=>S8 2 7 85 3 40 C1 (x8.mk (n5.mk 0 0) []) c2P (.ck [none,none,some 4]) e1 (by decide) (by rfl)<|rg<|t9 h fun e2 h=>om (s9.row 85 3 (f8O (list.length:Int).toNat (x8.mk (n5.mk 0 0) [])).length (list.map C1)=m6 85 3 C1 list) (a1h e2)<|s8 (f8O (list.length:Int).toNat (x8.mk (n5.mk 0 0) []))<|ob e2<|tl (2,{e:=some (m6 85 3 C1 list)})<|rg<|om ((f8O (list.length:Int).toNat (x8.mk (n5.mk 0 0) [])).length=list.length) (by simp)<|fE h)
def c1E:FS (List n6):=⟨48,Tryz.f48,[.val [some 5] [some 89]],[none],[.val [some 5] []],fun r=>v6 89 5 z5 r,fun _=>[none],Tryz.func48⟩
def c06(list:List n6):Option (List n6):=
 (bif ((list.length:Int)==0) then some [] else (t5 (0<=(list.length:Int)/\(list.length:Int)*40<=140737488355328) ((t5 (list.length=(f8O (list.length:Int).toNat (n6.mk 0 (n5.mk 0 0) 0 0)).length) (some list)))))
theorem d4Z{list}:OK c1E [l7 5 z5 list] (c06 list):=
 o8 _ fun r h=>n9<|j5 2 h (fun h=>rg<|fE h) (fun h=>rg<|t9 h fun e1 h=>S8 2 7 89 5 40 z5 (n6.mk 0 (n5.mk 0 0) 0 0) c5l (.none) e1 (by decide) (by rfl)<|rg<|t9 h fun e2 h=>om (s9.row 89 5 (f8O (list.length:Int).toNat (n6.mk 0 (n5.mk 0 0) 0 0)).length (list.map z5)=m6 89 5 z5 list) (a1h e2)<|s8 (f8O (list.length:Int).toNat (n6.mk 0 (n5.mk 0 0) 0 0))<|ob e2<|tl (2,{e:=some (m6 89 5 z5 list)})<|rg<|om ((f8O (list.length:Int).toNat (n6.mk 0 (n5.mk 0 0) 0 0)).length=list.length) (by simp)<|fE h)
def a9d:FS (z0):=⟨92,Tryz.f92,[.val [none,some 8] [none,some 61]],[none],[.val [none,some 8] []],fun r=>.agg [vi r.i0,v6 61 8 q8 r.a7],fun _=>[none],Tryz.func92⟩
def a5f(a:z0):Option z0:=
 ((a89 a.a7).bind fun a0I=>some (z0.mk a.i0 a0I))
theorem b1K{a}:OK a9d [.agg (a0Z a)] (a5f a):=
 o8 _ fun r h=>n9<|j9 a4j b94 4 h fun a0I h=>s8 a0I<|fE h
def d37:FS (List m4):=⟨127,Tryz.f127,[.val [some 7] [some 52]],[none],[.val [some 7] []],fun r=>v6 52 7 s6 r,fun _=>[none],Tryz.func127⟩
def b53(list:List m4):Option (List m4):=
 (bif ((list.length:Int)==0) then some [] else (t5 (0<=(list.length:Int)/\(list.length:Int)*88<=140737488355328) ((t5 (list.length=(f8O (list.length:Int).toNat (m4.mk false (n5.mk 0 0) (n7.mk [] [] 0 0))).length) (some list)))))
theorem f7X{list}:OK d37 [l7 7 s6 list] (b53 list):=
 o8 _ fun r h=>n9<|j5 2 h (fun h=>rg<|fE h) (fun h=>rg<|t9 h fun e1 h=>S8 2 7 52 7 88 s6 (m4.mk false (n5.mk 0 0) (n7.mk [] [] 0 0)) c60 (.ck J5) e1 (by decide) (by rfl)<|rg<|t9 h fun e2 h=>om (s9.row 52 7 (f8O (list.length:Int).toNat (m4.mk false (n5.mk 0 0) (n7.mk [] [] 0 0))).length (list.map s6)=m6 52 7 s6 list) (a1h e2)<|s8 (f8O (list.length:Int).toNat (m4.mk false (n5.mk 0 0) (n7.mk [] [] 0 0)))<|ob e2<|tl (2,{e:=some (m6 52 7 s6 list)})<|rg<|om ((f8O (list.length:Int).toNat (m4.mk false (n5.mk 0 0) (n7.mk [] [] 0 0))).length=list.length) (by simp)<|fE h)
def a5l:FS (List m4):=⟨77,Tryz.f77,[.val [some 7] [some 52]],[none],[.val [some 7] []],fun r=>v6 52 7 s6 r,fun _=>[none],Tryz.func77⟩
def d3w:(List m4)->KS:=fun out1=>⟨a5l.k 4 [false],(bs 3 (.own 1 0 7 0 out1.length::(bs 18 []))),[some [],some [m6 52 7 s6 out1]]⟩
def d2v(out1:List m4):Option (List m4):=
 some out1
theorem f8r(r):NF a5l r d3w (fun s=>d2v s):=fun out1 h=>PK<|rg<|s8 out1<|fE h
def f3i(entry:List m4):((List m4)×Int)->KS:=fun (out,v9)=>⟨a5l.k 3 [],(bs 3 (.own 1 0 7 0 out.length::(bs 4 (vi (entry.length:Int)::(vi v9::(bs 12 [])))))),[some [],some [m6 52 7 s6 out]]⟩
def b2c(entry:List m4)(out:List m4)(v9:Int):Option (j7 (List m4) ((List m4)×Int) (List m4)):=
 (bif decide (v9<(entry.length:Int)) then ((idx out v9).bind fun a5U=>((a6D a5U).bind fun a0a=>some (j7.nxt (out.set v9.toNat a0a,m7 (v9+1))))) else some (j7.brk out))
theorem e9K(entry):LQ a5l d3w (f3i entry) (fun s=>b2c entry s.1 s.2):=fun lc (out,v9) h=>PK<|rg<|j5 0 h (fun h=>n9<|B0 h fun a5U b1d h=>C0 b1d<|I6 s6 5 b1d<|j9 b0p b45 6 h fun a0a h=>C0 b1d<|Q6 52 7 s6 8 J5 a0a b1d<|rg<|(lc.nx h fun hI=>om ((.own 1 0 7 0 out.length:V)=.own 1 0 7 0 (out.set v9.toNat a0a).length) (by simp)<|sk [.is (.tmp 3) (.own 1 0 7 0 (out.set v9.toNat a0a).length)] [3,8,9] [(1,0)] hI)) (fun h=>(lc.bk h fun hI=>sk [] [3] [(1,0)] hI))
def b0Y(list:List m4):Option (List m4):=
 ((b53 list).bind fun entry=>((o7 (fun s:(List m4)×Int=>b2c entry s.1 s.2) (entry,0)).bind fun x=>x.go (fun r=>some r) fun s=>d2v s))
theorem c6B{list}:OK a5l [l7 7 s6 list] (b0Y list):=
 o8 _ fun r h=>n9<|j9 d37 f7X 1 h fun entry h=>rg<|lp (e9K entry) h (fun _ h=>a5l.rt h) (f8r r) fun hI=>sk [] [3,8,9] [(3,0)] hI
def c1p:FS (List Bool):=⟨93,Tryz.f93,[.val [some 1] [some 4]],[none],[.val [some 1] []],fun r=>v6 4 1 eB r,fun _=>[none],Tryz.func93⟩
def b5Y(list:List Bool):Option (List Bool):=
 (bif ((list.length:Int)==0) then some [] else (t5 (0<=(list.length:Int)/\(list.length:Int)*1<=140737488355328) ((t5 (list.length=(f8O (list.length:Int).toNat false).length) (some list)))))
theorem d0l{list}:OK c1p [l7 1 eB list] (b5Y list):=
 o8 _ fun r h=>n9<|j5 2 h (fun h=>rg<|fE h) (fun h=>rg<|t9 h fun e1 h=>S8 2 7 4 1 1 eB false ti4 (.none) e1 (by decide) (by rfl)<|rg<|t9 h fun e2 h=>om (s9.row 4 1 (f8O (list.length:Int).toNat false).length (list.map eB)=m6 4 1 eB list) (a1h e2)<|s8 (f8O (list.length:Int).toNat false)<|ob e2<|tl (2,{e:=some (m6 4 1 eB list)})<|rg<|om ((f8O (list.length:Int).toNat false).length=list.length) (by simp)<|fE h)
def c0u:FS (List n8):=⟨50,Tryz.f50,[.val [some 4] [some 98]],[none],[.val [some 4] []],fun r=>v6 98 4 A6 r,fun _=>[none],Tryz.func50⟩
def a9x(list:List n8):Option (List n8):=
 (bif ((list.length:Int)==0) then some [] else (t5 (0<=(list.length:Int)/\(list.length:Int)*32<=140737488355328) ((t5 (list.length=(f8O (list.length:Int).toNat (n8.mk 0 0 0 0)).length) (some list)))))
theorem c2a{list}:OK c0u [l7 4 A6 list] (a9x list):=
 o8 _ fun r h=>n9<|j5 2 h (fun h=>rg<|fE h) (fun h=>rg<|t9 h fun e1 h=>S8 2 7 98 4 32 A6 (n8.mk 0 0 0 0) c7d (.none) e1 (by decide) (by rfl)<|rg<|t9 h fun e2 h=>om (s9.row 98 4 (f8O (list.length:Int).toNat (n8.mk 0 0 0 0)).length (list.map A6)=m6 98 4 A6 list) (a1h e2)<|s8 (f8O (list.length:Int).toNat (n8.mk 0 0 0 0))<|ob e2<|tl (2,{e:=some (m6 98 4 A6 list)})<|rg<|om ((f8O (list.length:Int).toNat (n8.mk 0 0 0 0)).length=list.length) (by simp)<|fE h)
def b4e:FS (j6):=⟨49,Tryz.f49,[.val A8 om1],[none],[.val A8 []],fun r=>.agg (e9R r),fun _=>[none],Tryz.func49⟩
def a9A(n:j6):Option j6:=
 ((a5f n.Acc).bind fun R5=>((b0Y n.a6).bind fun a74=>((b5Y n.c9).bind fun bool=>((a89 n.i4).bind fun a0I=>((a6D n.c8).bind fun a0a=>((b5Y n.a7).bind fun c3z=>((a9x n.i6).bind fun ins=>((a6D n.b8).bind fun d3V=>((b0Y n.f0).bind fun c5v=>some (j6.mk n.Id R5 a74 n.Seq n.d6 n.a8 bool a0I a0a c3z n.i9 ins d3V c5v))))))))))
theorem b6y{n}:OK b4e [.agg (x6 n)] (a9A n):=
 o8 _ fun r h=>L8<|j9 a9d b1K 2 h fun R5 h=>rg<|j9 a5l c6B 2 h fun a74 h=>rg<|j9 c1p d0l 2 h fun bool h=>rg<|j9 a4j b94 2 h fun a0I h=>rg<|j9 b0p b45 2 h fun a0a h=>rg<|j9 c1p d0l 2 h fun c3z h=>rg<|j9 c0u c2a 2 h fun ins h=>rg<|j9 b0p b45 2 h fun d3V h=>rg<|j9 a5l c6B 2 h fun c5v h=>rg<|H8 R5.a7 a74 bool a0I<|Y2 c3z ins c5v<|fE h
def Y5:FS (m5):=⟨16,Tryz.f16,[.val C3 om2],[none],[.val C3 []],fun r=>.agg (a72 r),fun _=>[none],Tryz.func16⟩
def c9C(msgsCopy:List l8)(asked:List x8)(told:List n6):(List j6)->KS:=fun Nodes1=>⟨Y5.k 4 [false],(bs 2 (.ptr 1 0 0::(.ptr 2 0 0::(bs 52 [])))),[some [],some [.var 28 [.nil,.nil,.nil,.nil]],some [.var 28 [.own 3 0 27 0 Nodes1.length,.own 4 0 13 0 msgsCopy.length,.own 5 0 3 0 asked.length,.own 6 0 5 0 told.length]],some [m6 54 27 x6 Nodes1],some [m6 82 13 t7 msgsCopy],some [m6 85 3 C1 asked],some [m6 89 5 z5 told]]⟩
def d49(msgsCopy:List l8)(told:List n6)(Nodes1:List j6):(List x8)->KS:=fun Asked1=>⟨Y5.k 6 [false,false],(bs 2 (.ptr 1 0 0::(.ptr 2 0 0::(bs 52 [])))),[some [],some [.var 28 [.nil,.nil,.nil,.nil]],some [.var 28 [.own 3 0 27 0 Nodes1.length,.own 4 0 13 0 msgsCopy.length,.own 5 0 3 0 Asked1.length,.own 6 0 5 0 told.length]],some [m6 54 27 x6 Nodes1],some [m6 82 13 t7 msgsCopy],some [m6 85 3 C1 Asked1],some [m6 89 5 z5 told]]⟩
def c9g(msgsCopy:List l8)(told:List n6)(Nodes1:List j6)(Asked1:List x8):Option m5:=
 some (m5.mk Nodes1 msgsCopy Asked1 told)
theorem d87(msgsCopy told Nodes1)(r):NF Y5 r (d49 msgsCopy told Nodes1) (fun s=>c9g msgsCopy told Nodes1 s):=fun Asked1 h=>PK<|rg<|H8 Nodes1 msgsCopy Asked1 told<|fE h
def f5q(msgsCopy:List l8)(asked:List x8)(told:List n6)(Nodes1:List j6):((List x8)×Int)->KS:=fun (d9,v39)=>⟨Y5.k 5 [false],(bs 2 (.ptr 1 0 0::(.ptr 2 0 0::(bs 34 (vi (asked.length:Int)::(vi v39::(bs 16 []))))))),[some [],some [.var 28 [.nil,.nil,.nil,.nil]],some [.var 28 [.own 3 0 27 0 Nodes1.length,.own 4 0 13 0 msgsCopy.length,.own 5 0 3 0 d9.length,.own 6 0 5 0 told.length]],some [m6 54 27 x6 Nodes1],some [m6 82 13 t7 msgsCopy],some [m6 85 3 C1 d9],some [m6 89 5 z5 told]]⟩
def b8o(asked:List x8)(d9:List x8)(v39:Int):Option (j7 m5 ((List x8)×Int) (List x8)):=
 (bif decide (v39<(asked.length:Int)) then ((idx d9 v39).bind fun b0E=>((a9x b0E.i6).bind fun ins=>some (j7.nxt (d9.set v39.toNat (x8.mk b0E.a5 ins),m7 (v39+1))))) else some (j7.brk d9))
theorem e8c(msgsCopy asked told Nodes1):LQ Y5 (d49 msgsCopy told Nodes1) (f5q msgsCopy asked told Nodes1) (fun s=>b8o asked s.1 s.2):=fun lc (d9,v39) h=>PK<|rg<|j5 0 h (fun h=>n9<|B0 h fun b0E c0J h=>C0 c0J<|I6 C1 8 c0J<|j9 c0u c2a 9 h fun ins h=>C0 c0J<|Q6 85 3 C1 12 [some 4] (x8.mk b0E.a5 ins) c0J<|s8 ins<|rg<|(lc.nx h fun hI=>om ((.own 5 0 3 0 d9.length:V)=.own 5 0 3 0 (d9.set v39.toNat (x8.mk b0E.a5 ins)).length) (by simp)<|sk [.is (.cell 2 0 2) (.own 5 0 3 0 (d9.set v39.toNat (x8.mk b0E.a5 ins)).length)] [2,3,38,39] [(1,0),(2,0),(3,0),(4,0),(5,0),(6,0)] hI)) (fun h=>(lc.bk h fun hI=>sk [] [2,3] [(1,0),(2,0),(3,0),(4,0),(5,0),(6,0)] hI))
def c2g(msgsCopy:List l8)(asked:List x8)(told:List n6)(Nodes1:List j6):Option m5:=
 ((o7 (fun s:(List x8)×Int=>b8o asked s.1 s.2) (asked,0)).bind fun x=>x.go (fun r=>some r) fun s=>c9g msgsCopy told Nodes1 s)
theorem f6p(msgsCopy asked told)(r):NF Y5 r (c9C msgsCopy asked told) (fun s=>c2g msgsCopy asked told s):=fun Nodes1 h=>PK<|rg<|lp (e8c msgsCopy asked told Nodes1) h (fun _ h=>Y5.rt h) (d87 msgsCopy told Nodes1 r) fun hI=>sk [] [2,3,38,39] [(1,0),(2,0),(3,0),(4,0),(5,0),(6,0)] hI
def e9H(node:List j6)(msgsCopy:List l8)(asked:List x8)(told:List n6):((List j6)×Int)->KS:=fun (a0,v22)=>⟨Y5.k 3 [],(bs 2 (.ptr 1 0 0::(.ptr 2 0 0::(bs 17 (vi (node.length:Int)::(vi v22::(bs 33 []))))))),[some [],some [.var 28 [.nil,.nil,.nil,.nil]],some [.var 28 [.own 3 0 27 0 a0.length,.own 4 0 13 0 msgsCopy.length,.own 5 0 3 0 asked.length,.own 6 0 5 0 told.length]],some [m6 54 27 x6 a0],some [m6 82 13 t7 msgsCopy],some [m6 85 3 C1 asked],some [m6 89 5 z5 told]]⟩
def b5I(node:List j6)(a0:List j6)(v22:Int):Option (j7 m5 ((List j6)×Int) (List j6)):=
 (bif decide (v22<(node.length:Int)) then ((idx a0 v22).bind fun node1=>((a9A node1).bind fun Y1=>some (j7.nxt (a0.set v22.toNat Y1,m7 (v22+1))))) else some (j7.brk a0))
theorem e2h(node msgsCopy asked told):LQ Y5 (c9C msgsCopy asked told) (e9H node msgsCopy asked told) (fun s=>b5I node s.1 s.2):=fun lc (a0,v22) h=>PK<|rg<|j5 0 h (fun h=>n9<|B0 h fun node1 a0u h=>C0 a0u<|I6 x6 7 a0u<|j9 b4e b6y 8 h fun Y1 h=>C0 a0u<|Q6 54 27 x6 10 A8 Y1 a0u<|K0 Y1<|rg<|(lc.nx h fun hI=>om ((.own 3 0 27 0 a0.length:V)=.own 3 0 27 0 (a0.set v22.toNat Y1).length) (by simp)<|sk [.is (.cell 2 0 0) (.own 3 0 27 0 (a0.set v22.toNat Y1).length)] [2,3,21,22] [(1,0),(2,0),(3,0),(4,0),(5,0),(6,0)] hI)) (fun h=>(lc.bk h fun hI=>sk [] [2,3] [(1,0),(2,0),(3,0),(4,0),(5,0),(6,0)] hI))
def a1U(w:m5):Option m5:=
 ((c4H w.a0).bind fun node=>((b23 w.d7).bind fun msgsCopy=>((c3N w.d9).bind fun asked=>((c06 w.Told).bind fun told=>((o7 (fun s:(List j6)×Int=>b5I node s.1 s.2) (node,0)).bind fun x=>x.go (fun r=>some r) fun s=>c2g msgsCopy asked told s)))))
theorem a7C{w}:OK Y5 [.agg (J7 w)] (a1U w):=
 o8 _ fun r h=>n9<|j9 d2D f1Y 2 h fun node h=>j9 a6O d1O 5 h fun msgsCopy h=>j9 d8P e3Z 8 h fun asked h=>j9 c1E d4Z 11 h fun told h=>rg<|lp (e2h node msgsCopy asked told) h (fun _ h=>Y5.rt h) (f6p msgsCopy asked told r) fun hI=>sk [] [2,3,21,22] [(2,0),(16,0),(5,0),(8,0),(11,0),(14,0)] hI
def a7G:FS (m5):=⟨5,Tryz.f5,[.val C3 []],[],[],fun r=>.agg (J7 r),fun _=>[],Tryz.func5⟩
def d6u:(List j6)->KS:=fun Nodes1=>⟨a7G.k 4 [false],(.ptr 1 0 0::(.ptr 2 0 0::(bs 15 []))),[some [],some [.var 28 [.nil,.nil,.nil,.nil]],some [.var 28 [.own 3 0 27 0 Nodes1.length,.nil,.nil,.nil]],some [m6 54 27 x6 Nodes1]]⟩
def d7x(Nodes1:List j6):Option m5:=
 ((a1U (m5.mk Nodes1 [] [] [])).bind fun H6=>some H6)
theorem e8N(r):NF a7G r d6u (fun s=>d7x s):=fun Nodes1 h=>PK<|rg<|j9 Y5 a7C 1 h fun H6 h=>s8 Nodes1<|B3 H6<|fE h
def f5R:((List j6)×Int)->KS:=fun (a0,id)=>⟨a7G.k 3 [],(.ptr 1 0 0::(.ptr 2 0 0::(vi id::(bs 14 [])))),[some [],some [.var 28 [.nil,.nil,.nil,.nil]],some [.var 28 [.own 3 0 27 0 a0.length,.nil,.nil,.nil]],some [m6 54 27 x6 a0]]⟩
def a9K(a0:List j6)(id:Int):Option (j7 m5 ((List j6)×Int) (List j6)):=
 (bif decide (id<3) then ((b7b id).bind fun Y0=>(t5 ((a0.length+1)*392<=140737488355328) (some (j7.nxt (a0++[Y0],m7 (id+1)))))) else some (j7.brk a0))
theorem f2a:LQ a7G d6u f5R (fun s=>a9K s.1 s.2):=fun lc (a0,id) h=>PK<|rg<|j5 1 h (fun h=>rg<|j9 c7M f2l 3 h fun Y0 h=>tk 4 A8<|t9 h fun e1 h=>F7 5 11 54 27 392 x6 a0 Y0 e1<|E7 Y0<|rg<|(lc.nx h fun hI=>sk [] [0,1,2] [(1,0),(2,0),(11,0)] hI)) (fun h=>(lc.bk h fun hI=>sk [] [0,1] [(1,0),(2,0),(3,0)] hI))
def b7t:Option m5:=
 ((o7 (fun s:(List j6)×Int=>a9K s.1 s.2) ([],0)).bind fun x=>x.go (fun r=>some r) fun s=>d7x s)
end
end Go.Proofs.YtmadcoimgjieeaaGreat
