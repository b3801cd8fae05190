/- What the law leans on, part 2. -/
import Derived.Test.YtijjifellblecaaGreatP1
import Derived.WideKeyRuns
import Derived.Below
import Derived.Carry
import Derived.ChangeArms
import Derived.Deep.Slices
import Derived.WideShapes
import Derived.Test.YtijjifellblecaaGreatProg
set_option linter.unusedVariables false
set_option linter.unusedSimpArgs false
set_option linter.unnecessarySimpa false
namespace Go.Proofs.YtijjifellblecaaGreat
open Go
open List renaming getElem?_eq_getElem->f5Z,replicate->f6a,mem_append->f6b,getElem_mem->f6c,all_eq_true->f6e,getElem?_eq_some_iff->f6g,mem_singleton->f6h,range->f6i,mem_cons->f6j,nodup_append->f6k,length_append->f6l,eq_nil_of_length_eq_zero->f6m,mem_of_getElem?->f6o,getD_eq_getElem?_getD->f6p,getElem?_append_right->f6q,append_assoc->f6r,getElem?_set_ne->f6v,drop_eq_getElem_cons->f6w,getElem?_append_left->f6x,flatten_cons->f6E,mem_map->f6G,mem_or_eq_of_mem_set->f6K,map_cons->f6L,append_nil->f6P,take_of_length_le->f6S,nil_append->f6V,length_map->f6W,mem_replicate->f6X,take_append_drop->f7a,mem_flatten->f7b,getElem?_map->f7c,mem_of_mem_drop->f7d,mem_of_mem_take->f7e,mem_filter->f7g,getElem?_cons_zero->f7l,mem_range->f7m,map_append->f7q,getElem?_cons_succ->f7r,pairwise_cons->f7w,nodup_cons->f7z,any_eq_true->f7B,sublist_append_right->f7N,pairwise_append->f7P,Perm->f7S,drop_drop->f7T,cons_append->f7V,replicate_succ->f7Z,size_toArray->f8c,toArray->f8d,map_map->f8e,Sublist->f8f,not_mem_nil->f8k,any_cons->f8o,flatten_append->f8p
open Bool renaming and_eq_true->f6d,true_and->f6n,not_false->f6H,not_eq_true'->f6J,false_or->f6N,false_eq_true->f7v,and_assoc->f7U
open Nat renaming le_refl->f6s,mul_le_mul_right->f6F,eq_of_beq_eq_true->f6I,le_trans->f6M,zero_add->f7i,succ_mul->f7n,le_mul_of_pos_right->f7F,add_zero->f7J,zero_le->f7R
open Option.some renaming inj->f7h
open Option renaming getD_some->f7s,map_some->f7u,map_eq_some_iff->f7G
noncomputable section
section
variable {cx:Cx} {Γ:O5} {F:Nat->Prop} {ι:Nat->Nat->Value} {S:St} {a:Act} {w:World}
theorem u6.writeX(h:u6 Γ F ι S a w){g j:Nat}{e e':s8}(he:S.ent g j=some e)(hl:e.live=true){w':World}(hk:w'.os=w.os/\w'.tape=w.tape/\w'.output=w.output)(hsz:w'.heap.size=w.heap.size)(hb:∀k,¬EB w e (ι g j) k->w'.heap[k]?=w.heap[k]?)(hn:I1 w w' F->RE w' F (S.setE g j e').D ι e' (ι g j)){X:List Nat}(hX:∀k∈X,¬F k/\(Γ.own k\/Γ.w0.heap.size<=k)/\∀g' j' e'',S.ent g' j'=some e''->e''.live=true->¬EB w e'' (ι g' j') k)(hin:∀k,EB w' e' (ι g j) k->EB w e (ι g j) k\/k∈X):u6 Γ F ι (S.setE g j e') a w':=by
  have hs:I1 w w' F:=a1u fun k hF=>hb k fun q=>(h.sep g j e k he hl q).1 hF
  have hD:∀k,S.D k->(S.setE g j e').D k:=fun k x=>R3.2 x
  have hoth:∀g' j' e'',S.ent g' j'=some e''->e''.live=true->¬(g'=g/\j'=j)->∀k,EB w e'' (ι g' j') k->w'.heap[k]?=w.heap[k]?:=fun g' j' e'' he'' hl'' q k a2e=>hb k fun q'=>q (h.inj g' j' e'' g j e k he'' he hl'' hl a2e q')
  have hone:∀g2 j2 e2 k,S.ent g2 j2=some e2->e2.live=true->¬(g2=g/\j2=j)->EB w' e' (ι g j) k->EB w' e2 (ι g2 j2) k->False:=by
    intro g2 j2 e2 k h2 l2 q2 k1 k2;have k2':=(h.ents g2 j2 e2 h2).back (hoth g2 j2 e2 h2 l2 q2) k2;rcases hin k k1 with x|x
    · exact q2 (h.inj g2 j2 e2 g j e k h2 he l2 hl k2' x)
    · exact (hX k x).2.2 g2 j2 e2 h2 l2 k2'
  exact
    { F0:=h.F0
      F1:=fun k hF=>hsz▸h.F1 k hF
      F2:=h.F2
      kept:=⟨hk.1.trans h.kept.os,hk.2.1.trans h.kept.tape,hk.2.2.trans h.kept.output,hsz▸h.kept.size,fun k hk' hno=>by
        rw [hb k fun q => ?_]
        · exact h.kept.block k hk' hno
        · rcases (h.sep g j e k he hl q).2 with x|x
          · exact hno x
          · omega⟩
      tmps:=by rw [a7o];exact h.tmps.imp fun _ _ x=>x.mono hs (fun _ y=>y) hD (fun _ _ _=>rfl)
      ents:=fun g' j' e'' he''=>by
        rw [Q3 he] at he'';split at he''
        · rename_i q;obtain ⟨rfl,rfl⟩:=q;injection he'' with he'';subst he'';exact hn hs
        · rename_i q;exact (h.ents g' j' e'' he'').mono hs (fun _ y=>y) hD (fun _ _ _=>rfl) fun k hl'' a2e=>hoth g' j' e'' he'' hl'' q k a2e
      sep:=fun g' j' e'' k he'' hl'' a2e=>by
        rw [Q3 he] at he'';split at he''
        · rename_i q;obtain ⟨rfl,rfl⟩:=q;injection he'' with he'';subst he'';rcases hin k a2e with x|x
          · exact h.sep g' j' e k he hl x
          · exact ⟨(hX k x).1,(hX k x).2.1⟩
        · rename_i q;exact h.sep g' j' e'' k he'' hl'' ((h.ents g' j' e'' he'').back (hoth g' j' e'' he'' hl'' q) a2e)
      inj:=fun g1 j1 e1 g2 j2 e2 k h1 h2 l1 l2 k1 k2=>by
        rw [Q3 he] at h1 h2;split at h1<;>split at h2
        · rename_i q1 q2;exact ⟨q1.1.trans q2.1.symm,q1.2.trans q2.2.symm⟩
        · rename_i q1 q2;obtain ⟨rfl,rfl⟩:=q1;injection h1 with h1;subst h1;exact (hone g2 j2 e2 k h2 l2 q2 k1 k2).elim
        · rename_i q1 q2;obtain ⟨rfl,rfl⟩:=q2;injection h2 with h2;subst h2;exact (hone g1 j1 e1 k h1 l1 q1 k2 k1).elim
        · rename_i q1 q2;exact h.inj g1 j1 e1 g2 j2 e2 k h1 h2 l1 l2 ((h.ents g1 j1 e1 h1).back (hoth g1 j1 e1 h1 l1 q1) k1) ((h.ents g2 j2 e2 h2).back (hoth g2 j2 e2 h2 l2 q2) k2)
      defers:=h.defers
      pins:=fun j c hc=>⟨hD _ (h.pins j c hc).1,(h.pins j c hc).2⟩}
theorem I2.splice{rows:List (List V)}(h:I2 rows){idx off:Nat}{r vs:List V}(hr:rows[idx]?=some r)(hv:∀v∈vs,v.isRef=false):I2 (rows.set idx (A6 r off vs)):=by
 intro q hq v hm;rcases f6K hq with hq|rfl
 ·exact h q hq v hm
 ·unfold A6 at hm;have hrr:=h r (f6o hr);rcases f6b.1 hm with hm|hm
  ·rcases f6b.1 hm with hm|hm
   ·exact hrr v (f7e hm)
   ·exact hv v hm
  ·exact hrr v (f7d hm)
theorem u6.dput(h:u6 Γ F ι S a w){g j t sz n:Nat}{o:Bool}{rows:List (List V)}(he:S.ent g j=some (.deep o t sz n rows)){idx off:Nat}{r vs:List V}{ds:List Value}{fp:List Nat}{ks:List (Nat×Nat)}(hr:rows[idx]?=some r)(hoff:off+vs.length<=sz)(hbl:BL w F vs ds fp)(hfps:L2 S w ι ks fp)(hks:ks.Nodup)(hgj:(g,j) ∉ ks){w':World}(hw:w'.os=w.os/\w'.tape=w.tape/\w'.output=w.output)(hsz:w'.heap.size=w.heap.size)(hb:∀k,B3 (ι g j)≠some k->w'.heap[k]?=w.heap[k]?)(hnew:∀flat,w.ownsRow 0 t sz (ι g j) n flat->w'.ownsRow 0 t sz (ι g j) n (A6 flat (idx*sz+off) ds)) :
  u6 Γ F ι (S.upds (G0 ks++[((g,j),.deep o t sz n (rows.set idx (A6 r off vs)))])) a w':=by
 obtain ⟨flat,fs,hor,hkl,hn,hl,hnd,hnr⟩:=h.ents g j _ he;have h1:=h.killAll ks fun id hid=>by
  obtain ⟨e,he,_⟩:=hfps.live id hid;exact ⟨e,he⟩
 have he1:(S.upds (G0 ks)).ent g j=some (.deep o t sz n rows):=by rw [d4D hgj];exact he
 have hidx:=(f6g.1 hr).1;have hpos:idx*sz+sz<=n*sz:=by rw [<-f7n];exact f6F _ (by omega)
 obtain ⟨fa,fm,fb,rfl,hrow,_⟩:=hkl.splice (k:=idx*sz+off) hbl.kl (by rw [a33 hl,hn];omega);rw [<-a8b hl hr hoff] at hrow;have hfpx:∀k∈fp,¬F k/\(Γ.own k\/Γ.w0.heap.size<=k)/\k ∉ E3 (ι g j)++(fa++(fm++fb))/\∀g' j' e'',(S.upds (G0 ks)).ent g' j'=some e''->e''.live=true->¬EB w e'' (ι g' j') k:=by
  intro k hk;obtain ⟨id,hid,e',he',hl',hb'⟩:=hfps.mem hk;obtain ⟨z1,z2⟩:=h.sep _ _ e' k he' hl' hb';refine ⟨z1,z2,?_,?_⟩
  ·intro q;obtain ⟨y1,y2⟩:=h.inj _ _ _ _ _ _ k he he' rfl hl' ((EB.deep_iff hor hkl).2 q) hb';exact hgj (by rw [show (g,j)=id from Prod.ext y1 y2];exact hid)
  ·intro g' j' e'' he'' hl'' hb'';rcases b1f _ he'' with ⟨_,rfl⟩|⟨q1,q2⟩
   ·cases hl''
   ·obtain ⟨y1,y2⟩:=h.inj _ _ _ _ _ _ k q2 he' hl'' hl' hb'' hb';exact q1 (by rw [show (g',j')=id from Prod.ext y1 y2];exact hid)
 have hnd2:(E3 (ι g j)++(fa++fb)).Nodup:=by
  refine List.Nodup.sublist ?_ hnd;exact f8f.append_left (f8f.append_left (f7N _ _) _) _
 have hnd':(E3 (ι g j)++(fa++(fp++fb))).Nodup:=by
  refine (a7w (a7w (f7S.refl (fp++fb)))).nodup_iff.2 ?_;refine f6k.2 ⟨L2.nodup h hfps hks,hnd2,?_⟩;intro k hk k' hk' hkk;subst hkk;refine (hfpx k hk).2.2.1 ?_;simp only [f6b] at hk'⊢;rcases hk' with q|q|q<;>simp [q]
 have hre:I1 w w' F->RE w' F ((S.upds (G0 ks)).setE g j (.deep o t sz n (rows.set idx (A6 r off vs)))).D ι (.deep o t sz n (rows.set idx (A6 r off vs))) (ι g j):=by
  intro hs;refine ⟨_,_,hnew flat hor,hrow.mono hs (fun _ x=>x) (fun k x=>R3.2 ((a0z S k _).2 x)) (fun _ _ _=>rfl) ?_,by simpa using hn,?_,hnd',fun q=>(hnr q).splice hr hbl.noRef⟩
  ·intro k hk;refine hb k fun q => ?_
   exact (f6k.1 hnd').2.2 k (R1.2 q) k hk rfl
  ·intro q hq;rcases f6K hq with hq|rfl
   ·exact hl q hq
   ·have:=hl r (f6o hr);rw [a3i _ _ _ (by omega)];exact this
 rw [St.upds_append];refine h1.writeX he1 rfl hw hsz (fun k hk=>hb k fun q=>hk (EB.top q)) hre (X:=fp) (fun k hk=>⟨(hfpx k hk).1,(hfpx k hk).2.1,(hfpx k hk).2.2.2⟩) ?_;intro k hk;have hs:I1 w w' F:=a1u fun k hF=>hb k fun q=>(h.sep g j _ k he rfl (EB.top q)).1 hF
 obtain ⟨flat2,fs2,ho2,hkl2,_⟩:=hre hs;have hk2:=(EB.deep_iff ho2 hkl2).1 hk;have hkl3:=hrow.mono (w':=w') hs (fun _ x=>x) (fun k x=>x) (fun _ _ _=>rfl) (fun k hk=>hb k fun q=>(f6k.1 hnd').2.2 k (R1.2 q) k hk rfl);have hfl:=b0W ho2 (hnew flat hor) (fun _ _=>rfl);subst hfl;rw [hkl2.det hkl3 (fun _ _=>rfl)] at hk2;simp only [f6b] at hk2;rw [EB.deep_iff hor hkl];simp only [f6b];rcases hk2 with q|q|q|q<;>simp [q]
def a9v(cx:Cx)(ty:Nat)(x y:V)(r:List V)(ck om:List (Option Nat)):j9 B4:=
 match cx.T ty,y.cells with
 | some ti,some vs=>match x with
  | .eptr g j sz idx off=>j9.bind (j9.rd g j) fun e=>j9.bind (a2a ck om vs) fun f=>match e with
   | .deep o t sz' n rows=>if sz'=sz/\vs.length=ti.size/\off+vs.length<=sz/\f.ls.isEmpty/\a3n f.ks/\a1F f.ks (g,j)=false then
     j9.pure {v:=.bot,upd:=G0 f.ks++[((g,j),.deep o t sz n (rows.set idx (A6 r off f.v)))],obl:=(rows[idx]?=some r)::f.obl}
    else j9.no
   | _=>j9.no
  | _=>j9.no
 | _,_=>j9.no
theorem BL.len{F:Nat->Prop}:∀{vs:List V} {cs:List Value} {f:List Nat},BL w F vs cs f->vs.length=cs.length
 | _,_,_,.nil=>rfl
 | _,_,_,.cons _ _ _ _ _ _ _ t=>by simp [BL.len t]
theorem d5R(h:u6 Γ F ι S a w){grp:Nat}{ob:Oper}{ty:Nat}{x y:Operand}{r:List V}{ck om:List (Option Nat)}(ho:ob.op=.store ty x y)(hd:ob.dst=none){out:B4}{lg:List (Nat×Nat)}(hp:a9v cx ty (t7 S.t x) (t7 S.t y) r ck om S.ent=some (out,lg))(hob:∀p∈out.obl,p):U0 cx.P Γ ι S grp ob out a w:=by
 have hx:=E0 h.tmps x;have hy:=E0 h.tmps y;unfold a9v at hp;cases hti:cx.T ty with
 | none=>rw [hti] at hp;cases hp
 | some ti=>
 cases hvs:(t7 S.t y).cells with
 | none=>rw [hti,hvs] at hp;cases hp
 | some vs=>
 rw [hti,hvs] at hp;simp only at hp;obtain ⟨i,d,z,htf⟩:=cx.tf hti;have hcells:=hy.cells hvs;have hone:=hcells.all_one;have hclen:vs.length=(a.eval y).cells.size:=by simpa using hcells.length
 generalize t7 S.t x=xv at hp hx;cases xv<;>try (cases hp;done)
 case eptr g j sz idx off=>
  obtain ⟨hD,b,hι,hc⟩:=hx.inv_eptr;obtain ⟨e,l1,l2,hrd,hp',hl12⟩:=j9.bind_some hp;clear hp;have he:=(j9.rd_some hrd).1;simp only at he;obtain ⟨f,l3,l4,hf,hp'',hl34⟩:=j9.bind_some hp';clear hp';cases e<;>try (cases hp'';done)
  rename_i o t sz' n rows;simp only at hp'';split at hp''<;>try (cases hp'';done)
  rename_i hcond;obtain ⟨rfl,hc1,hc2,hc3,hc4,hc5⟩:=hcond;have:=j9.pure_some hp'';injection this with h2 h3;subst h2;have hr:rows[idx]?=some r:=hob _ (f6j.2 (.inl rfl));have hls:f.ls=[]:=List.isEmpty_iff.1 hc3;obtain ⟨fp,hbl,hfps,hh⟩:=b3r (F1:=F) h (fun _ x=>x) hcells hf (fun p hp=>hob p (f6j.2 (.inr hp))) (by rw [hls];intro id hid;cases hid);obtain ⟨flat0,fs0,hor0,hkl0,hn0,hl0,_⟩:=h.ents g j _ he;have hidx:=(f6g.1 hr).1;have hvl:f.v.length=vs.length:=by rw [hbl.len,hclen];simp
  rcases hor0.2 with ⟨hv,h0⟩|⟨g0,cap,cur,hv,hbg,hg,hnc,hcm,hcs,ht⟩
  ·omega
  ·have hb:b=g0:=by rw [hv] at hι;simp [B3] at hι;omega
   subst hb;have hcl:n*sz'<=cur.size:=by rw [hcs];exact f6F _ hnc
   have hpos:idx*sz'+sz'<=n*sz':=by rw [<-f7n];exact f6F _ (by omega)
   have hrun:=b9q (P:=cx.P) ho htf hc hg (by omega) (by omega) hone;refine ⟨_,undef,_,F,ι,hrun,.inr ⟨rfl,rfl⟩,?_⟩;rw [hd,b3o,b2b];refine h.dput he hr (by omega) hbl hfps (a4Y hc4) (fun q=>by rw [a69.2 q] at hc5;cases hc5) ⟨rfl,rfl,rfl⟩ (b3G _ _ _) (fun k hk=>setRow_other w b k _ fun q=>hk (by rw [hι,q])) ?_;intro flat hor;have hfl:=b0W hor hor0 (fun _ _=>rfl);subst hfl;have hflat:flat.length=n*sz':=hor.1;refine ⟨?_,.inr ⟨b,cap,_,hv,hbg,setRow_heap w b cur _ t (0,0) hg,hnc,hcm,?_,?_⟩⟩
   ·rw [a3i _ _ _ (by simp;omega)];exact hor.1
   ·rw [f8c,a3i _ _ _ (by simp;omega)];simpa using hcs
   ·rw [<-ht];exact c3N _ _ _ _ (by simp;omega) (by simpa using hcl)
theorem c5Z{t sz n:Nat}{rows:List (List V)}{c:Value}{flat:List Value}{b idx off m:Nat}{r:List V}(ho:w.ownsRow 0 t sz c n flat)(hn:rows.length=n)(hl:∀r∈rows,r.length=sz)(hb:B3 c=some b)(hr:rows[idx]?=some r)(hoff:off+m<=sz) :
  O2 w b (idx*sz+off) ((flat.drop (idx*sz+off)).take m)/\((rows.flatten.drop (idx*sz+off)).take m=(r.drop off).take m)/\idx*sz+off+m<=rows.flatten.length:=by
 have hidx:=(f6g.1 hr).1;have hpos:idx*sz+sz<=n*sz:=by rw [<-f7n];exact f6F _ (by omega)
 refine ⟨?_,?_,by rw [a33 hl,hn];omega⟩
 ·rcases ho.2 with ⟨hv,h0⟩|⟨g0,cap,cur,hv,_,hg,hnc,hcm,hcs,ht⟩
  ·rw [hv] at hb;cases hb
  ·rw [hv] at hb;simp [B3] at hb;subst hb;have hseg:O2 w g0 0 flat:=by
    rw [<-ht];have:=(a5S hg 0).take (n*sz);simpa using this
   have:=(hseg.drop (idx*sz+off)).take m;simpa using this
 ·rw [<-b1u hl hr,List.drop_take,List.take_take,f7T];congr 1
  omega
def b4D(cx:Cx)(grp ty:Nat)(x:V)(r:List V):j9 B4:=
 match cx.T ty with
 | none=>j9.no
 | some ti=>match x with
  | .eptr g j sz idx off=>j9.bind (j9.rd g j) fun e=>match e with
   | .deep _ t sz' n rows=>
    let m:=if ti.agg then ti.size else 1
    let y:=K8 grp 0 ((r.drop off).take m);if sz'=sz/\off+m<=sz/\((r.drop off).take m).all (fun v => !v.isRef) then
     match S0 ti y.1 with
     | some v=>j9.pure {v:=v,new:=some y.2,upd:=[((g,j),.deep true t sz n (rows.set idx (A6 r off y.1)))],obl:=[rows[idx]?=some r]}
     | none=>j9.no
    else j9.no
   | _=>j9.no
  | _=>j9.no
theorem KL.toBL{w:World}{F D:Nat->Prop}{ι:Nat->Nat->Value}{vs:List V}{cs:List Value}{f:List Nat}(h:KL w F D ι vs cs f)(hv:vs.all (fun v => !v.isRef)=true):BL w F vs cs f:=by
 refine h.blOf fun v hm => ?_
 have:=f6e.1 hv v hm;simpa using this
theorem d0C(grp:Nat):∀(vs:List V) (j:Nat),(K8 grp j vs).1.length=vs.length
 | [],_=>rfl
 | v::vs,j=>by simp [K8,d0C grp vs]
theorem e9r{S:St}{g j:Nat}{e e':s8}:(S.setE g j e).setE g j e'=S.setE g j e':=by
 cases hx:S.h[g]? with
 | none=>unfold St.setE;simp [hx]
 | some o=>cases o with
  | none=>unfold St.setE;simp [hx]
  | some l=>
   have hlt:=(f6g.1 hx).1;rw [a3A hx,a3A hx,a3A (l:=l.set j e) (by simp [hlt])];simp only [List.set_set]
set_option maxHeartbeats 800000 in
theorem e8O(h:u6 Γ F ι S a w){grp:Nat}(hg:grp<S.h.length)(hn:¬S.D grp){ob:Oper}{ty:Nat}{x:Operand}{r:List V}(ho:ob.op=.load ty x){out:B4}{lg:List (Nat×Nat)}(hp:b4D cx grp ty (t7 S.t x) r S.ent=some (out,lg))(hob:∀p∈out.obl,p):U0 cx.P Γ ι S grp ob out a w:=by
 have hx:=E0 h.tmps x;unfold b4D at hp;cases hti:cx.T ty with
 | none=>rw [hti] at hp;cases hp
 | some ti=>
 rw [hti] at hp;obtain ⟨i,d,z,htf⟩:=cx.tf hti;generalize t7 S.t x=xv at hp hx;cases xv<;>try (cases hp;done)
 case eptr g j sz idx off=>
  obtain ⟨hD,b,hι,hc⟩:=hx.inv_eptr;obtain ⟨e,l1,l2,hrd,hp',hl12⟩:=j9.bind_some hp;clear hp;have he:=(j9.rd_some hrd).1;simp only at he;cases e<;>try (cases hp';done)
  rename_i o t sz' n rows;simp only at hp';obtain ⟨m,hm⟩:∃m,(if ti.agg=true then ti.size else 1)=m:=⟨_,rfl⟩
  rw [hm] at hp';split at hp'<;>try (cases hp';done)
  rename_i hcond;obtain ⟨rfl,hc1,hc2⟩:=hcond;obtain ⟨y,hy⟩:∃y,K8 grp 0 ((r.drop off).take m)=y:=⟨_,rfl⟩
  rw [hy] at hp';cases hrv:S0 ti y.1 with
  | none=>rw [hrv] at hp';cases hp'
  | some v=>
  rw [hrv] at hp';have:=j9.pure_some hp';injection this with h2 h3;subst h2;have hr:rows[idx]?=some r:=hob _ (by simp);obtain ⟨flat,fs,hor,hkl,hrn,hl,hnd,hnr⟩:=h.ents g j _ he;obtain ⟨hseg,hmid,hle⟩:=c5Z hor hrn hl hι hr hc1;have hrl:=hl r (f6o hr);have hml:((r.drop off).take m).length=m:=by simp;omega
  have hgg:g≠grp:=fun q=>hn (q▸hD)
  obtain ⟨k,hk⟩:∃k,idx*sz'+off=k:=⟨_,rfl⟩
  rw [hk] at hseg hmid hle;obtain ⟨fa,fm,fb,rfl,ka,km,kb⟩:=hkl.cut (k:=k) (m:=m) hle;rw [hmid] at km;have hbl:=km.toBL hc2;have hds:(flat.drop k).take m=((flat.drop k).take m):=rfl;have hflen:flat.length=rows.flatten.length:=hkl.len.symm;have hspl:∀us:List V,us.length=m->(rows.set idx (A6 r off us)).flatten=rows.flatten.take k++(us++rows.flatten.drop (k+m)):=by
   intro us hus;rw [a8b hl hr (by omega),hk];unfold A6;rw [hus,f6r]
  have hfs:flat=flat.take k++((flat.drop k).take m++flat.drop (k+m)):=by
   rw [<-f7T,f7a,f7a]
  have hrl':∀us:List V,us.length=m->∀q∈rows.set idx (A6 r off us),q.length=sz':=by
   intro us hus q hq;rcases f6K hq with hq|rfl
   ·exact hl q hq
   ·rw [a3i _ _ _ (by omega)];exact hrl
  have hnd2:(E3 (ι g j)++(fa++fb)).Nodup:=List.Nodup.sublist (f8f.append_left (f8f.append_left (f7N _ _) _) _) hnd;have hndm:fm.Nodup:=(f6k.1 (f6k.1 (f6k.1 hnd).2.1).2.1).1;have hdm:∀k∈fm,k ∉ E3 (ι g j)++(fa++fb):=by
   intro q hq hq';have hp:=(a7w (C:=E3 (ι g j)) (a7w (C:=fa) (f7S.refl (fm++fb)))).nodup_iff.1 hnd;exact (f6k.1 hp).2.2 q hq q hq' rfl
  obtain ⟨us0,hus0⟩:∃us:List V,us=((r.drop off).take m).map fun _=>V.bot:=⟨_,rfl⟩
  have hus0l:us0.length=m:=by rw [hus0,f6W,hml]
  have kl0:∀{D':Nat->Prop} {ι':Nat->Nat->Value},(∀k,S.D k->D' k)->(∀g j,S.D g->ι' g j=ι g j)->∀{us:List V},us.length=m->KL w F D' ι' us ((flat.drop k).take m) []->KL w F D' ι' (rows.set idx (A6 r off us)).flatten flat (fa++([]++fb)):=by
   intro D' ι' h1 h2 us hus hku;rw [hspl us hus,hfs];have l1:(flat.take k).length=k:=by simp;omega
   have e1:(flat.take k++((flat.drop k).take m++flat.drop (k+m)))=flat:=hfs.symm;exact (ka.mono (fun _ _ _=>rfl) (fun _ x=>x) h1 h2 (fun _ _=>rfl)).app (hku.app (kb.mono (fun _ _ _=>rfl) (fun _ x=>x) h1 h2 (fun _ _=>rfl)))
  have hmem0:∀q,q∈E3 (ι g j)++(fa++([]++fb))->q∈E3 (ι g j)++(fa++(fm++fb)):=by
   intro q hq;simp only [f6b,f8k,false_or] at hq⊢;rcases hq with x|x|x<;>simp [x]
  have rel1:u6 Γ F ι (S.setE g j (.deep true t sz' n (rows.set idx (A6 r off us0)))) a w:=by
   have k1:=kl0 (D':=S.D) (ι':=ι) (fun _ x=>x) (fun _ _ _=>rfl) hus0l (hus0▸km.bots);refine h.write he rfl ⟨rfl,rfl,rfl⟩ rfl (fun _ _=>rfl) (fun _ => ?_) ?_
   ·exact ⟨flat,_,hor,k1.mono (fun _ _ _=>rfl) (fun _ x=>x) (fun k x=>R3.2 x) (fun _ _ _=>rfl) (fun _ _=>rfl),by simpa using hrn,hrl' _ hus0l,by simpa using hnd2,fun q=>by cases q⟩
   ·intro q hq;exact (EB.deep_iff hor hkl).2 (hmem0 q ((EB.deep_iff hor k1).1 hq))
  have he1:(S.setE g j (.deep true t sz' n (rows.set idx (A6 r off us0)))).ent g j=some (.deep true t sz' n (rows.set idx (A6 r off us0))):=by rw [Q3 he];simp
  obtain ⟨bs,hbsl,hhas,hth⟩:=a80 (grp:=grp) hbl 0;rw [hy] at hbsl hhas hth;obtain ⟨ι',hι'⟩:∃ι',ι'=a5n ι grp bs:=⟨_,rfl⟩
  have hne:∀g j,g≠grp->ι' g j=ι g j:=fun g j q=>by rw [hι'];exact c5q q
  have hlenS:grp<(S.setE g j (.deep true t sz' n (rows.set idx (A6 r off us0)))).h.length:=by rw [b0E];exact hg
  have hnD:¬(S.setE g j (.deep true t sz' n (rows.set idx (A6 r off us0)))).D grp:=fun q=>hn (R3.1 q)
  have hDg:=a0N (S:=S.setE g j (.deep true t sz' n (rows.set idx (A6 r off us0)))) (new:=y.2) hlenS;obtain ⟨hrc,hlie⟩:=hth ((S.setE g j (.deep true t sz' n (rows.set idx (A6 r off us0)))).lay grp y.2).D ι' hDg (fun q c hq=>by rw [hι',f7i];exact a5m hq) hndm;have hvb:∀(q:Nat) (e:s8),y.2[q]?=some e->bs[q]?=some (ι' grp q):=by
   intro q e hq;have hlt:q<bs.length:=by rw [hbsl];exact (f6g.1 hq).1
   have hv:ι' grp q=bs[q]:=by rw [hι'];exact a5m (f5Z hlt)
   rw [hv];exact f5Z hlt
  have hmB:∀k∈fm,EB w (.deep o t sz' n rows) (ι g j) k:=fun k hk=>(EB.deep_iff hor hkl).2 (by simp [hk])
  have k1:=kl0 (D':=S.D) (ι':=ι) (fun _ x=>x) (fun _ _ _=>rfl) hus0l (hus0▸km.bots);have rel2:=rel1.lay hlenS hnD (new:=y.2) (ι':=ι') hne (fun q e he=>hlie q e _ he (hvb q e he))
   (fun q e k he hl hk=>h.sep _ _ _ k ‹S.ent g j=some (.deep o t sz' n rows)› rfl (hmB k (hhas.mem he (hvb q e he) hk)))
   (fun q e q' e' k he he' hl hl' hk hk'=>hhas.inj hndm he (hvb q e he) hk he' (hvb q' e' he') hk')
   (fun q e g' j' e' k he0 he' hl hl' hk hk'=>by
    have hkm:=hhas.mem he0 (hvb q e he0) hk;rw [Q3 he] at he';split at he'
    ·rename_i qq;obtain ⟨rfl,rfl⟩:=qq;injection he' with he';subst he';exact hdm k hkm (by simpa using (EB.deep_iff hor k1).1 hk')
    ·rename_i qq;exact qq (h.inj _ _ _ _ _ _ k he' he hl' rfl hk' (hmB k hkm)))
  have he2:((S.setE g j (.deep true t sz' n (rows.set idx (A6 r off us0)))).lay grp y.2).ent g j=some (.deep true t sz' n (rows.set idx (A6 r off us0))):=by rw [a7J hgg];exact he1
  have hyl:y.1.length=m:=by rw [<-hy,d0C,hml]
  have hor':w.ownsRow 0 t sz' (ι' g j) n flat:=by rw [hne g j hgg];exact hor
  have hDD:∀k,S.D k->((S.setE g j (.deep true t sz' n (rows.set idx (A6 r off us0)))).lay grp y.2).D k:=fun k x=>b7j (R3.2 x)
  have hιD:∀g' j',S.D g'->ι' g' j'=ι g' j':=fun g' j' x=>hne g' j' fun q=>hn (q▸x)
  have k2:=kl0 (D':=((S.setE g j (.deep true t sz' n (rows.set idx (A6 r off us0)))).lay grp y.2).D) (ι':=ι') hDD hιD hyl (KL.ofRC hrc);have k1':=kl0 (D':=((S.setE g j (.deep true t sz' n (rows.set idx (A6 r off us0)))).lay grp y.2).D) (ι':=ι') hDD hιD hus0l (hus0▸km.bots.mono (fun _ _ _=>rfl) (fun _ x=>x) hDD hιD (fun _ _=>rfl));have rel3:=rel2.write he2 rfl (e':=.deep true t sz' n (rows.set idx (A6 r off y.1))) ⟨rfl,rfl,rfl⟩ rfl (fun _ _=>rfl)
   (fun _=>⟨flat,_,hor',k2.mono (fun _ _ _=>rfl) (fun _ x=>x) (fun k x=>R3.2 x) (fun _ _ _=>rfl) (fun _ _=>rfl),by simpa using hrn,hrl' _ hyl,by rw [hne g j hgg];simpa using hnd2,fun q=>by cases q⟩)
   (fun q hq=>(EB.deep_iff hor' k1').2 ((EB.deep_iff hor' k2).1 hq))
  obtain ⟨c,hrd',hvc⟩:=a65 hrc hrv;refine ⟨_,c,w,F,ι',a5G ho htf (by rw [hc,hk]) hseg hrd',.inl rfl,?_⟩;have hput:=rel3.put ob.dst (hvc.mono (fun _ _ _=>rfl) (fun _ x=>x) (fun k x=>R3.2 x) (fun _ _ _=>rfl));rw [<-d0K hgg,e9r] at hput;exact hput
def V.plainO:V->Bool
 | .own .. => true
 | v=>v.plain
theorem KL.plainO{w:World}{F D:Nat->Prop}{ι:Nat->Nat->Value}:∀{vs:List V} {cs:List Value} {f:List Nat},KL w F D ι vs cs f->vs.all V.plainO=true->x9 (RC w F D ι) vs cs
 | _,_,_,.nil,_=>.nil
 | _,_,_,.cons v c f vs cs fs h t,hp=>by
  simp only [List.all_cons,f6d] at hp;refine .cons ?_ (KL.plainO t hp.2);have hv:=hp.1;cases h with
  | rc h=>exact h
  | bc _ h=>cases h with
   | fv v c h=>exact .fv _ _ h
   | _=>cases hv
def b3B(cx:Cx)(ty:Nat)(x:V)(r:List V):j9 B4:=
 match cx.T ty with
 | none=>j9.no
 | some ti=>match x with
  | .eptr g j sz idx off=>j9.bind (j9.rd g j) fun e=>match e with
   | .deep _ t sz' n rows=>
    let m:=if ti.agg then ti.size else 1
    if sz'=sz/\off+m<=sz/\((r.drop off).take m).all V.plainO then
     match S0 ti ((r.drop off).take m) with
     | some v=>j9.pure {v:=v,obl:=[rows[idx]?=some r]}
     | none=>j9.no
    else j9.no
   | _=>j9.no
  | _=>j9.no
theorem d7Y(h:u6 Γ F ι S a w){grp:Nat}{ob:Oper}{ty:Nat}{x:Operand}{r:List V}(ho:ob.op=.load ty x){out:B4}{lg:List (Nat×Nat)}(hp:b3B cx ty (t7 S.t x) r S.ent=some (out,lg))(hob:∀p∈out.obl,p):U0 cx.P Γ ι S grp ob out a w:=by
 have hx:=E0 h.tmps x;unfold b3B at hp;cases hti:cx.T ty with
 | none=>rw [hti] at hp;cases hp
 | some ti=>
 rw [hti] at hp;obtain ⟨i,d,z,htf⟩:=cx.tf hti;generalize t7 S.t x=xv at hp hx;cases xv<;>try (cases hp;done)
 case eptr g j sz idx off=>
  obtain ⟨hD,b,hι,hc⟩:=hx.inv_eptr;obtain ⟨e,l1,l2,hrd,hp',hl12⟩:=j9.bind_some hp;clear hp;have he:=(j9.rd_some hrd).1;simp only at he;cases e<;>try (cases hp';done)
  rename_i o t sz' n rows;simp only at hp';obtain ⟨m,hm⟩:∃m,(if ti.agg=true then ti.size else 1)=m:=⟨_,rfl⟩
  rw [hm] at hp';split at hp'<;>try (cases hp';done)
  rename_i hcond;obtain ⟨rfl,hc1,hc2⟩:=hcond;cases hrv:S0 ti ((r.drop off).take m) with
  | none=>rw [hrv] at hp';cases hp'
  | some v=>
  rw [hrv] at hp';have:=j9.pure_some hp';injection this with h2 h3;subst h2;have hr:rows[idx]?=some r:=hob _ (by simp);obtain ⟨flat,fs,hor,hkl,hrn,hl,hnd,hnr⟩:=h.ents g j _ he;obtain ⟨hseg,hmid,hle⟩:=c5Z hor hrn hl hι hr hc1;obtain ⟨fa,fm,fb,rfl,ka,km,kb⟩:=hkl.cut hle;rw [hmid] at km;obtain ⟨c,hrd',hvc⟩:=a65 (D:=S.D) (ι:=ι) (km.plainO hc2) hrv;exact ⟨_,c,w,F,ι,a5G ho htf hc hseg hrd',.inl rfl,by rw [a68];exact h.put ob.dst hvc⟩
def b4B(cx:Cx)(grp ty:Nat)(l c:V)(ck om:List (Option Nat)):j9 B4:=
 match cx.T ty with
 | some ti=>match ti.sl with
  | some e=>match cx.T e with
   | some ei=>match l,c with
    | .i _ n,.i _ n'=>j9.bind (a2a ck om ei.zero) fun f=>
     if f.ks.isEmpty/\f.ls.isEmpty then
      j9.pure {v:=.own grp 0 ei.size 0 n.toNat,new:=some [.deep false e ei.size n.toNat (f6a n.toNat f.v)],obl:=[0<=n,n'=n,n*ei.bytes<=140737488355328/\0<ei.bytes,ei.zero.length=ei.size]++f.obl}
     else j9.no
    | _,_=>j9.no
   | none=>j9.no
  | none=>j9.no
 | none=>j9.no
theorem BL.replicate{w:World}{F D:Nat->Prop}{ι:Nat->Nat->Value}{vs:List V}{cs:List Value}(h:KL w F D ι vs cs []):∀n,KL w F D ι (f6a n vs).flatten (f6a n cs).flatten []
 | 0=>.nil
 | n+1=>by
  rw [f7Z,f7Z,f6E,f6E];exact h.app (BL.replicate h n)
theorem e7t(h:u6 Γ F ι S a w){grp:Nat}(hg:grp<S.h.length)(hn:¬S.D grp){ob:Oper}{ty:Nat}{l c:Operand}(ho:ob.op=.makeSlice ty l c){ck om:List (Option Nat)}{out:B4}{lg:List (Nat×Nat)}(hp:b4B cx grp ty (t7 S.t l) (t7 S.t c) ck om S.ent=some (out,lg))(hob:∀p∈out.obl,p):U0 cx.P Γ ι S grp ob out a w:=by
 have hl:=E0 h.tmps l;have hc:=E0 h.tmps c;unfold b4B at hp;cases hti:cx.T ty with
 | none=>rw [hti] at hp;cases hp
 | some ti=>
 rw [hti] at hp;simp only at hp;cases hs:ti.sl with
 | none=>rw [hs] at hp;cases hp
 | some e=>
 rw [hs] at hp;simp only at hp;cases hei:cx.T e with
 | none=>rw [hei] at hp;cases hp
 | some ei=>
 rw [hei] at hp;simp only at hp;generalize t7 S.t l=lv at hp hl;generalize t7 S.t c=cv at hp hc;cases lv<;>try (cases hp;done)
 cases cv<;>try (cases hp;done)
 rename_i k n k' n';simp only at hp;obtain ⟨f,l1,l2,hf,hp',_⟩:=j9.bind_some hp;clear hp;split at hp'<;>try (cases hp';done)
 rename_i hcond;have:=j9.pure_some hp';injection this with h3 h4;subst h3;have p1:0<=n:=hob _ (by simp);have p2:n'=n:=hob _ (by simp);have p3:n*ei.bytes<=140737488355328/\0<ei.bytes:=hob _ (by simp);have p4:ei.zero.length=ei.size:=hob _ (by simp);have p5:∀p∈f.obl,p:=fun p hp=>hob p (f6b.2 (.inr hp))
 subst p2;obtain ⟨m,rfl⟩:=Int.eq_ofNat_of_zero_le p1;obtain ⟨i,d,z,htf⟩:=cx.tf hti;obtain ⟨i',d',z',hef⟩:=cx.tf hei;obtain rfl:=htf.isSl hs;have hzs:z'.cells.size=ei.size:=by rw [<-p4,<-hef.zeros];simp
 have hb1:m*ei.bytes<=140737488355328:=by
  have:=p3.1;rw [<-Int.natCast_mul] at this;omega
 have hb2:m<=140737488355328:=f6M (f7F _ p3.2) hb1;obtain ⟨w',hr,hown,hgr⟩:=run_make_full (P:=cx.P) w 0 ty e i' z' ei.size htf.und hef.info hef.zero hef.size k k' m (by rw [hef.bytes,Nat.mul_comm];omega) (by unfold maxLen;omega) (f7R _);have hrun:(execOp a.eval ob).run cx.P w=.ok (.value (.slice (some ⟨w.heap.size,0,none⟩) m m)) w':=by
  simp [execOp,ho,hl.inv_i,hc.inv_i,hr]
 have hz:x9 (RC w F S.D ι) ei.zero z'.cells.toList:=by
  rw [<-hef.zeros];exact (FL.ofCells (w:=w) (F:=F) _ hef.one).all2.imp fun _ _ x=>.fv _ _ x
 obtain ⟨fp,hbl,hfps,hh⟩:=b3r (F1:=F) h (fun _ x=>x) hz hf p5 (by rw [List.isEmpty_iff.1 hcond.2];intro id hid;cases hid);have hfp:fp=[]:=by
  rw [List.isEmpty_iff.1 hcond.1] at hfps;cases hfps;rfl
 subst hfp;have hs':I1 w w' F:=a1u fun g hg=>hgr.block g (h.F1 g hg) (by simp)
 have hbl':BL w' F f.v z'.cells.toList []:=hbl.mono hs' (fun _ x=>x) (fun k hk=>by cases hk);have hrowl:∀r∈f6a m f.v,r.length=ei.size:=fun r hr=>by
  rw [(f6X.1 hr).2,hbl.len];simpa using hzs
 have hkl:∀{D:Nat->Prop} {ι:Nat->Nat->Value},KL w' F D ι (f6a m f.v).flatten (f6a m z'.cells.toList).flatten []:=BL.replicate hbl'.kl m
 have hown':=hown;rw [<-hzs,b5Q,hzs] at hown';have hor:RE w' F (S.lay grp [.deep false e ei.size m (f6a m f.v)]).D (L7 ι grp (.slice (some ⟨w.heap.size,0,none⟩) m m)) (.deep false e ei.size m (f6a m f.v)) (.slice (some ⟨w.heap.size,0,none⟩) m m):=
  ⟨_,[],hown',hkl,by simp,hrowl,by simp [E3,B3],fun _=>I2.of_flat fun v hv=>by
   obtain ⟨q,hq,hv⟩:=f7b.1 hv;rw [(f6X.1 hq).2] at hv;exact hbl.noRef v hv⟩
 have hrel:=h.new1 hg hn hgr (ent:=.deep false e ei.size m (f6a m f.v)) (c0:=.slice (some ⟨w.heap.size,0,none⟩) m m) (by
  intro q hq;have:=(EB.deep_iff (D:=fun _=>True) (ι:=fun _ _=>.nilFunc) hown' hkl).1 hq;simp [E3,B3] at this;omega) hor
 refine ⟨_,_,_,F,L7 ι grp (.slice (some ⟨w.heap.size,0,none⟩) m m),hrun,.inl rfl,?_⟩;exact hrel.put ob.dst (.cell (RC.wholeO (a0N hg) P8 hown'))
end
def a2W:List (List Int×V)->List Int->V->V
 | [],_,z=>z
 | p::es,k,z=>if k==p.1 then p.2 else a2W es k z
def a13:List (List Int×V)->List Int->V->List (List Int×V)
 | [],k,v=>[(k,v)]
 | p::es,k,v=>if k==p.1 then (p.1,v)::es else p::a13 es k v
def a0r:List (List Int×V)->List Int->Nat->Option (Nat×Value)
 | [],_,_=>none
 | p::es,k,i=>if k==p.1 then some (i,p.2.conc) else a0r es k (i+1)
theorem d63{P:Program}{w:World}{r:Nat}{es:Array MapEntry}{clock:Nat}(o:Obj)(hb:w.heap[r]?=some (.map es clock)):(setObj r o).run P w=.ok () {w with heap:=w.heap.setIfInBounds r o}:=by
 simp [setObj,Sem.run,hb]
theorem d5Z{w:World}{r:Nat}{o o':Obj}(hb:w.heap[r]?=some o):(w.heap.setIfInBounds r o')[r]?=some o'/\∀r',r'≠r->(w.heap.setIfInBounds r o')[r']?=w.heap[r']?:=by
 have hlt:=(Array.getElem?_eq_some_iff.1 hb).1;exact ⟨by simp [hlt],fun r' q=>by rw [Array.getElem?_setIfInBounds_ne (Ne.symm q)]⟩
theorem d6z(z:V)(k:List Int):∀(es:List (List Int×V)) (i:Nat),(a2W es k z).conc=match a0r es k i with
  | some (_,v)=>v
  | none=>z.conc
 | [],_=>rfl
 | p::es,i=>by
  unfold a2W a0r;split
  ·rfl
  ·exact d6z z k es (i+1)
theorem RV.simple{w:World}{F D:Nat->Prop}{ι:Nat->Nat->Value}{v:V}{c:Value}(h:RV w F D ι v c)(hv:v.simple=true):c=v.conc:=by
 cases h with
 | one v c h=>
  cases h with
  | cell v c h=>
   cases h with
   | fv v c h=>cases h<;>first|rfl|(cases hv;done)
   | _=>cases hv
  | agg cs ds h=>cases hv
 | tup cs ds h=>cases hv
 | any c=>cases hv
section
variable {P:Program} {kt m:Nat} {w:World}
theorem c2y(hE:∀(xs ys:List Int) (w:World),xs.length=m->ys.length=m->(Op.equal kt (kv xs) (kv ys)).run P w=.ok (xs==ys) w){k:List Int}(hk:k.length=m):∀(es:List (List Int×V)) (l:List MapEntry) (i:Nat),l.map (fun e=>(e.key,e.val))=es.map (fun p=>(kv p.1,p.2.conc))->(∀p∈es,p.1.length=m)->(Instr.findAsking kt (kv k) l i).run P w=.ok (a0r es k i) w
 | [],[],i,_,_=>by simp [Instr.findAsking,a0r]
 | [],_::_,_,h,_=>by cases h
 | _::_,[],_,h,_=>by cases h
 | p::es,e::l,i,h,hl=>by
  simp only [f6L,List.cons.injEq,Prod.mk.injEq] at h;obtain ⟨⟨h1,h2⟩,h3⟩:=h;unfold Instr.findAsking;rw [h1];simp only [Sem.run_bind,hE k p.1 w hk (hl p (by simp)),Result.andThen_ok];unfold a0r;by_cases q:(k==p.1)=true
  ·rw [if_pos q,if_pos q,h2];rfl
  ·rw [if_neg q,if_neg q];exact c2y hE hk es l (i+1) h3 fun p hp=>hl p (by simp [hp])
theorem d87:∀(n:Nat) (xs:List Int),Instr.sameBits (n+2) (kv xs) (kv xs)=true:=by
 intro n xs;unfold kv Instr.sameBits;simp only [f8c,beq_self_eq_true,f6n];induction xs with
 | nil=>rfl
 | cons x xs ih=>
  simp only [f6L,List.zip_cons_cons,List.all_cons,f6d];exact ⟨by simp [Instr.sameBits],by simpa using ih⟩
theorem d0c{k:List Int}{j:Nat}{v:Value}:∀{es:List (List Int×V)} {i:Nat},a0r es k i=some (j,v)->i<=j
 | [],_,h=>by cases h
 | p::es,i,h=>by
  unfold a0r at h;split at h
  ·injection h with h;injection h with h;omega
  ·have:=d0c h;omega
theorem c8l{k:List Int}{x:V}{v:Value}:∀{es:List (List Int×V)} {l:List MapEntry} {i j:Nat},l.map (fun e=>(e.key,e.val))=es.map (fun p=>(kv p.1,p.2.conc))->a0r es k i=some (j,v)->
  (∃e,l[j-i]?=some e/\e.key=kv k)/\((l.modify (j-i) fun e=>{e with key:=kv k,val:=x.conc}).map (fun e=>(e.key,e.val))=(a13 es k x).map (fun p=>(kv p.1,p.2.conc)))
 | [],_,_,_,_,h=>by cases h
 | _::_,[],_,_,h,_=>by cases h
 | p::es,e::l,i,j,h,hf=>by
  simp only [f6L,List.cons.injEq,Prod.mk.injEq] at h;obtain ⟨⟨h1,h2⟩,h3⟩:=h;unfold a0r at hf;unfold a13;split at hf
  ·rename_i q;injection hf with hf;injection hf with hf1 hf2;subst hf1;have:k=p.1:=by simpa using q
   rw [Nat.sub_self,if_pos q];exact ⟨⟨e,rfl,by rw [h1,this]⟩,by simp [List.modify_cons,h3,this]⟩
  ·rename_i q;rw [if_neg q];have hge:=d0c hf;obtain ⟨⟨e',h4,h5⟩,h6⟩:=c8l (x:=x) h3 hf;obtain ⟨d,hd⟩:∃d,j-i=d+1:=⟨j-i-1,by omega⟩
   have hd':j-(i+1)=d:=by omega
   rw [hd'] at h4 h6;rw [hd];refine ⟨⟨e',by simpa using h4,h5⟩,?_⟩;rw [List.modify_succ_cons];simp only [f6L,h1,h2,h6]
theorem c9O{k:List Int}{x:V}:∀{es:List (List Int×V)} {i:Nat},a0r es k i=none->a13 es k x=es++[(k,x)]
 | [],_,_=>rfl
 | p::es,i,h=>by
  unfold a0r at h;unfold a13;split at h
  ·cases h
  ·rename_i q;rw [if_neg q,c9O h];rfl
theorem d1S{k:List Int}{x:V}{p:List Int×V->Prop}:∀{es:List (List Int×V)},(∀q∈es,p q)->(∀q∈es,p (q.1,x))->p (k,x)->∀q∈a13 es k x,p q
 | [],_,_,h3,q,hq=>by
  simp only [a13,f6h] at hq;subst hq;exact h3
 | e::es,h1,h2,h3,q,hq=>by
  unfold a13 at hq;split at hq
  ·rcases f6j.1 hq with rfl|hq
   ·exact h2 e (by simp)
   ·exact h1 q (by simp [hq])
  ·rcases f6j.1 hq with rfl|hq
   ·exact h1 _ (by simp)
   ·exact d1S (fun q hq=>h1 q (by simp [hq])) (fun q hq=>h2 q (by simp [hq])) h3 q hq
end
theorem f3T{P:Program}{w:World}{em:Bool}{n kt:Nat}{fs:Array Field}{xs:Array Value}(hu:P.underlying kt=some (.struct fs))(h:∀f∈fs.toList,∃a,(part f.type xs f.offset).run P w=.ok a w/\(Instr.checkKey em n f.type a).run P w=.ok () w):(Instr.checkKey em (n+1) kt (.agg xs)).run P w=.ok () w:=by
 rw [Instr.checkKey];simp only [Sem.run_bind,run_underlying hu,Result.andThen_ok];rw [<-Array.forIn_toList];generalize fs.toList=l at h;induction l with
 | nil=>rfl
 | cons f l ih=>
  obtain ⟨a,h1,h2⟩:=h f (by simp);have ih':=ih fun f hf=>h f (by simp [hf])
  simp only [List.forIn_cons,Sem.run_bind];by_cases q:f.name = "_"
  ·simp [q];simpa using ih'
  ·simp [q,Sem.run_bind,h1,h2];simpa using ih'
theorem d1b{P:Program}{w:World}{em:Bool}{n t:Nat}{k j:IntKind}{x:Int}(hu:P.underlying t=some (.int k)):(Instr.checkKey em (n+1) t (.int j x)).run P w=.ok () w:=by
 rw [Instr.checkKey];simp [Sem.run_bind,run_underlying hu]
section
variable {cx:Cx} {Γ:O5} {F:Nat->Prop} {ι:Nat->Nat->Value} {S S':St} {a:Act} {w:World}
theorem RV.inv_mp{D:Nat->Prop}{g j:Nat}{c:Value}(h:RV w F D ι (.mp g j) c):D g/\∃b,ι g j=.map (some b)/\c=.map (some b):=by
 cases h with
 | one v c h=>cases h with
  | cell v c h=>cases h with
   | fv v c h=>cases h
   | mp g j b h1 h2=>exact ⟨h1,b,h2,rfl⟩
def c1v(cx:Cx)(grp ty:Nat):Option B4:=
 match cx.M ty with
 | some (_,m,_)=>some {v:=.mp grp 0,new:=some [.map ty m []]}
 | none=>none
theorem f4s(h:u6 Γ F ι S a w){grp:Nat}(hg:grp<S.h.length)(hn:¬S.D grp){ob:Oper}{ty:Nat}(ho:ob.op=.makeMap ty none){out:B4}(hp:c1v cx grp ty=some out):U0 cx.P Γ ι S grp ob out a w:=by
 unfold c1v at hp;split at hp<;>try (cases hp;done)
 injection hp with hp;subst hp;rename_i kt m z hM;have hrun:(execOp a.eval ob).run cx.P w=.ok (.value (.map (some w.heap.size))) (w.alloc (.map #[] 0)):=by
  simp only [execOp,ho,Option.map_none];rfl
 have hrel:=h.new1 hg hn (a5d w (.map #[] 0)) (ent:=.map ty m []) (c0:=.map (some w.heap.size))
  (by intro k hk;simp [EB,B3] at hk;omega) ⟨w.heap.size,#[],0,rfl,a7x w _,rfl,fun p hp=>by cases hp⟩
 refine ⟨_,_,_,F,L7 ι grp (.map (some w.heap.size)),hrun,.inl rfl,?_⟩;exact hrel.put ob.dst (.cell (.mp grp 0 w.heap.size (a0N hg) P8))
def b4i(cx:Cx)(ty:Nat)(x ix:V):j9 B4:=
 match cx.M ty with
 | none=>j9.no
 | some (kt,m,z)=>match x,ix with
  | .mp g j,.agg ks=>match a2x ks with
   | some xs=>j9.bind (j9.rd g j) fun e=>match e with
    | .map t' m' es=>if m'=m/\xs.length=m then j9.pure {v:=a2W es xs z} else j9.no
    | _=>j9.no
   | none=>j9.no
  | _,_=>j9.no
theorem d4n{xs:List Int}{z:V}(hz:z.simple=true):∀{es:List (List Int×V)},(∀p∈es,p.2.simple=true)->(a2W es xs z).simple=true
 | [],_=>hz
 | p::es,h=>by
  unfold a2W;split
  ·exact h p (by simp)
  ·exact d4n hz fun p hp=>h p (by simp [hp])
theorem f0g(h:u6 Γ F ι S a w){grp:Nat}{ob:Oper}{ty:Nat}{x ix:Operand}(ho:ob.op=.lookup ty x ix false){out:B4}{lg:List (Nat×Nat)}(hp:b4i cx ty (t7 S.t x) (t7 S.t ix) S.ent=some (out,lg)):U0 cx.P Γ ι S grp ob out a w:=by
 have hx:=E0 h.tmps x;have hi:=E0 h.tmps ix;unfold b4i at hp;cases hM:cx.M ty with
 | none=>rw [hM] at hp;cases hp
 | some q=>
 obtain ⟨kt,m,z⟩:=q;rw [hM] at hp;simp only at hp;generalize t7 S.t x=xv at hp hx;generalize t7 S.t ix=iv at hp hi;cases xv<;>try (cases hp;done)
 cases iv<;>try (cases hp;done)
 rename_i g j ks;simp only at hp;cases hks:a2x ks with
 | none=>rw [hks] at hp;cases hp
 | some xs=>
 rw [hks] at hp;obtain ⟨e,l1,l2,hrd,hp',hl12⟩:=j9.bind_some hp;clear hp;have he:=(j9.rd_some hrd).1;simp only at he hp';cases e<;>try (cases hp';done)
 rename_i t' m' es;simp only at hp';split at hp'<;>try (cases hp';done)
 rename_i hcond;obtain ⟨rfl,hlen⟩:=hcond;have:=j9.pure_some hp';injection this with h2 h3;subst h2;obtain ⟨hD,b,hι,hc⟩:=hx.inv_mp;obtain ⟨ds,hds,hall⟩:=hi.inv_agg;have hints:=b8g hall hks;subst hints;obtain ⟨b',arr,clock,hb,hheap,hes,hok⟩:=h.ents g j _ he;rw [hι] at hb;injection hb with hb;injection hb with hb;subst hb;obtain ⟨vt,hu,hE,hwide,hz,hzs,hck⟩:=cx.hM ty kt m' z hM;have hck':∀em,(Instr.checkKey em 10000 kt (kv xs)).run cx.P w=.ok () w:=fun em=>hck em xs w hlen
 have hfind:(Instr.findKey kt (kv xs) arr.toList).run cx.P w=.ok (a0r es xs 0) w:=by
  rw [run_findKey_eq w (by unfold b6H at hwide;exact hwide)];exact c2y (fun xs ys w h1 h2=>cx.hE kt m' hE xs ys w h1 h2) hlen es arr.toList 0 hes fun p hp=>(hok p hp).1
 have hrun:(execOp a.eval ob).run cx.P w=.ok (.value (a2W es xs z).conc) w:=by
  rw [d6z z xs es 0];simp only [execOp,ho,hc,hds,Instr.lookup,Sem.run_bind,run_underlying hu,Result.andThen_ok,run_getObj_map w b arr clock hheap];rw [show (Value.agg (xs.map (Value.int .i64)).toArray)=kv xs from rfl];simp only [Sem.run_pure,Sem.run_bind,hck',Result.andThen_ok,hfind];cases a0r es xs 0 with
  | none=>simp [hz,Sem.run_bind]
  | some q=>simp
 have hs:=d4n (xs:=xs) hzs fun p hp=>(hok p hp).2
 refine ⟨_,_,w,F,ι,hrun,.inl rfl,?_⟩;rw [a68];exact h.put ob.dst (.fv (FV.conc hs))
def b4n(cx:Cx)(ty:Nat)(x ix y:V):j9 B4:=
 match cx.M ty with
 | none=>j9.no
 | some (kt,m,z)=>match x,ix with
  | .mp g j,.agg ks=>match a2x ks with
   | some xs=>j9.bind (j9.rd g j) fun e=>match e with
    | .map t' m' es=>if m'=m/\xs.length=m/\y.simple=true then j9.pure {v:=.bot,upd:=[((g,j),.map t' m (a13 es xs y))]} else j9.no
    | _=>j9.no
   | none=>j9.no
  | _,_=>j9.no
theorem f0M(h:u6 Γ F ι S a w){grp:Nat}{ob:Oper}{ty:Nat}{x ix y:Operand}(ho:ob.op=.mapUpdate ty x ix y)(hd:ob.dst=none){out:B4}{lg:List (Nat×Nat)}(hp:b4n cx ty (t7 S.t x) (t7 S.t ix) (t7 S.t y) S.ent=some (out,lg)):U0 cx.P Γ ι S grp ob out a w:=by
 have hx:=E0 h.tmps x;have hi:=E0 h.tmps ix;have hy:=E0 h.tmps y;unfold b4n at hp;cases hM:cx.M ty with
 | none=>rw [hM] at hp;cases hp
 | some q=>
 obtain ⟨kt,m,z⟩:=q;rw [hM] at hp;simp only at hp;generalize t7 S.t x=xv at hp hx;generalize t7 S.t ix=iv at hp hi;generalize t7 S.t y=yv at hp hy;cases xv<;>try (cases hp;done)
 cases iv<;>try (cases hp;done)
 rename_i g j ks;simp only at hp;cases hks:a2x ks with
 | none=>rw [hks] at hp;cases hp
 | some xs=>
 rw [hks] at hp;obtain ⟨e,l1,l2,hrd,hp',hl12⟩:=j9.bind_some hp;clear hp;have he:=(j9.rd_some hrd).1;simp only at he hp';cases e<;>try (cases hp';done)
 rename_i t' m' es;simp only at hp';split at hp'<;>try (cases hp';done)
 rename_i hcond;obtain ⟨rfl,hlen,hys⟩:=hcond;have:=j9.pure_some hp';injection this with h2 h3;subst h2;obtain ⟨hD,b,hι,hc⟩:=hx.inv_mp;obtain ⟨ds,hds,hall⟩:=hi.inv_agg;have hints:=b8g hall hks;subst hints;have hyc:=hy.simple hys;obtain ⟨b',arr,clock,hb,hheap,hes,hok⟩:=h.ents g j _ he;rw [hι] at hb;injection hb with hb;injection hb with hb;subst hb;obtain ⟨vt,hu,hE,hwide,hz,hzs,hck⟩:=cx.hM ty kt m' z hM;have hck':∀em,(Instr.checkKey em 10000 kt (kv xs)).run cx.P w=.ok () w:=fun em=>hck em xs w hlen
 have hfind:(Instr.findKey kt (kv xs) arr.toList).run cx.P w=.ok (a0r es xs 0) w:=by
  rw [run_findKey_eq w (by unfold b6H at hwide;exact hwide)];exact c2y (fun xs ys w h1 h2=>cx.hE kt m' hE xs ys w h1 h2) hlen es arr.toList 0 hes fun p hp=>(hok p hp).1
 have hlt:b<w.heap.size:=(Array.getElem?_eq_some_iff.1 hheap).1;obtain ⟨arr',clock',hrun,hes'⟩:∃arr' clock',(execOp a.eval ob).run cx.P w=.ok .skip {w with heap:=w.heap.setIfInBounds b (.map arr' clock')}/\arr'.toList.map (fun e=>(e.key,e.val))=(a13 es xs yv).map (fun p=>(kv p.1,p.2.conc)):=by
  have e0:(Value.agg (xs.map (Value.int .i64)).toArray)=kv xs:=rfl;cases hf:a0r es xs 0 with
  | none=>
   refine ⟨arr.push {key:=kv xs,val:=yv.conc,born:=clock},clock+1,?_,?_⟩
   ·simp only [execOp,ho,hc,hds,hyc,Instr.mapUpdate,Sem.run_bind,run_underlying hu,Result.andThen_ok,run_getObj_map w b arr clock hheap];rw [e0];simp only [Sem.run_pure,Sem.run_bind,hck',Result.andThen_ok,hfind,hf,d63 _ hheap]
   ·rw [c9O hf];simp [hes]
  | some q=>
   obtain ⟨i,v⟩:=q;obtain ⟨⟨e,he1,he2⟩,he3⟩:=c8l (x:=yv) hes hf;rw [Nat.sub_zero] at he1 he3;have hkey:((arr[i]?).map (·.key)).getD (kv xs)=kv xs:=by
    have:arr[i]?=some e:=by simpa using he1
    rw [this];exact he2
   refine ⟨arr.modify i fun e=>{e with key:=kv xs,val:=yv.conc},clock,?_,?_⟩
   ·simp only [execOp,ho,hc,hds,hyc,Instr.mapUpdate,Sem.run_bind,run_underlying hu,Result.andThen_ok,run_getObj_map w b arr clock hheap];rw [e0];simp only [Sem.run_pure,Sem.run_bind,hck',Result.andThen_ok,hfind,hf,hkey,Instr.keyThatStays,d87 9998,if_true,d63 _ hheap]
   ·rw [Array.toList_modify];exact he3
 refine ⟨_,undef,_,F,ι,hrun,.inr ⟨rfl,rfl⟩,?_⟩;rw [hd,b3o,b2b];have hsz:(w.heap.setIfInBounds b (.map arr' clock')).size=w.heap.size:=by simp
 refine h.write he rfl ⟨rfl,rfl,rfl⟩ hsz (fun k hk => ?_) (fun _ => ?_) (fun k hk=>hk)
 ·refine (d5Z hheap).2 k fun q=>hk ?_
  rw [q,hι];rfl
 ·exact ⟨b,arr',clock',hι,(d5Z hheap).1,hes',d1S hok (fun q hq=>⟨(hok q hq).1,hys⟩) ⟨hlen,hys⟩⟩
end
theorem c1J{α:Type}(key:α->List Int)(k:List Int):∀l:List α,a2W (l.map fun x=>(key x,.b true)) k (.b false)=.b (l.any fun x=>k==key x)
 | []=>rfl
 | x::l=>by
  simp only [f6L,a2W,f8o];by_cases q:(k==key x)=true
  ·simp [q]
  ·simp only [q,if_false,f6N,c1J key k l];rfl
def a8S{α:Type}(key:α->List Int)(l:List α)(y:α):List α:=if l.any (fun x=>key y==key x) then l else l++[y]
theorem d36{α:Type}(key:α->List Int)(y:α):∀l:List α,a13 (l.map fun x=>(key x,.b true)) (key y) (.b true)=(a8S key l y).map fun x=>(key x,.b true)
 | []=>rfl
 | x::l=>by
  have ih:=d36 key y l;unfold a8S at ih⊢;simp only [f6L,a13,f8o];by_cases q:(key y==key x)=true
  ·simp [q]
  ·have q':(key y==key x)=false:=by simpa using q
   simp only [q',f6N];rw [if_neg (by simp),ih];by_cases c:(l.any fun x=>key y==key x)=true
   ·rw [if_pos c,if_pos c];rfl
   ·rw [if_neg c,if_neg c];rfl
section
variable {cx:Cx} {Γ:O5} {F:Nat->Prop} {ι:Nat->Nat->Value} {S S':St} {a:Act} {w:World}
theorem u6.killsR:∀{ks:List (Nat×Nat)} {S:St},u6 Γ F ι S a w->(∀id∈ks,∃e,S.ent id.1 id.2=some e)->u6 Γ F ι (S.upds (G0 ks)) a w
 | [],S,h,_=>h
 | id::ks,S,h,hk=>by
  obtain ⟨e,he⟩:=hk id (by simp);refine u6.killsR (S:=S.setE id.1 id.2 .dead) (h.kill he) fun id' hid => ?_
  obtain ⟨e',he'⟩:=hk id' (by simp [hid]);rw [Q3 he];split
  ·exact ⟨_,rfl⟩
  ·exact ⟨e',he'⟩
theorem I2.flatB{rows:List (List V)}(h:I2 rows):rows.flatten.all (fun v => !v.isRef)=true:=by
 rw [f6e];intro v hv;obtain ⟨r,hr,hv⟩:=f7b.1 hv;rw [h r hr v hv];rfl
theorem u6.layDeep(h:u6 Γ F ι S a w){grp:Nat}(hgl:grp<S.h.length)(hn:¬S.D grp){X:Option Nat}{w':World}(hgr:w.grownBy w' X)(hX:∀k,X=some k->¬F k/\(Γ.own k\/Γ.w0.heap.size<=k)/\∀g j e,S.ent g j=some e->e.live=true->¬EB w e (ι g j) k){e sz n:Nat}{rows:List (List V)}{sv:Value}{flat:List Value}{fs:List Nat}(hown:w'.ownsRow 0 e sz sv n flat)(hbl:BL w F rows.flatten flat fs)(hlen:rows.length=n)(hl:∀r∈rows,r.length=sz)(hsv:∀k,B3 sv=some k->X=some k\/w.heap.size<=k)(hfs:∀k∈fs,¬F k/\(Γ.own k\/Γ.w0.heap.size<=k)/\(∀g j e,S.ent g j=some e->e.live=true->¬EB w e (ι g j) k)/\X≠some k)(hnd:fs.Nodup) :
  u6 Γ F (L7 ι grp sv) (S.lay grp [.deep false e sz n rows]) a w'/\RC w' F (S.lay grp [.deep false e sz n rows]).D (L7 ι grp sv) (.own grp 0 sz 0 n) sv:=by
 have hs:I1 w w' F:=a1u fun g hF=>hgr.block g (h.F1 g hF) fun q=>(hX g q.symm).1 hF
 have hlt:=hbl.lt;have hbl':BL w' F rows.flatten flat fs:=hbl.mono hs (fun _ x=>x) fun k hk=>hgr.block k (hlt k hk) fun q=>(hfs k hk).2.2.2 q.symm
 have hkl:∀{D:Nat->Prop} {ι:Nat->Nat->Value},KL w' F D ι rows.flatten flat fs:=hbl'.kl
 have hEB:∀k,EB w' (.deep false e sz n rows) sv k->(X=some k\/w.heap.size<=k)\/k∈fs:=by
  intro k hk;rcases f6b.1 ((EB.deep_iff (D:=fun _=>True) (ι:=fun _ _=>.nilFunc) hown hkl).1 hk) with q|q
  ·exact .inl (hsv k (R1.1 q))
  ·exact .inr q
 have h':=h.world2 hgr hX;have hback:∀{g' j' e' k},S.ent g' j'=some e'->e'.live=true->EB w' e' (ι g' j') k->EB w e' (ι g' j') k:=fun he' hl' hk'=>
  (h.ents _ _ _ he').back (fun k q=>hgr.block k (h.lt he' hl' q) fun z=>(hX k z.symm).2.2 _ _ _ he' hl' q) hk'
 refine ⟨h'.lay hgl hn (fun g j q=>a92 q) ?_ ?_ ?_ ?_,RC.wholeO (a0N hgl) P8 hown⟩
 ·intro j e1 he;cases j with
  | succ j=>simp at he
  | zero=>
   simp at he;subst he;rw [P8];refine ⟨flat,fs,hown,hkl,hlen,hl,f6k.2 ⟨c4i sv,hnd,?_⟩,fun _=>I2.of_flat hbl.noRef⟩;intro k hk k' hk' hkk;subst hkk;rcases hsv k (R1.1 hk) with q|q
   ·exact (hfs k hk').2.2.2 q
   ·have:=hlt k hk';omega
 ·intro j e1 k he hl1 hk;rw [P8] at hk;cases j with
  | succ j=>simp at he
  | zero=>
   simp at he;subst he;rcases hEB k hk with (q|q)|q
   ·exact ⟨(hX k q).1,(hX k q).2.1⟩
   ·refine ⟨fun hF => ?_,.inr (f6M h.kept.size q)⟩;have:=h.F1 k hF;omega
   ·exact ⟨(hfs k q).1,(hfs k q).2.1⟩
 ·intro j e1 j' e1' k he he' _ _ _ _;cases j<;>cases j'<;>simp_all
 ·intro j e1 g' j' e' k he he' _ hl' hk hk';rw [P8] at hk;cases j with
  | succ j=>simp at he
  | zero=>
   simp at he;subst he;have hk2:=hback he' hl' hk';rcases hEB k hk with (q|q)|q
   ·exact (hX k q).2.2 g' j' e' he' hl' hk2
   ·have:=h.lt he' hl' hk2;omega
   ·exact (hfs k q).2.2.1 g' j' e' he' hl' hk2
def a9j:V->V
 | .osl .. | .dsl .. => .bot
 | v=>v
theorem KL.holes:∀{vs:List V} {cs:List Value} {f:List Nat} {D:Nat->Prop} {ι:Nat->Nat->Value},KL w F D ι vs cs f->vs.all (fun v => !v.isRef)=true->KL w F D ι (vs.map a9j) cs []
 | _,_,_,_,_,.nil,_=>.nil
 | _,_,_,D,ι,.cons v c f vs cs fs h t,hv=>by
  simp only [List.all_cons,f6d] at hv;have h1:KC w F D ι (a9j v) c []:=by
   have hone:=h.one;cases h with
   | rc h=>
    have:a9j v=v:=by
     cases h with
     | fv v c h=>cases h<;>rfl
     | _=>rfl
    rw [this];exact .rc _ _ h
   | bc _ h=>cases h with
    | fv _ _ h=>
     have:a9j v=v:=by cases h<;>rfl
     rw [this];exact .rc _ _ (.fv _ _ h)
    | _=>exact .rc _ _ (.fv _ _ (.bot _ hone))
  exact .cons _ _ [] _ _ [] h1 (KL.holes t hv.2)
def b2d(cx:Cx)(grp ty:Nat)(x:V)(r:List V):j9 B4:=
 match cx.T ty with
 | none=>j9.no
 | some ti=>match x with
  | .eptr g j sz idx off=>j9.bind (j9.rd g j) fun e=>match e with
   | .deep _ t sz' n rows=>
    let m:=if ti.agg then ti.size else 1
    let y:=K8 grp 0 ((r.drop off).take m);if sz'=sz/\off+m<=sz/\((r.drop off).take m).all (fun v => !v.isRef) then
     match S0 ti y.1 with
     | some v=>j9.pure {v:=v,new:=some y.2,upd:=[((g,j),.deep true t sz n (rows.set idx (A6 r off (((r.drop off).take m).map a9j))))],obl:=[rows[idx]?=some r]}
     | none=>j9.no
    else j9.no
   | _=>j9.no
  | _=>j9.no
set_option maxHeartbeats 800000 in
theorem f3V(h:u6 Γ F ι S a w){grp:Nat}(hg:grp<S.h.length)(hn:¬S.D grp){ob:Oper}{ty:Nat}{x:Operand}{r:List V}(ho:ob.op=.load ty x){out:B4}{lg:List (Nat×Nat)}(hp:b2d cx grp ty (t7 S.t x) r S.ent=some (out,lg))(hob:∀p∈out.obl,p):U0 cx.P Γ ι S grp ob out a w:=by
 have hx:=E0 h.tmps x;unfold b2d at hp;cases hti:cx.T ty with
 | none=>rw [hti] at hp;cases hp
 | some ti=>
 rw [hti] at hp;obtain ⟨i,d,z,htf⟩:=cx.tf hti;generalize t7 S.t x=xv at hp hx;cases xv<;>try (cases hp;done)
 case eptr g j sz idx off=>
  obtain ⟨hD,b,hι,hc⟩:=hx.inv_eptr;obtain ⟨e,l1,l2,hrd,hp',hl12⟩:=j9.bind_some hp;clear hp;have he:=(j9.rd_some hrd).1;simp only at he;cases e<;>try (cases hp';done)
  rename_i o t sz' n rows;simp only at hp';obtain ⟨m,hm⟩:∃m,(if ti.agg=true then ti.size else 1)=m:=⟨_,rfl⟩
  rw [hm] at hp';split at hp'<;>try (cases hp';done)
  rename_i hcond;obtain ⟨rfl,hc1,hc2⟩:=hcond;obtain ⟨y,hy⟩:∃y,K8 grp 0 ((r.drop off).take m)=y:=⟨_,rfl⟩
  rw [hy] at hp';cases hrv:S0 ti y.1 with
  | none=>rw [hrv] at hp';cases hp'
  | some v=>
  rw [hrv] at hp';have:=j9.pure_some hp';injection this with h2 h3;subst h2;have hr:rows[idx]?=some r:=hob _ (by simp);obtain ⟨flat,fs,hor,hkl,hrn,hl,hnd,hnr⟩:=h.ents g j _ he;obtain ⟨hseg,hmid,hle⟩:=c5Z hor hrn hl hι hr hc1;have hrl:=hl r (f6o hr);have hml:((r.drop off).take m).length=m:=by simp;omega
  have hgg:g≠grp:=fun q=>hn (q▸hD)
  obtain ⟨k,hk⟩:∃k,idx*sz'+off=k:=⟨_,rfl⟩
  rw [hk] at hseg hmid hle;obtain ⟨fa,fm,fb,rfl,ka,km,kb⟩:=hkl.cut (k:=k) (m:=m) hle;rw [hmid] at km;have hbl:=km.toBL hc2;have hds:(flat.drop k).take m=((flat.drop k).take m):=rfl;have hflen:flat.length=rows.flatten.length:=hkl.len.symm;have hspl:∀us:List V,us.length=m->(rows.set idx (A6 r off us)).flatten=rows.flatten.take k++(us++rows.flatten.drop (k+m)):=by
   intro us hus;rw [a8b hl hr (by omega),hk];unfold A6;rw [hus,f6r]
  have hfs:flat=flat.take k++((flat.drop k).take m++flat.drop (k+m)):=by
   rw [<-f7T,f7a,f7a]
  have hrl':∀us:List V,us.length=m->∀q∈rows.set idx (A6 r off us),q.length=sz':=by
   intro us hus q hq;rcases f6K hq with hq|rfl
   ·exact hl q hq
   ·rw [a3i _ _ _ (by omega)];exact hrl
  have hnd2:(E3 (ι g j)++(fa++fb)).Nodup:=List.Nodup.sublist (f8f.append_left (f8f.append_left (f7N _ _) _) _) hnd;have hndm:fm.Nodup:=(f6k.1 (f6k.1 (f6k.1 hnd).2.1).2.1).1;have hdm:∀k∈fm,k ∉ E3 (ι g j)++(fa++fb):=by
   intro q hq hq';have hp:=(a7w (C:=E3 (ι g j)) (a7w (C:=fa) (f7S.refl (fm++fb)))).nodup_iff.1 hnd;exact (f6k.1 hp).2.2 q hq q hq' rfl
  obtain ⟨us0,hus0⟩:∃us:List V,us=((r.drop off).take m).map a9j:=⟨_,rfl⟩
  have hus0l:us0.length=m:=by rw [hus0,f6W,hml]
  have kl0:∀{D':Nat->Prop} {ι':Nat->Nat->Value},(∀k,S.D k->D' k)->(∀g j,S.D g->ι' g j=ι g j)->∀{us:List V},us.length=m->KL w F D' ι' us ((flat.drop k).take m) []->KL w F D' ι' (rows.set idx (A6 r off us)).flatten flat (fa++([]++fb)):=by
   intro D' ι' h1 h2 us hus hku;rw [hspl us hus,hfs];have l1:(flat.take k).length=k:=by simp;omega
   have e1:(flat.take k++((flat.drop k).take m++flat.drop (k+m)))=flat:=hfs.symm;exact (ka.mono (fun _ _ _=>rfl) (fun _ x=>x) h1 h2 (fun _ _=>rfl)).app (hku.app (kb.mono (fun _ _ _=>rfl) (fun _ x=>x) h1 h2 (fun _ _=>rfl)))
  have hmem0:∀q,q∈E3 (ι g j)++(fa++([]++fb))->q∈E3 (ι g j)++(fa++(fm++fb)):=by
   intro q hq;simp only [f6b,f8k,false_or] at hq⊢;rcases hq with x|x|x<;>simp [x]
  have rel1:u6 Γ F ι (S.setE g j (.deep true t sz' n (rows.set idx (A6 r off us0)))) a w:=by
   have k1:=kl0 (D':=S.D) (ι':=ι) (fun _ x=>x) (fun _ _ _=>rfl) hus0l (hus0▸km.holes hc2);refine h.write he rfl ⟨rfl,rfl,rfl⟩ rfl (fun _ _=>rfl) (fun _ => ?_) ?_
   ·exact ⟨flat,_,hor,k1.mono (fun _ _ _=>rfl) (fun _ x=>x) (fun k x=>R3.2 x) (fun _ _ _=>rfl) (fun _ _=>rfl),by simpa using hrn,hrl' _ hus0l,by simpa using hnd2,fun q=>by cases q⟩
   ·intro q hq;exact (EB.deep_iff hor hkl).2 (hmem0 q ((EB.deep_iff hor k1).1 hq))
  have he1:(S.setE g j (.deep true t sz' n (rows.set idx (A6 r off us0)))).ent g j=some (.deep true t sz' n (rows.set idx (A6 r off us0))):=by rw [Q3 he];simp
  obtain ⟨bs,hbsl,hhas,hth⟩:=a80 (grp:=grp) hbl 0;rw [hy] at hbsl hhas hth;obtain ⟨ι',hι'⟩:∃ι',ι'=a5n ι grp bs:=⟨_,rfl⟩
  have hne:∀g j,g≠grp->ι' g j=ι g j:=fun g j q=>by rw [hι'];exact c5q q
  have hlenS:grp<(S.setE g j (.deep true t sz' n (rows.set idx (A6 r off us0)))).h.length:=by rw [b0E];exact hg
  have hnD:¬(S.setE g j (.deep true t sz' n (rows.set idx (A6 r off us0)))).D grp:=fun q=>hn (R3.1 q)
  have hDg:=a0N (S:=S.setE g j (.deep true t sz' n (rows.set idx (A6 r off us0)))) (new:=y.2) hlenS;obtain ⟨hrc,hlie⟩:=hth ((S.setE g j (.deep true t sz' n (rows.set idx (A6 r off us0)))).lay grp y.2).D ι' hDg (fun q c hq=>by rw [hι',f7i];exact a5m hq) hndm;have hvb:∀(q:Nat) (e:s8),y.2[q]?=some e->bs[q]?=some (ι' grp q):=by
   intro q e hq;have hlt:q<bs.length:=by rw [hbsl];exact (f6g.1 hq).1
   have hv:ι' grp q=bs[q]:=by rw [hι'];exact a5m (f5Z hlt)
   rw [hv];exact f5Z hlt
  have hmB:∀k∈fm,EB w (.deep o t sz' n rows) (ι g j) k:=fun k hk=>(EB.deep_iff hor hkl).2 (by simp [hk])
  have k1:=kl0 (D':=S.D) (ι':=ι) (fun _ x=>x) (fun _ _ _=>rfl) hus0l (hus0▸km.holes hc2);have rel2:=rel1.lay hlenS hnD (new:=y.2) (ι':=ι') hne (fun q e he=>hlie q e _ he (hvb q e he))
   (fun q e k he hl hk=>h.sep _ _ _ k ‹S.ent g j=some (.deep o t sz' n rows)› rfl (hmB k (hhas.mem he (hvb q e he) hk)))
   (fun q e q' e' k he he' hl hl' hk hk'=>hhas.inj hndm he (hvb q e he) hk he' (hvb q' e' he') hk')
   (fun q e g' j' e' k he0 he' hl hl' hk hk'=>by
    have hkm:=hhas.mem he0 (hvb q e he0) hk;rw [Q3 he] at he';split at he'
    ·rename_i qq;obtain ⟨rfl,rfl⟩:=qq;injection he' with he';subst he';exact hdm k hkm (by simpa using (EB.deep_iff hor k1).1 hk')
    ·rename_i qq;exact qq (h.inj _ _ _ _ _ _ k he' he hl' rfl hk' (hmB k hkm)))
  have he2:((S.setE g j (.deep true t sz' n (rows.set idx (A6 r off us0)))).lay grp y.2).ent g j=some (.deep true t sz' n (rows.set idx (A6 r off us0))):=by rw [a7J hgg];exact he1
  obtain ⟨c,hrd',hvc⟩:=a65 hrc hrv;refine ⟨_,c,w,F,ι',a5G ho htf (by rw [hc,hk]) hseg hrd',.inl rfl,?_⟩;have hput:=rel2.put ob.dst hvc;rw [hus0] at hput;exact hput
theorem u6.shut(h:u6 Γ F ι S a w){g j t sz n:Nat}{o:Bool}{rows:List (List V)}(he:S.ent g j=some (.deep o t sz n rows))(hn:I2 rows):u6 Γ F ι (S.setE g j (.deep false t sz n rows)) a w:=by
 refine h.write he rfl ⟨rfl,rfl,rfl⟩ rfl (fun _ _=>rfl) (fun _ => ?_) (fun k hk=>hk);obtain ⟨flat,fs,q1,q2,q3,q4,q5,q6⟩:=h.ents g j _ he;exact ⟨flat,fs,q1,q2.mono (fun _ _ _=>rfl) (fun _ x=>x) (fun k x=>R3.2 x) (fun _ _ _=>rfl) (fun _ _=>rfl),q3,q4,q5,fun _=>hn⟩
theorem c4D{g j:Nat}:∀{us:List O8} {S:St} {e:s8},S.ent g j=some e->∃e',(S.upds us).ent g j=some e'
 | [],_,e,h=>⟨e,h⟩
 | ((g',j'),e')::us,S,e,h=>by
  cases hx:S.ent g' j' with
  | none=>
   have:(S.setE g' j' e').ent g j=some e:=by
    by_cases q:g=g'/\j=j'
    ·rw [q.1,q.2,hx] at h;cases h
    ·rw [a6t q];exact h
   exact c4D (us:=us) (S:=S.setE g' j' e') this
  | some e0=>
   have:∃e1,(S.setE g' j' e').ent g j=some e1:=by
    rw [Q3 hx];split
    ·exact ⟨_,rfl⟩
    ·exact ⟨e,h⟩
   obtain ⟨e1,h1⟩:=this;exact c4D (us:=us) (S:=S.setE g' j' e') h1
def b4l(cx:Cx)(ty:Nat)(x y:V)(r:List V)(ck om:List (Option Nat)):j9 B4:=
 j9.bind (a9v cx ty x y r ck om) fun o=>match o.new,o.upd.reverse with
  | none,((g,j),.deep b t sz n rows)::us=>j9.bind (j9.rd g j) fun _=>j9.pure {v:=o.v,upd:=o.upd++[((g,j),.deep false t sz n rows)],obl:=I2 rows::o.obl}
  | _,_=>j9.no
theorem e03{S:St}{g j:Nat}{e:s8}{t:List V}:({S with t:=t}:St).setE g j e={S.setE g j e with t:=t}:=by
 unfold St.setE;cases S.h[g]? with
 | none=>rfl
 | some o=>cases o<;>rfl
theorem e1w(h:u6 Γ F ι S a w){grp:Nat}{ob:Oper}{ty:Nat}{x y:Operand}{r:List V}{ck om:List (Option Nat)}(ho:ob.op=.store ty x y)(hd:ob.dst=none){out:B4}{lg:List (Nat×Nat)}(hp:b4l cx ty (t7 S.t x) (t7 S.t y) r ck om S.ent=some (out,lg))(hob:∀p∈out.obl,p):U0 cx.P Γ ι S grp ob out a w:=by
 unfold b4l at hp;obtain ⟨o,l1,l2,hd1,hp',_⟩:=j9.bind_some hp;clear hp;simp only at hp';cases hnew:o.new with
 | some _=>rw [hnew] at hp';cases hp'
 | none=>
 rw [hnew] at hp';cases hrev:o.upd.reverse with
 | nil=>rw [hrev] at hp';cases hp'
 | cons u us=>
 rw [hrev] at hp';obtain ⟨⟨g,j⟩,e⟩:=u;cases e<;>try (cases hp';done)
 rename_i b t sz n rows;simp only at hp';obtain ⟨e0,l3,l4,hrd,hp'',_⟩:=j9.bind_some hp';have he0:=(j9.rd_some hrd).1;simp only at he0;have:=j9.pure_some hp'';injection this with h2 h3;subst h2;have hnr:I2 rows:=hob _ (by simp);obtain ⟨nx,c,w',F',ι',hrun,hnx,hrel⟩:=d5R h (grp:=grp) ho hd hd1 (fun p hp=>hob p (by simp [hp]));refine ⟨nx,c,w',F',ι',hrun,hnx,?_⟩;have hu:o.upd=us.reverse++[((g,j),.deep b t sz n rows)]:=by
  have:=congrArg List.reverse hrev;simpa using this
 have happ:S.apply grp ob.dst o={S.upds o.upd with t:=R6 S.t ob.dst o.v}:=by
  unfold St.apply;rw [hnew];simp only [St.upds_t]
 rw [happ] at hrel;have hent:({S.upds o.upd with t:=R6 S.t ob.dst o.v}:St).ent g j=some (.deep b t sz n rows):=by
  show (S.upds o.upd).ent g j=_
  rw [hu,St.upds_append];obtain ⟨e1,he1⟩:=c4D (us:=us.reverse) he0;show ((S.upds us.reverse).setE g j _).ent g j=_
  rw [Q3 he1];simp
 have hs:=hrel.shut hent hnr;rw [e03] at hs;unfold St.apply;simp only [St.upds_append,St.upds_t];exact hs
def b2J(cx:Cx)(grp ty len:Nat)(parts:List (Nat×V))(ck om:List (Option Nat)):j9 B4:=
 match cx.T ty with
 | some ti=>match ti.sl with
  | some e=>match cx.T e with
   | some ei=>match parts with
    | [(0,x)]=>match x.cells with
     | some cs=>j9.bind (a2a ck om cs) fun f=>
      if len=1/\cs.length=ei.size/\ei.zero.length=ei.size/\0<ei.size/\ei.size<=16777216/\a3n f.ks=true/\f.ls.isEmpty=true then
       j9.pure {v:=.own grp 0 ei.size 0 1,new:=some [.deep false e ei.size 1 [f.v]],upd:=G0 f.ks,obl:=f.obl}
      else j9.no
     | none=>j9.no
    | []=>
     if len=0/\ei.zero.length=ei.size/\0<ei.size/\ei.size<=16777216 then
      j9.pure {v:=.own grp 0 ei.size 0 0,new:=some [.deep false e ei.size 0 []]}
     else j9.no
    | _=>j9.no
   | none=>j9.no
  | none=>j9.no
 | none=>j9.no
theorem d94{u:Value}{ds:Array Value}{sz:Nat}(hu:u.cells.size=sz)(hd:ds.size=sz):∃es:Array Value,Instr.fill (fun i=>some (i*sz,sz)) ds [(0,u)]=some es/\es.toList=u.cells.toList:=by
 have hout:=c0v u.cells.toList 0 (0*sz) ds (by simp only [Array.length_toList];omega);refine ⟨u.cells.toList.zipIdx.foldl (fun (cs:Array Value) (x:Value×Nat)=>cs.setIfInBounds (0*sz+x.2) x.1) ds,?_,?_⟩
 ·have hcond':(u.cells.size≠sz||0*sz+u.cells.size>ds.size)=false:=by
   simp [hu];omega
  simp only [Instr.fill,hcond'];simp only [f7v,if_false];congr 1
  rw [<-Array.foldl_toList,Array.toList_zipIdx]
 ·rw [hout,Nat.zero_mul,f7J,d4S];simp only [Array.length_toList];omega
theorem d9H(h:u6 Γ F ι S a w){grp:Nat}(hg:grp<S.h.length)(hn:¬S.D grp){ob:Oper}{ty len:Nat}{parts:Array (Nat×Operand)}{ck om:List (Option Nat)}(ho:ob.op=.buildSlice ty len parts){out:B4}{lg:List (Nat×Nat)}(hp:b2J cx grp ty len (parts.toList.map fun (i,x)=>(i,t7 S.t x)) ck om S.ent=some (out,lg))(hob:∀p∈out.obl,p):U0 cx.P Γ ι S grp ob out a w:=by
 unfold b2J at hp;cases hti:cx.T ty with
 | none=>rw [hti] at hp;cases hp
 | some ti=>
 rw [hti] at hp;simp only at hp;cases hsl:ti.sl with
 | none=>rw [hsl] at hp;cases hp
 | some e=>
 rw [hsl] at hp;simp only at hp;cases hei:cx.T e with
 | none=>rw [hei] at hp;cases hp
 | some ei=>
 rw [hei] at hp;simp only at hp;have hrel:=c57 h.tmps parts.toList;generalize hpl:(parts.toList.map fun (i,x)=>(i,t7 S.t x))=pl at hp hrel;generalize hql:(parts.toList.map fun (i,x)=>(i,a.eval x))=ql at hrel;cases hrel with
 | nil=>
  simp only at hp;split at hp<;>try (cases hp;done)
  rename_i hcond;obtain ⟨rfl,hc2,hc3,hc4⟩:=hcond;have:=j9.pure_some hp;injection this with h3 h4;subst h3;obtain ⟨ti',d,z,htf⟩:=cx.tf hti;obtain ⟨ti2,d',z',hef⟩:=cx.tf hei;obtain rfl:=htf.isSl hsl;have hmd:(madeCells z'.cells (0*ei.size)) = #[]:=by simp [madeCells]
  have hrun:(execOp a.eval ob).run cx.P w=.ok (.value (.slice (some ⟨w.heap.size,0,none⟩) 0 0)) (w.alloc (.cells #[] e)):=by
   have:=c4f (w:=w) (len:=0) htf rfl hef (by omega) (qs:=parts.map fun (i,x)=>(i,a.eval x)) (es := #[]) (by rw [Array.toList_map,hql,hmd];rfl);simp [execOp,ho,this]
  have hgr:=a5d w (.cells #[] e);have hown:(w.alloc (.cells #[] e)).ownsRow 0 e ei.size (.slice (some ⟨w.heap.size,0,none⟩) 0 0) 0 []:=
   ⟨by simp,.inr ⟨w.heap.size,0,#[],rfl,f7R _,a7x w _,f6s _,by simp,by simp,by simp⟩⟩
  obtain ⟨r1,r2⟩:=h.layDeep hg hn hgr (fun k q=>by cases q) (rows:=[]) (sv:=.slice (some ⟨w.heap.size,0,none⟩) 0 0) hown (show BL w F [].flatten [] [] from .nil) rfl (by simp) (by intro k hk;simp [B3] at hk;exact .inr (by omega)) (by simp) .nil;exact ⟨_,_,_,F,L7 ι grp (.slice (some ⟨w.heap.size,0,none⟩) 0 0),hrun,.inl rfl,r1.put ob.dst (.cell r2)⟩
 | @cons p q pl ql hpq ht=>
 obtain ⟨i,x⟩:=p;obtain ⟨i',u⟩:=q;obtain ⟨hii,hxu⟩:=hpq;simp only at hii hxu;subst hii;cases ht with
 | cons _ _=>cases i<;>cases hp
 | nil=>
 cases i with
 | succ i=>cases hp
 | zero=>
 simp only at hp;cases hcs:x.cells with
 | none=>rw [hcs] at hp;cases hp
 | some cs=>
 rw [hcs] at hp;obtain ⟨f,l1,l2,hf,hp',_⟩:=j9.bind_some hp;clear hp;split at hp'<;>try (cases hp';done)
 rename_i hcond;obtain ⟨rfl,hc1,hc2,hc3,hc4,hc5,hc6⟩:=hcond;have:=j9.pure_some hp';injection this with h3 h4;subst h3;obtain ⟨ti',d,z,htf⟩:=cx.tf hti;obtain ⟨ti2,d',z',hef⟩:=cx.tf hei;obtain rfl:=htf.isSl hsl;have hrc:=hxu.cells hcs;obtain ⟨fp,hbl,hfps,hh⟩:=b3r (F1:=F) h (fun _ x=>x) hrc hf hob (by rw [List.isEmpty_iff.1 hc6];intro id hid;cases hid);have hul:u.cells.size=ei.size:=by rw [<-hc1,hrc.length];simp
 have hzs:z'.cells.size=ei.size:=by rw [<-hc2,<-hef.zeros];simp
 have hmd:(madeCells z'.cells (1*ei.size)).size=ei.size:=by simp [madeCells]
 obtain ⟨es,hfill,hes⟩:=d94 (u:=u) (ds:=madeCells z'.cells (1*ei.size)) hul hmd;have hel:es.size=1*ei.size:=by
  have:=congrArg List.length hes;simp only [Array.length_toList] at this;omega
 have hrun:(execOp a.eval ob).run cx.P w=.ok (.value (.slice (some ⟨w.heap.size,0,none⟩) 1 1)) (w.alloc (.cells es e)):=by
  have:=c4f (w:=w) (len:=1) htf rfl hef (by omega) (qs:=parts.map fun (i,x)=>(i,a.eval x)) (es:=es) (by rw [Array.toList_map,hql];exact hfill);simp [execOp,ho,this]
 have hgr:=a5d w (.cells es e);have hown:(w.alloc (.cells es e)).ownsRow 0 e ei.size (.slice (some ⟨w.heap.size,0,none⟩) 1 1) 1 u.cells.toList:=by
  refine ⟨by simp only [Array.length_toList];omega,.inr ⟨w.heap.size,1,es,rfl,f7R _,a7x w _,f6s _,by unfold maxLen;omega,hel,?_⟩⟩;rw [hes,f6S (by simp only [Array.length_toList];omega)]
 have hkl:=h.killsR (fun id hid=>(hfps.live id hid).imp fun _ x=>x.1);have hnd:=L2.nodup h hfps (a4Y hc5);have hgk:grp<(S.upds (G0 f.ks)).h.length:=by rw [St.upds_len];exact hg
 have hnk:¬(S.upds (G0 f.ks)).D grp:=fun q=>hn ((a0z S grp _).1 q)
 obtain ⟨r1,r2⟩:=hkl.layDeep hgk hnk hgr (fun k q=>by cases q) (rows:=[f.v]) (sv:=.slice (some ⟨w.heap.size,0,none⟩) 1 1) hown (by simpa using hbl) rfl (by
   intro r hr;rw [f6h.1 hr,hbl.len];simp only [Array.length_toList];exact hul) (by intro k hk;simp [B3] at hk;exact .inr (by omega)) (by
   intro k hk;obtain ⟨id,hid,e1,he1,hl1,hk1⟩:=hfps.mem hk;obtain ⟨x1,x2⟩:=h.sep _ _ _ k he1 hl1 hk1;refine ⟨x1,x2,?_,by simp⟩;intro g' j' e' he' hl' hk';rcases b1f _ he' with ⟨_,rfl⟩|⟨hni,he2⟩
   ·cases hl'
   ·obtain ⟨y1,y2⟩:=h.inj _ _ _ _ _ _ k he2 he1 hl' hl1 hk' hk1;exact hni (by rw [y1,y2];exact hid)) hnd
 exact ⟨_,_,_,F,L7 ι grp (.slice (some ⟨w.heap.size,0,none⟩) 1 1),hrun,.inl rfl,r1.put ob.dst (.cell r2)⟩
def b3O(cx:Cx)(grp ty:Nat)(s x:V):j9 B4:=
 match cx.T ty with
 | some ti=>match ti.sl with
  | some e=>match cx.T e with
   | some ei=>match x with
    | .own g2 j2 sz2 0 m=>j9.bind (j9.rd g2 j2) fun e2=>match e2 with
     | .deep false t2 sz2' m' rows2=>
      if t2=e/\sz2=ei.size/\sz2'=ei.size/\0<ei.size/\0<ei.bytes/\ei.zero.length=ei.size/\0<m' then
       match s with
       | .nil=>j9.pure {v:=.own grp 0 ei.size 0 m',new:=some [.deep false e ei.size m' rows2],upd:=G0 [(g2,j2)],obl:=[m=m',m'*ei.bytes<=140737488355328]}
       | .own g j sz 0 n=>j9.bind (j9.rd g j) fun e1=>match e1 with
        | .deep false t sz' n' rows=>
         if t=e/\sz=ei.size/\sz'=ei.size/\a3n [(g,j),(g2,j2)]=true then
          j9.pure {v:=.own grp 0 ei.size 0 (n'+m'),new:=some [.deep false e ei.size (n'+m') (rows++rows2)],upd:=G0 [(g,j),(g2,j2)],obl:=[n=n',(n'+m')*ei.bytes<=140737488355328,m=m']}
         else j9.no
        | _=>j9.no
       | _=>j9.no
      else j9.no
     | _=>j9.no
    | _=>j9.no
   | none=>j9.no
  | none=>j9.no
 | none=>j9.no
theorem c2G{g j sz n e sz':Nat}{c:Value}{flat:List Value}(hs:RV w F S.D ι (.own g j sz 0 n) c)(hown:w.ownsRow 0 e sz' (ι g j) n flat):c=ι g j:=by
 obtain ⟨hD,⟨b,nn,cap,hι,hlo,hb0,hb1,hc⟩|⟨hl0',_⟩⟩:=hs.inv_own;case inr=>omega
 rcases hown.2 with ⟨hv,hz⟩|⟨g0,cap0,cur,hv,_⟩
 ·rw [hι] at hv;injection hv with e1 e2 e3;subst e1;subst e2;subst e3;subst hz;rw [hc,hι];simp
 ·rw [hι] at hv;injection hv with e1 e2 e3;subst e1;subst e2;subst e3;rw [hc,hι];by_cases q:cap=0
  ·simp [q]
  ·simp [q,Addr.add]
theorem d5n{P:Program}{ty e:Nat}{ti ei:TI}{i i':TypeInfo}{d d':TypeDesc}{z z':Value}(htf:TF P ty ti i d z)(hd:d=.slice e)(hef:TF P e ei i' d' z')(h0:0<ei.size)(hb0:0<ei.bytes)(hzl:ei.zero.length=ei.size){sv sv2:Value}{n m:Nat}{flat flat2:List Value}(hown:w.ownsRow 0 e ei.size sv n flat)(hown2:w.ownsRow 0 e ei.size sv2 m flat2)(hm:0<m)(hone:∀u∈flat2,u.oneCell'=true)(hb:(n+m)*ei.bytes<=140737488355328)(rt:Nat) :
  ∃v' w',(Builtin.append_ #[ty,ty] rt #[sv,sv2]).run P w=.ok v' w'/\w'.ownsRow 0 e ei.size v' (n+m) (flat++flat2)/\w.grownBy w' sv.ownBlock/\(v'.ownBlock=sv.ownBlock\/v'.ownBlock=some w.heap.size):=by
 subst hd;have hzs:z'.cells.size=ei.size:=by rw [<-hzl,<-hef.zeros];simp
 have hm63:n+m<=maxLen:=by
  have:n+m<=140737488355328:=f6M (f7F _ hb0) hb;unfold maxLen;omega
 rcases hown2.2 with ⟨_,q⟩|⟨g2,cap2,cur2,rfl,_,hg2,hnc2,_,hcs2,ht2⟩
 ·omega
 ·have hseg:O2 w g2 0 flat2:=by
   rw [<-ht2];have:=(a5S hg2 0).take (m*ei.size);simpa using this
  obtain ⟨v',w',h1,h2,h3,_,h5⟩:=run_append_own_at (P:=P) w 0 ty rt e i' z' ei.size ei.bytes htf.und hef.info hef.zero hef.size hef.bytes hzs h0 sv n flat hown ⟨g2,0,none⟩ m cap2 flat2 hown2.1 (by
   intro j u hu;rw [a3o];exact hseg j u hu) hone hm63 hb (f7R _)
  exact ⟨v',w',h1,h2,h3,h5⟩
theorem BL.ones:∀{vs:List V} {cs:List Value} {f:List Nat},BL w F vs cs f->∀u∈cs,u.oneCell'=true
 | _,_,_,.cons v c f vs cs fs h t,u,hu=>by
  rcases f6j.1 hu with rfl|hu
  ·exact h.one
  ·exact BL.ones t u hu
theorem BL.app:∀{vs vs':List V} {cs cs':List Value} {f f':List Nat},BL w F vs cs f->BL w F vs' cs' f'->BL w F (vs++vs') (cs++cs') (f++f')
 | _,_,_,_,_,_,.nil,k=>k
 | _,_,_,_,_,_,.cons v c f vs cs fs h t,k=>by
  rw [f6r];exact .cons v c f _ _ _ h (BL.app t k)
theorem f4O(h:u6 Γ F ι S a w){grp:Nat}(hg:grp<S.h.length)(hn:¬S.D grp){ob:Oper}{ty:Nat}{s x:Operand}(ho:ob.op=.call {callee:=.builtin .append,args := #[s,x],argTypes := #[ty,ty]}){out:B4}{lg:List (Nat×Nat)}(hp:b3O cx grp ty (t7 S.t s) (t7 S.t x) S.ent=some (out,lg))(hob:∀p∈out.obl,p):U0 cx.P Γ ι S grp ob out a w:=by
 have hs:=E0 h.tmps s;have hx:=E0 h.tmps x;unfold b3O at hp;cases hti:cx.T ty with
 | none=>rw [hti] at hp;cases hp
 | some ti=>
 rw [hti] at hp;simp only at hp;cases hsl:ti.sl with
 | none=>rw [hsl] at hp;cases hp
 | some e=>
 rw [hsl] at hp;simp only at hp;cases hei:cx.T e with
 | none=>rw [hei] at hp;cases hp
 | some ei=>
 rw [hei] at hp;simp only at hp;obtain ⟨i,d,z,htf⟩:=cx.tf hti;obtain ⟨i',d',z',hef⟩:=cx.tf hei;have hd:=htf.isSl hsl;generalize t7 S.t s=sv at hp hs;generalize t7 S.t x=xv at hp hx;cases xv<;>try (cases hp;done)
 rename_i g2 j2 sz2 lo2 m;cases lo2 with
 | succ q=>cases hp
 | zero=>
 simp only at hp;obtain ⟨e2,l1,l2,hrd2,hp',_⟩:=j9.bind_some hp;clear hp;have he2:=(j9.rd_some hrd2).1;simp only at he2;cases e2<;>try (cases hp';done)
 rename_i o2 t2 sz2' m' rows2;cases o2 with
 | true=>cases hp'
 | false=>
 simp only at hp';split at hp'<;>try (cases hp';done)
 rename_i hcond;obtain ⟨rfl,rfl,rfl,hc3,hc4,hc5,hc6⟩:=hcond;obtain ⟨flat2,fs2,hown2,hkl2,hlen2,hl2,hnd2,hnr2⟩:=h.ents g2 j2 _ he2;have hbl2:=hkl2.toBL (hnr2 rfl).flatB;have hin2:∀k∈E3 (ι g2 j2)++fs2,EB w (.deep false t2 ei.size m' rows2) (ι g2 j2) k:=fun k hk=>(EB.deep_iff hown2 hkl2).2 hk
 cases sv<;>try (cases hp';done)
 case nil=>
  have:=j9.pure_some hp';injection this with h3 h4;subst h3;obtain hcs:=hs.inv_nil;have hmm:m=m':=hob _ (by simp);subst hmm;have hb:m*ei.bytes<=140737488355328:=hob _ (by simp);obtain ⟨v',w',hr,hown,hgr,hat⟩:=d5n htf hd hef hc3 hc4 hc5 (World.ownsRow_nil w 0 t2 ei.size) hown2 hc6 hbl2.ones (by simpa using hb) ob.type;have hxc:=c2G hx hown2;have hrun:(execOp a.eval ob).run cx.P w=.ok (.value v') w':=by
   simp [execOp,ho,resolve,invoke,builtin,hcs,hxc,hr]
  have hkl:=h.killsR (ks:=[(g2,j2)]) (fun id hid=>by rw [f6h.1 hid];exact ⟨_,he2⟩);have hgk:grp<(S.upds (G0 [(g2,j2)])).h.length:=by rw [St.upds_len];exact hg
  have hnk:¬(S.upds (G0 [(g2,j2)])).D grp:=fun q=>hn ((a0z S grp _).1 q)
  simp only [f7i,f6V] at hown;obtain ⟨r1,r2⟩:=hkl.layDeep hgk hnk hgr (fun k q=>by cases q) hown hbl2 hlen2 hl2 (by
   intro k hk;rw [<-b0h hown] at hk;rcases hat with q|q
   ·rw [q] at hk;cases hk
   ·rw [q] at hk;injection hk with hk;exact .inr (by omega)) (by
   intro k hk;have hk1:=hin2 k (f6b.2 (.inr hk));obtain ⟨x1,x2⟩:=h.sep _ _ _ k he2 rfl hk1;refine ⟨x1,x2,?_,by intro q;cases q⟩;intro g' j' e' he' hl' hk';rcases b1f _ he' with ⟨_,rfl⟩|⟨hni,he3⟩
   ·cases hl'
   ·obtain ⟨y1,y2⟩:=h.inj _ _ _ _ _ _ k he3 he2 hl' rfl hk' hk1;exact hni (by rw [y1,y2];simp)) (f6k.1 hnd2).2.1
  exact ⟨_,_,_,F,L7 ι grp v',hrun,.inl rfl,r1.put ob.dst (.cell r2)⟩
 case own g j sz lo n=>
  cases lo with
  | succ q=>cases hp'
  | zero=>
  simp only at hp';obtain ⟨e1,l3,l4,hrd1,hp'',_⟩:=j9.bind_some hp';clear hp';have he1:=(j9.rd_some hrd1).1;simp only at he1;cases e1<;>try (cases hp'';done)
  rename_i o1 t1 sz1 n' rows;cases o1 with
  | true=>cases hp''
  | false=>
  simp only at hp'';split at hp''<;>try (cases hp'';done)
  rename_i hcond;obtain ⟨rfl,rfl,rfl,hnod⟩:=hcond;have:=j9.pure_some hp'';injection this with h3 h4;subst h3;have hnn:n=n':=hob _ (by simp);subst hnn;have hb:(n+m')*ei.bytes<=140737488355328:=hob _ (by simp);have hmm:m=m':=hob _ (by simp);subst hmm;obtain ⟨flat1,fs1,hown1,hkl1,hlen1,hl1,hnd1,hnr1⟩:=h.ents g j _ he1;have hbl1:=hkl1.toBL (hnr1 rfl).flatB;have hin1:∀k∈E3 (ι g j)++fs1,EB w (.deep false t1 ei.size n rows) (ι g j) k:=fun k hk=>(EB.deep_iff hown1 hkl1).2 hk
  have hne:¬(g=g2/\j=j2):=by
   have:=a4Y hnod;rw [f7z] at this;intro q;exact this.1 (by rw [q.1,q.2];simp)
  obtain ⟨v',w',hr,hown,hgr,hat⟩:=d5n htf hd hef hc3 hc4 hc5 hown1 hown2 hc6 hbl2.ones hb ob.type;have hxc:=c2G hx hown2;have hsc:=c2G hs hown1;have hrun:(execOp a.eval ob).run cx.P w=.ok (.value v') w':=by
   simp [execOp,ho,resolve,invoke,builtin,hsc,hxc,hr]
  have hkl:=h.killsR (ks:=[(g,j),(g2,j2)]) (fun id hid=>by
   rcases f6j.1 hid with rfl|hid
   ·exact ⟨_,he1⟩
   ·rw [f6h.1 hid];exact ⟨_,he2⟩)
  have hgk:grp<(S.upds (G0 [(g,j),(g2,j2)])).h.length:=by rw [St.upds_len];exact hg
  have hnk:¬(S.upds (G0 [(g,j),(g2,j2)])).D grp:=fun q=>hn ((a0z S grp _).1 q)
  have hob1:∀k,(ι g j).ownBlock=some k->k∈E3 (ι g j):=fun k hk=>R1.2 (by rw [<-b0h hown1];exact hk)
  have free1:∀k∈E3 (ι g j)++fs1,∀g' j' e',(S.upds (G0 [(g,j),(g2,j2)])).ent g' j'=some e'->e'.live=true->¬EB w e' (ι g' j') k:=by
   intro k hk g' j' e' he' hl' hk';rcases b1f _ he' with ⟨_,rfl⟩|⟨hni,he3⟩
   ·cases hl'
   ·obtain ⟨y1,y2⟩:=h.inj _ _ _ _ _ _ k he3 he1 hl' rfl hk' (hin1 k hk);exact hni (by rw [y1,y2];simp)
  have free2:∀k∈E3 (ι g2 j2)++fs2,∀g' j' e',(S.upds (G0 [(g,j),(g2,j2)])).ent g' j'=some e'->e'.live=true->¬EB w e' (ι g' j') k:=by
   intro k hk g' j' e' he' hl' hk';rcases b1f _ he' with ⟨_,rfl⟩|⟨hni,he3⟩
   ·cases hl'
   ·obtain ⟨y1,y2⟩:=h.inj _ _ _ _ _ _ k he3 he2 hl' rfl hk' (hin2 k hk);exact hni (by rw [y1,y2];simp)
  have hdis:∀k,k∈E3 (ι g j)++fs1->k∈E3 (ι g2 j2)++fs2->False:=by
   intro k q1 q2;obtain ⟨y1,y2⟩:=h.inj _ _ _ _ _ _ k he1 he2 rfl rfl (hin1 k q1) (hin2 k q2);exact hne ⟨y1,y2⟩
  obtain ⟨r1,r2⟩:=hkl.layDeep hgk hnk hgr (fun k q=>by
   have hk:k∈E3 (ι g j)++fs1:=f6b.2 (.inl (hob1 k q));obtain ⟨x1,x2⟩:=h.sep _ _ _ k he1 rfl (hin1 k hk);exact ⟨x1,x2,free1 k hk⟩) (rows:=rows++rows2) hown (by rw [f8p];exact hbl1.app hbl2) (by rw [f6l,hlen1,hlen2]) (by
   intro r hr';rcases f6b.1 hr' with q|q
   ·exact hl1 r q
   ·exact hl2 r q) (by
   intro k hk;rw [<-b0h hown] at hk;rcases hat with q|q
   ·rw [q] at hk;exact .inl hk
   ·rw [q] at hk;injection hk with hk;exact .inr (by omega)) (by
   intro k hk;rcases f6b.1 hk with q|q
   ·have hk1:k∈E3 (ι g j)++fs1:=f6b.2 (.inr q);obtain ⟨x1,x2⟩:=h.sep _ _ _ k he1 rfl (hin1 k hk1);exact ⟨x1,x2,free1 k hk1,fun z=>(f6k.1 hnd1).2.2 k (hob1 k z) k q rfl⟩
   ·have hk2:k∈E3 (ι g2 j2)++fs2:=f6b.2 (.inr q);obtain ⟨x1,x2⟩:=h.sep _ _ _ k he2 rfl (hin2 k hk2);exact ⟨x1,x2,free2 k hk2,fun z=>hdis k (f6b.2 (.inl (hob1 k z))) hk2⟩) (by
   rw [f6k];exact ⟨(f6k.1 hnd1).2.1,(f6k.1 hnd2).2.1,fun k q k' q' z=>by
    subst z;exact hdis k (f6b.2 (.inr q)) (f6b.2 (.inr q'))⟩)
  exact ⟨_,_,_,F,L7 ι grp v',hrun,.inl rfl,r1.put ob.dst (.cell r2)⟩
end
structure L0 where
 a:O3:=.none
 d:Option Bool:=none
 v:Option V:=none
 e:Option s8:=none
def c33(d:Option Bool)(o:B4):Option B4:=
 match d with
 | some d=>match o.v with
  | .b x=>some {o with v:=.b d,obl:=(x=d)::o.obl}
  | _=>none
 | none=>some o
def b6Y(v:Option V)(o:B4):Option B4:=
 match v with
 | some v=>some {o with v:=v,obl:=(o.v=v)::o.obl}
 | none=>some o
def b3e(e:s8):List ((Nat×Nat)×s8)->Option (List ((Nat×Nat)×s8)×Prop)
 | []=>none
 | [u]=>some ([(u.1,e)],u.2=e)
 | u::us=>match b3e e us with
  | some (us',p)=>some (u::us',p)
  | none=>none
def b8i(e:Option s8)(o:B4):Option B4:=
 match e with
 | some e=>match o.new with
  | some [e0]=>some {o with new:=some [e],obl:=(e0=e)::o.obl}
  | some _=>none
  | none=>match b3e e o.upd with
   | some (us,p)=>some {o with upd:=us,obl:=p::o.obl}
   | none=>none
 | none=>some o
def c0t(T:L0)(o:B4):Option B4:=
 match b8i T.e o with
 | some o1=>match b6Y T.v o1 with
  | some o2=>c33 T.d o2
  | none=>none
 | none=>none
def opM(cx:Cx)(grp:Nat)(ob:Oper)(t:List V)(A:O3):j9 B4:=
 match ob.op with
 | .alloc e=>j9.lift (c4g cx grp e)
 | .box e x=>j9.lift (c5a cx grp e (t7 t x))
 | .buildSlice ty len parts=>match A with
  | .dck ck om=>b2J cx grp ty len (parts.toList.map fun (i,x)=>(i,t7 t x)) ck om
  | A=>b4q cx grp ty len (parts.toList.map fun (i,x)=>(i,t7 t x)) A
 | .makeSlice ty l c=>match A with
  | .dck ck om=>b4B cx grp ty (t7 t l) (t7 t c) ck om
  | A=>j9.lift (c0T cx grp ty (t7 t l) (t7 t c) (e7J A))
 | .load ty x=>match A with
  | .drow r=>b4D cx grp ty (t7 t x) r
  | .prow r=>b3B cx ty (t7 t x) r
  | .dtak r=>b2d cx grp ty (t7 t x) r
  | A=>b1V cx ty (t7 t x) A
 | .store ty x y=>match ob.dst with
  | none=>match A with
   | .dst r ck om=>a9v cx ty (t7 t x) (t7 t y) r ck om
   | .dsc r ck om=>b4l cx ty (t7 t x) (t7 t y) r ck om
   | A=>b4M cx ty (t7 t x) (t7 t y) A
  | some _=>j9.no
 | .makeMap ty none=>j9.lift (c1v cx grp ty)
 | .lookup ty x ix false=>b4i cx ty (t7 t x) (t7 t ix)
 | .mapUpdate ty x ix y=>match ob.dst with
  | none=>b4n cx ty (t7 t x) (t7 t ix) (t7 t y)
  | some _=>j9.no
 | .call c=>match c.callee,c.args.toList,c.argTypes.toList with
  | .builtin .append,[s,x],[ty,ty']=>if ty=ty' then (match A with
   | .dck _ _=>b3O cx grp ty (t7 t s) (t7 t x)
   | .part=>b0k true cx grp ty (t7 t s) (t7 t x)
   | _=>b0k false cx grp ty (t7 t s) (t7 t x)) else j9.no
  | .builtin .copy,[s,x],[ty,_]=>b32 cx ty (t7 t s) (t7 t x)
  | .value fop,args,_=>match t7 t fop with
   | .fn f=>b14 cx.P grp f (args.map (t7 t)) A
   | _=>j9.no
  | _,_,_=>j9.lift ((R4 cx ob.op t A).map fun q=>{v:=q.1,obl:=q.2})
 | _=>j9.lift ((R4 cx ob.op t A).map fun q=>{v:=q.1,obl:=q.2})
section
variable {cx:Cx} {Γ:O5} {F:Nat->Prop} {ι:Nat->Nat->Value} {S:St} {a:Act} {w:World}
def c4m(P:Program)(Γ:O5)(S':St)(ob:Oper)(a:Act)(w:World):Prop:=
 (∃nx c w' F' ι',(execOp a.eval ob).run P w=.ok nx w'/\(nx=.value c\/(nx=.skip/\c=undef))/\u6 Γ F' ι' S' (a.put ob.dst c) w')\/
 (∃f args,(execOp a.eval ob).run P w=.ok (.enter f args) w/\Calls P f args w fun e w' => ∃c F' ι',e=.returned c/\u6 Γ F' ι' S' (a.put ob.dst c) w')
theorem e7F(h:u6 Γ F ι S a w){grp:Nat}(hg:grp<S.h.length)(hn:¬S.D grp){ob:Oper}{A:O3}{out:B4}{lg:List (Nat×Nat)}(hp:opM cx grp ob S.t A S.ent=some (out,lg))(hob:∀p∈out.obl,p):c4m cx.P Γ (S.apply grp ob.dst out) ob a w:=by
 have pure:∀{op:Op} {out:B4} {lg},ob.op=op->j9.lift ((R4 cx op S.t A).map fun q=>({v:=q.1,obl:=q.2}:B4)) S.ent=some (out,lg)->(∀p∈out.obl,p)->c4m cx.P Γ (S.apply grp ob.dst out) ob a w:=by
  intro op out lg hop hp hob;subst hop;obtain ⟨h1,_⟩:=j9.lift_some hp;obtain ⟨q,hq,he⟩:=f7G.1 h1;simp only at he;subst he;obtain ⟨c,hr,hv⟩:=f3O h.tmps hq hob;exact .inl ⟨_,c,w,F,ι,hr,.inl rfl,by rw [a68];exact h.put ob.dst hv⟩
 unfold opM at hp;cases ho:ob.op;case alloc e=>
  rw [ho] at hp;exact .inl (f5F h hg hn ho (j9.lift_some hp).1 hob)
 case box e x=>
  rw [ho] at hp;exact .inl (e8M h hg hn ho (j9.lift_some hp).1)
 case buildSlice ty len parts=>
  rw [ho] at hp;cases A;case dck ck om=>exact .inl (d9H h hg hn ho hp hob)
  all_goals exact .inl (d9z h hg hn ho hp hob)
 case makeSlice ty l c=>
  rw [ho] at hp;cases A;case dck ck om=>exact .inl (e7t h hg hn ho hp hob)
  all_goals exact .inl (e7r h hg hn ho (j9.lift_some hp).1 hob)
 case load ty x=>
  rw [ho] at hp;cases A;case drow r=>exact .inl (e8O h hg hn ho hp hob)
  case prow r=>exact .inl (d7Y h ho hp hob)
  case dtak r=>exact .inl (f3V h hg hn ho hp hob)
  all_goals exact .inl (e8Y h ho hp hob)
 case store ty x y=>
  rw [ho] at hp;cases hd:ob.dst with
  | some d=>rw [hd] at hp;cases hp
  | none=>
   rw [hd] at hp;have:U0 cx.P Γ ι S grp ob out a w:=by
    cases A;case dst r ck om=>exact d5R h (grp:=grp) ho hd hp hob
    case dsc r ck om=>exact e1w h (grp:=grp) ho hd hp hob
    all_goals exact d9R h (grp:=grp) ho hd hp hob
   rw [<-hd];exact .inl this
 case makeMap ty r=>
  rw [ho] at hp;cases r with
  | none=>exact .inl (f4s h hg hn ho (j9.lift_some hp).1)
  | some r=>exact pure ho hp hob
 case lookup ty x ix ok=>
  rw [ho] at hp;cases ok with
  | false=>exact .inl (f0g h ho hp)
  | true=>exact pure ho hp hob
 case mapUpdate ty x ix y=>
  rw [ho] at hp;cases hd:ob.dst with
  | some d=>rw [hd] at hp;cases hp
  | none=>
   rw [hd] at hp;have:U0 cx.P Γ ι S grp ob out a w:=f0M h (grp:=grp) ho hd hp;rw [<-hd];exact .inl this
 case call c=>
  rw [ho] at hp;obtain ⟨callee,args,tys⟩:=c;simp only at hp;cases callee with
  | invoke x m=>exact pure ho hp hob
  | value fop=>
   simp only at hp;generalize hfe:t7 S.t fop=fv at hp;cases fv<;>try (cases hp;done)
   rename_i f;obtain ⟨h1,h2⟩:=e98 h hg hn ho hfe hp hob;exact .inr ⟨f,_,h1,h2⟩
  | builtin b=>
   cases b;case append=>
    generalize hargs:args.toList=al at hp;generalize htys:tys.toList=tl at hp;rcases al with _|⟨s,_|⟨x,_|⟨y,al⟩⟩⟩<;>rcases tl with _|⟨ty,_|⟨ty',_|⟨ty3,tl⟩⟩⟩<;>try exact pure ho hp hob
    have ha:args = #[s,x]:=by simpa using congrArg f8d hargs
    have hy:tys = #[ty,ty']:=by simpa using congrArg f8d htys
    subst ha;subst hy;simp only at hp;by_cases q:ty=ty'
    ·subst q;rw [if_pos rfl] at hp;cases A;case dck ck om=>exact .inl (f4O h hg hn ho hp hob)
     all_goals exact .inl (e2U (rt:=0) h hg hn ho hp hob)
    ·rw [if_neg q] at hp;cases hp
   case copy=>
    generalize hargs:args.toList=al at hp;generalize htys:tys.toList=tl at hp;rcases al with _|⟨s,_|⟨x,_|⟨y,al⟩⟩⟩<;>rcases tl with _|⟨ty,_|⟨ty',_|⟨ty3,tl⟩⟩⟩<;>try exact pure ho hp hob
    have ha:args = #[s,x]:=by simpa using congrArg f8d hargs
    have hy:tys = #[ty,ty']:=by simpa using congrArg f8d htys
    subst ha;subst hy;exact .inl (f1G h ho hp hob)
   all_goals exact pure ho hp hob
 all_goals
  rw [ho] at hp;exact pure ho hp hob
theorem d3L{e:s8}:∀{us us':List ((Nat×Nat)×s8)} {p:Prop},b3e e us=some (us',p)->p->us'=us
 | [],_,_,h,_=>by cases h
 | [u],us',p,h,hp=>by
  unfold b3e at h;injection h with h;injection h with h1 h2;subst h1;subst h2;have:u.2=e:=hp;subst this;rfl
 | u::u2::us,us',p,h,hp=>by
  unfold b3e at h;split at h<;>try (cases h;done)
  rename_i us1 p1 h1;injection h with h;injection h with h2 h3;subst h2;subst h3;rw [d3L h1 hp]
theorem f0j{d:Option Bool}{o o':B4}(hd:c33 d o=some o')(hob:∀p∈o'.obl,p):(∀p∈o.obl,p)/\o'.new=o.new/\o'.upd=o.upd/\o'.v=o.v:=by
 unfold c33 at hd;split at hd
 ·split at hd<;>try (cases hd;done)
  rename_i d _ x hv;injection hd with hd;subst hd;have hx:x=d:=hob _ (by simp);exact ⟨fun p hp=>hob p (by simp [hp]),rfl,rfl,by simp [hv,hx]⟩
 ·injection hd with hd;subst hd;exact ⟨hob,rfl,rfl,rfl⟩
theorem e2d{v:Option V}{o o':B4}(hd:b6Y v o=some o')(hob:∀p∈o'.obl,p):(∀p∈o.obl,p)/\o'.new=o.new/\o'.upd=o.upd/\o'.v=o.v:=by
 unfold b6Y at hd;split at hd
 ·rename_i v;injection hd with hd;subst hd;have hx:o.v=v:=hob _ (by simp);exact ⟨fun p hp=>hob p (by simp [hp]),rfl,rfl,hx.symm⟩
 ·injection hd with hd;subst hd;exact ⟨hob,rfl,rfl,rfl⟩
theorem e34{e:Option s8}{o o':B4}(hd:b8i e o=some o')(hob:∀p∈o'.obl,p):(∀p∈o.obl,p)/\o'.new=o.new/\o'.upd=o.upd/\o'.v=o.v:=by
 unfold b8i at hd;split at hd
 ·rename_i e;split at hd
  ·rename_i e0 hn;injection hd with hd;subst hd;have hx:e0=e:=hob _ (by simp);exact ⟨fun p hp=>hob p (by simp [hp]),by rw [hn,hx],rfl,rfl⟩
  ·cases hd
  ·split at hd<;>try (cases hd;done)
   rename_i us p h1;injection hd with hd;subst hd;have hx:p:=hob _ (by simp);exact ⟨fun p hp=>hob p (by simp [hp]),rfl,d3L h1 hx,rfl⟩
 ·injection hd with hd;subst hd;exact ⟨hob,rfl,rfl,rfl⟩
theorem e8v{T:L0}{o o':B4}(hd:c0t T o=some o')(hob:∀p∈o'.obl,p):(∀p∈o.obl,p)/\o'.new=o.new/\o'.upd=o.upd/\o'.v=o.v:=by
 unfold c0t at hd;cases h1:b8i T.e o with
 | none=>rw [h1] at hd;cases hd
 | some o1=>
 rw [h1] at hd;simp only at hd;cases h2:b6Y T.v o1 with
 | none=>rw [h2] at hd;cases hd
 | some o2=>
 rw [h2] at hd;obtain ⟨a1,a2,a3,a4⟩:=f0j hd hob;obtain ⟨b1,b2,b3,b4⟩:=e2d h2 a1;obtain ⟨c1,c2,c3,c4⟩:=e34 h1 b1;exact ⟨c1,a2.trans (b2.trans c2),a3.trans (b3.trans c3),a4.trans (b4.trans c4)⟩
def b1d(cx:Cx)(grp:Nat)(ob:Oper)(t:List V)(A:L0):j9 B4:=j9.bind (opM cx grp ob t A.a) fun o=>j9.lift (c0t A o)
theorem d9v{S:St}{grp:Nat}{dst:Option Nat}{o o':B4}(h1:o'.new=o.new)(h2:o'.upd=o.upd)(h3:o'.v=o.v):S.apply grp dst o'=S.apply grp dst o:=by
 unfold St.apply;rw [h1,h2,h3]
theorem d9d(h:u6 Γ F ι S a w){grp:Nat}(hg:grp<S.h.length)(hn:¬S.D grp){ob:Oper}{A:L0}{out:B4}{lg:List (Nat×Nat)}(hp:b1d cx grp ob S.t A S.ent=some (out,lg))(hob:∀p∈out.obl,p):c4m cx.P Γ (S.apply grp ob.dst out) ob a w:=by
 obtain ⟨o,l1,l2,h1,h2,_⟩:=j9.bind_some hp;obtain ⟨h3,_⟩:=j9.lift_some h2;simp only at h3;obtain ⟨h4,h5,h6,h7⟩:=e8v h3 hob;rw [d9v h5 h6 h7];exact e7F h hg hn h1 h4
def a57(ops:Array Oper)(o:Oper)(t:List V):Option Bool:=
 match o.guard with
 | none=>some true
 | some (j,want)=>match (ops[j]?).bind (·.dst) with
  | some d=>match t[d]? with
   | some (.b x)=>some (x==want)
   | some (.tup [])=>some false
   | _=>none
  | none=>none
theorem c6r{ops:Array Oper}{o:Oper}{b:Bool}{D:Nat->Prop}{t:List V}(ht:x9 (RV w F D ι) t a.tmps.toList)(h:a57 ops o t=some b):Region.wanted o (yielded ops a.tmps)=b:=by
 unfold a57 at h;unfold Region.wanted;split at h
 ·rename_i hg;rw [hg];injection h
 ·rename_i j want hg;rw [hg];simp only;cases hd:(ops[j]?).bind (·.dst) with
  | none=>rw [hd] at h;cases h
  | some d=>
   rw [hd] at h;simp only at h;split at h<;>try (cases h;done)
   rename_i x hx;injection h with h;obtain ⟨c,hc,hv⟩:=ht.get hx;obtain rfl:=hv.inv_b;have:yielded ops a.tmps j=some x:=by
    unfold yielded;simp only [hd];rw [Array.getElem?_toList] at hc;simp [hc]
   rw [this,<-h];cases x<;>cases want<;>rfl
   ·rename_i hx;injection h with h;obtain ⟨c,hc,hv⟩:=ht.get hx;have hcc:c=undef:=by
     cases hv with
     | one v c hv=>cases hv with|cell v c hv=>cases hv with|fv v c hv=>cases hv
     | tup cs ds hv=>cases hv;rfl
    subst hcc;have:yielded ops a.tmps j=none:=by
     unfold yielded;simp only [hd];rw [Array.getElem?_toList] at hc;simp [hc,undef]
    rw [this,<-h];rfl
end
structure a0f where
 rd:List (Nat×Nat)
 wr:List (Nat×Nat)
def Z9(cx:Cx)(ops:Array Oper)(base:Nat)(A:Nat->L0)(i:Nat)(S:St):Option (St×List Prop×a0f):=
 match ops[i]? with
 | none=>none
 | some o=>match a57 ops o S.t with
  | some true=>match b1d cx (base+i) o S.t (A i) S.ent with
   | some (out,lg)=>some (S.apply (base+i) o.dst out,out.obl,⟨lg,out.upd.map (·.1)⟩)
   | none=>none
  | some false=>some ({S with t:=R6 S.t o.dst (.tup [])},[],⟨[],[]⟩)
  | none=>none
section
variable {cx:Cx} {Γ:O5} {F:Nat->Prop} {ι:Nat->Nat->Value} {S S':St} {a:Act} {w:World} {ops:Array Oper} {base:Nat} {A:Nat->L0}
theorem e4K{grp:Nat}{dst:Option Nat}{out:B4}{g:Nat}(h:(S.apply grp dst out).D g):S.D g\/g=grp:=by
 unfold St.apply at h;simp only at h;split at h
 ·exact .inl ((a0z S g _).1 h)
 ·rename_i new hnew;by_cases q:g=grp
  ·exact .inr q
  ·left
   obtain ⟨l,hl⟩:=h;simp only [St.lay,f6v (Ne.symm q)] at hl;exact (a0z S g _).1 ⟨l,hl⟩
theorem d7u{grp:Nat}{dst:Option Nat}{out:B4}:(S.apply grp dst out).h.length=S.h.length:=by
 unfold St.apply;simp only;split
 ·exact St.upds_len S _
 ·simp [St.lay,St.upds_len]
theorem c9G{i:Nat}{ps:List Prop}{ft:a0f}(h:Z9 cx ops base A i S=some (S',ps,ft)):(∀g,S'.D g->S.D g\/g=base+i)/\S'.h.length=S.h.length:=by
 unfold Z9 at h;split at h<;>try (cases h;done)
 split at h<;>try (cases h;done)
 ·split at h<;>try (cases h;done)
  injection h with h;injection h with h1 h2;subst h1;exact ⟨fun g x=>e4K x,d7u⟩
 ·injection h with h;injection h with h1 h2;subst h1;exact ⟨fun g x=>.inl x,rfl⟩
theorem d0q{Q:Exit->Act->World->Prop}{K:Act->World->Prop}{i:Nat}{ps:List Prop}{ft:a0f}(h:u6 Γ F ι S a w)(hg:base+i<S.h.length)(hn:¬S.D (base+i))(hs:Z9 cx ops base A i S=some (S',ps,ft))(hob:∀p∈ps,p)(hK:∀a' w' F' ι',u6 Γ F' ι' S' a' w'->K a' w'):wpOp cx.P ops Q i K a w:=by
 unfold Z9 at hs;unfold wpOp;split at hs<;>try (cases hs;done)
 rename_i o ho;rw [ho];simp only;split at hs<;>try (cases hs;done)
 ·rename_i hw;have hwant:=c6r h.tmps hw;rw [hwant];simp only [if_true];split at hs<;>try (cases hs;done)
  rename_i out lg hop;injection hs with hs;injection hs with h1 h2;injection h2 with h2 h3;subst h1;subst h2;left
  unfold Oper.wp;rcases d9d h hg hn hop hob with ⟨nx,c,w',F',ι',hr,hnx,hrel⟩|⟨f,args,hr,hcalls⟩
  ·rw [hr];rcases hnx with rfl|⟨rfl,rfl⟩
   ·exact hK _ _ _ _ hrel
   ·exact hK _ _ _ _ hrel
  ·rw [hr];refine hcalls.mono ?_;rintro e w' ⟨c,F',ι',rfl,hrel⟩
   exact hK _ _ _ _ hrel
 ·rename_i hw;have hwant:=c6r h.tmps hw;rw [hwant];simp only [f7v,if_false];injection hs with hs;injection hs with h1 h2;subst h1;exact hK _ _ _ _ (h.put o.dst (.tup [] [] .nil))
def a1g(cx:Cx)(ops:Array Oper)(base:Nat)(A:Nat->L0):List Nat->St->Option (St×List (List Prop×a0f))
 | [],S=>some (S,[])
 | i::l,S=>match Z9 cx ops base A i S with
  | some (S1,r)=>match a1g cx ops base A l S1 with
   | some (S2,rs)=>some (S2,r::rs)
   | none=>none
  | none=>none
theorem b2w{i:Nat}{l:List Nat}{rs:List (List Prop×a0f)}(h:a1g cx ops base A (i::l) S=some (S',rs)):∃S1 r rs',Z9 cx ops base A i S=some (S1,r)/\a1g cx ops base A l S1=some (S',rs')/\rs=r::rs':=by
 unfold a1g at h;split at h<;>try (cases h;done)
 rename_i S1 r h1;split at h<;>try (cases h;done)
 rename_i S2 rs' h2;injection h with h;injection h with h3 h4;subst h3;subst h4;exact ⟨S1,r,rs',h1,h2,rfl⟩
theorem d2U{Q:Exit->Act->World->Prop}:∀{l:List Nat} {S:St} {F:Nat->Prop} {ι:Nat->Nat->Value} {a:Act} {w:World} {rs:List (List Prop×a0f)},u6 Γ F ι S a w->l.Nodup->(∀i∈l,base+i<S.h.length/\¬S.D (base+i))->a1g cx ops base A l S=some (S',rs)->(∀r∈rs,∀p∈r.1,p)->
  (∀a' w' F' ι',u6 Γ F' ι' S' a' w'->Q .normal a' w')->wpOps cx.P ops Q l a w
 | [],S,F,ι,a,w,rs,h,_,_,hr,_,hQ=>by
  unfold a1g at hr;injection hr with hr;injection hr with h1 h2;subst h1;exact hQ _ _ _ _ h
 | i::l,S,F,ι,a,w,rs,h,hn,hfree,hr,hob,hQ=>by
  obtain ⟨S1,r,rs',h1,h2,rfl⟩:=b2w hr;rw [wpOps_cons];have hn':=f7z.1 hn;obtain ⟨hD,hl⟩:=c9G (ps:=r.1) (ft:=r.2) h1;refine d0q h (hfree i (by simp)).1 (hfree i (by simp)).2 (ps:=r.1) (ft:=r.2) h1 (hob r (by simp)) fun a' w' F' ι' hrel => ?_
  refine d2U hrel hn'.2 (fun j hj => ?_) h2 (fun r' hr'=>hob r' (by simp [hr'])) hQ;refine ⟨by rw [hl];exact (hfree j (by simp [hj])).1,fun x => ?_⟩;rcases hD _ x with y|y
  ·exact (hfree j (by simp [hj])).2 y
  ·have:i=j:=by omega
   exact hn'.1 (this▸hj)
end
def z8{α:Type}(m:j9 α):Prop := ∀(H H':Hp) r lg,m H=some (r,lg)->(∀id∈lg,H' id.1 id.2=H id.1 id.2)->m H'=some (r,lg)
namespace z8
variable {α β:Type}
theorem pure(a:α):z8 (j9.pure a):=fun _ _ _ _ h _=>h
theorem no:z8 (j9.no:j9 α):=fun _ _ _ _ h _=>h
theorem lift(o:Option α):z8 (j9.lift o):=by
 intro H H' r lg h _;unfold j9.lift at h⊢;exact h
theorem rd(g j:Nat):z8 (j9.rd g j):=by
 intro H H' r lg h hH;obtain ⟨h1,h2⟩:=j9.rd_some h;simp only at h1 h2;subst h2;have:=hH (g,j) (by simp);unfold j9.rd;simp only at this;rw [this,h1]
theorem bind{m:j9 α}{f:α->j9 β}(hm:z8 m)(hf:∀a,z8 (f a)):z8 (j9.bind m f):=by
 intro H H' r lg h hH;obtain ⟨a,l,l',h1,h2,h3⟩:=j9.bind_some h;simp only at h2 h3;subst h3;unfold j9.bind;rw [hm H H' a l h1 (fun id hid=>hH id (f6b.2 (.inl hid)))];simp only;rw [hf a H H' r l' h2 (fun id hid=>hH id (f6b.2 (.inr hid)))]
theorem ite{c:Prop}[Decidable c]{m n:j9 α}(hm:z8 m)(hn:z8 n):z8 (if c then m else n):=by
 split<;>assumption
end z8
theorem e2C(ck:Option Nat)(v:V):z8 (fzP ck v):=by
 unfold fzP;cases v<;>try exact z8.no
 case own g j sz lo n=>
  refine .bind (.rd g j) fun e => ?_
  cases e<;>first|exact z8.no|exact .ite (.pure _) .no
 case nil=>cases ck<;>exact .pure _
 all_goals exact .pure _
theorem c0y:∀(vs:List V) (ck:List (Option Nat)),z8 (b27 ck vs)
 | [],ck=>by cases ck<;>exact .pure _
 | v::vs,ck=>.bind (e2C _ _) fun x=>.bind (c0y vs _) fun y=>.pure _
theorem e5M(cx:Cx)(ty:Nat)(x:V)(A:O3):z8 (b1V cx ty x A):=by
 unfold b1V;cases cx.T ty with
 | none=>exact .no
 | some ti=>
  cases x<;>try exact z8.no
  case ptr g j off=>
   refine .bind (.rd g j) fun e => ?_
   cases e<;>try exact z8.no
   case var e cs=>simp only;cases S0 ti (cs.drop off)<;>first|exact .no|exact .pure _
   case arr e sz n rows=>exact .ite (.pure _) .no
  case eptr g j sz idx off=>
   refine .bind (.rd g j) fun e => ?_
   cases A<;>try exact z8.no
   case row r=>
    simp only;cases S0 ti (r.drop off) with
    | none=>exact .no
    | some v=>cases e<;>first|exact z8.no|exact .ite (.pure _) .no
  case fptr cs=>simp only;cases S0 ti cs<;>first|exact .no|exact .pure _
theorem d9x(cx:Cx)(ty:Nat)(x y:V)(A:O3):z8 (b4M cx ty x y A):=by
 unfold b4M;cases cx.T ty with
 | none=>exact .no
 | some ti=>
  cases y.cells with
  | none=>exact .no
  | some vs=>
   cases x<;>try exact z8.no
   case ptr g j off=>
    refine .bind (.rd g j) fun e => ?_
    cases e<;>first|exact z8.no|exact .ite (.pure _) .no
   case eptr g j sz idx off=>
    refine .bind (.rd g j) fun e => ?_
    cases A<;>try exact z8.no
    case rowck r ck=>
     refine .bind (c0y _ _) fun f => ?_
     cases e<;>first|exact z8.no|exact .ite (.pure _) .no
theorem d4C(pt:Bool)(x:V):z8 (a9T pt x):=by
 unfold a9T;cases x<;>try first|exact z8.no|exact z8.pure _
 case own g j sz lo n=>
  refine .bind (.rd g j) fun e => ?_
  cases e<;>first|exact z8.no|exact .ite (.pure _) .no
theorem d9B(pt:Bool)(cx:Cx)(grp ty:Nat)(s x:V):z8 (b0k pt cx grp ty s x):=by
 unfold b0k;cases cx.T ty with
 | none=>exact .no
 | some ti=>
  simp only;cases ti.sl with
  | none=>exact .no
  | some e=>
   simp only;cases cx.T e with
   | none=>exact .no
   | some ei=>
    refine .bind (d4C _ x) fun q=>.ite ?_ .no
    cases s<;>try first|exact z8.no|exact z8.pure _
    case own g j sz lo n=>
     cases lo with
     | succ k=>exact .no
     | zero=>
      refine .bind (.rd g j) fun e => ?_
      cases e<;>first|exact z8.no|exact .ite (.pure _) .no
theorem e2p(cx:Cx)(ty:Nat)(s x:V):z8 (b32 cx ty s x):=by
 unfold b32;cases cx.T ty with
 | none=>exact .no
 | some ti=>
  simp only;cases ti.sl with
  | none=>exact .no
  | some e=>
   simp only;cases cx.T e with
   | none=>exact .no
   | some ei=>
    refine .bind (d4C _ x) fun q => ?_
    cases s<;>try exact z8.no
    case own g j sz lo n=>
     cases lo with
     | succ k=>exact .no
     | zero=>
      refine .bind (.rd g j) fun e => ?_
      cases e<;>first|exact z8.no|exact .ite (.pure _) .no
theorem c7I(ck:List (Option Nat)):∀ps:List (Nat×V),z8 (b0D ck ps)
 | []=>.pure _
 | (i,v)::ps=>by
  unfold b0D;cases v.cells with
  | none=>exact .no
  | some cs=>exact .bind (c0y _ _) fun x=>.bind (c7I ck ps) fun y=>.pure _
theorem f4q(cx:Cx)(grp ty len:Nat)(parts:List (Nat×V))(A:O3):z8 (b4q cx grp ty len parts A):=by
 unfold b4q;cases cx.T ty with
 | none=>exact .no
 | some ti=>
  simp only;cases ti.sl with
  | none=>exact .no
  | some e=>
   simp only;cases cx.T e with
   | none=>exact .no
   | some ei=>
    cases A<;>try exact z8.no
    case ck ck=>
     refine .bind (c7I _ _) fun q => ?_
     cases a50 ei.size (f6a len ei.zero) q.1 with
     | none=>exact .no
     | some rows=>exact .ite (.pure _) .no
theorem d07(ck om:Option Nat)(v:V):z8 (S6 ck om v):=by
 unfold S6;cases om with
 | some e=>
  refine .ite (.pure _) ?_;cases v<;>try first|exact z8.no|exact z8.pure _
  case own g j sz lo n=>
   cases lo with
   | succ k=>exact .no
   | zero=>
    refine .bind (.rd g j) fun e => ?_
    cases e<;>first|exact z8.no|exact .ite (.pure _) .no|(rename_i o _ _ _ _;cases o<;>first|exact z8.no|exact .ite (.pure _) .no)
 | none=>
  cases v<;>try first|exact z8.no|exact z8.pure _
  case own g j sz lo n=>
   refine .bind (.rd g j) fun e => ?_
   cases e<;>first|exact z8.no|exact .ite (.pure _) .no|(rename_i o _ _ _ _;cases o<;>first|exact z8.no|exact .ite (.pure _) .no)
  case nil=>cases ck<;>exact .pure _
theorem b02:∀(vs:List V) (ck om:List (Option Nat)),z8 (a2a ck om vs)
 | [],ck,om=>by cases ck<;>cases om<;>exact .pure _
 | v::vs,ck,om=>.bind (d07 _ _ _) fun x=>.bind (b02 vs _ _) fun y=>.pure _
theorem f08(m:PM)(v:V):z8 (a1w m v):=by
 unfold a1w;cases m with
 | val ck om=>
  cases v<;>try first|exact z8.no|exact d07 _ _ _
  case agg cs=>exact .bind (b02 _ _ _) fun x=>.pure _
 | ptr ck om=>
  cases v<;>try exact z8.no
  case ptr g j off=>
   cases off with
   | succ k=>exact .no
   | zero=>
    refine .bind (.rd g j) fun e => ?_
    cases e<;>try exact z8.no
    case var e cs=>exact .bind (b02 _ _ _) fun x=>.pure _
 | row=>
  cases v<;>try exact z8.no
  case own g j sz lo n=>
   cases lo with
   | succ k=>exact .no
   | zero=>
    refine .bind (.rd g j) fun e => ?_
    cases e<;>first|exact z8.no|exact .ite (.pure _) .no|(rename_i o _ _ _ _;cases o<;>first|exact z8.no|exact .ite (.pure _) .no)
 | part=>
  cases v<;>try exact z8.no
  case own g j sz lo n=>
   refine .bind (.rd g j) fun e => ?_
   cases e<;>first|exact z8.no|exact .ite (.pure _) .no|(rename_i o _ _ _ _;cases o<;>first|exact z8.no|exact .ite (.pure _) .no)
theorem d0D:∀(vs:List V) (ms:List PM),z8 (a12 ms vs)
 | [],ms=>by cases ms<;>exact .pure _
 | v::vs,[]=>.no
 | v::vs,m::ms=>.bind (f08 m v) fun x=>.bind (d0D vs ms) fun y=>.pure _
theorem c4o:∀ids:List (Nat×Nat),z8 (a45 ids)
 | []=>.pure _
 | (g,j)::ids=>by
  unfold a45;refine .bind (.rd g j) fun e => ?_
  cases e<;>try exact z8.no
  case row t sz n rows=>exact .bind (c4o ids) fun us=>.pure _
  case deep o t sz n rows=>
   cases o
   ·exact .bind (c4o ids) fun us=>.pure _
   ·exact .no
theorem c9L(grp:Nat)(args:List V)(ms:List PM)(fr:Bool)(res:V)(outs:List (Option V))(p:List V->Prop):z8 (a7s grp args ms fr res outs p):=by
 unfold a7s;refine .bind (d0D _ _) fun r=>.bind (c4o _) fun fz => ?_
 simp only;cases R0 grp (I0 grp 0 res).2.length ms args outs with
 | none=>exact .no
 | some ue=>exact .ite (.pure _) .no
theorem e3c(P:Program)(grp f:Nat)(args:List V)(A:O3):z8 (b14 P grp f args A):=by
 unfold b14;cases A<;>try exact z8.no
 case call ms fr res outs=>exact c9L _ _ _ _ _ _ _
 case callr k q ms fr res outs=>
  simp only;split
  ·split
   ·exact .bind (c9L _ _ _ _ _ _ _) fun o=>.pure _
   ·exact .no
  ·exact .no
theorem c68(cx:Cx)(ty:Nat)(x y:V)(r:List V)(ck om:List (Option Nat)):z8 (a9v cx ty x y r ck om):=by
 unfold a9v;cases cx.T ty with
 | none=>exact .no
 | some ti=>
  cases y.cells with
  | none=>exact .no
  | some vs=>
   cases x<;>try exact z8.no
   case eptr g j sz idx off=>
    refine .bind (.rd g j) fun e=>.bind (b02 _ _ _) fun f => ?_
    cases e<;>try exact z8.no
    exact .ite (.pure _) .no
theorem f1s(cx:Cx)(grp ty:Nat)(x:V)(r:List V):z8 (b4D cx grp ty x r):=by
 unfold b4D;cases cx.T ty with
 | none=>exact .no
 | some ti=>
  cases x<;>try exact z8.no
  case eptr g j sz idx off=>
   refine .bind (.rd g j) fun e => ?_
   cases e<;>try exact z8.no
   simp only;refine .ite ?_ .no;cases S0 ti (K8 grp 0 ((r.drop off).take (if ti.agg=true then ti.size else 1))).1 with
   | none=>exact .no
   | some v=>exact .pure _
theorem d9Z(cx:Cx)(grp ty:Nat)(x:V)(r:List V):z8 (b2d cx grp ty x r):=by
 unfold b2d;cases cx.T ty with
 | none=>exact .no
 | some ti=>
  cases x<;>try exact z8.no
  case eptr g j sz idx off=>
   refine .bind (.rd g j) fun e => ?_
   cases e<;>try exact z8.no
   simp only;refine .ite ?_ .no;cases S0 ti (K8 grp 0 ((r.drop off).take (if ti.agg=true then ti.size else 1))).1 with
   | none=>exact .no
   | some v=>exact .pure _
theorem e1X(cx:Cx)(ty:Nat)(x y:V)(r:List V)(ck om:List (Option Nat)):z8 (b4l cx ty x y r ck om):=by
 unfold b4l;refine .bind (c68 _ _ _ _ _ _ _) fun o => ?_
 split
 ·exact .bind (.rd _ _) fun _=>.pure _
 ·exact .no
theorem e3h(cx:Cx)(ty:Nat)(x:V)(r:List V):z8 (b3B cx ty x r):=by
 unfold b3B;cases cx.T ty with
 | none=>exact .no
 | some ti=>
  cases x<;>try exact z8.no
  case eptr g j sz idx off=>
   refine .bind (.rd g j) fun e => ?_
   cases e<;>try exact z8.no
   simp only;refine .ite ?_ .no;cases S0 ti ((r.drop off).take (if ti.agg=true then ti.size else 1)) with
   | none=>exact .no
   | some v=>exact .pure _
theorem e4z(cx:Cx)(grp ty:Nat)(l c:V)(ck om:List (Option Nat)):z8 (b4B cx grp ty l c ck om):=by
 unfold b4B;cases cx.T ty with
 | none=>exact .no
 | some ti=>
  simp only;cases ti.sl with
  | none=>exact .no
  | some e=>
   simp only;cases cx.T e with
   | none=>exact .no
   | some ei=>
    cases l<;>try exact z8.no
    cases c<;>try exact z8.no
    exact .bind (b02 _ _ _) fun f=>.ite (.pure _) .no
theorem d9f(cx:Cx)(grp ty len:Nat)(parts:List (Nat×V))(ck om:List (Option Nat)):z8 (b2J cx grp ty len parts ck om):=by
 unfold b2J;cases cx.T ty with
 | none=>exact .no
 | some ti=>
  simp only;cases ti.sl with
  | none=>exact .no
  | some e=>
   simp only;cases cx.T e with
   | none=>exact .no
   | some ei=>
    simp only;split
    ·split
     ·exact .bind (b02 _ _ _) fun f=>.ite (.pure _) .no
     ·exact .no
    ·exact .ite (.pure _) .no
    ·exact .no
theorem d7P(cx:Cx)(grp ty:Nat)(s x:V):z8 (b3O cx grp ty s x):=by
 unfold b3O;cases cx.T ty with
 | none=>exact .no
 | some ti=>
  simp only;cases ti.sl with
  | none=>exact .no
  | some e=>
   simp only;cases cx.T e with
   | none=>exact .no
   | some ei=>
    simp only;split
    ·refine .bind (.rd _ _) fun e2 => ?_
     split
     ·refine .ite ?_ .no;split
      ·exact .pure _
      ·refine .bind (.rd _ _) fun e1 => ?_
       split
       ·exact .ite (.pure _) .no
       ·exact .no
      ·exact .no
     ·exact .no
    ·exact .no
theorem e5T(cx:Cx)(ty:Nat)(x ix:V):z8 (b4i cx ty x ix):=by
 unfold b4i;cases cx.M ty with
 | none=>exact .no
 | some q=>
  obtain ⟨kt,m,z⟩:=q;cases x<;>try exact z8.no
  cases ix<;>try exact z8.no
  rename_i g j ks;simp only;cases a2x ks with
  | none=>exact .no
  | some xs=>
   refine .bind (.rd g j) fun e => ?_
   cases e<;>try exact z8.no
   exact .ite (.pure _) .no
theorem e3s(cx:Cx)(ty:Nat)(x ix y:V):z8 (b4n cx ty x ix y):=by
 unfold b4n;cases cx.M ty with
 | none=>exact .no
 | some q=>
  obtain ⟨kt,m,z⟩:=q;cases x<;>try exact z8.no
  cases ix<;>try exact z8.no
  rename_i g j ks;simp only;cases a2x ks with
  | none=>exact .no
  | some xs=>
   refine .bind (.rd g j) fun e => ?_
   cases e<;>try exact z8.no
   exact .ite (.pure _) .no
theorem e8Z(cx:Cx)(grp:Nat)(ob:Oper)(t:List V)(A:O3):z8 (opM cx grp ob t A):=by
 unfold opM;cases ob.op<;>try exact z8.lift _
 case buildSlice ty len parts=>cases A<;>first|exact d9f _ _ _ _ _ _ _|exact f4q _ _ _ _ _ _
 case makeSlice ty l c=>cases A<;>first|exact e4z _ _ _ _ _ _ _|exact z8.lift _
 case load ty x=>cases A<;>first|exact f1s _ _ _ _ _|exact d9Z _ _ _ _ _|exact e3h _ _ _ _|exact e5M _ _ _ _
 case store ty x y=>
  cases ob.dst
  ·cases A<;>first|exact c68 _ _ _ _ _ _ _|exact e1X _ _ _ _ _ _ _|exact d9x _ _ _ _ _
  ·exact .no
 case makeMap ty r=>cases r<;>exact z8.lift _
 case lookup ty x ix ok=>cases ok<;>first|exact e5T _ _ _ _|exact z8.lift _
 case mapUpdate ty x ix y=>
  cases ob.dst
  ·exact e3s _ _ _ _ _
  ·exact .no
 case call c=>
  obtain ⟨callee,args,tys⟩:=c;simp only;split
  ·refine .ite ?_ .no;cases A<;>first|exact d7P _ _ _ _ _|exact d9B _ _ _ _ _ _
  ·exact e2p _ _ _ _
  ·cases t7 t _<;>first|exact e3c _ _ _ _ _|exact z8.no
  ·exact .lift _
theorem e6B(cx:Cx)(grp:Nat)(ob:Oper)(t:List V)(A:L0):z8 (b1d cx grp ob t A):=.bind (e8Z _ _ _ _ _) fun o=>.lift _
theorem d5z{t t':List V}:∀{xs:List Operand},(∀x∈xs,t7 t' x=t7 t x)->xs.map (t7 t')=xs.map (t7 t)
 | [],_=>rfl
 | x::xs,h=>by simp only [f6L];rw [h x (by simp),d5z fun y hy=>h y (by simp [hy])]
theorem c10{t t':List V}:∀{ps:List (Nat×Operand)},(∀x∈ps.map (·.2),t7 t' x=t7 t x)->(ps.map fun (i,x)=>(i,t7 t' x))=(ps.map fun (i,x)=>(i,t7 t x))
 | [],_=>rfl
 | p::ps,h=>by
  simp only [f6L];rw [h p.2 (by simp),c10 fun y hy=>h y (by simp [hy])]
theorem d3Q{t t':List V}{o:Option Operand}(h:∀x∈o.toList,t7 t' x=t7 t x):o.map (t7 t')=o.map (t7 t):=by
 cases o with
 | none=>rfl
 | some x=>simp only [f7u];rw [h x (by simp)]
theorem f2y{cx:Cx}{op:Op}{t t':List V}{A:O3}(h:∀x∈op.operands.toList,t7 t' x=t7 t x):R4 cx op t' A=R4 cx op t A:=by
 cases op<;>try rfl
 case makeFunc fn first captured=>cases fn<;>rfl
 case move x=>simp only [R4];rw [h x (by simp [Op.operands])]
 case assign x=>simp only [R4];rw [h x (by simp [Op.operands])]
 case pick c x y=>simp only [R4];rw [h c (by simp [Op.operands]),h x (by simp [Op.operands]),h y (by simp [Op.operands])]
 case nilCheck x=>simp only [R4];rw [h x (by simp [Op.operands])]
 case binOp o ty x y ty'=>simp only [R4];rw [h x (by simp [Op.operands]),h y (by simp [Op.operands])]
 case unOp o ty x=>simp only [R4];rw [h x (by simp [Op.operands])]
 case convert s d x=>simp only [R4];rw [h x (by simp [Op.operands])]
 case extract x k=>simp only [R4];rw [h x (by simp [Op.operands])]
 case field ty x f=>simp only [R4];rw [h x (by simp [Op.operands])]
 case fieldAddr ty x f=>simp only [R4];rw [h x (by simp [Op.operands])]
 case build ty parts=>simp only [R4];rw [c10 (by simpa [Op.operands] using h)]
 case indexAddr ty x y=>simp only [R4];rw [h x (by simp [Op.operands]),h y (by simp [Op.operands])]
 case index ty x y=>simp only [R4];rw [h x (by simp [Op.operands]),h y (by simp [Op.operands])]
 case slice ty x lo hi mx=>
  cases mx with
  | some m=>rfl
  | none=>
   simp only [R4];rw [h x (by simp [Op.operands]),d3Q (o:=lo) (fun y hy=>h y (by simp [Op.operands] at hy⊢;simp [hy])),d3Q (o:=hi) (fun y hy=>h y (by simp [Op.operands] at hy⊢;simp [hy]))]
 case call c=>
  obtain ⟨callee,args,tys⟩:=c;simp only [R4];cases callee with
  | value x=>rfl
  | invoke x m=>rfl
  | builtin b=>
   have ha:∀x∈args.toList,t7 t' x=t7 t x:=fun x hx=>h x (by simpa [Op.operands,Call.operands] using hx)
   cases b<;>try rfl
   all_goals
    generalize args.toList=al at ha;generalize tys.toList=tl;rcases al with _|⟨s,_|⟨x,_|⟨y,al⟩⟩⟩<;>rcases tl with _|⟨ty,_|⟨ty',tl⟩⟩<;>try rfl
    all_goals simp only [ha s (by simp)]
    all_goals try simp only [ha x (by simp)]
theorem e4W{cx:Cx}{grp:Nat}{ob:Oper}{t t':List V}{A:O3}(h:∀x∈ob.op.operands.toList,t7 t' x=t7 t x):opM cx grp ob t' A=opM cx grp ob t A:=by
 have hp:=f2y (cx:=cx) (A:=A) h;unfold opM;cases ho:ob.op<;>rw [ho] at h hp<;>simp only [hp]
 case box e x=>rw [h x (by simp [Op.operands])]
 case buildSlice ty len parts=>rw [c10 (by simpa [Op.operands] using h)]
 case makeSlice ty l c=>rw [h l (by simp [Op.operands]),h c (by simp [Op.operands])]
 case load ty x=>rw [h x (by simp [Op.operands])]
 case store ty x y=>rw [h x (by simp [Op.operands]),h y (by simp [Op.operands])]
 case makeMap ty r=>cases r<;>simp only [hp]
 case lookup ty x ix ok=>
  have h1:=h x (by simp [Op.operands]);have h2:=h ix (by simp [Op.operands]);cases ok<;>simp only [hp,h1,h2]
 case mapUpdate ty x ix y=>rw [h x (by simp [Op.operands]),h ix (by simp [Op.operands]),h y (by simp [Op.operands])]
 case call c=>
  obtain ⟨callee,args,tys⟩:=c;cases callee with
  | invoke x m=>rfl
  | value fop=>
   have h1:t7 t' fop=t7 t fop:=h fop (by simp [Op.operands,Call.operands]);have h2:args.toList.map (t7 t')=args.toList.map (t7 t):=d5z fun x hx=>h x (by simp [Op.operands,Call.operands] at hx⊢;simp [hx])
   simp only [h1,h2]
  | builtin b=>
   have ha:∀x∈args.toList,t7 t' x=t7 t x:=fun x hx=>h x (by simpa [Op.operands,Call.operands] using hx)
   cases b<;>try rfl
   all_goals
    generalize args.toList=al at ha;generalize tys.toList=tl;rcases al with _|⟨s,_|⟨x,_|⟨y,al⟩⟩⟩<;>rcases tl with _|⟨ty,_|⟨ty',_|⟨ty3,tl⟩⟩⟩<;>try rfl
    all_goals simp only [ha s (by simp),ha x (by simp)]
theorem d6E{t:List V}{dst:Option Nat}{v:V}{x:Operand}(h:∀d,dst=some d->x ≠ .tmp d):t7 (R6 t dst v) x=t7 t x:=by
 cases dst with
 | none=>rfl
 | some d=>
  cases x with
  | tmp k=>
   have:d≠k:=fun q=>h d rfl (by rw [q])
   simp [t7,R6,f6v this]
  | _=>rfl
theorem e0U{S:St}{g j g' j':Nat}{e e':s8}(h:¬(g=g'/\j=j')):(S.setE g j e).setE g' j' e'=(S.setE g' j' e').setE g j e:=by
 by_cases q:g=g'
 ·subst q;have hj:j≠j':=fun z=>h ⟨rfl,z⟩
  cases hx:S.h[g]? with
  | none=>unfold St.setE;simp [hx]
  | some o=>cases o with
   | none=>unfold St.setE;simp [hx]
   | some l=>
    have hlt:=(f6g.1 hx).1;rw [a3A hx,a3A hx,a3A (l:=l.set j e) (by simp [hlt]),a3A (l:=l.set j' e') (by simp [hlt])];simp only [List.set_set];rw [List.set_comm _ _ hj]
 ·unfold St.setE;cases hx:S.h[g]? with
  | none=>
   cases hy:S.h[g']? with
   | none=>simp [hx,hy]
   | some o=>cases o with
    | none=>simp [hx,hy]
    | some l=>simp [hx,hy,f6v (Ne.symm q)]
  | some o=>cases o with
   | none=>
    cases hy:S.h[g']? with
    | none=>simp [hx,hy]
    | some o=>cases o with
     | none=>simp [hx,hy]
     | some l=>simp [hx,hy,f6v (Ne.symm q)]
   | some l=>
    cases hy:S.h[g']? with
    | none=>simp [hx,hy,f6v q]
    | some o=>cases o with
     | none=>simp [hx,hy,f6v q]
     | some l'=>simp [hx,hy,f6v q,f6v (Ne.symm q),List.set_comm _ _ q]
theorem c6h{g j:Nat}{e:s8}:∀{us:List O8} {S:St},(∀u∈us,¬(g=u.1.1/\j=u.1.2))->(S.setE g j e).upds us=(S.upds us).setE g j e
 | [],_,_=>rfl
 | ((g',j'),e')::us,S,h=>by
  simp only [St.upds];rw [e0U (h ((g',j'),e') (by simp)),c6h fun u hu=>h u (by simp [hu])]
theorem b2H:∀{us vs:List O8} {S:St},(∀u∈us,∀v∈vs,u.1≠v.1)->(S.upds us).upds vs=(S.upds vs).upds us
 | [],_,_,_=>rfl
 | ((g,j),e)::us,vs,S,h=>by
  simp only [St.upds];rw [b2H fun u hu=>h u (by simp [hu]),c6h fun v hv q=>h ((g,j),e) (by simp) v hv (Prod.ext q.1 q.2)]
theorem e40{S:St}{g g':Nat}{n n':List s8}(h:g≠g'):(S.lay g n).lay g' n'=(S.lay g' n').lay g n:=by
 simp [St.lay,List.set_comm _ _ h]
theorem f3I{t:List V}{d d':Option Nat}{v v':V}(h:∀k,d=some k->d'≠some k):R6 (R6 t d v) d' v'=R6 (R6 t d' v') d v:=by
 cases d with
 | none=>rfl
 | some k=>cases d' with
  | none=>rfl
  | some k'=>
   have:k≠k':=fun q=>h k rfl (by rw [q])
   simp [R6,List.set_comm _ _ this]
def a4f(S:St)(t:List V):St:={S with t:=t}
def hp(S:St)(grp:Nat)(o:B4):St:=match o.new with
 | none=>S.upds o.upd
 | some new=>(S.upds o.upd).lay grp new
theorem c1o(S:St)(grp:Nat)(dst:Option Nat)(o:B4):S.apply grp dst o=a4f (hp S grp o) (R6 S.t dst o.v):=by
 unfold St.apply hp a4f;cases o.new with
 | none=>simp only [St.upds_t]
 | some new=>simp only [St.lay,St.upds_t]
theorem e1o(S:St)(t:List V)(g j:Nat)(e:s8):(a4f S t).setE g j e=a4f (S.setE g j e) t:=by
 unfold a4f St.setE;simp only;split<;>rfl
theorem c2A(t:List V):∀(us:List O8) (S:St),(a4f S t).upds us=a4f (S.upds us) t
 | [],_=>rfl
 | ((g,j),e)::us,S=>by simp only [St.upds];rw [e1o,c2A]
theorem d7S(S:St)(t:List V)(grp:Nat)(o:B4):hp (a4f S t) grp o=a4f (hp S grp o) t:=by
 unfold hp;cases o.new with
 | none=>simp only [c2A]
 | some new=>simp only [c2A];rfl
theorem e3d{S:St}{g g':Nat}{o o':B4}(hg:g≠g')(h1:∀u∈o.upd,∀v∈o'.upd,u.1≠v.1)(h2:∀u∈o.upd,u.1.1≠g')(h3:∀u∈o'.upd,u.1.1≠g):hp (hp S g o) g' o'=hp (hp S g' o') g o:=by
 unfold hp;cases o.new with
 | none=>cases o'.new with
  | none=>simp only;exact b2H h1
  | some n'=>simp only;rw [<-b0p o.upd _ h2,b2H h1]
 | some n=>cases o'.new with
  | none=>simp only;rw [<-b0p o'.upd _ h3,b2H h1]
  | some n'=>
   simp only;rw [<-b0p o'.upd _ h3,<-b0p o.upd _ h2,b2H h1,e40 hg]
theorem e0t{S:St}{grp:Nat}{o:B4}{g j:Nat}(h1:g≠grp)(h2:∀u∈o.upd,u.1≠(g,j)):(hp S grp o).ent g j=S.ent g j:=by
 have:(S.upds o.upd).ent g j=S.ent g j:=by
  refine b6h ?_;unfold b09;rw [f6e];intro u hu;have:=h2 u hu;simp only [f6J,Bool.and_eq_false_iff,beq_eq_false_iff_ne];by_cases q:g=u.1.1
  ·right
   intro z;exact this (Prod.ext q.symm z.symm)
  ·exact .inl q
 unfold hp;cases o.new with
 | none=>exact this
 | some new=>simp only;rw [a7J h1];exact this
section
variable {cx:Cx} {ops:Array Oper} {base:Nat} {A:Nat->L0}
theorem c8h{i:Nat}{S S':St}{ps:List Prop}{ft:a0f}(h:Z9 cx ops base A i S=some (S',ps,ft)):∃o out,ops[i]?=some o/\S'=S.apply (base+i) o.dst out/\ft.wr=out.upd.map (·.1)/\
  ∀T:St,(∀x∈o.op.operands.toList,t7 T.t x=t7 S.t x)->a57 ops o T.t=a57 ops o S.t->(∀id∈ft.rd,T.ent id.1 id.2=S.ent id.1 id.2)->Z9 cx ops base A i T=some (T.apply (base+i) o.dst out,ps,ft):=by
 unfold Z9 at h;split at h<;>try (cases h;done)
 rename_i o ho;split at h<;>try (cases h;done)
 ·rename_i hw;split at h<;>try (cases h;done)
  rename_i out lg hop;injection h with h;injection h with h1 h2;injection h2 with h2 h3;subst h1;subst h2;subst h3;refine ⟨o,out,ho,rfl,rfl,?_⟩;intro T hx hwT hent;have hst:b1d cx (base+i) o T.t (A i)=b1d cx (base+i) o S.t (A i):=by
   unfold b1d;rw [e4W hx]
  have:=e6B cx (base+i) o S.t (A i) S.ent T.ent out lg hop hent;unfold Z9;rw [ho];simp only [hwT,hw,hst,this]
 ·rename_i hw;injection h with h;injection h with h1 h2;injection h2 with h2 h3;subst h1;subst h2;subst h3;refine ⟨o,{v:=.tup []},ho,rfl,rfl,?_⟩;intro T hx hwT hent;unfold Z9;rw [ho];simp only [hwT,hw];rfl
structure Ind(ops:Array Oper)(base:Nat)(x i:Nat)(f1 f2:a0f):Prop where
 ne:x≠i
 apart:∀o1 o2,ops[x]?=some o1->ops[i]?=some o2->o1.apart ops o2=true
 w1:∀id∈f1.wr,id ∉ f2.rd/\id ∉ f2.wr
 w2:∀id∈f2.wr,id ∉ f1.rd
 g1:∀id∈f2.rd++f2.wr,id.1≠base+x
 g2:∀id∈f1.rd++f1.wr,id.1≠base+i
theorem d00{o:Oper}{x:Operand}(hx:x∈o.op.operands.toList){d:Nat}(hd:d ∉ o.looksAt ops):x ≠ .tmp d:=by
 intro q;subst q;apply hd;unfold Oper.looksAt;exact f6b.2 (.inl (List.mem_filterMap.2 ⟨_,hx,rfl⟩))
theorem c7m{o:Oper}{t:List V}{dst:Option Nat}{v:V}(hd:∀d,dst=some d->d ∉ o.looksAt ops):a57 ops o (R6 t dst v)=a57 ops o t:=by
 unfold a57;split
 ·rfl
 ·rename_i j want hg;cases hj:(ops[j]?).bind (·.dst) with
  | none=>rfl
  | some d=>
   simp only;cases dst with
   | none=>rfl
   | some k=>
    have hk:k≠d:=by
     intro q;subst q;apply hd k rfl;unfold Oper.looksAt;rw [hg];exact f6b.2 (.inr (by simp [hj]))
    simp only [R6,f6v hk]
theorem b9F{S:St}{grp:Nat}{dst:Option Nat}{o:B4}:(S.apply grp dst o).t=R6 S.t dst o.v:=by rw [c1o];rfl
theorem d2O{S:St}{grp:Nat}{dst:Option Nat}{o:B4}{g j:Nat}(h1:g≠grp)(h2:(g,j) ∉ o.upd.map (·.1)):(S.apply grp dst o).ent g j=S.ent g j:=by
 rw [c1o];show (hp S grp o).ent g j=_
 exact e0t h1 fun u hu q=>h2 (f6G.2 ⟨u,hu,q⟩)
theorem e8o{x i:Nat}{S S1 S2:St}{p1 p2:List Prop}{f1 f2:a0f}(hx:Z9 cx ops base A x S=some (S1,p1,f1))(hi:Z9 cx ops base A i S1=some (S2,p2,f2))(h:Ind ops base x i f1 f2) :
  ∃S1',Z9 cx ops base A i S=some (S1',p2,f2)/\Z9 cx ops base A x S1'=some (S2,p1,f1):=by
 obtain ⟨o1,out1,ho1,rfl,hw1,hr1⟩:=c8h hx;obtain ⟨o2,out2,ho2,rfl,hw2,hr2⟩:=c8h hi;obtain ⟨a1,a2,a3⟩:=Oper.apart_spec (h.apart o1 o2 ho1 ho2);have e1:=hr2 S (fun z hz=>by rw [b9F,d6E fun d hd=>d00 (ops:=ops) hz (a1 d hd)]) (by rw [b9F,c7m a1]) (fun id hid=>by
  refine (d2O (h.g1 id (f6b.2 (.inl hid))) ?_).symm;rw [<-hw1];exact fun q=>(h.w1 id q).1 hid)
 refine ⟨_,e1,?_⟩;have e2:=hr1 (S.apply (base+i) o2.dst out2) (fun z hz=>by rw [b9F,d6E fun d hd=>d00 (ops:=ops) hz (a3 d hd)]) (by rw [b9F,c7m a3]) (fun id hid=>by
  refine d2O (h.g2 id (f6b.2 (.inl hid))) ?_;rw [<-hw2];exact fun q=>h.w2 id q hid)
 rw [e2];congr 2
 simp only [c1o,d7S];have hh:hp (hp S (base+x) out1) (base+i) out2=hp (hp S (base+i) out2) (base+x) out1:=by
  refine e3d (fun q=>h.ne (by omega)) ?_ ?_ ?_
  ·intro u hu v hv q;have m1:u.1∈f1.wr:=by rw [hw1];exact f6G.2 ⟨u,hu,rfl⟩
   have m2:v.1∈f2.wr:=by rw [hw2];exact f6G.2 ⟨v,hv,rfl⟩
   exact (h.w1 _ m1).2 (q▸m2)
  ·intro u hu;exact h.g2 _ (f6b.2 (.inr (by rw [hw1];exact f6G.2 ⟨u,hu,rfl⟩)))
  ·intro u hu;exact h.g1 _ (f6b.2 (.inr (by rw [hw2];exact f6G.2 ⟨u,hu,rfl⟩)))
 rw [hh];unfold a4f;simp only;rw [f3I (fun k hk q=>a2 k hk q)]
abbrev Rc:=Nat->List Prop×a0f
theorem c6q{rc:Rc}{i:Nat}:∀{l m:List Nat} {S S':St},(∀x∈l,Ind ops base x i (rc x).2 (rc i).2)->a1g cx ops base A (l++i::m) S=some (S',(l++i::m).map rc)->a1g cx ops base A (i::(l++m)) S=some (S',(i::(l++m)).map rc)
 | [],m,S,S',_,h=>h
 | x::l,m,S,S',hind,h=>by
  obtain ⟨S1,r,rs,h1,h2,h3⟩:=b2w h;simp only [f7V,f6L] at h3;injection h3 with h3 h4;subst h3;subst h4;have h5:=c6q (fun y hy=>hind y (by simp [hy])) h2;obtain ⟨S2,r2,rs2,h6,h7,h8⟩:=b2w h5;simp only [f6L] at h8;injection h8 with h8 h9;subst h8;subst h9;obtain ⟨S1',e1,e2⟩:=e8o (p1:=(rc x).1) (f1:=(rc x).2) (p2:=(rc i).1) (f2:=(rc i).2) h1 h6 (hind x (by simp));have e2':Z9 cx ops base A x S1'=some (S2,rc x):=e2;have e1':Z9 cx ops base A i S=some (S1',rc i):=e1;simp only [f7V,a1g,e1',e2',h7,f6L]
end
def a3G(ops:Array Oper)(i:Nat):List Nat:=
 match ops[i]? with
 | some o=>(o.after.toList.filter (Region.binds .any)).map (·.on)
 | none=>[]
def a30(ops:Array Oper):Nat->List (List Nat)
 | 0=>[]
 | k+1=>let L:=a30 ops k;L++[(a3G ops k).flatMap fun e=>e::L.getD e []]
def a8H(ops:Array Oper)(i:Nat):List Nat:=(a30 ops (i+1)).getD i []
theorem a7m(ops:Array Oper):∀k,(a30 ops k).length=k
 | 0=>rfl
 | k+1=>by simp [a30,a7m ops k]
theorem c3c(ops:Array Oper)(i:Nat):∀k,i<k->(a30 ops k).getD i []=a8H ops i
 | k+1,h=>by
  by_cases q:i=k
  ·subst q;rfl
  ·have:i<k:=by omega
   rw [<-c3c ops i k this];simp only [a30,f6p];rw [f6x (by rw [a7m];exact this)]
theorem e2b(ops:Array Oper)(i:Nat):a8H ops i=(a3G ops i).flatMap fun e=>e::(a30 ops i).getD e []:=by
 unfold a8H;simp only [a30,f6p];rw [f6q (by rw [a7m];omega),a7m];simp
theorem c9h{ops:Array Oper}{a0c:Array Bool}{i:Nat}(h:i∈Region.ready .any ops a0c):i<ops.size/\a0c.getD i true=false/\∀e∈a3G ops i,a0c.getD e false=true:=by
 unfold Region.ready at h;obtain ⟨h1,h2⟩:=f7g.1 h;have hlt:=f7m.1 h1;simp only [f6d,f6J] at h2;refine ⟨hlt,h2.1,?_⟩;intro e he;unfold a3G at he;rw [Array.getElem?_eq_getElem hlt] at he h2;simp only [f6G,f7g] at he;obtain ⟨ed,⟨hm,hb⟩,rfl⟩:=he;have:=h2.2;simp only [f7u,f7s,Array.all_eq_true_iff_forall_mem] at this;have:=this ed (by simpa using hm);simpa [hb] using this
theorem f1X{ops:Array Oper}{a0c:Array Bool}{i:Nat}(hlt:i<ops.size)(hl:a0c.getD i true=false)(he:∀e∈a3G ops i,a0c.getD e false=true):i∈Region.ready .any ops a0c:=by
 unfold Region.ready;refine f7g.2 ⟨f7m.2 hlt,?_⟩;rw [Array.getElem?_eq_getElem hlt];simp only [hl,f6H,f7u,f7s,f6n,Array.all_eq_true_iff_forall_mem];intro ed hm;by_cases hb:Region.binds .any ed=true
 ·have:ed.on∈a3G ops i:=by
   unfold a3G;rw [Array.getElem?_eq_getElem hlt];exact f6G.2 ⟨ed,f7g.2 ⟨by simpa using hm,hb⟩,rfl⟩
  simp [he _ this]
 ·simp [hb]
section
variable {cx:Cx} {Γ:O5} {ops:Array Oper} {base:Nat} {A:Nat->L0} {Q:Exit->Act->World->Prop} {S':St} {rc:Rc}
theorem d8F(c9z:∀i,i<ops.size->∀e∈a3G ops i,e<i)(hind:∀x i,x<i->i<ops.size->x ∉ a8H ops i->Ind ops base x i (rc x).2 (rc i).2)(hob:∀i,i<ops.size->∀p∈(rc i).1,p)(hQ:∀a' w' F' ι',u6 Γ F' ι' S' a' w'->Q .normal a' w'):∀(fuel:Nat) (R:List Nat) (a0c:Array Bool) (S:St) (F:Nat->Prop) (ι:Nat->Nat->Value) (a:Act) (w:World),
  R.length=fuel->a0c.size=ops.size->R.Pairwise (· < ·)->(∀i,i<ops.size->(a0c.getD i true=false↔i∈R))->(∀i∈R,i<ops.size)->(∀i,i<ops.size->i ∉ R->∀x∈a8H ops i,x ∉ R)->
  u6 Γ F ι S a w->(∀i∈R,base+i<S.h.length/\¬S.D (base+i))->a1g cx ops base A R S=some (S',R.map rc)->wpAny cx.P .any ops Q fuel a0c a w:=by
 intro fuel;induction fuel with
 | zero=>
  intro R a0c S F ι a w hR hsz hpw hlist hlt hdown hrel hfree hrun;have:R=[]:=f6m hR;subst this;unfold a1g at hrun;injection hrun with hrun;injection hrun with h1 h2;subst h1;refine ⟨?_,hQ _ _ _ _ hrel⟩;rw [List.eq_nil_iff_forall_not_mem];intro i hi;obtain ⟨h1,h2,_⟩:=c9h hi;have:=(hlist i h1).1 h2;simp at this
 | succ fuel ih=>
  intro R a0c S F ι a w hR hsz hpw hlist hlt hdown hrel hfree hrun;refine ⟨fun f2Q => ?_,fun i hi => ?_⟩
  ·exfalso
   cases R with
   | nil=>simp at hR
   | cons r R=>
    have hr:=hlt r (by simp);have hrd:r∈Region.ready .any ops a0c:=by
     refine f1X hr ((hlist r hr).2 (by simp)) ?_;intro e he;have hlt':=c9z r hr e he;have hen:e ∉ r::R:=by
      intro q;rcases f6j.1 q with q|q
      ·omega
      ·have:=(f7w.1 hpw).1 e q;omega
     have:=mt (hlist e (by omega)).1 hen;have hes:e<a0c.size:=by omega
     simp only [Array.getD_eq_getD_getElem?,Array.getElem?_eq_getElem hes,f7s] at this⊢;simpa using this
    rw [f2Q] at hrd;simp at hrd
  ·obtain ⟨hi1,hi2,hi3⟩:=c9h hi;have hiR:=(hlist i hi1).1 hi2;obtain ⟨A1,B1,hAB⟩:=List.append_of_mem hiR;have hpw':=hpw;rw [hAB] at hpw';obtain ⟨hpA,hpB,hpAB⟩:=f7P.1 hpw';have hcl:∀x∈a8H ops i,x ∉ R:=by
    intro x hx;rw [e2b] at hx;obtain ⟨e,he,hx⟩:=List.mem_flatMap.1 hx;have hel:=c9z i hi1 e he;have heR:e ∉ R:=by
     intro q;have h1:=(hlist e (by omega)).2 q;have h2:=hi3 e he;have hes:e<a0c.size:=by omega
     simp only [Array.getD_eq_getD_getElem?,Array.getElem?_eq_getElem hes,f7s] at h1 h2;rw [h1] at h2;cases h2
    rcases f6j.1 hx with rfl|hx
    ·exact heR
    ·rw [c3c ops e i hel] at hx;exact hdown e (by omega) heR x hx
   have hfront:=c6q (cx:=cx) (A:=A) (rc:=rc) (i:=i) (l:=A1) (m:=B1) (S:=S) (S':=S') (fun x hx=>by
    have hxR:x∈R:=by rw [hAB];simp [hx]
    exact hind x i (hpAB x hx i (by simp)) hi1 (fun q=>hcl x q hxR)) (by rw [<-hAB];exact hrun)
   obtain ⟨S1,r,rs,h1,h2,h3⟩:=b2w hfront;simp only [f6L] at h3;injection h3 with h3 h4;subst h3;subst h4;obtain ⟨hD,hl⟩:=c9G (ps:=(rc i).1) (ft:=(rc i).2) h1;refine d0q hrel (hfree i hiR).1 (hfree i hiR).2 (ps:=(rc i).1) (ft:=(rc i).2) h1 (hob i hi1) fun a' w' F' ι' hrel' => ?_
   have hsub:∀j,j∈A1++B1↔(j∈R/\j≠i):=by
    intro j;rw [hAB];simp only [f6b,f6j];constructor
    ·intro hj;refine ⟨by rcases hj with q|q<;>simp [q],?_⟩;rintro rfl
     rcases hj with q|q
     ·have:=hpAB j q j (by simp);omega
     ·have:=(f7w.1 hpB).1 j q;omega
    ·rintro ⟨q|rfl|q,hne⟩
     ·exact .inl q
     ·exact absurd rfl hne
     ·exact .inr q
   refine ih (A1++B1) _ S1 F' ι' a' w' ?_ (by simp [hsz]) ?_ ?_ ?_ ?_ hrel' ?_ h2
   ·rw [hAB] at hR;simp at hR⊢;omega
   ·refine f7P.2 ⟨hpA,(f7w.1 hpB).2,fun x hx y hy=>hpAB x hx y (by simp [hy])⟩
   ·intro j hj;rw [hsub];have hjs:j<a0c.size:=by omega
    simp only [Array.getD_eq_getD_getElem?];by_cases q:j=i
    ·subst q;simp [hjs]
    ·rw [Array.getElem?_setIfInBounds_ne (Ne.symm q),<-hlist j hj,Array.getD_eq_getD_getElem?];simp [q]
   ·intro j hj;exact hlt j ((hsub j).1 hj).1
   ·intro j hj hjn x hx hxm;have hxR:=((hsub x).1 hxm).1;by_cases q:j=i
    ·subst q;exact hcl x hx hxR
    ·exact hdown j hj (fun z=>hjn ((hsub j).2 ⟨z,q⟩)) x hx hxR
   ·intro j hj;have hjR:=((hsub j).1 hj)
    refine ⟨by rw [hl];exact (hfree j hjR.1).1,fun x => ?_⟩;rcases hD _ x with y|y
    ·exact (hfree j hjR.1).2 y
    ·exact hjR.2 (by omega)
end
def b5Y(l:List Nat)(x:Nat):Bool:=l.any fun y=>y==x
theorem f01{l:List Nat}{x:Nat}:b5Y l x=true↔x∈l:=by
 unfold b5Y;rw [f7B];constructor
 ·rintro ⟨y,hy,h⟩
  simp at h;exact h▸hy
 ·intro h;exact ⟨x,h,by simp⟩
def dnN:List Nat->List Nat
 | []=>[]
 | x::xs=>if b5Y (dnN xs) x then dnN xs else x::dnN xs
theorem c36{x:Nat}:∀{l:List Nat},x∈dnN l->x∈l
 | y::l,h=>by
  unfold dnN at h;split at h
  ·exact f6j.2 (.inr (c36 h))
  ·rcases f6j.1 h with rfl|h
   ·simp
   ·exact f6j.2 (.inr (c36 h))
def a7E(ops:Array Oper):Nat->List (List Nat)
 | 0=>[]
 | k+1=>let L:=a7E ops k;L++[dnN ((a3G ops k).flatMap fun e=>e::L.getD e [])]
theorem b8H(ops:Array Oper):∀k,(a7E ops k).length=k
 | 0=>rfl
 | k+1=>by simp [a7E,b8H ops k]
theorem c2X(ops:Array Oper):∀k i,∀x∈(a7E ops k).getD i [],x∈(a30 ops k).getD i []
 | 0,i,x,h=>by simp [a7E] at h
 | k+1,i,x,h=>by
  simp only [a7E,a30,f6p] at h⊢;by_cases q:i<k
  ·rw [f6x (by rw [b8H];exact q)] at h;rw [f6x (by rw [a7m];exact q)];have:=c2X ops k i x (by rw [f6p];exact h);rwa [f6p] at this
  ·rw [f6q (by rw [b8H];omega),b8H] at h;rw [f6q (by rw [a7m];omega),a7m];by_cases q':i=k
   ·subst q';simp only [Nat.sub_self,f7l,f7s] at h⊢;obtain ⟨e,he,hx⟩:=List.mem_flatMap.1 (c36 h);refine List.mem_flatMap.2 ⟨e,he,?_⟩;rcases f6j.1 hx with rfl|hx
    ·simp
    ·have:=c2X ops i e x (by rw [f6p];exact hx);rw [f6p] at this;exact f6j.2 (.inr this)
   ·have:i-k=(i-k-1)+1:=by omega
    rw [this] at h;simp at h
def c5D(ops:Array Oper)(base x i:Nat)(f1 f2:a0f):Bool:=
  (match ops[x]?,ops[i]? with
   | some o1,some o2=>o1.apart ops o2
   | _,_=>false) &&
  f1.wr.all (fun id => !a1F f2.rd id && !a1F f2.wr id)&&f2.wr.all (fun id => !a1F f1.rd id) &&
  f2.rd.all (fun id => !(id.1==base+x))&&f2.wr.all (fun id => !(id.1==base+x)) &&
  f1.rd.all (fun id => !(id.1==base+i))&&f1.wr.all (fun id => !(id.1==base+i))
theorem b6L{l:List (Nat×Nat)}{x:Nat×Nat}(h:(!a1F l x)=true):x ∉ l:=by
 intro q;rw [a69.2 q] at h;cases h
theorem d8k{ops:Array Oper}{base x i:Nat}{f1 f2:a0f}(hne:x<i)(h:c5D ops base x i f1 f2=true):Ind ops base x i f1 f2:=by
 unfold c5D at h;simp only [f6d] at h;obtain ⟨⟨⟨⟨⟨⟨h1,h2⟩,h3⟩,h4⟩,h5⟩,h6⟩,h7⟩:=h;refine ⟨by omega,?_,?_,?_,?_,?_⟩
 ·intro o1 o2 e1 e2;rw [e1,e2] at h1;exact h1
 ·intro id hid;have:=f6e.1 h2 id hid;simp only [f6d] at this;exact ⟨b6L this.1,b6L this.2⟩
 ·intro id hid;exact b6L (f6e.1 h3 id hid)
 ·intro id hid;rcases f6b.1 hid with q|q
  ·have:=f6e.1 h4 id q;simpa using this
  ·have:=f6e.1 h5 id q;simpa using this
 ·intro id hid;rcases f6b.1 hid with q|q
  ·have:=f6e.1 h6 id q;simpa using this
  ·have:=f6e.1 h7 id q;simpa using this
def d1Y(ops:Array Oper)(base:Nat)(L:List (List Nat))(fs:List a0f):Bool:=
 (f6i ops.size).all fun i=>
  (a3G ops i).all (fun e=>Nat.blt e i) &&
  (f6i i).all fun x=>b5Y (L.getD i []) x||c5D ops base x i (fs.getD x ⟨[],[]⟩) (fs.getD i ⟨[],[]⟩)
def c5e(A:List (Nat×L0))(i:Nat):L0:=
 match A with
 | []=>{}
 | (j,x)::A=>if j==i then x else c5e A i
def b7T:List (List Prop×a0f)->List Prop
 | []=>[]
 | r::rs=>r.1++b7T rs
theorem d04{rs:List (List Prop×a0f)}(h:∀p∈b7T rs,p):∀r∈rs,∀p∈r.1,p:=by
 induction rs with
 | nil=>intro r hr;cases hr
 | cons r rs ih=>
  intro r' hr p hp;rcases f6j.1 hr with rfl|hr
  ·exact h p (f6b.2 (.inl hp))
  ·exact ih (fun p hp=>h p (f6b.2 (.inr hp))) r' hr p hp
def a4b:Nat->List (Option (List s8))
 | 0=>[]
 | n+1=>none::a4b n
theorem d1K:∀(n i:Nat) (l:List s8),(a4b n)[i]?≠some (some l)
 | 0,i,l=>by simp [a4b]
 | n+1,0,l=>by simp [a4b]
 | n+1,i+1,l=>by simpa [a4b] using d1K n i l
theorem d2i:∀n,(a4b n).length=n
 | 0=>rfl
 | n+1=>by simp [a4b,d2i n]
def St.more(S:St)(n:Nat):St:={S with h:=S.h++a4b n}
theorem b57{S:St}{n g:Nat}{l:List s8}:(S.more n).h[g]?=some (some l)↔S.h[g]?=some (some l):=by
 unfold St.more;simp only;by_cases q:g<S.h.length
 ·rw [f6x q]
 ·rw [f6q (by omega)];constructor
  ·intro h;exact absurd h (d1K _ _ _)
  ·intro h;have:=(f6g.1 h).1;omega
theorem b0r{S:St}{n g:Nat}:(S.more n).D g↔S.D g:=by
 unfold St.D;constructor
 ·rintro ⟨l,h⟩
  exact ⟨l,b57.1 h⟩
 ·rintro ⟨l,h⟩
  exact ⟨l,b57.2 h⟩
theorem b2t{S:St}{n g j:Nat}:(S.more n).ent g j=S.ent g j:=by
 have key:∀e,(S.more n).ent g j=some e↔S.ent g j=some e:=by
  intro e;constructor
  ·intro h;obtain ⟨l,hl⟩:=St.D_of_ent h;rw [a1N hl] at h;rw [a1N (b57.1 hl)];exact h
  ·intro h;obtain ⟨l,hl⟩:=St.D_of_ent h;rw [a1N hl] at h;rw [a1N (b57.2 hl)];exact h
 cases h:S.ent g j with
 | some e=>exact (key e).2 h
 | none=>
  cases h':(S.more n).ent g j with
  | none=>rfl
  | some e=>rw [(key e).1 h'] at h;cases h
theorem u6.more{Γ:O5}{F:Nat->Prop}{ι:Nat->Nat->Value}{S:St}{a:Act}{w:World}(h:u6 Γ F ι S a w)(n:Nat):u6 Γ F ι (S.more n) a w:=
  { F0:=h.F0,F1:=h.F1,F2:=h.F2,kept:=h.kept
    tmps:=h.tmps.imp fun _ _ x=>x.mono (fun _ _ _=>rfl) (fun _ y=>y) (fun g y=>b0r.2 y) (fun _ _ _=>rfl)
    ents:=fun g j e he=>(h.ents g j e (b2t▸he)).mono (fun _ _ _=>rfl) (fun _ y=>y) (fun g y=>b0r.2 y) (fun _ _ _=>rfl) (fun _ _ _=>rfl)
    sep:=fun g j e k he=>h.sep g j e k (b2t▸he)
    inj:=fun g j e g' j' e' k he he'=>h.inj g j e g' j' e' k (b2t▸he) (b2t▸he')
    defers:=h.defers
    pins:=fun j c hc=>⟨b0r.2 (h.pins j c hc).1,(h.pins j c hc).2⟩}
def c3E(cx:Cx)(ops:Array Oper)(draw:Bool)(A:List (Nat×L0))(S:St):Option (St×List Prop):=
 match a1g cx ops S.h.length (c5e A) (f6i ops.size) (S.more ops.size) with
 | none=>none
 | some (S',rs)=>if draw then (if d1Y ops S.h.length (a7E ops ops.size) (rs.map (·.2)) then some (S',b7T rs) else none) else some (S',b7T rs)
section
variable {cx:Cx} {Γ:O5} {F:Nat->Prop} {ι:Nat->Nat->Value} {S S':St} {a:Act} {w:World} {ops:Array Oper} {A:List (Nat×L0)}
theorem c8I{base:Nat}{B:Nat->L0}:∀{l:List Nat} {S S':St} {rs:List (List Prop×a0f)},a1g cx ops base B l S=some (S',rs)->rs.length=l.length
 | [],S,S',rs,h=>by
  unfold a1g at h;injection h with h;injection h with h1 h2;subst h2;rfl
 | i::l,S,S',rs,h=>by
  obtain ⟨S1,r,rs',h1,h2,rfl⟩:=b2w h;simp [c8I h2]
theorem e9f{α:Type}(d:α):∀{rs:List α} {n:Nat},rs.length=n->rs=(f6i n).map fun i=>rs.getD i d:=by
 intro rs n h;apply List.ext_getElem
 ·simp [h]
 ·intro i h1 h2;simp [f6p,h1]
theorem e05{draw:Bool}{id:Nat}{ps:List Prop}{Q:Exit->Act->World->Prop}(h:u6 Γ F ι S a w)(hr:c3E cx ops draw A S=some (S',ps))(hob:∀p∈ps,p)(hQ:∀a' w' F' ι',u6 Γ F' ι' S' a' w'->Q .normal a' w'):(Code.region id ops draw).wp cx.P Q a w:=by
 unfold c3E at hr;split at hr<;>try (cases hr;done)
 rename_i S1 rs hrun;have hfree:∀i∈f6i ops.size,S.h.length+i<(S.more ops.size).h.length/\¬(S.more ops.size).D (S.h.length+i):=by
  intro i hi;refine ⟨by simp [St.more,d2i,f7m.1 hi],fun q => ?_⟩;obtain ⟨l,hl⟩:=b0r.1 q;have:=(f6g.1 hl).1;omega
 cases draw with
 | false=>
  simp only [f7v,if_false] at hr;injection hr with hr;injection hr with h1 h2;subst h1;subst h2;exact wp_region (d2U (h.more ops.size) List.nodup_range hfree hrun (d04 hob) hQ)
 | true=>
  simp only [if_true] at hr;split at hr<;>try (cases hr;done)
  rename_i hap;injection hr with hr;injection hr with h1 h2;subst h1;subst h2;have hw:u6 Γ F ι (S.more ops.size) a {w with drawn:=w.drawn+1}:=(h.more ops.size).world ⟨rfl,rfl,rfl⟩ (f6s _) (fun _ _=>rfl);have hlen:=c8I hrun;rw [List.length_range] at hlen;have hrs:=e9f (([],⟨[],[]⟩):List Prop×a0f) hlen;unfold d1Y at hap;rw [f6e] at hap;have hap':∀i,i<ops.size->(∀e∈a3G ops i,e<i)/\∀x,x<i->x ∉ a8H ops i->Ind ops S.h.length x i ((rs.getD x ([],⟨[],[]⟩)).2) ((rs.getD i ([],⟨[],[]⟩)).2):=by
   intro i hi;have:=hap i (f7m.2 hi);simp only [f6d] at this;refine ⟨fun e he => ?_,fun x hx hc => ?_⟩
   ·have:=f6e.1 this.1 e he;rwa [Nat.blt_eq] at this
   ·have h2:=f6e.1 this.2 x (f7m.2 hx);rcases Bool.or_eq_true_iff.1 h2 with q|q
    ·exfalso
     apply hc;have:=c2X ops ops.size i x (f01.1 q);rwa [c3c ops i ops.size hi] at this
    ·have:=d8k hx q;have hm:∀j,j<rs.length->(rs.map (·.2)).getD j ⟨[],[]⟩=(rs.getD j ([],⟨[],[]⟩)).2:=by
      intro j hj;simp [f6p,hj]
     rw [hm x (by omega),hm i (by omega)] at this;exact this
  refine wp_region_any cx.mixed ?_;have hrange:∀i,i<ops.size->rs.getD i ([],⟨[],[]⟩)∈rs:=by
   intro i hi;have:i<rs.length:=by omega
   simp [f6p,this]
  refine d8F (rc:=fun i=>rs.getD i ([],⟨[],[]⟩)) (base:=S.h.length) (A:=c5e A) (fun i hi=>(hap' i hi).1) (fun x i hx hi hc=>(hap' i hi).2 x hx hc) (fun i hi p hp=>d04 hob _ (hrange i hi) p hp) hQ
   ops.size (f6i ops.size) _ _ F ι a _ (by simp) (by simp) ?_ ?_ ?_ ?_ hw hfree ?_
  ·exact List.pairwise_lt_range
  ·intro i hi;simp [f7m,hi,Array.getD_eq_getD_getElem?]
  ·intro i hi;exact f7m.1 hi
  ·intro i hi hn;exact absurd (f7m.2 hi) hn
  ·rw [<-hrs];exact hrun
end
def mvM(t:List V):List Item->Option (List Item)
 | .code .skip::k=>some k
 | .inBlock _::k=>some k
 | .code (.seq x y)::k=>some (.code x :: .code y::k)
 | .code (.cond c x y)::k=>match t7 t c with
  | .b true=>some (.code x::k)
  | .b false=>some (.code y::k)
  | _=>none
 | .code (.block id c)::k=>some (.code c :: .inBlock id::k)
 | .code (.loop c)::k=>some (.code c :: .inLoop c::k)
 | .inLoop c::k=>some (.code c :: .inLoop c::k)
 | .code (.exit id)::k=>exitTo id k
 | _=>none
abbrev R7:=List (List (Nat×L0))
def goM(cx:Cx):Nat->List Item->St->R7->Option (List Item×St×List Prop)
 | 0,_,_,_=>none
 | n+1,k,S,sc=>
  match k with
  | .code (.region id ops draw)::k'=>match sc with
   | []=>some (k,S,[])
   | A::sc'=>match c3E cx ops draw A S with
    | some (S1,ps)=>match goM cx n k' S1 sc' with
     | some (k2,S2,qs)=>some (k2,S2,ps++qs)
     | none=>none
    | none=>none
  | k=>match mvM S.t k with
   | some k1=>goM cx n k1 S sc
   | none=>match sc with
    | []=>some (k,S,[])
    | _::_=>none
section
variable {cx:Cx} {Γ:O5} {F:Nat->Prop} {ι:Nat->Nat->Value} {S S':St} {a:Act} {w:World} {b:Frame} {cs:List Frame} {k k':List Item}
theorem e0p(h:u6 Γ F ι S a w)(hm:mvM S.t k=some k'):step cx.P (lone (b.at a k) cs w)=.next (lone (b.at a k') cs w):=by
 unfold mvM at hm;split at hm
 ·injection hm with hm;subst hm;exact step_skip
 ·injection hm with hm;subst hm;exact step_inBlock
 ·injection hm with hm;subst hm;exact step_seq
 ·rename_i c x y k0;have hc:=E0 h.tmps c;split at hm<;>try (cases hm;done)
  ·rename_i hx;injection hm with hm;subst hm;rw [hx] at hc;have:=step_cond (P:=cx.P) (b:=b) (k:=k0) (cs:=cs) (w:=w) (x:=x) (y:=y) hc.inv_b;simpa using this
  ·rename_i hx;injection hm with hm;subst hm;rw [hx] at hc;have:=step_cond (P:=cx.P) (b:=b) (k:=k0) (cs:=cs) (w:=w) (x:=x) (y:=y) hc.inv_b;simpa using this
 ·injection hm with hm;subst hm;exact step_block
 ·injection hm with hm;subst hm;exact step_loop
 ·injection hm with hm;subst hm;exact step_inLoop
 ·exact step_exit hm
 ·cases hm
theorem e2E:∀{n:Nat} {k:List Item} {S:St} {F:Nat->Prop} {ι:Nat->Nat->Value} {a:Act} {w:World} {sc:R7} {ps:List Prop},u6 Γ F ι S a w->goM cx n k S sc=some (k',S',ps)->(∀p∈ps,p)->
  ∃a' w' F' ι',Steps cx.P (lone (b.at a k) cs w) (lone (b.at a' k') cs w')/\u6 Γ F' ι' S' a' w':=by
 intro n;induction n with
 | zero=>intro k S F ι a w sc ps h hg hob;cases hg
 | succ n ih=>
  intro k S F ι a w sc ps h hg hob;unfold goM at hg;split at hg
  ·rename_i id ops draw k0;split at hg
   ·injection hg with hg;injection hg with h1 h2;injection h2 with h2 h3;subst h1;subst h2;exact ⟨a,w,F,ι,.refl _ _,h⟩
   ·rename_i A sc';split at hg<;>try (cases hg;done)
    rename_i S1 qs hr;split at hg<;>try (cases hg;done)
    rename_i k2 S2 rs hg2;injection hg with hg;injection hg with h1 h2;injection h2 with h2 h3;subst h1;subst h2;subst h3;have hwp:=e05 (cx:=cx) (draw:=draw) (id:=id) (Q:=fun e a' w'=>e=.normal/\∃F' ι',u6 Γ F' ι' S1 a' w') h hr (fun p hp=>hob p (f6b.2 (.inl hp)))
     (fun a' w' F' ι' hrel=>⟨rfl,F',ι',hrel⟩)
    obtain ⟨e,a1,w1,⟨he,F1,ι1,h1⟩,harr⟩:=hwp b k0 cs;subst he;obtain ⟨a2,w2,F2,ι2,hs,h2⟩:=ih h1 hg2 (fun p hp=>hob p (f6b.2 (.inr hp)));exact ⟨a2,w2,F2,ι2,Steps.trans harr hs,h2⟩
  ·split at hg
   ·rename_i k1 hm;obtain ⟨a2,w2,F2,ι2,hs,h2⟩:=ih h hg hob;exact ⟨a2,w2,F2,ι2,.head (e0p h hm) hs,h2⟩
   ·split at hg<;>try (cases hg;done)
    injection hg with hg;injection hg with h1 h2;injection h2 with h2 h3;subst h1;subst h2;exact ⟨a,w,F,ι,.refl _ _,h⟩
end
structure O7 where
 f:Nat
 fn:Func
 rms:List PM
 oms:List (Option (Nat×PM))
def c91(w:World)(F:Nat->Prop)(fp:List Nat)(cargs:List Value)(res:V)(outs:List (Option V))(e:Ending)(w':World):Prop:=
 ∃ c F' fr fo,e=.returned c/\a31 (· ∈ fp) w w'/\(∀k,F k->F' k)/\(∀k,F' k->(F k\/k∈fp\/w.heap.size<=k)/\k<w'.heap.size)/\
   BR w' F' res c fr/\BO w' F' outs cargs fo/\(fr++fo).Nodup/\∀k∈fr++fo,¬F' k/\(k∈fp\/w.heap.size<=k)/\k<w'.heap.size
def PM.isVal:PM->Bool
 | .val .. => true
 | _=>false
def a6Z(bs:List Value):List (Option Nat)->Nat->List Value->Prop
 | [],_,[]=>True
 | none::om,j,d::ds=>d.oneCell'=true/\a6Z bs om j ds
 | some _::om,j,d::ds=>bs[j]?=some d/\a6Z bs om (j+1) ds
 | _,_,_=>False
inductive a1O:List (Option (Nat×PM))->List Value->List Value->Prop
 | nil (bs):a1O [] [] bs
 | skip (oms c cs bs) (t:a1O oms cs bs):a1O (none::oms) (c::cs) bs
 | pin (j m oms c cs bs) (hm:m.isVal=false) (h:bs[j]?=some c) (t:a1O oms cs bs):a1O (some (j,m)::oms) (c::cs) bs
 | agg (j ck om oms ds cs bs) (h:a6Z bs om j ds) (t:a1O oms cs bs):a1O (some (j,.val ck om)::oms) (.agg ds.toArray::cs) bs
def K1(cx:Cx)(X:O7)(res:V)(outs:List (Option V))(k:List Item)(S:St):Prop:=
 ∀(w0:World) (F0:Nat->Prop) (fp:List Nat) (cargs bs:List Value),a1O X.oms cargs bs->(∀k,F0 k->k<w0.heap.size)->
 ∀(F:Nat->Prop) (ι:Nat->Nat->Value) (a:Act) (w:World) (b:Frame) (cs:List Frame),u6 ⟨w0,F0,(· ∈ fp),bs⟩ F ι S a w->b.fn=X.f->b.kind=.normal->
  ∃e w' fr,c91 w0 F0 fp cargs res outs e w'/\Comes cx.P (lone (b.at a k) cs w) (lone fr cs w') e/\fr.fn=X.f/\fr.leaving cx.P w' e
theorem K1.go{cx:Cx}{X:O7}{res:V}{outs:List (Option V)}{k k':List Item}{S S':St}{n:Nat}{sc:R7}{ps:List Prop}(hg:goM cx n k S sc=some (k',S',ps))(hob:∀p∈ps,p)(h:K1 cx X res outs k' S'):K1 cx X res outs k S:=by
 intro w0 F0 fp cargs bs hp hF0 F ι a w b cs hrel hb1 hb2;obtain ⟨a',w',F',ι',hs,hrel'⟩:=e2E (b:=b) (cs:=cs) hrel hg hob;obtain ⟨e,w2,fr,h1,h2,h3,h4⟩:=h w0 F0 fp cargs bs hp hF0 F' ι' a' w' b cs hrel' hb1 hb2;exact ⟨e,w2,fr,h1,.of_steps hs h2,h3,h4⟩
def c1x(cx:Cx)(t:List V)(r:ResultVar):j9 V:=
 match r with
 | .tmp k=>j9.pure (t.getD k .bot)
 | .cell a ty=>match cx.T ty with
  | some ti=>match t.getD a .bot with
   | .ptr g j off=>j9.bind (j9.rd g j) fun e=>match e with
    | .var _ cs=>match S0 ti (cs.drop off) with
     | some v=>j9.pure v
     | none=>j9.no
    | _=>j9.no
   | _=>j9.no
  | none=>j9.no
def c0L(cx:Cx)(t:List V):List ResultVar->j9 (List V)
 | []=>j9.pure []
 | r::rs=>j9.bind (c1x cx t r) fun v=>j9.bind (c0L cx t rs) fun vs=>j9.pure (v::vs)
def b40:List (Option Nat)->Nat->j9 (List V)
 | [],_=>j9.pure []
 | none::om,j=>j9.bind (b40 om j) fun vs=>j9.pure (.bot::vs)
 | some _::om,j=>j9.bind (j9.rd 0 j) fun e=>j9.bind (b40 om (j+1)) fun vs=>match e with
  | .row _ sz n _=>j9.pure (.own 0 j sz 0 n::vs)
  | .deep false _ sz n _=>j9.pure (.own 0 j sz 0 n::vs)
  | _=>j9.no
def a8G:List (Option (Nat×PM))->j9 (List V×List PM)
 | []=>j9.pure ([],[])
 | none::os=>a8G os
 | some (j,.val ck om)::os=>j9.bind (b40 om j) fun cs=>j9.bind (a8G os) fun x=>j9.pure (.agg cs::x.1,.val ck om::x.2)
 | some (j,m)::os=>j9.bind (j9.rd 0 j) fun e=>match m,e with
  | .ptr _ _,.var _ _=>j9.bind (a8G os) fun x=>j9.pure (.ptr 0 j 0::x.1,m::x.2)
  | .row,.row _ sz n _=>j9.bind (a8G os) fun x=>j9.pure (.own 0 j sz 0 n::x.1,m::x.2)
  | .row,.deep false _ sz n _=>j9.bind (a8G os) fun x=>j9.pure (.own 0 j sz 0 n::x.1,m::x.2)
  | _,_=>j9.no
def b7s:List V->V
 | [v]=>v
 | vs=>.tup vs
def a89:List (Option (Nat×PM))->List V->List (Option V)
 | [],_=>[]
 | none::os,vs=>none::a89 os vs
 | some _::os,v::vs=>some v::a89 os vs
 | some _::os,[]=>none::a89 os []
def c58(cx:Cx)(X:O7)(t:List V):j9 (AR (List V)×Nat):=
 j9.bind (c0L cx t X.fn.results.toList) fun rv=>j9.bind (a8G X.oms) fun ov=>j9.bind (a12 (X.rms++ov.2) (rv++ov.1)) fun r=>
  if a3n r.ks&&r.ls.all (fun id => !a1F r.ks id)&&Nat.beq rv.length X.rms.length then j9.pure (r,rv.length) else j9.no
def c2o(cx:Cx)(X:O7)(k:List Item)(S:St):Option (V×List (Option V)×List Prop):=
 match k with
 | .code .ret::_|[]=>match c58 cx X S.t S.ent with
  | some ((r,n),_)=>some (b7s (r.v.take n),a89 X.oms (r.v.drop n),r.obl)
  | none=>none
 | _=>none
section
variable {cx:Cx} {Γ:O5} {F:Nat->Prop} {ι:Nat->Nat->Value} {S S':St} {a:Act} {w:World} {b:Frame} {cs:List Frame} {k k':List Item}
theorem d3A(h:u6 Γ F ι S a w)(k:Nat):RV w F S.D ι (S.t.getD k .bot) (a.tmps.getD k undef):=E0 h.tmps (.tmp k)
def b8M(P:Program)(tmps:Array Value)(w:World)(r:ResultVar)(c:Value):Prop:=
  ((match r with
    | .tmp t=>pure (tmps.getD t undef)
    | .cell a t=>do loadVar t (<-asAddr (tmps.getD a undef))):Sem Value).run P w=.ok c w
theorem d8D(h:u6 Γ F ι S a w){r:ResultVar}{v:V}{lg:List (Nat×Nat)}(hr:c1x cx S.t r S.ent=some (v,lg)):∃c,b8M cx.P a.tmps w r c/\RV w F S.D ι v c:=by
 unfold c1x at hr;cases r with
 | tmp k=>
  have:=j9.pure_some hr;injection this with this h9;subst this;exact ⟨_,rfl,d3A h k⟩
 | cell ad ty=>
  simp only at hr;cases hti:cx.T ty with
  | none=>rw [hti] at hr;cases hr
  | some ti=>
  rw [hti] at hr;obtain ⟨i,d,z,htf⟩:=cx.tf hti;have hx:=d3A h ad;generalize S.t.getD ad .bot=xv at hr hx;cases xv<;>try (cases hr;done)
  case ptr g j off=>
   obtain ⟨hD,b,hι,hc⟩:=hx.inv_ptr;obtain ⟨e,l1,l2,hrd,hp',hl12⟩:=j9.bind_some hr;clear hr;have he:=(j9.rd_some hrd).1;simp only at he;have hre:=h.ents g j e he;split at hp'<;>try (cases hp';done)
   ·rename_i e0 cs;obtain ⟨g0,cur,h1,hg,hcs⟩:=hre;rw [hι] at h1;injection h1 with h1;injection h1 with h1;injection h1 with h1;subst h1;cases hrv:S0 ti (cs.drop off) with
    | none=>rw [hrv] at hp';cases hp'
    | some v'=>
    rw [hrv] at hp';have:=j9.pure_some hp';injection this with this h9;subst this;obtain ⟨c,hrd',hvc⟩:=a65 (hcs.drop off) hrv;refine ⟨c,?_,hvc⟩;unfold b8M;simp only [hc,asAddr];have:=d0g htf (a5S hg off) hrd';simpa [Sem.run_bind] using this
theorem d6C(h:u6 Γ F ι S a w):∀{rs:List ResultVar} {vs:List V} {lg:List (Nat×Nat)},c0L cx S.t rs S.ent=some (vs,lg)->∃cs,x9 (b8M cx.P a.tmps w) rs cs/\x9 (RV w F S.D ι) vs cs
 | [],vs,lg,hr=>by
  have:=j9.pure_some hr;injection this with this h9;subst this;exact ⟨[],.nil,.nil⟩
 | r::rs,vs,lg,hr=>by
  obtain ⟨v,l1,l2,h1,h2,_⟩:=j9.bind_some hr;obtain ⟨vs',l3,l4,h3,h4,_⟩:=j9.bind_some h2;have:=j9.pure_some h4;injection this with this h9;subst this;obtain ⟨c,e1,e2⟩:=d8D h h1;obtain ⟨cs,e3,e4⟩:=d6C h h3;exact ⟨c::cs,.cons e1 e3,.cons e2 e4⟩
def b2V:List Value->Value
 | [c]=>c
 | cs=>.tuple cs.toArray
theorem c9m{P:Program}{w:World}{α:Type}{f:α->Sem Value}:∀{l:List α} {cs:List Value},x9 (fun r c=>(f r).run P w=.ok c w) l cs->(l.mapM f).run P w=.ok cs w
 | _,_,.nil=>by simp [Sem.run]
 | _,_,.cons h t=>by
  rw [List.mapM_cons];have:=c9m t;simp [Sem.run_bind,h,this]
theorem e7v{P:Program}{fn:Func}{tmps:Array Value}{w:World}{cs:List Value}(h:x9 (b8M P tmps w) fn.results.toList cs):(results fn tmps).run P w=.ok (b2V cs) w:=by
 unfold results;have hm:=c9m (f:=fun r:ResultVar=>match r with
  | .tmp t=>pure (tmps.getD t undef)
  | .cell a t=>do loadVar t (<-asAddr (tmps.getD a undef))) (h.imp fun r c x=>x)
 have he:fn.results=fn.results.toList.toArray:=by simp
 rw [he,List.mapM_toArray];have hp:(if hh:cs.toArray.size=1 then cs.toArray[0] else Value.tuple cs.toArray)=b2V cs:=by
  rcases cs with _|⟨c,_|⟨c',cs⟩⟩
  ·rfl
  ·rfl
  ·have:¬(c::c'::cs).toArray.size=1:=by simp
   rw [dif_neg this];rfl
 simp only [map_eq_pure_bind,Sem.run_bind,bind_assoc,pure_bind];refine (congrArg (fun r=>Result.andThen r _) hm).trans ?_;simp only [Result.andThen];rw [<-hp];rfl
theorem c4F(h:u6 Γ F ι S a w):∀{om:List (Option Nat)} {j:Nat} {ds:List Value} {vs:List V} {lg:List (Nat×Nat)},a6Z Γ.pins om j ds->b40 om j S.ent=some (vs,lg)->x9 (RC w F S.D ι) vs ds
 | [],j,[],vs,lg,_,hr=>by
  have:=j9.pure_some hr;injection this with h1 h2;subst h1;exact .nil
 | none::om,j,d::ds,vs,lg,hc,hr=>by
  obtain ⟨xs,l1,l2,h1,h2,_⟩:=j9.bind_some hr;have:=j9.pure_some h2;injection this with h3 h4;subst h3;exact .cons (.fv _ _ (.bot _ hc.1)) (c4F h hc.2 h1)
 | some _::om,j,d::ds,vs,lg,hc,hr=>by
  obtain ⟨e,l1,l2,hrd,hp,_⟩:=j9.bind_some hr;have he:=(j9.rd_some hrd).1;simp only at he;have hD:=St.D_of_ent he;have hι:=(h.pins j d hc.1).2;have hre:=h.ents 0 j e he;obtain ⟨xs,l3,l4,h1,h2,_⟩:=j9.bind_some hp;have ht:=c4F h hc.2 h1;split at h2<;>try (cases h2;done)
  ·have:=j9.pure_some h2;injection this with h3 h4;subst h3;refine .cons ?_ ht;have:=RC.whole hD rfl hre;rwa [hι] at this
  ·have:=j9.pure_some h2;injection this with h3 h4;subst h3;refine .cons ?_ ht;obtain ⟨flat,fs,ho,_⟩:=hre;have:=RC.wholeO (F:=F) (D:=S.D) hD rfl ho;rwa [hι] at this
 | [],_,_::_,_,_,hc,_=>hc.elim
 | none::_,_,[],_,_,hc,_=>hc.elim
 | some _::_,_,[],_,_,hc,_=>hc.elim
theorem a9k(h:u6 Γ F ι S a w):∀{oms:List (Option (Nat×PM))} {cargs:List Value} {vs:List V} {ms:List PM} {lg:List (Nat×Nat)},a1O oms cargs Γ.pins->a8G oms S.ent=some ((vs,ms),lg)->∃cs,x9 (RV w F S.D ι) vs cs/\
  ∀{F1:Nat->Prop} {us:List V} {f:List Nat},BS w F1 us cs f->BO w F1 (a89 oms us) cargs f
 | [],_,vs,ms,lg,.nil _,hr=>by
  have:=j9.pure_some hr;injection this with h1 h2;injection h1 with h1 h3;subst h1;exact ⟨[],.nil,fun hb=>by cases hb;exact .nil⟩
 | none::oms,_,vs,ms,lg,.skip _ c cs _ t,hr=>by
  obtain ⟨cs',e1,e2⟩:=a9k h t hr;exact ⟨cs',e1,fun {F1 us f} hb=>.skip _ _ _ _ (e2 hb)⟩
 | some (j,.val ck om)::oms,_,vs,ms,lg,.agg _ _ _ _ ds cs _ hc t,hr=>by
  obtain ⟨xs,l1,l2,hxs,hp,_⟩:=j9.bind_some hr;obtain ⟨x,l3,l4,h1,h2,_⟩:=j9.bind_some hp;have:=j9.pure_some h2;injection this with h3 h4;injection h3 with h3 h5;subst h3;obtain ⟨cs',e1,e2⟩:=a9k h t h1;refine ⟨.agg ds.toArray::cs',.cons (.one _ _ (.agg _ _ (c4F h hc hxs))) e1,?_⟩;intro F1 us f hb;cases hb with
  | cons v c f vs cs fs h t=>exact .cons _ _ _ _ _ _ h (e2 t)
 | some (j,.val ck om)::oms,_,vs,ms,lg,.pin _ _ _ c cs _ hm hc t,hr=>by cases hm
 | some (j,.part)::oms,_,vs,ms,lg,.pin _ _ _ c cs _ hm hc t,hr=>by
  obtain ⟨e,l1,l2,hrd,hp,_⟩:=j9.bind_some hr;cases e<;>cases hp
 | some (j,.ptr ck om)::oms,_,vs,ms,lg,.pin _ _ _ c cs _ hm hc t,hr=>by
  obtain ⟨e,l1,l2,hrd,hp,_⟩:=j9.bind_some hr;have he:=(j9.rd_some hrd).1;simp only at he;have hD:=St.D_of_ent he;have hι:=(h.pins j c hc).2;have hre:=h.ents 0 j e he;cases e<;>try (cases hp;done)
  obtain ⟨x,l3,l4,h1,h2,_⟩:=j9.bind_some hp;have:=j9.pure_some h2;injection this with h3 h4;injection h3 with h3 h5;subst h3;obtain ⟨cs',e1,e2⟩:=a9k h t h1;obtain ⟨g,cur,q1,q2,q3⟩:=hre;refine ⟨c::cs',.cons (.one _ _ (.cell _ _ ?_)) e1,?_⟩
  ·rw [<-hι,q1];exact .ptr 0 j 0 g hD q1
  ·intro F1 us f hb;cases hb with
   | cons v c f vs cs fs h t=>exact .cons _ _ _ _ _ _ h (e2 t)
 | some (j,.row)::oms,_,vs,ms,lg,.pin _ _ _ c cs _ hm hc t,hr=>by
  obtain ⟨e,l1,l2,hrd,hp,_⟩:=j9.bind_some hr;have he:=(j9.rd_some hrd).1;simp only at he;have hD:=St.D_of_ent he;have hι:=(h.pins j c hc).2;have hre:=h.ents 0 j e he;cases e<;>try (cases hp;done)
  case row=>
   obtain ⟨x,l3,l4,h1,h2,_⟩:=j9.bind_some hp;have:=j9.pure_some h2;injection this with h3 h4;injection h3 with h3 h5;subst h3;obtain ⟨cs',e1,e2⟩:=a9k h t h1;refine ⟨c::cs',.cons (.one _ _ (.cell _ _ ?_)) e1,?_⟩
   ·have:=RC.whole hD rfl hre;rwa [hι] at this
   ·intro F1 us f hb;cases hb with
    | cons v c f vs cs fs h t=>exact .cons _ _ _ _ _ _ h (e2 t)
  case deep o _ _ _ _=>
   cases o<;>try (cases hp;done)
   obtain ⟨x,l3,l4,h1,h2,_⟩:=j9.bind_some hp;have:=j9.pure_some h2;injection this with h3 h4;injection h3 with h3 h5;subst h3;obtain ⟨cs',e1,e2⟩:=a9k h t h1;obtain ⟨flat,fs,ho,_⟩:=hre;refine ⟨c::cs',.cons (.one _ _ (.cell _ _ ?_)) e1,?_⟩
   ·have:=RC.wholeO (F:=F) (D:=S.D) hD rfl ho;rwa [hι] at this
   ·intro F1 us f hb;cases hb with
    | cons v c f vs cs fs h t=>exact .cons _ _ _ _ _ _ h (e2 t)
theorem x9.app{α β:Type}{R:α->β->Prop}:∀{B2 bs cs ds},x9 R B2 bs->x9 R cs ds->x9 R (B2++cs) (bs++ds)
 | _,_,_,_,.nil,k=>k
 | _,_,_,_,.cons hx t,k=>.cons hx (t.app k)
theorem BS.split:∀{c1 c2:List Value} {vs:List V} {f:List Nat},BS w F vs (c1++c2) f->∃f1 f2,f=f1++f2/\BS w F (vs.take c1.length) c1 f1/\BS w F (vs.drop c1.length) c2 f2
 | [],c2,vs,f,h=>⟨[],f,rfl,by simpa using .nil,by simpa using h⟩
 | c::c1,c2,_,_,.cons v _ f vs _ fs h t=>by
  obtain ⟨f1,f2,rfl,h1,h2⟩:=BS.split t;exact ⟨f++f1,f2,by simp,.cons _ _ _ _ _ _ h h1,h2⟩
theorem BS.pack{vs:List V}{cs:List Value}{f:List Nat}(h:BS w F vs cs f):BR w F (b7s vs) (b2V cs) f:=by
 cases h with
 | nil=>exact .tup _ _ _ .nil
 | cons v c f vs cs fs h t=>
  cases t with
  | nil=>rw [f6P];exact .one _ _ _ h
  | cons v' c' f' vs' cs' fs' h' t'=>exact .tup _ _ _ (.cons _ _ _ _ _ _ h (.cons _ _ _ _ _ _ h' t'))
theorem K1.ret{X:O7}{res:V}{outs:List (Option V)}{ps:List Prop}(hf:cx.P.funcs[X.f]?=some X.fn)(hr:c2o cx X k S=some (res,outs,ps))(hob:∀p∈ps,p):K1 cx X res outs k S:=by
 obtain ⟨r,n,lg,hR,rfl,rfl,rfl,hk⟩:∃r n lg,c58 cx X S.t S.ent=some ((r,n),lg)/\b7s (r.v.take n)=res/\a89 X.oms (r.v.drop n)=outs/\r.obl=ps/\(k=[]\/∃k',k=.code .ret::k'):=by
  unfold c2o at hr;split at hr<;>try (cases hr;done)
  all_goals
   split at hr<;>try (cases hr;done)
   rename_i r n lg hR;injection hr with hr;injection hr with h1 h2;injection h2 with h2 h3;first|exact ⟨r,n,lg,hR,h1,h2,h3,.inr ⟨_,rfl⟩⟩|exact ⟨r,n,lg,hR,h1,h2,h3,.inl rfl⟩
 intro w0 F0 fp cargs bs hp hF0 F ι a w b cs h hb1 hb2;unfold c58 at hR;obtain ⟨rv,l1,l2,g1,g2,_⟩:=j9.bind_some hR;obtain ⟨⟨ov,om⟩,l3,l4,g3,g4,_⟩:=j9.bind_some g2;obtain ⟨r',l5,l6,g5,g6,_⟩:=j9.bind_some g4;simp only at g6;split at g6<;>try (cases g6;done)
 rename_i hchk;have:=j9.pure_some g6;injection this with e1 e2;injection e1 with e1 e3;subst e1;subst e3;simp only [f6d] at hchk;obtain ⟨⟨hnk,hls⟩,hlen⟩:=hchk;have hnk':=a4Y hnk;have hdis:∀id∈r.ls,id ∉ r.ks:=fun id hid=>b6L (f6e.1 hls id hid)
 obtain ⟨rcs,q1,q2⟩:=d6C h g1;obtain ⟨ocs,q3,q4⟩:=a9k h hp g3;let F1:Nat->Prop:=fun k=>F k\/∃id∈r.ls,∃e,S.ent id.1 id.2=some e/\EB w e (ι id.1 id.2) k
 obtain ⟨fpx,hbs,hfps,hhk,hhl⟩:=d52 (F1:=F1) h (fun k x=>.inl x) (q2.app q3) g5 hob (fun id hid e k he hk=>.inr ⟨id,hid,e,he,hk⟩);obtain ⟨f1,f2,hf12,b1,b2⟩:=hbs.split;have hl2:rcs.length=rv.length:=q2.length.symm;rw [hl2] at b1 b2;have hfpn:=L2.nodup h hfps hnk';have hF1lt:∀k,F1 k->k<w.heap.size:=by
  rintro k (x|⟨id,hid,e,he,hb⟩)
  ·exact h.F1 k x
  ·obtain ⟨e',he',hl'⟩:=hhl id hid;have:e=e':=by rw [he] at he';injection he'
   subst this;exact h.lt he hl' hb
 have hfin:c91 w0 F0 fp cargs (b7s (r.v.take rv.length)) (a89 X.oms (r.v.drop rv.length)) (.returned (b2V rcs)) w:=by
  refine ⟨b2V rcs,F1,f1,f2,rfl,h.kept,fun k x=>.inl (h.F0 k x),?_,b1.pack,q4 b2,?_,?_⟩
  ·rintro k x
   refine ⟨?_,hF1lt k x⟩;rcases x with x|⟨id,hid,e,he,hb⟩
   ·exact h.F2 k x
   ·obtain ⟨e',he',hl'⟩:=hhl id hid;have:e=e':=by rw [he] at he';injection he'
    subst this;exact .inr (h.sep _ _ _ k he hl' hb).2
  ·rw [<-hf12];exact hfpn
  ·intro k hk;rw [<-hf12] at hk;obtain ⟨id,hid,e,he,hl,hb⟩:=hfps.mem hk;obtain ⟨z1,z2⟩:=h.sep _ _ e k he hl hb;refine ⟨?_,z2,h.lt he hl hb⟩;rintro (x|⟨id',hid',e0,he0,hb'⟩)
   ·exact z1 x
   ·obtain ⟨e',he',hl'⟩:=hhl id' hid';have:e0=e':=by rw [he0] at he';injection he'
    subst this;obtain ⟨y1,y2⟩:=h.inj _ _ e _ _ _ k he he' hl hl' hb hb';have:id=id':=Prod.ext y1 y2;exact hdis id' hid' (this▸hid)
 have hres:=e7v (P:=cx.P) q1;rcases hk with rfl|⟨k',rfl⟩
 ·exact ⟨_,w,_,hfin,.one step_end,hb1,rfl,h.defers,hb2,X.fn,by show cx.P.funcs[b.fn]?=_;rw [hb1];exact hf,hres⟩
 ·exact ⟨_,w,_,hfin,.one step_ret,hb1,rfl,h.defers,hb2,X.fn,by show cx.P.funcs[b.fn]?=_;rw [hb1];exact hf,hres⟩
end
inductive Loc where
 | tmp (t:Nat)
 | sub (t i:Nat)
 | cell (g j i:Nat)
def St.get(S:St):Loc->Option V
 | .tmp t=>S.t[t]?
 | .sub t i=>match S.t[t]? with
  | some (.agg cs)=>cs[i]?
  | _=>none
 | .cell g j i=>match S.ent g j with
  | some (.var _ cs)=>cs[i]?
  | _=>none
def St.put(S:St)(l:Loc)(v:V):St:=
 match l with
 | .tmp t=>{S with t:=S.t.set t v}
 | .sub t i=>match S.t[t]? with
  | some (.agg cs)=>{S with t:=S.t.set t (.agg (cs.set i v))}
  | _=>S
 | .cell g j i=>match S.ent g j with
  | some (.var e cs)=>S.setE g j (.var e (cs.set i v))
  | _=>S
inductive Fix where
 | own (l:Loc) (e sz:Nat)
 | frz (l:Loc) (ck:Option Nat)
 | is (l:Loc) (v:V)
 | ent (g j:Nat) (e:s8)
 | plug (g j idx off:Nat) (r:List V) (e:Nat)
 | shut (g j n:Nat) (rows:List (List V))
 | ownD (l:Loc) (e sz:Nat)
 | kill (g j:Nat)
def V.isCell:V->Bool
 | .agg _ | .tup _ | .bot=>false
 | _=>true
def a6s(f:Fix)(S:St):Option (St×List Prop):=
 match f with
 | .own l e sz=>match S.get l with
  | some .nil=>some (((S.more 1).lay S.h.length [.row e sz 0 []]).put l (.own S.h.length 0 sz 0 0),[])
  | _=>none
 | .frz l ck=>match S.get l with
  | some v=>if v.isCell then match fzP ck v S.ent with
   | some ((v',us,ps),_)=>some ((S.upds us).put l v',ps)
   | none=>none else none
  | none=>none
 | .is l v'=>match S.get l with
  | some v=>if v.isCell then some (S.put l v',[v=v']) else none
  | none=>none
 | .ent g j e'=>match S.ent g j with
  | some e=>some (S.setE g j e',[e=e'])
  | none=>none
 | .plug g j idx off r e=>match S.ent g j,r[off]? with
  | some (.deep o t sz n rows),some (.own g' j' sz' lo n')=>match S6 none (some e) (.own g' j' sz' lo n') S.ent with
   | some (f,_)=>if off+1<=sz/\a3n f.ks/\a1F f.ks (g,j)=false then some (S.upds (G0 f.ks++[((g,j),.deep o t sz n (rows.set idx (A6 r off [f.v])))]),(rows[idx]?=some r)::f.obl) else none
   | none=>none
  | _,_=>none
 | .kill g j=>match S.ent g j with
  | some _=>some (S.setE g j .dead,[])
  | none=>none
 | .shut g j n' rows'=>match S.ent g j with
  | some (.deep o t sz n rows)=>some (S.setE g j (.deep false t sz n' rows'),[rows=rows',I2 rows',n=n'])
  | _=>none
 | .ownD l e sz=>match S.get l with
  | some .nil=>some (((S.more 1).lay S.h.length [.deep false e sz 0 []]).put l (.own S.h.length 0 sz 0 0),[])
  | _=>none
def b3Z:List Fix->St->Option (St×List Prop)
 | [],S=>some (S,[])
 | f::fs,S=>match a6s f S with
  | some (S1,ps)=>match b3Z fs S1 with
   | some (S2,qs)=>some (S2,ps++qs)
   | none=>none
  | none=>none
section
variable {cx:Cx} {Γ:O5} {F:Nat->Prop} {ι:Nat->Nat->Value} {S S':St} {a:Act} {w:World}
theorem RV.isCell{D:Nat->Prop}{v:V}{c:Value}(h:RV w F D ι v c)(hv:v.isCell=true):RC w F D ι v c:=by
 cases h with
 | one v c h=>
  cases h with
  | cell v c h=>exact h
  | agg cs ds h=>cases hv
 | tup cs ds h=>cases hv
 | any c=>cases hv
theorem u6.withT(h:u6 Γ F ι S a w){t:List V}(ht:x9 (RV w F S.D ι) t a.tmps.toList):u6 Γ F ι {S with t:=t} a w:=
 {F0:=h.F0,F1:=h.F1,F2:=h.F2,kept:=h.kept,tmps:=ht,ents:=h.ents,sep:=h.sep,inj:=h.inj,defers:=h.defers,pins:=h.pins}
theorem x9.set_left{α β:Type}{R:α->β->Prop}{B2:List α}{bs:List β}(h:x9 R B2 bs){i:Nat}{x y:α}(hx:B2[i]?=some x)(hy:∀b,R x b->R y b):x9 R (B2.set i y) bs:=by
 obtain ⟨b,hb,hr⟩:=h.get hx;have:=h.set i (hy b hr);rwa [a0u hb] at this
theorem u6.putL(h:u6 Γ F ι S a w){l:Loc}{v v':V}(hg:S.get l=some v)(hc:v.isCell=true)(hr:∀c,RC w F S.D ι v c->RC w F S.D ι v' c):u6 Γ F ι (S.put l v') a w:=by
 cases l with
 | tmp t=>
  exact h.withT (h.tmps.set_left hg fun c hv=>.one _ _ (.cell _ _ (hr c (hv.isCell hc))))
 | sub t i=>
  unfold St.get at hg;unfold St.put;simp only at hg⊢;split at hg<;>try (cases hg;done)
  rename_i cs hcs;try rw [hcs]
  refine h.withT (h.tmps.set_left hcs fun c hv => ?_);cases hv with
  | one v c hv=>
   cases hv with
   | cell v c hv=>cases hv with|fv v c hv=>cases hv
   | agg cs ds hv=>exact .one _ _ (.agg _ _ (hv.set_left hg hr))
 | cell g j i=>
  unfold St.get at hg;unfold St.put;simp only at hg⊢;split at hg<;>try (cases hg;done)
  rename_i e cs hcs;try rw [hcs]
  try simp only
  refine h.write hcs rfl ⟨rfl,rfl,rfl⟩ rfl (fun _ _=>rfl) (fun _ => ?_) (fun _ hk=>hk);obtain ⟨g0,cur,h1,h2,h3⟩:=h.ents g j _ hcs;exact ⟨g0,cur,h1,h2,(h3.set_left hg hr).imp fun _ _ x=>x.mono (fun _ _ _=>rfl) (fun _ y=>y) (fun k y=>R3.2 y) (fun _ _ _=>rfl)⟩
theorem c7M{grp:Nat}{new:List s8}{l:Loc}{v:V}(h:S.get l=some v)(hn:¬S.D grp):(S.lay grp new).get l=some v:=by
 cases l with
 | tmp t=>exact h
 | sub t i=>exact h
 | cell g j i=>
  unfold St.get at h⊢;simp only at h⊢;split at h<;>try (cases h;done)
  rename_i e cs hcs;have:g≠grp:=fun q=>hn (q▸St.D_of_ent hcs)
  rw [a7J this,hcs];exact h
theorem c8g{n:Nat}{l:Loc}{v:V}(h:S.get l=some v):(S.more n).get l=some v:=by
 cases l with
 | tmp t=>exact h
 | sub t i=>exact h
 | cell g j i=>
  unfold St.get at h⊢;simp only at h⊢;rw [b2t];exact h
theorem d8p{e:Nat}{v:V}{H:Hp}{f:AR V}{lg:List (Nat×Nat)}(h:S6 none (some e) v H=some (f,lg)):f.ls=[]:=by
 unfold S6 at h;simp only at h;split at h
 ·have:=j9.pure_some h;injection this with h1 h2;rw [h1]
 cases v<;>try (cases h;done)
 case nil=>
  have:=j9.pure_some h;injection this with h1 h2;rw [h1]
 case own g j sz lo n=>
  cases lo with
  | succ q=>cases h
  | zero=>
   simp only at h;obtain ⟨en,l1,l2,hrd,hp,_⟩:=j9.bind_some h;cases en<;>try (cases hp;done)
   case row=>
    simp only at hp;split at hp<;>try (cases hp;done)
    have:=j9.pure_some hp;injection this with h1 h2;rw [h1]
   case deep o _ _ _ _=>
    cases o<;>try (cases hp;done)
    simp only at hp;split at hp<;>try (cases hp;done)
    have:=j9.pure_some hp;injection this with h1 h2;rw [h1]
theorem f0I{g j idx off e:Nat}{r:List V}{ps:List Prop}(h:u6 Γ F ι S a w)(hf:a6s (.plug g j idx off r e) S=some (S',ps))(hob:∀p∈ps,p):u6 Γ F ι S' a w:=by
 unfold a6s at hf;simp only at hf;split at hf<;>try (cases hf;done)
 rename_i o t sz n rows g' j' sz' lo n' he hv;split at hf<;>try (cases hf;done)
 rename_i f lg hm;split at hf<;>try (cases hf;done)
 rename_i hcond;injection hf with hf;injection hf with h1 h2;subst h1;subst h2;obtain ⟨hoff,hks,hgj⟩:=hcond;have hr:rows[idx]?=some r:=hob _ (by simp);obtain ⟨flat,fs,hor,hkl,hrn,hl,hnd,hnr⟩:=h.ents g j _ he;have hidx:=(f6g.1 hr).1;have hpos:idx*sz+sz<=n*sz:=by rw [<-f7n];exact f6F _ (by omega)
 have hle:idx*sz+off+1<=rows.flatten.length:=by rw [a33 hl,hrn];omega
 have hmid:(rows.flatten.drop (idx*sz+off)).take 1=[.own g' j' sz' lo n']:=by
  have:(rows.flatten.drop (idx*sz+off)).take 1=(r.drop off).take 1:=by
   rw [<-b1u hl hr,List.drop_take,List.take_take,f7T];congr 1
   omega
  rw [this];obtain ⟨hlt,hv'⟩:=f6g.1 hv;rw [f6w hlt,hv'];rfl
 obtain ⟨fa,fm,fb,rfl,ka,km,kb⟩:=hkl.cut hle;rw [hmid] at km;obtain ⟨c,hc,hkc⟩:∃c,(flat.drop (idx*sz+off)).take 1=[c]/\RC w F S.D ι (.own g' j' sz' lo n') c:=by
  generalize (flat.drop (idx*sz+off)).take 1=cs at km;cases km with
  | cons v c f vs cs fs h t=>
   cases t;refine ⟨c,rfl,?_⟩;cases h with
   | rc h=>exact h
   | bc _ h=>cases h with
    | fv _ _ h=>exact .fv _ _ h
 obtain ⟨fp,hb,hfps,_⟩:=c3r (F1:=F) h (fun _ x=>x) hkc hm (fun p hp=>hob p (f6j.2 (.inr hp))) (by rw [d8p hm];intro id hid;cases hid);have hbl:BL w F [f.v] [c] fp:=by
  have:=BL.cons _ _ _ _ _ _ hb .nil;simpa using this
 refine h.dput he hr (by simpa using hoff) hbl hfps (a4Y hks) (fun q=>by rw [a69.2 q] at hgj;cases hgj) ⟨rfl,rfl,rfl⟩ rfl (fun _ _=>rfl) ?_;intro flat2 ho2;have:=b0W ho2 hor (fun _ _=>rfl);subst this;have e1:A6 flat2 (idx*sz+off) [c]=flat2:=by
  unfold A6;rw [<-hc,f6r];have hl1:((flat2.drop (idx*sz+off)).take 1).length=1:=by rw [hc];rfl
  rw [hl1];have e2:∀k:Nat,flat2.take k++((flat2.drop k).take 1++flat2.drop (k+1))=flat2:=fun k=>by
   rw [<-f7T,f7a,f7a]
  exact e2 _
 rw [e1];exact ho2
theorem e4s{g j n':Nat}{rows':List (List V)}{ps:List Prop}(h:u6 Γ F ι S a w)(hf:a6s (.shut g j n' rows') S=some (S',ps))(hob:∀p∈ps,p):u6 Γ F ι S' a w:=by
 unfold a6s at hf;simp only at hf;split at hf<;>try (cases hf;done)
 rename_i o t sz n rows he;injection hf with hf;injection hf with h1 h2;subst h1;subst h2;have hrr:rows=rows':=hob _ (by simp);have hnr:I2 rows':=hob _ (by simp);have hnn:n=n':=hob _ (by simp);subst hrr;subst hnn;refine h.write he rfl ⟨rfl,rfl,rfl⟩ rfl (fun _ _=>rfl) (fun _ => ?_) (fun k hk=>hk);obtain ⟨flat,fs,q1,q2,q3,q4,q5,q6⟩:=h.ents g j _ he;exact ⟨flat,fs,q1,q2.mono (fun _ _ _=>rfl) (fun _ x=>x) (fun k x=>R3.2 x) (fun _ _ _=>rfl) (fun _ _=>rfl),q3,q4,q5,fun _=>hnr⟩
theorem f2l{f:Fix}{ps:List Prop}(h:u6 Γ F ι S a w)(hf:a6s f S=some (S',ps))(hob:∀p∈ps,p):∃F' ι',u6 Γ F' ι' S' a w:=by
 unfold a6s at hf;split at hf
 ·rename_i l e sz;split at hf<;>try (cases hf;done)
  rename_i hg;injection hf with hf;injection hf with hf hf2;subst hf;have hn:¬(S.more 1).D S.h.length:=fun q=>by
   obtain ⟨x,hx⟩:=b0r.1 q;have:=(f6g.1 hx).1;omega
  have hlen:S.h.length<(S.more 1).h.length:=by simp [St.more,a4b]
  have hor:OR w F e sz (.slice none 0 0) 0 []:=⟨[],⟨by simp,.inl ⟨rfl,rfl⟩⟩,.nil,rfl,by simp⟩
  have hno:∀(j:Nat) (e':s8) (k:Nat),([.row e sz 0 []]:List s8)[j]?=some e'->EB w e' (L7 ι S.h.length (.slice none 0 0) S.h.length j) k->False:=by
   intro j e' k he hk;rw [P8] at hk;cases j with
   | zero=>
    simp at he;subst he;cases hk
   | succ j=>simp at he
  have h1:=(h.more 1).lay hlen hn (new:=[.row e sz 0 []]) (ι':=L7 ι S.h.length (.slice none 0 0)) (fun g j q=>a92 q)
   (fun j e' he=>by
    cases j with
    | zero=>
     simp at he;subst he;rw [P8];exact hor
    | succ j=>simp at he)
   (fun j e' k he hl hk=>(hno j e' k he hk).elim)
   (fun j e' j' e'' k he he' hl hl' hk hk'=>(hno j e' k he hk).elim)
   (fun j e' g' j' e'' k he he' hl hl' hk=>(hno j e' k he hk).elim)
  refine ⟨F,_,h1.putL (c7M (c8g hg) hn) rfl fun c hc => ?_⟩;have hcn:c=.slice none 0 0:=by
   cases hc with
   | fv v c hc=>cases hc;rfl
  subst hcn;exact RC.whole (a0N hlen) P8 hor
 ·rename_i l ck;split at hf<;>try (cases hf;done)
  rename_i v hg;split at hf<;>try (cases hf;done)
  rename_i hcell;split at hf<;>try (cases hf;done)
  rename_i v' us fps lg hz;injection hf with hf;injection hf with hf hf2;subst hf;subst hf2;have hfr:∀c,RC w F S.D ι v c->∃F',(∀k,F k->F' k)/\u6 Γ F' ι (S.upds us) a w/\Frz S (S.upds us)/\FV w F' v' c:=fun c hc=>b4Q h (Frz.refl S) hc hz hob
  have hat:∃c,RC w F S.D ι v c:=by
   cases l with
   | tmp t=>
    obtain ⟨c,_,hv⟩:=h.tmps.get hg;exact ⟨c,hv.isCell hcell⟩
   | sub t i=>
    unfold St.get at hg;simp only at hg;split at hg<;>try (cases hg;done)
    rename_i cs hcs;obtain ⟨c,_,hv⟩:=h.tmps.get hcs;cases hv with
    | one v c hv=>
     cases hv with
     | cell v c hv=>cases hv with|fv v c hv=>cases hv
     | agg cs ds hv=>
      obtain ⟨c,_,hv⟩:=hv.get hg;exact ⟨c,hv⟩
   | cell g j i=>
    unfold St.get at hg;simp only at hg;split at hg<;>try (cases hg;done)
    rename_i e cs hcs;obtain ⟨g0,cur,h1,h2,h3⟩:=h.ents g j _ hcs;obtain ⟨c,_,hv⟩:=h3.get hg;exact ⟨c,hv⟩
  obtain ⟨c0,hc0⟩:=hat;obtain ⟨F',hF,hrel,hfz,hfv⟩:=hfr c0 hc0;clear hfr hfv;cases l with
  | tmp t=>
   obtain ⟨c,hct,hv⟩:=h.tmps.get hg;obtain ⟨F',hF,hrel,hfz,hfv⟩:=b4Q h (Frz.refl S) (hv.isCell hcell) hz hob;refine ⟨F',ι,?_⟩;have ht:(S.upds us).t=S.t:=hfz.2.2.1;show u6 Γ F' ι {S.upds us with t:=(S.upds us).t.set t v'} a w
   refine hrel.withT ?_;have:=hrel.tmps.set t (b:=c) (.one _ _ (.cell _ _ (.fv _ _ hfv)));rwa [a0u hct] at this
  | sub t i=>
   unfold St.get at hg;simp only at hg;split at hg<;>try (cases hg;done)
   rename_i cs hcs;obtain ⟨c,hct,hv⟩:=h.tmps.get hcs;cases hv with
   | one v c hv=>
    cases hv with
    | cell v c hv=>cases hv with|fv v c hv=>cases hv
    | agg cs ds hv=>
     obtain ⟨c,hci,hvi⟩:=hv.get hg;obtain ⟨F',hF,hrel,hfz,hfv⟩:=b4Q h (Frz.refl S) hvi hz hob;refine ⟨F',ι,?_⟩;have ht:(S.upds us).t=S.t:=hfz.2.2.1;unfold St.put;simp only [ht,hcs];have h2:=hrel.tmps;rw [ht] at h2;have:=hrel.withT (t:=S.t.set t (.agg (cs.set i v'))) ?_
     ·exact this
     ·have hagg:=h2.get hcs;obtain ⟨c',hct',hv'⟩:=hagg;rw [hct] at hct';injection hct' with hct';have hv2:x9 (RC w F' (S.upds us).D ι) cs ds:=by
       refine hv.imp fun _ _ x=>x.mono (fun _ _ _=>rfl) hF (fun k y=>(a0z S k us).2 y) (fun _ _ _=>rfl)
      have hset:=hv2.set i (b:=c) (.fv _ _ hfv);rw [a0u hci] at hset;have:=h2.set t (b:=.agg ds.toArray) (.one _ _ (.agg _ _ hset));rwa [a0u hct] at this
  | cell g j i=>
   unfold St.get at hg;simp only at hg;split at hg<;>try (cases hg;done)
   rename_i e cs hcs;obtain ⟨g0,cur,q1,q2,q3⟩:=h.ents g j _ hcs;obtain ⟨c,hci,hvi⟩:=q3.get hg;obtain ⟨F',hF,hrel,hfz,hfv⟩:=b4Q h (Frz.refl S) hvi hz hob;refine ⟨F',ι,?_⟩;have hcs':(S.upds us).ent g j=some (.var e cs):=by
    rcases hfz.2.2.2 _ _ _ hcs with q|⟨e',sz,n,rows,q,_⟩
    ·exact q
    ·cases q
   unfold St.put;simp only [hcs'];refine hrel.write hcs' rfl ⟨rfl,rfl,rfl⟩ rfl (fun _ _=>rfl) (fun _ => ?_) (fun _ hk=>hk);have hset:=(q3.imp fun _ _ x=>RC.mono (D':=((S.upds us).setE g j (.var e (cs.set i v'))).D) (F':=F') (w':=w) (ι':=ι) (fun _ _ _=>rfl) hF (fun k y=>R3.2 ((a0z S k us).2 y)) (fun _ _ _=>rfl) x).set i (b:=c) (.fv _ _ hfv);rw [a0u hci] at hset;exact ⟨g0,cur,q1,q2,hset⟩
 ·rename_i l v';split at hf<;>try (cases hf;done)
  rename_i v hg;split at hf<;>try (cases hf;done)
  rename_i hcell;injection hf with hf;injection hf with hf hf2;subst hf;subst hf2;have:v=v':=hob _ (by simp);subst this;exact ⟨F,ι,h.putL hg hcell fun _ x=>x⟩
 ·rename_i g j e';split at hf<;>try (cases hf;done)
  rename_i e he;injection hf with hf;injection hf with hf hf2;subst hf;subst hf2;have:e=e':=hob _ (by simp);subst this;have hset:S.setE g j e=S:=by
   obtain ⟨l,hl⟩:=St.D_of_ent he;rw [a3A hl];rw [a1N hl] at he;rw [a0u he,a0u hl]
  rw [hset];exact ⟨F,ι,h⟩
 ·rename_i g j idx off r e;exact ⟨F,ι,f0I (g:=g) (j:=j) (idx:=idx) (off:=off) (r:=r) (e:=e) h hf hob⟩
 ·rename_i g j;split at hf<;>try (cases hf;done)
  rename_i e he;injection hf with hf;injection hf with hf hf2;subst hf;exact ⟨F,ι,h.kill he⟩
 ·rename_i g j n' rows';exact ⟨F,ι,e4s (g:=g) (j:=j) (n':=n') (rows':=rows') h hf hob⟩
 ·rename_i l e sz;split at hf<;>try (cases hf;done)
  rename_i hg;injection hf with hf;injection hf with hf hf2;subst hf;have hn:¬(S.more 1).D S.h.length:=fun q=>by
   obtain ⟨x,hx⟩:=b0r.1 q;have:=(f6g.1 hx).1;omega
  have hlen:S.h.length<(S.more 1).h.length:=by simp [St.more,a4b]
  have hor:OR w F e sz (.slice none 0 0) 0 []:=⟨[],⟨by simp,.inl ⟨rfl,rfl⟩⟩,.nil,rfl,by simp⟩
  have hno:∀(j:Nat) (e':s8) (k:Nat),([.deep false e sz 0 []]:List s8)[j]?=some e'->EB w e' (L7 ι S.h.length (.slice none 0 0) S.h.length j) k->False:=by
   intro j e' k he hk;rw [P8] at hk;cases j with
   | zero=>
    simp at he;subst he;have:=(EB.deep_iff (F:=F) (D:=S.D) (ι:=ι) (flat:=[]) (fs:=[]) ⟨by simp,.inl ⟨rfl,rfl⟩⟩ .nil).1 hk;simp [E3,B3] at this
   | succ j=>simp at he
  have h1:=(h.more 1).lay hlen hn (new:=[.deep false e sz 0 []]) (ι':=L7 ι S.h.length (.slice none 0 0)) (fun g j q=>a92 q)
   (fun j e' he=>by
    cases j with
    | zero=>
     simp at he;subst he;rw [P8];exact ⟨[],[],⟨by simp,.inl ⟨rfl,rfl⟩⟩,.nil,rfl,by simp,by simp [E3,B3],fun _=>by simp [I2]⟩
    | succ j=>simp at he)
   (fun j e' k he hl hk=>(hno j e' k he hk).elim)
   (fun j e' j' e'' k he he' hl hl' hk hk'=>(hno j e' k he hk).elim)
   (fun j e' g' j' e'' k he he' hl hl' hk=>(hno j e' k he hk).elim)
  refine ⟨F,_,h1.putL (c7M (c8g hg) hn) rfl fun c hc => ?_⟩;have hcn:c=.slice none 0 0:=by
   cases hc with
   | fv v c hc=>cases hc;rfl
  subst hcn;exact RC.whole (a0N hlen) P8 hor
theorem e54(fs:List Fix):∀{S:St} {F:Nat->Prop} {ι:Nat->Nat->Value} {ps:List Prop},u6 Γ F ι S a w->b3Z fs S=some (S',ps)->(∀p∈ps,p)->∃F' ι',u6 Γ F' ι' S' a w:=by
 induction fs with
 | nil=>
  intro S F ι ps h hf hob;injection hf with hf;injection hf with hf hf2;subst hf;exact ⟨F,ι,h⟩
 | cons f fs ih=>
  intro S F ι ps h hf hob;unfold b3Z at hf;cases h1:a6s f S with
  | none=>rw [h1] at hf;cases hf
  | some x1=>
  obtain ⟨S1,ps1⟩:=x1;rw [h1] at hf;simp only at hf;cases h2:b3Z fs S1 with
  | none=>rw [h2] at hf;cases hf
  | some x2=>
  obtain ⟨S2,ps2⟩:=x2;rw [h2] at hf;simp only at hf;injection hf with hf;injection hf with hf hf2;subst hf;subst hf2;obtain ⟨F1,ι1,h3⟩:=f2l h h1 (fun p hp=>hob p (f6b.2 (.inl hp)));exact ih h3 h2 (fun p hp=>hob p (f6b.2 (.inr hp)))
end
def a8m:List (Nat×Nat)->Nat×Nat->Nat->Option Nat
 | [],_,_=>none
 | y::l,x,i=>if y.1==x.1&&y.2==x.2 then some i else a8m l x (i+1)
def a9n(gs:List (Nat×Nat))(g j:Nat):Option (Nat×Nat):=
 match a8m gs (g,j) 1 with
 | some i=>some (i,0)
 | none=>match g with
  | 0=>some (0,j)
  | _+1=>none
def W4(gs:List (Nat×Nat))(v:V):V:=
 match v with
 | .own g j sz lo n=>match a9n gs g j with
  | some (g',j')=>.own g' j' sz lo n
  | none=>.bot
 | .ptr g j off=>match a9n gs g j with
  | some (g',j')=>.ptr g' j' off
  | none=>.bot
 | .eptr g j sz idx off=>match a9n gs g j with
  | some (g',j')=>.eptr g' j' sz idx off
  | none=>.bot
 | .fptr _=>.bot
 | .mp g j=>match a9n gs g j with
  | some (g',j')=>.mp g' j'
  | none=>.bot
 | v=>v
def b1q(gs:List (Nat×Nat))(v:V):V:=
 match v with
 | .agg cs=>.agg (cs.map (W4 gs))
 | v=>W4 gs v
def c3v(gs:List (Nat×Nat))(v:V):V:=
 match v with
 | .tup cs=>.tup (cs.map (b1q gs))
 | v=>b1q gs v
def a8g(gs:List (Nat×Nat))(e:s8):s8:=
 match e with
 | .var e cs=>.var e (cs.map (W4 gs))
 | .deep true _ _ _ _=>.dead
 | e=>e
def a8a(gs:List (Nat×Nat)):Nat->List Nat->List V->List V
 | _,_,[]=>[]
 | i,[],_::vs=>.bot::a8a gs (i+1) [] vs
 | i,k::ks,v::vs=>if Nat.beq k i then c3v gs v::a8a gs (i+1) ks vs else .bot::a8a gs (i+1) (k::ks) vs
def a7B(S:St)(gs0:List (Nat×Nat)):List (Nat×Nat)->List (Option (List s8))
 | []=>[]
 | id::gs=>some [match S.ent id.1 id.2 with
  | some e=>a8g gs0 e
  | none=>.dead]::a7B S gs0 gs
def b0N(gs:List (Nat×Nat)):Nat->List s8->List s8
 | _,[]=>[]
 | j,e::es=>(match a8m gs (0,j) 1 with
  | some _=>.dead
  | none=>a8g gs e)::b0N gs (j+1) es
def a1t(keep:List Nat)(gs:List (Nat×Nat))(S:St):Option St:=
 if a3n gs then
  some {t:=a8a gs 0 keep S.t,h:=(match S.h with
   | some l::_=>some (b0N gs 0 l)
   | _=>none)::a7B S gs gs}
 else none
section
variable {cx:Cx} {Γ:O5} {F:Nat->Prop} {ι:Nat->Nat->Value} {S S':St} {a:Act} {w:World} {keep:List Nat}
theorem d30:∀{l:List (Nat×Nat)} {x:Nat×Nat} {i k:Nat},a8m l x i=some k->i<=k/\l[k-i]?=some x
 | [],x,i,k,h=>by cases h
 | y::l,x,i,k,h=>by
  unfold a8m at h;split at h
  ·rename_i q;injection h with h;subst h;simp at q;have:y=x:=Prod.ext q.1 q.2;exact ⟨f6s _,by simp [this]⟩
  ·obtain ⟨h1,h2⟩:=d30 h;refine ⟨by omega,?_⟩;have:k-i=(k-(i+1))+1:=by omega
   rw [this];simpa using h2
def a5u(ι:Nat->Nat->Value)(gs:List (Nat×Nat))(g j:Nat):Value:=
 match g with
 | 0=>ι 0 j
 | g+1=>match gs[g]? with
  | some id=>ι id.1 id.2
  | none=>.nilFunc
theorem c4y{gs0:List (Nat×Nat)}:∀{gs:List (Nat×Nat)} {i:Nat} {id:Nat×Nat},gs[i]?=some id->(a7B S gs0 gs)[i]?=some (some [match S.ent id.1 id.2 with
  | some e=>a8g gs0 e
  | none=>.dead])
 | id'::gs,0,id,h=>by simp at h;subst h;simp [a7B]
 | id'::gs,i+1,id,h=>by simp at h;simp [a7B,c4y h]
theorem c6S{gs0:List (Nat×Nat)}:∀{gs:List (Nat×Nat)},(a7B S gs0 gs).length=gs.length
 | []=>rfl
 | _::gs=>by simp [a7B,c6S]
theorem d3e{gs:List (Nat×Nat)}(hp:a1t keep gs S=some S')(hD:S.D 0):S'.D 0:=by
 unfold a1t at hp;split at hp<;>try (cases hp;done)
 injection hp with hp;subst hp;obtain ⟨l,hl⟩:=hD;have:∃t,S.h=some l::t:=by
  cases hh:S.h with
  | nil=>rw [hh] at hl;simp at hl
  | cons x t=>rw [hh] at hl;simp at hl;exact ⟨t,by rw [hl]⟩
 obtain ⟨t,ht⟩:=this;rw [ht];exact ⟨_,rfl⟩
theorem b1v{gs:List (Nat×Nat)}(hp:a1t keep gs S=some S'){g j g' j':Nat}(hn:a9n gs g j=some (g',j'))(hD:S.D g):S'.D g'/\a5u ι gs g' j'=ι g j:=by
 unfold a9n at hn;split at hn
 ·rename_i i hi;injection hn with hn;injection hn with h1 h2;subst h1;subst h2;unfold a1t at hp;split at hp<;>try (cases hp;done)
  injection hp with hp;subst hp;obtain ⟨h3,h4⟩:=d30 hi;obtain ⟨m,rfl⟩:∃m,i=m+1:=⟨i-1,by omega⟩
  simp only [Nat.add_sub_cancel] at h4;refine ⟨⟨_,(f7r).trans (c4y h4)⟩,?_⟩;simp [a5u,h4]
 ·split at hn<;>try (cases hn;done)
  injection hn with hn;injection hn with h1 h2;subst h1;subst h2;exact ⟨d3e hp hD,rfl⟩
theorem d4P:∀{l:List (Nat×Nat)} {x:Nat×Nat} {i:Nat},a8m l x i=none->x ∉ l
 | [],x,i,_=>by simp
 | y::l,x,i,h=>by
  unfold a8m at h;split at h
  ·cases h
  ·rename_i q;intro hx;rcases f6j.1 hx with rfl|hx
   ·simp at q
   ·exact d4P h hx
theorem c7b{gs:List (Nat×Nat)}:∀{l:List s8} {i j:Nat} {e:s8},(b0N gs i l)[j]?=some e->e=.dead\/∃e0,l[j]?=some e0/\e=a8g gs e0/\(0,i+j) ∉ gs
 | [],i,j,e,h=>by simp [b0N] at h
 | e1::l,i,0,e,h=>by
  simp only [b0N,f7l] at h;injection h with h;split at h
  ·exact .inl h.symm
  ·rename_i hq;exact .inr ⟨e1,rfl,h.symm,by simpa using d4P hq⟩
 | e1::l,i,j+1,e,h=>by
  simp only [b0N,f7r] at h;rcases c7b h with h1|⟨e0,h1,h2,h3⟩
  ·exact .inl h1
  ·exact .inr ⟨e0,by simpa using h1,h2,by rw [show i+(j+1)=i+1+j by omega];exact h3⟩
theorem RC.ren{gs:List (Nat×Nat)}(hp:a1t keep gs S=some S'){v:V}{c:Value}(h:RC w F S.D ι v c):RC w F S'.D (a5u ι gs) (W4 gs v) c:=by
 cases h with
 | fv v c h=>
  have:W4 gs v=v:=by cases h<;>rfl
  rw [this];exact .fv _ _ h
 | own g j sz lo n b nn cap hD hι hlo hb0 hb1=>
  unfold W4;simp only;split
  ·rename_i g' j' hn;obtain ⟨h1,h2⟩:=b1v (ι:=ι) hp hn hD;exact .own g' j' sz lo n b nn cap h1 (h2.trans hι) hlo hb0 hb1
  ·exact .fv _ _ (.bot _ rfl)
 | own0 g j sz lo b cap hD hlo=>
  unfold W4;simp only;split
  ·rename_i g' j' hn;obtain ⟨h1,h2⟩:=b1v (ι:=ι) hp hn hD;exact .own0 g' j' sz lo b cap h1 hlo
  ·exact .fv _ _ (.bot _ rfl)
 | ptr g j off B3 hD hι=>
  unfold W4;simp only;split
  ·rename_i g' j' hn;obtain ⟨h1,h2⟩:=b1v (ι:=ι) hp hn hD;exact .ptr g' j' off B3 h1 (h2.trans hι)
  ·exact .fv _ _ (.bot _ rfl)
 | eptr g j sz idx off b hD hι=>
  unfold W4;simp only;split
  ·rename_i g' j' hn;obtain ⟨h1,h2⟩:=b1v (ι:=ι) hp hn hD;exact .eptr g' j' sz idx off b h1 (by rw [h2];exact hι)
  ·exact .fv _ _ (.bot _ rfl)
 | fptr cs g o ds hF h hs=>exact .fv _ _ (.bot _ rfl)
 | mp g j B3 hD hι=>
  unfold W4;simp only;split
  ·rename_i g' j' hn;obtain ⟨h1,h2⟩:=b1v (ι:=ι) hp hn hD;exact .mp g' j' B3 h1 (h2.trans hι)
  ·exact .fv _ _ (.bot _ rfl)
theorem x9.maps{α α' β:Type}{R:α->β->Prop}{R':α'->β->Prop}(f:α->α')(hf:∀x y,R x y->R' (f x) y):∀{B2 bs},x9 R B2 bs->x9 R' (B2.map f) bs
 | _,_,.nil=>.nil
 | _,_,.cons h t=>.cons (hf _ _ h) (t.maps f hf)
theorem RA.ren{gs:List (Nat×Nat)}(hp:a1t keep gs S=some S'){v:V}{c:Value}(h:RA w F S.D ι v c):RA w F S'.D (a5u ι gs) (b1q gs v) c:=by
 cases h with
 | cell v c h=>
  have:b1q gs v=W4 gs v:=by
   cases h with
   | fv v c h=>cases h<;>rfl
   | _=>rfl
  rw [this];exact .cell _ _ (h.ren hp)
 | agg cs ds h=>exact .agg _ _ (h.maps _ fun _ _ x=>x.ren hp)
theorem RV.ren{gs:List (Nat×Nat)}(hp:a1t keep gs S=some S'){v:V}{c:Value}(h:RV w F S.D ι v c):RV w F S'.D (a5u ι gs) (c3v gs v) c:=by
 cases h with
 | one v c h=>
  have:c3v gs v=b1q gs v:=by
   cases h with
   | cell v c h=>
    cases h with
    | fv v c h=>cases h<;>rfl
    | _=>rfl
   | agg cs ds h=>rfl
  rw [this];exact .one _ _ (h.ren hp)
 | tup cs ds h=>exact .tup _ _ (h.maps _ fun _ _ x=>x.ren hp)
 | any c=>exact .any c
theorem b5n{gs:List (Nat×Nat)}(hp:a1t keep gs S=some S'):∀{vs:List V} {cs:List Value},x9 (RV w F S.D ι) vs cs->∀(i:Nat) (ks:List Nat),x9 (RV w F S'.D (a5u ι gs)) (a8a gs i ks vs) cs
 | _,_,.nil,i,ks=>by cases ks<;>exact .nil
 | _,_,.cons h t,i,[]=>.cons (.any _) (b5n hp t _ _)
 | _,_,.cons h t,i,k::ks=>by
  unfold a8a;split
  ·exact .cons (h.ren hp) (b5n hp t _ _)
  ·exact .cons (.any _) (b5n hp t _ _)
theorem b88{gs:List (Nat×Nat)}(hp:a1t keep gs S=some S'){g j:Nat}{e:s8}(he:S'.ent g j=some e):e=.dead\/∃g0 j0 e0,S.ent g0 j0=some e0/\e=a8g gs e0/\a5u ι gs g j=ι g0 j0/\((g=0/\g0=0/\j=j0/\(0,j) ∉ gs)\/(∃i,g=i+1/\j=0/\gs[i]?=some (g0,j0))):=by
 unfold a1t at hp;split at hp<;>try (cases hp;done)
 injection hp with hp;subst hp;cases g with
 | zero=>
  unfold St.ent at he;simp only [f7l] at he;split at he<;>try (cases he;done)
  rename_i l hl;injection hl with hl;split at hl<;>try (cases hl;done)
  rename_i l0 t hh;injection hl with hl;subst hl;rcases c7b he with h1|⟨e0,h1,h2,h3⟩
  ·exact .inl h1
  ·exact .inr ⟨0,j,e0,by unfold St.ent;rw [hh];exact h1,h2,rfl,.inl ⟨rfl,rfl,rfl,by simpa using h3⟩⟩
 | succ i=>
  unfold St.ent at he;simp only [f7r] at he;split at he<;>try (cases he;done)
  rename_i l hl;have hlt:i<gs.length:=by
   have:=(f6g.1 hl).1;rwa [c6S] at this
  have hgi:gs[i]?=some gs[i]:=f5Z hlt;generalize gs[i]=id at hgi;rw [c4y hgi] at hl;injection hl with hl;injection hl with hl;subst hl;cases j with
  | succ j=>simp at he
  | zero=>
   simp only [f7l] at he;injection he with he;cases hx:S.ent id.1 id.2 with
   | none=>rw [hx] at he;exact .inl he.symm
   | some e0=>
    rw [hx] at he;exact .inr ⟨id.1,id.2,e0,hx,he.symm,by simp [a5u,hgi],.inr ⟨i,rfl,rfl,hgi⟩⟩
theorem f3b{α:Type}{l:List α}(h:l.Nodup){i j:Nat}{x:α}(hi:l[i]?=some x)(hj:l[j]?=some x):i=j:=by
 obtain ⟨h1,h2⟩:=f6g.1 hi;obtain ⟨h3,h4⟩:=f6g.1 hj;exact (List.getElem_inj h).1 (h2.trans h4.symm)
theorem e2o{gs:List (Nat×Nat)}(h:u6 Γ F ι S a w)(hp:a1t keep gs S=some S'):∃ι',u6 Γ F ι' S' a w:=by
  have hnd:gs.Nodup:=by
    unfold a1t at hp;split at hp<;>try (cases hp;done)
    rename_i hchk;exact a4Y hchk
  have hlive:∀e:s8,(a8g gs e).live=true->e.live=true/\∀c k,EB w (a8g gs e) c k->EB w e c k:=by
    intro e he;cases e with
    | deep o e sz n rows=>
      cases o with
      | true=>cases he
      | false=>exact ⟨rfl,fun _ _ hk=>hk⟩
    | _=>exact ⟨he,fun _ _ hk=>hk⟩
  have ht:S'.t=a8a gs 0 keep S.t:=by
    unfold a1t at hp;split at hp<;>try (cases hp;done)
    injection hp with hp;subst hp;rfl
  refine ⟨a5u ι gs,?_⟩;exact
    { F0:=h.F0,F1:=h.F1,F2:=h.F2,kept:=h.kept
      tmps:=by rw [ht];exact b5n hp h.tmps 0 keep
      ents:=fun g j e he=>by
        rcases b88 (ι:=ι) hp he with rfl|⟨g0,j0,e0,h0,rfl,h2,_⟩
        · trivial
        · rw [h2];have hr:=h.ents _ _ _ h0;cases e0 with
          | var e cs=>
            obtain ⟨g1,cur,q1,q2,q3⟩:=hr;exact ⟨g1,cur,q1,q2,q3.maps _ fun _ _ x=>x.ren hp⟩
          | dead=>exact hr
          | arr e sz n rows=>exact hr
          | row e sz n rows=>exact hr
          | frz sz n rows=>exact hr
          | map t m es=>exact hr
          | deep o e sz n rows=>
            cases o with
            | true=>trivial
            | false=>
              obtain ⟨flat,fs,q1,q2,q3,q4,q5,q6⟩:=hr;exact ⟨flat,fs,q1,(q2.blOf (q6 rfl).flat).kl,q3,q4,q5,q6⟩
      sep:=fun g j e k he hl hk=>by
        rcases b88 (ι:=ι) hp he with rfl|⟨g0,j0,e0,h0,rfl,h2,_⟩
        · cases hl
        · rw [h2] at hk;exact h.sep _ _ _ k h0 (hlive _ hl).1 ((hlive _ hl).2 _ _ hk)
      inj:=fun g1 j1 e1 g2 j2 e2 k he1 he2 hl1 hl2 hk1 hk2=>by
        rcases b88 (ι:=ι) hp he1 with rfl|⟨x1,y1,z1,a1,rfl,b1,c1⟩
        · cases hl1
        rcases b88 (ι:=ι) hp he2 with rfl|⟨x2,y2,z2,a2,rfl,b2,c2⟩
        · cases hl2
        rw [b1] at hk1;rw [b2] at hk2;obtain ⟨q1,q2⟩:=h.inj _ _ _ _ _ _ k a1 a2 (hlive _ hl1).1 (hlive _ hl2).1 ((hlive _ hl1).2 _ _ hk1) ((hlive _ hl2).2 _ _ hk2);rcases c1 with ⟨u1,u2,u3,u4⟩|⟨i1,u1,u2,u3⟩<;>rcases c2 with ⟨v1,v2,v3,v4⟩|⟨i2,v1,v2,v3⟩
        · exact ⟨by omega,by omega⟩
        · refine absurd (f6o v3) ?_;rw [<-q1,<-q2,u2,<-u3];exact u4
        · refine absurd (f6o u3) ?_;rw [q1,q2,v2,<-v3];exact v4
        · rw [q1,q2] at u3;have:=f3b hnd u3 v3;exact ⟨by omega,by omega⟩
      defers:=h.defers
      pins:=fun j c hc=>by
        obtain ⟨h1,h2⟩:=h.pins j c hc;exact ⟨d3e hp h1,h2⟩}
end
def a9m(cx:Cx)(k:List Item)(S:St)(sc:R7)(fs:List Fix)(keep:List Nat)(gs:List (Nat×Nat)):Option (List Item×St×List Prop):=
 match goM cx 4000 k S sc with
 | some (k1,S1,ps)=>match b3Z fs S1 with
  | some (S2,qs)=>match a1t keep gs S2 with
   | some S3=>some (k1,S3,ps++qs)
   | none=>none
  | none=>none
 | none=>none
theorem K1.seg0{cx:Cx}{X:O7}{res:V}{outs:List (Option V)}{k k':List Item}{S S':St}{sc:R7}{fs:List Fix}{keep:List Nat}{gs:List (Nat×Nat)}{ps:List Prop}(hg:a9m cx k S sc fs keep gs=some (k',S',ps))(hob:∀p∈ps,p)(h:K1 cx X res outs k' S'):K1 cx X res outs k S:=by
 unfold a9m at hg;split at hg<;>try (cases hg;done)
 rename_i k1 S1 ps' h1;split at hg<;>try (cases hg;done)
 rename_i S2 qs h2;split at hg<;>try (cases hg;done)
 rename_i S3 h3;injection hg with hg;injection hg with e1 e2;injection e2 with e2 e3;subst e1;subst e2;subst e3;refine K1.go h1 (fun p hp=>hob p (f6b.2 (.inl hp))) ?_;intro w0 F0 fp cargs bs hp hF0 F ι a w b cs hrel hb1 hb2;obtain ⟨F',ι',hrel'⟩:=e54 fs hrel h2 (fun p hp=>hob p (f6b.2 (.inr hp)));obtain ⟨ι2,hrel2⟩:=e2o hrel' h3;exact h w0 F0 fp cargs bs hp hF0 F' ι2 a w b cs hrel2 hb1 hb2
def a9R(cx:Cx)(X:O7)(k:List Item)(S:St)(sc:R7):Option (V×List (Option V)×List Prop):=
 match goM cx 4000 k S sc with
 | some (k1,S1,ps)=>match c2o cx X k1 S1 with
  | some (res,outs,qs)=>some (res,outs,ps++qs)
  | none=>none
 | none=>none
theorem K1.fin0{cx:Cx}{X:O7}{res:V}{outs:List (Option V)}{k:List Item}{S:St}{sc:R7}{ps:List Prop}(hf:cx.P.funcs[X.f]?=some X.fn)(hg:a9R cx X k S sc=some (res,outs,ps))(hob:∀p∈ps,p):K1 cx X res outs k S:=by
 unfold a9R at hg;split at hg<;>try (cases hg;done)
 rename_i k1 S1 ps' h1;split at hg<;>try (cases hg;done)
 rename_i r o qs h2;injection hg with hg;injection hg with e1 e2;injection e2 with e2 e3;subst e1;subst e2;subst e3;exact K1.go h1 (fun p hp=>hob p (f6b.2 (.inl hp))) (K1.ret hf h2 fun p hp=>hob p (f6b.2 (.inr hp)))
def P7:List Prop->Prop
 | []=>True
 | p::ps=>p/\P7 ps
theorem P7.mem:∀{ps:List Prop},P7 ps->∀p∈ps,p
 | _::_,h,p,hp=>by
  rcases f6j.1 hp with rfl|hp
  ·exact h.1
  ·exact P7.mem h.2 p hp
theorem P7.nil:P7 []:=trivial
theorem K1.seg{cx:Cx}{X:O7}{res:V}{outs:List (Option V)}{k k':List Item}{S S':St}(sc:R7)(fs:List Fix)(keep:List Nat)(gs:List (Nat×Nat))(ps:List Prop)(hob:P7 ps)(h:K1 cx X res outs k' S')(hg:a9m cx k S sc fs keep gs=some (k',S',ps)):K1 cx X res outs k S:=
 K1.seg0 hg hob.mem h
theorem K1.fin{cx:Cx}{X:O7}{res:V}{outs:List (Option V)}{k:List Item}{S:St}(hf:cx.P.funcs[X.f]?=some X.fn)(sc:R7)(ps:List Prop)(hob:P7 ps)(hg:a9R cx X k S sc=some (res,outs,ps)):K1 cx X res outs k S:=
 K1.fin0 hf hg hob.mem
def a6g:V->Bool
 | .osl .. | .dsl .. | .optr .. => true
 | _=>false
def a16:List (Option Nat)->List V->Bool
 | [],[]=>true
 | none::om,.osl .. :: _=>false
 | none::om,.dsl .. :: _=>false
 | none::om,_::vs=>a16 om vs
 | some _::om,.osl .. :: vs=>a16 om vs
 | some _::om,.dsl .. :: vs=>a16 om vs
 | _,_=>false
def c6W:PM->V->Bool
 | .val _ om,.agg vs=>a16 om vs
 | .val ..,_=>false
 | .part,_=>false
 | _,v=>a6g v
def a3I:Nat->List (Option (Nat×PM))->List V->Bool
 | _,[],[]=>true
 | j,none::os,v::vs=>a3I (j+(J6 0 j v).2.length) os vs
 | j,some (j',m)::os,v::vs=>Nat.beq j' j&&c6W m v&&a3I (j+(J6 0 j v).2.length) os vs
 | _,_,_=>false
def b9M:Nat->List V
 | 0=>[]
 | n+1=>.bot::b9M n
def a9E(X:O7)(args:List V):St:=
 let x:=X9 0 0 args
 {t:=x.1++b9M (X.fn.ntmps-args.length),h:=[some x.2]}
section
variable {w:World} {F:Nat->Prop}
theorem e0G{v:V}{c:Value}{f:List Nat}(h:BA w F v c f)(j:Nat):∃bs:List Value,bs.length=(J6 0 j v).2.length/\H6 w (J6 0 j v).2 bs f/\(a6g v=true->bs.head?=some c)/\
  ∀(D:Nat->Prop) (ι:Nat->Nat->Value),D 0->At ι 0 j bs->f.Nodup->RA w F D ι (J6 0 j v).1 c/\Lie w F D ι (J6 0 j v).2 bs:=by
 by_cases ho:a6g v=true
 ·cases h with
  | cell v c f h=>
   cases h with
   | fv v c h=>cases h<;>cases ho
   | osl e sz n rows c h=>
    refine ⟨[c],rfl,.one fun k hk=>R1.2 hk,fun _=>rfl,fun D ι hD hat _=>⟨.cell _ _ (RC.whole hD (hat 0 c rfl) h),?_⟩⟩;intro k e' b he hb;cases k with
    | zero=>
     simp [J6,J1] at he hb;subst he;subst hb;exact h
    | succ k=>simp [J6,J1] at he
   | dsl e sz n rows c flat fs h1 h2 h3 h4=>
    obtain ⟨bs,q1,q2,q3⟩:=b7f (grp:=0) (BC.dsl e sz n rows c flat fs h1 h2 h3 h4) j;refine ⟨[c],rfl,.one fun k hk=>(EB.deep_iff (D:=fun _=>True) (ι:=fun _ _=>.nilFunc) h1 h2.kl).1 hk,fun _=>rfl,fun D ι hD hat hnd=>⟨.cell _ _ (RC.wholeO hD (hat 0 c rfl) h1),?_⟩⟩;intro k e' b he hb;cases k with
    | zero=>
     simp [J6,J1] at he hb;subst he;subst hb;exact ⟨flat,fs,h1,h2.kl,h3,h4,hnd,fun _=>I2.of_flat h2.noRef⟩
    | succ k=>simp [J6,J1] at he
  | agg cs ds f h=>cases ho
  | optr e cs g cur f hg h=>
   obtain ⟨bs,h1,h2,h3⟩:=a80 (grp:=0) h (j+1);refine ⟨.pointer (some ⟨g,0,none⟩)::bs,by simp [J6,h1],?_,fun _=>rfl,fun D ι hD hat hnd => ?_⟩
   ·exact H6.cons (w:=w) (e:=.var e (K8 0 (j+1) cs).1) (b:=.pointer (some ⟨g,0,none⟩)) (f1:=[g]) (fun k hk=>by
     have hk:B3 (.pointer (some ⟨g,0,none⟩))=some k:=hk;simp [B3] at hk;simp [hk]) h2
   have hat':At ι 0 (j+1) bs:=fun k b hb=>by
    have:=hat (k+1) b (by simpa using hb);rw [<-this];congr 1;omega
   obtain ⟨x,y⟩:=h3 D ι hD hat' (f7z.1 hnd).2;refine ⟨.cell _ _ (.ptr 0 j 0 g hD (hat 0 _ rfl)),?_⟩;intro k e' b he hb;cases k with
   | zero=>
    simp [J6] at he hb;subst he;subst hb;exact ⟨g,cur,rfl,hg,x⟩
   | succ k=>exact y k e' b (by simpa [J6] using he) (by simpa using hb)
 ·obtain ⟨bs,h1,h2,h3⟩:=c5I (grp:=0) h j;exact ⟨bs,h1,h2,fun q=>absurd q ho,h3⟩
theorem c4X{pre b1 b2:List Value}:∀{om:List (Option Nat)} {j:Nat} {ds:List Value},a6Z (pre++b1) om j ds->a6Z (pre++(b1++b2)) om j ds
 | [],_,[],_=>trivial
 | none::om,j,d::ds,h=>⟨h.1,c4X h.2⟩
 | some _::om,j,d::ds,h=>by
  refine ⟨?_,c4X h.2⟩;have h1:=h.1;rw [<-f6r,f6x (f6g.1 h1).1];exact h1
 | [],_,_::_,h=>h.elim
 | none::_,_,[],h=>h.elim
 | some _::_,_,[],h=>h.elim
theorem c8Z:∀{vs:List V} {cs:List Value} {f:List Nat},BL w F vs cs f->∀j,∃bs:List Value,bs.length=(K8 0 j vs).2.length/\H6 w (K8 0 j vs).2 bs f/\
    (∀(om:List (Option Nat)) (pre:List Value),pre.length=j->a16 om vs=true->a6Z (pre++bs) om j cs)/\
    ∀(D:Nat->Prop) (ι:Nat->Nat->Value),D 0->At ι 0 j bs->f.Nodup->x9 (RC w F D ι) (K8 0 j vs).1 cs/\Lie w F D ι (K8 0 j vs).2 bs
  | _,_,_,.nil,j=>⟨[],rfl,.nil,fun om pre _ h=>by cases om with|nil=>trivial|cons o om=>cases o<;>simp [a16] at h,fun D ι hD hat _=>⟨.nil,fun k e b he=>by simp [K8] at he⟩⟩
  | _,_,_,.cons v c f vs cs fs h t,j=>by
    have hone:=h.one;have hb:∃b1:List Value,b1.length=(J1 0 j v).2.length/\H6 w (J1 0 j v).2 b1 f/\(a6g v=true->b1=[c])/\(a6g v=false->b1=[])/\∀(D:Nat->Prop) (ι:Nat->Nat->Value),D 0->At ι 0 j b1->f.Nodup->RC w F D ι (J1 0 j v).1 c/\Lie w F D ι (J1 0 j v).2 b1:=by
      cases h with
      | fv v c h=>
        obtain ⟨b1,q1,q2,q3⟩:=b7f (grp:=0) (BC.fv (w:=w) v c h) j;have hv:(J1 0 j v).2=[]/\a6g v=false:=by cases h<;>exact ⟨rfl,rfl⟩
        have:b1=[]:=f6m (by rw [q1,hv.1];rfl);exact ⟨b1,q1,q2,fun q=>by (rw [hv.2] at q;cases q),fun _=>this,q3⟩
      | osl e sz n rows c h=>
        refine ⟨[c],rfl,.one fun k hk=>R1.2 hk,fun _=>rfl,(fun q=>by cases q),fun D ι hD hat _=>⟨RC.whole hD (hat 0 c rfl) h,?_⟩⟩;intro k e' b he hb;cases k with
        | zero=>
          simp [J1] at he hb;subst he;subst hb;exact h
        | succ k=>simp [J1] at he
      | dsl e sz n rows c flat fs h1 h2 h3 h4=>
        refine ⟨[c],rfl,.one fun k hk=>(EB.deep_iff (D:=fun _=>True) (ι:=fun _ _=>.nilFunc) h1 h2.kl).1 hk,fun _=>rfl,(fun q=>by cases q),fun D ι hD hat hnd=>⟨RC.wholeO hD (hat 0 c rfl) h1,?_⟩⟩;intro k e' b he hb;cases k with
        | zero=>
          simp [J1] at he hb;subst he;subst hb;exact ⟨flat,fs,h1,h2.kl,h3,h4,hnd,fun _=>I2.of_flat h2.noRef⟩
        | succ k=>simp [J1] at he
    obtain ⟨b1,hl1,hf1,hi1,hi0,h1⟩:=hb;obtain ⟨b2,hl2,hf2,hp2,h2⟩:=c8Z t (j+(J1 0 j v).2.length);refine ⟨b1++b2,by simp [K8,hl1,hl2],hf1.append hf2 hl1,?_,fun D ι hD hat hnd => ?_⟩
    · intro om pre hpre hok;have hnext:∀om,a16 om vs=true->a6Z (pre++(b1++b2)) om (j+(J1 0 j v).2.length) cs:=by
        intro om hok;have:=hp2 om (pre++b1) (by simp [hpre,hl1]) hok;rwa [f6r] at this
      cases om with
      | nil=>simp [a16] at hok
      | cons o om=>
        by_cases hv:a6g v=true
        · obtain rfl:=hi1 hv;have hlen:(J1 0 j v).2.length=1:=by rw [<-hl1];rfl
          rw [hlen] at hnext;cases o with
          | none => cases v<;>first|(cases hv;done)|(simp [a16] at hok;done)|skip
                    cases h;rename_i h;cases h
          | some e=>
            refine ⟨?_,hnext om ?_⟩
            · rw [f6q (by omega)];simp [hpre]
            · cases v<;>first|(cases hv;done)|(simpa [a16] using hok)|(simp [a16] at hok;done)
        · have hv:a6g v=false:=by simpa using hv
          obtain rfl:=hi0 hv;have hlen:(J1 0 j v).2.length=0:=by rw [<-hl1];rfl
          rw [hlen] at hnext;cases o with
          | none=>
            refine ⟨hone,hnext om ?_⟩;cases v<;>first|(cases hv;done)|(simpa [a16] using hok)
          | some e=>cases v<;>first|(cases hv;done)|(simp [a16] at hok;done)
    · rw [f6k] at hnd;obtain ⟨x1,y1⟩:=h1 D ι hD hat.left hnd.1;obtain ⟨x2,y2⟩:=h2 D ι hD (by rw [<-hl1];exact hat.right) hnd.2.1;exact ⟨.cons x1 x2,y1.append y2 hl1.symm⟩
theorem d8Q{v:V}{c:Value}{f:List Nat}(h:BA w F v c f)(j:Nat):∃bs:List Value,bs.length=(J6 0 j v).2.length/\H6 w (J6 0 j v).2 bs f/\
  (∀(m:PM) (oms:List (Option (Nat×PM))) (cs pre b2:List Value),pre.length=j->c6W m v=true->a1O oms cs (pre++(bs++b2))->a1O (some (j,m)::oms) (c::cs) (pre++(bs++b2)))/\
  ∀(D:Nat->Prop) (ι:Nat->Nat->Value),D 0->At ι 0 j bs->f.Nodup->RA w F D ι (J6 0 j v).1 c/\Lie w F D ι (J6 0 j v).2 bs:=by
 by_cases hv:∃cs,v=.agg cs
 ·obtain ⟨cs,rfl⟩:=hv;cases h with
  | cell v c f h=>cases h with|fv v c h=>cases h
  | agg cs ds f h=>
   obtain ⟨bs,h1,h2,hp,h3⟩:=c8Z h j;refine ⟨bs,h1,h2,?_,fun D ι hD hat hnd=>⟨.agg _ _ (h3 D ι hD hat hnd).1,(h3 D ι hD hat hnd).2⟩⟩;intro m oms cs' pre b2 hpre hm t;cases m with
   | val ck om=>exact .agg _ _ _ _ _ _ _ (c4X (hp om pre hpre hm)) t
   | ptr ck om=>cases hm
   | row=>cases hm
   | part=>cases hm
 ·obtain ⟨bs,h1,h2,hh,h3⟩:=e0G h j;refine ⟨bs,h1,h2,?_,h3⟩;intro m oms cs' pre b2 hpre hm t;cases m with
  | val ck om=>cases v<;>first|exact absurd ⟨_,rfl⟩ hv|cases hm
  | part=>cases hm
  | ptr ck om=>
   refine .pin _ _ _ _ _ _ rfl ?_ t;have:=hh hm;cases bs with
   | nil=>cases this
   | cons b b1=>
    injection this with this;subst this;rw [f6q (by omega)];simp [hpre]
  | row=>
   refine .pin _ _ _ _ _ _ rfl ?_ t;have:=hh hm;cases bs with
   | nil=>cases this
   | cons b b1=>
    injection this with this;subst this;rw [f6q (by omega)];simp [hpre]
theorem f3y{vs:List V}{cs:List Value}{f:List Nat}(h:BS w F vs cs f):∀j,∃bs:List Value,bs.length=(X9 0 j vs).2.length/\H6 w (X9 0 j vs).2 bs f/\
  (∀(oms:List (Option (Nat×PM))) (pre:List Value),pre.length=j->a3I j oms vs=true->a1O oms cs (pre++bs))/\
  ∀(D:Nat->Prop) (ι:Nat->Nat->Value),D 0->At ι 0 j bs->f.Nodup->x9 (RA w F D ι) (X9 0 j vs).1 cs/\Lie w F D ι (X9 0 j vs).2 bs:=by
 induction h with
 | nil=>
  refine fun j=>⟨[],rfl,.nil,fun oms pre _ hp => ?_,fun D ι hD hat _=>⟨.nil,fun k e b he=>by simp [X9] at he⟩⟩
  cases oms with
  | nil=>exact .nil _
  | cons o oms=>cases o<;>simp [a3I] at hp
 | cons v c f vs cs fs h t ih=>
  intro j;obtain ⟨b1,hl1,hf1,hh1,h1⟩:=d8Q h j;obtain ⟨b2,hl2,hf2,hp2,h2⟩:=ih (j+(J6 0 j v).2.length);refine ⟨b1++b2,by simp [X9,hl1,hl2],hf1.append hf2 hl1,?_,fun D ι hD hat hnd => ?_⟩
  ·intro oms pre hpre hp;cases oms with
   | nil=>simp [a3I] at hp
   | cons o oms=>
    have hnext:∀oms,a3I (j+(J6 0 j v).2.length) oms vs=true->a1O oms cs (pre++(b1++b2)):=by
     intro oms hp;have:=hp2 oms (pre++b1) (by simp [hpre,hl1]) hp;rwa [f6r] at this
    cases o with
    | none=>exact .skip _ _ _ _ (hnext oms (by simpa [a3I] using hp))
    | some q=>
     obtain ⟨j',m⟩:=q;simp only [a3I,f6d] at hp;obtain ⟨⟨e1,e2⟩,e3⟩:=hp;have hj:j'=j:=f6I e1;subst hj;exact hh1 m oms cs pre b2 hpre e2 (hnext oms e3)
  ·rw [f6k] at hnd;obtain ⟨x1,y1⟩:=h1 D ι hD hat.left hnd.1;obtain ⟨x2,y2⟩:=h2 D ι hD (by rw [<-hl1];exact hat.right) hnd.2.1;exact ⟨.cons x1 x2,y1.append y2 hl1.symm⟩
theorem d5e{D:Nat->Prop}{ι:Nat->Nat->Value}:∀n,x9 (RV w F D ι) (b9M n) (f6a n undef)
 | 0=>.nil
 | n+1=>.cons (.any _) (d5e n)
theorem BS.len{vs:List V}{cs:List Value}{f:List Nat}(h:BS w F vs cs f):vs.length=cs.length:=by
 induction h with
 | nil=>rfl
 | cons _ _ _ _ _ _ _ _ ih=>simp [ih]
end
theorem Z0.of{cx:Cx}{X:O7}{args:List V}{res:V}{outs:List (Option V)}{c:Code}(hf:cx.P.funcs[X.f]?=some X.fn)(hb:X.fn.body=some c) (hn:(X.fn.name == "runtime.NumGoroutine")=false) (ho:a3I 0 X.oms args=true)
    (h:K1 cx X res outs [.code c] (a9E X args)):Z0 cx.P X.f args res outs:=by
  refine ⟨⟨X.fn,hf,hn,by rw [hb];rfl⟩,?_⟩;intro w F cargs fp hbs hfpn hfp hF;obtain ⟨bs,hl,hbf,hpin,hlie⟩:=f3y hbs 0;have hpin':=hpin X.oms [] rfl ho;rw [f6V] at hpin';obtain ⟨hargs,hents⟩:=hlie (a9E X args).D (a5n (fun _ _=>.nilFunc) 0 bs) ⟨_,rfl⟩ (fun k b hb=>by rw [f7i];exact a5m hb) hfpn;have hent:∀g j e,(a9E X args).ent g j=some e->g=0/\(X9 0 0 args).2[j]?=some e:=by
    intro g j e he;unfold St.ent a9E at he;cases g with
    | zero=>exact ⟨rfl,he⟩
    | succ g=>simp at he
  have hget:∀j e,(X9 0 0 args).2[j]?=some e->∃b,bs[j]?=some b/\a5n (fun _ _=>.nilFunc) 0 bs 0 j=b:=by
    intro j e he;have hj:j<bs.length:=by rw [hl];exact (f6g.1 he).1
    exact ⟨bs[j],f5Z hj,a5m (f5Z hj)⟩
  have hrel:u6 ⟨w,F,(· ∈ fp),bs⟩ F (a5n (fun _ _=>.nilFunc) 0 bs) (a9E X args) {tmps:=cargs.toArray++Array.replicate (X.fn.ntmps-cargs.toArray.size) undef,defers:=[]} w:=
    { F0:=fun _ x=>x,F1:=hF,F2:=fun _ x=>.inl x,kept:=.refl _ _
      tmps:=by
        show x9 _ ((X9 0 0 args).1++b9M (X.fn.ntmps-args.length)) _
        simp only [Array.toList_append,Array.toList_replicate,f8c];rw [hbs.len];exact (hargs.imp fun _ _ x=>RV.one _ _ x).app (d5e _)
      ents:=fun g j e he=>by
        obtain ⟨rfl,he⟩:=hent g j e he;obtain ⟨b,hb,hv⟩:=hget j e he;rw [hv];exact hents j e b he hb
      sep:=fun g j e k he hl' hk=>by
        obtain ⟨rfl,he⟩:=hent g j e he;obtain ⟨b,hb,hv⟩:=hget j e he;rw [hv] at hk;have:=hbf.mem he hb hk;exact ⟨(hfp k this).1,.inl this⟩
      inj:=fun g j e g' j' e' k he he' hl1 hl2 hk hk'=>by
        obtain ⟨rfl,he⟩:=hent g j e he;obtain ⟨rfl,he'⟩:=hent g' j' e' he';obtain ⟨b,hb,hv⟩:=hget j e he;obtain ⟨b',hb',hv'⟩:=hget j' e' he';rw [hv] at hk;rw [hv'] at hk';exact ⟨rfl,hbf.inj hfpn he hb hk he' hb' hk'⟩
      defers:=rfl
      pins:=fun j c hc=>⟨⟨_,rfl⟩,a5m hc⟩}
  intro cs;let b:Frame:={ (default:Frame) with fn:=X.f,kind:=.normal}
  have henter:Frame.enter cx.P X.f cargs.toArray .normal =
      b.at {tmps:=cargs.toArray++Array.replicate (X.fn.ntmps-cargs.toArray.size) undef,defers:=[]} [.code c]:=by
    simp [Frame.enter,Frame.at,hf,hb,b]
  obtain ⟨e,w',fr,h1,h2,h3,h4⟩:=h w F fp cargs bs hpin' hF F _ _ w b cs hrel rfl rfl;rw [<-henter] at h2;exact ⟨e,w',fr,h1,h2,h3,h4⟩
inductive l7 (R S B:Type) where
 | ret (r:R)
 | brk (b:B)
 | nxt (s:S)
inductive m5 (R B:Type) where
 | ret (r:R)
 | brk (b:B)
def a0Y{R S B:Type}(body:S->Option (l7 R S B)):Nat->S->Option (m5 R B)
 | 0,_=>none
 | n+1,s=>match body s with
  | some (.ret r)=>some (.ret r)
  | some (.brk s)=>some (.brk s)
  | some (.nxt s)=>a0Y body n s
  | none=>none
open Classical in
def o9{R S B:Type}(body:S->Option (l7 R S B))(s:S):Option (m5 R B):=
 if h:∃n r,a0Y body n s=some r then some h.choose_spec.choose else none
theorem c4k{R S B:Type}{body:S->Option (l7 R S B)}:∀{n:Nat} {s:S} {r:m5 R B},a0Y body n s=some r->∀m,n<=m->a0Y body m s=some r
 | 0,s,r,h,_,_=>by cases h
 | n+1,s,r,h,0,hm=>by omega
 | n+1,s,r,h,m+1,hm=>by
  unfold a0Y at h⊢;cases hb:body s with
  | none=>rw [hb] at h;cases h
  | some st=>
   rw [hb] at h;cases st with
   | ret x=>exact h
   | brk x=>exact h
   | nxt x=>exact c4k h m (by omega)
theorem c3S{R S B:Type}{body:S->Option (l7 R S B)}{s:S}{r:m5 R B}:o9 body s=some r ↔ ∃n,a0Y body n s=some r:=by
 unfold o9;constructor
 ·intro h;split at h
  ·rename_i hx;injection h with h;exact ⟨_,h▸hx.choose_spec.choose_spec⟩
  ·cases h
 ·rintro ⟨n,h⟩
  have hx:∃n r,a0Y body n s=some r:=⟨n,r,h⟩
  rw [dif_pos hx];have h1:=hx.choose_spec.choose_spec;have h2:=c4k h1 _ (Nat.le_max_left _ n);have h3:=c4k h _ (Nat.le_max_right hx.choose n);rw [h2] at h3;exact h3
theorem c2p{R S B:Type}(body:S->Option (l7 R S B))(s:S):o9 body s=match body s with
  | some (.ret r)=>some (.ret r)
  | some (.brk s)=>some (.brk s)
  | some (.nxt s)=>o9 body s
  | none=>none:=by
 apply Option.ext;intro r;rw [c3S];cases hb:body s with
 | none=>
  constructor
  ·rintro ⟨n,h⟩
   cases n with
   | zero=>cases h
   | succ n=>unfold a0Y at h;rw [hb] at h;cases h
  ·intro h;cases h
 | some st=>
  cases st with
  | ret x=>
   constructor
   ·rintro ⟨n,h⟩
    cases n with
    | zero=>cases h
    | succ n=>unfold a0Y at h;rw [hb] at h;exact h
   ·intro h;exact ⟨1,by unfold a0Y;rw [hb];exact h⟩
  | brk x=>
   constructor
   ·rintro ⟨n,h⟩
    cases n with
    | zero=>cases h
    | succ n=>unfold a0Y at h;rw [hb] at h;exact h
   ·intro h;exact ⟨1,by unfold a0Y;rw [hb];exact h⟩
  | nxt x=>
   simp only;rw [c3S];constructor
   ·rintro ⟨n,h⟩
    cases n with
    | zero=>cases h
    | succ n=>unfold a0Y at h;rw [hb] at h;exact ⟨n,h⟩
   ·rintro ⟨n,h⟩
    exact ⟨n+1,by unfold a0Y;rw [hb];exact h⟩
def a98{R S B:Type}(r:m5 R B)(I:S->Prop):l7 R S B->Prop
 | .ret x=>r=.ret x
 | .brk s=>r=.brk s
 | .nxt s=>I s
theorem f3S{R S B:Type}{body:S->Option (l7 R S B)}{I:S->Prop}{s:S}{r:m5 R B}(h:o9 body s=some r)(step:∀s st,body s=some st->a98 r I st->I s):I s:=by
 obtain ⟨n,h1⟩:=c3S.1 h;clear h;have h:=h1;clear h1;induction n generalizing s with
 | zero=>cases h
 | succ n ih=>
  unfold a0Y at h;cases hb:body s with
  | none=>rw [hb] at h;cases h
  | some st=>
   rw [hb] at h;refine step s st hb ?_;cases st with
   | ret x=>injection h with h;exact h.symm
   | brk x=>injection h with h;exact h.symm
   | nxt x=>exact ih h
def m5.go{R B β:Type}(x:m5 R B)(kr:R->Option β)(ks:B->Option β):Option β:=
 match x with
 | .ret r=>kr r
 | .brk s=>ks s
def JC{B J:Type}(I:J->Prop)(r:B):m5 B J->Prop
 | .ret v=>some v=some r
 | .brk j=>I j
def idx{α:Type}(l:List α)(i:Int):Option α:=if 0<=i then l[i.toNat]? else none
def t5{β:Type}(p:Prop)[Decidable p](k:Option β):Option β:=if p then k else none
theorem b46{α:Type}{l:List α}{i:Int}{x:α}(h:idx l i=some x):0<=i/\i<l.length/\l[i.toNat]?=some x:=by
 unfold idx at h;split at h
 ·rename_i hi;refine ⟨hi,?_,h⟩;have:=(f6g.1 h).1;omega
 ·cases h
section
variable {G:Prop} {α β R S:Type}
theorem A7{m:Option α}{f:α->Option β}{r:β}(h:m.bind f=some r)(k:∀x,m=some x->f x=some r->G):G:=by
 cases m with
 | none=>cases h
 | some x=>exact k x rfl h
theorem u0{p:Prop}[Decidable p]{a:Option β}{r:β}(h:t5 p a=some r)(k:p->a=some r->G):G:=by
 unfold t5 at h;split at h
 ·rename_i hp;exact k hp h
 ·cases h
theorem e1d{B:Type}{I:S->Prop}{r:m5 R B}{x:R}{st:l7 R S B}(h:some (l7.ret x)=some st)(hc:a98 r I st)(k:r=.ret x->G):G:=by
 injection h with h;subst h;exact k hc
theorem d7v{B:Type}{I:S->Prop}{r:m5 R B}{x:B}{st:l7 R S B}(h:some (l7.brk x)=some st)(hc:a98 r I st)(k:r=.brk x->G):G:=by
 injection h with h;subst h;exact k hc
theorem f00{B:Type}{I:S->Prop}{r:m5 R B}{x:S}{st:l7 R S B}(h:some (l7.nxt x)=some st)(hc:a98 r I st)(k:I x->G):G:=by
 injection h with h;subst h;exact k hc
theorem e0g{B:Type}{I:S->Prop}{r:m5 R B}{x:R}{st:l7 R S B}(h:some (l7.ret x)=some st)(hc:a98 r I st):r=.ret x:=e1d h hc id
theorem A9{B J:Type}{T:Option (m5 B J)}{K:J->Option B}{r:B}{I:J->Prop}(h:(T.bind fun x=>x.go some K)=some r)(rest:∀j,K j=some r->I j)(e6O:∀x,T=some x->JC I r x->G):G:=by
 cases T with
 | none=>cases h
 | some x=>
  refine e6O x rfl ?_;cases x with
  | ret v=>exact h
  | brk j=>exact rest j h
theorem B8{B J:Type}{I:J->Prop}{r v:B}{x:m5 B J}(h:some (m5.ret v)=some x)(hc:JC I r x)(k:some v=some r->G):G:=by
 injection h with h;subst h;exact k hc
theorem e5Z{B J:Type}{I:J->Prop}{r v:B}{x:m5 B J}(h:some (m5.ret v)=some x)(hc:JC I r x):some v=some r:=B8 h hc id
theorem p8{B J:Type}{I:J->Prop}{r:B}{x:m5 B J}{j:J}(h:some (m5.brk j)=some x)(hc:JC I r x)(k:I j->G):G:=by
 injection h with h;subst h;exact k hc
theorem f2Y{B:Type}{body:S->Option (l7 R S B)}{s:S}{kr:R->Option β}{ks:B->Option β}{r:β}(h:((o9 body s).bind fun x=>x.go kr ks)=some r)(k:∀x,o9 body s=some x->(∀v,x=.ret v->kr v=some r)->(∀b,x=.brk b->ks b=some r)->G):G:=by
 cases hl:o9 body s with
 | none=>rw [hl] at h;cases h
 | some x=>
  rw [hl] at h;refine k x hl ?_ ?_
  ·intro v hv;subst hv;exact h
  ·intro b hb;subst hb;exact h
end
theorem K1.is{cx:Cx}{X:O7}{res b4H:V}{outs b2j:List (Option V)}{k:List Item}{S:St}(h:K1 cx X b4H b2j k S)(h1:res=b4H)(h2:outs=b2j):K1 cx X res outs k S:=by
 subst h1;subst h2;exact h
def vi(n:Int):V:=.i .i64 n
def bs:Nat->List V->List V
 | 0,l=>l
 | n+1,l=>.bot::bs n l
def j8{α:Type}(sz:Nat)(enc:α->List V)(l:List α):V:=.sl sz l.length (l.map enc)
def v5{α:Type}(e sz:Nat)(enc:α->List V)(l:List α):V:=.osl e sz l.length (l.map enc)
def m7{α:Type}(e sz:Nat)(enc:α->List V)(l:List α):s8:=.row e sz l.length (l.map enc)
def b18{α:Type}(sz:Nat)(enc:α->List V)(l:List α):s8:=.frz sz l.length (l.map enc)
section
variable {α:Type} {enc:α->List V} {l:List α} {i:Int} {x:α}
theorem U9(h:idx l i=some x):(l.map enc)[i.toNat]?=some (enc x):=by
 rw [f7c,(b46 h).2.2];rfl
theorem b3j(h:idx l i=some x):(l.map enc)[0+i.toNat]?=some (enc x):=by
 rw [f7i];exact U9 h
theorem O9(h:idx l i=some x):0<=i:=(b46 h).1
theorem b1Z(h:idx l i=some x):i<(l.length:Nat):=(b46 h).2.1
theorem e2M{e sz:Nat}{y:α}{cs:List V}(h:cs=enc y):s8.row e sz (l.length+1) (l.map enc++[cs])=m7 e sz enc (l++[y]):=by
 subst h;simp [m7]
theorem c3T{e sz:Nat}{l':List α}{n:Nat}{rows:List (List V)}(h1:n=l'.length)(h2:rows=l'.map enc):s8.row e sz (l.length+n) (l.map enc++rows)=m7 e sz enc (l++l'):=by
 subst h1;subst h2;simp [m7]
theorem e7s{e sz:Nat}{k:Nat}{y:α}{cs:List V}(h:cs=enc y):s8.row e sz l.length ((l.map enc).set (0+k) cs)=m7 e sz enc (l.set k y):=by
 subst h;simp [m7,List.map_set]
theorem d0s{sz:Nat}{a b:Nat}(ha:a<=b)(hb:b<=l.length):V.sl sz (b-a) (((l.map enc).drop a).take (b-a))=j8 sz enc ((l.drop a).take (b-a)):=by
 have:min (b-a) (l.length-a)=b-a:=by omega
 simp [j8,List.map_take,List.map_drop,this]
end
def f1b(f:Func):Code:=match f.body with
 | some c=>c
 | none=>.skip
def a3X:Nat->Nat->List Bool->List Item->List Item
 | 0,_,_,k=>k
 | f+1,n,cs,k=>match k with
  | .code (.region id ops dr)::k'=>match n with
   | 0=>.code (.region id ops dr)::k'
   | n+1=>a3X f n cs k'
  | .code .skip::k'=>a3X f n cs k'
  | .inBlock _::k'=>a3X f n cs k'
  | .code (.seq x y)::k'=>a3X f n cs (.code x :: .code y::k')
  | .code (.cond o x y)::k'=>match cs with
   | c::cs=>a3X f n cs (.code (bif c then x else y)::k')
   | []=>.code (.cond o x y)::k'
  | .code (.block id c)::k'=>a3X f n cs (.code c :: .inBlock id::k')
  | .code (.loop c)::k'=>a3X f n cs (.code c :: .inLoop c::k')
  | .inLoop c::k'=>a3X f n cs (.code c :: .inLoop c::k')
  | .code (.exit id)::k'=>match exitTo id k' with
   | some k2=>a3X f n cs k2
   | none=>.code (.exit id)::k'
  | k=>k
def td(i:Nat)(d:Bool):Nat×L0:=(i,{d:=some d})
def tr(i:Nat)(cs:List V):Nat×L0:=(i,{a:=.row cs})
def m8(n:Int):Int:=IntKind.wrap .i64 n
section
variable {α:Type} {enc:α->List V} {l l':List α} {n:Nat} {x y:α} {cs:List V} {e sz:Nat}
theorem e8G(h:cs=enc x):s8.row e sz n (f6a n cs)=m7 e sz enc (f6a n x):=by
 subst h;simp [m7]
theorem a1y(h:l.length=n):s8.row e sz n (l.map enc)=m7 e sz enc l:=by
 subst h;rfl
theorem a7t{k:Nat}(h:cs=enc y):s8.arr e sz n ((l.map enc).set k cs)=.arr e sz n ((l.set k y).map enc):=by
 subst h;simp [List.map_set]
def C4(e sz:Nat)(enc:α->List V)(l:List α):s8:=.deep false e sz l.length (l.map enc)
def b08(e sz:Nat)(enc:α->List V)(l:List α):V:=.dsl e sz l.length (l.map enc)
theorem a0Z{k:Nat}(h:cs=enc y):(l.map enc).set (0+k) cs=(l.set k y).map enc:=by
 subst h;simp [List.map_set]
theorem a7V{rows:List (List V)}(h:rows=l.map enc)(hn:∀x,∀v∈enc x,v.isRef=false):I2 rows:=h▸I2.map hn l
theorem a7C{rows:List (List V)}{n:Nat}(h:rows=l.map enc)(hl:n=l.length):s8.deep false e sz n rows=C4 e sz enc l:=by
 subst h;subst hl;rfl
theorem c4O(h:cs=enc y):s8.deep false e sz (l.length+1) (l.map enc++[cs])=C4 e sz enc (l++[y]):=by
 subst h;simp [C4]
theorem c3z{L l1:List α}{lo n:Nat}(h:lo+n<=L.length):s8.row e sz (l1.length+n) (l1.map enc++((L.map enc).drop lo).take n)=m7 e sz enc (l1++(L.drop lo).take n):=by
 have:((L.drop lo).take n).length=n:=by simp;omega
 simp [m7,List.map_take,List.map_drop];omega
theorem c4V{L l1:List α}{lo n g:Nat}(h:lo+n<=L.length):V.own g 0 sz 0 (l1.length+n)=V.own g 0 sz 0 (l1++(L.drop lo).take n).length:=by
 congr 1
 simp;omega
theorem W6{rows X:List (List V)}{k:Nat}{c c':List V}(h:rows.set k c'=X):(rows.set k c).set k c'=X:=by rw [List.set_set];exact h
theorem a1M{rows:List (List V)}{k:Nat}(h:k<rows.length):(rows.set k cs)[k]?=some cs:=by simp [h]
theorem a4e{rows:List (List V)}{k j:Nat}(h:k<rows.length):k<(rows.set j cs).length:=by simpa using h
theorem a18{i:Int}(h:idx l i=some y):0+i.toNat<(l.map enc).length:=by
 have:=(b1Z h)
 have:=(O9 h)
 rw [f6W];omega
theorem c3I{i:Int}{f:α->V}(hf:∀x,enc x=[f x])(h:idx l i=some y):(l.map enc).flatten[i.toNat]?=some (f y):=by
 have e:(l.map enc).flatten=l.map f:=by
  induction l with
  | nil=>rfl
  | cons x l ih=>
   have ih':(l.map enc).flatten=l.map f:=by
    clear ih h;induction l with
    | nil=>rfl
    | cons x l ih=>simp [hf,ih]
   simp [hf,ih']
 rw [e,f7c];unfold idx at h;split at h
 ·rw [h];rfl
 ·cases h
theorem b8p{hi:Int}(h:0<=hi/\hi<=(l.length:Nat)):V.sl sz (hi.toNat-0) (((l.map enc).drop 0).take (hi.toNat-0))=j8 sz enc ((l.drop 0).take (hi.toNat-0)):=
 d0s (by omega) (by omega)
theorem b1C{lo:Int}(h:0<=lo/\lo<=(l.length:Nat)):V.sl sz (l.length-lo.toNat) (((l.map enc).drop lo.toNat).take (l.length-lo.toNat))=j8 sz enc ((l.drop lo.toNat).take (l.length-lo.toNat)):=
 d0s (by omega) (by omega)
end
def c0M:Nat->List (Option V)
 | 0=>[]
 | n+1=>none::c0M n
theorem Q1:∀n,a3W (c0M n)
 | 0=>fun v h=>by cases h
 | n+1=>fun v h=>by
  rcases f6j.1 h with q|q
  ·cases q
  ·exact Q1 n v q
section
variable {P:Program} {d:Nat} {xs ys:Array Value} {f:Field} {fs:List Field} {a b:Value} {r s:Bool} {w:World}
theorem b0M:(Op.eqFields d xs ys []).run P w=.ok true w:=by simp [Op.eqFields]
theorem a0n (hn:(f.name == "_")=false) (ha:(part f.type xs f.offset).run P w=.ok a w) (hb:(part f.type ys f.offset).run P w=.ok b w) (he:(Op.equalIn d f.type a b).run P w=.ok r w) (hr:(Op.eqFields d xs ys fs).run P w=.ok s w):(Op.eqFields d xs ys (f::fs)).run P w=.ok (r&&s) w:=by
 have hn':f.name ≠ "_" := by simpa using hn
 rw [Op.eqFields];simp only [if_pos hn',Sem.run_bind,ha,hb,he,Result.andThen_ok];cases r
 ·simp
 ·simpa using hr
theorem b0b{t:TypeId}{fs:Array Field}(hu:P.underlying t=some (.struct fs))(hp:P.stoodInHeld t=false)(h:(Op.eqFields d xs ys fs.toList).run P w=.ok r w):(Op.equalIn (d+1) t (.agg xs) (.agg ys)).run P w=.ok r w:=by
 have hf:P.fieldsOf t=fs:=by simp [Program.fieldsOf,hu]
 rw [run_equalIn_struct (P:=P) w d t xs ys (by rw [hf];exact hu) hp,hf];exact h
theorem a0K{t:TypeId}{k:IntKind}{m n:Int}(h:P.underlying t=some (.int k)):(Op.equalIn (d+1) t (.int .i64 m) (.int .i64 n)).run P w=.ok (m==n) w:=run_equalIn_int w d t .i64 k m n h
end
structure Pt(cx:Cx)(X:O7)(res:V)(outs:List (Option V))(k:List Item)(S:St)(sc:R7)(ps:List Prop):Prop where
 f:P7 ps->K1 cx X res outs k S
def d1d{α:Type}:List α->List α->List α
 | [],b=>b
 | a::l,b=>d1d l (a::b)
def scO:R7->R7->R7
 | [],b=>b
 | r::l,b=>scO l (d1d r []::b)
def psO:List Prop->List Prop->List Prop
 | [],b=>b
 | p::l,b=>psO l (p::b)
theorem c0l{ps:List Prop}:∀{qs:List Prop},P7 ps->P7 qs->P7 (psO ps qs):=by
 induction ps with
 | nil=>exact fun _ h=>h
 | cons p ps ih=>exact fun h h'=>ih h.2 ⟨h.1,h'⟩
def a43{α β:Type}(m:Option α)(f:α->Option β)(g:Option β):Option β:=
 match m with
 | some x=>f x
 | none=>g
def dt(t:Nat×L0)(d:Bool):Nat×L0:=(t.1,{t.2 with d:=some d})
section
variable {cx:Cx} {X:O7} {res:V} {outs:List (Option V)} {k:List Item} {S:St} {sc:R7} {ps:List Prop} {r:List (Nat×L0)} {α β:Type} {v:β}
theorem P0(h:Pt cx X res outs k S [] []):K1 cx X res outs k S:=h.f P7.nil
theorem rg(h:Pt cx X res outs k S ([]::sc) ps):Pt cx X res outs k S sc ps:=⟨h.f⟩
theorem n7(h:Pt cx X res outs k S ([]::[]::sc) ps):Pt cx X res outs k S sc ps:=⟨h.f⟩
theorem N7(h:Pt cx X res outs k S ([]::[]::[]::sc) ps):Pt cx X res outs k S sc ps:=⟨h.f⟩
theorem rg4(h:Pt cx X res outs k S ([]::[]::[]::[]::sc) ps):Pt cx X res outs k S sc ps:=⟨h.f⟩
theorem tl(t:Nat×L0)(h:Pt cx X res outs k S ((t::r)::sc) ps):Pt cx X res outs k S (r::sc) ps:=⟨h.f⟩
theorem ob{p:Prop}(q:p)(h:Pt cx X res outs k S sc (p::ps)):Pt cx X res outs k S sc ps:=⟨fun a=>h.f ⟨q,a⟩⟩
theorem om(p:Prop)(q:p)(h:Pt cx X res outs k S sc (p::ps)):Pt cx X res outs k S sc ps:=ob q h
theorem cdT(t:Nat×L0){e:Bool}{a b:Option β}(h:cond e a b=some v)(k1:e=true->a=some v->Pt cx X res outs k S ((dt t true::r)::sc) ((e=true)::ps))(k2:e=false->b=some v->Pt cx X res outs k S ((dt t false::r)::sc) ((e=false)::ps)):Pt cx X res outs k S (r::sc) ps:=by
 cases e with
 | true=>exact ob rfl (tl _ (k1 rfl h))
 | false=>exact ob rfl (tl _ (k2 rfl h))
theorem j6(i:Nat){e:Bool}{a b:Option β}(h:cond e a b=some v)(k1:a=some v->Pt cx X res outs k S ((td i true::r)::sc) ((e=true)::ps))(k2:b=some v->Pt cx X res outs k S ((td i false::r)::sc) ((e=false)::ps)):Pt cx X res outs k S (r::sc) ps:=by
 cases e with
 | true=>exact ob rfl (tl _ (k1 h))
 | false=>exact ob rfl (tl _ (k2 h))
theorem cb(t:Nat->Bool->α->Nat×L0){m:Option α}{p:α->Prop}(ok:∀x,m=some x->p x)(i:Nat)(fr:Bool){f:α->Option β}(h:m.bind f=some v)(g:∀x,f x=some v->Pt cx X res outs k S ((t i fr x::r)::sc) (p x::ps)):Pt cx X res outs k S (r::sc) ps:=
 A7 h fun x hx h=>ob (ok x hx) (tl _ (g x h))
theorem cbA(t:Nat->Bool->α->Nat×L0){m:Option α}{p:α->Prop}(ok:∀x,m=some x->p x)(i:Nat)(fr:Bool){f:α->Option β}{e:Option β}(h:a43 m f e=some v)(g:∀x,f x=some v->Pt cx X res outs k S ((t i fr x::r)::sc) (p x::ps))(g2:e=some v->Pt cx X res outs k S (r::sc) ps):Pt cx X res outs k S (r::sc) ps:=by
 cases m with
 | none=>exact g2 h
 | some x=>exact ob (ok x rfl) (tl _ (g x h))
theorem cbE(t:Nat->Bool->α->Nat×L0){m:Option α}{p:α->Prop}(ok:∀x,m=some x->p x){f:α->Option β}(h:m.bind f=some v)(g:∀x,p x->f x=some v->Pt cx X res outs k S sc ps):Pt cx X res outs k S sc ps:=
 A7 h fun x hx h=>g x (ok x hx) h
section
variable {enc:α->List V} {l l':List α} {I:Int} {x y z:α}
theorem u9(enc:α->List V)(i:Nat){f:α->Option β}(h:(idx l I).bind f=some v)(g:∀y,idx l I=some y->f y=some v->Pt cx X res outs k S ((tr i (enc y)::r)::sc) (((l.map enc)[I.toNat]?=some (enc y))::(I<((l.length:Nat):Int))::((0:Int)<=I)::ps)):Pt cx X res outs k S (r::sc) ps:=
 A7 h fun y hy h=>ob (O9 hy) (ob (b1Z hy) (ob (U9 hy) (tl _ (g y hy h))))
theorem I8(enc:α->List V)(i:Nat)(hy:idx l I=some y)(g:Pt cx X res outs k S ((tr i (enc y)::r)::sc) (((l.map enc)[I.toNat]?=some (enc y))::(I<((l.length:Nat):Int))::((0:Int)<=I)::ps)):Pt cx X res outs k S (r::sc) ps:=
 ob (O9 hy) (ob (b1Z hy) (ob (U9 hy) (tl _ g)))
theorem B5(hy:idx l I=some y)(g:Pt cx X res outs k S sc ((I<((l.length:Nat):Int))::((0:Int)<=I)::ps)):Pt cx X res outs k S sc ps:=ob (O9 hy) (ob (b1Z hy) g)
theorem H9(enc:α->List V)(i:Nat)(hy:idx l I=some y)(g:Pt cx X res outs k S ((tr i (enc y)::r)::sc) (((l.map enc)[0+I.toNat]?=some (enc y))::ps)):Pt cx X res outs k S (r::sc) ps:=
 ob (b3j hy) (tl _ g)
theorem Q6(e sz:Nat)(enc:α->List V)(i:Nat)(ck:List (Option Nat))(y:α)(hz:idx l I=some z)(g:Pt cx X res outs k S (((i,{a:=.rowck (enc z) ck,e:=some (m7 e sz enc (l.set I.toNat y))})::r)::sc) (((l.map enc)[0+I.toNat]?=some (enc z))::(s8.row e sz l.length ((l.map enc).set (0+I.toNat) (enc y))=m7 e sz enc (l.set I.toNat y))::ps)):Pt cx X res outs k S (r::sc) ps:=
 ob (e7s rfl) (ob (b3j hz) (tl _ g))
theorem T3(i w t sz b:Nat)(enc:α->List V)(z:α)(T:TI)(a:O3){N:Int}(e1:0<=N/\N*((b:Nat):Int)<=140737488355328)(hb:0<b)(hl:T.zero.length=sz)(g:Pt cx X res outs k S (((i,{a:=a,e:=some (m7 t sz enc (f6a N.toNat z)),v:=some (.own w 0 sz 0 (f6a N.toNat z).length)})::r)::sc)
   ((T.zero.length=sz)::(N*((b:Nat):Int)<=140737488355328/\0<b)::(N=N)::((0:Int)<=N)::(s8.row t sz N.toNat (f6a N.toNat (enc z))=m7 t sz enc (f6a N.toNat z))::(V.own w 0 sz 0 N.toNat=.own w 0 sz 0 (f6a N.toNat z).length)::ps)):Pt cx X res outs k S (r::sc) ps:=
 ob (by simp) (ob (e8G rfl) (ob e1.1 (ob rfl (ob ⟨e1.2,hb⟩ (ob hl (tl _ g))))))
theorem F9(i w t sz b:Nat)(enc:α->List V)(l:List α)(x:α)(h:(l.length+1)*b<=140737488355328)(g:Pt cx X res outs k S (((i,{v:=some (.own w 0 sz 0 (l++[x]).length),e:=some (m7 t sz enc (l++[x]))})::r)::sc)
   (((l.length+1)*b<=140737488355328)::(l.length=l.length)::(s8.row t sz (l.length+1) (l.map enc++[enc x])=m7 t sz enc (l++[x]))::(V.own w 0 sz 0 (l.length+1)=.own w 0 sz 0 (l++[x]).length)::ps)):Pt cx X res outs k S (r::sc) ps:=
 ob (by simp) (ob (e2M rfl) (ob rfl (ob h (tl _ g))))
theorem apL(i w t sz b:Nat)(enc:α->List V)(l l':List α)(h:(l.length+l'.length)*b<=140737488355328)(g:Pt cx X res outs k S (((i,{v:=some (.own w 0 sz 0 (l++l').length),e:=some (m7 t sz enc (l++l'))})::r)::sc)
   (((l.length+l'.length)*b<=140737488355328)::(l.length=l.length)::(s8.row t sz (l.length+l'.length) (l.map enc++l'.map enc)=m7 t sz enc (l++l'))::(V.own w 0 sz 0 (l.length+l'.length)=.own w 0 sz 0 (l++l').length)::ps)):Pt cx X res outs k S (r::sc) ps:=
 ob (by simp) (ob (c3T rfl rfl) (ob rfl (ob h (tl _ g))))
end
theorem sg(fs:List Fix)(keep:List Nat)(gs:List (Nat×Nat)){k':List Item}{S':St}(h:K1 cx X res outs k' S')(hg:a9m cx k S (scO sc []) fs keep gs=some (k',S',psO ps []):=by kernel_rfl):Pt cx X res outs k S sc ps:=
 ⟨fun a=>K1.seg _ fs keep gs _ (c0l a P7.nil) h hg⟩
def reT:List (Nat×V)->St->St×List Prop
 | [],S=>(S,[])
 | (i,v)::l,S=>match S.t[i]? with
  | some u=>match reT l {S with t:=S.t.set i v} with
   | (S',ps)=>(S',(u=v)::ps)
  | none=>reT l S
theorem c5w:∀{l:List (Nat×V)} {S:St},P7 (reT l S).2->(reT l S).1=S
 | [],_,_=>rfl
 | (i,v)::l,S,h=>by
  unfold reT at h⊢;split at h
  ·rename_i u hu;have h1:u=v:=h.1;have h2:=c5w (l:=l) h.2;simp only;rw [h2,<-h1,a0u hu]
  ·exact c5w h
theorem P7.split:∀{ps qs:List Prop},P7 (ps++qs)->P7 ps/\P7 qs
 | [],_,h=>⟨trivial,h⟩
 | _::_,_,h=>⟨⟨h.1,(P7.split h.2).1⟩,(P7.split h.2).2⟩
def c19(cx:Cx)(k:List Item)(S:St)(sc:R7)(fs:List Fix)(keep:List Nat)(gs:List (Nat×Nat))(ts:List (Nat×V)):Option (List Item×St×List Prop):=
 match a9m cx k S sc fs keep gs with
 | some (k',S',ps)=>some (k',(reT ts S').1,ps++(reT ts S').2)
 | none=>none
theorem sgT(fs:List Fix)(keep:List Nat)(gs:List (Nat×Nat))(ts:List (Nat×V)){k':List Item}{S':St}(h:K1 cx X res outs k' S')(hg:c19 cx k S (scO sc []) fs keep gs ts=some (k',S',psO ps []):=by kernel_rfl):Pt cx X res outs k S sc ps:=by
 refine ⟨fun a => ?_⟩;unfold c19 at hg;split at hg<;>try (cases hg;done)
 rename_i k1 S1 ps1 h1;injection hg with hg;injection hg with e1 e2;injection e2 with e2 e3;have ha:=c0l a P7.nil;rw [<-e3] at ha;obtain ⟨a1,a2⟩:=P7.split ha;rw [<-e2,<-e1,c5w a2] at h;exact K1.seg _ fs keep gs _ a1 h h1
theorem a8V{α:Type}{enc:α->List V}{gs:List (Nat×Nat)}(h:∀x,(enc x).map (W4 gs)=enc x):∀l:List α,((l.map enc).flatten.map (W4 gs))=(l.map enc).flatten
 | []=>rfl
 | x::l=>by
  simp only [f6L,f6E,f7q,h,a8V h l]
theorem fn0{b4H:V}{b2j:List (Option V)}(hf:cx.P.funcs[X.f]?=some X.fn)(h:res=b4H/\outs=b2j)(hg:a9R cx X k S (scO sc [])=some (b4H,b2j,psO ps []):=by kernel_rfl):Pt cx X res outs k S sc ps:=
 ⟨fun a=>(K1.fin hf _ _ (c0l a P7.nil) hg).is h.1 h.2⟩
end
def I9(n:Int):Prop := -9223372036854775808<=n/\n<=9223372036854775807
def A3{α:Type}(bytes:Nat)(ok:α->Prop)(l:List α):Prop:=l.length*bytes<=140737488351232/\∀x∈l,ok x
def okT{α:Type}(x:α):Prop:=True
def Old(w:World)(k:Nat):Prop:=k<w.heap.size
def b0F(P:Program){α:Type}(t:TypeId)(enc:α->List V)(ok:α->Prop):Prop:=
 ∀{H:Type} (ec:TypeId×Value->H) (w:World) (fuel:Nat) (cs:List Value) (x:DataW H×List MemPlace),DataW.trod ec P w 0 (fun _=>true) true fuel t cs=some x->(x.1.weights P t).all (·<=reachBytes)=true->
  ∃y,FL w (Old w) (enc y) cs/\ok y
section
variable {P:Program} {α:Type} {t e:TypeId} {enc:α->List V} {ok:α->Prop}
def a6z(n:Int):Prop:=0<=n/\n<=255
theorem d7y(ht:P.underlying t=some (.int .u8)):b0F P t (fun n:Int=>[.i .u8 n]) a6z:=by
 intro H ec w fuel cs x h _;obtain ⟨n,rfl,rfl,hw⟩:=DataW.trod_int ht h;refine ⟨n,.cons _ _ _ _ (.i _ _) .nil,?_⟩;simp only [Lit.wf,f6d,decide_eq_true_eq] at hw;exact hw
theorem c7V{H:Type}{P:Program}{e:TypeId}{p:Nat->Bool}:∀{ds:List (DataW H)},(DataW.weightsAll P e ds).all p=true->∀d∈ds,(d.weights P e).all p=true
 | [],_,d,hd=>by cases hd
 | d0::ds,h,d,hd=>by
  rw [DataW.weightsAll,List.all_append,f6d] at h;rcases f6j.1 hd with rfl|hd
  ·exact h.1
  ·exact c7V h.2 d hd
theorem FL.flat{w:World}{F:Nat->Prop}(vs:Nat->List V)(cs:Nat->List Value):∀n,(∀i,i<n->FL w F (vs i) (cs i))->FL w F ((f6i n).flatMap vs) ((f6i n).flatMap cs)
 | 0,_=>.nil
 | n+1,h=>by
  rw [List.range_succ,List.flatMap_append,List.flatMap_append];refine FL.append (FL.flat vs cs n fun i hi=>h i (by omega)) ?_;simpa using h n (by omega)
theorem b7z{sz:Nat}(cs:Nat->List Value):∀n,(∀i,i<n->(cs i).length=sz)->∀i,i<n->∀j,j<sz->((f6i n).flatMap cs)[i*sz+j]?=(cs i)[j]?/\((f6i n).flatMap cs).length=n*sz
 | 0,_,i,hi,_,_=>by omega
 | n+1,h,i,hi,j,hj=>by
  have hl:((f6i n).flatMap cs).length=n*sz:=by
   cases n with
   | zero=>simp
   | succ m=>exact (b7z cs (m+1) (fun i hi=>h i (by omega)) 0 (by omega) j hj).2
  rw [List.range_succ,List.flatMap_append];simp only [List.flatMap_cons,List.flatMap_nil,f6P];constructor
  ·by_cases hin:i<n
   ·have:i*sz+j<n*sz:=by
     have:(i+1)*sz<=n*sz:=f6F _ hin;rw [Nat.add_mul] at this;omega
    rw [f6x (by omega)];exact (b7z cs n (fun i hi=>h i (by omega)) i hin j hj).1
   ·have:i=n:=by omega
    subst this;rw [f6q (by omega),hl];congr 1
    omega
  ·rw [f6l,hl,h n (by omega),Nat.add_mul,Nat.one_mul]
theorem d7o{β:Type}{n:Nat}{p:Nat->β->Prop}(d:β)(h:∀i,i<n->∃x,p i x):∃f:Nat->β,∀i,i<n->p i (f i):=by
 classical
 refine ⟨fun i=>if hi:i<n then (h i hi).choose else d,fun i hi => ?_⟩;simp only [dif_pos hi];exact (h i hi).choose_spec
theorem e92{sz bytes:Nat}(ht:P.underlying t=some (.slice e))(he:b0F P e enc ok)(hsz:P.cellsOf e=sz)(h0:0<sz)(hb:P.bytesOf e=bytes)(hl:∀y,(enc y).length=sz):b0F P t (fun l:List α=>[j8 sz enc l]) (A3 bytes ok):=by
 intro H ec w fuel cs x h hw;rcases DataW.trod_slice ht h with ⟨rfl,rfl⟩|⟨a,len,cap,elems,rest,n,_,rfl,rfl,hbs,hlc,hcm,hlen,hel,hsp,hns⟩
 ·exact ⟨[],.cons _ _ _ _ (.sl0 sz none 0) .nil,by simp,by simp⟩
 simp only [DataW.weights,ht,List.all_cons,List.all_append,f6d,decide_eq_true_eq,f6W] at hw;obtain ⟨hw0,hw1,hw2⟩:=hw;have hrest:rest.length=cap-len:=by
  cases hs:(fun _:Nat=>true) a.block with
  | true=>exact (hsp rfl).1
  | false=>cases hs
 have hlen2:len*bytes<=140737488351232:=by
  rw [hb] at hw0;have:len*bytes<=(elems.length+rest.length)*bytes:=f6F _ (by omega);have h2:reachBytes=140737488351232:=rfl;omega
 cases Nat.eq_zero_or_pos len with
 | inl hz=>
  subst hz;exact ⟨[],.cons _ _ _ _ (.sl0 sz _ cap) .nil,by simp,by simp⟩
 | inr hpos=>
  have key:∀i,i<len->∃cy:List Value×α,w.cells? 0 (a.add (i*sz)) sz=some cy.1/\FL w (Old w) (enc cy.2) cy.1/\ok cy.2:=by
   intro i hi;have h1:=hel i hi;have hi':i<elems.length:=by omega
   rw [f5Z hi',hsz] at h1;obtain ⟨ci,h2,h3⟩:=Option.bind_eq_some_iff.1 h1;obtain ⟨y,h4,h5⟩:=he ec w n ci _ h3 (c7V hw1 _ (f6G.2 ⟨_,f6c hi',rfl⟩));exact ⟨(ci,y),h2,h4,h5⟩
  obtain ⟨cy0,_⟩:=key 0 hpos;obtain ⟨f,hf⟩:=d7o cy0 key;have hcl:∀i,i<len->(f i).1.length=sz:=fun i hi=>(World.cells?_some (hf i hi).1).2.1
  have hspot:a.spot=none:=by
   have:=(World.cells?_some (hf 0 hpos).1).2.2 0 h0;rw [f5Z (by rw [hcl 0 hpos];exact h0)] at this;have:=World.cell?_spot this;simpa [Addr.add] using this
  have hold:Old w a.block:=by
   have:=(World.cells?_some (hf 0 hpos).1).2.2 0 h0;rw [f5Z (by rw [hcl 0 hpos];exact h0)] at this;unfold World.cell? at this;unfold Old;split at this
   ·rename_i c _ _ hh;simpa [Addr.add] using (Array.getElem?_eq_some_iff.1 hh).1
   ·cases this
  refine ⟨(f6i len).map fun i=>(f i).2,?_,?_,?_⟩
  ·have haddr:a=⟨a.block,a.off,none⟩:=by cases a;simp_all
   rw [show (Value.slice (some a) len cap)=.slice (some ⟨a.block,a.off,none⟩) len cap from by rw [<-haddr]];refine .cons _ _ _ _ ?_ .nil;unfold j8;rw [f6W,List.length_range];refine .sl sz len _ _ _ cap ((f6i len).flatMap fun i=>(f i).1) hold ?_ ?_ ?_ hlc ?_
   ·have:=FL.flat (w:=w) (F:=Old w) (fun i=>enc (f i).2) (fun i=>(f i).1) len fun i hi=>(hf i hi).2.1
    rw [f8e,<-List.flatMap_def];exact this
   ·simp
   ·intro r hr;rw [f8e] at hr;obtain ⟨i,_,rfl⟩:=f6G.1 hr;exact hl _
   ·intro j u hu;have hlf:=(b7z (fun i=>(f i).1) len hcl 0 hpos 0 h0).2;have hj:j<len*sz:=by
     have:=(f6g.1 hu).1;omega
    have hq:j / sz<len:=Nat.div_lt_of_lt_mul (by rw [Nat.mul_comm];exact hj);have hr:j % sz<sz:=Nat.mod_lt _ h0;have hjs:j=j / sz*sz+j % sz:=by rw [Nat.mul_comm];exact (Nat.div_add_mod j sz).symm
    have hget:=(b7z (fun i=>(f i).1) len hcl _ hq _ hr).1;rw [<-hjs,hu] at hget;have hcell:=(World.cells?_some (hf _ hq).1).2.2 _ hr;rw [<-hget] at hcell;rw [<-hcell];have hadd:(a.add (j / sz*sz)).add (j % sz)=a.add j:=by
     rw [show (a.add (j / sz*sz)).add (j % sz)=a.add (j / sz*sz+j % sz) from Go.Deep.add_add a _ _,<-hjs]
    rw [hadd];congr 1
    unfold Addr.add;split
    ·rename_i h;subst h;exact haddr.symm
    ·rfl
  ·simpa using hlen2
  ·intro y hy;obtain ⟨i,hi,rfl⟩:=f6G.1 hy;exact (hf i (by simpa using hi)).2.2
section
variable {α':Type} {H:Type} {ec:TypeId×Value->H} {w:World} {base:Nat} {r:Reach} {v:Value} {d:DataW H} {p:List MemPlace}
theorem BA.of1{F:Nat->Prop}{x:V}{c:Value}(h:FL w F [x] [c]):BA w F x c []:=by
 cases h with
 | cons _ _ _ _ h _=>exact .cell _ _ _ (.fv _ _ h)
theorem d8h{f:α->V}(ht:P.underlying t=some (.slice e))(ho:b0F P t (fun y=>[f y]) ok)(hv:Value.okWide P w r base t v)(h:DataW.Trod ec P w 0 (fun _=>true) true t v d p)(hw:(d.weights P t).all (·<=reachBytes)=true):∃y,BA w (Old w) (f y) v []/\ok y:=by
 obtain ⟨a,l,c,rfl⟩:=WideShapes.okWide_slice ht hv;obtain ⟨fuel,hf⟩:=h;obtain ⟨y,h1,h2⟩:=ho ec w fuel _ _ hf hw;exact ⟨y,BA.of1 h1,h2⟩
end
theorem e6L{f:FuncId}{args:List V}{outs:List (Option V)}{vs:List Value}{W:World}(h:Z0 P f args (.b true) outs)(hb:BS W (Old W) args vs []) :
  Calls P f vs.toArray W fun e W'=>e=.returned (.bool true)/\RowKit.Below W.heap.size W W':=by
 refine (h.2 W (Old W) vs [] hb List.nodup_nil (by simp) (fun k hk=>hk)).mono ?_;rintro e W' ⟨c,F',fr,fo,rfl,hk,_,_,hr,_,_,_⟩
 refine ⟨?_,hk.os,hk.tape,hk.output,hk.size,fun k hk'=>hk.block k hk' (by simp)⟩;cases hr with
 | one _ _ _ h=>
  cases h with
  | cell _ _ _ h=>
   cases h with
   | fv _ _ h=>cases h;rfl
end
abbrev LOV:=List (Option V)
abbrev KS:=List Item×St
def FK(cx:Cx)(X:O7)(res:V)(outs:LOV)(s:KS):Prop:=K1 cx X res outs s.1 s.2
structure LC(cx:Cx)(X:O7){R P E:Type}(fR:R->V)(fO:R->LOV)(SE:E->KS)(S:P->KS) where
 res:V
 outs:LOV
 x:m5 R E
 hb:∀s:E,x=.brk s->FK cx X res outs (SE s)
 hr:∀v:R,x=.ret v->res=fR v/\outs=fO v
 st:l7 R P E
 hc:a98 x (fun s=>FK cx X res outs (S s)) st
section
variable {cx:Cx} {X:O7} {R P E J:Type} {fR:R->V} {fO:R->LOV} {SE:E->KS} {SP:P->KS} {G:Prop} {α β:Type}
abbrev LB(cx:Cx)(X:O7)(fR:R->V)(fO:R->LOV)(SE:E->KS)(SP:P->KS)(b:P->Option (l7 R P E)):Prop := ∀(c:LC cx X fR fO SE SP) (s:P),b s=some c.st->FK cx X c.res c.outs (SP s)
abbrev NL(c:LC cx X fR fO SE SP)(S:J->KS)(f:J->Option (l7 R P E)):Prop := ∀s,f s=some c.st->FK cx X c.res c.outs (S s)
theorem LC.nx(c:LC cx X fR fO SE SP){s:P}(h:some (l7.nxt s)=some c.st)(g:FK cx X c.res c.outs (SP s)->G):G:=f00 h c.hc g
theorem LC.bk(c:LC cx X fR fO SE SP){s:E}(h:some (l7.brk s)=some c.st)(g:FK cx X c.res c.outs (SE s)->G):G:=d7v h c.hc fun e=>g (c.hb _ e)
theorem LC.rt(c:LC cx X fR fO SE SP){r:R}(h:some (l7.ret r)=some c.st):c.res=fR r/\c.outs=fO r:=c.hr _ (e0g h c.hc)
variable {res:V} {outs:LOV} {k:List Item} {S:St} {sc:R7} {ps:List Prop} {r:List (Nat×L0)} {v:β} {s:KS}
theorem PK(h:Pt cx X res outs s.1 s.2 [] []):FK cx X res outs s:=h.f P7.nil
theorem sk(fs:List Fix)(keep:List Nat)(gs:List (Nat×Nat))(h:FK cx X res outs s)(hg:a9m cx k S (scO sc []) fs keep gs=some (s.1,s.2,psO ps []):=by kernel_rfl):Pt cx X res outs k S sc ps:=sg fs keep gs h hg
theorem skT(fs:List Fix)(keep:List Nat)(gs:List (Nat×Nat))(ts:List (Nat×V))(h:FK cx X res outs s)(hg:c19 cx k S (scO sc []) fs keep gs ts=some (s.1,s.2,psO ps []):=by kernel_rfl):Pt cx X res outs k S sc ps:=sgT fs keep gs ts h hg
theorem lp{b:P->Option (l7 R P E)}(B:LB cx X fR fO SE SP b){c90:P}{g1:R->Option β}{g2:E->Option β}(h:((o9 b c90).bind fun x=>x.go g1 g2)=some v)(h1:∀r,g1 r=some v->res=fR r/\outs=fO r)(h2:∀s,g2 s=some v->FK cx X res outs (SE s))(hs:FK cx X res outs (SP c90)->Pt cx X res outs k S sc ps):Pt cx X res outs k S sc ps:=
 f2Y h fun x hl hr hb=>hs (f3S (I:=fun s=>FK cx X res outs (SP s)) hl fun s st h hc=>B ⟨res,outs,x,fun s e=>h2 s (hb s e),fun v e=>h1 v (hr v e),st,hc⟩ s h)
theorem s9{α:Type}(a:List α)(h:Pt cx X res outs k S sc ((a.length=a.length)::ps)):Pt cx X res outs k S sc ps:=ob rfl h
theorem C7{α β:Type}(a:List α)(b:List β)(h:Pt cx X res outs k S sc ((b.length=b.length)::(a.length=a.length)::ps)):Pt cx X res outs k S sc ps:=ob rfl (ob rfl h)
theorem X8{α β γ:Type}(a:List α)(b:List β)(c:List γ)(h:Pt cx X res outs k S sc ((c.length=c.length)::(b.length=b.length)::(a.length=a.length)::ps)):Pt cx X res outs k S sc ps:=ob rfl (ob rfl (ob rfl h))
theorem H0{α β γ δ:Type}(a:List α)(b:List β)(c:List γ)(d:List δ)(h:Pt cx X res outs k S sc ((d.length=d.length)::(c.length=c.length)::(b.length=b.length)::(a.length=a.length)::ps)):Pt cx X res outs k S sc ps:=ob rfl (ob rfl (ob rfl (ob rfl h)))
theorem C1(α:Type)(h:Pt cx X res outs k S sc ((0=([]:List α).length)::ps)):Pt cx X res outs k S sc ps:=ob rfl h
theorem E8{α:Type}(x:α)(h:Pt cx X res outs k S sc ((1=[x].length)::ps)):Pt cx X res outs k S sc ps:=ob rfl h
theorem tk(i:Nat)(c:List (Option Nat))(h:Pt cx X res outs k S (((i,{a:=.ck c})::r)::sc) ps):Pt cx X res outs k S (r::sc) ps:=tl _ h
theorem oa(g j sz:Nat){α:Type}(a b:List α)(h:Pt cx X res outs k S sc ((V.own g j sz 0 (a.length+b.length)=.own g j sz 0 (a++b).length)::ps)):Pt cx X res outs k S sc ps:=ob (congrArg (V.own g j sz 0) f6l.symm) h
theorem oz(e sz:Nat){α:Type}(f:α->List V)(a b:List α)(h:Pt cx X res outs k S sc ((s8.row e sz (a.length+b.length) (a.map f++b.map f)=m7 e sz f (a++b))::ps)):Pt cx X res outs k S sc ps:=ob (c3T rfl rfl) h
end
def eI(x:Int):List V:=[vi x]
def K2(x:Int):List V:=[.i .u8 x]
def eB(x:Bool):List V:=[.b x]
structure o7 where
 c8:Int
 Seq:Int
def J0(x:o7):List V:=[vi x.c8,vi x.Seq]
structure r9 where
 i6:Int
 j5:Int
def w6(x:r9):List V:=[vi x.i6,vi x.j5]
structure p7 where
 i6:Int
 g7:Int
def w8(x:p7):List V:=[vi x.i6,vi x.g7]
structure n6 where
 b5:List r9
 b6:List p7
 g7:Int
 Code:Int
def Q9(x:n6):List V:=[j8 2 w6 x.b5,j8 2 w8 x.b6,vi x.g7,vi x.Code]
structure m6 where
 i8:Bool
 a0:o7
 b8:n6
def t6(x:m6):List V:=[.b x.i8,vi x.a0.c8,vi x.a0.Seq,j8 2 w6 x.b8.b5,j8 2 w8 x.b8.b6,vi x.b8.g7,vi x.b8.Code]
structure m9 where
 a8:Int
 i0:m6
def p9(x:m9):List V:=[vi x.a8,.b x.i0.i8,vi x.i0.a0.c8,vi x.i0.a0.Seq,j8 2 w6 x.i0.b8.b5,j8 2 w8 x.i0.b8.b6,vi x.i0.b8.g7,vi x.i0.b8.Code]
structure z4 where
 i4:Int
 a7:List m9
def Z1(x:z4):List V:=[vi x.i4,j8 8 p9 x.a7]
structure n9 where
 a9:Int
 A:Int
 B:Int
 N:Int
def A0(x:n9):List V:=[vi x.a9,vi x.A,vi x.B,vi x.N]
structure j7 where
 Id:Int
 Acc:z4
 a5:List m6
 Seq:Int
 d8:Int
 a8:Int
 c9:List Bool
 i5:List m9
 d6:m6
 a7:List Bool
 i9:Bool
 i7:List n9
 b7:m6
 d9:List m6
def w9(x:j7):List V:=[vi x.Id,vi x.Acc.i4,j8 8 p9 x.Acc.a7,j8 7 t6 x.a5,vi x.Seq,vi x.d8,vi x.a8,j8 1 eB x.c9,j8 8 p9 x.i5,.b x.d6.i8,vi x.d6.a0.c8,vi x.d6.a0.Seq,j8 2 w6 x.d6.b8.b5,j8 2 w8 x.d6.b8.b6,vi x.d6.b8.g7,vi x.d6.b8.Code,j8 1 eB x.a7,.b x.i9,j8 4 A0 x.i7,.b x.b7.i8,vi x.b7.a0.c8,vi x.b7.a0.Seq,j8 2 w6 x.b7.b8.b5,j8 2 w8 x.b7.b8.b6,vi x.b7.b8.g7,vi x.b7.b8.Code,j8 7 t6 x.d9]
structure l9 where
 a9:Int
 c9:Int
 To:Int
 a8:Int
 g8:Int
 i0:m6
 a7:List m9
def s6(x:l9):List V:=[vi x.a9,vi x.c9,vi x.To,vi x.a8,vi x.g8,.b x.i0.i8,vi x.i0.a0.c8,vi x.i0.a0.Seq,j8 2 w6 x.i0.b8.b5,j8 2 w8 x.i0.b8.b6,vi x.i0.b8.g7,vi x.i0.b8.Code,j8 8 p9 x.a7]
structure x6 where
 a0:o7
 i7:List n9
def A2(x:x6):List V:=[vi x.a0.c8,vi x.a0.Seq,j8 4 A0 x.i7]
structure n5 where
 Node:Int
 a0:o7
 Code:Int
 g7:Int
def x8(x:n5):List V:=[vi x.Node,vi x.a0.c8,vi x.a0.Seq,vi x.Code,vi x.g7]
structure m4 where
 a6:List j7
 b9:List l9
 d7:List x6
 Told:List n5
def P4(x:m4):List V:=[j8 27 w9 x.a6,j8 13 s6 x.b9,j8 3 A2 x.d7,j8 5 x8 x.Told]
structure q9 where
 a9:Int
 A:Int
 i7:List n9
def H2(x:q9):List V:=[vi x.a9,vi x.A,j8 4 A0 x.i7]
structure t8 where
 b:List Int
 p:Int
def a0e(x:t8):List V:=[j8 1 K2 x.b,vi x.p]
structure n8 where
 j5:Int
 g7:Int
def z7(x:n8):List V:=[vi x.j5,vi x.g7]
structure s7 where
 a0:o7
 Code:Int
 g7:Int
def B7(x:s7):List V:=[vi x.a0.c8,vi x.a0.Seq,vi x.Code,vi x.g7]
structure u7 where
 At:Int
 g9:List n8
 j4:List s7
def a86(x:u7):List V:=[vi x.At,j8 2 z7 x.g9,j8 4 B7 x.j4]
structure p6 where
 n:j7
 out:List l9
 told:List n5
def d3N(x:p6):List V:=[vi x.n.Id,vi x.n.Acc.i4,j8 8 p9 x.n.Acc.a7,j8 7 t6 x.n.a5,vi x.n.Seq,vi x.n.d8,vi x.n.a8,j8 1 eB x.n.c9,j8 8 p9 x.n.i5,.b x.n.d6.i8,vi x.n.d6.a0.c8,vi x.n.d6.a0.Seq,j8 2 w6 x.n.d6.b8.b5,j8 2 w8 x.n.d6.b8.b6,vi x.n.d6.b8.g7,vi x.n.d6.b8.Code,j8 1 eB x.n.a7,.b x.n.i9,j8 4 A0 x.n.i7,.b x.n.b7.i8,vi x.n.b7.a0.c8,vi x.n.b7.a0.Seq,j8 2 w6 x.n.b7.b8.b5,j8 2 w8 x.n.b7.b8.b6,vi x.n.b7.b8.g7,vi x.n.b7.b8.Code,j8 7 t6 x.n.d9,j8 13 s6 x.out,j8 5 x8 x.told]
def z6(x:j7):List V:=[vi x.Id,vi x.Acc.i4,v5 108 8 p9 x.Acc.a7,v5 50 7 t6 x.a5,vi x.Seq,vi x.d8,vi x.a8,v5 4 1 eB x.c9,j8 8 p9 x.i5,.b x.d6.i8,vi x.d6.a0.c8,vi x.d6.a0.Seq,j8 2 w6 x.d6.b8.b5,j8 2 w8 x.d6.b8.b6,vi x.d6.b8.g7,vi x.d6.b8.Code,v5 4 1 eB x.a7,.b x.i9,j8 4 A0 x.i7,.b x.b7.i8,vi x.b7.a0.c8,vi x.b7.a0.Seq,j8 2 w6 x.b7.b8.b5,j8 2 w8 x.b7.b8.b6,vi x.b7.b8.g7,vi x.b7.b8.Code,v5 50 7 t6 x.d9]
theorem a66(x:j7):∀v∈z6 x,v.isRef=false:=by simp [z6,V.isRef,vi,j8,v5,b08]
theorem b1U(x:j7):a1D (z6 x)=w9 x:=by simp [z6,w9,a1D,a85,vi,j8,v5,b08]
def a0T(x:m9):List V:=[vi x.a8,.b x.i0.i8,vi x.i0.a0.c8,vi x.i0.a0.Seq,v5 180 2 w6 x.i0.b8.b5,v5 183 2 w8 x.i0.b8.b6,vi x.i0.b8.g7,vi x.i0.b8.Code]
theorem e6P(x:m9):a1D (a0T x)=p9 x:=by simp [a0T,p9,a1D,a85,vi,j8,v5,b08]
def b0K(l:List n9):List V:=[j8 4 A0 l]
def H5(x:o7):List Int:=[x.c8,x.Seq]
def e52(x_:j7):List V:=[vi x_.Id,vi x_.Acc.i4,j8 8 p9 x_.Acc.a7,v5 50 7 t6 x_.a5,vi x_.Seq,vi x_.d8,vi x_.a8,v5 4 1 eB x_.c9,j8 8 p9 x_.i5,.b x_.d6.i8,vi x_.d6.a0.c8,vi x_.d6.a0.Seq,j8 2 w6 x_.d6.b8.b5,j8 2 w8 x_.d6.b8.b6,vi x_.d6.b8.g7,vi x_.d6.b8.Code,v5 4 1 eB x_.a7,.b x_.i9,j8 4 A0 x_.i7,.b x_.b7.i8,vi x_.b7.a0.c8,vi x_.b7.a0.Seq,j8 2 w6 x_.b7.b8.b5,j8 2 w8 x_.b7.b8.b6,vi x_.b7.b8.g7,vi x_.b7.b8.Code,v5 50 7 t6 x_.d9]
def a8z(x_:m4):List V:=[v5 52 27 w9 x_.a6,v5 66 13 s6 x_.b9,v5 68 3 A2 x_.d7,v5 62 5 x8 x_.Told]
def H3(x_:j7):List V:=[vi x_.Id,vi x_.Acc.i4,v5 108 8 p9 x_.Acc.a7,v5 50 7 t6 x_.a5,vi x_.Seq,vi x_.d8,vi x_.a8,v5 4 1 eB x_.c9,j8 8 p9 x_.i5,.b x_.d6.i8,vi x_.d6.a0.c8,vi x_.d6.a0.Seq,j8 2 w6 x_.d6.b8.b5,j8 2 w8 x_.d6.b8.b6,vi x_.d6.b8.g7,vi x_.d6.b8.Code,v5 4 1 eB x_.a7,.b x_.i9,j8 4 A0 x_.i7,.b x_.b7.i8,vi x_.b7.a0.c8,vi x_.b7.a0.Seq,j8 2 w6 x_.b7.b8.b5,j8 2 w8 x_.b7.b8.b6,vi x_.b7.b8.g7,vi x_.b7.b8.Code,v5 50 7 t6 x_.d9]
def S4(x_:m4):List V:=[b08 52 27 z6 x_.a6,v5 66 13 s6 x_.b9,v5 68 3 A2 x_.d7,v5 62 5 x8 x_.Told]
def a6b(x_:n6):List V:=[v5 180 2 w6 x_.b5,v5 183 2 w8 x_.b6,vi x_.g7,vi x_.Code]
def f06(x_:m6):List V:=[.b x_.i8,vi x_.a0.c8,vi x_.a0.Seq,v5 180 2 w6 x_.b8.b5,v5 183 2 w8 x_.b8.b6,vi x_.b8.g7,vi x_.b8.Code]
def d4i(x_:m9):List V:=[vi x_.a8,.b x_.i0.i8,vi x_.i0.a0.c8,vi x_.i0.a0.Seq,j8 2 w6 x_.i0.b8.b5,j8 2 w8 x_.i0.b8.b6,vi x_.i0.b8.g7,vi x_.i0.b8.Code]
def a7D(x_:j7):List V:=[vi x_.Id,vi x_.Acc.i4,.own 0 0 8 0 x_.Acc.a7.length,.own 0 1 7 0 x_.a5.length,vi x_.Seq,vi x_.d8,vi x_.a8,.own 0 2 1 0 x_.c9.length,j8 8 p9 x_.i5,.b x_.d6.i8,vi x_.d6.a0.c8,vi x_.d6.a0.Seq,j8 2 w6 x_.d6.b8.b5,j8 2 w8 x_.d6.b8.b6,vi x_.d6.b8.g7,vi x_.d6.b8.Code,.own 0 3 1 0 x_.a7.length,.b x_.i9,j8 4 A0 x_.i7,.b x_.b7.i8,vi x_.b7.a0.c8,vi x_.b7.a0.Seq,j8 2 w6 x_.b7.b8.b5,j8 2 w8 x_.b7.b8.b6,vi x_.b7.b8.g7,vi x_.b7.b8.Code,.own 0 4 7 0 x_.d9.length]
def Y2(x_:j7):List V:=[vi x_.Id,vi x_.Acc.i4,j8 8 p9 x_.Acc.a7,j8 7 t6 x_.a5,vi x_.Seq,vi x_.d8,vi x_.a8,j8 1 eB x_.c9,j8 8 p9 x_.i5,.b x_.d6.i8,vi x_.d6.a0.c8,vi x_.d6.a0.Seq,j8 2 w6 x_.d6.b8.b5,j8 2 w8 x_.d6.b8.b6,vi x_.d6.b8.g7,vi x_.d6.b8.Code,j8 1 eB x_.a7,.b x_.i9,j8 4 A0 x_.i7,.b x_.b7.i8,vi x_.b7.a0.c8,vi x_.b7.a0.Seq,j8 2 w6 x_.b7.b8.b5,j8 2 w8 x_.b7.b8.b6,vi x_.b7.b8.g7,vi x_.b7.b8.Code,j8 7 t6 x_.d9]
def a5h(x_:l9):List V:=[vi x_.a9,vi x_.c9,vi x_.To,vi x_.a8,vi x_.g8,.b x_.i0.i8,vi x_.i0.a0.c8,vi x_.i0.a0.Seq,j8 2 w6 x_.i0.b8.b5,j8 2 w8 x_.i0.b8.b6,vi x_.i0.b8.g7,vi x_.i0.b8.Code,j8 8 p9 x_.a7]
def a3h(x_:m6):List V:=[.b x_.i8,vi x_.a0.c8,vi x_.a0.Seq,j8 2 w6 x_.b8.b5,j8 2 w8 x_.b8.b6,vi x_.b8.g7,vi x_.b8.Code]
def b2s(x_:u7):List V:=[vi x_.At,v5 156 2 z7 x_.g9,j8 4 B7 x_.j4]
def f3R(x_:j7):List V:=[.bot,.bot,v5 108 8 p9 x_.Acc.a7,v5 50 7 t6 x_.a5,.bot,.bot,.bot,v5 4 1 eB x_.c9,.bot,.bot,.bot,.bot,.bot,.bot,.bot,.bot,v5 4 1 eB x_.a7,.bot,.bot,.bot,.bot,.bot,.bot,.bot,.bot,.bot,v5 50 7 t6 x_.d9]
def d9h(x_:j7):List V:=[vi x_.Id,vi x_.Acc.i4,.own 3 0 8 0 x_.Acc.a7.length,.own 4 0 7 0 x_.a5.length,vi x_.Seq,vi x_.d8,vi x_.a8,.own 5 0 1 0 x_.c9.length,j8 8 p9 x_.i5,.b x_.d6.i8,vi x_.d6.a0.c8,vi x_.d6.a0.Seq,j8 2 w6 x_.d6.b8.b5,j8 2 w8 x_.d6.b8.b6,vi x_.d6.b8.g7,vi x_.d6.b8.Code,.own 6 0 1 0 x_.a7.length,.b x_.i9,j8 4 A0 x_.i7,.b x_.b7.i8,vi x_.b7.a0.c8,vi x_.b7.a0.Seq,j8 2 w6 x_.b7.b8.b5,j8 2 w8 x_.b7.b8.b6,vi x_.b7.b8.g7,vi x_.b7.b8.Code,.own 7 0 7 0 x_.d9.length]
def c0f(x_:p6):List V:=[vi x_.n.Id,vi x_.n.Acc.i4,j8 8 p9 x_.n.Acc.a7,v5 50 7 t6 x_.n.a5,vi x_.n.Seq,vi x_.n.d8,vi x_.n.a8,v5 4 1 eB x_.n.c9,j8 8 p9 x_.n.i5,.b x_.n.d6.i8,vi x_.n.d6.a0.c8,vi x_.n.d6.a0.Seq,j8 2 w6 x_.n.d6.b8.b5,j8 2 w8 x_.n.d6.b8.b6,vi x_.n.d6.b8.g7,vi x_.n.d6.b8.Code,v5 4 1 eB x_.n.a7,.b x_.n.i9,j8 4 A0 x_.n.i7,.b x_.n.b7.i8,vi x_.n.b7.a0.c8,vi x_.n.b7.a0.Seq,j8 2 w6 x_.n.b7.b8.b5,j8 2 w8 x_.n.b7.b8.b6,vi x_.n.b7.b8.g7,vi x_.n.b7.b8.Code,v5 50 7 t6 x_.n.d9,v5 66 13 s6 x_.out,v5 62 5 x8 x_.told]
def b4K(x_:u7):List V:=[vi x_.At,v5 156 2 z7 x_.g9,v5 194 4 B7 x_.j4]
def c0R(x_:p6):List V:=[vi x_.n.Id,vi x_.n.Acc.i4,j8 8 p9 x_.n.Acc.a7,.own 0 1 7 0 x_.n.a5.length,vi x_.n.Seq,vi x_.n.d8,vi x_.n.a8,.own 0 2 1 0 x_.n.c9.length,j8 8 p9 x_.n.i5,.b x_.n.d6.i8,vi x_.n.d6.a0.c8,vi x_.n.d6.a0.Seq,j8 2 w6 x_.n.d6.b8.b5,j8 2 w8 x_.n.d6.b8.b6,vi x_.n.d6.b8.g7,vi x_.n.d6.b8.Code,.own 0 3 1 0 x_.n.a7.length,.b x_.n.i9,j8 4 A0 x_.n.i7,.b x_.n.b7.i8,vi x_.n.b7.a0.c8,vi x_.n.b7.a0.Seq,j8 2 w6 x_.n.b7.b8.b5,j8 2 w8 x_.n.b7.b8.b6,vi x_.n.b7.b8.g7,vi x_.n.b7.b8.Code,j8 7 t6 x_.n.d9,.own 0 4 13 0 x_.out.length,.own 0 5 5 0 x_.told.length]
def L8(x_:p6):List V:=[vi x_.n.Id,vi x_.n.Acc.i4,j8 8 p9 x_.n.Acc.a7,v5 50 7 t6 x_.n.a5,vi x_.n.Seq,vi x_.n.d8,vi x_.n.a8,v5 4 1 eB x_.n.c9,j8 8 p9 x_.n.i5,.b x_.n.d6.i8,vi x_.n.d6.a0.c8,vi x_.n.d6.a0.Seq,j8 2 w6 x_.n.d6.b8.b5,j8 2 w8 x_.n.d6.b8.b6,vi x_.n.d6.b8.g7,vi x_.n.d6.b8.Code,v5 4 1 eB x_.n.a7,.b x_.n.i9,j8 4 A0 x_.n.i7,.b x_.n.b7.i8,vi x_.n.b7.a0.c8,vi x_.n.b7.a0.Seq,j8 2 w6 x_.n.b7.b8.b5,j8 2 w8 x_.n.b7.b8.b6,vi x_.n.b7.b8.g7,vi x_.n.b7.b8.Code,j8 7 t6 x_.n.d9,v5 66 13 s6 x_.out,v5 62 5 x8 x_.told]
def b37(x_:p6):List V:=[vi x_.n.Id,vi x_.n.Acc.i4,j8 8 p9 x_.n.Acc.a7,.own 1 0 7 0 x_.n.a5.length,vi x_.n.Seq,vi x_.n.d8,vi x_.n.a8,.own 2 0 1 0 x_.n.c9.length,j8 8 p9 x_.n.i5,.b x_.n.d6.i8,vi x_.n.d6.a0.c8,vi x_.n.d6.a0.Seq,j8 2 w6 x_.n.d6.b8.b5,j8 2 w8 x_.n.d6.b8.b6,vi x_.n.d6.b8.g7,vi x_.n.d6.b8.Code,.own 3 0 1 0 x_.n.a7.length,.b x_.n.i9,j8 4 A0 x_.n.i7,.b x_.n.b7.i8,vi x_.n.b7.a0.c8,vi x_.n.b7.a0.Seq,j8 2 w6 x_.n.b7.b8.b5,j8 2 w8 x_.n.b7.b8.b6,vi x_.n.b7.b8.g7,vi x_.n.b7.b8.Code,j8 7 t6 x_.n.d9,.own 4 0 13 0 x_.out.length,.own 5 0 5 0 x_.told.length]
def d7A(x_:p6):List V:=[vi x_.n.Id,vi x_.n.Acc.i4,j8 8 p9 x_.n.Acc.a7,.own 6 0 7 0 x_.n.a5.length,vi x_.n.Seq,vi x_.n.d8,vi x_.n.a8,.own 5 0 1 0 x_.n.c9.length,j8 8 p9 x_.n.i5,.b x_.n.d6.i8,vi x_.n.d6.a0.c8,vi x_.n.d6.a0.Seq,j8 2 w6 x_.n.d6.b8.b5,j8 2 w8 x_.n.d6.b8.b6,vi x_.n.d6.b8.g7,vi x_.n.d6.b8.Code,.own 4 0 1 0 x_.n.a7.length,.b x_.n.i9,j8 4 A0 x_.n.i7,.b x_.n.b7.i8,vi x_.n.b7.a0.c8,vi x_.n.b7.a0.Seq,j8 2 w6 x_.n.b7.b8.b5,j8 2 w8 x_.n.b7.b8.b6,vi x_.n.b7.b8.g7,vi x_.n.b7.b8.Code,j8 7 t6 x_.n.d9,.own 3 0 13 0 x_.out.length,.own 2 0 5 0 x_.told.length]
def b3z(x_:p6):List V:=[vi x_.n.Id,vi x_.n.Acc.i4,j8 8 p9 x_.n.Acc.a7,.own 3 0 7 0 x_.n.a5.length,vi x_.n.Seq,vi x_.n.d8,vi x_.n.a8,.own 4 0 1 0 x_.n.c9.length,j8 8 p9 x_.n.i5,.b x_.n.d6.i8,vi x_.n.d6.a0.c8,vi x_.n.d6.a0.Seq,j8 2 w6 x_.n.d6.b8.b5,j8 2 w8 x_.n.d6.b8.b6,vi x_.n.d6.b8.g7,vi x_.n.d6.b8.Code,.own 5 0 1 0 x_.n.a7.length,.b x_.n.i9,j8 4 A0 x_.n.i7,.b x_.n.b7.i8,vi x_.n.b7.a0.c8,vi x_.n.b7.a0.Seq,j8 2 w6 x_.n.b7.b8.b5,j8 2 w8 x_.n.b7.b8.b6,vi x_.n.b7.b8.g7,vi x_.n.b7.b8.Code,j8 7 t6 x_.n.d9,.own 6 0 13 0 x_.out.length,.own 7 0 5 0 x_.told.length]
def d2P(x_:p6):List V:=[vi x_.n.Id,vi x_.n.Acc.i4,j8 8 p9 x_.n.Acc.a7,.own 1 0 7 0 x_.n.a5.length,vi x_.n.Seq,vi x_.n.d8,vi x_.n.a8,.own 0 2 1 0 x_.n.c9.length,j8 8 p9 x_.n.i5,.b x_.n.d6.i8,vi x_.n.d6.a0.c8,vi x_.n.d6.a0.Seq,j8 2 w6 x_.n.d6.b8.b5,j8 2 w8 x_.n.d6.b8.b6,vi x_.n.d6.b8.g7,vi x_.n.d6.b8.Code,.own 2 0 1 0 x_.n.a7.length,.b x_.n.i9,j8 4 A0 x_.n.i7,.b x_.n.b7.i8,vi x_.n.b7.a0.c8,vi x_.n.b7.a0.Seq,j8 2 w6 x_.n.b7.b8.b5,j8 2 w8 x_.n.b7.b8.b6,vi x_.n.b7.b8.g7,vi x_.n.b7.b8.Code,j8 7 t6 x_.n.d9,.own 0 4 13 0 x_.out.length,.own 0 5 5 0 x_.told.length]
def f4J(x_:p6):List V:=[vi x_.n.Id,vi x_.n.Acc.i4,j8 8 p9 x_.n.Acc.a7,.own 1 0 7 0 x_.n.a5.length,vi x_.n.Seq,vi x_.n.d8,vi x_.n.a8,.own 0 2 1 0 x_.n.c9.length,j8 8 p9 x_.n.i5,.b x_.n.d6.i8,vi x_.n.d6.a0.c8,vi x_.n.d6.a0.Seq,j8 2 w6 x_.n.d6.b8.b5,j8 2 w8 x_.n.d6.b8.b6,vi x_.n.d6.b8.g7,vi x_.n.d6.b8.Code,.own 2 0 1 0 x_.n.a7.length,.b x_.n.i9,j8 4 A0 x_.n.i7,.b x_.n.b7.i8,vi x_.n.b7.a0.c8,vi x_.n.b7.a0.Seq,j8 2 w6 x_.n.b7.b8.b5,j8 2 w8 x_.n.b7.b8.b6,vi x_.n.b7.b8.g7,vi x_.n.b7.b8.Code,j8 7 t6 x_.n.d9,.own 0 4 13 0 x_.out.length,.own 3 0 5 0 x_.told.length]
def d9N(x_:p6):List V:=[vi x_.n.Id,vi x_.n.Acc.i4,j8 8 p9 x_.n.Acc.a7,.own 4 0 7 0 x_.n.a5.length,vi x_.n.Seq,vi x_.n.d8,vi x_.n.a8,.own 5 0 1 0 x_.n.c9.length,j8 8 p9 x_.n.i5,.b x_.n.d6.i8,vi x_.n.d6.a0.c8,vi x_.n.d6.a0.Seq,j8 2 w6 x_.n.d6.b8.b5,j8 2 w8 x_.n.d6.b8.b6,vi x_.n.d6.b8.g7,vi x_.n.d6.b8.Code,.own 6 0 1 0 x_.n.a7.length,.b x_.n.i9,j8 4 A0 x_.n.i7,.b x_.n.b7.i8,vi x_.n.b7.a0.c8,vi x_.n.b7.a0.Seq,j8 2 w6 x_.n.b7.b8.b5,j8 2 w8 x_.n.b7.b8.b6,vi x_.n.b7.b8.g7,vi x_.n.b7.b8.Code,j8 7 t6 x_.n.d9,.own 7 0 13 0 x_.out.length,.own 8 0 5 0 x_.told.length]
def a7n(x_:j7):List s8:=[m7 108 8 p9 x_.Acc.a7,m7 50 7 t6 x_.a5,m7 4 1 eB x_.c9,m7 4 1 eB x_.a7,m7 50 7 t6 x_.d9]
def e7a(x_:j7):List (Option (List s8)):=[some [m7 108 8 p9 x_.Acc.a7],some [m7 50 7 t6 x_.a5],some [m7 4 1 eB x_.c9],some [m7 4 1 eB x_.a7],some [m7 50 7 t6 x_.d9]]
def c3O(x_:p6):List s8:=[m7 50 7 t6 x_.n.a5,m7 4 1 eB x_.n.c9,m7 4 1 eB x_.n.a7,m7 66 13 s6 x_.out,m7 62 5 x8 x_.told]
def a3e(x_:p6):List (Option (List s8)):=[some [m7 50 7 t6 x_.n.a5],some [m7 4 1 eB x_.n.c9],some [m7 4 1 eB x_.n.a7],some [m7 66 13 s6 x_.out],some [m7 62 5 x8 x_.told]]
def e3R(x_:p6):List (Option (List s8)):=[some [m7 62 5 x8 x_.told],some [m7 66 13 s6 x_.out],some [m7 4 1 eB x_.n.a7],some [m7 4 1 eB x_.n.c9],some [m7 50 7 t6 x_.n.a5]]
def d6v(x_:p6):List s8:=[m7 66 13 s6 x_.out,m7 62 5 x8 x_.told]
def c8A(x_:p6):List (Option (List s8)):=[some [m7 50 7 t6 x_.n.a5],some [m7 4 1 eB x_.n.a7]]
def d8r(x_:p6):List (Option (List s8)):=[some [m7 50 7 t6 x_.n.a5],some [m7 4 1 eB x_.n.a7],some [m7 62 5 x8 x_.told]]
def om1:List (Option Nat):=[none,none,none,some 50,none,none,none,some 4,none,none,none,none,none,none,none,none,some 4,none,none,none,none,none,none,none,none,none,some 50]
def om2:List (Option Nat):=[some 52,some 66,some 68,some 62]
def G7:List (Option Nat):=[none,none,some 108,some 50,none,none,none,some 4,none,none,none,none,none,none,none,none,some 4,none,none,none,none,none,none,none,none,none,some 50]
def R5:List (Option Nat):=[some 1000052,some 66,some 68,some 62]
def om5:List (Option Nat):=[some 180,some 183,none,none]
def om6:List (Option Nat):=[none,none,none,some 180,some 183,none,none]
def om7:List (Option Nat):=[none,none,none,some 50,none,none,none,some 4,none,none,none,none,none,none,none,none,some 4,none,none,none,none,none,none,none,none,none,some 50,some 66,some 62]
def M3:List (Option Nat):=[none,none,none,some 50,none,none,none,some 4,none,none,none,none,none,none,none,none,some 4,none,none,none,none,none,none,none,none,none,none,some 66,some 62]
def D4:List (Option Nat):=[some 27,some 13,some 3,some 5]
def O6:List (Option Nat):=[some 2,some 2,none,none]
def K4:List (Option Nat):=[none,none,none,some 2,some 2,none,none]
def A8:List (Option Nat):=[none,none,some 8,some 7,none,none,none,some 1,some 8,none,none,none,some 2,some 2,none,none,some 1,none,some 4,none,none,none,some 2,some 2,none,none,some 7]
def B9:List (Option Nat):=[none,none,none,none,none,none,none,none,some 2,some 2,none,none,some 8]
def V3:List (Option Nat):=[none,none,none,none,some 2,some 2,none,none]
def I7:List (Option Nat):=[none,none,some 8,some 7,none,none,none,some 1,some 8,none,none,none,some 2,some 2,none,none,some 1,none,some 4,none,none,none,some 2,some 2,none,none,some 7,some 13,some 5]
theorem c6P(d:Nat)(w:World)(x0 x1 y0 y1:Int):(Op.equalIn (d+2) 44 (.agg #[.int .i64 x0,.int .i64 x1]) (.agg #[.int .i64 y0,.int .i64 y1])).run Tryz.prog w=.ok ((x0==y0)&&((x1==y1)&&true)) w:=by
 refine b0b Tryz.underlying44 Tryz.stoodInHeld44 ?_;refine a0n (by rfl) (by first|(go_simp;done)|(go_simp;rfl)) (by first|(go_simp;done)|(go_simp;rfl)) (a0K Tryz.underlying3) ?_;refine a0n (by rfl) (by first|(go_simp;done)|(go_simp;rfl)) (by first|(go_simp;done)|(go_simp;rfl)) (a0K Tryz.underlying3) ?_;exact b0M
theorem e1q(xs ys:List Int)(w:World)(hx:xs.length=2)(hy:ys.length=2):(Op.equal 44 (.agg (xs.map (Value.int .i64)).toArray) (.agg (ys.map (Value.int .i64)).toArray)).run Tryz.prog w=.ok (xs==ys) w:=by
 match xs,ys,hx,hy with
 | [x0,x1],[y0,y1],_,_=>
  have h:=c6P 9998 w x0 x1 y0 y1;have e:((x0==y0)&&((x1==y1)&&true))=([x0,x1]==([y0,y1]:List Int)):=by simp [f7U]
  rw [e] at h;exact h
theorem f4p(d:Nat)(w:World)(x0 x1 x2 x3 x4 y0 y1 y2 y3 y4:Int):(Op.equalIn (d+3) 62 (.agg #[.int .i64 x0,.int .i64 x1,.int .i64 x2,.int .i64 x3,.int .i64 x4]) (.agg #[.int .i64 y0,.int .i64 y1,.int .i64 y2,.int .i64 y3,.int .i64 y4])).run Tryz.prog w=.ok ((x0==y0)&&(((x1==y1)&&((x2==y2)&&true))&&((x3==y3)&&((x4==y4)&&true)))) w:=by
 refine b0b Tryz.underlying62 Tryz.stoodInHeld62 ?_;refine a0n (by rfl) (by first|(go_simp;done)|(go_simp;rfl)) (by first|(go_simp;done)|(go_simp;rfl)) (a0K Tryz.underlying3) ?_;refine a0n (by rfl) (by first|(go_simp;done)|(go_simp;rfl)) (by first|(go_simp;done)|(go_simp;rfl)) (c6P (d+0) w x1 x2 y1 y2) ?_;refine a0n (by rfl) (by first|(go_simp;done)|(go_simp;rfl)) (by first|(go_simp;done)|(go_simp;rfl)) (a0K Tryz.underlying3) ?_;refine a0n (by rfl) (by first|(go_simp;done)|(go_simp;rfl)) (by first|(go_simp;done)|(go_simp;rfl)) (a0K Tryz.underlying3) ?_;exact b0M
theorem e5z(xs ys:List Int)(w:World)(hx:xs.length=5)(hy:ys.length=5):(Op.equal 62 (.agg (xs.map (Value.int .i64)).toArray) (.agg (ys.map (Value.int .i64)).toArray)).run Tryz.prog w=.ok (xs==ys) w:=by
 match xs,ys,hx,hy with
 | [x0,x1,x2,x3,x4],[y0,y1,y2,y3,y4],_,_=>
  have h:=f4p 9997 w x0 x1 x2 x3 x4 y0 y1 y2 y3 y4;have e:((x0==y0)&&(((x1==y1)&&((x2==y2)&&true))&&((x3==y3)&&((x4==y4)&&true))))=([x0,x1,x2,x3,x4]==([y0,y1,y2,y3,y4]:List Int)):=by simp [f7U]
  rw [e] at h;exact h
theorem e7U(d:Nat)(w:World)(x0 x1 x2 x3 y0 y1 y2 y3:Int):(Op.equalIn (d+2) 82 (.agg #[.int .i64 x0,.int .i64 x1,.int .i64 x2,.int .i64 x3]) (.agg #[.int .i64 y0,.int .i64 y1,.int .i64 y2,.int .i64 y3])).run Tryz.prog w=.ok ((x0==y0)&&((x1==y1)&&((x2==y2)&&((x3==y3)&&true)))) w:=by
 refine b0b Tryz.underlying82 Tryz.stoodInHeld82 ?_;refine a0n (by rfl) (by first|(go_simp;done)|(go_simp;rfl)) (by first|(go_simp;done)|(go_simp;rfl)) (a0K Tryz.underlying3) ?_;refine a0n (by rfl) (by first|(go_simp;done)|(go_simp;rfl)) (by first|(go_simp;done)|(go_simp;rfl)) (a0K Tryz.underlying3) ?_;refine a0n (by rfl) (by first|(go_simp;done)|(go_simp;rfl)) (by first|(go_simp;done)|(go_simp;rfl)) (a0K Tryz.underlying3) ?_;refine a0n (by rfl) (by first|(go_simp;done)|(go_simp;rfl)) (by first|(go_simp;done)|(go_simp;rfl)) (a0K Tryz.underlying3) ?_;exact b0M
theorem d86(xs ys:List Int)(w:World)(hx:xs.length=4)(hy:ys.length=4):(Op.equal 82 (.agg (xs.map (Value.int .i64)).toArray) (.agg (ys.map (Value.int .i64)).toArray)).run Tryz.prog w=.ok (xs==ys) w:=by
 match xs,ys,hx,hy with
 | [x0,x1,x2,x3],[y0,y1,y2,y3],_,_=>
  have h:=e7U 9998 w x0 x1 x2 x3 y0 y1 y2 y3;have e:((x0==y0)&&((x1==y1)&&((x2==y2)&&((x3==y3)&&true))))=([x0,x1,x2,x3]==([y0,y1,y2,y3]:List Int)):=by simp [f7U]
  rw [e] at h;exact h
theorem e2h(d:Nat)(w:World)(x0 x1 y0 y1:Int):(Op.equalIn (d+2) 156 (.agg #[.int .i64 x0,.int .i64 x1]) (.agg #[.int .i64 y0,.int .i64 y1])).run Tryz.prog w=.ok ((x0==y0)&&((x1==y1)&&true)) w:=by
 refine b0b Tryz.underlying156 Tryz.stoodInHeld156 ?_;refine a0n (by rfl) (by first|(go_simp;done)|(go_simp;rfl)) (by first|(go_simp;done)|(go_simp;rfl)) (a0K Tryz.underlying3) ?_;refine a0n (by rfl) (by first|(go_simp;done)|(go_simp;rfl)) (by first|(go_simp;done)|(go_simp;rfl)) (a0K Tryz.underlying3) ?_;exact b0M
theorem e7N(xs ys:List Int)(w:World)(hx:xs.length=2)(hy:ys.length=2):(Op.equal 156 (.agg (xs.map (Value.int .i64)).toArray) (.agg (ys.map (Value.int .i64)).toArray)).run Tryz.prog w=.ok (xs==ys) w:=by
 match xs,ys,hx,hy with
 | [x0,x1],[y0,y1],_,_=>
  have h:=e2h 9998 w x0 x1 y0 y1;have e:((x0==y0)&&((x1==y1)&&true))=([x0,x1]==([y0,y1]:List Int)):=by simp [f7U]
  rw [e] at h;exact h
theorem e1N(d:Nat)(w:World)(x0 x1 y0 y1:Int):(Op.equalIn (d+2) 180 (.agg #[.int .i64 x0,.int .i64 x1]) (.agg #[.int .i64 y0,.int .i64 y1])).run Tryz.prog w=.ok ((x0==y0)&&((x1==y1)&&true)) w:=by
 refine b0b Tryz.underlying180 Tryz.stoodInHeld180 ?_;refine a0n (by rfl) (by first|(go_simp;done)|(go_simp;rfl)) (by first|(go_simp;done)|(go_simp;rfl)) (a0K Tryz.underlying3) ?_;refine a0n (by rfl) (by first|(go_simp;done)|(go_simp;rfl)) (by first|(go_simp;done)|(go_simp;rfl)) (a0K Tryz.underlying3) ?_;exact b0M
theorem e1Y(xs ys:List Int)(w:World)(hx:xs.length=2)(hy:ys.length=2):(Op.equal 180 (.agg (xs.map (Value.int .i64)).toArray) (.agg (ys.map (Value.int .i64)).toArray)).run Tryz.prog w=.ok (xs==ys) w:=by
 match xs,ys,hx,hy with
 | [x0,x1],[y0,y1],_,_=>
  have h:=e1N 9998 w x0 x1 y0 y1;have e:((x0==y0)&&((x1==y1)&&true))=([x0,x1]==([y0,y1]:List Int)):=by simp [f7U]
  rw [e] at h;exact h
theorem d8u(d:Nat)(w:World)(x0 x1 y0 y1:Int):(Op.equalIn (d+2) 183 (.agg #[.int .i64 x0,.int .i64 x1]) (.agg #[.int .i64 y0,.int .i64 y1])).run Tryz.prog w=.ok ((x0==y0)&&((x1==y1)&&true)) w:=by
 refine b0b Tryz.underlying183 Tryz.stoodInHeld183 ?_;refine a0n (by rfl) (by first|(go_simp;done)|(go_simp;rfl)) (by first|(go_simp;done)|(go_simp;rfl)) (a0K Tryz.underlying3) ?_;refine a0n (by rfl) (by first|(go_simp;done)|(go_simp;rfl)) (by first|(go_simp;done)|(go_simp;rfl)) (a0K Tryz.underlying3) ?_;exact b0M
theorem f3h(xs ys:List Int)(w:World)(hx:xs.length=2)(hy:ys.length=2):(Op.equal 183 (.agg (xs.map (Value.int .i64)).toArray) (.agg (ys.map (Value.int .i64)).toArray)).run Tryz.prog w=.ok (xs==ys) w:=by
 match xs,ys,hx,hy with
 | [x0,x1],[y0,y1],_,_=>
  have h:=d8u 9998 w x0 x1 y0 y1;have e:((x0==y0)&&((x1==y1)&&true))=([x0,x1]==([y0,y1]:List Int)):=by simp [f7U]
  rw [e] at h;exact h
def ti3:TI:={size:=1,bytes:=8,agg:=false,zero:=[vi 0],sl:=none,arr:=none,ik:=some .i64,fs:=none,str:=false,ptr:=none,bl:=false}
def ti4:TI:={size:=1,bytes:=1,agg:=false,zero:=[.b false],sl:=none,arr:=none,ik:=none,fs:=none,str:=false,ptr:=none,bl:=true}
def ti5:TI:={size:=1,bytes:=1,agg:=false,zero:=[.i .u8 0],sl:=none,arr:=none,ik:=some .u8,fs:=none,str:=false,ptr:=none,bl:=false}
def d0V:TI:={size:=1,bytes:=24,agg:=false,zero:=[.nil],sl:=some 5,arr:=none,ik:=none,fs:=none,str:=false,ptr:=none,bl:=false}
def c7h:TI:={size:=1,bytes:=24,agg:=false,zero:=[.nil],sl:=some 52,arr:=none,ik:=none,fs:=none,str:=false,ptr:=none,bl:=false}
def d1s:TI:={size:=1,bytes:=24,agg:=false,zero:=[.nil],sl:=some 66,arr:=none,ik:=none,fs:=none,str:=false,ptr:=none,bl:=false}
def d4y:TI:={size:=1,bytes:=24,agg:=false,zero:=[.nil],sl:=some 68,arr:=none,ik:=none,fs:=none,str:=false,ptr:=none,bl:=false}
def d0A:TI:={size:=1,bytes:=24,agg:=false,zero:=[.nil],sl:=some 62,arr:=none,ik:=none,fs:=none,str:=false,ptr:=none,bl:=false}
def c7y:TI:={size:=4,bytes:=96,agg:=true,zero:=[.nil,.nil,.nil,.nil],sl:=none,arr:=none,ik:=none,fs:=some [(0,23),(1,24),(2,25),(3,26)],str:=false,ptr:=none,bl:=false}
def c6d:TI:={size:=1,bytes:=24,agg:=false,zero:=[.nil],sl:=some 37,arr:=none,ik:=none,fs:=none,str:=false,ptr:=none,bl:=false}
def d3C:TI:={size:=1,bytes:=24,agg:=false,zero:=[.nil],sl:=some 82,arr:=none,ik:=none,fs:=none,str:=false,ptr:=none,bl:=false}
def c9t:TI:={size:=3,bytes:=40,agg:=true,zero:=[vi 0,vi 0,.nil],sl:=none,arr:=none,ik:=none,fs:=some [(0,3),(1,3),(2,35)],str:=false,ptr:=none,bl:=false}
def d4Z:TI:={size:=1,bytes:=24,agg:=false,zero:=[.nil],sl:=some 108,arr:=none,ik:=none,fs:=none,str:=false,ptr:=none,bl:=false}
def c7A:TI:={size:=2,bytes:=32,agg:=true,zero:=[vi 0,.nil],sl:=none,arr:=none,ik:=none,fs:=some [(0,3),(1,38)],str:=false,ptr:=none,bl:=false}
def d3F:TI:={size:=1,bytes:=24,agg:=false,zero:=[.nil],sl:=some 50,arr:=none,ik:=none,fs:=none,str:=false,ptr:=none,bl:=false}
def d64:TI:={size:=1,bytes:=24,agg:=false,zero:=[.nil],sl:=some 4,arr:=none,ik:=none,fs:=none,str:=false,ptr:=none,bl:=false}
def c0S:TI:={size:=2,bytes:=16,agg:=true,zero:=[vi 0,vi 0],sl:=none,arr:=none,ik:=none,fs:=some [(0,3),(1,3)],str:=false,ptr:=none,bl:=false}
def d5M:TI:={size:=1,bytes:=24,agg:=false,zero:=[.nil],sl:=some 180,arr:=none,ik:=none,fs:=none,str:=false,ptr:=none,bl:=false}
def d5D:TI:={size:=1,bytes:=24,agg:=false,zero:=[.nil],sl:=some 183,arr:=none,ik:=none,fs:=none,str:=false,ptr:=none,bl:=false}
def c8U:TI:={size:=4,bytes:=64,agg:=true,zero:=[.nil,.nil,vi 0,vi 0],sl:=none,arr:=none,ik:=none,fs:=some [(0,45),(1,46),(2,3),(3,3)],str:=false,ptr:=none,bl:=false}
def c2P:TI:={size:=7,bytes:=88,agg:=true,zero:=[.b false,vi 0,vi 0,.nil,.nil,vi 0,vi 0],sl:=none,arr:=none,ik:=none,fs:=some [(0,4),(1,44),(3,48)],str:=false,ptr:=none,bl:=false}
def c5k:TI:={size:=27,bytes:=392,agg:=true,zero:=[vi 0,vi 0,.nil,.nil,vi 0,vi 0,vi 0,.nil,.nil,.b false,vi 0,vi 0,.nil,.nil,vi 0,vi 0,.nil,.b false,.nil,.b false,vi 0,vi 0,.nil,.nil,vi 0,vi 0,.nil],sl:=none,arr:=none,ik:=none,fs:=some [(0,3),(1,40),(3,41),(4,3),(5,3),(6,3),(7,42),(8,38),(9,50),(16,42),(17,4),(18,35),(19,50),(26,41)],str:=false,ptr:=none,bl:=false}
def c5n:TI:={size:=5,bytes:=40,agg:=true,zero:=[vi 0,vi 0,vi 0,vi 0,vi 0],sl:=none,arr:=none,ik:=none,fs:=some [(0,3),(1,44),(3,3),(4,3)],str:=false,ptr:=none,bl:=false}
def c4j:TI:={size:=13,bytes:=152,agg:=true,zero:=[vi 0,vi 0,vi 0,vi 0,vi 0,.b false,vi 0,vi 0,.nil,.nil,vi 0,vi 0,.nil],sl:=none,arr:=none,ik:=none,fs:=some [(0,3),(1,3),(2,3),(3,3),(4,3),(5,50),(12,38)],str:=false,ptr:=none,bl:=false}
def c2z:TI:={size:=3,bytes:=40,agg:=true,zero:=[vi 0,vi 0,.nil],sl:=none,arr:=none,ik:=none,fs:=some [(0,44),(2,35)],str:=false,ptr:=none,bl:=false}
def c3L:TI:={size:=4,bytes:=32,agg:=true,zero:=[vi 0,vi 0,vi 0,vi 0],sl:=none,arr:=none,ik:=none,fs:=some [(0,3),(1,3),(2,3),(3,3)],str:=false,ptr:=none,bl:=false}
def c6K:TI:={size:=1,bytes:=24,agg:=false,zero:=[.nil],sl:=some 3,arr:=none,ik:=none,fs:=none,str:=false,ptr:=none,bl:=false}
def d6G:TI:={size:=2,bytes:=32,agg:=true,zero:=[.nil,vi 0],sl:=none,arr:=none,ik:=none,fs:=some [(0,22),(1,3)],str:=false,ptr:=none,bl:=false}
def b4A:TI:={size:=8,bytes:=96,agg:=true,zero:=[vi 0,.b false,vi 0,vi 0,.nil,.nil,vi 0,vi 0],sl:=none,arr:=none,ik:=none,fs:=some [(0,3),(1,50)],str:=false,ptr:=none,bl:=false}
def c7x:TI:={size:=1,bytes:=24,agg:=false,zero:=[.nil],sl:=some 44,arr:=none,ik:=none,fs:=none,str:=false,ptr:=none,bl:=false}
def c8B:TI:={size:=1,bytes:=24,agg:=false,zero:=[.nil],sl:=some 35,arr:=none,ik:=none,fs:=none,str:=false,ptr:=none,bl:=false}
def d2f:TI:={size:=1,bytes:=24,agg:=false,zero:=[.nil],sl:=some 156,arr:=none,ik:=none,fs:=none,str:=false,ptr:=none,bl:=false}
def d6w:TI:={size:=1,bytes:=24,agg:=false,zero:=[.nil],sl:=some 194,arr:=none,ik:=none,fs:=none,str:=false,ptr:=none,bl:=false}
def d6h:TI:={size:=3,bytes:=56,agg:=true,zero:=[vi 0,.nil,.nil],sl:=none,arr:=none,ik:=none,fs:=some [(0,3),(1,116),(2,121)],str:=false,ptr:=none,bl:=false}
def b3S:TI:={size:=2,bytes:=16,agg:=true,zero:=[vi 0,vi 0],sl:=none,arr:=none,ik:=none,fs:=some [(0,3),(1,3)],str:=false,ptr:=none,bl:=false}
def d1y:TI:={size:=29,bytes:=440,agg:=true,zero:=[vi 0,vi 0,.nil,.nil,vi 0,vi 0,vi 0,.nil,.nil,.b false,vi 0,vi 0,.nil,.nil,vi 0,vi 0,.nil,.b false,.nil,.b false,vi 0,vi 0,.nil,.nil,vi 0,vi 0,.nil,.nil,.nil],sl:=none,arr:=none,ik:=none,fs:=some [(0,52),(27,24),(28,26)],str:=false,ptr:=none,bl:=false}
def c5E:TI:={size:=2,bytes:=16,agg:=true,zero:=[vi 0,vi 0],sl:=none,arr:=none,ik:=none,fs:=some [(0,3),(1,3)],str:=false,ptr:=none,bl:=false}
def c40:TI:={size:=2,bytes:=16,agg:=true,zero:=[vi 0,vi 0],sl:=none,arr:=none,ik:=none,fs:=some [(0,3),(1,3)],str:=false,ptr:=none,bl:=false}
def c46:TI:={size:=4,bytes:=32,agg:=true,zero:=[vi 0,vi 0,vi 0,vi 0],sl:=none,arr:=none,ik:=none,fs:=some [(0,44),(2,3),(3,3)],str:=false,ptr:=none,bl:=false}
def c8E:TI:={size:=4,bytes:=4,agg:=true,zero:=[.b false,.b false,.b false,.b false],sl:=none,arr:=some (4,4),ik:=none,fs:=none,str:=false,ptr:=none,bl:=false}
def d4g:TI:={size:=4,bytes:=32,agg:=true,zero:=[vi 0,vi 0,vi 0,vi 0],sl:=none,arr:=some (4,3),ik:=none,fs:=none,str:=false,ptr:=none,bl:=false}
def c4b:List (Nat×TI):=[(3,ti3),(4,ti4),(5,ti5),(22,d0V),(23,c7h),(24,d1s),(25,d4y),(26,d0A),(28,c7y),(31,c6d),(35,d3C),(37,c9t),(38,d4Z),(40,c7A),(41,d3F),(42,d64),(44,c0S),(45,d5M),(46,d5D),(48,c8U),(50,c2P),(52,c5k),(62,c5n),(66,c4j),(68,c2z),(82,c3L),(88,c6K),(92,d6G),(108,b4A),(111,c7x),(113,c8B),(116,d2f),(121,d6w),(123,d6h),(156,b3S),(171,d1y),(180,c5E),(183,c40),(194,c46),(196,c8E),(199,d4g)]
def c0h:List (Nat×TI)->Nat->Option TI
 | [],_=>none
 | (k,x)::l,t=>if Nat.beq k t then some x else c0h l t
theorem d7N{l:List (Nat×TI)}{t:Nat}{x:TI}(h:c0h l t=some x):(t,x)∈l:=by
 induction l with
 | nil=>cases h
 | cons p l ih=>
  obtain ⟨k,y⟩:=p;unfold c0h at h;split at h
  ·rename_i hk;have:k=t:=f6I hk;injection h with h;subst this;subst h;simp
  ·exact f6j.2 (.inr (ih h))
theorem e7j:F7 Tryz.prog 3=some ti3:=by kernel_rfl
theorem e0x:F7 Tryz.prog 4=some ti4:=by kernel_rfl
theorem e7u:F7 Tryz.prog 5=some ti5:=by kernel_rfl
theorem e1z:F7 Tryz.prog 22=some d0V:=by kernel_rfl
theorem d8X:F7 Tryz.prog 23=some c7h:=by kernel_rfl
theorem d8B:F7 Tryz.prog 24=some d1s:=by kernel_rfl
theorem e8N:F7 Tryz.prog 25=some d4y:=by kernel_rfl
theorem f5H:F7 Tryz.prog 26=some d0A:=by kernel_rfl
theorem e97:F7 Tryz.prog 28=some c7y:=by kernel_rfl
theorem f0D:F7 Tryz.prog 31=some c6d:=by kernel_rfl
theorem e2A:F7 Tryz.prog 35=some d3C:=by kernel_rfl
theorem d8O:F7 Tryz.prog 37=some c9t:=by kernel_rfl
theorem e6D:F7 Tryz.prog 38=some d4Z:=by kernel_rfl
theorem f4E:F7 Tryz.prog 40=some c7A:=by kernel_rfl
theorem e99:F7 Tryz.prog 41=some d3F:=by kernel_rfl
theorem e7S:F7 Tryz.prog 42=some d64:=by kernel_rfl
theorem f09:F7 Tryz.prog 44=some c0S:=by kernel_rfl
theorem e8C:F7 Tryz.prog 45=some d5M:=by kernel_rfl
theorem f3g:F7 Tryz.prog 46=some d5D:=by kernel_rfl
theorem d9n:F7 Tryz.prog 48=some c8U:=by kernel_rfl
theorem f3k:F7 Tryz.prog 50=some c2P:=by kernel_rfl
theorem e6q:F7 Tryz.prog 52=some c5k:=by kernel_rfl
theorem f2z:F7 Tryz.prog 62=some c5n:=by kernel_rfl
theorem e0L:F7 Tryz.prog 66=some c4j:=by kernel_rfl
theorem f1g:F7 Tryz.prog 68=some c2z:=by kernel_rfl
theorem e4N:F7 Tryz.prog 82=some c3L:=by kernel_rfl
theorem d8o:F7 Tryz.prog 88=some c6K:=by kernel_rfl
theorem e7Z:F7 Tryz.prog 92=some d6G:=by kernel_rfl
theorem f0h:F7 Tryz.prog 108=some b4A:=by kernel_rfl
theorem e4o:F7 Tryz.prog 111=some c7x:=by kernel_rfl
theorem f3u:F7 Tryz.prog 113=some c8B:=by kernel_rfl
theorem f0c:F7 Tryz.prog 116=some d2f:=by kernel_rfl
theorem e2K:F7 Tryz.prog 121=some d6w:=by kernel_rfl
theorem d7C:F7 Tryz.prog 123=some d6h:=by kernel_rfl
theorem d83:F7 Tryz.prog 156=some b3S:=by kernel_rfl
theorem e4A:F7 Tryz.prog 171=some d1y:=by kernel_rfl
theorem e2r:F7 Tryz.prog 180=some c5E:=by kernel_rfl
theorem e2a:F7 Tryz.prog 183=some c40:=by kernel_rfl
theorem e6E:F7 Tryz.prog 194=some c46:=by kernel_rfl
theorem e6y:F7 Tryz.prog 196=some c8E:=by kernel_rfl
theorem e5q:F7 Tryz.prog 199=some d4g:=by kernel_rfl
theorem f1h:∀p∈c4b,F7 Tryz.prog p.1=some p.2:=by
 intro p hp;simp only [c4b,f6j,f8k,or_false] at hp;rcases hp with rfl|rfl|rfl|rfl|rfl|rfl|rfl|rfl|rfl|rfl|rfl|rfl|rfl|rfl|rfl|rfl|rfl|rfl|rfl|rfl|rfl|rfl|rfl|rfl|rfl|rfl|rfl|rfl|rfl|rfl|rfl|rfl|rfl|rfl|rfl|rfl|rfl|rfl|rfl|rfl|rfl
 ·exact e7j
 ·exact e0x
 ·exact e7u
 ·exact e1z
 ·exact d8X
 ·exact d8B
 ·exact e8N
 ·exact f5H
 ·exact e97
 ·exact f0D
 ·exact e2A
 ·exact d8O
 ·exact e6D
 ·exact f4E
 ·exact e99
 ·exact e7S
 ·exact f09
 ·exact e8C
 ·exact f3g
 ·exact d9n
 ·exact f3k
 ·exact e6q
 ·exact f2z
 ·exact e0L
 ·exact f1g
 ·exact e4N
 ·exact d8o
 ·exact e7Z
 ·exact f0h
 ·exact e4o
 ·exact f3u
 ·exact f0c
 ·exact e2K
 ·exact d7C
 ·exact d83
 ·exact e4A
 ·exact e2r
 ·exact e2a
 ·exact e6E
 ·exact e6y
 ·exact e5q
def a9r(t:Nat):Option Nat:=if Nat.beq t 44 then some 2 else if Nat.beq t 62 then some 5 else if Nat.beq t 82 then some 4 else if Nat.beq t 156 then some 2 else if Nat.beq t 180 then some 2 else if Nat.beq t 183 then some 2 else  none
theorem e3w(t m:Nat)(h:a9r t=some m)(xs ys:List Int)(w:World)(hx:xs.length=m)(hy:ys.length=m):(Op.equal t (.agg (xs.map (Value.int .i64)).toArray) (.agg (ys.map (Value.int .i64)).toArray)).run Tryz.prog w=.ok (xs==ys) w:=by
 unfold a9r at h;split at h
 ·rename_i hk;have hm:2=m:=f7h h;rw [f6I hk];exact e1q xs ys w (hx.trans hm.symm) (hy.trans hm.symm)
 split at h
 ·rename_i hk;have hm:5=m:=f7h h;rw [f6I hk];exact e5z xs ys w (hx.trans hm.symm) (hy.trans hm.symm)
 split at h
 ·rename_i hk;have hm:4=m:=f7h h;rw [f6I hk];exact d86 xs ys w (hx.trans hm.symm) (hy.trans hm.symm)
 split at h
 ·rename_i hk;have hm:2=m:=f7h h;rw [f6I hk];exact e7N xs ys w (hx.trans hm.symm) (hy.trans hm.symm)
 split at h
 ·rename_i hk;have hm:2=m:=f7h h;rw [f6I hk];exact e1Y xs ys w (hx.trans hm.symm) (hy.trans hm.symm)
 split at h
 ·rename_i hk;have hm:2=m:=f7h h;rw [f6I hk];exact f3h xs ys w (hx.trans hm.symm) (hy.trans hm.symm)
 cases h
theorem d7h(t m:Nat)(h:a9r t=some m):Tryz.prog.eqGuardType Tryz.prog.depth t=false:=by
 unfold a9r at h;split at h
 ·rename_i hk;have hm:2=m:=f7h h;rw [f6I hk];exact Tryz.eqGuardType44
 split at h
 ·rename_i hk;have hm:5=m:=f7h h;rw [f6I hk];exact Tryz.eqGuardType62
 split at h
 ·rename_i hk;have hm:4=m:=f7h h;rw [f6I hk];exact Tryz.eqGuardType82
 split at h
 ·rename_i hk;have hm:2=m:=f7h h;rw [f6I hk];exact Tryz.eqGuardType156
 split at h
 ·rename_i hk;have hm:2=m:=f7h h;rw [f6I hk];exact Tryz.eqGuardType180
 split at h
 ·rename_i hk;have hm:2=m:=f7h h;rw [f6I hk];exact Tryz.eqGuardType183
 cases h
theorem f5k:Tryz.prog.underlying 128=some (.map 44 4):=by kernel_rfl
theorem e7x(w:World):(zeroValue 4).run Tryz.prog w=.ok (.bool false) w:=by kernel_rfl
theorem d7s(em:Bool)(xs:List Int)(w:World)(h:xs.length=2):(Instr.checkKey em 10000 44 (kv xs)).run Tryz.prog w=.ok () w:=by
 match xs,h with
 | [x0,x1],_=>
  refine f3T (n:=9999) Tryz.underlying44 fun f hf => ?_
  simp only [f6j,f8k,or_false] at hf;rcases hf with rfl|rfl
  ·exact ⟨.int .i64 x0,by first|(go_simp;done)|(go_simp;rfl),d1b (n:=9998) Tryz.underlying3⟩
  ·exact ⟨.int .i64 x1,by first|(go_simp;done)|(go_simp;rfl),d1b (n:=9998) Tryz.underlying3⟩
def c2g(t:Nat):Option (Nat×Nat×V):=if Nat.beq t 128 then some (44,2,.b false) else  none
theorem e8u(t kt m:Nat)(z:V)(h:c2g t=some (kt,m,z)):∃vt,Tryz.prog.underlying t=some (.map kt vt)/\a9r kt=some m/\b6H (Tryz.prog.underlying kt)=true/\(∀w,(zeroValue vt).run Tryz.prog w=.ok z.conc w)/\z.simple=true/\∀(em:Bool) (xs:List Int) (w:World),xs.length=m->(Instr.checkKey em 10000 kt (kv xs)).run Tryz.prog w=.ok () w:=by
 unfold c2g at h;split at h
 ·rename_i hk;injection h with h;injection h with h1 h;injection h with h2 h3;subst h1;subst h2;subst h3;obtain rfl:=f6I hk;exact ⟨4,f5k,rfl,by rw [Tryz.underlying44];rfl,e7x,rfl,d7s⟩
 cases h
theorem d9U:Tryz.prog.follows .mixedOrders=true:=by kernel_rfl
def cx:Cx where
 P:=Tryz.prog
 mixed:=d9U
 T:=c0h c4b
 hT:=fun t ti h=>f1h (t,ti) (d7N h)
 E:=a9r
 hE:=e3w
 hG:=d7h
 M:=c2g
 hM:=e8u
structure FS(α:Type) where
 f:Nat
 fn:Func
 m:List PM
 o:List (Option (Nat×PM))
 ms:List PM
 R:α->V
 O:α->LOV
 h:cx.P.funcs[f]?=some fn
def FS.X{α:Type}(q:FS α):O7:=⟨q.f,q.fn,q.m,q.o⟩
def FS.c{α:Type}(q:FS α):Code:=f1b q.fn
def FS.t{α:Type}(q:FS α)(i:Nat)(fr:Bool)(r:α):Nat×L0:=(i,{a:=.call q.ms fr (q.R r) (q.O r)})
def FS.k{α:Type}(q:FS α)(i:Nat)(l:List Bool):List Item:=a3X 2000 i l [.code q.c]
def noK:Unit->KS:=fun _=>([],⟨[],[]⟩)
section
variable {α β J P E:Type}
abbrev OK(q:FS α)(args:List V)(m:Option α):Prop := ∀r,m=some r->Z0 cx.P q.f args (q.R r) (q.O r)
abbrev NG(q:FS α)(r:α)(S:J->KS)(f:J->Option β)(v:β):Prop := ∀s,f s=some v->FK cx q.X (q.R r) (q.O r) (S s)
abbrev NF(q:FS α)(r:α)(S:J->KS)(f:J->Option α):Prop:=NG q r S f r
abbrev F8(q:FS α)(SE:E->KS)(S:P->KS):=LC cx q.X q.R q.O SE S
abbrev LQ(q:FS α)(SE:E->KS)(S:P->KS)(b:P->Option (l7 α P E)):Prop:=LB cx q.X q.R q.O SE S b
theorem o8(q:FS α){args:List V}{m:Option α}(h:∀r,m=some r->Pt cx q.X (q.R r) (q.O r) [.code q.c] (a9E q.X args) [] [])(hb:q.X.fn.body=some q.c:=by kernel_rfl) (hn:(q.X.fn.name == "runtime.NumGoroutine")=false:=by kernel_rfl) (ho:a3I 0 q.X.oms args=true:=by kernel_rfl):OK q args m:=
 fun r hm=>Z0.of (X:=q.X) q.h hb hn ho (P0 (h r hm))
theorem FS.rt(q:FS α){x y:α}(h:some x=some y):q.R y=q.R x/\q.O y=q.O x:=by
 injection h with h;subst h;exact ⟨rfl,rfl⟩
variable {X:O7} {res:V} {outs:LOV} {k:List Item} {S:St} {sc:R7} {ps:List Prop} {t:List (Nat×L0)} {v:β}
theorem fE{q:FS α}{x y:α}(h:some x=some y)(hg:a9R cx q.X k S (scO sc [])=some (q.R x,q.O x,psO ps []):=by kernel_rfl):Pt cx q.X (q.R y) (q.O y) k S sc ps:=fn0 q.h (q.rt h) hg
theorem fL{q:FS α}{SE:E->KS}{SP:P->KS}(c:F8 q SE SP){x:α}(h:some (l7.ret x)=some c.st)(hg:a9R cx q.X k S (scO sc [])=some (q.R x,q.O x,psO ps []):=by kernel_rfl):Pt cx q.X c.res c.outs k S sc ps:=fn0 q.h (c.rt h) hg
theorem l8(q:FS α){m:Option α}{p:α->Prop}(ok:∀x,m=some x->p x)(i:Nat){f:α->Option β}(h:m.bind f=some v)(g:∀x,f x=some v->Pt cx X res outs k S ((q.t i false x::t)::sc) (p x::ps)):Pt cx X res outs k S (t::sc) ps:=cb q.t ok i false h g
theorem cbS(q:FS α){m:Option α}{p:α->Prop}(ok:∀x,m=some x->p x)(i:Nat){f:α->Option β}(a:∀x,K6 (q.R x))(b:∀x,a3W (q.O x))(h:m.bind f=some v)(g:∀x,f x=some v->Pt cx X res outs k S ((q.t i true x::t)::sc) ((K6 (q.R x)/\a3W (q.O x))::p x::ps)):Pt cx X res outs k S (t::sc) ps:=
 cb q.t ok i true h fun x h=>ob ⟨a x,b x⟩ (g x h)
theorem R8(q:FS α){m:Option α}{p:α->Prop}(ok:∀x,m=some x->p x)(i n:Nat){f:α->Option β}(h:m.bind f=some v)(g:∀x,f x=some v->Pt cx X res outs k S ((q.t i true x::t)::sc) ((K6 (q.R x)/\a3W (q.O x))::p x::ps))(a:∀x,K6 (q.R x):=by exact fun _=>rfl)(b:∀x,q.O x=c0M n:=by exact fun _=>rfl):Pt cx X res outs k S (t::sc) ps:=cbS q ok i a (fun x=>b x▸Q1 n) h g
theorem osc(q:FS α)(x:α)(a:K6 (q.R x))(b:a3W (q.O x))(h:Pt cx X res outs k S sc ((K6 (q.R x)/\a3W (q.O x))::ps)):Pt cx X res outs k S sc ps:=ob ⟨a,b⟩ h
end
theorem C9{X:O7}{res:V}{outs:LOV}{k:List Item}{S:St}{sc:R7}{ps:List Prop}(x:p6)(h:Pt cx X res outs k S sc ((x.told.length=x.told.length)::(x.out.length=x.out.length)::(x.n.a7.length=x.n.a7.length)::(x.n.c9.length=x.n.c9.length)::(x.n.a5.length=x.n.a5.length)::ps)):Pt cx X res outs k S sc ps:=ob rfl (ob rfl (ob rfl (ob rfl (ob rfl (h)))))
theorem J5{X:O7}{res:V}{outs:LOV}{k:List Item}{S:St}{sc:R7}{ps:List Prop}(x:j7)(h:Pt cx X res outs k S sc ((x.d9.length=x.d9.length)::(x.a7.length=x.a7.length)::(x.c9.length=x.c9.length)::(x.a5.length=x.a5.length)::ps)):Pt cx X res outs k S sc ps:=ob rfl (ob rfl (ob rfl (ob rfl (h))))
theorem A5{X:O7}{res:V}{outs:LOV}{k:List Item}{S:St}{sc:R7}{ps:List Prop}(x:j7)(h:Pt cx X res outs k S sc ((x.d9.length=x.d9.length)::(x.a7.length=x.a7.length)::(x.c9.length=x.c9.length)::(x.a5.length=x.a5.length)::(x.Acc.a7.length=x.Acc.a7.length)::ps)):Pt cx X res outs k S sc ps:=ob rfl (ob rfl (ob rfl (ob rfl (ob rfl (h)))))
theorem olR{X:O7}{res:V}{outs:LOV}{k:List Item}{S:St}{sc:R7}{ps:List Prop}(x:n6)(h:Pt cx X res outs k S sc ((x.b6.length=x.b6.length)::(x.b5.length=x.b5.length)::ps)):Pt cx X res outs k S sc ps:=ob rfl (ob rfl (h))
theorem B0{X:O7}{res:V}{outs:LOV}{k:List Item}{S:St}{sc:R7}{ps:List Prop}(x:m4)(h:Pt cx X res outs k S sc ((x.Told.length=x.Told.length)::(x.d7.length=x.d7.length)::(x.b9.length=x.b9.length)::(x.a6.length=x.a6.length)::ps)):Pt cx X res outs k S sc ps:=ob rfl (ob rfl (ob rfl (ob rfl (h))))
def a5I(x_:j7):List V:=[vi x_.Id,vi x_.Acc.i4,v5 108 8 p9 x_.Acc.a7,v5 50 7 t6 x_.a5,vi x_.Seq,vi x_.d8,vi x_.a8,v5 4 1 eB x_.c9,j8 8 p9 x_.i5,.b x_.d6.i8,vi x_.d6.a0.c8,vi x_.d6.a0.Seq,j8 2 w6 x_.d6.b8.b5,j8 2 w8 x_.d6.b8.b6,vi x_.d6.b8.g7,vi x_.d6.b8.Code,v5 4 1 eB x_.a7,.b x_.i9,j8 4 A0 x_.i7,.b x_.b7.i8,vi x_.b7.a0.c8,vi x_.b7.a0.Seq,j8 2 w6 x_.b7.b8.b5,j8 2 w8 x_.b7.b8.b6,vi x_.b7.b8.g7,vi x_.b7.b8.Code,v5 50 7 t6 x_.d9]
def a9G(x_:j7):List V:=[v5 50 7 t6 x_.a5,vi x_.Seq,vi x_.d8,vi x_.a8,v5 4 1 eB x_.c9,j8 8 p9 x_.i5,.b x_.d6.i8,vi x_.d6.a0.c8,vi x_.d6.a0.Seq,j8 2 w6 x_.d6.b8.b5,j8 2 w8 x_.d6.b8.b6,vi x_.d6.b8.g7,vi x_.d6.b8.Code,v5 4 1 eB x_.a7,.b x_.i9,j8 4 A0 x_.i7,.b x_.b7.i8,vi x_.b7.a0.c8,vi x_.b7.a0.Seq,j8 2 w6 x_.b7.b8.b5,j8 2 w8 x_.b7.b8.b6,vi x_.b7.b8.g7,vi x_.b7.b8.Code,v5 50 7 t6 x_.d9]
def a6j(x_:j7):List V:=[j8 8 p9 x_.i5,.b x_.d6.i8,vi x_.d6.a0.c8,vi x_.d6.a0.Seq,j8 2 w6 x_.d6.b8.b5,j8 2 w8 x_.d6.b8.b6,vi x_.d6.b8.g7,vi x_.d6.b8.Code]
def a3P(x_:j7):List V:=[.b x_.i9,j8 4 A0 x_.i7,.b x_.b7.i8,vi x_.b7.a0.c8,vi x_.b7.a0.Seq,j8 2 w6 x_.b7.b8.b5,j8 2 w8 x_.b7.b8.b6,vi x_.b7.b8.g7,vi x_.b7.b8.Code]
def a0U(x_:n6):List V:=[j8 2 w6 x_.b5,j8 2 w8 x_.b6,vi x_.g7,vi x_.Code]
def D5(x_:m4):List V:=[j8 27 w9 x_.a6,j8 13 s6 x_.b9,j8 3 A2 x_.d7,j8 5 x8 x_.Told]
def D2:FS (Bool):=⟨37,Tryz.f37,[.val [] []],[none,none,none],[.val [] [],.val [] [],.val [] []],fun r=>.b r,fun _=>[none,none,none],Tryz.func37⟩
def D8(n:Int)(low:Int)(high:Int):Option Bool:=
 (bif decide (n>=low) then some (decide (n<=high)) else some false)
theorem E6{n low high}:OK D2 [vi n,vi low,vi high] (D8 n low high):=
 o8 _ fun r h=>n7<|j6 3 h (fun h=>fE h) (fun h=>fE h)
def c8k:FS (j7):=⟨15,Tryz.f15,[.val A8 []],[none],[.val [] []],fun r=>.agg (w9 r),fun _=>[none],Tryz.func15⟩
def b6l(id:Int):Option j7:=
 ((D8 id 0 2).bind fun in_=>(bif (!in_) then some (j7.mk 0 (z4.mk 0 []) [] 0 0 0 [] [] (m6.mk false (o7.mk 0 0) (n6.mk [] [] 0 0)) [] false [] (m6.mk false (o7.mk 0 0) (n6.mk [] [] 0 0)) []) else some (j7.mk id (z4.mk 0 []) [] 0 0 0 [] [] (m6.mk false (o7.mk 0 0) (n6.mk [] [] 0 0)) [] false [] (m6.mk false (o7.mk 0 0) (n6.mk [] [] 0 0)) [])))
theorem e4D{id}:OK c8k [vi id] (b6l id):=
 o8 _ fun r h=>n7<|l8 D2 E6 1 h fun in_ h=>j6 2 h (fun h=>rg<|fE h) (fun h=>rg<|fE h)
def d2J:FS (List j7):=⟨38,Tryz.f38,[.val [some 27] [some 52]],[none],[.val [some 27] []],fun r=>v5 52 27 w9 r,fun _=>[none],Tryz.func38⟩
def c5f(list:List j7):Option (List j7):=
 (bif ((list.length:Int)==0) then some [] else (t5 (0<=(list.length:Int)/\(list.length:Int)*392<=140737488355328) ((t5 (list.length=(f6a (list.length:Int).toNat (j7.mk 0 (z4.mk 0 []) [] 0 0 0 [] [] (m6.mk false (o7.mk 0 0) (n6.mk [] [] 0 0)) [] false [] (m6.mk false (o7.mk 0 0) (n6.mk [] [] 0 0)) [])).length) (some list)))))
theorem f0C{list}:OK d2J [j8 27 w9 list] (c5f list):=
 o8 _ fun r h=>n7<|j6 2 h (fun h=>rg<|fE h) (fun h=>rg<|u0 h fun e1 h=>T3 2 7 52 27 392 w9 (j7.mk 0 (z4.mk 0 []) [] 0 0 0 [] [] (m6.mk false (o7.mk 0 0) (n6.mk [] [] 0 0)) [] false [] (m6.mk false (o7.mk 0 0) (n6.mk [] [] 0 0)) []) c5k (.ck A8) e1 (by decide) (by rfl)<|rg<|u0 h fun e2 h=>om (s8.row 52 27 (f6a (list.length:Int).toNat (j7.mk 0 (z4.mk 0 []) [] 0 0 0 [] [] (m6.mk false (o7.mk 0 0) (n6.mk [] [] 0 0)) [] false [] (m6.mk false (o7.mk 0 0) (n6.mk [] [] 0 0)) [])).length (list.map w9)=m7 52 27 w9 list) (a1y e2)<|s9 (f6a (list.length:Int).toNat (j7.mk 0 (z4.mk 0 []) [] 0 0 0 [] [] (m6.mk false (o7.mk 0 0) (n6.mk [] [] 0 0)) [] false [] (m6.mk false (o7.mk 0 0) (n6.mk [] [] 0 0)) []))<|ob e2<|tl (2,{e:=some (m7 52 27 w9 list)})<|rg<|om ((f6a (list.length:Int).toNat (j7.mk 0 (z4.mk 0 []) [] 0 0 0 [] [] (m6.mk false (o7.mk 0 0) (n6.mk [] [] 0 0)) [] false [] (m6.mk false (o7.mk 0 0) (n6.mk [] [] 0 0)) [])).length=list.length) (by simp)<|fE h)
def c6I:FS (List l9):=⟨88,Tryz.f88,[.val [some 13] [some 66]],[none],[.val [some 13] []],fun r=>v5 66 13 s6 r,fun _=>[none],Tryz.func88⟩
def c5F(list:List l9):Option (List l9):=
 (bif ((list.length:Int)==0) then some [] else (t5 (0<=(list.length:Int)/\(list.length:Int)*152<=140737488355328) ((t5 (list.length=(f6a (list.length:Int).toNat (l9.mk 0 0 0 0 0 (m6.mk false (o7.mk 0 0) (n6.mk [] [] 0 0)) [])).length) (some list)))))
theorem e3p{list}:OK c6I [j8 13 s6 list] (c5F list):=
 o8 _ fun r h=>n7<|j6 2 h (fun h=>rg<|fE h) (fun h=>rg<|u0 h fun e1 h=>T3 2 7 66 13 152 s6 (l9.mk 0 0 0 0 0 (m6.mk false (o7.mk 0 0) (n6.mk [] [] 0 0)) []) c4j (.ck B9) e1 (by decide) (by rfl)<|rg<|u0 h fun e2 h=>om (s8.row 66 13 (f6a (list.length:Int).toNat (l9.mk 0 0 0 0 0 (m6.mk false (o7.mk 0 0) (n6.mk [] [] 0 0)) [])).length (list.map s6)=m7 66 13 s6 list) (a1y e2)<|s9 (f6a (list.length:Int).toNat (l9.mk 0 0 0 0 0 (m6.mk false (o7.mk 0 0) (n6.mk [] [] 0 0)) []))<|ob e2<|tl (2,{e:=some (m7 66 13 s6 list)})<|rg<|om ((f6a (list.length:Int).toNat (l9.mk 0 0 0 0 0 (m6.mk false (o7.mk 0 0) (n6.mk [] [] 0 0)) [])).length=list.length) (by simp)<|fE h)
def a2m:FS (List r9):=⟨188,Tryz.f188,[.val [some 2] [some 180]],[none],[.val [some 2] []],fun r=>v5 180 2 w6 r,fun _=>[none],Tryz.func188⟩
def a29(list:List r9):Option (List r9):=
 (bif ((list.length:Int)==0) then some [] else (t5 (0<=(list.length:Int)/\(list.length:Int)*16<=140737488355328) ((t5 (list.length=(f6a (list.length:Int).toNat (r9.mk 0 0)).length) (some list)))))
theorem b0P{list}:OK a2m [j8 2 w6 list] (a29 list):=
 o8 _ fun r h=>n7<|j6 2 h (fun h=>rg<|fE h) (fun h=>rg<|u0 h fun e1 h=>T3 2 7 180 2 16 w6 (r9.mk 0 0) c5E (.none) e1 (by decide) (by rfl)<|rg<|u0 h fun e2 h=>om (s8.row 180 2 (f6a (list.length:Int).toNat (r9.mk 0 0)).length (list.map w6)=m7 180 2 w6 list) (a1y e2)<|s9 (f6a (list.length:Int).toNat (r9.mk 0 0))<|ob e2<|tl (2,{e:=some (m7 180 2 w6 list)})<|rg<|om ((f6a (list.length:Int).toNat (r9.mk 0 0)).length=list.length) (by simp)<|fE h)
def b6E:FS (List p7):=⟨189,Tryz.f189,[.val [some 2] [some 183]],[none],[.val [some 2] []],fun r=>v5 183 2 w8 r,fun _=>[none],Tryz.func189⟩
def a70(list:List p7):Option (List p7):=
 (bif ((list.length:Int)==0) then some [] else (t5 (0<=(list.length:Int)/\(list.length:Int)*16<=140737488355328) ((t5 (list.length=(f6a (list.length:Int).toNat (p7.mk 0 0)).length) (some list)))))
theorem d0m{list}:OK b6E [j8 2 w8 list] (a70 list):=
 o8 _ fun r h=>n7<|j6 2 h (fun h=>rg<|fE h) (fun h=>rg<|u0 h fun e1 h=>T3 2 7 183 2 16 w8 (p7.mk 0 0) c40 (.none) e1 (by decide) (by rfl)<|rg<|u0 h fun e2 h=>om (s8.row 183 2 (f6a (list.length:Int).toNat (p7.mk 0 0)).length (list.map w8)=m7 183 2 w8 list) (a1y e2)<|s9 (f6a (list.length:Int).toNat (p7.mk 0 0))<|ob e2<|tl (2,{e:=some (m7 183 2 w8 list)})<|rg<|om ((f6a (list.length:Int).toNat (p7.mk 0 0)).length=list.length) (by simp)<|fE h)
def d2M:FS (n6):=⟨143,Tryz.f143,[.val O6 []],[none],[.val O6 []],fun r=>.agg (Q9 r),fun _=>[none],Tryz.func143⟩
def c3M(r_:n6):Option n6:=
 ((a29 r_.b5).bind fun read=>((a70 r_.b6).bind fun put=>some (n6.mk read put r_.g7 r_.Code)))
theorem e96{r_}:OK d2M [.agg (Q9 r_)] (c3M r_):=
 o8 _ fun r h=>n7<|l8 a2m b0P 2 h fun read h=>l8 b6E d0m 5 h fun put h=>C7 read put<|fE h
def a95:FS (m6):=⟨94,Tryz.f94,[.val K4 []],[none],[.val K4 []],fun r=>.agg (t6 r),fun _=>[none],Tryz.func94⟩
def a6V(e_:m6):Option m6:=
 ((c3M e_.b8).bind fun d34=>some (m6.mk e_.i8 e_.a0 d34))
theorem b23{e_}:OK a95 [.agg (t6 e_)] (a6V e_):=
 o8 _ fun r h=>n7<|l8 d2M e96 6 h fun d34 h=>fE h
def d03:FS (List m9):=⟨142,Tryz.f142,[.val [some 8] [some 108]],[none],[.val [some 8] []],fun r=>v5 108 8 p9 r,fun _=>[none],Tryz.func142⟩
def c3o(list:List m9):Option (List m9):=
 (bif ((list.length:Int)==0) then some [] else (t5 (0<=(list.length:Int)/\(list.length:Int)*96<=140737488355328) ((t5 (list.length=(f6a (list.length:Int).toNat (m9.mk 0 (m6.mk false (o7.mk 0 0) (n6.mk [] [] 0 0)))).length) (some list)))))
theorem e2V{list}:OK d03 [j8 8 p9 list] (c3o list):=
 o8 _ fun r h=>n7<|j6 2 h (fun h=>rg<|fE h) (fun h=>rg<|u0 h fun e1 h=>T3 2 7 108 8 96 p9 (m9.mk 0 (m6.mk false (o7.mk 0 0) (n6.mk [] [] 0 0))) b4A (.ck V3) e1 (by decide) (by rfl)<|rg<|u0 h fun e2 h=>om (s8.row 108 8 (f6a (list.length:Int).toNat (m9.mk 0 (m6.mk false (o7.mk 0 0) (n6.mk [] [] 0 0)))).length (list.map p9)=m7 108 8 p9 list) (a1y e2)<|s9 (f6a (list.length:Int).toNat (m9.mk 0 (m6.mk false (o7.mk 0 0) (n6.mk [] [] 0 0))))<|ob e2<|tl (2,{e:=some (m7 108 8 p9 list)})<|rg<|om ((f6a (list.length:Int).toNat (m9.mk 0 (m6.mk false (o7.mk 0 0) (n6.mk [] [] 0 0)))).length=list.length) (by simp)<|fE h)
def a4k:FS (List m9):=⟨93,Tryz.f93,[.val [some 8] [some 108]],[none],[.val [some 8] []],fun r=>v5 108 8 p9 r,fun _=>[none],Tryz.func93⟩
def d40:(List m9)->KS:=fun out1=>⟨a4k.k 4 [false],(bs 3 (.own 1 0 8 0 out1.length::(bs 20 []))),[some [],some [m7 108 8 p9 out1]]⟩
def d1C(out1:List m9):Option (List m9):=
 some out1
theorem e3X(r):NF a4k r d40 (fun s=>d1C s):=fun out1 h=>PK<|rg<|s9 out1<|fE h
def e0m(vote:List m9):((List m9)×Int)->KS:=fun (out,v9)=>⟨a4k.k 3 [],(bs 3 (.own 1 0 8 0 out.length::(bs 4 (vi (vote.length:Int)::(vi v9::(bs 14 [])))))),[some [],some [m7 108 8 p9 out]]⟩
def b8n(vote:List m9)(out:List m9)(v9:Int):Option (l7 (List m9) ((List m9)×Int) (List m9)):=
 (bif decide (v9<(vote.length:Int)) then ((idx out v9).bind fun O4=>((a6V O4.i0).bind fun Y6=>some (l7.nxt (out.set v9.toNat (m9.mk O4.a8 Y6),m8 (v9+1))))) else some (l7.brk out))
theorem d8C(vote):LQ a4k d40 (e0m vote) (fun s=>b8n vote s.1 s.2):=fun lc (out,v9) h=>PK<|rg<|j6 0 h (fun h=>n7<|A7 h fun O4 a2j h=>B5 a2j<|H9 p9 6 a2j<|l8 a95 b23 7 h fun Y6 h=>B5 a2j<|Q6 108 8 p9 10 K4 (m9.mk O4.a8 Y6) a2j<|rg<|(lc.nx h fun hI=>om ((.own 1 0 8 0 out.length:V)=.own 1 0 8 0 (out.set v9.toNat (m9.mk O4.a8 Y6)).length) (by simp)<|sk [.is (.tmp 3) (.own 1 0 8 0 (out.set v9.toNat (m9.mk O4.a8 Y6)).length)] [3,8,9] [(1,0)] hI)) (fun h=>(lc.bk h fun hI=>sk [] [3] [(1,0)] hI))
def a7O(list:List m9):Option (List m9):=
 ((c3o list).bind fun vote=>((o9 (fun s:(List m9)×Int=>b8n vote s.1 s.2) (vote,0)).bind fun x=>x.go (fun r=>some r) fun s=>d1C s))
theorem b9D{list}:OK a4k [j8 8 p9 list] (a7O list):=
 o8 _ fun r h=>n7<|l8 d03 e2V 1 h fun vote h=>rg<|lp (d8C vote) h (fun _ h=>a4k.rt h) (e3X r) fun hI=>sk [] [3,8,9] [(3,0)] hI
def d5d:FS (l9):=⟨89,Tryz.f89,[.val B9 []],[none],[.val B9 []],fun r=>.agg (s6 r),fun _=>[none],Tryz.func89⟩
def b8F(m:l9):Option l9:=
 ((a6V m.i0).bind fun Y6=>((a7O m.a7).bind fun a02=>some (l9.mk m.a9 m.c9 m.To m.a8 m.g8 Y6 a02)))
theorem e02{m}:OK d5d [.agg (s6 m)] (b8F m):=
 o8 _ fun r h=>N7<|l8 a95 b23 2 h fun Y6 h=>rg<|l8 a4k b9D 2 h fun a02 h=>rg<|s9 a02<|fE h
def a6X:FS (List l9):=⟨39,Tryz.f39,[.val [some 13] [some 66]],[none],[.val [some 13] []],fun r=>v5 66 13 s6 r,fun _=>[none],Tryz.func39⟩
def c7D:(List l9)->KS:=fun out1=>⟨a6X.k 4 [false],(bs 3 (.own 1 0 13 0 out1.length::(bs 18 []))),[some [],some [m7 66 13 s6 out1]]⟩
def c9K(out1:List l9):Option (List l9):=
 some out1
theorem e0j(r):NF a6X r c7D (fun s=>c9K s):=fun out1 h=>PK<|rg<|s9 out1<|fE h
def e7d(msg:List l9):((List l9)×Int)->KS:=fun (out,v9)=>⟨a6X.k 3 [],(bs 3 (.own 1 0 13 0 out.length::(bs 4 (vi (msg.length:Int)::(vi v9::(bs 12 [])))))),[some [],some [m7 66 13 s6 out]]⟩
def b6A(msg:List l9)(out:List l9)(v9:Int):Option (l7 (List l9) ((List l9)×Int) (List l9)):=
 (bif decide (v9<(msg.length:Int)) then ((idx out v9).bind fun b2D=>((b8F b2D).bind fun b4g=>some (l7.nxt (out.set v9.toNat b4g,m8 (v9+1))))) else some (l7.brk out))
theorem e0k(msg):LQ a6X c7D (e7d msg) (fun s=>b6A msg s.1 s.2):=fun lc (out,v9) h=>PK<|rg<|j6 0 h (fun h=>n7<|A7 h fun b2D b1X h=>B5 b1X<|H9 s6 5 b1X<|l8 d5d e02 6 h fun b4g h=>B5 b1X<|Q6 66 13 s6 8 B9 b4g b1X<|rg<|(lc.nx h fun hI=>om ((.own 1 0 13 0 out.length:V)=.own 1 0 13 0 (out.set v9.toNat b4g).length) (by simp)<|sk [.is (.tmp 3) (.own 1 0 13 0 (out.set v9.toNat b4g).length)] [3,8,9] [(1,0)] hI)) (fun h=>(lc.bk h fun hI=>sk [] [3] [(1,0)] hI))
def b3u(list:List l9):Option (List l9):=
 ((c5F list).bind fun msg=>((o9 (fun s:(List l9)×Int=>b6A msg s.1 s.2) (msg,0)).bind fun x=>x.go (fun r=>some r) fun s=>c9K s))
theorem c6Z{list}:OK a6X [j8 13 s6 list] (b3u list):=
 o8 _ fun r h=>n7<|l8 c6I e3p 1 h fun msg h=>rg<|lp (e0k msg) h (fun _ h=>a6X.rt h) (e0j r) fun hI=>sk [] [3,8,9] [(3,0)] hI
def d55:FS (List x6):=⟨40,Tryz.f40,[.val [some 3] [some 68]],[none],[.val [some 3] []],fun r=>v5 68 3 A2 r,fun _=>[none],Tryz.func40⟩
def c3Z(list:List x6):Option (List x6):=
 (bif ((list.length:Int)==0) then some [] else (t5 (0<=(list.length:Int)/\(list.length:Int)*40<=140737488355328) ((t5 (list.length=(f6a (list.length:Int).toNat (x6.mk (o7.mk 0 0) [])).length) (some list)))))
theorem e86{list}:OK d55 [j8 3 A2 list] (c3Z list):=
 o8 _ fun r h=>n7<|j6 2 h (fun h=>rg<|fE h) (fun h=>rg<|u0 h fun e1 h=>T3 2 7 68 3 40 A2 (x6.mk (o7.mk 0 0) []) c2z (.ck [none,none,some 4]) e1 (by decide) (by rfl)<|rg<|u0 h fun e2 h=>om (s8.row 68 3 (f6a (list.length:Int).toNat (x6.mk (o7.mk 0 0) [])).length (list.map A2)=m7 68 3 A2 list) (a1y e2)<|s9 (f6a (list.length:Int).toNat (x6.mk (o7.mk 0 0) []))<|ob e2<|tl (2,{e:=some (m7 68 3 A2 list)})<|rg<|om ((f6a (list.length:Int).toNat (x6.mk (o7.mk 0 0) [])).length=list.length) (by simp)<|fE h)
def c5p:FS (List n5):=⟨41,Tryz.f41,[.val [some 5] [some 62]],[none],[.val [some 5] []],fun r=>v5 62 5 x8 r,fun _=>[none],Tryz.func41⟩
def b8c(list:List n5):Option (List n5):=
 (bif ((list.length:Int)==0) then some [] else (t5 (0<=(list.length:Int)/\(list.length:Int)*40<=140737488355328) ((t5 (list.length=(f6a (list.length:Int).toNat (n5.mk 0 (o7.mk 0 0) 0 0)).length) (some list)))))
theorem c78{list}:OK c5p [j8 5 x8 list] (b8c list):=
 o8 _ fun r h=>n7<|j6 2 h (fun h=>rg<|fE h) (fun h=>rg<|u0 h fun e1 h=>T3 2 7 62 5 40 x8 (n5.mk 0 (o7.mk 0 0) 0 0) c5n (.none) e1 (by decide) (by rfl)<|rg<|u0 h fun e2 h=>om (s8.row 62 5 (f6a (list.length:Int).toNat (n5.mk 0 (o7.mk 0 0) 0 0)).length (list.map x8)=m7 62 5 x8 list) (a1y e2)<|s9 (f6a (list.length:Int).toNat (n5.mk 0 (o7.mk 0 0) 0 0))<|ob e2<|tl (2,{e:=some (m7 62 5 x8 list)})<|rg<|om ((f6a (list.length:Int).toNat (n5.mk 0 (o7.mk 0 0) 0 0)).length=list.length) (by simp)<|fE h)
def a78:FS (z4):=⟨90,Tryz.f90,[.val [none,some 8] [none,some 108]],[none],[.val [none,some 8] []],fun r=>.agg [vi r.i4,v5 108 8 p9 r.a7],fun _=>[none],Tryz.func90⟩
def a4A(a:z4):Option z4:=
 ((a7O a.a7).bind fun a02=>some (z4.mk a.i4 a02))
theorem a9H{a}:OK a78 [.agg (Z1 a)] (a4A a):=
 o8 _ fun r h=>n7<|l8 a4k b9D 4 h fun a02 h=>s9 a02<|fE h
def c7O:FS (List m6):=⟨141,Tryz.f141,[.val [some 7] [some 50]],[none],[.val [some 7] []],fun r=>v5 50 7 t6 r,fun _=>[none],Tryz.func141⟩
def b6O(list:List m6):Option (List m6):=
 (bif ((list.length:Int)==0) then some [] else (t5 (0<=(list.length:Int)/\(list.length:Int)*88<=140737488355328) ((t5 (list.length=(f6a (list.length:Int).toNat (m6.mk false (o7.mk 0 0) (n6.mk [] [] 0 0))).length) (some list)))))
theorem d9M{list}:OK c7O [j8 7 t6 list] (b6O list):=
 o8 _ fun r h=>n7<|j6 2 h (fun h=>rg<|fE h) (fun h=>rg<|u0 h fun e1 h=>T3 2 7 50 7 88 t6 (m6.mk false (o7.mk 0 0) (n6.mk [] [] 0 0)) c2P (.ck K4) e1 (by decide) (by rfl)<|rg<|u0 h fun e2 h=>om (s8.row 50 7 (f6a (list.length:Int).toNat (m6.mk false (o7.mk 0 0) (n6.mk [] [] 0 0))).length (list.map t6)=m7 50 7 t6 list) (a1y e2)<|s9 (f6a (list.length:Int).toNat (m6.mk false (o7.mk 0 0) (n6.mk [] [] 0 0)))<|ob e2<|tl (2,{e:=some (m7 50 7 t6 list)})<|rg<|om ((f6a (list.length:Int).toNat (m6.mk false (o7.mk 0 0) (n6.mk [] [] 0 0))).length=list.length) (by simp)<|fE h)
def a5t:FS (List m6):=⟨91,Tryz.f91,[.val [some 7] [some 50]],[none],[.val [some 7] []],fun r=>v5 50 7 t6 r,fun _=>[none],Tryz.func91⟩
def d4v:(List m6)->KS:=fun out1=>⟨a5t.k 4 [false],(bs 3 (.own 1 0 7 0 out1.length::(bs 18 []))),[some [],some [m7 50 7 t6 out1]]⟩
def d12(out1:List m6):Option (List m6):=
 some out1
theorem e2Q(r):NF a5t r d4v (fun s=>d12 s):=fun out1 h=>PK<|rg<|s9 out1<|fE h
def f0O(entry:List m6):((List m6)×Int)->KS:=fun (out,v9)=>⟨a5t.k 3 [],(bs 3 (.own 1 0 7 0 out.length::(bs 4 (vi (entry.length:Int)::(vi v9::(bs 12 [])))))),[some [],some [m7 50 7 t6 out]]⟩
def b2u(entry:List m6)(out:List m6)(v9:Int):Option (l7 (List m6) ((List m6)×Int) (List m6)):=
 (bif decide (v9<(entry.length:Int)) then ((idx out v9).bind fun a6r=>((a6V a6r).bind fun Y6=>some (l7.nxt (out.set v9.toNat Y6,m8 (v9+1))))) else some (l7.brk out))
theorem e56(entry):LQ a5t d4v (f0O entry) (fun s=>b2u entry s.1 s.2):=fun lc (out,v9) h=>PK<|rg<|j6 0 h (fun h=>n7<|A7 h fun a6r a9q h=>B5 a9q<|H9 t6 5 a9q<|l8 a95 b23 6 h fun Y6 h=>B5 a9q<|Q6 50 7 t6 8 K4 Y6 a9q<|rg<|(lc.nx h fun hI=>om ((.own 1 0 7 0 out.length:V)=.own 1 0 7 0 (out.set v9.toNat Y6).length) (by simp)<|sk [.is (.tmp 3) (.own 1 0 7 0 (out.set v9.toNat Y6).length)] [3,8,9] [(1,0)] hI)) (fun h=>(lc.bk h fun hI=>sk [] [3] [(1,0)] hI))
def a9t(list:List m6):Option (List m6):=
 ((b6O list).bind fun entry=>((o9 (fun s:(List m6)×Int=>b2u entry s.1 s.2) (entry,0)).bind fun x=>x.go (fun r=>some r) fun s=>d12 s))
theorem c53{list}:OK a5t [j8 7 t6 list] (a9t list):=
 o8 _ fun r h=>n7<|l8 c7O d9M 1 h fun entry h=>rg<|lp (e56 entry) h (fun _ h=>a5t.rt h) (e2Q r) fun hI=>sk [] [3,8,9] [(3,0)] hI
def c2x:FS (List Bool):=⟨92,Tryz.f92,[.val [some 1] [some 4]],[none],[.val [some 1] []],fun r=>v5 4 1 eB r,fun _=>[none],Tryz.func92⟩
def b9l(list:List Bool):Option (List Bool):=
 (bif ((list.length:Int)==0) then some [] else (t5 (0<=(list.length:Int)/\(list.length:Int)*1<=140737488355328) ((t5 (list.length=(f6a (list.length:Int).toNat false).length) (some list)))))
theorem d1u{list}:OK c2x [j8 1 eB list] (b9l list):=
 o8 _ fun r h=>n7<|j6 2 h (fun h=>rg<|fE h) (fun h=>rg<|u0 h fun e1 h=>T3 2 7 4 1 1 eB false ti4 (.none) e1 (by decide) (by rfl)<|rg<|u0 h fun e2 h=>om (s8.row 4 1 (f6a (list.length:Int).toNat false).length (list.map eB)=m7 4 1 eB list) (a1y e2)<|s9 (f6a (list.length:Int).toNat false)<|ob e2<|tl (2,{e:=some (m7 4 1 eB list)})<|rg<|om ((f6a (list.length:Int).toNat false).length=list.length) (by simp)<|fE h)
def b9E:FS (List n9):=⟨43,Tryz.f43,[.val [some 4] [some 82]],[none],[.val [some 4] []],fun r=>v5 82 4 A0 r,fun _=>[none],Tryz.func43⟩
def a9c(list:List n9):Option (List n9):=
 (bif ((list.length:Int)==0) then some [] else (t5 (0<=(list.length:Int)/\(list.length:Int)*32<=140737488355328) ((t5 (list.length=(f6a (list.length:Int).toNat (n9.mk 0 0 0 0)).length) (some list)))))
theorem c4U{list}:OK b9E [j8 4 A0 list] (a9c list):=
 o8 _ fun r h=>n7<|j6 2 h (fun h=>rg<|fE h) (fun h=>rg<|u0 h fun e1 h=>T3 2 7 82 4 32 A0 (n9.mk 0 0 0 0) c3L (.none) e1 (by decide) (by rfl)<|rg<|u0 h fun e2 h=>om (s8.row 82 4 (f6a (list.length:Int).toNat (n9.mk 0 0 0 0)).length (list.map A0)=m7 82 4 A0 list) (a1y e2)<|s9 (f6a (list.length:Int).toNat (n9.mk 0 0 0 0))<|ob e2<|tl (2,{e:=some (m7 82 4 A0 list)})<|rg<|om ((f6a (list.length:Int).toNat (n9.mk 0 0 0 0)).length=list.length) (by simp)<|fE h)
def b3c:FS (j7):=⟨42,Tryz.f42,[.val A8 om1],[none],[.val A8 []],fun r=>.agg (e52 r),fun _=>[none],Tryz.func42⟩
def a7X(n:j7):Option j7:=
 ((a4A n.Acc).bind fun Q8=>((a9t n.a5).bind fun a8l=>((b9l n.c9).bind fun bool=>((a7O n.i5).bind fun a02=>((a6V n.d6).bind fun Y6=>((b9l n.a7).bind fun b0T=>((a9c n.i7).bind fun ins=>((a6V n.b7).bind fun d3Z=>((a9t n.d9).bind fun c1Q=>some (j7.mk n.Id Q8 a8l n.Seq n.d8 n.a8 bool a02 Y6 b0T n.i9 ins d3Z c1Q))))))))))
theorem b56{n}:OK b3c [.agg (w9 n)] (a7X n):=
 o8 _ fun r h=>N7<|l8 a78 a9H 2 h fun Q8 h=>rg<|l8 a5t c53 2 h fun a8l h=>rg<|l8 c2x d1u 2 h fun bool h=>rg<|l8 a4k b9D 2 h fun a02 h=>rg<|l8 a95 b23 2 h fun Y6 h=>rg<|l8 c2x d1u 2 h fun b0T h=>rg<|l8 b9E c4U 2 h fun ins h=>rg<|l8 a95 b23 2 h fun d3Z h=>rg<|l8 a5t c53 2 h fun c1Q h=>rg<|H0 Q8.a7 a8l bool a02<|X8 b0T ins c1Q<|fE h
def X1:FS (m4):=⟨13,Tryz.f13,[.val D4 om2],[none],[.val D4 []],fun r=>.agg (a8z r),fun _=>[none],Tryz.func13⟩
def d3q(msgsCopy:List l9)(asked:List x6)(told:List n5):(List j7)->KS:=fun Nodes1=>⟨X1.k 4 [false],(bs 2 (.ptr 1 0 0::(.ptr 2 0 0::(bs 52 [])))),[some [],some [.var 28 [.nil,.nil,.nil,.nil]],some [.var 28 [.own 3 0 27 0 Nodes1.length,.own 4 0 13 0 msgsCopy.length,.own 5 0 3 0 asked.length,.own 6 0 5 0 told.length]],some [m7 52 27 w9 Nodes1],some [m7 66 13 s6 msgsCopy],some [m7 68 3 A2 asked],some [m7 62 5 x8 told]]⟩
def d2X(msgsCopy:List l9)(told:List n5)(Nodes1:List j7):(List x6)->KS:=fun Asked1=>⟨X1.k 6 [false,false],(bs 2 (.ptr 1 0 0::(.ptr 2 0 0::(bs 52 [])))),[some [],some [.var 28 [.nil,.nil,.nil,.nil]],some [.var 28 [.own 3 0 27 0 Nodes1.length,.own 4 0 13 0 msgsCopy.length,.own 5 0 3 0 Asked1.length,.own 6 0 5 0 told.length]],some [m7 52 27 w9 Nodes1],some [m7 66 13 s6 msgsCopy],some [m7 68 3 A2 Asked1],some [m7 62 5 x8 told]]⟩
def d3U(msgsCopy:List l9)(told:List n5)(Nodes1:List j7)(Asked1:List x6):Option m4:=
 some (m4.mk Nodes1 msgsCopy Asked1 told)
theorem e6r(msgsCopy told Nodes1)(r):NF X1 r (d2X msgsCopy told Nodes1) (fun s=>d3U msgsCopy told Nodes1 s):=fun Asked1 h=>PK<|rg<|H0 Nodes1 msgsCopy Asked1 told<|fE h
def f2t(msgsCopy:List l9)(asked:List x6)(told:List n5)(Nodes1:List j7):((List x6)×Int)->KS:=fun (d7,v39)=>⟨X1.k 5 [false],(bs 2 (.ptr 1 0 0::(.ptr 2 0 0::(bs 34 (vi (asked.length:Int)::(vi v39::(bs 16 []))))))),[some [],some [.var 28 [.nil,.nil,.nil,.nil]],some [.var 28 [.own 3 0 27 0 Nodes1.length,.own 4 0 13 0 msgsCopy.length,.own 5 0 3 0 d7.length,.own 6 0 5 0 told.length]],some [m7 52 27 w9 Nodes1],some [m7 66 13 s6 msgsCopy],some [m7 68 3 A2 d7],some [m7 62 5 x8 told]]⟩
def b4Y(asked:List x6)(d7:List x6)(v39:Int):Option (l7 m4 ((List x6)×Int) (List x6)):=
 (bif decide (v39<(asked.length:Int)) then ((idx d7 v39).bind fun a3a=>((a9c a3a.i7).bind fun ins=>some (l7.nxt (d7.set v39.toNat (x6.mk a3a.a0 ins),m8 (v39+1))))) else some (l7.brk d7))
theorem f0a(msgsCopy asked told Nodes1):LQ X1 (d2X msgsCopy told Nodes1) (f2t msgsCopy asked told Nodes1) (fun s=>b4Y asked s.1 s.2):=fun lc (d7,v39) h=>PK<|rg<|j6 0 h (fun h=>n7<|A7 h fun a3a b00 h=>B5 b00<|H9 A2 8 b00<|l8 b9E c4U 9 h fun ins h=>B5 b00<|Q6 68 3 A2 12 [some 4] (x6.mk a3a.a0 ins) b00<|s9 ins<|rg<|(lc.nx h fun hI=>om ((.own 5 0 3 0 d7.length:V)=.own 5 0 3 0 (d7.set v39.toNat (x6.mk a3a.a0 ins)).length) (by simp)<|sk [.is (.cell 2 0 2) (.own 5 0 3 0 (d7.set v39.toNat (x6.mk a3a.a0 ins)).length)] [2,3,38,39] [(1,0),(2,0),(3,0),(4,0),(5,0),(6,0)] hI)) (fun h=>(lc.bk h fun hI=>sk [] [2,3] [(1,0),(2,0),(3,0),(4,0),(5,0),(6,0)] hI))
def c1z(msgsCopy:List l9)(asked:List x6)(told:List n5)(Nodes1:List j7):Option m4:=
 ((o9 (fun s:(List x6)×Int=>b4Y asked s.1 s.2) (asked,0)).bind fun x=>x.go (fun r=>some r) fun s=>d3U msgsCopy told Nodes1 s)
theorem e9G(msgsCopy asked told)(r):NF X1 r (d3q msgsCopy asked told) (fun s=>c1z msgsCopy asked told s):=fun Nodes1 h=>PK<|rg<|lp (f0a msgsCopy asked told Nodes1) h (fun _ h=>X1.rt h) (e6r msgsCopy told Nodes1 r) fun hI=>sk [] [2,3,38,39] [(1,0),(2,0),(3,0),(4,0),(5,0),(6,0)] hI
end
end Go.Proofs.YtijjifellblecaaGreat
