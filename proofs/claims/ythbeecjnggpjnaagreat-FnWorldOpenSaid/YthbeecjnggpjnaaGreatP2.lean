/- Abstract values and states of the program, functions of the program and what their calls come to, and what follows from it: part 2 of the text that the law leans on; long names are written short. -/
import Derived.Test.YthbeecjnggpjnaaGreatP1
import Derived.WideKeyRuns
import Derived.Below
import Derived.Carry
import Derived.ChangeArms
import Derived.Deep.Slices
import Derived.WideShapes
import Derived.Test.YthbeecjnggpjnaaGreatProg
set_option linter.unusedVariables false
set_option linter.unusedSimpArgs false
set_option linter.unnecessarySimpa false
namespace Go.Proofs.YthbeecjnggpjnaaGreat
open Go
open Option renaming bind_some → f5s, getD_some → f6G, map_some → f6I, map_eq_some_iff → f6U
open List renaming getElem?_eq_getElem → f5t, replicate → f5u, getElem_mem → f5v, mem_singleton → f5y, getElem?_eq_some_iff → f5z, range → f5A, mem_cons → f5B, nodup_append → f5C, length_append → f5D, eq_nil_of_length_eq_zero → f5E, mem_of_getElem? → f5F, getD_eq_getElem?_getD → f5G, getElem?_append_right → f5I, append_assoc → f5J, length_take → f5L, take_length → f5M, getElem?_set_ne → f5N, getElem?_append_left → f5O, getElem?_eq_none → f5Q, drop_eq_nil_of_le → f5S, take_succ_eq_append_getElem → f5T, drop_eq_getElem_cons → f5U, flatten_cons → f5X, map_cons → f6b, append_nil → f6d, getElem_of_mem → f6e, any_eq_false → f6f, take_of_length_le → f6g, take_append_of_le_length → f6h, take_zero → f6i, pairwise_iff_getElem → f6j, mem_of_mem_take → f6k, length_map → f6l, mem_replicate → f6m, findIdx?_eq_some_iff_getElem → f6n, nil_append → f6o, mem_of_mem_drop → f6p, take_append_drop → f6r, mem_flatten → f6s, getElem?_map → f6t, mem_take_iff_getElem → f6u, getElem?_set_self → f6v, length_cons → f6y, length_singleton → f6z, getElem?_cons_zero → f6A, mem_range → f6B, map_append → f6E, getElem?_cons_succ → f6F, drop_zero → f6H, pairwise_cons → f6K, length_set → f6M, nodup_cons → f6N, any_eq_true → f6P, mem_append_left → f6R, getElem?_set → f6S, getElem?_drop → f6V, getElem?_take → f6W, find?_cons → f6Y, length_nil → f6Z, all_eq_false → f7a, sublist_append_right → f7c, getElem?_of_mem → f7d, pairwise_append → f7e, Perm → f7g, drop_drop → f7h, cons_append → f7j, not_mem_nil → f7k, getElem_map → f7l, take_succ_cons → f7m, replicate_succ → f7n, foldl_cons → f7o, drop_append_of_le_length → f7p, size_toArray → f7q, toArray → f7r, map_map → f7s, Sublist → f7t, set_getElem_self → f7u, length_replicate → f7w, getElem?_append → f7x, length_drop → f7A, mem_cons_of_mem → f7B, any_cons → f7C, flatten_append → f7D, findIdx?_eq_none_iff → f7F, mem_of_find?_eq_some → f7G, find?_eq_none → f7H, foldl_nil → f7J
open Bool renaming and_eq_true → f5w, not_true → f5x, true_and → f5H, not_false → f5V, not_eq_true' → f6a, false_or → f6c, or_eq_false_iff → f6D, false_eq_true → f6J, and_true → f6L, eq_iff_iff → f6O, and_assoc → f7i, true_or → f7v, not_eq_true → f7z, not_not → f7I
open Nat renaming le_refl → f5K, mul_le_mul_right → f5Y, eq_of_beq_eq_true → f5Z, zero_add → f6x, succ_mul → f6C, lt_of_lt_of_le → f6Q, le_mul_of_pos_right → f6T, add_zero → f6X, le_succ_of_le → f7b, zero_le → f7f
open Int renaming toNat_natCast → f5P, le_refl → f5R, tmod → f5W, le_trans → f6q, tdiv → f7y
open Option.some renaming inj → f6w
open Classical renaming byContradiction → f7E
noncomputable section
section
variable {cx:Cx} {Γ:O8} {F:Nat->Prop} {ι:Nat->Nat->Value} {S:St} {a:Act} {w:World}
theorem u0.writeX(h:u0 Γ F ι S a w){g j:Nat}{e e':s6}(he:S.ent g j=some e)(hl:e.live=true){w':World}(hk:w'.os=w.os/\w'.tape=w.tape/\w'.output=w.output)(hsz:w'.heap.size=w.heap.size)(hb:∀k,¬EB w e (ι g j) k->w'.heap[k]?=w.heap[k]?)(hn:H6 w w' F->RE w' F (S.setE g j e').D ι e' (ι g j)){X:List Nat}(hX:∀k∈X,¬F k/\(Γ.own k\/Γ.w0.heap.size<=k)/\∀g' j' e'',S.ent g' j'=some e''->e''.live=true->¬EB w e'' (ι g' j') k)(hin:∀k,EB w' e' (ι g j) k->EB w e (ι g j) k\/k∈X):u0 Γ F ι (S.setE g j e') a w':=by
  have hs:H6 w w' F:=a1x fun k hF=>hb k fun q=>(h.sep g j e k he hl q).1 hF
  have hD:∀k,S.D k->(S.setE g j e').D k:=fun k x=>Q5.2 x
  have hoth:∀g' j' e'',S.ent g' j'=some e''->e''.live=true->¬(g'=g/\j'=j)->∀k,EB w e'' (ι g' j') k->w'.heap[k]?=w.heap[k]?:=fun g' j' e'' he'' hl'' q k a1z=>hb k fun q'=>q (h.inj g' j' e'' g j e k he'' he hl'' hl a1z q')
  have hone:∀g2 j2 e2 k,S.ent g2 j2=some e2->e2.live=true->¬(g2=g/\j2=j)->EB w' e' (ι g j) k->EB w' e2 (ι g2 j2) k->False:=by
    intro g2 j2 e2 k h2 l2 q2 k1 k2;have k2':=(h.ents g2 j2 e2 h2).back (hoth g2 j2 e2 h2 l2 q2) k2;rcases hin k k1 with x|x
    · exact q2 (h.inj g2 j2 e2 g j e k h2 he l2 hl k2' x)
    · exact (hX k x).2.2 g2 j2 e2 h2 l2 k2'
  exact
    { F0:=h.F0
      F1:=fun k hF=>hsz▸h.F1 k hF
      F2:=h.F2
      kept:=⟨hk.1.trans h.kept.os,hk.2.1.trans h.kept.tape,hk.2.2.trans h.kept.output,hsz▸h.kept.size,fun k hk' hno=>by
        rw [hb k fun q => ?_]
        · exact h.kept.block k hk' hno
        · rcases (h.sep g j e k he hl q).2 with x|x
          · exact hno x
          · omega⟩
      tmps:=by rw [a7O];exact h.tmps.imp fun _ _ x=>x.mono hs (fun _ y=>y) hD (fun _ _ _=>rfl)
      ents:=fun g' j' e'' he''=>by
        rw [P9 he] at he'';split at he''
        · rename_i q;obtain ⟨rfl,rfl⟩:=q;injection he'' with he'';subst he'';exact hn hs
        · rename_i q;exact (h.ents g' j' e'' he'').mono hs (fun _ y=>y) hD (fun _ _ _=>rfl) fun k hl'' a1z=>hoth g' j' e'' he'' hl'' q k a1z
      sep:=fun g' j' e'' k he'' hl'' a1z=>by
        rw [P9 he] at he'';split at he''
        · rename_i q;obtain ⟨rfl,rfl⟩:=q;injection he'' with he'';subst he'';rcases hin k a1z with x|x
          · exact h.sep g' j' e k he hl x
          · exact ⟨(hX k x).1,(hX k x).2.1⟩
        · rename_i q;exact h.sep g' j' e'' k he'' hl'' ((h.ents g' j' e'' he'').back (hoth g' j' e'' he'' hl'' q) a1z)
      inj:=fun g1 j1 e1 g2 j2 e2 k h1 h2 l1 l2 k1 k2=>by
        rw [P9 he] at h1 h2;split at h1<;>split at h2
        · rename_i q1 q2;exact ⟨q1.1.trans q2.1.symm,q1.2.trans q2.2.symm⟩
        · rename_i q1 q2;obtain ⟨rfl,rfl⟩:=q1;injection h1 with h1;subst h1;exact (hone g2 j2 e2 k h2 l2 q2 k1 k2).elim
        · rename_i q1 q2;obtain ⟨rfl,rfl⟩:=q2;injection h2 with h2;subst h2;exact (hone g1 j1 e1 k h1 l1 q1 k2 k1).elim
        · rename_i q1 q2;exact h.inj g1 j1 e1 g2 j2 e2 k h1 h2 l1 l2 ((h.ents g1 j1 e1 h1).back (hoth g1 j1 e1 h1 l1 q1) k1) ((h.ents g2 j2 e2 h2).back (hoth g2 j2 e2 h2 l2 q2) k2)
      defers:=h.defers
      pins:=fun j c hc=>⟨hD _ (h.pins j c hc).1,(h.pins j c hc).2⟩}
theorem H9.splice{rows:List (List V)}(h:H9 rows){idx off:Nat}{r vs:List V}(hr:rows[idx]?=some r)(hv:∀v∈vs,v.isRef=false):H9 (rows.set idx (A5 r off vs)):=by
 intro q hq v hm;rcases List.mem_or_eq_of_mem_set hq with hq|rfl
 ·exact h q hq v hm
 ·unfold A5 at hm;have hrr:=h r (f5F hr);rcases List.mem_append.1 hm with hm|hm
  ·rcases List.mem_append.1 hm with hm|hm
   ·exact hrr v (f6k hm)
   ·exact hv v hm
  ·exact hrr v (f6p hm)
theorem u0.dput(h:u0 Γ F ι S a w){g j t sz n:Nat}{o:Bool}{rows:List (List V)}(he:S.ent g j=some (.deep o t sz n rows)){idx off:Nat}{r vs:List V}{ds:List Value}{fp:List Nat}{ks:List (Nat×Nat)}(hr:rows[idx]?=some r)(hoff:off+vs.length<=sz)(hbl:BL w F vs ds fp)(hfps:M3 S w ι ks fp)(hks:ks.Nodup)(hgj:(g,j) ∉ ks){w':World}(hw:w'.os=w.os/\w'.tape=w.tape/\w'.output=w.output)(hsz:w'.heap.size=w.heap.size)(hb:∀k,B0 (ι g j)≠some k->w'.heap[k]?=w.heap[k]?)(hnew:∀flat,w.ownsRow 0 t sz (ι g j) n flat->w'.ownsRow 0 t sz (ι g j) n (A5 flat (idx*sz+off) ds)) :
  u0 Γ F ι (S.upds (G0 ks++[((g,j),.deep o t sz n (rows.set idx (A5 r off vs)))])) a w':=by
 obtain ⟨flat,fs,hor,hkl,hn,hl,hnd,hnr⟩:=h.ents g j _ he;have h1:=h.killAll ks fun id hid=>by
  obtain ⟨e,he,_⟩:=hfps.live id hid;exact ⟨e,he⟩
 have he1:(S.upds (G0 ks)).ent g j=some (.deep o t sz n rows):=by rw [c73 hgj];exact he
 have hidx:=(f5z.1 hr).1;have hpos:idx*sz+sz<=n*sz:=by rw [<-f6C];exact f5Y _ (by omega)
 obtain ⟨fa,fm,fb,rfl,hrow,_⟩:=hkl.splice (k:=idx*sz+off) hbl.kl (by rw [a3K hl,hn];omega);rw [<-a8P hl hr hoff] at hrow;have hfpx:∀k∈fp,¬F k/\(Γ.own k\/Γ.w0.heap.size<=k)/\k ∉ E0 (ι g j)++(fa++(fm++fb))/\∀g' j' e'',(S.upds (G0 ks)).ent g' j'=some e''->e''.live=true->¬EB w e'' (ι g' j') k:=by
  intro k hk;obtain ⟨id,hid,e',he',hl',hb'⟩:=hfps.mem hk;obtain ⟨z1,z2⟩:=h.sep _ _ e' k he' hl' hb';refine ⟨z1,z2,?_,?_⟩
  ·intro q;obtain ⟨y1,y2⟩:=h.inj _ _ _ _ _ _ k he he' rfl hl' ((EB.deep_iff hor hkl).2 q) hb';exact hgj (by rw [show (g,j)=id from Prod.ext y1 y2];exact hid)
  ·intro g' j' e'' he'' hl'' hb'';rcases b0m _ he'' with ⟨_,rfl⟩|⟨q1,q2⟩
   ·cases hl''
   ·obtain ⟨y1,y2⟩:=h.inj _ _ _ _ _ _ k q2 he' hl'' hl' hb'' hb';exact q1 (by rw [show (g',j')=id from Prod.ext y1 y2];exact hid)
 have hnd2:(E0 (ι g j)++(fa++fb)).Nodup:=by
  refine List.Nodup.sublist ?_ hnd;exact f7t.append_left (f7t.append_left (f7c _ _) _) _
 have hnd':(E0 (ι g j)++(fa++(fp++fb))).Nodup:=by
  refine (a7x (a7x (f7g.refl (fp++fb)))).nodup_iff.2 ?_;refine f5C.2 ⟨M3.nodup h hfps hks,hnd2,?_⟩;intro k hk k' hk' hkk;subst hkk;refine (hfpx k hk).2.2.1 ?_;simp only [List.mem_append] at hk' ⊢;rcases hk' with q|q|q<;>simp [q]
 have hre:H6 w w' F->RE w' F ((S.upds (G0 ks)).setE g j (.deep o t sz n (rows.set idx (A5 r off vs)))).D ι (.deep o t sz n (rows.set idx (A5 r off vs))) (ι g j):=by
  intro hs;refine ⟨_,_,hnew flat hor,hrow.mono hs (fun _ x=>x) (fun k x=>Q5.2 ((a0y S k _).2 x)) (fun _ _ _=>rfl) ?_,by simpa using hn,?_,hnd',fun q=>(hnr q).splice hr hbl.noRef⟩
  ·intro k hk;refine hb k fun q => ?_
   exact (f5C.1 hnd').2.2 k (R2.2 q) k hk rfl
  ·intro q hq;rcases List.mem_or_eq_of_mem_set hq with hq|rfl
   ·exact hl q hq
   ·have:=hl r (f5F hr);rw [a3m _ _ _ (by omega)];exact this
 rw [St.upds_append];refine h1.writeX he1 rfl hw hsz (fun k hk=>hb k fun q=>hk (EB.top q)) hre (X:=fp) (fun k hk=>⟨(hfpx k hk).1,(hfpx k hk).2.1,(hfpx k hk).2.2.2⟩) ?_;intro k hk;have hs:H6 w w' F:=a1x fun k hF=>hb k fun q=>(h.sep g j _ k he rfl (EB.top q)).1 hF
 obtain ⟨flat2,fs2,ho2,hkl2,_⟩:=hre hs;have hk2:=(EB.deep_iff ho2 hkl2).1 hk;have hkl3:=hrow.mono (w':=w') hs (fun _ x=>x) (fun k x=>x) (fun _ _ _=>rfl) (fun k hk=>hb k fun q=>(f5C.1 hnd').2.2 k (R2.2 q) k hk rfl);have hfl:=b0F ho2 (hnew flat hor) (fun _ _=>rfl);subst hfl;rw [hkl2.det hkl3 (fun _ _=>rfl)] at hk2;simp only [List.mem_append] at hk2;rw [EB.deep_iff hor hkl];simp only [List.mem_append];rcases hk2 with q|q|q|q<;>simp [q]
def b0I(cx:Cx)(ty:Nat)(x y:V)(r:List V)(ck om:List (Option Nat)):j7 B3 :=
 match cx.T ty,y.cells with
 | some ti,some vs=>match x with
  | .eptr g j sz idx off=>j7.bind (j7.rd g j) fun e=>j7.bind (a1P ck om vs) fun f=>match e with
   | .deep o t sz' n rows=>if sz'=sz/\vs.length=ti.size/\off+vs.length<=sz/\f.ls.isEmpty/\a3F f.ks/\a1R f.ks (g,j)=false then
     j7.pure {v:=.bot,upd:=G0 f.ks++[((g,j),.deep o t sz n (rows.set idx (A5 r off f.v)))],obl:=(rows[idx]?=some r)::f.obl}
    else j7.no
   | _=>j7.no
  | _=>j7.no
 | _,_=>j7.no
theorem BL.len{F:Nat->Prop}:∀{vs:List V} {cs:List Value} {f:List Nat},BL w F vs cs f->vs.length=cs.length
 | _,_,_,.nil=>rfl
 | _,_,_,.cons _ _ _ _ _ _ _ t=>by simp [BL.len t]
theorem d4R(h:u0 Γ F ι S a w){grp:Nat}{ob:Oper}{ty:Nat}{x y:Operand}{r:List V}{ck om:List (Option Nat)}(ho:ob.op=.store ty x y)(hd:ob.dst=none){out:B3}{lg:List (Nat×Nat)}(hp:b0I cx ty (t6 S.t x) (t6 S.t y) r ck om S.ent=some (out,lg))(hob:∀p∈out.obl,p):U5 cx.P Γ ι S grp ob out a w:=by
 have hx:=D5 h.tmps x;have hy:=D5 h.tmps y;unfold b0I at hp;cases hti:cx.T ty with
 | none=>rw [hti] at hp;cases hp
 | some ti =>
 cases hvs:(t6 S.t y).cells with
 | none=>rw [hti,hvs] at hp;cases hp
 | some vs =>
 rw [hti,hvs] at hp;simp only at hp;obtain ⟨i,d,z,htf⟩:=cx.tf hti;have hcells:=hy.cells hvs;have hone:=hcells.all_one;have hclen:vs.length=(a.eval y).cells.size:=by simpa using hcells.length
 generalize t6 S.t x=xv at hp hx;cases xv<;>try (cases hp;done)
 case eptr g j sz idx off =>
  obtain ⟨hD,b,hι,hc⟩:=hx.inv_eptr;obtain ⟨e,l1,l2,hrd,hp',hl12⟩:=j7.bind_some hp;clear hp;have he:=(j7.rd_some hrd).1;simp only at he;obtain ⟨f,l3,l4,hf,hp'',hl34⟩:=j7.bind_some hp';clear hp';cases e<;>try (cases hp'';done)
  rename_i o t sz' n rows;simp only at hp'';split at hp''<;>try (cases hp'';done)
  rename_i hcond;obtain ⟨rfl,hc1,hc2,hc3,hc4,hc5⟩:=hcond;have:=j7.pure_some hp'';injection this with h2 h3;subst h2;have hr:rows[idx]?=some r:=hob _ (f5B.2 (.inl rfl));have hls:f.ls=[]:=List.isEmpty_iff.1 hc3;obtain ⟨fp,hbl,hfps,hh⟩:=b2v (F1:=F) h (fun _ x=>x) hcells hf (fun p hp=>hob p (f5B.2 (.inr hp))) (by rw [hls];intro id hid;cases hid);obtain ⟨flat0,fs0,hor0,hkl0,hn0,hl0,_⟩:=h.ents g j _ he;have hidx:=(f5z.1 hr).1;have hvl:f.v.length=vs.length:=by rw [hbl.len,hclen];simp
  rcases hor0.2 with ⟨hv,h0⟩|⟨g0,cap,cur,hv,hbg,hg,hnc,hcm,hcs,ht⟩
  ·omega
  ·have hb:b=g0:=by rw [hv] at hι;simp [B0] at hι;omega
   subst hb;have hcl:n*sz'<=cur.size:=by rw [hcs];exact f5Y _ hnc
   have hpos:idx*sz'+sz'<=n*sz':=by rw [<-f6C];exact f5Y _ (by omega)
   have hrun:=b8Y (P:=cx.P) ho htf hc hg (by omega) (by omega) hone;refine ⟨_,undef,_,F,ι,hrun,.inr ⟨rfl,rfl⟩,?_⟩;rw [hd,b26,b3Z];refine h.dput he hr (by omega) hbl hfps (a49 hc4) (fun q=>by rw [a6i.2 q] at hc5;cases hc5) ⟨rfl,rfl,rfl⟩ (b4G _ _ _) (fun k hk=>setRow_other w b k _ fun q=>hk (by rw [hι,q])) ?_;intro flat hor;have hfl:=b0F hor hor0 (fun _ _=>rfl);subst hfl;have hflat:flat.length=n*sz':=hor.1;refine ⟨?_,.inr ⟨b,cap,_,hv,hbg,setRow_heap w b cur _ t (0,0) hg,hnc,hcm,?_,?_⟩⟩
   ·rw [a3m _ _ _ (by simp;omega)];exact hor.1
   ·rw [f7q,a3m _ _ _ (by simp;omega)];simpa using hcs
   ·rw [<-ht];exact c1W _ _ _ _ (by simp;omega) (by simpa using hcl)
theorem c1O{t sz n:Nat}{rows:List (List V)}{c:Value}{flat:List Value}{b idx off m:Nat}{r:List V}(ho:w.ownsRow 0 t sz c n flat)(hn:rows.length=n)(hl:∀r∈rows,r.length=sz)(hb:B0 c=some b)(hr:rows[idx]?=some r)(hoff:off+m<=sz) :
  O4 w b (idx*sz+off) ((flat.drop (idx*sz+off)).take m)/\((rows.flatten.drop (idx*sz+off)).take m=(r.drop off).take m)/\idx*sz+off+m<=rows.flatten.length:=by
 have hidx:=(f5z.1 hr).1;have hpos:idx*sz+sz<=n*sz:=by rw [<-f6C];exact f5Y _ (by omega)
 refine ⟨?_,?_,by rw [a3K hl,hn];omega⟩
 ·rcases ho.2 with ⟨hv,h0⟩|⟨g0,cap,cur,hv,_,hg,hnc,hcm,hcs,ht⟩
  ·rw [hv] at hb;cases hb
  ·rw [hv] at hb;simp [B0] at hb;subst hb;have hseg:O4 w g0 0 flat:=by
    rw [<-ht];have:=(a6j hg 0).take (n*sz);simpa using this
   have:=(hseg.drop (idx*sz+off)).take m;simpa using this
 ·rw [<-b3k hl hr,List.drop_take,List.take_take,f7h];congr 1
  omega
def b13(cx:Cx)(grp ty:Nat)(x:V)(r:List V):j7 B3 :=
 match cx.T ty with
 | none=>j7.no
 | some ti=>match x with
  | .eptr g j sz idx off=>j7.bind (j7.rd g j) fun e=>match e with
   | .deep _ t sz' n rows =>
    let m:=if ti.agg then ti.size else 1
    let y:=L0 grp 0 ((r.drop off).take m);if sz'=sz/\off+m<=sz/\((r.drop off).take m).all (fun v => !v.isRef) then
     match R7 ti y.1 with
     | some v=>j7.pure {v:=v,new:=some y.2,upd:=[((g,j),.deep true t sz n (rows.set idx (A5 r off y.1)))],obl:=[rows[idx]?=some r]}
     | none=>j7.no
    else j7.no
   | _=>j7.no
  | _=>j7.no
theorem KL.toBL{w:World}{F D:Nat->Prop}{ι:Nat->Nat->Value}{vs:List V}{cs:List Value}{f:List Nat}(h:KL w F D ι vs cs f)(hv:vs.all (fun v => !v.isRef)=true):BL w F vs cs f:=by
 refine h.blOf fun v hm => ?_
 have:=List.all_eq_true.1 hv v hm;simpa using this
theorem c60(grp:Nat):∀(vs:List V) (j:Nat),(L0 grp j vs).1.length=vs.length
 | [],_=>rfl
 | v::vs,j=>by simp [L0,c60 grp vs]
theorem e0j{S:St}{g j:Nat}{e e':s6}:(S.setE g j e).setE g j e'=S.setE g j e':=by
 cases hx:S.h[g]? with
 | none=>unfold St.setE;simp [hx]
 | some o=>cases o with
  | none=>unfold St.setE;simp [hx]
  | some l =>
   have hlt:=(f5z.1 hx).1;rw [a2Q hx,a2Q hx,a2Q (l:=l.set j e) (by simp [hlt])];simp only [List.set_set]
set_option maxHeartbeats 800000 in
theorem d7Z(h:u0 Γ F ι S a w){grp:Nat}(hg:grp<S.h.length)(hn:¬S.D grp){ob:Oper}{ty:Nat}{x:Operand}{r:List V}(ho:ob.op=.load ty x){out:B3}{lg:List (Nat×Nat)}(hp:b13 cx grp ty (t6 S.t x) r S.ent=some (out,lg))(hob:∀p∈out.obl,p):U5 cx.P Γ ι S grp ob out a w:=by
 have hx:=D5 h.tmps x;unfold b13 at hp;cases hti:cx.T ty with
 | none=>rw [hti] at hp;cases hp
 | some ti =>
 rw [hti] at hp;obtain ⟨i,d,z,htf⟩:=cx.tf hti;generalize t6 S.t x=xv at hp hx;cases xv<;>try (cases hp;done)
 case eptr g j sz idx off =>
  obtain ⟨hD,b,hι,hc⟩:=hx.inv_eptr;obtain ⟨e,l1,l2,hrd,hp',hl12⟩:=j7.bind_some hp;clear hp;have he:=(j7.rd_some hrd).1;simp only at he;cases e<;>try (cases hp';done)
  rename_i o t sz' n rows;simp only at hp';obtain ⟨m,hm⟩:∃m,(if ti.agg=true then ti.size else 1)=m:=⟨_,rfl⟩
  rw [hm] at hp';split at hp'<;>try (cases hp';done)
  rename_i hcond;obtain ⟨rfl,hc1,hc2⟩:=hcond;obtain ⟨y,hy⟩:∃y,L0 grp 0 ((r.drop off).take m)=y:=⟨_,rfl⟩
  rw [hy] at hp';cases hrv:R7 ti y.1 with
  | none=>rw [hrv] at hp';cases hp'
  | some v =>
  rw [hrv] at hp';have:=j7.pure_some hp';injection this with h2 h3;subst h2;have hr:rows[idx]?=some r:=hob _ (by simp);obtain ⟨flat,fs,hor,hkl,hrn,hl,hnd,hnr⟩:=h.ents g j _ he;obtain ⟨hseg,hmid,hle⟩:=c1O hor hrn hl hι hr hc1;have hrl:=hl r (f5F hr);have hml:((r.drop off).take m).length=m:=by simp;omega
  have hgg:g≠grp:=fun q=>hn (q▸hD)
  obtain ⟨k,hk⟩:∃k,idx*sz'+off=k:=⟨_,rfl⟩
  rw [hk] at hseg hmid hle;obtain ⟨fa,fm,fb,rfl,ka,km,kb⟩:=hkl.cut (k:=k) (m:=m) hle;rw [hmid] at km;have hbl:=km.toBL hc2;have hds:(flat.drop k).take m=((flat.drop k).take m):=rfl;have hflen:flat.length=rows.flatten.length:=hkl.len.symm;have hspl:∀us:List V,us.length=m->(rows.set idx (A5 r off us)).flatten=rows.flatten.take k++(us++rows.flatten.drop (k+m)):=by
   intro us hus;rw [a8P hl hr (by omega),hk];unfold A5;rw [hus,f5J]
  have hfs:flat=flat.take k++((flat.drop k).take m++flat.drop (k+m)):=by
   rw [<-f7h,f6r,f6r]
  have hrl':∀us:List V,us.length=m->∀q∈rows.set idx (A5 r off us),q.length=sz':=by
   intro us hus q hq;rcases List.mem_or_eq_of_mem_set hq with hq|rfl
   ·exact hl q hq
   ·rw [a3m _ _ _ (by omega)];exact hrl
  have hnd2:(E0 (ι g j)++(fa++fb)).Nodup:=List.Nodup.sublist (f7t.append_left (f7t.append_left (f7c _ _) _) _) hnd;have hndm:fm.Nodup:=(f5C.1 (f5C.1 (f5C.1 hnd).2.1).2.1).1;have hdm:∀k∈fm,k ∉ E0 (ι g j)++(fa++fb):=by
   intro q hq hq';have hp:=(a7x (C:=E0 (ι g j)) (a7x (C:=fa) (f7g.refl (fm++fb)))).nodup_iff.1 hnd;exact (f5C.1 hp).2.2 q hq q hq' rfl
  obtain ⟨us0,hus0⟩:∃us:List V,us=((r.drop off).take m).map fun _=>V.bot:=⟨_,rfl⟩
  have hus0l:us0.length=m:=by rw [hus0,f6l,hml]
  have kl0:∀{D':Nat->Prop} {ι':Nat->Nat->Value},(∀k,S.D k->D' k)->(∀g j,S.D g->ι' g j=ι g j)->∀{us:List V},us.length=m->KL w F D' ι' us ((flat.drop k).take m) []->KL w F D' ι' (rows.set idx (A5 r off us)).flatten flat (fa++([]++fb)):=by
   intro D' ι' h1 h2 us hus hku;rw [hspl us hus,hfs];have l1:(flat.take k).length=k:=by simp;omega
   have e1:(flat.take k++((flat.drop k).take m++flat.drop (k+m)))=flat:=hfs.symm;exact (ka.mono (fun _ _ _=>rfl) (fun _ x=>x) h1 h2 (fun _ _=>rfl)).app (hku.app (kb.mono (fun _ _ _=>rfl) (fun _ x=>x) h1 h2 (fun _ _=>rfl)))
  have hmem0:∀q,q∈E0 (ι g j)++(fa++([]++fb))->q∈E0 (ι g j)++(fa++(fm++fb)):=by
   intro q hq;simp only [List.mem_append,f7k,false_or] at hq ⊢;rcases hq with x|x|x<;>simp [x]
  have rel1:u0 Γ F ι (S.setE g j (.deep true t sz' n (rows.set idx (A5 r off us0)))) a w:=by
   have k1:=kl0 (D':=S.D) (ι':=ι) (fun _ x=>x) (fun _ _ _=>rfl) hus0l (hus0▸km.bots);refine h.write he rfl ⟨rfl,rfl,rfl⟩ rfl (fun _ _=>rfl) (fun _ => ?_) ?_
   ·exact ⟨flat,_,hor,k1.mono (fun _ _ _=>rfl) (fun _ x=>x) (fun k x=>Q5.2 x) (fun _ _ _=>rfl) (fun _ _=>rfl),by simpa using hrn,hrl' _ hus0l,by simpa using hnd2,fun q=>by cases q⟩
   ·intro q hq;exact (EB.deep_iff hor hkl).2 (hmem0 q ((EB.deep_iff hor k1).1 hq))
  have he1:(S.setE g j (.deep true t sz' n (rows.set idx (A5 r off us0)))).ent g j=some (.deep true t sz' n (rows.set idx (A5 r off us0))):=by rw [P9 he];simp
  obtain ⟨bs,hbsl,hhas,hth⟩:=a7X (grp:=grp) hbl 0;rw [hy] at hbsl hhas hth;obtain ⟨ι',hι'⟩:∃ι',ι'=a5f ι grp bs:=⟨_,rfl⟩
  have hne:∀g j,g≠grp->ι' g j=ι g j:=fun g j q=>by rw [hι'];exact c2y q
  have hlenS:grp<(S.setE g j (.deep true t sz' n (rows.set idx (A5 r off us0)))).h.length:=by rw [b0Z];exact hg
  have hnD:¬(S.setE g j (.deep true t sz' n (rows.set idx (A5 r off us0)))).D grp:=fun q=>hn (Q5.1 q)
  have hDg:=a0P (S:=S.setE g j (.deep true t sz' n (rows.set idx (A5 r off us0)))) (new:=y.2) hlenS;obtain ⟨hrc,hlie⟩:=hth ((S.setE g j (.deep true t sz' n (rows.set idx (A5 r off us0)))).lay grp y.2).D ι' hDg (fun q c hq=>by rw [hι',f6x];exact a5x hq) hndm;have hvb:∀(q:Nat) (e:s6),y.2[q]?=some e->bs[q]?=some (ι' grp q):=by
   intro q e hq;have hlt:q<bs.length:=by rw [hbsl];exact (f5z.1 hq).1
   have hv:ι' grp q=bs[q]:=by rw [hι'];exact a5x (f5t hlt)
   rw [hv];exact f5t hlt
  have hmB:∀k∈fm,EB w (.deep o t sz' n rows) (ι g j) k:=fun k hk=>(EB.deep_iff hor hkl).2 (by simp [hk])
  have k1:=kl0 (D':=S.D) (ι':=ι) (fun _ x=>x) (fun _ _ _=>rfl) hus0l (hus0▸km.bots);have rel2:=rel1.lay hlenS hnD (new:=y.2) (ι':=ι') hne (fun q e he=>hlie q e _ he (hvb q e he))
   (fun q e k he hl hk=>h.sep _ _ _ k ‹S.ent g j=some (.deep o t sz' n rows)› rfl (hmB k (hhas.mem he (hvb q e he) hk)))
   (fun q e q' e' k he he' hl hl' hk hk'=>hhas.inj hndm he (hvb q e he) hk he' (hvb q' e' he') hk')
   (fun q e g' j' e' k he0 he' hl hl' hk hk'=>by
    have hkm:=hhas.mem he0 (hvb q e he0) hk;rw [P9 he] at he';split at he'
    ·rename_i qq;obtain ⟨rfl,rfl⟩:=qq;injection he' with he';subst he';exact hdm k hkm (by simpa using (EB.deep_iff hor k1).1 hk')
    ·rename_i qq;exact qq (h.inj _ _ _ _ _ _ k he' he hl' rfl hk' (hmB k hkm)))
  have he2:((S.setE g j (.deep true t sz' n (rows.set idx (A5 r off us0)))).lay grp y.2).ent g j=some (.deep true t sz' n (rows.set idx (A5 r off us0))):=by rw [a7Y hgg];exact he1
  have hyl:y.1.length=m:=by rw [<-hy,c60,hml]
  have hor':w.ownsRow 0 t sz' (ι' g j) n flat:=by rw [hne g j hgg];exact hor
  have hDD:∀k,S.D k->((S.setE g j (.deep true t sz' n (rows.set idx (A5 r off us0)))).lay grp y.2).D k:=fun k x=>b7i (Q5.2 x)
  have hιD:∀g' j',S.D g'->ι' g' j'=ι g' j':=fun g' j' x=>hne g' j' fun q=>hn (q▸x)
  have k2:=kl0 (D':=((S.setE g j (.deep true t sz' n (rows.set idx (A5 r off us0)))).lay grp y.2).D) (ι':=ι') hDD hιD hyl (KL.ofRC hrc);have k1':=kl0 (D':=((S.setE g j (.deep true t sz' n (rows.set idx (A5 r off us0)))).lay grp y.2).D) (ι':=ι') hDD hιD hus0l (hus0▸km.bots.mono (fun _ _ _=>rfl) (fun _ x=>x) hDD hιD (fun _ _=>rfl));have rel3:=rel2.write he2 rfl (e':=.deep true t sz' n (rows.set idx (A5 r off y.1))) ⟨rfl,rfl,rfl⟩ rfl (fun _ _=>rfl)
   (fun _=>⟨flat,_,hor',k2.mono (fun _ _ _=>rfl) (fun _ x=>x) (fun k x=>Q5.2 x) (fun _ _ _=>rfl) (fun _ _=>rfl),by simpa using hrn,hrl' _ hyl,by rw [hne g j hgg];simpa using hnd2,fun q=>by cases q⟩)
   (fun q hq=>(EB.deep_iff hor' k1').2 ((EB.deep_iff hor' k2).1 hq))
  obtain ⟨c,hrd',hvc⟩:=a6Y hrc hrv;refine ⟨_,c,w,F,ι',a7g ho htf (by rw [hc,hk]) hseg hrd',.inl rfl,?_⟩;have hput:=rel3.put ob.dst (hvc.mono (fun _ _ _=>rfl) (fun _ x=>x) (fun k x=>Q5.2 x) (fun _ _ _=>rfl));rw [<-d0k hgg,e0j] at hput;exact hput
def V.plainO:V->Bool
 | .own .. => true
 | v=>v.plain
theorem KL.plainO{w:World}{F D:Nat->Prop}{ι:Nat->Nat->Value}:∀{vs:List V} {cs:List Value} {f:List Nat},KL w F D ι vs cs f->vs.all V.plainO=true->x8 (RC w F D ι) vs cs
 | _,_,_,.nil,_=>.nil
 | _,_,_,.cons v c f vs cs fs h t,hp=>by
  simp only [List.all_cons,f5w] at hp;refine .cons ?_ (KL.plainO t hp.2);have hv:=hp.1;cases h with
  | rc h=>exact h
  | bc _ h=>cases h with
   | fv v c h=>exact .fv _ _ h
   | _=>cases hv
def b3f(cx:Cx)(ty:Nat)(x:V)(r:List V):j7 B3 :=
 match cx.T ty with
 | none=>j7.no
 | some ti=>match x with
  | .eptr g j sz idx off=>j7.bind (j7.rd g j) fun e=>match e with
   | .deep _ t sz' n rows =>
    let m:=if ti.agg then ti.size else 1
    if sz'=sz/\off+m<=sz/\((r.drop off).take m).all V.plainO then
     match R7 ti ((r.drop off).take m) with
     | some v=>j7.pure {v:=v,obl:=[rows[idx]?=some r]}
     | none=>j7.no
    else j7.no
   | _=>j7.no
  | _=>j7.no
theorem e81(h:u0 Γ F ι S a w){grp:Nat}{ob:Oper}{ty:Nat}{x:Operand}{r:List V}(ho:ob.op=.load ty x){out:B3}{lg:List (Nat×Nat)}(hp:b3f cx ty (t6 S.t x) r S.ent=some (out,lg))(hob:∀p∈out.obl,p):U5 cx.P Γ ι S grp ob out a w:=by
 have hx:=D5 h.tmps x;unfold b3f at hp;cases hti:cx.T ty with
 | none=>rw [hti] at hp;cases hp
 | some ti =>
 rw [hti] at hp;obtain ⟨i,d,z,htf⟩:=cx.tf hti;generalize t6 S.t x=xv at hp hx;cases xv<;>try (cases hp;done)
 case eptr g j sz idx off =>
  obtain ⟨hD,b,hι,hc⟩:=hx.inv_eptr;obtain ⟨e,l1,l2,hrd,hp',hl12⟩:=j7.bind_some hp;clear hp;have he:=(j7.rd_some hrd).1;simp only at he;cases e<;>try (cases hp';done)
  rename_i o t sz' n rows;simp only at hp';obtain ⟨m,hm⟩:∃m,(if ti.agg=true then ti.size else 1)=m:=⟨_,rfl⟩
  rw [hm] at hp';split at hp'<;>try (cases hp';done)
  rename_i hcond;obtain ⟨rfl,hc1,hc2⟩:=hcond;cases hrv:R7 ti ((r.drop off).take m) with
  | none=>rw [hrv] at hp';cases hp'
  | some v =>
  rw [hrv] at hp';have:=j7.pure_some hp';injection this with h2 h3;subst h2;have hr:rows[idx]?=some r:=hob _ (by simp);obtain ⟨flat,fs,hor,hkl,hrn,hl,hnd,hnr⟩:=h.ents g j _ he;obtain ⟨hseg,hmid,hle⟩:=c1O hor hrn hl hι hr hc1;obtain ⟨fa,fm,fb,rfl,ka,km,kb⟩:=hkl.cut hle;rw [hmid] at km;obtain ⟨c,hrd',hvc⟩:=a6Y (D:=S.D) (ι:=ι) (km.plainO hc2) hrv;exact ⟨_,c,w,F,ι,a7g ho htf hc hseg hrd',.inl rfl,by rw [a6o];exact h.put ob.dst hvc⟩
def b4A(cx:Cx)(grp ty:Nat)(l c:V)(ck om:List (Option Nat)):j7 B3 :=
 match cx.T ty with
 | some ti=>match ti.sl with
  | some e=>match cx.T e with
   | some ei=>match l,c with
    | .i _ n,.i _ n'=>j7.bind (a1P ck om ei.zero) fun f =>
     if f.ks.isEmpty/\f.ls.isEmpty then
      j7.pure {v:=.own grp 0 ei.size 0 n.toNat,new:=some [.deep false e ei.size n.toNat (f5u n.toNat f.v)],obl:=[0<=n,n'=n,n*ei.bytes<=140737488355328/\0<ei.bytes,ei.zero.length=ei.size]++f.obl}
     else j7.no
    | _,_=>j7.no
   | none=>j7.no
  | none=>j7.no
 | none=>j7.no
theorem BL.replicate{w:World}{F D:Nat->Prop}{ι:Nat->Nat->Value}{vs:List V}{cs:List Value}(h:KL w F D ι vs cs []):∀n,KL w F D ι (f5u n vs).flatten (f5u n cs).flatten []
 | 0=>.nil
 | n+1=>by
  rw [f7n,f7n,f5X,f5X];exact h.app (BL.replicate h n)
theorem e4H(h:u0 Γ F ι S a w){grp:Nat}(hg:grp<S.h.length)(hn:¬S.D grp){ob:Oper}{ty:Nat}{l c:Operand}(ho:ob.op=.makeSlice ty l c){ck om:List (Option Nat)}{out:B3}{lg:List (Nat×Nat)}(hp:b4A cx grp ty (t6 S.t l) (t6 S.t c) ck om S.ent=some (out,lg))(hob:∀p∈out.obl,p):U5 cx.P Γ ι S grp ob out a w:=by
 have hl:=D5 h.tmps l;have hc:=D5 h.tmps c;unfold b4A at hp;cases hti:cx.T ty with
 | none=>rw [hti] at hp;cases hp
 | some ti =>
 rw [hti] at hp;simp only at hp;cases hs:ti.sl with
 | none=>rw [hs] at hp;cases hp
 | some e =>
 rw [hs] at hp;simp only at hp;cases hei:cx.T e with
 | none=>rw [hei] at hp;cases hp
 | some ei =>
 rw [hei] at hp;simp only at hp;generalize t6 S.t l=lv at hp hl;generalize t6 S.t c=cv at hp hc;cases lv<;>try (cases hp;done)
 cases cv<;>try (cases hp;done)
 rename_i k n k' n';simp only at hp;obtain ⟨f,l1,l2,hf,hp',_⟩:=j7.bind_some hp;clear hp;split at hp'<;>try (cases hp';done)
 rename_i hcond;have:=j7.pure_some hp';injection this with h3 h4;subst h3;have p1:0<=n:=hob _ (by simp);have p2:n'=n:=hob _ (by simp);have p3:n*ei.bytes<=140737488355328/\0<ei.bytes:=hob _ (by simp);have p4:ei.zero.length=ei.size:=hob _ (by simp);have p5:∀p∈f.obl,p:=fun p hp=>hob p (List.mem_append.2 (.inr hp))
 subst p2;obtain ⟨m,rfl⟩:=Int.eq_ofNat_of_zero_le p1;obtain ⟨i,d,z,htf⟩:=cx.tf hti;obtain ⟨i',d',z',hef⟩:=cx.tf hei;obtain rfl:=htf.isSl hs;have hzs:z'.cells.size=ei.size:=by rw [<-p4,<-hef.zeros];simp
 have hb1:m*ei.bytes<=140737488355328:=by
  have:=p3.1;rw [<-Int.natCast_mul] at this;omega
 have hb2:m<=140737488355328:=Nat.le_trans (f6T _ p3.2) hb1;obtain ⟨w',hr,hown,hgr⟩:=run_make_full (P:=cx.P) w 0 ty e i' z' ei.size htf.und hef.info hef.zero hef.size k k' m (by rw [hef.bytes,Nat.mul_comm];omega) (by unfold maxLen;omega) (f7f _);have hrun:(execOp a.eval ob).run cx.P w=.ok (.value (.slice (some ⟨w.heap.size,0,none⟩) m m)) w':=by
  simp [execOp,ho,hl.inv_i,hc.inv_i,hr]
 have hz:x8 (RC w F S.D ι) ei.zero z'.cells.toList:=by
  rw [<-hef.zeros];exact (FL.ofCells (w:=w) (F:=F) _ hef.one).all2.imp fun _ _ x=>.fv _ _ x
 obtain ⟨fp,hbl,hfps,hh⟩:=b2v (F1:=F) h (fun _ x=>x) hz hf p5 (by rw [List.isEmpty_iff.1 hcond.2];intro id hid;cases hid);have hfp:fp=[]:=by
  rw [List.isEmpty_iff.1 hcond.1] at hfps;cases hfps;rfl
 subst hfp;have hs':H6 w w' F:=a1x fun g hg=>hgr.block g (h.F1 g hg) (by simp)
 have hbl':BL w' F f.v z'.cells.toList []:=hbl.mono hs' (fun _ x=>x) (fun k hk=>by cases hk);have hrowl:∀r∈f5u m f.v,r.length=ei.size:=fun r hr=>by
  rw [(f6m.1 hr).2,hbl.len];simpa using hzs
 have hkl:∀{D:Nat->Prop} {ι:Nat->Nat->Value},KL w' F D ι (f5u m f.v).flatten (f5u m z'.cells.toList).flatten []:=BL.replicate hbl'.kl m
 have hown':=hown;rw [<-hzs,b5p,hzs] at hown';have hor:RE w' F (S.lay grp [.deep false e ei.size m (f5u m f.v)]).D (L9 ι grp (.slice (some ⟨w.heap.size,0,none⟩) m m)) (.deep false e ei.size m (f5u m f.v)) (.slice (some ⟨w.heap.size,0,none⟩) m m) :=
  ⟨_,[],hown',hkl,by simp,hrowl,by simp [E0,B0],fun _=>H9.of_flat fun v hv=>by
   obtain ⟨q,hq,hv⟩:=f6s.1 hv;rw [(f6m.1 hq).2] at hv;exact hbl.noRef v hv⟩
 have hrel:=h.new1 hg hn hgr (ent:=.deep false e ei.size m (f5u m f.v)) (c0:=.slice (some ⟨w.heap.size,0,none⟩) m m) (by
  intro q hq;have:=(EB.deep_iff (D:=fun _=>True) (ι:=fun _ _=>.nilFunc) hown' hkl).1 hq;simp [E0,B0] at this;omega) hor
 refine ⟨_,_,_,F,L9 ι grp (.slice (some ⟨w.heap.size,0,none⟩) m m),hrun,.inl rfl,?_⟩;exact hrel.put ob.dst (.cell (RC.wholeO (a0P hg) P4 hown'))
end
def a2S:List (List Int×V)->List Int->V->V
 | [],_,z=>z
 | p::es,k,z=>if k==p.1 then p.2 else a2S es k z
def a1Q:List (List Int×V)->List Int->V->List (List Int×V)
 | [],k,v=>[(k,v)]
 | p::es,k,v=>if k==p.1 then (p.1,v)::es else p::a1Q es k v
def a0i:List (List Int×V)->List Int->Nat->Option (Nat×Value)
 | [],_,_=>none
 | p::es,k,i=>if k==p.1 then some (i,p.2.conc) else a0i es k (i+1)
theorem d54{P:Program}{w:World}{r:Nat}{es:Array MapEntry}{clock:Nat}(o:Obj)(hb:w.heap[r]?=some (.map es clock)):(setObj r o).run P w=.ok () {w with heap:=w.heap.setIfInBounds r o}:=by
 simp [setObj,Sem.run,hb]
theorem d3d{w:World}{r:Nat}{o o':Obj}(hb:w.heap[r]?=some o):(w.heap.setIfInBounds r o')[r]?=some o'/\∀r',r'≠r->(w.heap.setIfInBounds r o')[r']?=w.heap[r']?:=by
 have hlt:=(Array.getElem?_eq_some_iff.1 hb).1;exact ⟨by simp [hlt],fun r' q=>by rw [Array.getElem?_setIfInBounds_ne (Ne.symm q)]⟩
theorem c57(z:V)(k:List Int):∀(es:List (List Int×V)) (i:Nat),(a2S es k z).conc=match a0i es k i with
  | some (_,v)=>v
  | none=>z.conc
 | [],_=>rfl
 | p::es,i=>by
  unfold a2S a0i;split
  ·rfl
  ·exact c57 z k es (i+1)
theorem RV.simple{w:World}{F D:Nat->Prop}{ι:Nat->Nat->Value}{v:V}{c:Value}(h:RV w F D ι v c)(hv:v.simple=true):c=v.conc:=by
 cases h with
 | one v c h =>
  cases h with
  | cell v c h =>
   cases h with
   | fv v c h=>cases h<;>first|rfl|(cases hv;done)
   | _=>cases hv
  | agg cs ds h=>cases hv
 | tup cs ds h=>cases hv
 | any c=>cases hv
section
variable {P:Program} {kt m:Nat} {w:World}
theorem c5q(hE:∀(xs ys:List Int) (w:World),xs.length=m->ys.length=m->(Op.equal kt (kv xs) (kv ys)).run P w=.ok (xs==ys) w){k:List Int}(hk:k.length=m):∀(es:List (List Int×V)) (l:List MapEntry) (i:Nat),l.map (fun e=>(e.key,e.val))=es.map (fun p=>(kv p.1,p.2.conc))->(∀p∈es,p.1.length=m)->(Instr.findAsking kt (kv k) l i).run P w=.ok (a0i es k i) w
 | [],[],i,_,_=>by simp [Instr.findAsking,a0i]
 | [],_::_,_,h,_=>by cases h
 | _::_,[],_,h,_=>by cases h
 | p::es,e::l,i,h,hl=>by
  simp only [f6b,List.cons.injEq,Prod.mk.injEq] at h;obtain ⟨⟨h1,h2⟩,h3⟩:=h;unfold Instr.findAsking;rw [h1];simp only [Sem.run_bind,hE k p.1 w hk (hl p (by simp)),Result.andThen_ok];unfold a0i;by_cases q:(k==p.1)=true
  ·rw [if_pos q,if_pos q,h2];rfl
  ·rw [if_neg q,if_neg q];exact c5q hE hk es l (i+1) h3 fun p hp=>hl p (by simp [hp])
theorem e0l:∀(n:Nat) (xs:List Int),Instr.sameBits (n+2) (kv xs) (kv xs)=true:=by
 intro n xs;unfold kv Instr.sameBits;simp only [f7q,beq_self_eq_true,f5H];induction xs with
 | nil=>rfl
 | cons x xs ih =>
  simp only [f6b,List.zip_cons_cons,List.all_cons,f5w];exact ⟨by simp [Instr.sameBits],by simpa using ih⟩
theorem c9w{k:List Int}{j:Nat}{v:Value}:∀{es:List (List Int×V)} {i:Nat},a0i es k i=some (j,v)->i<=j
 | [],_,h=>by cases h
 | p::es,i,h=>by
  unfold a0i at h;split at h
  ·injection h with h;injection h with h;omega
  ·have:=c9w h;omega
theorem d13{k:List Int}{x:V}{v:Value}:∀{es:List (List Int×V)} {l:List MapEntry} {i j:Nat},l.map (fun e=>(e.key,e.val))=es.map (fun p=>(kv p.1,p.2.conc))->a0i es k i=some (j,v)->
  (∃e,l[j-i]?=some e/\e.key=kv k)/\((l.modify (j-i) fun e=>{e with key:=kv k,val:=x.conc}).map (fun e=>(e.key,e.val))=(a1Q es k x).map (fun p=>(kv p.1,p.2.conc)))
 | [],_,_,_,_,h=>by cases h
 | _::_,[],_,_,h,_=>by cases h
 | p::es,e::l,i,j,h,hf=>by
  simp only [f6b,List.cons.injEq,Prod.mk.injEq] at h;obtain ⟨⟨h1,h2⟩,h3⟩:=h;unfold a0i at hf;unfold a1Q;split at hf
  ·rename_i q;injection hf with hf;injection hf with hf1 hf2;subst hf1;have:k=p.1:=by simpa using q
   rw [Nat.sub_self,if_pos q];exact ⟨⟨e,rfl,by rw [h1,this]⟩,by simp [List.modify_cons,h3,this]⟩
  ·rename_i q;rw [if_neg q];have hge:=c9w hf;obtain ⟨⟨e',h4,h5⟩,h6⟩:=d13 (x:=x) h3 hf;obtain ⟨d,hd⟩:∃d,j-i=d+1:=⟨j-i-1,by omega⟩
   have hd':j-(i+1)=d:=by omega
   rw [hd'] at h4 h6;rw [hd];refine ⟨⟨e',by simpa using h4,h5⟩,?_⟩;rw [List.modify_succ_cons];simp only [f6b,h1,h2,h6]
theorem d3y{k:List Int}{x:V}:∀{es:List (List Int×V)} {i:Nat},a0i es k i=none->a1Q es k x=es++[(k,x)]
 | [],_,_=>rfl
 | p::es,i,h=>by
  unfold a0i at h;unfold a1Q;split at h
  ·cases h
  ·rename_i q;rw [if_neg q,d3y h];rfl
theorem d1Q{k:List Int}{x:V}{p:List Int×V->Prop}:∀{es:List (List Int×V)},(∀q∈es,p q)->(∀q∈es,p (q.1,x))->p (k,x)->∀q∈a1Q es k x,p q
 | [],_,_,h3,q,hq=>by
  simp only [a1Q,f5y] at hq;subst hq;exact h3
 | e::es,h1,h2,h3,q,hq=>by
  unfold a1Q at hq;split at hq
  ·rcases f5B.1 hq with rfl|hq
   ·exact h2 e (by simp)
   ·exact h1 q (by simp [hq])
  ·rcases f5B.1 hq with rfl|hq
   ·exact h1 _ (by simp)
   ·exact d1Q (fun q hq=>h1 q (by simp [hq])) (fun q hq=>h2 q (by simp [hq])) h3 q hq
end
theorem e0A{P:Program}{w:World}{em:Bool}{n kt:Nat}{fs:Array Field}{xs:Array Value}(hu:P.underlying kt=some (.struct fs))(h:∀f∈fs.toList,∃a,(part f.type xs f.offset).run P w=.ok a w/\(Instr.checkKey em n f.type a).run P w=.ok () w):(Instr.checkKey em (n+1) kt (.agg xs)).run P w=.ok () w:=by
 rw [Instr.checkKey];simp only [Sem.run_bind,run_underlying hu,Result.andThen_ok];rw [<-Array.forIn_toList];generalize fs.toList=l at h;induction l with
 | nil=>rfl
 | cons f l ih =>
  obtain ⟨a,h1,h2⟩:=h f (by simp);have ih':=ih fun f hf=>h f (by simp [hf])
  simp only [List.forIn_cons,Sem.run_bind];by_cases q:f.name = "_"
  ·simp [q];simpa using ih'
  ·simp [q,Sem.run_bind,h1,h2];simpa using ih'
theorem d2k{P:Program}{w:World}{em:Bool}{n t:Nat}{k j:IntKind}{x:Int}(hu:P.underlying t=some (.int k)):(Instr.checkKey em (n+1) t (.int j x)).run P w=.ok () w:=by
 rw [Instr.checkKey];simp [Sem.run_bind,run_underlying hu]
section
variable {cx:Cx} {Γ:O8} {F:Nat->Prop} {ι:Nat->Nat->Value} {S S':St} {a:Act} {w:World}
theorem RV.inv_mp{D:Nat->Prop}{g j:Nat}{c:Value}(h:RV w F D ι (.mp g j) c):D g/\∃b,ι g j=.map (some b)/\c=.map (some b):=by
 cases h with
 | one v c h=>cases h with
  | cell v c h=>cases h with
   | fv v c h=>cases h
   | mp g j b h1 h2=>exact ⟨h1,b,h2,rfl⟩
def c5J(cx:Cx)(grp ty:Nat):Option B3 :=
 match cx.M ty with
 | some (_,m,_)=>some {v:=.mp grp 0,new:=some [.map ty m []]}
 | none=>none
theorem d8D(h:u0 Γ F ι S a w){grp:Nat}(hg:grp<S.h.length)(hn:¬S.D grp){ob:Oper}{ty:Nat}(ho:ob.op=.makeMap ty none){out:B3}(hp:c5J cx grp ty=some out):U5 cx.P Γ ι S grp ob out a w:=by
 unfold c5J at hp;split at hp<;>try (cases hp;done)
 injection hp with hp;subst hp;rename_i kt m z hM;have hrun:(execOp a.eval ob).run cx.P w=.ok (.value (.map (some w.heap.size))) (w.alloc (.map #[] 0)):=by
  simp only [execOp,ho,Option.map_none];rfl
 have hrel:=h.new1 hg hn (a5n w (.map #[] 0)) (ent:=.map ty m []) (c0:=.map (some w.heap.size))
  (by intro k hk;simp [EB,B0] at hk;omega) ⟨w.heap.size,#[],0,rfl,a7A w _,rfl,fun p hp=>by cases hp⟩
 refine ⟨_,_,_,F,L9 ι grp (.map (some w.heap.size)),hrun,.inl rfl,?_⟩;exact hrel.put ob.dst (.cell (.mp grp 0 w.heap.size (a0P hg) P4))
def b1x(cx:Cx)(ty:Nat)(x ix:V):j7 B3 :=
 match cx.M ty with
 | none=>j7.no
 | some (kt,m,z)=>match x,ix with
  | .mp g j,.agg ks=>match a2A ks with
   | some xs=>j7.bind (j7.rd g j) fun e=>match e with
    | .map t' m' es=>if m'=m/\xs.length=m then j7.pure {v:=a2S es xs z} else j7.no
    | _=>j7.no
   | none=>j7.no
  | _,_=>j7.no
theorem d4z{xs:List Int}{z:V}(hz:z.simple=true):∀{es:List (List Int×V)},(∀p∈es,p.2.simple=true)->(a2S es xs z).simple=true
 | [],_=>hz
 | p::es,h=>by
  unfold a2S;split
  ·exact h p (by simp)
  ·exact d4z hz fun p hp=>h p (by simp [hp])
theorem d7A(h:u0 Γ F ι S a w){grp:Nat}{ob:Oper}{ty:Nat}{x ix:Operand}(ho:ob.op=.lookup ty x ix false){out:B3}{lg:List (Nat×Nat)}(hp:b1x cx ty (t6 S.t x) (t6 S.t ix) S.ent=some (out,lg)):U5 cx.P Γ ι S grp ob out a w:=by
 have hx:=D5 h.tmps x;have hi:=D5 h.tmps ix;unfold b1x at hp;cases hM:cx.M ty with
 | none=>rw [hM] at hp;cases hp
 | some q =>
 obtain ⟨kt,m,z⟩:=q;rw [hM] at hp;simp only at hp;generalize t6 S.t x=xv at hp hx;generalize t6 S.t ix=iv at hp hi;cases xv<;>try (cases hp;done)
 cases iv<;>try (cases hp;done)
 rename_i g j ks;simp only at hp;cases hks:a2A ks with
 | none=>rw [hks] at hp;cases hp
 | some xs =>
 rw [hks] at hp;obtain ⟨e,l1,l2,hrd,hp',hl12⟩:=j7.bind_some hp;clear hp;have he:=(j7.rd_some hrd).1;simp only at he hp';cases e<;>try (cases hp';done)
 rename_i t' m' es;simp only at hp';split at hp'<;>try (cases hp';done)
 rename_i hcond;obtain ⟨rfl,hlen⟩:=hcond;have:=j7.pure_some hp';injection this with h2 h3;subst h2;obtain ⟨hD,b,hι,hc⟩:=hx.inv_mp;obtain ⟨ds,hds,hall⟩:=hi.inv_agg;have hints:=b6l hall hks;subst hints;obtain ⟨b',arr,clock,hb,hheap,hes,hok⟩:=h.ents g j _ he;rw [hι] at hb;injection hb with hb;injection hb with hb;subst hb;obtain ⟨vt,hu,hE,hwide,hz,hzs,hck⟩:=cx.hM ty kt m' z hM;have hck':∀em,(Instr.checkKey em 10000 kt (kv xs)).run cx.P w=.ok () w:=fun em=>hck em xs w hlen
 have hfind:(Instr.findKey kt (kv xs) arr.toList).run cx.P w=.ok (a0i es xs 0) w:=by
  rw [run_findKey_eq w (by unfold b89 at hwide;exact hwide)];exact c5q (fun xs ys w h1 h2=>cx.hE kt m' hE xs ys w h1 h2) hlen es arr.toList 0 hes fun p hp=>(hok p hp).1
 have hrun:(execOp a.eval ob).run cx.P w=.ok (.value (a2S es xs z).conc) w:=by
  rw [c57 z xs es 0];simp only [execOp,ho,hc,hds,Instr.lookup,Sem.run_bind,run_underlying hu,Result.andThen_ok,run_getObj_map w b arr clock hheap];rw [show (Value.agg (xs.map (Value.int .i64)).toArray)=kv xs from rfl];simp only [Sem.run_pure,Sem.run_bind,hck',Result.andThen_ok,hfind];cases a0i es xs 0 with
  | none=>simp [hz,Sem.run_bind]
  | some q=>simp
 have hs:=d4z (xs:=xs) hzs fun p hp=>(hok p hp).2
 refine ⟨_,_,w,F,ι,hrun,.inl rfl,?_⟩;rw [a6o];exact h.put ob.dst (.fv (FV.conc hs))
def b1M(cx:Cx)(ty:Nat)(x ix y:V):j7 B3 :=
 match cx.M ty with
 | none=>j7.no
 | some (kt,m,z)=>match x,ix with
  | .mp g j,.agg ks=>match a2A ks with
   | some xs=>j7.bind (j7.rd g j) fun e=>match e with
    | .map t' m' es=>if m'=m/\xs.length=m/\y.simple=true then j7.pure {v:=.bot,upd:=[((g,j),.map t' m (a1Q es xs y))]} else j7.no
    | _=>j7.no
   | none=>j7.no
  | _,_=>j7.no
theorem e41(h:u0 Γ F ι S a w){grp:Nat}{ob:Oper}{ty:Nat}{x ix y:Operand}(ho:ob.op=.mapUpdate ty x ix y)(hd:ob.dst=none){out:B3}{lg:List (Nat×Nat)}(hp:b1M cx ty (t6 S.t x) (t6 S.t ix) (t6 S.t y) S.ent=some (out,lg)):U5 cx.P Γ ι S grp ob out a w:=by
 have hx:=D5 h.tmps x;have hi:=D5 h.tmps ix;have hy:=D5 h.tmps y;unfold b1M at hp;cases hM:cx.M ty with
 | none=>rw [hM] at hp;cases hp
 | some q =>
 obtain ⟨kt,m,z⟩:=q;rw [hM] at hp;simp only at hp;generalize t6 S.t x=xv at hp hx;generalize t6 S.t ix=iv at hp hi;generalize t6 S.t y=yv at hp hy;cases xv<;>try (cases hp;done)
 cases iv<;>try (cases hp;done)
 rename_i g j ks;simp only at hp;cases hks:a2A ks with
 | none=>rw [hks] at hp;cases hp
 | some xs =>
 rw [hks] at hp;obtain ⟨e,l1,l2,hrd,hp',hl12⟩:=j7.bind_some hp;clear hp;have he:=(j7.rd_some hrd).1;simp only at he hp';cases e<;>try (cases hp';done)
 rename_i t' m' es;simp only at hp';split at hp'<;>try (cases hp';done)
 rename_i hcond;obtain ⟨rfl,hlen,hys⟩:=hcond;have:=j7.pure_some hp';injection this with h2 h3;subst h2;obtain ⟨hD,b,hι,hc⟩:=hx.inv_mp;obtain ⟨ds,hds,hall⟩:=hi.inv_agg;have hints:=b6l hall hks;subst hints;have hyc:=hy.simple hys;obtain ⟨b',arr,clock,hb,hheap,hes,hok⟩:=h.ents g j _ he;rw [hι] at hb;injection hb with hb;injection hb with hb;subst hb;obtain ⟨vt,hu,hE,hwide,hz,hzs,hck⟩:=cx.hM ty kt m' z hM;have hck':∀em,(Instr.checkKey em 10000 kt (kv xs)).run cx.P w=.ok () w:=fun em=>hck em xs w hlen
 have hfind:(Instr.findKey kt (kv xs) arr.toList).run cx.P w=.ok (a0i es xs 0) w:=by
  rw [run_findKey_eq w (by unfold b89 at hwide;exact hwide)];exact c5q (fun xs ys w h1 h2=>cx.hE kt m' hE xs ys w h1 h2) hlen es arr.toList 0 hes fun p hp=>(hok p hp).1
 have hlt:b<w.heap.size:=(Array.getElem?_eq_some_iff.1 hheap).1;obtain ⟨arr',clock',hrun,hes'⟩:∃arr' clock',(execOp a.eval ob).run cx.P w=.ok .skip {w with heap:=w.heap.setIfInBounds b (.map arr' clock')}/\arr'.toList.map (fun e=>(e.key,e.val))=(a1Q es xs yv).map (fun p=>(kv p.1,p.2.conc)):=by
  have e0:(Value.agg (xs.map (Value.int .i64)).toArray)=kv xs:=rfl;cases hf:a0i es xs 0 with
  | none =>
   refine ⟨arr.push {key:=kv xs,val:=yv.conc,born:=clock},clock+1,?_,?_⟩
   ·simp only [execOp,ho,hc,hds,hyc,Instr.mapUpdate,Sem.run_bind,run_underlying hu,Result.andThen_ok,run_getObj_map w b arr clock hheap];rw [e0];simp only [Sem.run_pure,Sem.run_bind,hck',Result.andThen_ok,hfind,hf,d54 _ hheap]
   ·rw [d3y hf];simp [hes]
  | some q =>
   obtain ⟨i,v⟩:=q;obtain ⟨⟨e,he1,he2⟩,he3⟩:=d13 (x:=yv) hes hf;rw [Nat.sub_zero] at he1 he3;have hkey:((arr[i]?).map (·.key)).getD (kv xs)=kv xs:=by
    have:arr[i]?=some e:=by simpa using he1
    rw [this];exact he2
   refine ⟨arr.modify i fun e=>{e with key:=kv xs,val:=yv.conc},clock,?_,?_⟩
   ·simp only [execOp,ho,hc,hds,hyc,Instr.mapUpdate,Sem.run_bind,run_underlying hu,Result.andThen_ok,run_getObj_map w b arr clock hheap];rw [e0];simp only [Sem.run_pure,Sem.run_bind,hck',Result.andThen_ok,hfind,hf,hkey,Instr.keyThatStays,e0l 9998,if_true,d54 _ hheap]
   ·rw [Array.toList_modify];exact he3
 refine ⟨_,undef,_,F,ι,hrun,.inr ⟨rfl,rfl⟩,?_⟩;rw [hd,b26,b3Z];have hsz:(w.heap.setIfInBounds b (.map arr' clock')).size=w.heap.size:=by simp
 refine h.write he rfl ⟨rfl,rfl,rfl⟩ hsz (fun k hk => ?_) (fun _ => ?_) (fun k hk=>hk)
 ·refine (d3d hheap).2 k fun q=>hk ?_
  rw [q,hι];rfl
 ·exact ⟨b,arr',clock',hι,(d3d hheap).1,hes',d1Q hok (fun q hq=>⟨(hok q hq).1,hys⟩) ⟨hlen,hys⟩⟩
end
theorem c5I{α:Type}(key:α->List Int)(k:List Int):∀l:List α,a2S (l.map fun x=>(key x,.b true)) k (.b false)=.b (l.any fun x=>k==key x)
 | []=>rfl
 | x::l=>by
  simp only [f6b,a2S,f7C];by_cases q:(k==key x)=true
  ·simp [q]
  ·simp only [q,if_false,f6c,c5I key k l];rfl
def a9c{α:Type}(key:α->List Int)(l:List α)(y:α):List α:=if l.any (fun x=>key y==key x) then l else l++[y]
theorem d16{α:Type}(key:α->List Int)(y:α):∀l:List α,a1Q (l.map fun x=>(key x,.b true)) (key y) (.b true)=(a9c key l y).map fun x=>(key x,.b true)
 | []=>rfl
 | x::l=>by
  have ih:=d16 key y l;unfold a9c at ih ⊢;simp only [f6b,a1Q,f7C];by_cases q:(key y==key x)=true
  ·simp [q]
  ·have q':(key y==key x)=false:=by simpa using q
   simp only [q',f6c];rw [if_neg (by simp),ih];by_cases c:(l.any fun x=>key y==key x)=true
   ·rw [if_pos c,if_pos c];rfl
   ·rw [if_neg c,if_neg c];rfl
section
variable {cx:Cx} {Γ:O8} {F:Nat->Prop} {ι:Nat->Nat->Value} {S S':St} {a:Act} {w:World}
theorem u0.killsR:∀{ks:List (Nat×Nat)} {S:St},u0 Γ F ι S a w->(∀id∈ks,∃e,S.ent id.1 id.2=some e)->u0 Γ F ι (S.upds (G0 ks)) a w
 | [],S,h,_=>h
 | id::ks,S,h,hk=>by
  obtain ⟨e,he⟩:=hk id (by simp);refine u0.killsR (S:=S.setE id.1 id.2 .dead) (h.kill he) fun id' hid => ?_
  obtain ⟨e',he'⟩:=hk id' (by simp [hid]);rw [P9 he];split
  ·exact ⟨_,rfl⟩
  ·exact ⟨e',he'⟩
theorem H9.flatB{rows:List (List V)}(h:H9 rows):rows.flatten.all (fun v => !v.isRef)=true:=by
 rw [List.all_eq_true];intro v hv;obtain ⟨r,hr,hv⟩:=f6s.1 hv;rw [h r hr v hv];rfl
theorem u0.layDeep(h:u0 Γ F ι S a w){grp:Nat}(hgl:grp<S.h.length)(hn:¬S.D grp){X:Option Nat}{w':World}(hgr:w.grownBy w' X)(hX:∀k,X=some k->¬F k/\(Γ.own k\/Γ.w0.heap.size<=k)/\∀g j e,S.ent g j=some e->e.live=true->¬EB w e (ι g j) k){e sz n:Nat}{rows:List (List V)}{sv:Value}{flat:List Value}{fs:List Nat}(hown:w'.ownsRow 0 e sz sv n flat)(hbl:BL w F rows.flatten flat fs)(hlen:rows.length=n)(hl:∀r∈rows,r.length=sz)(hsv:∀k,B0 sv=some k->X=some k\/w.heap.size<=k)(hfs:∀k∈fs,¬F k/\(Γ.own k\/Γ.w0.heap.size<=k)/\(∀g j e,S.ent g j=some e->e.live=true->¬EB w e (ι g j) k)/\X≠some k)(hnd:fs.Nodup) :
  u0 Γ F (L9 ι grp sv) (S.lay grp [.deep false e sz n rows]) a w'/\RC w' F (S.lay grp [.deep false e sz n rows]).D (L9 ι grp sv) (.own grp 0 sz 0 n) sv:=by
 have hs:H6 w w' F:=a1x fun g hF=>hgr.block g (h.F1 g hF) fun q=>(hX g q.symm).1 hF
 have hlt:=hbl.lt;have hbl':BL w' F rows.flatten flat fs:=hbl.mono hs (fun _ x=>x) fun k hk=>hgr.block k (hlt k hk) fun q=>(hfs k hk).2.2.2 q.symm
 have hkl:∀{D:Nat->Prop} {ι:Nat->Nat->Value},KL w' F D ι rows.flatten flat fs:=hbl'.kl
 have hEB:∀k,EB w' (.deep false e sz n rows) sv k->(X=some k\/w.heap.size<=k)\/k∈fs:=by
  intro k hk;rcases List.mem_append.1 ((EB.deep_iff (D:=fun _=>True) (ι:=fun _ _=>.nilFunc) hown hkl).1 hk) with q|q
  ·exact .inl (hsv k (R2.1 q))
  ·exact .inr q
 have h':=h.world2 hgr hX;have hback:∀{g' j' e' k},S.ent g' j'=some e'->e'.live=true->EB w' e' (ι g' j') k->EB w e' (ι g' j') k:=fun he' hl' hk' =>
  (h.ents _ _ _ he').back (fun k q=>hgr.block k (h.lt he' hl' q) fun z=>(hX k z.symm).2.2 _ _ _ he' hl' q) hk'
 refine ⟨h'.lay hgl hn (fun g j q=>b0z q) ?_ ?_ ?_ ?_,RC.wholeO (a0P hgl) P4 hown⟩
 ·intro j e1 he;cases j with
  | succ j=>simp at he
  | zero =>
   simp at he;subst he;rw [P4];refine ⟨flat,fs,hown,hkl,hlen,hl,f5C.2 ⟨c32 sv,hnd,?_⟩,fun _=>H9.of_flat hbl.noRef⟩;intro k hk k' hk' hkk;subst hkk;rcases hsv k (R2.1 hk) with q|q
   ·exact (hfs k hk').2.2.2 q
   ·have:=hlt k hk';omega
 ·intro j e1 k he hl1 hk;rw [P4] at hk;cases j with
  | succ j=>simp at he
  | zero =>
   simp at he;subst he;rcases hEB k hk with (q|q)|q
   ·exact ⟨(hX k q).1,(hX k q).2.1⟩
   ·refine ⟨fun hF => ?_,.inr (Nat.le_trans h.kept.size q)⟩;have:=h.F1 k hF;omega
   ·exact ⟨(hfs k q).1,(hfs k q).2.1⟩
 ·intro j e1 j' e1' k he he' _ _ _ _;cases j<;>cases j'<;>simp_all
 ·intro j e1 g' j' e' k he he' _ hl' hk hk';rw [P4] at hk;cases j with
  | succ j=>simp at he
  | zero =>
   simp at he;subst he;have hk2:=hback he' hl' hk';rcases hEB k hk with (q|q)|q
   ·exact (hX k q).2.2 g' j' e' he' hl' hk2
   ·have:=h.lt he' hl' hk2;omega
   ·exact (hfs k q).2.2.1 g' j' e' he' hl' hk2
def b0J:V->V
 | .osl .. | .dsl .. => .bot
 | v=>v
theorem KL.holes:∀{vs:List V} {cs:List Value} {f:List Nat} {D:Nat->Prop} {ι:Nat->Nat->Value},KL w F D ι vs cs f->vs.all (fun v => !v.isRef)=true->KL w F D ι (vs.map b0J) cs []
 | _,_,_,_,_,.nil,_=>.nil
 | _,_,_,D,ι,.cons v c f vs cs fs h t,hv=>by
  simp only [List.all_cons,f5w] at hv;have h1:KC w F D ι (b0J v) c []:=by
   have hone:=h.one;cases h with
   | rc h =>
    have:b0J v=v:=by
     cases h with
     | fv v c h=>cases h<;>rfl
     | _=>rfl
    rw [this];exact .rc _ _ h
   | bc _ h=>cases h with
    | fv _ _ h =>
     have:b0J v=v:=by cases h<;>rfl
     rw [this];exact .rc _ _ (.fv _ _ h)
    | _=>exact .rc _ _ (.fv _ _ (.bot _ hone))
  exact .cons _ _ [] _ _ [] h1 (KL.holes t hv.2)
def b4z(cx:Cx)(grp ty:Nat)(x:V)(r:List V):j7 B3 :=
 match cx.T ty with
 | none=>j7.no
 | some ti=>match x with
  | .eptr g j sz idx off=>j7.bind (j7.rd g j) fun e=>match e with
   | .deep _ t sz' n rows =>
    let m:=if ti.agg then ti.size else 1
    let y:=L0 grp 0 ((r.drop off).take m);if sz'=sz/\off+m<=sz/\((r.drop off).take m).all (fun v => !v.isRef) then
     match R7 ti y.1 with
     | some v=>j7.pure {v:=v,new:=some y.2,upd:=[((g,j),.deep true t sz n (rows.set idx (A5 r off (((r.drop off).take m).map b0J))))],obl:=[rows[idx]?=some r]}
     | none=>j7.no
    else j7.no
   | _=>j7.no
  | _=>j7.no
set_option maxHeartbeats 800000 in
theorem f4l(h:u0 Γ F ι S a w){grp:Nat}(hg:grp<S.h.length)(hn:¬S.D grp){ob:Oper}{ty:Nat}{x:Operand}{r:List V}(ho:ob.op=.load ty x){out:B3}{lg:List (Nat×Nat)}(hp:b4z cx grp ty (t6 S.t x) r S.ent=some (out,lg))(hob:∀p∈out.obl,p):U5 cx.P Γ ι S grp ob out a w:=by
 have hx:=D5 h.tmps x;unfold b4z at hp;cases hti:cx.T ty with
 | none=>rw [hti] at hp;cases hp
 | some ti =>
 rw [hti] at hp;obtain ⟨i,d,z,htf⟩:=cx.tf hti;generalize t6 S.t x=xv at hp hx;cases xv<;>try (cases hp;done)
 case eptr g j sz idx off =>
  obtain ⟨hD,b,hι,hc⟩:=hx.inv_eptr;obtain ⟨e,l1,l2,hrd,hp',hl12⟩:=j7.bind_some hp;clear hp;have he:=(j7.rd_some hrd).1;simp only at he;cases e<;>try (cases hp';done)
  rename_i o t sz' n rows;simp only at hp';obtain ⟨m,hm⟩:∃m,(if ti.agg=true then ti.size else 1)=m:=⟨_,rfl⟩
  rw [hm] at hp';split at hp'<;>try (cases hp';done)
  rename_i hcond;obtain ⟨rfl,hc1,hc2⟩:=hcond;obtain ⟨y,hy⟩:∃y,L0 grp 0 ((r.drop off).take m)=y:=⟨_,rfl⟩
  rw [hy] at hp';cases hrv:R7 ti y.1 with
  | none=>rw [hrv] at hp';cases hp'
  | some v =>
  rw [hrv] at hp';have:=j7.pure_some hp';injection this with h2 h3;subst h2;have hr:rows[idx]?=some r:=hob _ (by simp);obtain ⟨flat,fs,hor,hkl,hrn,hl,hnd,hnr⟩:=h.ents g j _ he;obtain ⟨hseg,hmid,hle⟩:=c1O hor hrn hl hι hr hc1;have hrl:=hl r (f5F hr);have hml:((r.drop off).take m).length=m:=by simp;omega
  have hgg:g≠grp:=fun q=>hn (q▸hD)
  obtain ⟨k,hk⟩:∃k,idx*sz'+off=k:=⟨_,rfl⟩
  rw [hk] at hseg hmid hle;obtain ⟨fa,fm,fb,rfl,ka,km,kb⟩:=hkl.cut (k:=k) (m:=m) hle;rw [hmid] at km;have hbl:=km.toBL hc2;have hds:(flat.drop k).take m=((flat.drop k).take m):=rfl;have hflen:flat.length=rows.flatten.length:=hkl.len.symm;have hspl:∀us:List V,us.length=m->(rows.set idx (A5 r off us)).flatten=rows.flatten.take k++(us++rows.flatten.drop (k+m)):=by
   intro us hus;rw [a8P hl hr (by omega),hk];unfold A5;rw [hus,f5J]
  have hfs:flat=flat.take k++((flat.drop k).take m++flat.drop (k+m)):=by
   rw [<-f7h,f6r,f6r]
  have hrl':∀us:List V,us.length=m->∀q∈rows.set idx (A5 r off us),q.length=sz':=by
   intro us hus q hq;rcases List.mem_or_eq_of_mem_set hq with hq|rfl
   ·exact hl q hq
   ·rw [a3m _ _ _ (by omega)];exact hrl
  have hnd2:(E0 (ι g j)++(fa++fb)).Nodup:=List.Nodup.sublist (f7t.append_left (f7t.append_left (f7c _ _) _) _) hnd;have hndm:fm.Nodup:=(f5C.1 (f5C.1 (f5C.1 hnd).2.1).2.1).1;have hdm:∀k∈fm,k ∉ E0 (ι g j)++(fa++fb):=by
   intro q hq hq';have hp:=(a7x (C:=E0 (ι g j)) (a7x (C:=fa) (f7g.refl (fm++fb)))).nodup_iff.1 hnd;exact (f5C.1 hp).2.2 q hq q hq' rfl
  obtain ⟨us0,hus0⟩:∃us:List V,us=((r.drop off).take m).map b0J:=⟨_,rfl⟩
  have hus0l:us0.length=m:=by rw [hus0,f6l,hml]
  have kl0:∀{D':Nat->Prop} {ι':Nat->Nat->Value},(∀k,S.D k->D' k)->(∀g j,S.D g->ι' g j=ι g j)->∀{us:List V},us.length=m->KL w F D' ι' us ((flat.drop k).take m) []->KL w F D' ι' (rows.set idx (A5 r off us)).flatten flat (fa++([]++fb)):=by
   intro D' ι' h1 h2 us hus hku;rw [hspl us hus,hfs];have l1:(flat.take k).length=k:=by simp;omega
   have e1:(flat.take k++((flat.drop k).take m++flat.drop (k+m)))=flat:=hfs.symm;exact (ka.mono (fun _ _ _=>rfl) (fun _ x=>x) h1 h2 (fun _ _=>rfl)).app (hku.app (kb.mono (fun _ _ _=>rfl) (fun _ x=>x) h1 h2 (fun _ _=>rfl)))
  have hmem0:∀q,q∈E0 (ι g j)++(fa++([]++fb))->q∈E0 (ι g j)++(fa++(fm++fb)):=by
   intro q hq;simp only [List.mem_append,f7k,false_or] at hq ⊢;rcases hq with x|x|x<;>simp [x]
  have rel1:u0 Γ F ι (S.setE g j (.deep true t sz' n (rows.set idx (A5 r off us0)))) a w:=by
   have k1:=kl0 (D':=S.D) (ι':=ι) (fun _ x=>x) (fun _ _ _=>rfl) hus0l (hus0▸km.holes hc2);refine h.write he rfl ⟨rfl,rfl,rfl⟩ rfl (fun _ _=>rfl) (fun _ => ?_) ?_
   ·exact ⟨flat,_,hor,k1.mono (fun _ _ _=>rfl) (fun _ x=>x) (fun k x=>Q5.2 x) (fun _ _ _=>rfl) (fun _ _=>rfl),by simpa using hrn,hrl' _ hus0l,by simpa using hnd2,fun q=>by cases q⟩
   ·intro q hq;exact (EB.deep_iff hor hkl).2 (hmem0 q ((EB.deep_iff hor k1).1 hq))
  have he1:(S.setE g j (.deep true t sz' n (rows.set idx (A5 r off us0)))).ent g j=some (.deep true t sz' n (rows.set idx (A5 r off us0))):=by rw [P9 he];simp
  obtain ⟨bs,hbsl,hhas,hth⟩:=a7X (grp:=grp) hbl 0;rw [hy] at hbsl hhas hth;obtain ⟨ι',hι'⟩:∃ι',ι'=a5f ι grp bs:=⟨_,rfl⟩
  have hne:∀g j,g≠grp->ι' g j=ι g j:=fun g j q=>by rw [hι'];exact c2y q
  have hlenS:grp<(S.setE g j (.deep true t sz' n (rows.set idx (A5 r off us0)))).h.length:=by rw [b0Z];exact hg
  have hnD:¬(S.setE g j (.deep true t sz' n (rows.set idx (A5 r off us0)))).D grp:=fun q=>hn (Q5.1 q)
  have hDg:=a0P (S:=S.setE g j (.deep true t sz' n (rows.set idx (A5 r off us0)))) (new:=y.2) hlenS;obtain ⟨hrc,hlie⟩:=hth ((S.setE g j (.deep true t sz' n (rows.set idx (A5 r off us0)))).lay grp y.2).D ι' hDg (fun q c hq=>by rw [hι',f6x];exact a5x hq) hndm;have hvb:∀(q:Nat) (e:s6),y.2[q]?=some e->bs[q]?=some (ι' grp q):=by
   intro q e hq;have hlt:q<bs.length:=by rw [hbsl];exact (f5z.1 hq).1
   have hv:ι' grp q=bs[q]:=by rw [hι'];exact a5x (f5t hlt)
   rw [hv];exact f5t hlt
  have hmB:∀k∈fm,EB w (.deep o t sz' n rows) (ι g j) k:=fun k hk=>(EB.deep_iff hor hkl).2 (by simp [hk])
  have k1:=kl0 (D':=S.D) (ι':=ι) (fun _ x=>x) (fun _ _ _=>rfl) hus0l (hus0▸km.holes hc2);have rel2:=rel1.lay hlenS hnD (new:=y.2) (ι':=ι') hne (fun q e he=>hlie q e _ he (hvb q e he))
   (fun q e k he hl hk=>h.sep _ _ _ k ‹S.ent g j=some (.deep o t sz' n rows)› rfl (hmB k (hhas.mem he (hvb q e he) hk)))
   (fun q e q' e' k he he' hl hl' hk hk'=>hhas.inj hndm he (hvb q e he) hk he' (hvb q' e' he') hk')
   (fun q e g' j' e' k he0 he' hl hl' hk hk'=>by
    have hkm:=hhas.mem he0 (hvb q e he0) hk;rw [P9 he] at he';split at he'
    ·rename_i qq;obtain ⟨rfl,rfl⟩:=qq;injection he' with he';subst he';exact hdm k hkm (by simpa using (EB.deep_iff hor k1).1 hk')
    ·rename_i qq;exact qq (h.inj _ _ _ _ _ _ k he' he hl' rfl hk' (hmB k hkm)))
  have he2:((S.setE g j (.deep true t sz' n (rows.set idx (A5 r off us0)))).lay grp y.2).ent g j=some (.deep true t sz' n (rows.set idx (A5 r off us0))):=by rw [a7Y hgg];exact he1
  obtain ⟨c,hrd',hvc⟩:=a6Y hrc hrv;refine ⟨_,c,w,F,ι',a7g ho htf (by rw [hc,hk]) hseg hrd',.inl rfl,?_⟩;have hput:=rel2.put ob.dst hvc;rw [hus0] at hput;exact hput
theorem u0.shut(h:u0 Γ F ι S a w){g j t sz n:Nat}{o:Bool}{rows:List (List V)}(he:S.ent g j=some (.deep o t sz n rows))(hn:H9 rows):u0 Γ F ι (S.setE g j (.deep false t sz n rows)) a w:=by
 refine h.write he rfl ⟨rfl,rfl,rfl⟩ rfl (fun _ _=>rfl) (fun _ => ?_) (fun k hk=>hk);obtain ⟨flat,fs,q1,q2,q3,q4,q5,q6⟩:=h.ents g j _ he;exact ⟨flat,fs,q1,q2.mono (fun _ _ _=>rfl) (fun _ x=>x) (fun k x=>Q5.2 x) (fun _ _ _=>rfl) (fun _ _=>rfl),q3,q4,q5,fun _=>hn⟩
theorem c0U{g j:Nat}:∀{us:List O3} {S:St} {e:s6},S.ent g j=some e->∃e',(S.upds us).ent g j=some e'
 | [],_,e,h=>⟨e,h⟩
 | ((g',j'),e')::us,S,e,h=>by
  cases hx:S.ent g' j' with
  | none =>
   have:(S.setE g' j' e').ent g j=some e:=by
    by_cases q:g=g'/\j=j'
    ·rw [q.1,q.2,hx] at h;cases h
    ·rw [a67 q];exact h
   exact c0U (us:=us) (S:=S.setE g' j' e') this
  | some e0 =>
   have:∃e1,(S.setE g' j' e').ent g j=some e1:=by
    rw [P9 hx];split
    ·exact ⟨_,rfl⟩
    ·exact ⟨e,h⟩
   obtain ⟨e1,h1⟩:=this;exact c0U (us:=us) (S:=S.setE g' j' e') h1
def b33(cx:Cx)(ty:Nat)(x y:V)(r:List V)(ck om:List (Option Nat)):j7 B3 :=
 j7.bind (b0I cx ty x y r ck om) fun o=>match o.new,o.upd.reverse with
  | none,((g,j),.deep b t sz n rows)::us=>j7.bind (j7.rd g j) fun _=>j7.pure {v:=o.v,upd:=o.upd++[((g,j),.deep false t sz n rows)],obl:=H9 rows::o.obl}
  | _,_=>j7.no
theorem e5k{S:St}{g j:Nat}{e:s6}{t:List V}:({S with t:=t}:St).setE g j e={S.setE g j e with t:=t}:=by
 unfold St.setE;cases S.h[g]? with
 | none=>rfl
 | some o=>cases o<;>rfl
theorem e7q(h:u0 Γ F ι S a w){grp:Nat}{ob:Oper}{ty:Nat}{x y:Operand}{r:List V}{ck om:List (Option Nat)}(ho:ob.op=.store ty x y)(hd:ob.dst=none){out:B3}{lg:List (Nat×Nat)}(hp:b33 cx ty (t6 S.t x) (t6 S.t y) r ck om S.ent=some (out,lg))(hob:∀p∈out.obl,p):U5 cx.P Γ ι S grp ob out a w:=by
 unfold b33 at hp;obtain ⟨o,l1,l2,hd1,hp',_⟩:=j7.bind_some hp;clear hp;simp only at hp';cases hnew:o.new with
 | some _=>rw [hnew] at hp';cases hp'
 | none =>
 rw [hnew] at hp';cases hrev:o.upd.reverse with
 | nil=>rw [hrev] at hp';cases hp'
 | cons u us =>
 rw [hrev] at hp';obtain ⟨⟨g,j⟩,e⟩:=u;cases e<;>try (cases hp';done)
 rename_i b t sz n rows;simp only at hp';obtain ⟨e0,l3,l4,hrd,hp'',_⟩:=j7.bind_some hp';have he0:=(j7.rd_some hrd).1;simp only at he0;have:=j7.pure_some hp'';injection this with h2 h3;subst h2;have hnr:H9 rows:=hob _ (by simp);obtain ⟨nx,c,w',F',ι',hrun,hnx,hrel⟩:=d4R h (grp:=grp) ho hd hd1 (fun p hp=>hob p (by simp [hp]));refine ⟨nx,c,w',F',ι',hrun,hnx,?_⟩;have hu:o.upd=us.reverse++[((g,j),.deep b t sz n rows)]:=by
  have:=congrArg List.reverse hrev;simpa using this
 have happ:S.apply grp ob.dst o={S.upds o.upd with t:=T1 S.t ob.dst o.v}:=by
  unfold St.apply;rw [hnew];simp only [St.upds_t]
 rw [happ] at hrel;have hent:({S.upds o.upd with t:=T1 S.t ob.dst o.v}:St).ent g j=some (.deep b t sz n rows):=by
  show (S.upds o.upd).ent g j=_
  rw [hu,St.upds_append];obtain ⟨e1,he1⟩:=c0U (us:=us.reverse) he0;show ((S.upds us.reverse).setE g j _).ent g j=_
  rw [P9 he1];simp
 have hs:=hrel.shut hent hnr;rw [e5k] at hs;unfold St.apply;simp only [St.upds_append,St.upds_t];exact hs
def b2e(cx:Cx)(grp ty len:Nat)(parts:List (Nat×V))(ck om:List (Option Nat)):j7 B3 :=
 match cx.T ty with
 | some ti=>match ti.sl with
  | some e=>match cx.T e with
   | some ei=>match parts with
    | [(0,x)]=>match x.cells with
     | some cs=>j7.bind (a1P ck om cs) fun f =>
      if len=1/\cs.length=ei.size/\ei.zero.length=ei.size/\0<ei.size/\ei.size<=16777216/\a3F f.ks=true/\f.ls.isEmpty=true then
       j7.pure {v:=.own grp 0 ei.size 0 1,new:=some [.deep false e ei.size 1 [f.v]],upd:=G0 f.ks,obl:=f.obl}
      else j7.no
     | none=>j7.no
    | [] =>
     if len=0/\ei.zero.length=ei.size/\0<ei.size/\ei.size<=16777216 then
      j7.pure {v:=.own grp 0 ei.size 0 0,new:=some [.deep false e ei.size 0 []]}
     else j7.no
    | _=>j7.no
   | none=>j7.no
  | none=>j7.no
 | none=>j7.no
theorem d7u{u:Value}{ds:Array Value}{sz:Nat}(hu:u.cells.size=sz)(hd:ds.size=sz):∃es:Array Value,Instr.fill (fun i=>some (i*sz,sz)) ds [(0,u)]=some es/\es.toList=u.cells.toList:=by
 have hout:=c4u u.cells.toList 0 (0*sz) ds (by simp only [Array.length_toList];omega);refine ⟨u.cells.toList.zipIdx.foldl (fun (cs:Array Value) (x:Value×Nat)=>cs.setIfInBounds (0*sz+x.2) x.1) ds,?_,?_⟩
 ·have hcond':(u.cells.size≠sz||0*sz+u.cells.size>ds.size)=false:=by
   simp [hu];omega
  simp only [Instr.fill,hcond'];simp only [f6J,if_false];congr 1
  rw [<-Array.foldl_toList,Array.toList_zipIdx]
 ·rw [hout,Nat.zero_mul,f6X,d15];simp only [Array.length_toList];omega
theorem d9x(h:u0 Γ F ι S a w){grp:Nat}(hg:grp<S.h.length)(hn:¬S.D grp){ob:Oper}{ty len:Nat}{parts:Array (Nat×Operand)}{ck om:List (Option Nat)}(ho:ob.op=.buildSlice ty len parts){out:B3}{lg:List (Nat×Nat)}(hp:b2e cx grp ty len (parts.toList.map fun (i,x)=>(i,t6 S.t x)) ck om S.ent=some (out,lg))(hob:∀p∈out.obl,p):U5 cx.P Γ ι S grp ob out a w:=by
 unfold b2e at hp;cases hti:cx.T ty with
 | none=>rw [hti] at hp;cases hp
 | some ti =>
 rw [hti] at hp;simp only at hp;cases hsl:ti.sl with
 | none=>rw [hsl] at hp;cases hp
 | some e =>
 rw [hsl] at hp;simp only at hp;cases hei:cx.T e with
 | none=>rw [hei] at hp;cases hp
 | some ei =>
 rw [hei] at hp;simp only at hp;have hrel:=c4C h.tmps parts.toList;generalize hpl:(parts.toList.map fun (i,x)=>(i,t6 S.t x))=pl at hp hrel;generalize hql:(parts.toList.map fun (i,x)=>(i,a.eval x))=ql at hrel;cases hrel with
 | nil =>
  simp only at hp;split at hp<;>try (cases hp;done)
  rename_i hcond;obtain ⟨rfl,hc2,hc3,hc4⟩:=hcond;have:=j7.pure_some hp;injection this with h3 h4;subst h3;obtain ⟨ti',d,z,htf⟩:=cx.tf hti;obtain ⟨ti2,d',z',hef⟩:=cx.tf hei;obtain rfl:=htf.isSl hsl;have hmd:(madeCells z'.cells (0*ei.size)) = #[]:=by simp [madeCells]
  have hrun:(execOp a.eval ob).run cx.P w=.ok (.value (.slice (some ⟨w.heap.size,0,none⟩) 0 0)) (w.alloc (.cells #[] e)):=by
   have:=c0p (w:=w) (len:=0) htf rfl hef (by omega) (qs:=parts.map fun (i,x)=>(i,a.eval x)) (es := #[]) (by rw [Array.toList_map,hql,hmd];rfl);simp [execOp,ho,this]
  have hgr:=a5n w (.cells #[] e);have hown:(w.alloc (.cells #[] e)).ownsRow 0 e ei.size (.slice (some ⟨w.heap.size,0,none⟩) 0 0) 0 [] :=
   ⟨by simp,.inr ⟨w.heap.size,0,#[],rfl,f7f _,a7A w _,f5K _,by simp,by simp,by simp⟩⟩
  obtain ⟨r1,r2⟩:=h.layDeep hg hn hgr (fun k q=>by cases q) (rows:=[]) (sv:=.slice (some ⟨w.heap.size,0,none⟩) 0 0) hown (show BL w F [].flatten [] [] from .nil) rfl (by simp) (by intro k hk;simp [B0] at hk;exact .inr (by omega)) (by simp) .nil;exact ⟨_,_,_,F,L9 ι grp (.slice (some ⟨w.heap.size,0,none⟩) 0 0),hrun,.inl rfl,r1.put ob.dst (.cell r2)⟩
 | @cons p q pl ql hpq ht =>
 obtain ⟨i,x⟩:=p;obtain ⟨i',u⟩:=q;obtain ⟨hii,hxu⟩:=hpq;simp only at hii hxu;subst hii;cases ht with
 | cons _ _=>cases i<;>cases hp
 | nil =>
 cases i with
 | succ i=>cases hp
 | zero =>
 simp only at hp;cases hcs:x.cells with
 | none=>rw [hcs] at hp;cases hp
 | some cs =>
 rw [hcs] at hp;obtain ⟨f,l1,l2,hf,hp',_⟩:=j7.bind_some hp;clear hp;split at hp'<;>try (cases hp';done)
 rename_i hcond;obtain ⟨rfl,hc1,hc2,hc3,hc4,hc5,hc6⟩:=hcond;have:=j7.pure_some hp';injection this with h3 h4;subst h3;obtain ⟨ti',d,z,htf⟩:=cx.tf hti;obtain ⟨ti2,d',z',hef⟩:=cx.tf hei;obtain rfl:=htf.isSl hsl;have hrc:=hxu.cells hcs;obtain ⟨fp,hbl,hfps,hh⟩:=b2v (F1:=F) h (fun _ x=>x) hrc hf hob (by rw [List.isEmpty_iff.1 hc6];intro id hid;cases hid);have hul:u.cells.size=ei.size:=by rw [<-hc1,hrc.length];simp
 have hzs:z'.cells.size=ei.size:=by rw [<-hc2,<-hef.zeros];simp
 have hmd:(madeCells z'.cells (1*ei.size)).size=ei.size:=by simp [madeCells]
 obtain ⟨es,hfill,hes⟩:=d7u (u:=u) (ds:=madeCells z'.cells (1*ei.size)) hul hmd;have hel:es.size=1*ei.size:=by
  have:=congrArg List.length hes;simp only [Array.length_toList] at this;omega
 have hrun:(execOp a.eval ob).run cx.P w=.ok (.value (.slice (some ⟨w.heap.size,0,none⟩) 1 1)) (w.alloc (.cells es e)):=by
  have:=c0p (w:=w) (len:=1) htf rfl hef (by omega) (qs:=parts.map fun (i,x)=>(i,a.eval x)) (es:=es) (by rw [Array.toList_map,hql];exact hfill);simp [execOp,ho,this]
 have hgr:=a5n w (.cells es e);have hown:(w.alloc (.cells es e)).ownsRow 0 e ei.size (.slice (some ⟨w.heap.size,0,none⟩) 1 1) 1 u.cells.toList:=by
  refine ⟨by simp only [Array.length_toList];omega,.inr ⟨w.heap.size,1,es,rfl,f7f _,a7A w _,f5K _,by unfold maxLen;omega,hel,?_⟩⟩;rw [hes,f6g (by simp only [Array.length_toList];omega)]
 have hkl:=h.killsR (fun id hid=>(hfps.live id hid).imp fun _ x=>x.1);have hnd:=M3.nodup h hfps (a49 hc5);have hgk:grp<(S.upds (G0 f.ks)).h.length:=by rw [St.upds_len];exact hg
 have hnk:¬(S.upds (G0 f.ks)).D grp:=fun q=>hn ((a0y S grp _).1 q)
 obtain ⟨r1,r2⟩:=hkl.layDeep hgk hnk hgr (fun k q=>by cases q) (rows:=[f.v]) (sv:=.slice (some ⟨w.heap.size,0,none⟩) 1 1) hown (by simpa using hbl) rfl (by
   intro r hr;rw [f5y.1 hr,hbl.len];simp only [Array.length_toList];exact hul) (by intro k hk;simp [B0] at hk;exact .inr (by omega)) (by
   intro k hk;obtain ⟨id,hid,e1,he1,hl1,hk1⟩:=hfps.mem hk;obtain ⟨x1,x2⟩:=h.sep _ _ _ k he1 hl1 hk1;refine ⟨x1,x2,?_,by simp⟩;intro g' j' e' he' hl' hk';rcases b0m _ he' with ⟨_,rfl⟩|⟨hni,he2⟩
   ·cases hl'
   ·obtain ⟨y1,y2⟩:=h.inj _ _ _ _ _ _ k he2 he1 hl' hl1 hk' hk1;exact hni (by rw [y1,y2];exact hid)) hnd
 exact ⟨_,_,_,F,L9 ι grp (.slice (some ⟨w.heap.size,0,none⟩) 1 1),hrun,.inl rfl,r1.put ob.dst (.cell r2)⟩
def b1T(cx:Cx)(grp ty:Nat)(s x:V):j7 B3 :=
 match cx.T ty with
 | some ti=>match ti.sl with
  | some e=>match cx.T e with
   | some ei=>match x with
    | .own g2 j2 sz2 0 m=>j7.bind (j7.rd g2 j2) fun e2=>match e2 with
     | .deep false t2 sz2' m' rows2 =>
      if t2=e/\sz2=ei.size/\sz2'=ei.size/\0<ei.size/\0<ei.bytes/\ei.zero.length=ei.size/\0<m' then
       match s with
       | .nil=>j7.pure {v:=.own grp 0 ei.size 0 m',new:=some [.deep false e ei.size m' rows2],upd:=G0 [(g2,j2)],obl:=[m=m',m'*ei.bytes<=140737488355328]}
       | .own g j sz 0 n=>j7.bind (j7.rd g j) fun e1=>match e1 with
        | .deep false t sz' n' rows =>
         if t=e/\sz=ei.size/\sz'=ei.size/\a3F [(g,j),(g2,j2)]=true then
          j7.pure {v:=.own grp 0 ei.size 0 (n'+m'),new:=some [.deep false e ei.size (n'+m') (rows++rows2)],upd:=G0 [(g,j),(g2,j2)],obl:=[n=n',(n'+m')*ei.bytes<=140737488355328,m=m']}
         else j7.no
        | _=>j7.no
       | _=>j7.no
      else j7.no
     | _=>j7.no
    | _=>j7.no
   | none=>j7.no
  | none=>j7.no
 | none=>j7.no
theorem c4g{g j sz n e sz':Nat}{c:Value}{flat:List Value}(hs:RV w F S.D ι (.own g j sz 0 n) c)(hown:w.ownsRow 0 e sz' (ι g j) n flat):c=ι g j:=by
 obtain ⟨hD,⟨b,nn,cap,hι,hlo,hb0,hb1,hc⟩|⟨hl0',_⟩⟩:=hs.inv_own;case inr=>omega
 rcases hown.2 with ⟨hv,hz⟩|⟨g0,cap0,cur,hv,_⟩
 ·rw [hι] at hv;injection hv with e1 e2 e3;subst e1;subst e2;subst e3;subst hz;rw [hc,hι];simp
 ·rw [hι] at hv;injection hv with e1 e2 e3;subst e1;subst e2;subst e3;rw [hc,hι];by_cases q:cap=0
  ·simp [q]
  ·simp [q,Addr.add]
theorem c7r{P:Program}{ty e:Nat}{ti ei:TI}{i i':TypeInfo}{d d':TypeDesc}{z z':Value}(htf:TF P ty ti i d z)(hd:d=.slice e)(hef:TF P e ei i' d' z')(h0:0<ei.size)(hb0:0<ei.bytes)(hzl:ei.zero.length=ei.size){sv sv2:Value}{n m:Nat}{flat flat2:List Value}(hown:w.ownsRow 0 e ei.size sv n flat)(hown2:w.ownsRow 0 e ei.size sv2 m flat2)(hm:0<m)(hone:∀u∈flat2,u.oneCell'=true)(hb:(n+m)*ei.bytes<=140737488355328)(rt:Nat) :
  ∃v' w',(Builtin.append_ #[ty,ty] rt #[sv,sv2]).run P w=.ok v' w'/\w'.ownsRow 0 e ei.size v' (n+m) (flat++flat2)/\w.grownBy w' sv.ownBlock/\(v'.ownBlock=sv.ownBlock\/v'.ownBlock=some w.heap.size):=by
 subst hd;have hzs:z'.cells.size=ei.size:=by rw [<-hzl,<-hef.zeros];simp
 have hm63:n+m<=maxLen:=by
  have:n+m<=140737488355328:=Nat.le_trans (f6T _ hb0) hb;unfold maxLen;omega
 rcases hown2.2 with ⟨_,q⟩|⟨g2,cap2,cur2,rfl,_,hg2,hnc2,_,hcs2,ht2⟩
 ·omega
 ·have hseg:O4 w g2 0 flat2:=by
   rw [<-ht2];have:=(a6j hg2 0).take (m*ei.size);simpa using this
  obtain ⟨v',w',h1,h2,h3,_,h5⟩:=run_append_own_at (P:=P) w 0 ty rt e i' z' ei.size ei.bytes htf.und hef.info hef.zero hef.size hef.bytes hzs h0 sv n flat hown ⟨g2,0,none⟩ m cap2 flat2 hown2.1 (by
   intro j u hu;rw [a24];exact hseg j u hu) hone hm63 hb (f7f _)
  exact ⟨v',w',h1,h2,h3,h5⟩
theorem BL.ones:∀{vs:List V} {cs:List Value} {f:List Nat},BL w F vs cs f->∀u∈cs,u.oneCell'=true
 | _,_,_,.cons v c f vs cs fs h t,u,hu=>by
  rcases f5B.1 hu with rfl|hu
  ·exact h.one
  ·exact BL.ones t u hu
theorem BL.app:∀{vs vs':List V} {cs cs':List Value} {f f':List Nat},BL w F vs cs f->BL w F vs' cs' f'->BL w F (vs++vs') (cs++cs') (f++f')
 | _,_,_,_,_,_,.nil,k=>k
 | _,_,_,_,_,_,.cons v c f vs cs fs h t,k=>by
  rw [f5J];exact .cons v c f _ _ _ h (BL.app t k)
theorem d7d(h:u0 Γ F ι S a w){grp:Nat}(hg:grp<S.h.length)(hn:¬S.D grp){ob:Oper}{ty:Nat}{s x:Operand}(ho:ob.op=.call {callee:=.builtin .append,args := #[s,x],argTypes := #[ty,ty]}){out:B3}{lg:List (Nat×Nat)}(hp:b1T cx grp ty (t6 S.t s) (t6 S.t x) S.ent=some (out,lg))(hob:∀p∈out.obl,p):U5 cx.P Γ ι S grp ob out a w:=by
 have hs:=D5 h.tmps s;have hx:=D5 h.tmps x;unfold b1T at hp;cases hti:cx.T ty with
 | none=>rw [hti] at hp;cases hp
 | some ti =>
 rw [hti] at hp;simp only at hp;cases hsl:ti.sl with
 | none=>rw [hsl] at hp;cases hp
 | some e =>
 rw [hsl] at hp;simp only at hp;cases hei:cx.T e with
 | none=>rw [hei] at hp;cases hp
 | some ei =>
 rw [hei] at hp;simp only at hp;obtain ⟨i,d,z,htf⟩:=cx.tf hti;obtain ⟨i',d',z',hef⟩:=cx.tf hei;have hd:=htf.isSl hsl;generalize t6 S.t s=sv at hp hs;generalize t6 S.t x=xv at hp hx;cases xv<;>try (cases hp;done)
 rename_i g2 j2 sz2 lo2 m;cases lo2 with
 | succ q=>cases hp
 | zero =>
 simp only at hp;obtain ⟨e2,l1,l2,hrd2,hp',_⟩:=j7.bind_some hp;clear hp;have he2:=(j7.rd_some hrd2).1;simp only at he2;cases e2<;>try (cases hp';done)
 rename_i o2 t2 sz2' m' rows2;cases o2 with
 | true=>cases hp'
 | false =>
 simp only at hp';split at hp'<;>try (cases hp';done)
 rename_i hcond;obtain ⟨rfl,rfl,rfl,hc3,hc4,hc5,hc6⟩:=hcond;obtain ⟨flat2,fs2,hown2,hkl2,hlen2,hl2,hnd2,hnr2⟩:=h.ents g2 j2 _ he2;have hbl2:=hkl2.toBL (hnr2 rfl).flatB;have hin2:∀k∈E0 (ι g2 j2)++fs2,EB w (.deep false t2 ei.size m' rows2) (ι g2 j2) k:=fun k hk=>(EB.deep_iff hown2 hkl2).2 hk
 cases sv<;>try (cases hp';done)
 case nil =>
  have:=j7.pure_some hp';injection this with h3 h4;subst h3;obtain hcs:=hs.inv_nil;have hmm:m=m':=hob _ (by simp);subst hmm;have hb:m*ei.bytes<=140737488355328:=hob _ (by simp);obtain ⟨v',w',hr,hown,hgr,hat⟩:=c7r htf hd hef hc3 hc4 hc5 (World.ownsRow_nil w 0 t2 ei.size) hown2 hc6 hbl2.ones (by simpa using hb) ob.type;have hxc:=c4g hx hown2;have hrun:(execOp a.eval ob).run cx.P w=.ok (.value v') w':=by
   simp [execOp,ho,resolve,invoke,builtin,hcs,hxc,hr]
  have hkl:=h.killsR (ks:=[(g2,j2)]) (fun id hid=>by rw [f5y.1 hid];exact ⟨_,he2⟩);have hgk:grp<(S.upds (G0 [(g2,j2)])).h.length:=by rw [St.upds_len];exact hg
  have hnk:¬(S.upds (G0 [(g2,j2)])).D grp:=fun q=>hn ((a0y S grp _).1 q)
  simp only [f6x,f6o] at hown;obtain ⟨r1,r2⟩:=hkl.layDeep hgk hnk hgr (fun k q=>by cases q) hown hbl2 hlen2 hl2 (by
   intro k hk;rw [<-b0Q hown] at hk;rcases hat with q|q
   ·rw [q] at hk;cases hk
   ·rw [q] at hk;injection hk with hk;exact .inr (by omega)) (by
   intro k hk;have hk1:=hin2 k (List.mem_append.2 (.inr hk));obtain ⟨x1,x2⟩:=h.sep _ _ _ k he2 rfl hk1;refine ⟨x1,x2,?_,by intro q;cases q⟩;intro g' j' e' he' hl' hk';rcases b0m _ he' with ⟨_,rfl⟩|⟨hni,he3⟩
   ·cases hl'
   ·obtain ⟨y1,y2⟩:=h.inj _ _ _ _ _ _ k he3 he2 hl' rfl hk' hk1;exact hni (by rw [y1,y2];simp)) (f5C.1 hnd2).2.1
  exact ⟨_,_,_,F,L9 ι grp v',hrun,.inl rfl,r1.put ob.dst (.cell r2)⟩
 case own g j sz lo n =>
  cases lo with
  | succ q=>cases hp'
  | zero =>
  simp only at hp';obtain ⟨e1,l3,l4,hrd1,hp'',_⟩:=j7.bind_some hp';clear hp';have he1:=(j7.rd_some hrd1).1;simp only at he1;cases e1<;>try (cases hp'';done)
  rename_i o1 t1 sz1 n' rows;cases o1 with
  | true=>cases hp''
  | false =>
  simp only at hp'';split at hp''<;>try (cases hp'';done)
  rename_i hcond;obtain ⟨rfl,rfl,rfl,hnod⟩:=hcond;have:=j7.pure_some hp'';injection this with h3 h4;subst h3;have hnn:n=n':=hob _ (by simp);subst hnn;have hb:(n+m')*ei.bytes<=140737488355328:=hob _ (by simp);have hmm:m=m':=hob _ (by simp);subst hmm;obtain ⟨flat1,fs1,hown1,hkl1,hlen1,hl1,hnd1,hnr1⟩:=h.ents g j _ he1;have hbl1:=hkl1.toBL (hnr1 rfl).flatB;have hin1:∀k∈E0 (ι g j)++fs1,EB w (.deep false t1 ei.size n rows) (ι g j) k:=fun k hk=>(EB.deep_iff hown1 hkl1).2 hk
  have hne:¬(g=g2/\j=j2):=by
   have:=a49 hnod;rw [f6N] at this;intro q;exact this.1 (by rw [q.1,q.2];simp)
  obtain ⟨v',w',hr,hown,hgr,hat⟩:=c7r htf hd hef hc3 hc4 hc5 hown1 hown2 hc6 hbl2.ones hb ob.type;have hxc:=c4g hx hown2;have hsc:=c4g hs hown1;have hrun:(execOp a.eval ob).run cx.P w=.ok (.value v') w':=by
   simp [execOp,ho,resolve,invoke,builtin,hsc,hxc,hr]
  have hkl:=h.killsR (ks:=[(g,j),(g2,j2)]) (fun id hid=>by
   rcases f5B.1 hid with rfl|hid
   ·exact ⟨_,he1⟩
   ·rw [f5y.1 hid];exact ⟨_,he2⟩)
  have hgk:grp<(S.upds (G0 [(g,j),(g2,j2)])).h.length:=by rw [St.upds_len];exact hg
  have hnk:¬(S.upds (G0 [(g,j),(g2,j2)])).D grp:=fun q=>hn ((a0y S grp _).1 q)
  have hob1:∀k,(ι g j).ownBlock=some k->k∈E0 (ι g j):=fun k hk=>R2.2 (by rw [<-b0Q hown1];exact hk)
  have free1:∀k∈E0 (ι g j)++fs1,∀g' j' e',(S.upds (G0 [(g,j),(g2,j2)])).ent g' j'=some e'->e'.live=true->¬EB w e' (ι g' j') k:=by
   intro k hk g' j' e' he' hl' hk';rcases b0m _ he' with ⟨_,rfl⟩|⟨hni,he3⟩
   ·cases hl'
   ·obtain ⟨y1,y2⟩:=h.inj _ _ _ _ _ _ k he3 he1 hl' rfl hk' (hin1 k hk);exact hni (by rw [y1,y2];simp)
  have free2:∀k∈E0 (ι g2 j2)++fs2,∀g' j' e',(S.upds (G0 [(g,j),(g2,j2)])).ent g' j'=some e'->e'.live=true->¬EB w e' (ι g' j') k:=by
   intro k hk g' j' e' he' hl' hk';rcases b0m _ he' with ⟨_,rfl⟩|⟨hni,he3⟩
   ·cases hl'
   ·obtain ⟨y1,y2⟩:=h.inj _ _ _ _ _ _ k he3 he2 hl' rfl hk' (hin2 k hk);exact hni (by rw [y1,y2];simp)
  have hdis:∀k,k∈E0 (ι g j)++fs1->k∈E0 (ι g2 j2)++fs2->False:=by
   intro k q1 q2;obtain ⟨y1,y2⟩:=h.inj _ _ _ _ _ _ k he1 he2 rfl rfl (hin1 k q1) (hin2 k q2);exact hne ⟨y1,y2⟩
  obtain ⟨r1,r2⟩:=hkl.layDeep hgk hnk hgr (fun k q=>by
   have hk:k∈E0 (ι g j)++fs1:=List.mem_append.2 (.inl (hob1 k q));obtain ⟨x1,x2⟩:=h.sep _ _ _ k he1 rfl (hin1 k hk);exact ⟨x1,x2,free1 k hk⟩) (rows:=rows++rows2) hown (by rw [f7D];exact hbl1.app hbl2) (by rw [f5D,hlen1,hlen2]) (by
   intro r hr';rcases List.mem_append.1 hr' with q|q
   ·exact hl1 r q
   ·exact hl2 r q) (by
   intro k hk;rw [<-b0Q hown] at hk;rcases hat with q|q
   ·rw [q] at hk;exact .inl hk
   ·rw [q] at hk;injection hk with hk;exact .inr (by omega)) (by
   intro k hk;rcases List.mem_append.1 hk with q|q
   ·have hk1:k∈E0 (ι g j)++fs1:=List.mem_append.2 (.inr q);obtain ⟨x1,x2⟩:=h.sep _ _ _ k he1 rfl (hin1 k hk1);exact ⟨x1,x2,free1 k hk1,fun z=>(f5C.1 hnd1).2.2 k (hob1 k z) k q rfl⟩
   ·have hk2:k∈E0 (ι g2 j2)++fs2:=List.mem_append.2 (.inr q);obtain ⟨x1,x2⟩:=h.sep _ _ _ k he2 rfl (hin2 k hk2);exact ⟨x1,x2,free2 k hk2,fun z=>hdis k (List.mem_append.2 (.inl (hob1 k z))) hk2⟩) (by
   rw [f5C];exact ⟨(f5C.1 hnd1).2.1,(f5C.1 hnd2).2.1,fun k q k' q' z=>by
    subst z;exact hdis k (List.mem_append.2 (.inr q)) (List.mem_append.2 (.inr q'))⟩)
  exact ⟨_,_,_,F,L9 ι grp v',hrun,.inl rfl,r1.put ob.dst (.cell r2)⟩
end
structure K7 where
 a:O5:=.none
 d:Option Bool:=none
 v:Option V:=none
 e:Option s6:=none
def c0v(d:Option Bool)(o:B3):Option B3 :=
 match d with
 | some d=>match o.v with
  | .b x=>some {o with v:=.b d,obl:=(x=d)::o.obl}
  | _=>none
 | none=>some o
def b5X(v:Option V)(o:B3):Option B3 :=
 match v with
 | some v=>some {o with v:=v,obl:=(o.v=v)::o.obl}
 | none=>some o
def b1A(e:s6):List ((Nat×Nat)×s6)->Option (List ((Nat×Nat)×s6)×Prop)
 | []=>none
 | [u]=>some ([(u.1,e)],u.2=e)
 | u::us=>match b1A e us with
  | some (us',p)=>some (u::us',p)
  | none=>none
def b5z(e:Option s6)(o:B3):Option B3 :=
 match e with
 | some e=>match o.new with
  | some [e0]=>some {o with new:=some [e],obl:=(e0=e)::o.obl}
  | some _=>none
  | none=>match b1A e o.upd with
   | some (us,p)=>some {o with upd:=us,obl:=p::o.obl}
   | none=>none
 | none=>some o
def c3c(T:K7)(o:B3):Option B3 :=
 match b5z T.e o with
 | some o1=>match b5X T.v o1 with
  | some o2=>c0v T.d o2
  | none=>none
 | none=>none
def opM(cx:Cx)(grp:Nat)(ob:Oper)(t:List V)(A:O5):j7 B3 :=
 match ob.op with
 | .alloc e=>j7.lift (c24 cx grp e)
 | .box e x=>j7.lift (c4D cx grp e (t6 t x))
 | .buildSlice ty len parts=>match A with
  | .dck ck om=>b2e cx grp ty len (parts.toList.map fun (i,x)=>(i,t6 t x)) ck om
  | A=>b3g cx grp ty len (parts.toList.map fun (i,x)=>(i,t6 t x)) A
 | .makeSlice ty l c=>match A with
  | .dck ck om=>b4A cx grp ty (t6 t l) (t6 t c) ck om
  | A=>j7.lift (c5g cx grp ty (t6 t l) (t6 t c) (e5G A))
 | .load ty x=>match A with
  | .drow r=>b13 cx grp ty (t6 t x) r
  | .prow r=>b3f cx ty (t6 t x) r
  | .dtak r=>b4z cx grp ty (t6 t x) r
  | A=>b4e cx ty (t6 t x) A
 | .store ty x y=>match ob.dst with
  | none=>match A with
   | .dst r ck om=>b0I cx ty (t6 t x) (t6 t y) r ck om
   | .dsc r ck om=>b33 cx ty (t6 t x) (t6 t y) r ck om
   | A=>b1r cx ty (t6 t x) (t6 t y) A
  | some _=>j7.no
 | .makeMap ty none=>j7.lift (c5J cx grp ty)
 | .lookup ty x ix false=>b1x cx ty (t6 t x) (t6 t ix)
 | .mapUpdate ty x ix y=>match ob.dst with
  | none=>b1M cx ty (t6 t x) (t6 t ix) (t6 t y)
  | some _=>j7.no
 | .call c=>match c.callee,c.args.toList,c.argTypes.toList with
  | .builtin .append,[s,x],[ty,ty']=>if ty=ty' then (match A with
   | .dck _ _=>b1T cx grp ty (t6 t s) (t6 t x)
   | .part=>a91 true cx grp ty (t6 t s) (t6 t x)
   | _=>a91 false cx grp ty (t6 t s) (t6 t x)) else j7.no
  | .builtin .copy,[s,x],[ty,_]=>b4H cx ty (t6 t s) (t6 t x)
  | .value fop,args,_=>match t6 t fop with
   | .fn f=>b2s cx.P grp f (args.map (t6 t)) A
   | _=>j7.no
  | _,_,_=>j7.lift ((S0 cx ob.op t A).map fun q=>{v:=q.1,obl:=q.2})
 | _=>j7.lift ((S0 cx ob.op t A).map fun q=>{v:=q.1,obl:=q.2})
section
variable {cx:Cx} {Γ:O8} {F:Nat->Prop} {ι:Nat->Nat->Value} {S:St} {a:Act} {w:World}
def c4d(P:Program)(Γ:O8)(S':St)(ob:Oper)(a:Act)(w:World):Prop :=
 (∃nx c w' F' ι',(execOp a.eval ob).run P w=.ok nx w'/\(nx=.value c\/(nx=.skip/\c=undef))/\u0 Γ F' ι' S' (a.put ob.dst c) w')\/
 (∃f args,(execOp a.eval ob).run P w=.ok (.enter f args) w/\Calls P f args w fun e w' => ∃c F' ι',e=.returned c/\u0 Γ F' ι' S' (a.put ob.dst c) w')
theorem e1f(h:u0 Γ F ι S a w){grp:Nat}(hg:grp<S.h.length)(hn:¬S.D grp){ob:Oper}{A:O5}{out:B3}{lg:List (Nat×Nat)}(hp:opM cx grp ob S.t A S.ent=some (out,lg))(hob:∀p∈out.obl,p):c4d cx.P Γ (S.apply grp ob.dst out) ob a w:=by
 have pure:∀{op:Op} {out:B3} {lg},ob.op=op->j7.lift ((S0 cx op S.t A).map fun q=>({v:=q.1,obl:=q.2}:B3)) S.ent=some (out,lg)->(∀p∈out.obl,p)->c4d cx.P Γ (S.apply grp ob.dst out) ob a w:=by
  intro op out lg hop hp hob;subst hop;obtain ⟨h1,_⟩:=j7.lift_some hp;obtain ⟨q,hq,he⟩:=f6U.1 h1;simp only at he;subst he;obtain ⟨c,hr,hv⟩:=f3x h.tmps hq hob;exact .inl ⟨_,c,w,F,ι,hr,.inl rfl,by rw [a6o];exact h.put ob.dst hv⟩
 unfold opM at hp;cases ho:ob.op;case alloc e =>
  rw [ho] at hp;exact .inl (f4a h hg hn ho (j7.lift_some hp).1 hob)
 case box e x =>
  rw [ho] at hp;exact .inl (e6p h hg hn ho (j7.lift_some hp).1)
 case buildSlice ty len parts =>
  rw [ho] at hp;cases A;case dck ck om=>exact .inl (d9x h hg hn ho hp hob)
  all_goals exact .inl (f0m h hg hn ho hp hob)
 case makeSlice ty l c =>
  rw [ho] at hp;cases A;case dck ck om=>exact .inl (e4H h hg hn ho hp hob)
  all_goals exact .inl (f3y h hg hn ho (j7.lift_some hp).1 hob)
 case load ty x =>
  rw [ho] at hp;cases A;case drow r=>exact .inl (d7Z h hg hn ho hp hob)
  case prow r=>exact .inl (e81 h ho hp hob)
  case dtak r=>exact .inl (f4l h hg hn ho hp hob)
  all_goals exact .inl (e7X h ho hp hob)
 case store ty x y =>
  rw [ho] at hp;cases hd:ob.dst with
  | some d=>rw [hd] at hp;cases hp
  | none =>
   rw [hd] at hp;have:U5 cx.P Γ ι S grp ob out a w:=by
    cases A;case dst r ck om=>exact d4R h (grp:=grp) ho hd hp hob
    case dsc r ck om=>exact e7q h (grp:=grp) ho hd hp hob
    all_goals exact e8n h (grp:=grp) ho hd hp hob
   rw [<-hd];exact .inl this
 case makeMap ty r =>
  rw [ho] at hp;cases r with
  | none=>exact .inl (d8D h hg hn ho (j7.lift_some hp).1)
  | some r=>exact pure ho hp hob
 case lookup ty x ix ok =>
  rw [ho] at hp;cases ok with
  | false=>exact .inl (d7A h ho hp)
  | true=>exact pure ho hp hob
 case mapUpdate ty x ix y =>
  rw [ho] at hp;cases hd:ob.dst with
  | some d=>rw [hd] at hp;cases hp
  | none =>
   rw [hd] at hp;have:U5 cx.P Γ ι S grp ob out a w:=e41 h (grp:=grp) ho hd hp;rw [<-hd];exact .inl this
 case call c =>
  rw [ho] at hp;obtain ⟨callee,args,tys⟩:=c;simp only at hp;cases callee with
  | invoke x m=>exact pure ho hp hob
  | value fop =>
   simp only at hp;generalize hfe:t6 S.t fop=fv at hp;cases fv<;>try (cases hp;done)
   rename_i f;obtain ⟨h1,h2⟩:=f3n h hg hn ho hfe hp hob;exact .inr ⟨f,_,h1,h2⟩
  | builtin b =>
   cases b;case append =>
    generalize hargs:args.toList=al at hp;generalize htys:tys.toList=tl at hp;rcases al with _|⟨s,_|⟨x,_|⟨y,al⟩⟩⟩<;>rcases tl with _|⟨ty,_|⟨ty',_|⟨ty3,tl⟩⟩⟩<;>try exact pure ho hp hob
    have ha:args = #[s,x]:=by simpa using congrArg f7r hargs
    have hy:tys = #[ty,ty']:=by simpa using congrArg f7r htys
    subst ha;subst hy;simp only at hp;by_cases q:ty=ty'
    ·subst q;rw [if_pos rfl] at hp;cases A;case dck ck om=>exact .inl (d7d h hg hn ho hp hob)
     all_goals exact .inl (d6L (rt:=0) h hg hn ho hp hob)
    ·rw [if_neg q] at hp;cases hp
   case copy =>
    generalize hargs:args.toList=al at hp;generalize htys:tys.toList=tl at hp;rcases al with _|⟨s,_|⟨x,_|⟨y,al⟩⟩⟩<;>rcases tl with _|⟨ty,_|⟨ty',_|⟨ty3,tl⟩⟩⟩<;>try exact pure ho hp hob
    have ha:args = #[s,x]:=by simpa using congrArg f7r hargs
    have hy:tys = #[ty,ty']:=by simpa using congrArg f7r htys
    subst ha;subst hy;exact .inl (e2X h ho hp hob)
   all_goals exact pure ho hp hob
 all_goals
  rw [ho] at hp;exact pure ho hp hob
theorem d5Z{e:s6}:∀{us us':List ((Nat×Nat)×s6)} {p:Prop},b1A e us=some (us',p)->p->us'=us
 | [],_,_,h,_=>by cases h
 | [u],us',p,h,hp=>by
  unfold b1A at h;injection h with h;injection h with h1 h2;subst h1;subst h2;have:u.2=e:=hp;subst this;rfl
 | u::u2::us,us',p,h,hp=>by
  unfold b1A at h;split at h<;>try (cases h;done)
  rename_i us1 p1 h1;injection h with h;injection h with h2 h3;subst h2;subst h3;rw [d5Z h1 hp]
theorem e6N{d:Option Bool}{o o':B3}(hd:c0v d o=some o')(hob:∀p∈o'.obl,p):(∀p∈o.obl,p)/\o'.new=o.new/\o'.upd=o.upd/\o'.v=o.v:=by
 unfold c0v at hd;split at hd
 ·split at hd<;>try (cases hd;done)
  rename_i d _ x hv;injection hd with hd;subst hd;have hx:x=d:=hob _ (by simp);exact ⟨fun p hp=>hob p (by simp [hp]),rfl,rfl,by simp [hv,hx]⟩
 ·injection hd with hd;subst hd;exact ⟨hob,rfl,rfl,rfl⟩
theorem f3O{v:Option V}{o o':B3}(hd:b5X v o=some o')(hob:∀p∈o'.obl,p):(∀p∈o.obl,p)/\o'.new=o.new/\o'.upd=o.upd/\o'.v=o.v:=by
 unfold b5X at hd;split at hd
 ·rename_i v;injection hd with hd;subst hd;have hx:o.v=v:=hob _ (by simp);exact ⟨fun p hp=>hob p (by simp [hp]),rfl,rfl,hx.symm⟩
 ·injection hd with hd;subst hd;exact ⟨hob,rfl,rfl,rfl⟩
theorem f3r{e:Option s6}{o o':B3}(hd:b5z e o=some o')(hob:∀p∈o'.obl,p):(∀p∈o.obl,p)/\o'.new=o.new/\o'.upd=o.upd/\o'.v=o.v:=by
 unfold b5z at hd;split at hd
 ·rename_i e;split at hd
  ·rename_i e0 hn;injection hd with hd;subst hd;have hx:e0=e:=hob _ (by simp);exact ⟨fun p hp=>hob p (by simp [hp]),by rw [hn,hx],rfl,rfl⟩
  ·cases hd
  ·split at hd<;>try (cases hd;done)
   rename_i us p h1;injection hd with hd;subst hd;have hx:p:=hob _ (by simp);exact ⟨fun p hp=>hob p (by simp [hp]),rfl,d5Z h1 hx,rfl⟩
 ·injection hd with hd;subst hd;exact ⟨hob,rfl,rfl,rfl⟩
theorem d7F{T:K7}{o o':B3}(hd:c3c T o=some o')(hob:∀p∈o'.obl,p):(∀p∈o.obl,p)/\o'.new=o.new/\o'.upd=o.upd/\o'.v=o.v:=by
 unfold c3c at hd;cases h1:b5z T.e o with
 | none=>rw [h1] at hd;cases hd
 | some o1 =>
 rw [h1] at hd;simp only at hd;cases h2:b5X T.v o1 with
 | none=>rw [h2] at hd;cases hd
 | some o2 =>
 rw [h2] at hd;obtain ⟨a1,a2,a3,a4⟩:=e6N hd hob;obtain ⟨b1,b2,b3,b4⟩:=f3O h2 a1;obtain ⟨c1,c2,c3,c4⟩:=f3r h1 b1;exact ⟨c1,a2.trans (b2.trans c2),a3.trans (b3.trans c3),a4.trans (b4.trans c4)⟩
def b0P(cx:Cx)(grp:Nat)(ob:Oper)(t:List V)(A:K7):j7 B3:=j7.bind (opM cx grp ob t A.a) fun o=>j7.lift (c3c A o)
theorem e6G{S:St}{grp:Nat}{dst:Option Nat}{o o':B3}(h1:o'.new=o.new)(h2:o'.upd=o.upd)(h3:o'.v=o.v):S.apply grp dst o'=S.apply grp dst o:=by
 unfold St.apply;rw [h1,h2,h3]
theorem e8g(h:u0 Γ F ι S a w){grp:Nat}(hg:grp<S.h.length)(hn:¬S.D grp){ob:Oper}{A:K7}{out:B3}{lg:List (Nat×Nat)}(hp:b0P cx grp ob S.t A S.ent=some (out,lg))(hob:∀p∈out.obl,p):c4d cx.P Γ (S.apply grp ob.dst out) ob a w:=by
 obtain ⟨o,l1,l2,h1,h2,_⟩:=j7.bind_some hp;obtain ⟨h3,_⟩:=j7.lift_some h2;simp only at h3;obtain ⟨h4,h5,h6,h7⟩:=d7F h3 hob;rw [e6G h5 h6 h7];exact e1f h hg hn h1 h4
def a6S(ops:Array Oper)(o:Oper)(t:List V):Option Bool :=
 match o.guard with
 | none=>some true
 | some (j,want)=>match (ops[j]?).bind (·.dst) with
  | some d=>match t[d]? with
   | some (.b x)=>some (x==want)
   | some (.tup [])=>some false
   | _=>none
  | none=>none
theorem d0u{ops:Array Oper}{o:Oper}{b:Bool}{D:Nat->Prop}{t:List V}(ht:x8 (RV w F D ι) t a.tmps.toList)(h:a6S ops o t=some b):Region.wanted o (yielded ops a.tmps)=b:=by
 unfold a6S at h;unfold Region.wanted;split at h
 ·rename_i hg;rw [hg];injection h
 ·rename_i j want hg;rw [hg];simp only;cases hd:(ops[j]?).bind (·.dst) with
  | none=>rw [hd] at h;cases h
  | some d =>
   rw [hd] at h;simp only at h;split at h<;>try (cases h;done)
   rename_i x hx;injection h with h;obtain ⟨c,hc,hv⟩:=ht.get hx;obtain rfl:=hv.inv_b;have:yielded ops a.tmps j=some x:=by
    unfold yielded;simp only [hd];rw [Array.getElem?_toList] at hc;simp [hc]
   rw [this,<-h];cases x<;>cases want<;>rfl
   ·rename_i hx;injection h with h;obtain ⟨c,hc,hv⟩:=ht.get hx;have hcc:c=undef:=by
     cases hv with
     | one v c hv=>cases hv with|cell v c hv=>cases hv with|fv v c hv=>cases hv
     | tup cs ds hv=>cases hv;rfl
    subst hcc;have:yielded ops a.tmps j=none:=by
     unfold yielded;simp only [hd];rw [Array.getElem?_toList] at hc;simp [hc,undef]
    rw [this,<-h];rfl
end
structure Y8 where
 rd:List (Nat×Nat)
 wr:List (Nat×Nat)
def a0c(cx:Cx)(ops:Array Oper)(base:Nat)(A:Nat->K7)(i:Nat)(S:St):Option (St×List Prop×Y8) :=
 match ops[i]? with
 | none=>none
 | some o=>match a6S ops o S.t with
  | some true=>match b0P cx (base+i) o S.t (A i) S.ent with
   | some (out,lg)=>some (S.apply (base+i) o.dst out,out.obl,⟨lg,out.upd.map (·.1)⟩)
   | none=>none
  | some false=>some ({S with t:=T1 S.t o.dst (.tup [])},[],⟨[],[]⟩)
  | none=>none
section
variable {cx:Cx} {Γ:O8} {F:Nat->Prop} {ι:Nat->Nat->Value} {S S':St} {a:Act} {w:World} {ops:Array Oper} {base:Nat} {A:Nat->K7}
theorem f3T{grp:Nat}{dst:Option Nat}{out:B3}{g:Nat}(h:(S.apply grp dst out).D g):S.D g\/g=grp:=by
 unfold St.apply at h;simp only at h;split at h
 ·exact .inl ((a0y S g _).1 h)
 ·rename_i new hnew;by_cases q:g=grp
  ·exact .inr q
  ·left
   obtain ⟨l,hl⟩:=h;simp only [St.lay,f5N (Ne.symm q)] at hl;exact (a0y S g _).1 ⟨l,hl⟩
theorem f2L{grp:Nat}{dst:Option Nat}{out:B3}:(S.apply grp dst out).h.length=S.h.length:=by
 unfold St.apply;simp only;split
 ·exact St.upds_len S _
 ·simp [St.lay,St.upds_len]
theorem d4t{i:Nat}{ps:List Prop}{ft:Y8}(h:a0c cx ops base A i S=some (S',ps,ft)):(∀g,S'.D g->S.D g\/g=base+i)/\S'.h.length=S.h.length:=by
 unfold a0c at h;split at h<;>try (cases h;done)
 split at h<;>try (cases h;done)
 ·split at h<;>try (cases h;done)
  injection h with h;injection h with h1 h2;subst h1;exact ⟨fun g x=>f3T x,f2L⟩
 ·injection h with h;injection h with h1 h2;subst h1;exact ⟨fun g x=>.inl x,rfl⟩
theorem d10{Q:Exit->Act->World->Prop}{K:Act->World->Prop}{i:Nat}{ps:List Prop}{ft:Y8}(h:u0 Γ F ι S a w)(hg:base+i<S.h.length)(hn:¬S.D (base+i))(hs:a0c cx ops base A i S=some (S',ps,ft))(hob:∀p∈ps,p)(hK:∀a' w' F' ι',u0 Γ F' ι' S' a' w'->K a' w'):wpOp cx.P ops Q i K a w:=by
 unfold a0c at hs;unfold wpOp;split at hs<;>try (cases hs;done)
 rename_i o ho;rw [ho];simp only;split at hs<;>try (cases hs;done)
 ·rename_i hw;have hwant:=d0u h.tmps hw;rw [hwant];simp only [if_true];split at hs<;>try (cases hs;done)
  rename_i out lg hop;injection hs with hs;injection hs with h1 h2;injection h2 with h2 h3;subst h1;subst h2;left
  unfold Oper.wp;rcases e8g h hg hn hop hob with ⟨nx,c,w',F',ι',hr,hnx,hrel⟩|⟨f,args,hr,hcalls⟩
  ·rw [hr];rcases hnx with rfl|⟨rfl,rfl⟩
   ·exact hK _ _ _ _ hrel
   ·exact hK _ _ _ _ hrel
  ·rw [hr];refine hcalls.mono ?_;rintro e w' ⟨c,F',ι',rfl,hrel⟩
   exact hK _ _ _ _ hrel
 ·rename_i hw;have hwant:=d0u h.tmps hw;rw [hwant];simp only [f6J,if_false];injection hs with hs;injection hs with h1 h2;subst h1;exact hK _ _ _ _ (h.put o.dst (.tup [] [] .nil))
def a1f(cx:Cx)(ops:Array Oper)(base:Nat)(A:Nat->K7):List Nat->St->Option (St×List (List Prop×Y8))
 | [],S=>some (S,[])
 | i::l,S=>match a0c cx ops base A i S with
  | some (S1,r)=>match a1f cx ops base A l S1 with
   | some (S2,rs)=>some (S2,r::rs)
   | none=>none
  | none=>none
theorem b1V{i:Nat}{l:List Nat}{rs:List (List Prop×Y8)}(h:a1f cx ops base A (i::l) S=some (S',rs)):∃S1 r rs',a0c cx ops base A i S=some (S1,r)/\a1f cx ops base A l S1=some (S',rs')/\rs=r::rs':=by
 unfold a1f at h;split at h<;>try (cases h;done)
 rename_i S1 r h1;split at h<;>try (cases h;done)
 rename_i S2 rs' h2;injection h with h;injection h with h3 h4;subst h3;subst h4;exact ⟨S1,r,rs',h1,h2,rfl⟩
theorem d4o{Q:Exit->Act->World->Prop}:∀{l:List Nat} {S:St} {F:Nat->Prop} {ι:Nat->Nat->Value} {a:Act} {w:World} {rs:List (List Prop×Y8)},u0 Γ F ι S a w->l.Nodup->(∀i∈l,base+i<S.h.length/\¬S.D (base+i))->a1f cx ops base A l S=some (S',rs)->(∀r∈rs,∀p∈r.1,p)->
  (∀a' w' F' ι',u0 Γ F' ι' S' a' w'->Q .normal a' w')->wpOps cx.P ops Q l a w
 | [],S,F,ι,a,w,rs,h,_,_,hr,_,hQ=>by
  unfold a1f at hr;injection hr with hr;injection hr with h1 h2;subst h1;exact hQ _ _ _ _ h
 | i::l,S,F,ι,a,w,rs,h,hn,hfree,hr,hob,hQ=>by
  obtain ⟨S1,r,rs',h1,h2,rfl⟩:=b1V hr;rw [wpOps_cons];have hn':=f6N.1 hn;obtain ⟨hD,hl⟩:=d4t (ps:=r.1) (ft:=r.2) h1;refine d10 h (hfree i (by simp)).1 (hfree i (by simp)).2 (ps:=r.1) (ft:=r.2) h1 (hob r (by simp)) fun a' w' F' ι' hrel => ?_
  refine d4o hrel hn'.2 (fun j hj => ?_) h2 (fun r' hr'=>hob r' (by simp [hr'])) hQ;refine ⟨by rw [hl];exact (hfree j (by simp [hj])).1,fun x => ?_⟩;rcases hD _ x with y|y
  ·exact (hfree j (by simp [hj])).2 y
  ·have:i=j:=by omega
   exact hn'.1 (this▸hj)
end
def z8{α:Type}(m:j7 α):Prop := ∀(H H':Hp) r lg,m H=some (r,lg)->(∀id∈lg,H' id.1 id.2=H id.1 id.2)->m H'=some (r,lg)
namespace z8
variable {α β:Type}
theorem pure(a:α):z8 (j7.pure a):=fun _ _ _ _ h _=>h
theorem no:z8 (j7.no:j7 α):=fun _ _ _ _ h _=>h
theorem lift(o:Option α):z8 (j7.lift o):=by
 intro H H' r lg h _;unfold j7.lift at h ⊢;exact h
theorem rd(g j:Nat):z8 (j7.rd g j):=by
 intro H H' r lg h hH;obtain ⟨h1,h2⟩:=j7.rd_some h;simp only at h1 h2;subst h2;have:=hH (g,j) (by simp);unfold j7.rd;simp only at this;rw [this,h1]
theorem bind{m:j7 α}{f:α->j7 β}(hm:z8 m)(hf:∀a,z8 (f a)):z8 (j7.bind m f):=by
 intro H H' r lg h hH;obtain ⟨a,l,l',h1,h2,h3⟩:=j7.bind_some h;simp only at h2 h3;subst h3;unfold j7.bind;rw [hm H H' a l h1 (fun id hid=>hH id (List.mem_append.2 (.inl hid)))];simp only;rw [hf a H H' r l' h2 (fun id hid=>hH id (List.mem_append.2 (.inr hid)))]
theorem ite{c:Prop}[Decidable c]{m n:j7 α}(hm:z8 m)(hn:z8 n):z8 (if c then m else n):=by
 split<;>assumption
end z8
theorem e5C(ck:Option Nat)(v:V):z8 (fzP ck v):=by
 unfold fzP;cases v<;>try exact z8.no
 case own g j sz lo n =>
  refine .bind (.rd g j) fun e => ?_
  cases e<;>first|exact z8.no|exact .ite (.pure _) .no
 case nil=>cases ck<;>exact .pure _
 all_goals exact .pure _
theorem c2T:∀(vs:List V) (ck:List (Option Nat)),z8 (b10 ck vs)
 | [],ck=>by cases ck<;>exact .pure _
 | v::vs,ck=>.bind (e5C _ _) fun x=>.bind (c2T vs _) fun y=>.pure _
theorem d7a(cx:Cx)(ty:Nat)(x:V)(A:O5):z8 (b4e cx ty x A):=by
 unfold b4e;cases cx.T ty with
 | none=>exact .no
 | some ti =>
  cases x<;>try exact z8.no
  case ptr g j off =>
   refine .bind (.rd g j) fun e => ?_
   cases e<;>try exact z8.no
   case var e cs=>simp only;cases R7 ti (cs.drop off)<;>first|exact .no|exact .pure _
   case arr e sz n rows=>exact .ite (.pure _) .no
  case eptr g j sz idx off =>
   refine .bind (.rd g j) fun e => ?_
   cases A<;>try exact z8.no
   case row r =>
    simp only;cases R7 ti (r.drop off) with
    | none=>exact .no
    | some v=>cases e<;>first|exact z8.no|exact .ite (.pure _) .no
  case fptr cs=>simp only;cases R7 ti cs<;>first|exact .no|exact .pure _
theorem e1x(cx:Cx)(ty:Nat)(x y:V)(A:O5):z8 (b1r cx ty x y A):=by
 unfold b1r;cases cx.T ty with
 | none=>exact .no
 | some ti =>
  cases y.cells with
  | none=>exact .no
  | some vs =>
   cases x<;>try exact z8.no
   case ptr g j off =>
    refine .bind (.rd g j) fun e => ?_
    cases e<;>first|exact z8.no|exact .ite (.pure _) .no
   case eptr g j sz idx off =>
    refine .bind (.rd g j) fun e => ?_
    cases A<;>try exact z8.no
    case rowck r ck =>
     refine .bind (c2T _ _) fun f => ?_
     cases e<;>first|exact z8.no|exact .ite (.pure _) .no
theorem d2D(pt:Bool)(x:V):z8 (a9h pt x):=by
 unfold a9h;cases x<;>try first|exact z8.no|exact z8.pure _
 case own g j sz lo n =>
  refine .bind (.rd g j) fun e => ?_
  cases e<;>first|exact z8.no|exact .ite (.pure _) .no
theorem e46(pt:Bool)(cx:Cx)(grp ty:Nat)(s x:V):z8 (a91 pt cx grp ty s x):=by
 unfold a91;cases cx.T ty with
 | none=>exact .no
 | some ti =>
  simp only;cases ti.sl with
  | none=>exact .no
  | some e =>
   simp only;cases cx.T e with
   | none=>exact .no
   | some ei =>
    refine .bind (d2D _ x) fun q=>.ite ?_ .no
    cases s<;>try first|exact z8.no|exact z8.pure _
    case own g j sz lo n =>
     cases lo with
     | succ k=>exact .no
     | zero =>
      refine .bind (.rd g j) fun e => ?_
      cases e<;>first|exact z8.no|exact .ite (.pure _) .no
theorem f1e(cx:Cx)(ty:Nat)(s x:V):z8 (b4H cx ty s x):=by
 unfold b4H;cases cx.T ty with
 | none=>exact .no
 | some ti =>
  simp only;cases ti.sl with
  | none=>exact .no
  | some e =>
   simp only;cases cx.T e with
   | none=>exact .no
   | some ei =>
    refine .bind (d2D _ x) fun q => ?_
    cases s<;>try exact z8.no
    case own g j sz lo n =>
     cases lo with
     | succ k=>exact .no
     | zero =>
      refine .bind (.rd g j) fun e => ?_
      cases e<;>first|exact z8.no|exact .ite (.pure _) .no
theorem d5h(ck:List (Option Nat)):∀ps:List (Nat×V),z8 (a9G ck ps)
 | []=>.pure _
 | (i,v)::ps=>by
  unfold a9G;cases v.cells with
  | none=>exact .no
  | some cs=>exact .bind (c2T _ _) fun x=>.bind (d5h ck ps) fun y=>.pure _
theorem e5c(cx:Cx)(grp ty len:Nat)(parts:List (Nat×V))(A:O5):z8 (b3g cx grp ty len parts A):=by
 unfold b3g;cases cx.T ty with
 | none=>exact .no
 | some ti =>
  simp only;cases ti.sl with
  | none=>exact .no
  | some e =>
   simp only;cases cx.T e with
   | none=>exact .no
   | some ei =>
    cases A<;>try exact z8.no
    case ck ck =>
     refine .bind (d5h _ _) fun q => ?_
     cases a7j ei.size (f5u len ei.zero) q.1 with
     | none=>exact .no
     | some rows=>exact .ite (.pure _) .no
theorem d1H(ck om:Option Nat)(v:V):z8 (R5 ck om v):=by
 unfold R5;cases om with
 | some e =>
  refine .ite (.pure _) ?_;cases v<;>try first|exact z8.no|exact z8.pure _
  case own g j sz lo n =>
   cases lo with
   | succ k=>exact .no
   | zero =>
    refine .bind (.rd g j) fun e => ?_
    cases e<;>first|exact z8.no|exact .ite (.pure _) .no|(rename_i o _ _ _ _;cases o<;>first|exact z8.no|exact .ite (.pure _) .no)
 | none =>
  cases v<;>try first|exact z8.no|exact z8.pure _
  case own g j sz lo n =>
   refine .bind (.rd g j) fun e => ?_
   cases e<;>first|exact z8.no|exact .ite (.pure _) .no|(rename_i o _ _ _ _;cases o<;>first|exact z8.no|exact .ite (.pure _) .no)
  case nil=>cases ck<;>exact .pure _
theorem a9t:∀(vs:List V) (ck om:List (Option Nat)),z8 (a1P ck om vs)
 | [],ck,om=>by cases ck<;>cases om<;>exact .pure _
 | v::vs,ck,om=>.bind (d1H _ _ _) fun x=>.bind (a9t vs _ _) fun y=>.pure _
theorem e37(m:PM)(v:V):z8 (a1y m v):=by
 unfold a1y;cases m with
 | val ck om =>
  cases v<;>try first|exact z8.no|exact d1H _ _ _
  case agg cs=>exact .bind (a9t _ _ _) fun x=>.pure _
 | ptr ck om =>
  cases v<;>try exact z8.no
  case ptr g j off =>
   cases off with
   | succ k=>exact .no
   | zero =>
    refine .bind (.rd g j) fun e => ?_
    cases e<;>try exact z8.no
    case var e cs=>exact .bind (a9t _ _ _) fun x=>.pure _
 | row =>
  cases v<;>try exact z8.no
  case own g j sz lo n =>
   cases lo with
   | succ k=>exact .no
   | zero =>
    refine .bind (.rd g j) fun e => ?_
    cases e<;>first|exact z8.no|exact .ite (.pure _) .no|(rename_i o _ _ _ _;cases o<;>first|exact z8.no|exact .ite (.pure _) .no)
 | part =>
  cases v<;>try exact z8.no
  case own g j sz lo n =>
   refine .bind (.rd g j) fun e => ?_
   cases e<;>first|exact z8.no|exact .ite (.pure _) .no|(rename_i o _ _ _ _;cases o<;>first|exact z8.no|exact .ite (.pure _) .no)
theorem d3Q:∀(vs:List V) (ms:List PM),z8 (a1B ms vs)
 | [],ms=>by cases ms<;>exact .pure _
 | v::vs,[]=>.no
 | v::vs,m::ms=>.bind (e37 m v) fun x=>.bind (d3Q vs ms) fun y=>.pure _
theorem c1q:∀ids:List (Nat×Nat),z8 (a40 ids)
 | []=>.pure _
 | (g,j)::ids=>by
  unfold a40;refine .bind (.rd g j) fun e => ?_
  cases e<;>try exact z8.no
  case row t sz n rows=>exact .bind (c1q ids) fun us=>.pure _
  case deep o t sz n rows =>
   cases o
   ·exact .bind (c1q ids) fun us=>.pure _
   ·exact .no
theorem c6z(grp:Nat)(args:List V)(ms:List PM)(fr:Bool)(res:V)(outs:List (Option V))(p:List V->Prop):z8 (a72 grp args ms fr res outs p):=by
 unfold a72;refine .bind (d3Q _ _) fun r=>.bind (c1q _) fun fz => ?_
 simp only;cases Q6 grp (I2 grp 0 res).2.length ms args outs with
 | none=>exact .no
 | some ue=>exact .ite (.pure _) .no
theorem e1C(P:Program)(grp f:Nat)(args:List V)(A:O5):z8 (b2s P grp f args A):=by
 unfold b2s;cases A<;>try exact z8.no
 case call ms fr res outs=>exact c6z _ _ _ _ _ _ _
 case callr k q ms fr res outs =>
  simp only;split
  ·split
   ·exact .bind (c6z _ _ _ _ _ _ _) fun o=>.pure _
   ·exact .no
  ·exact .no
theorem c6S(cx:Cx)(ty:Nat)(x y:V)(r:List V)(ck om:List (Option Nat)):z8 (b0I cx ty x y r ck om):=by
 unfold b0I;cases cx.T ty with
 | none=>exact .no
 | some ti =>
  cases y.cells with
  | none=>exact .no
  | some vs =>
   cases x<;>try exact z8.no
   case eptr g j sz idx off =>
    refine .bind (.rd g j) fun e=>.bind (a9t _ _ _) fun f => ?_
    cases e<;>try exact z8.no
    exact .ite (.pure _) .no
theorem f0N(cx:Cx)(grp ty:Nat)(x:V)(r:List V):z8 (b13 cx grp ty x r):=by
 unfold b13;cases cx.T ty with
 | none=>exact .no
 | some ti =>
  cases x<;>try exact z8.no
  case eptr g j sz idx off =>
   refine .bind (.rd g j) fun e => ?_
   cases e<;>try exact z8.no
   simp only;refine .ite ?_ .no;cases R7 ti (L0 grp 0 ((r.drop off).take (if ti.agg=true then ti.size else 1))).1 with
   | none=>exact .no
   | some v=>exact .pure _
theorem d80(cx:Cx)(grp ty:Nat)(x:V)(r:List V):z8 (b4z cx grp ty x r):=by
 unfold b4z;cases cx.T ty with
 | none=>exact .no
 | some ti =>
  cases x<;>try exact z8.no
  case eptr g j sz idx off =>
   refine .bind (.rd g j) fun e => ?_
   cases e<;>try exact z8.no
   simp only;refine .ite ?_ .no;cases R7 ti (L0 grp 0 ((r.drop off).take (if ti.agg=true then ti.size else 1))).1 with
   | none=>exact .no
   | some v=>exact .pure _
theorem d8J(cx:Cx)(ty:Nat)(x y:V)(r:List V)(ck om:List (Option Nat)):z8 (b33 cx ty x y r ck om):=by
 unfold b33;refine .bind (c6S _ _ _ _ _ _ _) fun o => ?_
 split
 ·exact .bind (.rd _ _) fun _=>.pure _
 ·exact .no
theorem d9o(cx:Cx)(ty:Nat)(x:V)(r:List V):z8 (b3f cx ty x r):=by
 unfold b3f;cases cx.T ty with
 | none=>exact .no
 | some ti =>
  cases x<;>try exact z8.no
  case eptr g j sz idx off =>
   refine .bind (.rd g j) fun e => ?_
   cases e<;>try exact z8.no
   simp only;refine .ite ?_ .no;cases R7 ti ((r.drop off).take (if ti.agg=true then ti.size else 1)) with
   | none=>exact .no
   | some v=>exact .pure _
theorem f4F(cx:Cx)(grp ty:Nat)(l c:V)(ck om:List (Option Nat)):z8 (b4A cx grp ty l c ck om):=by
 unfold b4A;cases cx.T ty with
 | none=>exact .no
 | some ti =>
  simp only;cases ti.sl with
  | none=>exact .no
  | some e =>
   simp only;cases cx.T e with
   | none=>exact .no
   | some ei =>
    cases l<;>try exact z8.no
    cases c<;>try exact z8.no
    exact .bind (a9t _ _ _) fun f=>.ite (.pure _) .no
theorem d7w(cx:Cx)(grp ty len:Nat)(parts:List (Nat×V))(ck om:List (Option Nat)):z8 (b2e cx grp ty len parts ck om):=by
 unfold b2e;cases cx.T ty with
 | none=>exact .no
 | some ti =>
  simp only;cases ti.sl with
  | none=>exact .no
  | some e =>
   simp only;cases cx.T e with
   | none=>exact .no
   | some ei =>
    simp only;split
    ·split
     ·exact .bind (a9t _ _ _) fun f=>.ite (.pure _) .no
     ·exact .no
    ·exact .ite (.pure _) .no
    ·exact .no
theorem f3c(cx:Cx)(grp ty:Nat)(s x:V):z8 (b1T cx grp ty s x):=by
 unfold b1T;cases cx.T ty with
 | none=>exact .no
 | some ti =>
  simp only;cases ti.sl with
  | none=>exact .no
  | some e =>
   simp only;cases cx.T e with
   | none=>exact .no
   | some ei =>
    simp only;split
    ·refine .bind (.rd _ _) fun e2 => ?_
     split
     ·refine .ite ?_ .no;split
      ·exact .pure _
      ·refine .bind (.rd _ _) fun e1 => ?_
       split
       ·exact .ite (.pure _) .no
       ·exact .no
      ·exact .no
     ·exact .no
    ·exact .no
theorem f4i(cx:Cx)(ty:Nat)(x ix:V):z8 (b1x cx ty x ix):=by
 unfold b1x;cases cx.M ty with
 | none=>exact .no
 | some q =>
  obtain ⟨kt,m,z⟩:=q;cases x<;>try exact z8.no
  cases ix<;>try exact z8.no
  rename_i g j ks;simp only;cases a2A ks with
  | none=>exact .no
  | some xs =>
   refine .bind (.rd g j) fun e => ?_
   cases e<;>try exact z8.no
   exact .ite (.pure _) .no
theorem d8P(cx:Cx)(ty:Nat)(x ix y:V):z8 (b1M cx ty x ix y):=by
 unfold b1M;cases cx.M ty with
 | none=>exact .no
 | some q =>
  obtain ⟨kt,m,z⟩:=q;cases x<;>try exact z8.no
  cases ix<;>try exact z8.no
  rename_i g j ks;simp only;cases a2A ks with
  | none=>exact .no
  | some xs =>
   refine .bind (.rd g j) fun e => ?_
   cases e<;>try exact z8.no
   exact .ite (.pure _) .no
theorem e7s(cx:Cx)(grp:Nat)(ob:Oper)(t:List V)(A:O5):z8 (opM cx grp ob t A):=by
 unfold opM;cases ob.op<;>try exact z8.lift _
 case buildSlice ty len parts=>cases A<;>first|exact d7w _ _ _ _ _ _ _|exact e5c _ _ _ _ _ _
 case makeSlice ty l c=>cases A<;>first|exact f4F _ _ _ _ _ _ _|exact z8.lift _
 case load ty x=>cases A<;>first|exact f0N _ _ _ _ _|exact d80 _ _ _ _ _|exact d9o _ _ _ _|exact d7a _ _ _ _
 case store ty x y =>
  cases ob.dst
  ·cases A<;>first|exact c6S _ _ _ _ _ _ _|exact d8J _ _ _ _ _ _ _|exact e1x _ _ _ _ _
  ·exact .no
 case makeMap ty r=>cases r<;>exact z8.lift _
 case lookup ty x ix ok=>cases ok<;>first|exact f4i _ _ _ _|exact z8.lift _
 case mapUpdate ty x ix y =>
  cases ob.dst
  ·exact d8P _ _ _ _ _
  ·exact .no
 case call c =>
  obtain ⟨callee,args,tys⟩:=c;simp only;split
  ·refine .ite ?_ .no;cases A<;>first|exact f3c _ _ _ _ _|exact e46 _ _ _ _ _ _
  ·exact f1e _ _ _ _
  ·cases t6 t _<;>first|exact e1C _ _ _ _ _|exact z8.no
  ·exact .lift _
theorem f2t(cx:Cx)(grp:Nat)(ob:Oper)(t:List V)(A:K7):z8 (b0P cx grp ob t A):=.bind (e7s _ _ _ _ _) fun o=>.lift _
theorem c8B{t t':List V}:∀{xs:List Operand},(∀x∈xs,t6 t' x=t6 t x)->xs.map (t6 t')=xs.map (t6 t)
 | [],_=>rfl
 | x::xs,h=>by simp only [f6b];rw [h x (by simp),c8B fun y hy=>h y (by simp [hy])]
theorem c3e{t t':List V}:∀{ps:List (Nat×Operand)},(∀x∈ps.map (·.2),t6 t' x=t6 t x)->(ps.map fun (i,x)=>(i,t6 t' x))=(ps.map fun (i,x)=>(i,t6 t x))
 | [],_=>rfl
 | p::ps,h=>by
  simp only [f6b];rw [h p.2 (by simp),c3e fun y hy=>h y (by simp [hy])]
theorem c7V{t t':List V}{o:Option Operand}(h:∀x∈o.toList,t6 t' x=t6 t x):o.map (t6 t')=o.map (t6 t):=by
 cases o with
 | none=>rfl
 | some x=>simp only [f6I];rw [h x (by simp)]
theorem e3Z{cx:Cx}{op:Op}{t t':List V}{A:O5}(h:∀x∈op.operands.toList,t6 t' x=t6 t x):S0 cx op t' A=S0 cx op t A:=by
 cases op<;>try rfl
 case makeFunc fn first captured=>cases fn<;>rfl
 case move x=>simp only [S0];rw [h x (by simp [Op.operands])]
 case assign x=>simp only [S0];rw [h x (by simp [Op.operands])]
 case pick c x y=>simp only [S0];rw [h c (by simp [Op.operands]),h x (by simp [Op.operands]),h y (by simp [Op.operands])]
 case nilCheck x=>simp only [S0];rw [h x (by simp [Op.operands])]
 case binOp o ty x y ty'=>simp only [S0];rw [h x (by simp [Op.operands]),h y (by simp [Op.operands])]
 case unOp o ty x=>simp only [S0];rw [h x (by simp [Op.operands])]
 case convert s d x=>simp only [S0];rw [h x (by simp [Op.operands])]
 case extract x k=>simp only [S0];rw [h x (by simp [Op.operands])]
 case field ty x f=>simp only [S0];rw [h x (by simp [Op.operands])]
 case fieldAddr ty x f=>simp only [S0];rw [h x (by simp [Op.operands])]
 case build ty parts=>simp only [S0];rw [c3e (by simpa [Op.operands] using h)]
 case indexAddr ty x y=>simp only [S0];rw [h x (by simp [Op.operands]),h y (by simp [Op.operands])]
 case index ty x y=>simp only [S0];rw [h x (by simp [Op.operands]),h y (by simp [Op.operands])]
 case slice ty x lo hi mx =>
  cases mx with
  | some m=>rfl
  | none =>
   simp only [S0];rw [h x (by simp [Op.operands]),c7V (o:=lo) (fun y hy=>h y (by simp [Op.operands] at hy ⊢;simp [hy])),c7V (o:=hi) (fun y hy=>h y (by simp [Op.operands] at hy ⊢;simp [hy]))]
 case call c =>
  obtain ⟨callee,args,tys⟩:=c;simp only [S0];cases callee with
  | value x=>rfl
  | invoke x m=>rfl
  | builtin b =>
   have ha:∀x∈args.toList,t6 t' x=t6 t x:=fun x hx=>h x (by simpa [Op.operands,Call.operands] using hx)
   cases b<;>try rfl
   all_goals
    generalize args.toList=al at ha;generalize tys.toList=tl;rcases al with _|⟨s,_|⟨x,_|⟨y,al⟩⟩⟩<;>rcases tl with _|⟨ty,_|⟨ty',tl⟩⟩<;>try rfl
    all_goals simp only [ha s (by simp)]
    all_goals try simp only [ha x (by simp)]
theorem f4G{cx:Cx}{grp:Nat}{ob:Oper}{t t':List V}{A:O5}(h:∀x∈ob.op.operands.toList,t6 t' x=t6 t x):opM cx grp ob t' A=opM cx grp ob t A:=by
 have hp:=e3Z (cx:=cx) (A:=A) h;unfold opM;cases ho:ob.op<;>rw [ho] at h hp<;>simp only [hp]
 case box e x=>rw [h x (by simp [Op.operands])]
 case buildSlice ty len parts=>rw [c3e (by simpa [Op.operands] using h)]
 case makeSlice ty l c=>rw [h l (by simp [Op.operands]),h c (by simp [Op.operands])]
 case load ty x=>rw [h x (by simp [Op.operands])]
 case store ty x y=>rw [h x (by simp [Op.operands]),h y (by simp [Op.operands])]
 case makeMap ty r=>cases r<;>simp only [hp]
 case lookup ty x ix ok =>
  have h1:=h x (by simp [Op.operands]);have h2:=h ix (by simp [Op.operands]);cases ok<;>simp only [hp,h1,h2]
 case mapUpdate ty x ix y=>rw [h x (by simp [Op.operands]),h ix (by simp [Op.operands]),h y (by simp [Op.operands])]
 case call c =>
  obtain ⟨callee,args,tys⟩:=c;cases callee with
  | invoke x m=>rfl
  | value fop =>
   have h1:t6 t' fop=t6 t fop:=h fop (by simp [Op.operands,Call.operands]);have h2:args.toList.map (t6 t')=args.toList.map (t6 t):=c8B fun x hx=>h x (by simp [Op.operands,Call.operands] at hx ⊢;simp [hx])
   simp only [h1,h2]
  | builtin b =>
   have ha:∀x∈args.toList,t6 t' x=t6 t x:=fun x hx=>h x (by simpa [Op.operands,Call.operands] using hx)
   cases b<;>try rfl
   all_goals
    generalize args.toList=al at ha;generalize tys.toList=tl;rcases al with _|⟨s,_|⟨x,_|⟨y,al⟩⟩⟩<;>rcases tl with _|⟨ty,_|⟨ty',_|⟨ty3,tl⟩⟩⟩<;>try rfl
    all_goals simp only [ha s (by simp),ha x (by simp)]
theorem d3P{t:List V}{dst:Option Nat}{v:V}{x:Operand}(h:∀d,dst=some d->x ≠ .tmp d):t6 (T1 t dst v) x=t6 t x:=by
 cases dst with
 | none=>rfl
 | some d =>
  cases x with
  | tmp k =>
   have:d≠k:=fun q=>h d rfl (by rw [q])
   simp [t6,T1,f5N this]
  | _=>rfl
theorem d7l{S:St}{g j g' j':Nat}{e e':s6}(h:¬(g=g'/\j=j')):(S.setE g j e).setE g' j' e'=(S.setE g' j' e').setE g j e:=by
 by_cases q:g=g'
 ·subst q;have hj:j≠j':=fun z=>h ⟨rfl,z⟩
  cases hx:S.h[g]? with
  | none=>unfold St.setE;simp [hx]
  | some o=>cases o with
   | none=>unfold St.setE;simp [hx]
   | some l =>
    have hlt:=(f5z.1 hx).1;rw [a2Q hx,a2Q hx,a2Q (l:=l.set j e) (by simp [hlt]),a2Q (l:=l.set j' e') (by simp [hlt])];simp only [List.set_set];rw [List.set_comm _ _ hj]
 ·unfold St.setE;cases hx:S.h[g]? with
  | none =>
   cases hy:S.h[g']? with
   | none=>simp [hx,hy]
   | some o=>cases o with
    | none=>simp [hx,hy]
    | some l=>simp [hx,hy,f5N (Ne.symm q)]
  | some o=>cases o with
   | none =>
    cases hy:S.h[g']? with
    | none=>simp [hx,hy]
    | some o=>cases o with
     | none=>simp [hx,hy]
     | some l=>simp [hx,hy,f5N (Ne.symm q)]
   | some l =>
    cases hy:S.h[g']? with
    | none=>simp [hx,hy,f5N q]
    | some o=>cases o with
     | none=>simp [hx,hy,f5N q]
     | some l'=>simp [hx,hy,f5N q,f5N (Ne.symm q),List.set_comm _ _ q]
theorem d6i{g j:Nat}{e:s6}:∀{us:List O3} {S:St},(∀u∈us,¬(g=u.1.1/\j=u.1.2))->(S.setE g j e).upds us=(S.upds us).setE g j e
 | [],_,_=>rfl
 | ((g',j'),e')::us,S,h=>by
  simp only [St.upds];rw [d7l (h ((g',j'),e') (by simp)),d6i fun u hu=>h u (by simp [hu])]
theorem b4m:∀{us vs:List O3} {S:St},(∀u∈us,∀v∈vs,u.1≠v.1)->(S.upds us).upds vs=(S.upds vs).upds us
 | [],_,_,_=>rfl
 | ((g,j),e)::us,vs,S,h=>by
  simp only [St.upds];rw [b4m fun u hu=>h u (by simp [hu]),d6i fun v hv q=>h ((g,j),e) (by simp) v hv (Prod.ext q.1 q.2)]
theorem e2J{S:St}{g g':Nat}{n n':List s6}(h:g≠g'):(S.lay g n).lay g' n'=(S.lay g' n').lay g n:=by
 simp [St.lay,List.set_comm _ _ h]
theorem f2T{t:List V}{d d':Option Nat}{v v':V}(h:∀k,d=some k->d'≠some k):T1 (T1 t d v) d' v'=T1 (T1 t d' v') d v:=by
 cases d with
 | none=>rfl
 | some k=>cases d' with
  | none=>rfl
  | some k' =>
   have:k≠k':=fun q=>h k rfl (by rw [q])
   simp [T1,List.set_comm _ _ this]
def a3U(S:St)(t:List V):St:={S with t:=t}
def hp(S:St)(grp:Nat)(o:B3):St:=match o.new with
 | none=>S.upds o.upd
 | some new=>(S.upds o.upd).lay grp new
theorem c5H(S:St)(grp:Nat)(dst:Option Nat)(o:B3):S.apply grp dst o=a3U (hp S grp o) (T1 S.t dst o.v):=by
 unfold St.apply hp a3U;cases o.new with
 | none=>simp only [St.upds_t]
 | some new=>simp only [St.lay,St.upds_t]
theorem f2i(S:St)(t:List V)(g j:Nat)(e:s6):(a3U S t).setE g j e=a3U (S.setE g j e) t:=by
 unfold a3U St.setE;simp only;split<;>rfl
theorem c02(t:List V):∀(us:List O3) (S:St),(a3U S t).upds us=a3U (S.upds us) t
 | [],_=>rfl
 | ((g,j),e)::us,S=>by simp only [St.upds];rw [f2i,c02]
theorem e4z(S:St)(t:List V)(grp:Nat)(o:B3):hp (a3U S t) grp o=a3U (hp S grp o) t:=by
 unfold hp;cases o.new with
 | none=>simp only [c02]
 | some new=>simp only [c02];rfl
theorem f1P{S:St}{g g':Nat}{o o':B3}(hg:g≠g')(h1:∀u∈o.upd,∀v∈o'.upd,u.1≠v.1)(h2:∀u∈o.upd,u.1.1≠g')(h3:∀u∈o'.upd,u.1.1≠g):hp (hp S g o) g' o'=hp (hp S g' o') g o:=by
 unfold hp;cases o.new with
 | none=>cases o'.new with
  | none=>simp only;exact b4m h1
  | some n'=>simp only;rw [<-b1j o.upd _ h2,b4m h1]
 | some n=>cases o'.new with
  | none=>simp only;rw [<-b1j o'.upd _ h3,b4m h1]
  | some n' =>
   simp only;rw [<-b1j o'.upd _ h3,<-b1j o.upd _ h2,b4m h1,e2J hg]
theorem e2L{S:St}{grp:Nat}{o:B3}{g j:Nat}(h1:g≠grp)(h2:∀u∈o.upd,u.1≠(g,j)):(hp S grp o).ent g j=S.ent g j:=by
 have:(S.upds o.upd).ent g j=S.ent g j:=by
  refine b7X ?_;unfold b0B;rw [List.all_eq_true];intro u hu;have:=h2 u hu;simp only [f6a,Bool.and_eq_false_iff,beq_eq_false_iff_ne];by_cases q:g=u.1.1
  ·right
   intro z;exact this (Prod.ext q.symm z.symm)
  ·exact .inl q
 unfold hp;cases o.new with
 | none=>exact this
 | some new=>simp only;rw [a7Y h1];exact this
section
variable {cx:Cx} {ops:Array Oper} {base:Nat} {A:Nat->K7}
theorem d5a{i:Nat}{S S':St}{ps:List Prop}{ft:Y8}(h:a0c cx ops base A i S=some (S',ps,ft)):∃o out,ops[i]?=some o/\S'=S.apply (base+i) o.dst out/\ft.wr=out.upd.map (·.1)/\
  ∀T:St,(∀x∈o.op.operands.toList,t6 T.t x=t6 S.t x)->a6S ops o T.t=a6S ops o S.t->(∀id∈ft.rd,T.ent id.1 id.2=S.ent id.1 id.2)->a0c cx ops base A i T=some (T.apply (base+i) o.dst out,ps,ft):=by
 unfold a0c at h;split at h<;>try (cases h;done)
 rename_i o ho;split at h<;>try (cases h;done)
 ·rename_i hw;split at h<;>try (cases h;done)
  rename_i out lg hop;injection h with h;injection h with h1 h2;injection h2 with h2 h3;subst h1;subst h2;subst h3;refine ⟨o,out,ho,rfl,rfl,?_⟩;intro T hx hwT hent;have hst:b0P cx (base+i) o T.t (A i)=b0P cx (base+i) o S.t (A i):=by
   unfold b0P;rw [f4G hx]
  have:=f2t cx (base+i) o S.t (A i) S.ent T.ent out lg hop hent;unfold a0c;rw [ho];simp only [hwT,hw,hst,this]
 ·rename_i hw;injection h with h;injection h with h1 h2;injection h2 with h2 h3;subst h1;subst h2;subst h3;refine ⟨o,{v:=.tup []},ho,rfl,rfl,?_⟩;intro T hx hwT hent;unfold a0c;rw [ho];simp only [hwT,hw];rfl
structure Ind(ops:Array Oper)(base:Nat)(x i:Nat)(f1 f2:Y8):Prop where
 ne:x≠i
 apart:∀o1 o2,ops[x]?=some o1->ops[i]?=some o2->o1.apart ops o2=true
 w1:∀id∈f1.wr,id ∉ f2.rd/\id ∉ f2.wr
 w2:∀id∈f2.wr,id ∉ f1.rd
 g1:∀id∈f2.rd++f2.wr,id.1≠base+x
 g2:∀id∈f1.rd++f1.wr,id.1≠base+i
theorem c7E{o:Oper}{x:Operand}(hx:x∈o.op.operands.toList){d:Nat}(hd:d ∉ o.looksAt ops):x ≠ .tmp d:=by
 intro q;subst q;apply hd;unfold Oper.looksAt;exact List.mem_append.2 (.inl (List.mem_filterMap.2 ⟨_,hx,rfl⟩))
theorem d1U{o:Oper}{t:List V}{dst:Option Nat}{v:V}(hd:∀d,dst=some d->d ∉ o.looksAt ops):a6S ops o (T1 t dst v)=a6S ops o t:=by
 unfold a6S;split
 ·rfl
 ·rename_i j want hg;cases hj:(ops[j]?).bind (·.dst) with
  | none=>rfl
  | some d =>
   simp only;cases dst with
   | none=>rfl
   | some k =>
    have hk:k≠d:=by
     intro q;subst q;apply hd k rfl;unfold Oper.looksAt;rw [hg];exact List.mem_append.2 (.inr (by simp [hj]))
    simp only [T1,f5N hk]
theorem b9d{S:St}{grp:Nat}{dst:Option Nat}{o:B3}:(S.apply grp dst o).t=T1 S.t dst o.v:=by rw [c5H];rfl
theorem c9J{S:St}{grp:Nat}{dst:Option Nat}{o:B3}{g j:Nat}(h1:g≠grp)(h2:(g,j) ∉ o.upd.map (·.1)):(S.apply grp dst o).ent g j=S.ent g j:=by
 rw [c5H];show (hp S grp o).ent g j=_
 exact e2L h1 fun u hu q=>h2 (List.mem_map.2 ⟨u,hu,q⟩)
theorem e2g{x i:Nat}{S S1 S2:St}{p1 p2:List Prop}{f1 f2:Y8}(hx:a0c cx ops base A x S=some (S1,p1,f1))(hi:a0c cx ops base A i S1=some (S2,p2,f2))(h:Ind ops base x i f1 f2) :
  ∃S1',a0c cx ops base A i S=some (S1',p2,f2)/\a0c cx ops base A x S1'=some (S2,p1,f1):=by
 obtain ⟨o1,out1,ho1,rfl,hw1,hr1⟩:=d5a hx;obtain ⟨o2,out2,ho2,rfl,hw2,hr2⟩:=d5a hi;obtain ⟨a1,a2,a3⟩:=Oper.apart_spec (h.apart o1 o2 ho1 ho2);have e1:=hr2 S (fun z hz=>by rw [b9d,d3P fun d hd=>c7E (ops:=ops) hz (a1 d hd)]) (by rw [b9d,d1U a1]) (fun id hid=>by
  refine (c9J (h.g1 id (List.mem_append.2 (.inl hid))) ?_).symm;rw [<-hw1];exact fun q=>(h.w1 id q).1 hid)
 refine ⟨_,e1,?_⟩;have e2:=hr1 (S.apply (base+i) o2.dst out2) (fun z hz=>by rw [b9d,d3P fun d hd=>c7E (ops:=ops) hz (a3 d hd)]) (by rw [b9d,d1U a3]) (fun id hid=>by
  refine c9J (h.g2 id (List.mem_append.2 (.inl hid))) ?_;rw [<-hw2];exact fun q=>h.w2 id q hid)
 rw [e2];congr 2
 simp only [c5H,e4z];have hh:hp (hp S (base+x) out1) (base+i) out2=hp (hp S (base+i) out2) (base+x) out1:=by
  refine f1P (fun q=>h.ne (by omega)) ?_ ?_ ?_
  ·intro u hu v hv q;have m1:u.1∈f1.wr:=by rw [hw1];exact List.mem_map.2 ⟨u,hu,rfl⟩
   have m2:v.1∈f2.wr:=by rw [hw2];exact List.mem_map.2 ⟨v,hv,rfl⟩
   exact (h.w1 _ m1).2 (q▸m2)
  ·intro u hu;exact h.g2 _ (List.mem_append.2 (.inr (by rw [hw1];exact List.mem_map.2 ⟨u,hu,rfl⟩)))
  ·intro u hu;exact h.g1 _ (List.mem_append.2 (.inr (by rw [hw2];exact List.mem_map.2 ⟨u,hu,rfl⟩)))
 rw [hh];unfold a3U;simp only;rw [f2T (fun k hk q=>a2 k hk q)]
abbrev Rc:=Nat->List Prop×Y8
theorem c7h{rc:Rc}{i:Nat}:∀{l m:List Nat} {S S':St},(∀x∈l,Ind ops base x i (rc x).2 (rc i).2)->a1f cx ops base A (l++i::m) S=some (S',(l++i::m).map rc)->a1f cx ops base A (i::(l++m)) S=some (S',(i::(l++m)).map rc)
 | [],m,S,S',_,h=>h
 | x::l,m,S,S',hind,h=>by
  obtain ⟨S1,r,rs,h1,h2,h3⟩:=b1V h;simp only [f7j,f6b] at h3;injection h3 with h3 h4;subst h3;subst h4;have h5:=c7h (fun y hy=>hind y (by simp [hy])) h2;obtain ⟨S2,r2,rs2,h6,h7,h8⟩:=b1V h5;simp only [f6b] at h8;injection h8 with h8 h9;subst h8;subst h9;obtain ⟨S1',e1,e2⟩:=e2g (p1:=(rc x).1) (f1:=(rc x).2) (p2:=(rc i).1) (f2:=(rc i).2) h1 h6 (hind x (by simp));have e2':a0c cx ops base A x S1'=some (S2,rc x):=e2;have e1':a0c cx ops base A i S=some (S1',rc i):=e1;simp only [f7j,a1f,e1',e2',h7,f6b]
end
def a23(ops:Array Oper)(i:Nat):List Nat :=
 match ops[i]? with
 | some o=>(o.after.toList.filter (Region.binds .any)).map (·.on)
 | none=>[]
def a30(ops:Array Oper):Nat->List (List Nat)
 | 0=>[]
 | k+1=>let L:=a30 ops k;L++[(a23 ops k).flatMap fun e=>e::L.getD e []]
def a7q(ops:Array Oper)(i:Nat):List Nat:=(a30 ops (i+1)).getD i []
theorem a7F(ops:Array Oper):∀k,(a30 ops k).length=k
 | 0=>rfl
 | k+1=>by simp [a30,a7F ops k]
theorem c5w(ops:Array Oper)(i:Nat):∀k,i<k->(a30 ops k).getD i []=a7q ops i
 | k+1,h=>by
  by_cases q:i=k
  ·subst q;rfl
  ·have:i<k:=by omega
   rw [<-c5w ops i k this];simp only [a30,f5G];rw [f5O (by rw [a7F];exact this)]
theorem f1n(ops:Array Oper)(i:Nat):a7q ops i=(a23 ops i).flatMap fun e=>e::(a30 ops i).getD e []:=by
 unfold a7q;simp only [a30,f5G];rw [f5I (by rw [a7F];omega),a7F];simp
theorem c6g{ops:Array Oper}{Y7:Array Bool}{i:Nat}(h:i∈Region.ready .any ops Y7):i<ops.size/\Y7.getD i true=false/\∀e∈a23 ops i,Y7.getD e false=true:=by
 unfold Region.ready at h;obtain ⟨h1,h2⟩:=List.mem_filter.1 h;have hlt:=f6B.1 h1;simp only [f5w,f6a] at h2;refine ⟨hlt,h2.1,?_⟩;intro e he;unfold a23 at he;rw [Array.getElem?_eq_getElem hlt] at he h2;simp only [List.mem_map,List.mem_filter] at he;obtain ⟨ed,⟨hm,hb⟩,rfl⟩:=he;have:=h2.2;simp only [f6I,f6G,Array.all_eq_true_iff_forall_mem] at this;have:=this ed (by simpa using hm);simpa [hb] using this
theorem f0T{ops:Array Oper}{Y7:Array Bool}{i:Nat}(hlt:i<ops.size)(hl:Y7.getD i true=false)(he:∀e∈a23 ops i,Y7.getD e false=true):i∈Region.ready .any ops Y7:=by
 unfold Region.ready;refine List.mem_filter.2 ⟨f6B.2 hlt,?_⟩;rw [Array.getElem?_eq_getElem hlt];simp only [hl,f5V,f6I,f6G,f5H,Array.all_eq_true_iff_forall_mem];intro ed hm;by_cases hb:Region.binds .any ed=true
 ·have:ed.on∈a23 ops i:=by
   unfold a23;rw [Array.getElem?_eq_getElem hlt];exact List.mem_map.2 ⟨ed,List.mem_filter.2 ⟨by simpa using hm,hb⟩,rfl⟩
  simp [he _ this]
 ·simp [hb]
section
variable {cx:Cx} {Γ:O8} {ops:Array Oper} {base:Nat} {A:Nat->K7} {Q:Exit->Act->World->Prop} {S':St} {rc:Rc}
theorem d8Z(d00:∀i,i<ops.size->∀e∈a23 ops i,e<i)(hind:∀x i,x<i->i<ops.size->x ∉ a7q ops i->Ind ops base x i (rc x).2 (rc i).2)(hob:∀i,i<ops.size->∀p∈(rc i).1,p)(hQ:∀a' w' F' ι',u0 Γ F' ι' S' a' w'->Q .normal a' w'):∀(fuel:Nat) (R:List Nat) (Y7:Array Bool) (S:St) (F:Nat->Prop) (ι:Nat->Nat->Value) (a:Act) (w:World),
  R.length=fuel->Y7.size=ops.size->R.Pairwise (· < ·)->(∀i,i<ops.size->(Y7.getD i true=false↔i∈R))->(∀i∈R,i<ops.size)->(∀i,i<ops.size->i ∉ R->∀x∈a7q ops i,x ∉ R)->
  u0 Γ F ι S a w->(∀i∈R,base+i<S.h.length/\¬S.D (base+i))->a1f cx ops base A R S=some (S',R.map rc)->wpAny cx.P .any ops Q fuel Y7 a w:=by
 intro fuel;induction fuel with
 | zero =>
  intro R Y7 S F ι a w hR hsz hpw hlist hlt hdown hrel hfree hrun;have:R=[]:=f5E hR;subst this;unfold a1f at hrun;injection hrun with hrun;injection hrun with h1 h2;subst h1;refine ⟨?_,hQ _ _ _ _ hrel⟩;rw [List.eq_nil_iff_forall_not_mem];intro i hi;obtain ⟨h1,h2,_⟩:=c6g hi;have:=(hlist i h1).1 h2;simp at this
 | succ fuel ih =>
  intro R Y7 S F ι a w hR hsz hpw hlist hlt hdown hrel hfree hrun;refine ⟨fun d9r => ?_,fun i hi => ?_⟩
  ·exfalso
   cases R with
   | nil=>simp at hR
   | cons r R =>
    have hr:=hlt r (by simp);have hrd:r∈Region.ready .any ops Y7:=by
     refine f0T hr ((hlist r hr).2 (by simp)) ?_;intro e he;have hlt':=d00 r hr e he;have hen:e ∉ r::R:=by
      intro q;rcases f5B.1 q with q|q
      ·omega
      ·have:=(f6K.1 hpw).1 e q;omega
     have:=mt (hlist e (by omega)).1 hen;have hes:e<Y7.size:=by omega
     simp only [Array.getD_eq_getD_getElem?,Array.getElem?_eq_getElem hes,f6G] at this ⊢;simpa using this
    rw [d9r] at hrd;simp at hrd
  ·obtain ⟨hi1,hi2,hi3⟩:=c6g hi;have hiR:=(hlist i hi1).1 hi2;obtain ⟨A1,B1,hAB⟩:=List.append_of_mem hiR;have hpw':=hpw;rw [hAB] at hpw';obtain ⟨hpA,hpB,hpAB⟩:=f7e.1 hpw';have hcl:∀x∈a7q ops i,x ∉ R:=by
    intro x hx;rw [f1n] at hx;obtain ⟨e,he,hx⟩:=List.mem_flatMap.1 hx;have hel:=d00 i hi1 e he;have heR:e ∉ R:=by
     intro q;have h1:=(hlist e (by omega)).2 q;have h2:=hi3 e he;have hes:e<Y7.size:=by omega
     simp only [Array.getD_eq_getD_getElem?,Array.getElem?_eq_getElem hes,f6G] at h1 h2;rw [h1] at h2;cases h2
    rcases f5B.1 hx with rfl|hx
    ·exact heR
    ·rw [c5w ops e i hel] at hx;exact hdown e (by omega) heR x hx
   have hfront:=c7h (cx:=cx) (A:=A) (rc:=rc) (i:=i) (l:=A1) (m:=B1) (S:=S) (S':=S') (fun x hx=>by
    have hxR:x∈R:=by rw [hAB];simp [hx]
    exact hind x i (hpAB x hx i (by simp)) hi1 (fun q=>hcl x q hxR)) (by rw [<-hAB];exact hrun)
   obtain ⟨S1,r,rs,h1,h2,h3⟩:=b1V hfront;simp only [f6b] at h3;injection h3 with h3 h4;subst h3;subst h4;obtain ⟨hD,hl⟩:=d4t (ps:=(rc i).1) (ft:=(rc i).2) h1;refine d10 hrel (hfree i hiR).1 (hfree i hiR).2 (ps:=(rc i).1) (ft:=(rc i).2) h1 (hob i hi1) fun a' w' F' ι' hrel' => ?_
   have hsub:∀j,j∈A1++B1↔(j∈R/\j≠i):=by
    intro j;rw [hAB];simp only [List.mem_append,f5B];constructor
    ·intro hj;refine ⟨by rcases hj with q|q<;>simp [q],?_⟩;rintro rfl
     rcases hj with q|q
     ·have:=hpAB j q j (by simp);omega
     ·have:=(f6K.1 hpB).1 j q;omega
    ·rintro ⟨q|rfl|q,hne⟩
     ·exact .inl q
     ·exact absurd rfl hne
     ·exact .inr q
   refine ih (A1++B1) _ S1 F' ι' a' w' ?_ (by simp [hsz]) ?_ ?_ ?_ ?_ hrel' ?_ h2
   ·rw [hAB] at hR;simp at hR ⊢;omega
   ·refine f7e.2 ⟨hpA,(f6K.1 hpB).2,fun x hx y hy=>hpAB x hx y (by simp [hy])⟩
   ·intro j hj;rw [hsub];have hjs:j<Y7.size:=by omega
    simp only [Array.getD_eq_getD_getElem?];by_cases q:j=i
    ·subst q;simp [hjs]
    ·rw [Array.getElem?_setIfInBounds_ne (Ne.symm q),<-hlist j hj,Array.getD_eq_getD_getElem?];simp [q]
   ·intro j hj;exact hlt j ((hsub j).1 hj).1
   ·intro j hj hjn x hx hxm;have hxR:=((hsub x).1 hxm).1;by_cases q:j=i
    ·subst q;exact hcl x hx hxR
    ·exact hdown j hj (fun z=>hjn ((hsub j).2 ⟨z,q⟩)) x hx hxR
   ·intro j hj;have hjR:=((hsub j).1 hj)
    refine ⟨by rw [hl];exact (hfree j hjR.1).1,fun x => ?_⟩;rcases hD _ x with y|y
    ·exact (hfree j hjR.1).2 y
    ·exact hjR.2 (by omega)
end
def b8z(l:List Nat)(x:Nat):Bool:=l.any fun y=>y==x
theorem d7N{l:List Nat}{x:Nat}:b8z l x=true↔x∈l:=by
 unfold b8z;rw [f6P];constructor
 ·rintro ⟨y,hy,h⟩
  simp at h;exact h▸hy
 ·intro h;exact ⟨x,h,by simp⟩
def dnN:List Nat->List Nat
 | []=>[]
 | x::xs=>if b8z (dnN xs) x then dnN xs else x::dnN xs
theorem c0N{x:Nat}:∀{l:List Nat},x∈dnN l->x∈l
 | y::l,h=>by
  unfold dnN at h;split at h
  ·exact f5B.2 (.inr (c0N h))
  ·rcases f5B.1 h with rfl|h
   ·simp
   ·exact f5B.2 (.inr (c0N h))
def a7K(ops:Array Oper):Nat->List (List Nat)
 | 0=>[]
 | k+1=>let L:=a7K ops k;L++[dnN ((a23 ops k).flatMap fun e=>e::L.getD e [])]
theorem b9s(ops:Array Oper):∀k,(a7K ops k).length=k
 | 0=>rfl
 | k+1=>by simp [a7K,b9s ops k]
theorem c3x(ops:Array Oper):∀k i,∀x∈(a7K ops k).getD i [],x∈(a30 ops k).getD i []
 | 0,i,x,h=>by simp [a7K] at h
 | k+1,i,x,h=>by
  simp only [a7K,a30,f5G] at h ⊢;by_cases q:i<k
  ·rw [f5O (by rw [b9s];exact q)] at h;rw [f5O (by rw [a7F];exact q)];have:=c3x ops k i x (by rw [f5G];exact h);rwa [f5G] at this
  ·rw [f5I (by rw [b9s];omega),b9s] at h;rw [f5I (by rw [a7F];omega),a7F];by_cases q':i=k
   ·subst q';simp only [Nat.sub_self,f6A,f6G] at h ⊢;obtain ⟨e,he,hx⟩:=List.mem_flatMap.1 (c0N h);refine List.mem_flatMap.2 ⟨e,he,?_⟩;rcases f5B.1 hx with rfl|hx
    ·simp
    ·have:=c3x ops i e x (by rw [f5G];exact hx);rw [f5G] at this;exact f5B.2 (.inr this)
   ·have:i-k=(i-k-1)+1:=by omega
    rw [this] at h;simp at h
def c1A(ops:Array Oper)(base x i:Nat)(f1 f2:Y8):Bool :=
  (match ops[x]?,ops[i]? with
   | some o1,some o2=>o1.apart ops o2
   | _,_=>false) &&
  f1.wr.all (fun id => !a1R f2.rd id && !a1R f2.wr id)&&f2.wr.all (fun id => !a1R f1.rd id) &&
  f2.rd.all (fun id => !(id.1==base+x))&&f2.wr.all (fun id => !(id.1==base+x)) &&
  f1.rd.all (fun id => !(id.1==base+i))&&f1.wr.all (fun id => !(id.1==base+i))
theorem b9W{l:List (Nat×Nat)}{x:Nat×Nat}(h:(!a1R l x)=true):x ∉ l:=by
 intro q;rw [a6i.2 q] at h;cases h
theorem e50{ops:Array Oper}{base x i:Nat}{f1 f2:Y8}(hne:x<i)(h:c1A ops base x i f1 f2=true):Ind ops base x i f1 f2:=by
 unfold c1A at h;simp only [f5w] at h;obtain ⟨⟨⟨⟨⟨⟨h1,h2⟩,h3⟩,h4⟩,h5⟩,h6⟩,h7⟩:=h;refine ⟨by omega,?_,?_,?_,?_,?_⟩
 ·intro o1 o2 e1 e2;rw [e1,e2] at h1;exact h1
 ·intro id hid;have:=List.all_eq_true.1 h2 id hid;simp only [f5w] at this;exact ⟨b9W this.1,b9W this.2⟩
 ·intro id hid;exact b9W (List.all_eq_true.1 h3 id hid)
 ·intro id hid;rcases List.mem_append.1 hid with q|q
  ·have:=List.all_eq_true.1 h4 id q;simpa using this
  ·have:=List.all_eq_true.1 h5 id q;simpa using this
 ·intro id hid;rcases List.mem_append.1 hid with q|q
  ·have:=List.all_eq_true.1 h6 id q;simpa using this
  ·have:=List.all_eq_true.1 h7 id q;simpa using this
def d3X(ops:Array Oper)(base:Nat)(L:List (List Nat))(fs:List Y8):Bool :=
 (f5A ops.size).all fun i =>
  (a23 ops i).all (fun e=>Nat.blt e i) &&
  (f5A i).all fun x=>b8z (L.getD i []) x||c1A ops base x i (fs.getD x ⟨[],[]⟩) (fs.getD i ⟨[],[]⟩)
def c4Q(A:List (Nat×K7))(i:Nat):K7 :=
 match A with
 | []=>{}
 | (j,x)::A=>if j==i then x else c4Q A i
def b7V:List (List Prop×Y8)->List Prop
 | []=>[]
 | r::rs=>r.1++b7V rs
theorem d1b{rs:List (List Prop×Y8)}(h:∀p∈b7V rs,p):∀r∈rs,∀p∈r.1,p:=by
 induction rs with
 | nil=>intro r hr;cases hr
 | cons r rs ih =>
  intro r' hr p hp;rcases f5B.1 hr with rfl|hr
  ·exact h p (List.mem_append.2 (.inl hp))
  ·exact ih (fun p hp=>h p (List.mem_append.2 (.inr hp))) r' hr p hp
def a4a:Nat->List (Option (List s6))
 | 0=>[]
 | n+1=>none::a4a n
theorem d41:∀(n i:Nat) (l:List s6),(a4a n)[i]?≠some (some l)
 | 0,i,l=>by simp [a4a]
 | n+1,0,l=>by simp [a4a]
 | n+1,i+1,l=>by simpa [a4a] using d41 n i l
theorem d5L:∀n,(a4a n).length=n
 | 0=>rfl
 | n+1=>by simp [a4a,d5L n]
def St.more(S:St)(n:Nat):St:={S with h:=S.h++a4a n}
theorem b6C{S:St}{n g:Nat}{l:List s6}:(S.more n).h[g]?=some (some l)↔S.h[g]?=some (some l):=by
 unfold St.more;simp only;by_cases q:g<S.h.length
 ·rw [f5O q]
 ·rw [f5I (by omega)];constructor
  ·intro h;exact absurd h (d41 _ _ _)
  ·intro h;have:=(f5z.1 h).1;omega
theorem b01{S:St}{n g:Nat}:(S.more n).D g↔S.D g:=by
 unfold St.D;constructor
 ·rintro ⟨l,h⟩
  exact ⟨l,b6C.1 h⟩
 ·rintro ⟨l,h⟩
  exact ⟨l,b6C.2 h⟩
theorem b3r{S:St}{n g j:Nat}:(S.more n).ent g j=S.ent g j:=by
 have key:∀e,(S.more n).ent g j=some e↔S.ent g j=some e:=by
  intro e;constructor
  ·intro h;obtain ⟨l,hl⟩:=St.D_of_ent h;rw [a17 hl] at h;rw [a17 (b6C.1 hl)];exact h
  ·intro h;obtain ⟨l,hl⟩:=St.D_of_ent h;rw [a17 hl] at h;rw [a17 (b6C.2 hl)];exact h
 cases h:S.ent g j with
 | some e=>exact (key e).2 h
 | none =>
  cases h':(S.more n).ent g j with
  | none=>rfl
  | some e=>rw [(key e).1 h'] at h;cases h
theorem u0.more{Γ:O8}{F:Nat->Prop}{ι:Nat->Nat->Value}{S:St}{a:Act}{w:World}(h:u0 Γ F ι S a w)(n:Nat):u0 Γ F ι (S.more n) a w :=
  { F0:=h.F0,F1:=h.F1,F2:=h.F2,kept:=h.kept
    tmps:=h.tmps.imp fun _ _ x=>x.mono (fun _ _ _=>rfl) (fun _ y=>y) (fun g y=>b01.2 y) (fun _ _ _=>rfl)
    ents:=fun g j e he=>(h.ents g j e (b3r▸he)).mono (fun _ _ _=>rfl) (fun _ y=>y) (fun g y=>b01.2 y) (fun _ _ _=>rfl) (fun _ _ _=>rfl)
    sep:=fun g j e k he=>h.sep g j e k (b3r▸he)
    inj:=fun g j e g' j' e' k he he'=>h.inj g j e g' j' e' k (b3r▸he) (b3r▸he')
    defers:=h.defers
    pins:=fun j c hc=>⟨b01.2 (h.pins j c hc).1,(h.pins j c hc).2⟩}
def c5k(cx:Cx)(ops:Array Oper)(draw:Bool)(A:List (Nat×K7))(S:St):Option (St×List Prop) :=
 match a1f cx ops S.h.length (c4Q A) (f5A ops.size) (S.more ops.size) with
 | none=>none
 | some (S',rs)=>if draw then (if d3X ops S.h.length (a7K ops ops.size) (rs.map (·.2)) then some (S',b7V rs) else none) else some (S',b7V rs)
section
variable {cx:Cx} {Γ:O8} {F:Nat->Prop} {ι:Nat->Nat->Value} {S S':St} {a:Act} {w:World} {ops:Array Oper} {A:List (Nat×K7)}
theorem c94{base:Nat}{B:Nat->K7}:∀{l:List Nat} {S S':St} {rs:List (List Prop×Y8)},a1f cx ops base B l S=some (S',rs)->rs.length=l.length
 | [],S,S',rs,h=>by
  unfold a1f at h;injection h with h;injection h with h1 h2;subst h2;rfl
 | i::l,S,S',rs,h=>by
  obtain ⟨S1,r,rs',h1,h2,rfl⟩:=b1V h;simp [c94 h2]
theorem d90{α:Type}(d:α):∀{rs:List α} {n:Nat},rs.length=n->rs=(f5A n).map fun i=>rs.getD i d:=by
 intro rs n h;apply List.ext_getElem
 ·simp [h]
 ·intro i h1 h2;simp [f5G,h1]
theorem d6T{draw:Bool}{id:Nat}{ps:List Prop}{Q:Exit->Act->World->Prop}(h:u0 Γ F ι S a w)(hr:c5k cx ops draw A S=some (S',ps))(hob:∀p∈ps,p)(hQ:∀a' w' F' ι',u0 Γ F' ι' S' a' w'->Q .normal a' w'):(Code.region id ops draw).wp cx.P Q a w:=by
 unfold c5k at hr;split at hr<;>try (cases hr;done)
 rename_i S1 rs hrun;have hfree:∀i∈f5A ops.size,S.h.length+i<(S.more ops.size).h.length/\¬(S.more ops.size).D (S.h.length+i):=by
  intro i hi;refine ⟨by simp [St.more,d5L,f6B.1 hi],fun q => ?_⟩;obtain ⟨l,hl⟩:=b01.1 q;have:=(f5z.1 hl).1;omega
 cases draw with
 | false =>
  simp only [f6J,if_false] at hr;injection hr with hr;injection hr with h1 h2;subst h1;subst h2;exact wp_region (d4o (h.more ops.size) List.nodup_range hfree hrun (d1b hob) hQ)
 | true =>
  simp only [if_true] at hr;split at hr<;>try (cases hr;done)
  rename_i hap;injection hr with hr;injection hr with h1 h2;subst h1;subst h2;have hw:u0 Γ F ι (S.more ops.size) a {w with drawn:=w.drawn+1}:=(h.more ops.size).world ⟨rfl,rfl,rfl⟩ (f5K _) (fun _ _=>rfl);have hlen:=c94 hrun;rw [List.length_range] at hlen;have hrs:=d90 (([],⟨[],[]⟩):List Prop×Y8) hlen;unfold d3X at hap;rw [List.all_eq_true] at hap;have hap':∀i,i<ops.size->(∀e∈a23 ops i,e<i)/\∀x,x<i->x ∉ a7q ops i->Ind ops S.h.length x i ((rs.getD x ([],⟨[],[]⟩)).2) ((rs.getD i ([],⟨[],[]⟩)).2):=by
   intro i hi;have:=hap i (f6B.2 hi);simp only [f5w] at this;refine ⟨fun e he => ?_,fun x hx hc => ?_⟩
   ·have:=List.all_eq_true.1 this.1 e he;rwa [Nat.blt_eq] at this
   ·have h2:=List.all_eq_true.1 this.2 x (f6B.2 hx);rcases Bool.or_eq_true_iff.1 h2 with q|q
    ·exfalso
     apply hc;have:=c3x ops ops.size i x (d7N.1 q);rwa [c5w ops i ops.size hi] at this
    ·have:=e50 hx q;have hm:∀j,j<rs.length->(rs.map (·.2)).getD j ⟨[],[]⟩=(rs.getD j ([],⟨[],[]⟩)).2:=by
      intro j hj;simp [f5G,hj]
     rw [hm x (by omega),hm i (by omega)] at this;exact this
  refine wp_region_any cx.mixed ?_;have hrange:∀i,i<ops.size->rs.getD i ([],⟨[],[]⟩)∈rs:=by
   intro i hi;have:i<rs.length:=by omega
   simp [f5G,this]
  refine d8Z (rc:=fun i=>rs.getD i ([],⟨[],[]⟩)) (base:=S.h.length) (A:=c4Q A) (fun i hi=>(hap' i hi).1) (fun x i hx hi hc=>(hap' i hi).2 x hx hc) (fun i hi p hp=>d1b hob _ (hrange i hi) p hp) hQ
   ops.size (f5A ops.size) _ _ F ι a _ (by simp) (by simp) ?_ ?_ ?_ ?_ hw hfree ?_
  ·exact List.pairwise_lt_range
  ·intro i hi;simp [f6B,hi,Array.getD_eq_getD_getElem?]
  ·intro i hi;exact f6B.1 hi
  ·intro i hi hn;exact absurd (f6B.2 hi) hn
  ·rw [<-hrs];exact hrun
end
def mvM(t:List V):List Item->Option (List Item)
 | .code .skip::k=>some k
 | .inBlock _::k=>some k
 | .code (.seq x y)::k=>some (.code x :: .code y::k)
 | .code (.cond c x y)::k=>match t6 t c with
  | .b true=>some (.code x::k)
  | .b false=>some (.code y::k)
  | _=>none
 | .code (.block id c)::k=>some (.code c :: .inBlock id::k)
 | .code (.loop c)::k=>some (.code c :: .inLoop c::k)
 | .inLoop c::k=>some (.code c :: .inLoop c::k)
 | .code (.exit id)::k=>exitTo id k
 | _=>none
abbrev T0:=List (List (Nat×K7))
def goM(cx:Cx):Nat->List Item->St->T0->Option (List Item×St×List Prop)
 | 0,_,_,_=>none
 | n+1,k,S,sc =>
  match k with
  | .code (.region id ops draw)::k'=>match sc with
   | []=>some (k,S,[])
   | A::sc'=>match c5k cx ops draw A S with
    | some (S1,ps)=>match goM cx n k' S1 sc' with
     | some (k2,S2,qs)=>some (k2,S2,ps++qs)
     | none=>none
    | none=>none
  | k=>match mvM S.t k with
   | some k1=>goM cx n k1 S sc
   | none=>match sc with
    | []=>some (k,S,[])
    | _::_=>none
section
variable {cx:Cx} {Γ:O8} {F:Nat->Prop} {ι:Nat->Nat->Value} {S S':St} {a:Act} {w:World} {b:Frame} {cs:List Frame} {k k':List Item}
theorem e8v(h:u0 Γ F ι S a w)(hm:mvM S.t k=some k'):step cx.P (lone (b.at a k) cs w)=.next (lone (b.at a k') cs w):=by
 unfold mvM at hm;split at hm
 ·injection hm with hm;subst hm;exact step_skip
 ·injection hm with hm;subst hm;exact step_inBlock
 ·injection hm with hm;subst hm;exact step_seq
 ·rename_i c x y k0;have hc:=D5 h.tmps c;split at hm<;>try (cases hm;done)
  ·rename_i hx;injection hm with hm;subst hm;rw [hx] at hc;have:=step_cond (P:=cx.P) (b:=b) (k:=k0) (cs:=cs) (w:=w) (x:=x) (y:=y) hc.inv_b;simpa using this
  ·rename_i hx;injection hm with hm;subst hm;rw [hx] at hc;have:=step_cond (P:=cx.P) (b:=b) (k:=k0) (cs:=cs) (w:=w) (x:=x) (y:=y) hc.inv_b;simpa using this
 ·injection hm with hm;subst hm;exact step_block
 ·injection hm with hm;subst hm;exact step_loop
 ·injection hm with hm;subst hm;exact step_inLoop
 ·exact step_exit hm
 ·cases hm
theorem e2S:∀{n:Nat} {k:List Item} {S:St} {F:Nat->Prop} {ι:Nat->Nat->Value} {a:Act} {w:World} {sc:T0} {ps:List Prop},u0 Γ F ι S a w->goM cx n k S sc=some (k',S',ps)->(∀p∈ps,p)->
  ∃a' w' F' ι',Steps cx.P (lone (b.at a k) cs w) (lone (b.at a' k') cs w')/\u0 Γ F' ι' S' a' w':=by
 intro n;induction n with
 | zero=>intro k S F ι a w sc ps h hg hob;cases hg
 | succ n ih =>
  intro k S F ι a w sc ps h hg hob;unfold goM at hg;split at hg
  ·rename_i id ops draw k0;split at hg
   ·injection hg with hg;injection hg with h1 h2;injection h2 with h2 h3;subst h1;subst h2;exact ⟨a,w,F,ι,.refl _ _,h⟩
   ·rename_i A sc';split at hg<;>try (cases hg;done)
    rename_i S1 qs hr;split at hg<;>try (cases hg;done)
    rename_i k2 S2 rs hg2;injection hg with hg;injection hg with h1 h2;injection h2 with h2 h3;subst h1;subst h2;subst h3;have hwp:=d6T (cx:=cx) (draw:=draw) (id:=id) (Q:=fun e a' w'=>e=.normal/\∃F' ι',u0 Γ F' ι' S1 a' w') h hr (fun p hp=>hob p (List.mem_append.2 (.inl hp)))
     (fun a' w' F' ι' hrel=>⟨rfl,F',ι',hrel⟩)
    obtain ⟨e,a1,w1,⟨he,F1,ι1,h1⟩,harr⟩:=hwp b k0 cs;subst he;obtain ⟨a2,w2,F2,ι2,hs,h2⟩:=ih h1 hg2 (fun p hp=>hob p (List.mem_append.2 (.inr hp)));exact ⟨a2,w2,F2,ι2,Steps.trans harr hs,h2⟩
  ·split at hg
   ·rename_i k1 hm;obtain ⟨a2,w2,F2,ι2,hs,h2⟩:=ih h hg hob;exact ⟨a2,w2,F2,ι2,.head (e8v h hm) hs,h2⟩
   ·split at hg<;>try (cases hg;done)
    injection hg with hg;injection hg with h1 h2;injection h2 with h2 h3;subst h1;subst h2;exact ⟨a,w,F,ι,.refl _ _,h⟩
end
structure O7 where
 f:Nat
 fn:Func
 rms:List PM
 oms:List (Option (Nat×PM))
def d0x(w:World)(F:Nat->Prop)(fp:List Nat)(cargs:List Value)(res:V)(outs:List (Option V))(e:Ending)(w':World):Prop :=
 ∃ c F' fr fo,e=.returned c/\a4l (· ∈ fp) w w'/\(∀k,F k->F' k)/\(∀k,F' k->(F k\/k∈fp\/w.heap.size<=k)/\k<w'.heap.size)/\
   BR w' F' res c fr/\BO w' F' outs cargs fo/\(fr++fo).Nodup/\∀k∈fr++fo,¬F' k/\(k∈fp\/w.heap.size<=k)/\k<w'.heap.size
def PM.isVal:PM->Bool
 | .val .. => true
 | _=>false
def a6u(bs:List Value):List (Option Nat)->Nat->List Value->Prop
 | [],_,[]=>True
 | none::om,j,d::ds=>d.oneCell'=true/\a6u bs om j ds
 | some _::om,j,d::ds=>bs[j]?=some d/\a6u bs om (j+1) ds
 | _,_,_=>False
inductive a1G:List (Option (Nat×PM))->List Value->List Value->Prop
 | nil (bs):a1G [] [] bs
 | skip (oms c cs bs) (t:a1G oms cs bs):a1G (none::oms) (c::cs) bs
 | pin (j m oms c cs bs) (hm:m.isVal=false) (h:bs[j]?=some c) (t:a1G oms cs bs):a1G (some (j,m)::oms) (c::cs) bs
 | agg (j ck om oms ds cs bs) (h:a6u bs om j ds) (t:a1G oms cs bs):a1G (some (j,.val ck om)::oms) (.agg ds.toArray::cs) bs
def J9(cx:Cx)(X:O7)(res:V)(outs:List (Option V))(k:List Item)(S:St):Prop :=
 ∀(w0:World) (F0:Nat->Prop) (fp:List Nat) (cargs bs:List Value),a1G X.oms cargs bs->(∀k,F0 k->k<w0.heap.size)->
 ∀(F:Nat->Prop) (ι:Nat->Nat->Value) (a:Act) (w:World) (b:Frame) (cs:List Frame),u0 ⟨w0,F0,(· ∈ fp),bs⟩ F ι S a w->b.fn=X.f->b.kind=.normal->
  ∃e w' fr,d0x w0 F0 fp cargs res outs e w'/\Comes cx.P (lone (b.at a k) cs w) (lone fr cs w') e/\fr.fn=X.f/\fr.leaving cx.P w' e
theorem J9.go{cx:Cx}{X:O7}{res:V}{outs:List (Option V)}{k k':List Item}{S S':St}{n:Nat}{sc:T0}{ps:List Prop}(hg:goM cx n k S sc=some (k',S',ps))(hob:∀p∈ps,p)(h:J9 cx X res outs k' S'):J9 cx X res outs k S:=by
 intro w0 F0 fp cargs bs hp hF0 F ι a w b cs hrel hb1 hb2;obtain ⟨a',w',F',ι',hs,hrel'⟩:=e2S (b:=b) (cs:=cs) hrel hg hob;obtain ⟨e,w2,fr,h1,h2,h3,h4⟩:=h w0 F0 fp cargs bs hp hF0 F' ι' a' w' b cs hrel' hb1 hb2;exact ⟨e,w2,fr,h1,.of_steps hs h2,h3,h4⟩
def c5d(cx:Cx)(t:List V)(r:ResultVar):j7 V :=
 match r with
 | .tmp k=>j7.pure (t.getD k .bot)
 | .cell a ty=>match cx.T ty with
  | some ti=>match t.getD a .bot with
   | .ptr g j off=>j7.bind (j7.rd g j) fun e=>match e with
    | .var _ cs=>match R7 ti (cs.drop off) with
     | some v=>j7.pure v
     | none=>j7.no
    | _=>j7.no
   | _=>j7.no
  | none=>j7.no
def c1m(cx:Cx)(t:List V):List ResultVar->j7 (List V)
 | []=>j7.pure []
 | r::rs=>j7.bind (c5d cx t r) fun v=>j7.bind (c1m cx t rs) fun vs=>j7.pure (v::vs)
def b7R:List (Option Nat)->Nat->j7 (List V)
 | [],_=>j7.pure []
 | none::om,j=>j7.bind (b7R om j) fun vs=>j7.pure (.bot::vs)
 | some _::om,j=>j7.bind (j7.rd 0 j) fun e=>j7.bind (b7R om (j+1)) fun vs=>match e with
  | .row _ sz n _=>j7.pure (.own 0 j sz 0 n::vs)
  | .deep false _ sz n _=>j7.pure (.own 0 j sz 0 n::vs)
  | _=>j7.no
def a86:List (Option (Nat×PM))->j7 (List V×List PM)
 | []=>j7.pure ([],[])
 | none::os=>a86 os
 | some (j,.val ck om)::os=>j7.bind (b7R om j) fun cs=>j7.bind (a86 os) fun x=>j7.pure (.agg cs::x.1,.val ck om::x.2)
 | some (j,m)::os=>j7.bind (j7.rd 0 j) fun e=>match m,e with
  | .ptr _ _,.var _ _=>j7.bind (a86 os) fun x=>j7.pure (.ptr 0 j 0::x.1,m::x.2)
  | .row,.row _ sz n _=>j7.bind (a86 os) fun x=>j7.pure (.own 0 j sz 0 n::x.1,m::x.2)
  | .row,.deep false _ sz n _=>j7.bind (a86 os) fun x=>j7.pure (.own 0 j sz 0 n::x.1,m::x.2)
  | _,_=>j7.no
def b5x:List V->V
 | [v]=>v
 | vs=>.tup vs
def a8h:List (Option (Nat×PM))->List V->List (Option V)
 | [],_=>[]
 | none::os,vs=>none::a8h os vs
 | some _::os,v::vs=>some v::a8h os vs
 | some _::os,[]=>none::a8h os []
def c0T(cx:Cx)(X:O7)(t:List V):j7 (AR (List V)×Nat) :=
 j7.bind (c1m cx t X.fn.results.toList) fun rv=>j7.bind (a86 X.oms) fun ov=>j7.bind (a1B (X.rms++ov.2) (rv++ov.1)) fun r =>
  if a3F r.ks&&r.ls.all (fun id => !a1R r.ks id)&&Nat.beq rv.length X.rms.length then j7.pure (r,rv.length) else j7.no
def c3b(cx:Cx)(X:O7)(k:List Item)(S:St):Option (V×List (Option V)×List Prop) :=
 match k with
 | .code .ret::_|[]=>match c0T cx X S.t S.ent with
  | some ((r,n),_)=>some (b5x (r.v.take n),a8h X.oms (r.v.drop n),r.obl)
  | none=>none
 | _=>none
section
variable {cx:Cx} {Γ:O8} {F:Nat->Prop} {ι:Nat->Nat->Value} {S S':St} {a:Act} {w:World} {b:Frame} {cs:List Frame} {k k':List Item}
theorem c52(h:u0 Γ F ι S a w)(k:Nat):RV w F S.D ι (S.t.getD k .bot) (a.tmps.getD k undef):=D5 h.tmps (.tmp k)
def b8u(P:Program)(tmps:Array Value)(w:World)(r:ResultVar)(c:Value):Prop :=
  ((match r with
    | .tmp t=>pure (tmps.getD t undef)
    | .cell a t=>do loadVar t (<-asAddr (tmps.getD a undef))):Sem Value).run P w=.ok c w
theorem e4y(h:u0 Γ F ι S a w){r:ResultVar}{v:V}{lg:List (Nat×Nat)}(hr:c5d cx S.t r S.ent=some (v,lg)):∃c,b8u cx.P a.tmps w r c/\RV w F S.D ι v c:=by
 unfold c5d at hr;cases r with
 | tmp k =>
  have:=j7.pure_some hr;injection this with this h9;subst this;exact ⟨_,rfl,c52 h k⟩
 | cell ad ty =>
  simp only at hr;cases hti:cx.T ty with
  | none=>rw [hti] at hr;cases hr
  | some ti =>
  rw [hti] at hr;obtain ⟨i,d,z,htf⟩:=cx.tf hti;have hx:=c52 h ad;generalize S.t.getD ad .bot=xv at hr hx;cases xv<;>try (cases hr;done)
  case ptr g j off =>
   obtain ⟨hD,b,hι,hc⟩:=hx.inv_ptr;obtain ⟨e,l1,l2,hrd,hp',hl12⟩:=j7.bind_some hr;clear hr;have he:=(j7.rd_some hrd).1;simp only at he;have hre:=h.ents g j e he;split at hp'<;>try (cases hp';done)
   ·rename_i e0 cs;obtain ⟨g0,cur,h1,hg,hcs⟩:=hre;rw [hι] at h1;injection h1 with h1;injection h1 with h1;injection h1 with h1;subst h1;cases hrv:R7 ti (cs.drop off) with
    | none=>rw [hrv] at hp';cases hp'
    | some v' =>
    rw [hrv] at hp';have:=j7.pure_some hp';injection this with this h9;subst this;obtain ⟨c,hrd',hvc⟩:=a6Y (hcs.drop off) hrv;refine ⟨c,?_,hvc⟩;unfold b8u;simp only [hc,asAddr];have:=c9i htf (a6j hg off) hrd';simpa [Sem.run_bind] using this
theorem c7C(h:u0 Γ F ι S a w):∀{rs:List ResultVar} {vs:List V} {lg:List (Nat×Nat)},c1m cx S.t rs S.ent=some (vs,lg)->∃cs,x8 (b8u cx.P a.tmps w) rs cs/\x8 (RV w F S.D ι) vs cs
 | [],vs,lg,hr=>by
  have:=j7.pure_some hr;injection this with this h9;subst this;exact ⟨[],.nil,.nil⟩
 | r::rs,vs,lg,hr=>by
  obtain ⟨v,l1,l2,h1,h2,_⟩:=j7.bind_some hr;obtain ⟨vs',l3,l4,h3,h4,_⟩:=j7.bind_some h2;have:=j7.pure_some h4;injection this with this h9;subst this;obtain ⟨c,e1,e2⟩:=e4y h h1;obtain ⟨cs,e3,e4⟩:=c7C h h3;exact ⟨c::cs,.cons e1 e3,.cons e2 e4⟩
def b4C:List Value->Value
 | [c]=>c
 | cs=>.tuple cs.toArray
theorem d04{P:Program}{w:World}{α:Type}{f:α->Sem Value}:∀{l:List α} {cs:List Value},x8 (fun r c=>(f r).run P w=.ok c w) l cs->(l.mapM f).run P w=.ok cs w
 | _,_,.nil=>by simp [Sem.run]
 | _,_,.cons h t=>by
  rw [List.mapM_cons];have:=d04 t;simp [Sem.run_bind,h,this]
theorem e0t{P:Program}{fn:Func}{tmps:Array Value}{w:World}{cs:List Value}(h:x8 (b8u P tmps w) fn.results.toList cs):(results fn tmps).run P w=.ok (b4C cs) w:=by
 unfold results;have hm:=d04 (f:=fun r:ResultVar=>match r with
  | .tmp t=>pure (tmps.getD t undef)
  | .cell a t=>do loadVar t (<-asAddr (tmps.getD a undef))) (h.imp fun r c x=>x)
 have he:fn.results=fn.results.toList.toArray:=by simp
 rw [he,List.mapM_toArray];have hp:(if hh:cs.toArray.size=1 then cs.toArray[0] else Value.tuple cs.toArray)=b4C cs:=by
  rcases cs with _|⟨c,_|⟨c',cs⟩⟩
  ·rfl
  ·rfl
  ·have:¬(c::c'::cs).toArray.size=1:=by simp
   rw [dif_neg this];rfl
 simp only [map_eq_pure_bind,Sem.run_bind,bind_assoc,pure_bind];refine (congrArg (fun r=>Result.andThen r _) hm).trans ?_;simp only [Result.andThen];rw [<-hp];rfl
theorem c3P(h:u0 Γ F ι S a w):∀{om:List (Option Nat)} {j:Nat} {ds:List Value} {vs:List V} {lg:List (Nat×Nat)},a6u Γ.pins om j ds->b7R om j S.ent=some (vs,lg)->x8 (RC w F S.D ι) vs ds
 | [],j,[],vs,lg,_,hr=>by
  have:=j7.pure_some hr;injection this with h1 h2;subst h1;exact .nil
 | none::om,j,d::ds,vs,lg,hc,hr=>by
  obtain ⟨xs,l1,l2,h1,h2,_⟩:=j7.bind_some hr;have:=j7.pure_some h2;injection this with h3 h4;subst h3;exact .cons (.fv _ _ (.bot _ hc.1)) (c3P h hc.2 h1)
 | some _::om,j,d::ds,vs,lg,hc,hr=>by
  obtain ⟨e,l1,l2,hrd,hp,_⟩:=j7.bind_some hr;have he:=(j7.rd_some hrd).1;simp only at he;have hD:=St.D_of_ent he;have hι:=(h.pins j d hc.1).2;have hre:=h.ents 0 j e he;obtain ⟨xs,l3,l4,h1,h2,_⟩:=j7.bind_some hp;have ht:=c3P h hc.2 h1;split at h2<;>try (cases h2;done)
  ·have:=j7.pure_some h2;injection this with h3 h4;subst h3;refine .cons ?_ ht;have:=RC.whole hD rfl hre;rwa [hι] at this
  ·have:=j7.pure_some h2;injection this with h3 h4;subst h3;refine .cons ?_ ht;obtain ⟨flat,fs,ho,_⟩:=hre;have:=RC.wholeO (F:=F) (D:=S.D) hD rfl ho;rwa [hι] at this
 | [],_,_::_,_,_,hc,_=>hc.elim
 | none::_,_,[],_,_,hc,_=>hc.elim
 | some _::_,_,[],_,_,hc,_=>hc.elim
theorem b0O(h:u0 Γ F ι S a w):∀{oms:List (Option (Nat×PM))} {cargs:List Value} {vs:List V} {ms:List PM} {lg:List (Nat×Nat)},a1G oms cargs Γ.pins->a86 oms S.ent=some ((vs,ms),lg)->∃cs,x8 (RV w F S.D ι) vs cs/\
  ∀{F1:Nat->Prop} {us:List V} {f:List Nat},BS w F1 us cs f->BO w F1 (a8h oms us) cargs f
 | [],_,vs,ms,lg,.nil _,hr=>by
  have:=j7.pure_some hr;injection this with h1 h2;injection h1 with h1 h3;subst h1;exact ⟨[],.nil,fun hb=>by cases hb;exact .nil⟩
 | none::oms,_,vs,ms,lg,.skip _ c cs _ t,hr=>by
  obtain ⟨cs',e1,e2⟩:=b0O h t hr;exact ⟨cs',e1,fun {F1 us f} hb=>.skip _ _ _ _ (e2 hb)⟩
 | some (j,.val ck om)::oms,_,vs,ms,lg,.agg _ _ _ _ ds cs _ hc t,hr=>by
  obtain ⟨xs,l1,l2,hxs,hp,_⟩:=j7.bind_some hr;obtain ⟨x,l3,l4,h1,h2,_⟩:=j7.bind_some hp;have:=j7.pure_some h2;injection this with h3 h4;injection h3 with h3 h5;subst h3;obtain ⟨cs',e1,e2⟩:=b0O h t h1;refine ⟨.agg ds.toArray::cs',.cons (.one _ _ (.agg _ _ (c3P h hc hxs))) e1,?_⟩;intro F1 us f hb;cases hb with
  | cons v c f vs cs fs h t=>exact .cons _ _ _ _ _ _ h (e2 t)
 | some (j,.val ck om)::oms,_,vs,ms,lg,.pin _ _ _ c cs _ hm hc t,hr=>by cases hm
 | some (j,.part)::oms,_,vs,ms,lg,.pin _ _ _ c cs _ hm hc t,hr=>by
  obtain ⟨e,l1,l2,hrd,hp,_⟩:=j7.bind_some hr;cases e<;>cases hp
 | some (j,.ptr ck om)::oms,_,vs,ms,lg,.pin _ _ _ c cs _ hm hc t,hr=>by
  obtain ⟨e,l1,l2,hrd,hp,_⟩:=j7.bind_some hr;have he:=(j7.rd_some hrd).1;simp only at he;have hD:=St.D_of_ent he;have hι:=(h.pins j c hc).2;have hre:=h.ents 0 j e he;cases e<;>try (cases hp;done)
  obtain ⟨x,l3,l4,h1,h2,_⟩:=j7.bind_some hp;have:=j7.pure_some h2;injection this with h3 h4;injection h3 with h3 h5;subst h3;obtain ⟨cs',e1,e2⟩:=b0O h t h1;obtain ⟨g,cur,q1,q2,q3⟩:=hre;refine ⟨c::cs',.cons (.one _ _ (.cell _ _ ?_)) e1,?_⟩
  ·rw [<-hι,q1];exact .ptr 0 j 0 g hD q1
  ·intro F1 us f hb;cases hb with
   | cons v c f vs cs fs h t=>exact .cons _ _ _ _ _ _ h (e2 t)
 | some (j,.row)::oms,_,vs,ms,lg,.pin _ _ _ c cs _ hm hc t,hr=>by
  obtain ⟨e,l1,l2,hrd,hp,_⟩:=j7.bind_some hr;have he:=(j7.rd_some hrd).1;simp only at he;have hD:=St.D_of_ent he;have hι:=(h.pins j c hc).2;have hre:=h.ents 0 j e he;cases e<;>try (cases hp;done)
  case row =>
   obtain ⟨x,l3,l4,h1,h2,_⟩:=j7.bind_some hp;have:=j7.pure_some h2;injection this with h3 h4;injection h3 with h3 h5;subst h3;obtain ⟨cs',e1,e2⟩:=b0O h t h1;refine ⟨c::cs',.cons (.one _ _ (.cell _ _ ?_)) e1,?_⟩
   ·have:=RC.whole hD rfl hre;rwa [hι] at this
   ·intro F1 us f hb;cases hb with
    | cons v c f vs cs fs h t=>exact .cons _ _ _ _ _ _ h (e2 t)
  case deep o _ _ _ _ =>
   cases o<;>try (cases hp;done)
   obtain ⟨x,l3,l4,h1,h2,_⟩:=j7.bind_some hp;have:=j7.pure_some h2;injection this with h3 h4;injection h3 with h3 h5;subst h3;obtain ⟨cs',e1,e2⟩:=b0O h t h1;obtain ⟨flat,fs,ho,_⟩:=hre;refine ⟨c::cs',.cons (.one _ _ (.cell _ _ ?_)) e1,?_⟩
   ·have:=RC.wholeO (F:=F) (D:=S.D) hD rfl ho;rwa [hι] at this
   ·intro F1 us f hb;cases hb with
    | cons v c f vs cs fs h t=>exact .cons _ _ _ _ _ _ h (e2 t)
theorem x8.app{α β:Type}{R:α->β->Prop}:∀{B2 bs cs ds},x8 R B2 bs->x8 R cs ds->x8 R (B2++cs) (bs++ds)
 | _,_,_,_,.nil,k=>k
 | _,_,_,_,.cons hx t,k=>.cons hx (t.app k)
theorem BS.split:∀{c1 c2:List Value} {vs:List V} {f:List Nat},BS w F vs (c1++c2) f->∃f1 f2,f=f1++f2/\BS w F (vs.take c1.length) c1 f1/\BS w F (vs.drop c1.length) c2 f2
 | [],c2,vs,f,h=>⟨[],f,rfl,by simpa using .nil,by simpa using h⟩
 | c::c1,c2,_,_,.cons v _ f vs _ fs h t=>by
  obtain ⟨f1,f2,rfl,h1,h2⟩:=BS.split t;exact ⟨f++f1,f2,by simp,.cons _ _ _ _ _ _ h h1,h2⟩
theorem BS.pack{vs:List V}{cs:List Value}{f:List Nat}(h:BS w F vs cs f):BR w F (b5x vs) (b4C cs) f:=by
 cases h with
 | nil=>exact .tup _ _ _ .nil
 | cons v c f vs cs fs h t =>
  cases t with
  | nil=>rw [f6d];exact .one _ _ _ h
  | cons v' c' f' vs' cs' fs' h' t'=>exact .tup _ _ _ (.cons _ _ _ _ _ _ h (.cons _ _ _ _ _ _ h' t'))
theorem J9.ret{X:O7}{res:V}{outs:List (Option V)}{ps:List Prop}(hf:cx.P.funcs[X.f]?=some X.fn)(hr:c3b cx X k S=some (res,outs,ps))(hob:∀p∈ps,p):J9 cx X res outs k S:=by
 obtain ⟨r,n,lg,hR,rfl,rfl,rfl,hk⟩:∃r n lg,c0T cx X S.t S.ent=some ((r,n),lg)/\b5x (r.v.take n)=res/\a8h X.oms (r.v.drop n)=outs/\r.obl=ps/\(k=[]\/∃k',k=.code .ret::k'):=by
  unfold c3b at hr;split at hr<;>try (cases hr;done)
  all_goals
   split at hr<;>try (cases hr;done)
   rename_i r n lg hR;injection hr with hr;injection hr with h1 h2;injection h2 with h2 h3;first|exact ⟨r,n,lg,hR,h1,h2,h3,.inr ⟨_,rfl⟩⟩|exact ⟨r,n,lg,hR,h1,h2,h3,.inl rfl⟩
 intro w0 F0 fp cargs bs hp hF0 F ι a w b cs h hb1 hb2;unfold c0T at hR;obtain ⟨rv,l1,l2,g1,g2,_⟩:=j7.bind_some hR;obtain ⟨⟨ov,om⟩,l3,l4,g3,g4,_⟩:=j7.bind_some g2;obtain ⟨r',l5,l6,g5,g6,_⟩:=j7.bind_some g4;simp only at g6;split at g6<;>try (cases g6;done)
 rename_i hchk;have:=j7.pure_some g6;injection this with e1 e2;injection e1 with e1 e3;subst e1;subst e3;simp only [f5w] at hchk;obtain ⟨⟨hnk,hls⟩,hlen⟩:=hchk;have hnk':=a49 hnk;have hdis:∀id∈r.ls,id ∉ r.ks:=fun id hid=>b9W (List.all_eq_true.1 hls id hid)
 obtain ⟨rcs,q1,q2⟩:=c7C h g1;obtain ⟨ocs,q3,q4⟩:=b0O h hp g3;let F1:Nat->Prop:=fun k=>F k\/∃id∈r.ls,∃e,S.ent id.1 id.2=some e/\EB w e (ι id.1 id.2) k
 obtain ⟨fpx,hbs,hfps,hhk,hhl⟩:=c8V (F1:=F1) h (fun k x=>.inl x) (q2.app q3) g5 hob (fun id hid e k he hk=>.inr ⟨id,hid,e,he,hk⟩);obtain ⟨f1,f2,hf12,b1,b2⟩:=hbs.split;have hl2:rcs.length=rv.length:=q2.length.symm;rw [hl2] at b1 b2;have hfpn:=M3.nodup h hfps hnk';have hF1lt:∀k,F1 k->k<w.heap.size:=by
  rintro k (x|⟨id,hid,e,he,hb⟩)
  ·exact h.F1 k x
  ·obtain ⟨e',he',hl'⟩:=hhl id hid;have:e=e':=by rw [he] at he';injection he'
   subst this;exact h.lt he hl' hb
 have hfin:d0x w0 F0 fp cargs (b5x (r.v.take rv.length)) (a8h X.oms (r.v.drop rv.length)) (.returned (b4C rcs)) w:=by
  refine ⟨b4C rcs,F1,f1,f2,rfl,h.kept,fun k x=>.inl (h.F0 k x),?_,b1.pack,q4 b2,?_,?_⟩
  ·rintro k x
   refine ⟨?_,hF1lt k x⟩;rcases x with x|⟨id,hid,e,he,hb⟩
   ·exact h.F2 k x
   ·obtain ⟨e',he',hl'⟩:=hhl id hid;have:e=e':=by rw [he] at he';injection he'
    subst this;exact .inr (h.sep _ _ _ k he hl' hb).2
  ·rw [<-hf12];exact hfpn
  ·intro k hk;rw [<-hf12] at hk;obtain ⟨id,hid,e,he,hl,hb⟩:=hfps.mem hk;obtain ⟨z1,z2⟩:=h.sep _ _ e k he hl hb;refine ⟨?_,z2,h.lt he hl hb⟩;rintro (x|⟨id',hid',e0,he0,hb'⟩)
   ·exact z1 x
   ·obtain ⟨e',he',hl'⟩:=hhl id' hid';have:e0=e':=by rw [he0] at he';injection he'
    subst this;obtain ⟨y1,y2⟩:=h.inj _ _ e _ _ _ k he he' hl hl' hb hb';have:id=id':=Prod.ext y1 y2;exact hdis id' hid' (this▸hid)
 have hres:=e0t (P:=cx.P) q1;rcases hk with rfl|⟨k',rfl⟩
 ·exact ⟨_,w,_,hfin,.one step_end,hb1,rfl,h.defers,hb2,X.fn,by show cx.P.funcs[b.fn]?=_;rw [hb1];exact hf,hres⟩
 ·exact ⟨_,w,_,hfin,.one step_ret,hb1,rfl,h.defers,hb2,X.fn,by show cx.P.funcs[b.fn]?=_;rw [hb1];exact hf,hres⟩
end
inductive Loc where
 | tmp (t:Nat)
 | sub (t i:Nat)
 | cell (g j i:Nat)
def St.get(S:St):Loc->Option V
 | .tmp t=>S.t[t]?
 | .sub t i=>match S.t[t]? with
  | some (.agg cs)=>cs[i]?
  | _=>none
 | .cell g j i=>match S.ent g j with
  | some (.var _ cs)=>cs[i]?
  | _=>none
def St.put(S:St)(l:Loc)(v:V):St :=
 match l with
 | .tmp t=>{S with t:=S.t.set t v}
 | .sub t i=>match S.t[t]? with
  | some (.agg cs)=>{S with t:=S.t.set t (.agg (cs.set i v))}
  | _=>S
 | .cell g j i=>match S.ent g j with
  | some (.var e cs)=>S.setE g j (.var e (cs.set i v))
  | _=>S
inductive Fix where
 | own (l:Loc) (e sz:Nat)
 | frz (l:Loc) (ck:Option Nat)
 | is (l:Loc) (v:V)
 | ent (g j:Nat) (e:s6)
 | plug (g j idx off:Nat) (r:List V) (e:Nat)
 | shut (g j n:Nat) (rows:List (List V))
 | ownD (l:Loc) (e sz:Nat)
 | kill (g j:Nat)
def V.isCell:V->Bool
 | .agg _ | .tup _ | .bot=>false
 | _=>true
def a6m(f:Fix)(S:St):Option (St×List Prop) :=
 match f with
 | .own l e sz=>match S.get l with
  | some .nil=>some (((S.more 1).lay S.h.length [.row e sz 0 []]).put l (.own S.h.length 0 sz 0 0),[])
  | _=>none
 | .frz l ck=>match S.get l with
  | some v=>if v.isCell then match fzP ck v S.ent with
   | some ((v',us,ps),_)=>some ((S.upds us).put l v',ps)
   | none=>none else none
  | none=>none
 | .is l v'=>match S.get l with
  | some v=>if v.isCell then some (S.put l v',[v=v']) else none
  | none=>none
 | .ent g j e'=>match S.ent g j with
  | some e=>some (S.setE g j e',[e=e'])
  | none=>none
 | .plug g j idx off r e=>match S.ent g j,r[off]? with
  | some (.deep o t sz n rows),some (.own g' j' sz' lo n')=>match R5 none (some e) (.own g' j' sz' lo n') S.ent with
   | some (f,_)=>if off+1<=sz/\a3F f.ks/\a1R f.ks (g,j)=false then some (S.upds (G0 f.ks++[((g,j),.deep o t sz n (rows.set idx (A5 r off [f.v])))]),(rows[idx]?=some r)::f.obl) else none
   | none=>none
  | _,_=>none
 | .kill g j=>match S.ent g j with
  | some _=>some (S.setE g j .dead,[])
  | none=>none
 | .shut g j n' rows'=>match S.ent g j with
  | some (.deep o t sz n rows)=>some (S.setE g j (.deep false t sz n' rows'),[rows=rows',H9 rows',n=n'])
  | _=>none
 | .ownD l e sz=>match S.get l with
  | some .nil=>some (((S.more 1).lay S.h.length [.deep false e sz 0 []]).put l (.own S.h.length 0 sz 0 0),[])
  | _=>none
def b1q:List Fix->St->Option (St×List Prop)
 | [],S=>some (S,[])
 | f::fs,S=>match a6m f S with
  | some (S1,ps)=>match b1q fs S1 with
   | some (S2,qs)=>some (S2,ps++qs)
   | none=>none
  | none=>none
section
variable {cx:Cx} {Γ:O8} {F:Nat->Prop} {ι:Nat->Nat->Value} {S S':St} {a:Act} {w:World}
theorem RV.isCell{D:Nat->Prop}{v:V}{c:Value}(h:RV w F D ι v c)(hv:v.isCell=true):RC w F D ι v c:=by
 cases h with
 | one v c h =>
  cases h with
  | cell v c h=>exact h
  | agg cs ds h=>cases hv
 | tup cs ds h=>cases hv
 | any c=>cases hv
theorem u0.withT(h:u0 Γ F ι S a w){t:List V}(ht:x8 (RV w F S.D ι) t a.tmps.toList):u0 Γ F ι {S with t:=t} a w :=
 {F0:=h.F0,F1:=h.F1,F2:=h.F2,kept:=h.kept,tmps:=ht,ents:=h.ents,sep:=h.sep,inj:=h.inj,defers:=h.defers,pins:=h.pins}
theorem x8.set_left{α β:Type}{R:α->β->Prop}{B2:List α}{bs:List β}(h:x8 R B2 bs){i:Nat}{x y:α}(hx:B2[i]?=some x)(hy:∀b,R x b->R y b):x8 R (B2.set i y) bs:=by
 obtain ⟨b,hb,hr⟩:=h.get hx;have:=h.set i (hy b hr);rwa [a0w hb] at this
theorem u0.putL(h:u0 Γ F ι S a w){l:Loc}{v v':V}(hg:S.get l=some v)(hc:v.isCell=true)(hr:∀c,RC w F S.D ι v c->RC w F S.D ι v' c):u0 Γ F ι (S.put l v') a w:=by
 cases l with
 | tmp t =>
  exact h.withT (h.tmps.set_left hg fun c hv=>.one _ _ (.cell _ _ (hr c (hv.isCell hc))))
 | sub t i =>
  unfold St.get at hg;unfold St.put;simp only at hg ⊢;split at hg<;>try (cases hg;done)
  rename_i cs hcs;try rw [hcs]
  refine h.withT (h.tmps.set_left hcs fun c hv => ?_);cases hv with
  | one v c hv =>
   cases hv with
   | cell v c hv=>cases hv with|fv v c hv=>cases hv
   | agg cs ds hv=>exact .one _ _ (.agg _ _ (hv.set_left hg hr))
 | cell g j i =>
  unfold St.get at hg;unfold St.put;simp only at hg ⊢;split at hg<;>try (cases hg;done)
  rename_i e cs hcs;try rw [hcs]
  try simp only
  refine h.write hcs rfl ⟨rfl,rfl,rfl⟩ rfl (fun _ _=>rfl) (fun _ => ?_) (fun _ hk=>hk);obtain ⟨g0,cur,h1,h2,h3⟩:=h.ents g j _ hcs;exact ⟨g0,cur,h1,h2,(h3.set_left hg hr).imp fun _ _ x=>x.mono (fun _ _ _=>rfl) (fun _ y=>y) (fun k y=>Q5.2 y) (fun _ _ _=>rfl)⟩
theorem c7l{grp:Nat}{new:List s6}{l:Loc}{v:V}(h:S.get l=some v)(hn:¬S.D grp):(S.lay grp new).get l=some v:=by
 cases l with
 | tmp t=>exact h
 | sub t i=>exact h
 | cell g j i =>
  unfold St.get at h ⊢;simp only at h ⊢;split at h<;>try (cases h;done)
  rename_i e cs hcs;have:g≠grp:=fun q=>hn (q▸St.D_of_ent hcs)
  rw [a7Y this,hcs];exact h
theorem d4d{n:Nat}{l:Loc}{v:V}(h:S.get l=some v):(S.more n).get l=some v:=by
 cases l with
 | tmp t=>exact h
 | sub t i=>exact h
 | cell g j i =>
  unfold St.get at h ⊢;simp only at h ⊢;rw [b3r];exact h
theorem e4G{e:Nat}{v:V}{H:Hp}{f:AR V}{lg:List (Nat×Nat)}(h:R5 none (some e) v H=some (f,lg)):f.ls=[]:=by
 unfold R5 at h;simp only at h;split at h
 ·have:=j7.pure_some h;injection this with h1 h2;rw [h1]
 cases v<;>try (cases h;done)
 case nil =>
  have:=j7.pure_some h;injection this with h1 h2;rw [h1]
 case own g j sz lo n =>
  cases lo with
  | succ q=>cases h
  | zero =>
   simp only at h;obtain ⟨en,l1,l2,hrd,hp,_⟩:=j7.bind_some h;cases en<;>try (cases hp;done)
   case row =>
    simp only at hp;split at hp<;>try (cases hp;done)
    have:=j7.pure_some hp;injection this with h1 h2;rw [h1]
   case deep o _ _ _ _ =>
    cases o<;>try (cases hp;done)
    simp only at hp;split at hp<;>try (cases hp;done)
    have:=j7.pure_some hp;injection this with h1 h2;rw [h1]
theorem f0y{g j idx off e:Nat}{r:List V}{ps:List Prop}(h:u0 Γ F ι S a w)(hf:a6m (.plug g j idx off r e) S=some (S',ps))(hob:∀p∈ps,p):u0 Γ F ι S' a w:=by
 unfold a6m at hf;simp only at hf;split at hf<;>try (cases hf;done)
 rename_i o t sz n rows g' j' sz' lo n' he hv;split at hf<;>try (cases hf;done)
 rename_i f lg hm;split at hf<;>try (cases hf;done)
 rename_i hcond;injection hf with hf;injection hf with h1 h2;subst h1;subst h2;obtain ⟨hoff,hks,hgj⟩:=hcond;have hr:rows[idx]?=some r:=hob _ (by simp);obtain ⟨flat,fs,hor,hkl,hrn,hl,hnd,hnr⟩:=h.ents g j _ he;have hidx:=(f5z.1 hr).1;have hpos:idx*sz+sz<=n*sz:=by rw [<-f6C];exact f5Y _ (by omega)
 have hle:idx*sz+off+1<=rows.flatten.length:=by rw [a3K hl,hrn];omega
 have hmid:(rows.flatten.drop (idx*sz+off)).take 1=[.own g' j' sz' lo n']:=by
  have:(rows.flatten.drop (idx*sz+off)).take 1=(r.drop off).take 1:=by
   rw [<-b3k hl hr,List.drop_take,List.take_take,f7h];congr 1
   omega
  rw [this];obtain ⟨hlt,hv'⟩:=f5z.1 hv;rw [f5U hlt,hv'];rfl
 obtain ⟨fa,fm,fb,rfl,ka,km,kb⟩:=hkl.cut hle;rw [hmid] at km;obtain ⟨c,hc,hkc⟩:∃c,(flat.drop (idx*sz+off)).take 1=[c]/\RC w F S.D ι (.own g' j' sz' lo n') c:=by
  generalize (flat.drop (idx*sz+off)).take 1=cs at km;cases km with
  | cons v c f vs cs fs h t =>
   cases t;refine ⟨c,rfl,?_⟩;cases h with
   | rc h=>exact h
   | bc _ h=>cases h with
    | fv _ _ h=>exact .fv _ _ h
 obtain ⟨fp,hb,hfps,_⟩:=c4M (F1:=F) h (fun _ x=>x) hkc hm (fun p hp=>hob p (f5B.2 (.inr hp))) (by rw [e4G hm];intro id hid;cases hid);have hbl:BL w F [f.v] [c] fp:=by
  have:=BL.cons _ _ _ _ _ _ hb .nil;simpa using this
 refine h.dput he hr (by simpa using hoff) hbl hfps (a49 hks) (fun q=>by rw [a6i.2 q] at hgj;cases hgj) ⟨rfl,rfl,rfl⟩ rfl (fun _ _=>rfl) ?_;intro flat2 ho2;have:=b0F ho2 hor (fun _ _=>rfl);subst this;have e1:A5 flat2 (idx*sz+off) [c]=flat2:=by
  unfold A5;rw [<-hc,f5J];have hl1:((flat2.drop (idx*sz+off)).take 1).length=1:=by rw [hc];rfl
  rw [hl1];have e2:∀k:Nat,flat2.take k++((flat2.drop k).take 1++flat2.drop (k+1))=flat2:=fun k=>by
   rw [<-f7h,f6r,f6r]
  exact e2 _
 rw [e1];exact ho2
theorem d68{g j n':Nat}{rows':List (List V)}{ps:List Prop}(h:u0 Γ F ι S a w)(hf:a6m (.shut g j n' rows') S=some (S',ps))(hob:∀p∈ps,p):u0 Γ F ι S' a w:=by
 unfold a6m at hf;simp only at hf;split at hf<;>try (cases hf;done)
 rename_i o t sz n rows he;injection hf with hf;injection hf with h1 h2;subst h1;subst h2;have hrr:rows=rows':=hob _ (by simp);have hnr:H9 rows':=hob _ (by simp);have hnn:n=n':=hob _ (by simp);subst hrr;subst hnn;refine h.write he rfl ⟨rfl,rfl,rfl⟩ rfl (fun _ _=>rfl) (fun _ => ?_) (fun k hk=>hk);obtain ⟨flat,fs,q1,q2,q3,q4,q5,q6⟩:=h.ents g j _ he;exact ⟨flat,fs,q1,q2.mono (fun _ _ _=>rfl) (fun _ x=>x) (fun k x=>Q5.2 x) (fun _ _ _=>rfl) (fun _ _=>rfl),q3,q4,q5,fun _=>hnr⟩
theorem e9e{f:Fix}{ps:List Prop}(h:u0 Γ F ι S a w)(hf:a6m f S=some (S',ps))(hob:∀p∈ps,p):∃F' ι',u0 Γ F' ι' S' a w:=by
 unfold a6m at hf;split at hf
 ·rename_i l e sz;split at hf<;>try (cases hf;done)
  rename_i hg;injection hf with hf;injection hf with hf hf2;subst hf;have hn:¬(S.more 1).D S.h.length:=fun q=>by
   obtain ⟨x,hx⟩:=b01.1 q;have:=(f5z.1 hx).1;omega
  have hlen:S.h.length<(S.more 1).h.length:=by simp [St.more,a4a]
  have hor:OR w F e sz (.slice none 0 0) 0 []:=⟨[],⟨by simp,.inl ⟨rfl,rfl⟩⟩,.nil,rfl,by simp⟩
  have hno:∀(j:Nat) (e':s6) (k:Nat),([.row e sz 0 []]:List s6)[j]?=some e'->EB w e' (L9 ι S.h.length (.slice none 0 0) S.h.length j) k->False:=by
   intro j e' k he hk;rw [P4] at hk;cases j with
   | zero =>
    simp at he;subst he;cases hk
   | succ j=>simp at he
  have h1:=(h.more 1).lay hlen hn (new:=[.row e sz 0 []]) (ι':=L9 ι S.h.length (.slice none 0 0)) (fun g j q=>b0z q)
   (fun j e' he=>by
    cases j with
    | zero =>
     simp at he;subst he;rw [P4];exact hor
    | succ j=>simp at he)
   (fun j e' k he hl hk=>(hno j e' k he hk).elim)
   (fun j e' j' e'' k he he' hl hl' hk hk'=>(hno j e' k he hk).elim)
   (fun j e' g' j' e'' k he he' hl hl' hk=>(hno j e' k he hk).elim)
  refine ⟨F,_,h1.putL (c7l (d4d hg) hn) rfl fun c hc => ?_⟩;have hcn:c=.slice none 0 0:=by
   cases hc with
   | fv v c hc=>cases hc;rfl
  subst hcn;exact RC.whole (a0P hlen) P4 hor
 ·rename_i l ck;split at hf<;>try (cases hf;done)
  rename_i v hg;split at hf<;>try (cases hf;done)
  rename_i hcell;split at hf<;>try (cases hf;done)
  rename_i v' us fps lg hz;injection hf with hf;injection hf with hf hf2;subst hf;subst hf2;have hfr:∀c,RC w F S.D ι v c->∃F',(∀k,F k->F' k)/\u0 Γ F' ι (S.upds us) a w/\Frz S (S.upds us)/\FV w F' v' c:=fun c hc=>b1N h (Frz.refl S) hc hz hob
  have hat:∃c,RC w F S.D ι v c:=by
   cases l with
   | tmp t =>
    obtain ⟨c,_,hv⟩:=h.tmps.get hg;exact ⟨c,hv.isCell hcell⟩
   | sub t i =>
    unfold St.get at hg;simp only at hg;split at hg<;>try (cases hg;done)
    rename_i cs hcs;obtain ⟨c,_,hv⟩:=h.tmps.get hcs;cases hv with
    | one v c hv =>
     cases hv with
     | cell v c hv=>cases hv with|fv v c hv=>cases hv
     | agg cs ds hv =>
      obtain ⟨c,_,hv⟩:=hv.get hg;exact ⟨c,hv⟩
   | cell g j i =>
    unfold St.get at hg;simp only at hg;split at hg<;>try (cases hg;done)
    rename_i e cs hcs;obtain ⟨g0,cur,h1,h2,h3⟩:=h.ents g j _ hcs;obtain ⟨c,_,hv⟩:=h3.get hg;exact ⟨c,hv⟩
  obtain ⟨c0,hc0⟩:=hat;obtain ⟨F',hF,hrel,hfz,hfv⟩:=hfr c0 hc0;clear hfr hfv;cases l with
  | tmp t =>
   obtain ⟨c,hct,hv⟩:=h.tmps.get hg;obtain ⟨F',hF,hrel,hfz,hfv⟩:=b1N h (Frz.refl S) (hv.isCell hcell) hz hob;refine ⟨F',ι,?_⟩;have ht:(S.upds us).t=S.t:=hfz.2.2.1;show u0 Γ F' ι {S.upds us with t:=(S.upds us).t.set t v'} a w
   refine hrel.withT ?_;have:=hrel.tmps.set t (b:=c) (.one _ _ (.cell _ _ (.fv _ _ hfv)));rwa [a0w hct] at this
  | sub t i =>
   unfold St.get at hg;simp only at hg;split at hg<;>try (cases hg;done)
   rename_i cs hcs;obtain ⟨c,hct,hv⟩:=h.tmps.get hcs;cases hv with
   | one v c hv =>
    cases hv with
    | cell v c hv=>cases hv with|fv v c hv=>cases hv
    | agg cs ds hv =>
     obtain ⟨c,hci,hvi⟩:=hv.get hg;obtain ⟨F',hF,hrel,hfz,hfv⟩:=b1N h (Frz.refl S) hvi hz hob;refine ⟨F',ι,?_⟩;have ht:(S.upds us).t=S.t:=hfz.2.2.1;unfold St.put;simp only [ht,hcs];have h2:=hrel.tmps;rw [ht] at h2;have:=hrel.withT (t:=S.t.set t (.agg (cs.set i v'))) ?_
     ·exact this
     ·have hagg:=h2.get hcs;obtain ⟨c',hct',hv'⟩:=hagg;rw [hct] at hct';injection hct' with hct';have hv2:x8 (RC w F' (S.upds us).D ι) cs ds:=by
       refine hv.imp fun _ _ x=>x.mono (fun _ _ _=>rfl) hF (fun k y=>(a0y S k us).2 y) (fun _ _ _=>rfl)
      have hset:=hv2.set i (b:=c) (.fv _ _ hfv);rw [a0w hci] at hset;have:=h2.set t (b:=.agg ds.toArray) (.one _ _ (.agg _ _ hset));rwa [a0w hct] at this
  | cell g j i =>
   unfold St.get at hg;simp only at hg;split at hg<;>try (cases hg;done)
   rename_i e cs hcs;obtain ⟨g0,cur,q1,q2,q3⟩:=h.ents g j _ hcs;obtain ⟨c,hci,hvi⟩:=q3.get hg;obtain ⟨F',hF,hrel,hfz,hfv⟩:=b1N h (Frz.refl S) hvi hz hob;refine ⟨F',ι,?_⟩;have hcs':(S.upds us).ent g j=some (.var e cs):=by
    rcases hfz.2.2.2 _ _ _ hcs with q|⟨e',sz,n,rows,q,_⟩
    ·exact q
    ·cases q
   unfold St.put;simp only [hcs'];refine hrel.write hcs' rfl ⟨rfl,rfl,rfl⟩ rfl (fun _ _=>rfl) (fun _ => ?_) (fun _ hk=>hk);have hset:=(q3.imp fun _ _ x=>RC.mono (D':=((S.upds us).setE g j (.var e (cs.set i v'))).D) (F':=F') (w':=w) (ι':=ι) (fun _ _ _=>rfl) hF (fun k y=>Q5.2 ((a0y S k us).2 y)) (fun _ _ _=>rfl) x).set i (b:=c) (.fv _ _ hfv);rw [a0w hci] at hset;exact ⟨g0,cur,q1,q2,hset⟩
 ·rename_i l v';split at hf<;>try (cases hf;done)
  rename_i v hg;split at hf<;>try (cases hf;done)
  rename_i hcell;injection hf with hf;injection hf with hf hf2;subst hf;subst hf2;have:v=v':=hob _ (by simp);subst this;exact ⟨F,ι,h.putL hg hcell fun _ x=>x⟩
 ·rename_i g j e';split at hf<;>try (cases hf;done)
  rename_i e he;injection hf with hf;injection hf with hf hf2;subst hf;subst hf2;have:e=e':=hob _ (by simp);subst this;have hset:S.setE g j e=S:=by
   obtain ⟨l,hl⟩:=St.D_of_ent he;rw [a2Q hl];rw [a17 hl] at he;rw [a0w he,a0w hl]
  rw [hset];exact ⟨F,ι,h⟩
 ·rename_i g j idx off r e;exact ⟨F,ι,f0y (g:=g) (j:=j) (idx:=idx) (off:=off) (r:=r) (e:=e) h hf hob⟩
 ·rename_i g j;split at hf<;>try (cases hf;done)
  rename_i e he;injection hf with hf;injection hf with hf hf2;subst hf;exact ⟨F,ι,h.kill he⟩
 ·rename_i g j n' rows';exact ⟨F,ι,d68 (g:=g) (j:=j) (n':=n') (rows':=rows') h hf hob⟩
 ·rename_i l e sz;split at hf<;>try (cases hf;done)
  rename_i hg;injection hf with hf;injection hf with hf hf2;subst hf;have hn:¬(S.more 1).D S.h.length:=fun q=>by
   obtain ⟨x,hx⟩:=b01.1 q;have:=(f5z.1 hx).1;omega
  have hlen:S.h.length<(S.more 1).h.length:=by simp [St.more,a4a]
  have hor:OR w F e sz (.slice none 0 0) 0 []:=⟨[],⟨by simp,.inl ⟨rfl,rfl⟩⟩,.nil,rfl,by simp⟩
  have hno:∀(j:Nat) (e':s6) (k:Nat),([.deep false e sz 0 []]:List s6)[j]?=some e'->EB w e' (L9 ι S.h.length (.slice none 0 0) S.h.length j) k->False:=by
   intro j e' k he hk;rw [P4] at hk;cases j with
   | zero =>
    simp at he;subst he;have:=(EB.deep_iff (F:=F) (D:=S.D) (ι:=ι) (flat:=[]) (fs:=[]) ⟨by simp,.inl ⟨rfl,rfl⟩⟩ .nil).1 hk;simp [E0,B0] at this
   | succ j=>simp at he
  have h1:=(h.more 1).lay hlen hn (new:=[.deep false e sz 0 []]) (ι':=L9 ι S.h.length (.slice none 0 0)) (fun g j q=>b0z q)
   (fun j e' he=>by
    cases j with
    | zero =>
     simp at he;subst he;rw [P4];exact ⟨[],[],⟨by simp,.inl ⟨rfl,rfl⟩⟩,.nil,rfl,by simp,by simp [E0,B0],fun _=>by simp [H9]⟩
    | succ j=>simp at he)
   (fun j e' k he hl hk=>(hno j e' k he hk).elim)
   (fun j e' j' e'' k he he' hl hl' hk hk'=>(hno j e' k he hk).elim)
   (fun j e' g' j' e'' k he he' hl hl' hk=>(hno j e' k he hk).elim)
  refine ⟨F,_,h1.putL (c7l (d4d hg) hn) rfl fun c hc => ?_⟩;have hcn:c=.slice none 0 0:=by
   cases hc with
   | fv v c hc=>cases hc;rfl
  subst hcn;exact RC.whole (a0P hlen) P4 hor
theorem e2Y(fs:List Fix):∀{S:St} {F:Nat->Prop} {ι:Nat->Nat->Value} {ps:List Prop},u0 Γ F ι S a w->b1q fs S=some (S',ps)->(∀p∈ps,p)->∃F' ι',u0 Γ F' ι' S' a w:=by
 induction fs with
 | nil =>
  intro S F ι ps h hf hob;injection hf with hf;injection hf with hf hf2;subst hf;exact ⟨F,ι,h⟩
 | cons f fs ih =>
  intro S F ι ps h hf hob;unfold b1q at hf;cases h1:a6m f S with
  | none=>rw [h1] at hf;cases hf
  | some x1 =>
  obtain ⟨S1,ps1⟩:=x1;rw [h1] at hf;simp only at hf;cases h2:b1q fs S1 with
  | none=>rw [h2] at hf;cases hf
  | some x2 =>
  obtain ⟨S2,ps2⟩:=x2;rw [h2] at hf;simp only at hf;injection hf with hf;injection hf with hf hf2;subst hf;subst hf2;obtain ⟨F1,ι1,h3⟩:=e9e h h1 (fun p hp=>hob p (List.mem_append.2 (.inl hp)));exact ih h3 h2 (fun p hp=>hob p (List.mem_append.2 (.inr hp)))
end
def a8c:List (Nat×Nat)->Nat×Nat->Nat->Option Nat
 | [],_,_=>none
 | y::l,x,i=>if y.1==x.1&&y.2==x.2 then some i else a8c l x (i+1)
def b0H(gs:List (Nat×Nat))(g j:Nat):Option (Nat×Nat) :=
 match a8c gs (g,j) 1 with
 | some i=>some (i,0)
 | none=>match g with
  | 0=>some (0,j)
  | _+1=>none
def W3(gs:List (Nat×Nat))(v:V):V :=
 match v with
 | .own g j sz lo n=>match b0H gs g j with
  | some (g',j')=>.own g' j' sz lo n
  | none=>.bot
 | .ptr g j off=>match b0H gs g j with
  | some (g',j')=>.ptr g' j' off
  | none=>.bot
 | .eptr g j sz idx off=>match b0H gs g j with
  | some (g',j')=>.eptr g' j' sz idx off
  | none=>.bot
 | .fptr _=>.bot
 | .mp g j=>match b0H gs g j with
  | some (g',j')=>.mp g' j'
  | none=>.bot
 | v=>v
def b3z(gs:List (Nat×Nat))(v:V):V :=
 match v with
 | .agg cs=>.agg (cs.map (W3 gs))
 | v=>W3 gs v
def c4K(gs:List (Nat×Nat))(v:V):V :=
 match v with
 | .tup cs=>.tup (cs.map (b3z gs))
 | v=>b3z gs v
def a8r(gs:List (Nat×Nat))(e:s6):s6 :=
 match e with
 | .var e cs=>.var e (cs.map (W3 gs))
 | .deep true _ _ _ _=>.dead
 | e=>e
def a7I(gs:List (Nat×Nat)):Nat->List Nat->List V->List V
 | _,_,[]=>[]
 | i,[],_::vs=>.bot::a7I gs (i+1) [] vs
 | i,k::ks,v::vs=>if Nat.beq k i then c4K gs v::a7I gs (i+1) ks vs else .bot::a7I gs (i+1) (k::ks) vs
def a7k(S:St)(gs0:List (Nat×Nat)):List (Nat×Nat)->List (Option (List s6))
 | []=>[]
 | id::gs=>some [match S.ent id.1 id.2 with
  | some e=>a8r gs0 e
  | none=>.dead]::a7k S gs0 gs
def b0S(gs:List (Nat×Nat)):Nat->List s6->List s6
 | _,[]=>[]
 | j,e::es=>(match a8c gs (0,j) 1 with
  | some _=>.dead
  | none=>a8r gs e)::b0S gs (j+1) es
def a1n(keep:List Nat)(gs:List (Nat×Nat))(S:St):Option St :=
 if a3F gs then
  some {t:=a7I gs 0 keep S.t,h:=(match S.h with
   | some l::_=>some (b0S gs 0 l)
   | _=>none)::a7k S gs gs}
 else none
section
variable {cx:Cx} {Γ:O8} {F:Nat->Prop} {ι:Nat->Nat->Value} {S S':St} {a:Act} {w:World} {keep:List Nat}
theorem d0U:∀{l:List (Nat×Nat)} {x:Nat×Nat} {i k:Nat},a8c l x i=some k->i<=k/\l[k-i]?=some x
 | [],x,i,k,h=>by cases h
 | y::l,x,i,k,h=>by
  unfold a8c at h;split at h
  ·rename_i q;injection h with h;subst h;simp at q;have:y=x:=Prod.ext q.1 q.2;exact ⟨f5K _,by simp [this]⟩
  ·obtain ⟨h1,h2⟩:=d0U h;refine ⟨by omega,?_⟩;have:k-i=(k-(i+1))+1:=by omega
   rw [this];simpa using h2
def a5h(ι:Nat->Nat->Value)(gs:List (Nat×Nat))(g j:Nat):Value :=
 match g with
 | 0=>ι 0 j
 | g+1=>match gs[g]? with
  | some id=>ι id.1 id.2
  | none=>.nilFunc
theorem c3B{gs0:List (Nat×Nat)}:∀{gs:List (Nat×Nat)} {i:Nat} {id:Nat×Nat},gs[i]?=some id->(a7k S gs0 gs)[i]?=some (some [match S.ent id.1 id.2 with
  | some e=>a8r gs0 e
  | none=>.dead])
 | id'::gs,0,id,h=>by simp at h;subst h;simp [a7k]
 | id'::gs,i+1,id,h=>by simp at h;simp [a7k,c3B h]
theorem d4T{gs0:List (Nat×Nat)}:∀{gs:List (Nat×Nat)},(a7k S gs0 gs).length=gs.length
 | []=>rfl
 | _::gs=>by simp [a7k,d4T]
theorem c6h{gs:List (Nat×Nat)}(hp:a1n keep gs S=some S')(hD:S.D 0):S'.D 0:=by
 unfold a1n at hp;split at hp<;>try (cases hp;done)
 injection hp with hp;subst hp;obtain ⟨l,hl⟩:=hD;have:∃t,S.h=some l::t:=by
  cases hh:S.h with
  | nil=>rw [hh] at hl;simp at hl
  | cons x t=>rw [hh] at hl;simp at hl;exact ⟨t,by rw [hl]⟩
 obtain ⟨t,ht⟩:=this;rw [ht];exact ⟨_,rfl⟩
theorem b3M{gs:List (Nat×Nat)}(hp:a1n keep gs S=some S'){g j g' j':Nat}(hn:b0H gs g j=some (g',j'))(hD:S.D g):S'.D g'/\a5h ι gs g' j'=ι g j:=by
 unfold b0H at hn;split at hn
 ·rename_i i hi;injection hn with hn;injection hn with h1 h2;subst h1;subst h2;unfold a1n at hp;split at hp<;>try (cases hp;done)
  injection hp with hp;subst hp;obtain ⟨h3,h4⟩:=d0U hi;obtain ⟨m,rfl⟩:∃m,i=m+1:=⟨i-1,by omega⟩
  simp only [Nat.add_sub_cancel] at h4;refine ⟨⟨_,(f6F).trans (c3B h4)⟩,?_⟩;simp [a5h,h4]
 ·split at hn<;>try (cases hn;done)
  injection hn with hn;injection hn with h1 h2;subst h1;subst h2;exact ⟨c6h hp hD,rfl⟩
theorem c8w:∀{l:List (Nat×Nat)} {x:Nat×Nat} {i:Nat},a8c l x i=none->x ∉ l
 | [],x,i,_=>by simp
 | y::l,x,i,h=>by
  unfold a8c at h;split at h
  ·cases h
  ·rename_i q;intro hx;rcases f5B.1 hx with rfl|hx
   ·simp at q
   ·exact c8w h hx
theorem c7u{gs:List (Nat×Nat)}:∀{l:List s6} {i j:Nat} {e:s6},(b0S gs i l)[j]?=some e->e=.dead\/∃e0,l[j]?=some e0/\e=a8r gs e0/\(0,i+j) ∉ gs
 | [],i,j,e,h=>by simp [b0S] at h
 | e1::l,i,0,e,h=>by
  simp only [b0S,f6A] at h;injection h with h;split at h
  ·exact .inl h.symm
  ·rename_i hq;exact .inr ⟨e1,rfl,h.symm,by simpa using c8w hq⟩
 | e1::l,i,j+1,e,h=>by
  simp only [b0S,f6F] at h;rcases c7u h with h1|⟨e0,h1,h2,h3⟩
  ·exact .inl h1
  ·exact .inr ⟨e0,by simpa using h1,h2,by rw [show i+(j+1)=i+1+j by omega];exact h3⟩
theorem RC.ren{gs:List (Nat×Nat)}(hp:a1n keep gs S=some S'){v:V}{c:Value}(h:RC w F S.D ι v c):RC w F S'.D (a5h ι gs) (W3 gs v) c:=by
 cases h with
 | fv v c h =>
  have:W3 gs v=v:=by cases h<;>rfl
  rw [this];exact .fv _ _ h
 | own g j sz lo n b nn cap hD hι hlo hb0 hb1 =>
  unfold W3;simp only;split
  ·rename_i g' j' hn;obtain ⟨h1,h2⟩:=b3M (ι:=ι) hp hn hD;exact .own g' j' sz lo n b nn cap h1 (h2.trans hι) hlo hb0 hb1
  ·exact .fv _ _ (.bot _ rfl)
 | own0 g j sz lo b cap hD hlo =>
  unfold W3;simp only;split
  ·rename_i g' j' hn;obtain ⟨h1,h2⟩:=b3M (ι:=ι) hp hn hD;exact .own0 g' j' sz lo b cap h1 hlo
  ·exact .fv _ _ (.bot _ rfl)
 | ptr g j off B0 hD hι =>
  unfold W3;simp only;split
  ·rename_i g' j' hn;obtain ⟨h1,h2⟩:=b3M (ι:=ι) hp hn hD;exact .ptr g' j' off B0 h1 (h2.trans hι)
  ·exact .fv _ _ (.bot _ rfl)
 | eptr g j sz idx off b hD hι =>
  unfold W3;simp only;split
  ·rename_i g' j' hn;obtain ⟨h1,h2⟩:=b3M (ι:=ι) hp hn hD;exact .eptr g' j' sz idx off b h1 (by rw [h2];exact hι)
  ·exact .fv _ _ (.bot _ rfl)
 | fptr cs g o ds hF h hs=>exact .fv _ _ (.bot _ rfl)
 | mp g j B0 hD hι =>
  unfold W3;simp only;split
  ·rename_i g' j' hn;obtain ⟨h1,h2⟩:=b3M (ι:=ι) hp hn hD;exact .mp g' j' B0 h1 (h2.trans hι)
  ·exact .fv _ _ (.bot _ rfl)
theorem x8.maps{α α' β:Type}{R:α->β->Prop}{R':α'->β->Prop}(f:α->α')(hf:∀x y,R x y->R' (f x) y):∀{B2 bs},x8 R B2 bs->x8 R' (B2.map f) bs
 | _,_,.nil=>.nil
 | _,_,.cons h t=>.cons (hf _ _ h) (t.maps f hf)
theorem RA.ren{gs:List (Nat×Nat)}(hp:a1n keep gs S=some S'){v:V}{c:Value}(h:RA w F S.D ι v c):RA w F S'.D (a5h ι gs) (b3z gs v) c:=by
 cases h with
 | cell v c h =>
  have:b3z gs v=W3 gs v:=by
   cases h with
   | fv v c h=>cases h<;>rfl
   | _=>rfl
  rw [this];exact .cell _ _ (h.ren hp)
 | agg cs ds h=>exact .agg _ _ (h.maps _ fun _ _ x=>x.ren hp)
theorem RV.ren{gs:List (Nat×Nat)}(hp:a1n keep gs S=some S'){v:V}{c:Value}(h:RV w F S.D ι v c):RV w F S'.D (a5h ι gs) (c4K gs v) c:=by
 cases h with
 | one v c h =>
  have:c4K gs v=b3z gs v:=by
   cases h with
   | cell v c h =>
    cases h with
    | fv v c h=>cases h<;>rfl
    | _=>rfl
   | agg cs ds h=>rfl
  rw [this];exact .one _ _ (h.ren hp)
 | tup cs ds h=>exact .tup _ _ (h.maps _ fun _ _ x=>x.ren hp)
 | any c=>exact .any c
theorem b8j{gs:List (Nat×Nat)}(hp:a1n keep gs S=some S'):∀{vs:List V} {cs:List Value},x8 (RV w F S.D ι) vs cs->∀(i:Nat) (ks:List Nat),x8 (RV w F S'.D (a5h ι gs)) (a7I gs i ks vs) cs
 | _,_,.nil,i,ks=>by cases ks<;>exact .nil
 | _,_,.cons h t,i,[]=>.cons (.any _) (b8j hp t _ _)
 | _,_,.cons h t,i,k::ks=>by
  unfold a7I;split
  ·exact .cons (h.ren hp) (b8j hp t _ _)
  ·exact .cons (.any _) (b8j hp t _ _)
theorem b4N{gs:List (Nat×Nat)}(hp:a1n keep gs S=some S'){g j:Nat}{e:s6}(he:S'.ent g j=some e):e=.dead\/∃g0 j0 e0,S.ent g0 j0=some e0/\e=a8r gs e0/\a5h ι gs g j=ι g0 j0/\((g=0/\g0=0/\j=j0/\(0,j) ∉ gs)\/(∃i,g=i+1/\j=0/\gs[i]?=some (g0,j0))):=by
 unfold a1n at hp;split at hp<;>try (cases hp;done)
 injection hp with hp;subst hp;cases g with
 | zero =>
  unfold St.ent at he;simp only [f6A] at he;split at he<;>try (cases he;done)
  rename_i l hl;injection hl with hl;split at hl<;>try (cases hl;done)
  rename_i l0 t hh;injection hl with hl;subst hl;rcases c7u he with h1|⟨e0,h1,h2,h3⟩
  ·exact .inl h1
  ·exact .inr ⟨0,j,e0,by unfold St.ent;rw [hh];exact h1,h2,rfl,.inl ⟨rfl,rfl,rfl,by simpa using h3⟩⟩
 | succ i =>
  unfold St.ent at he;simp only [f6F] at he;split at he<;>try (cases he;done)
  rename_i l hl;have hlt:i<gs.length:=by
   have:=(f5z.1 hl).1;rwa [d4T] at this
  have hgi:gs[i]?=some gs[i]:=f5t hlt;generalize gs[i]=id at hgi;rw [c3B hgi] at hl;injection hl with hl;injection hl with hl;subst hl;cases j with
  | succ j=>simp at he
  | zero =>
   simp only [f6A] at he;injection he with he;cases hx:S.ent id.1 id.2 with
   | none=>rw [hx] at he;exact .inl he.symm
   | some e0 =>
    rw [hx] at he;exact .inr ⟨id.1,id.2,e0,hx,he.symm,by simp [a5h,hgi],.inr ⟨i,rfl,rfl,hgi⟩⟩
theorem d9Y{α:Type}{l:List α}(h:l.Nodup){i j:Nat}{x:α}(hi:l[i]?=some x)(hj:l[j]?=some x):i=j:=by
 obtain ⟨h1,h2⟩:=f5z.1 hi;obtain ⟨h3,h4⟩:=f5z.1 hj;exact (List.getElem_inj h).1 (h2.trans h4.symm)
theorem e7d{gs:List (Nat×Nat)}(h:u0 Γ F ι S a w)(hp:a1n keep gs S=some S'):∃ι',u0 Γ F ι' S' a w:=by
  have hnd:gs.Nodup:=by
    unfold a1n at hp;split at hp<;>try (cases hp;done)
    rename_i hchk;exact a49 hchk
  have hlive:∀e:s6,(a8r gs e).live=true->e.live=true/\∀c k,EB w (a8r gs e) c k->EB w e c k:=by
    intro e he;cases e with
    | deep o e sz n rows =>
      cases o with
      | true=>cases he
      | false=>exact ⟨rfl,fun _ _ hk=>hk⟩
    | _=>exact ⟨he,fun _ _ hk=>hk⟩
  have ht:S'.t=a7I gs 0 keep S.t:=by
    unfold a1n at hp;split at hp<;>try (cases hp;done)
    injection hp with hp;subst hp;rfl
  refine ⟨a5h ι gs,?_⟩;exact
    { F0:=h.F0,F1:=h.F1,F2:=h.F2,kept:=h.kept
      tmps:=by rw [ht];exact b8j hp h.tmps 0 keep
      ents:=fun g j e he=>by
        rcases b4N (ι:=ι) hp he with rfl|⟨g0,j0,e0,h0,rfl,h2,_⟩
        · trivial
        · rw [h2];have hr:=h.ents _ _ _ h0;cases e0 with
          | var e cs =>
            obtain ⟨g1,cur,q1,q2,q3⟩:=hr;exact ⟨g1,cur,q1,q2,q3.maps _ fun _ _ x=>x.ren hp⟩
          | dead=>exact hr
          | arr e sz n rows=>exact hr
          | row e sz n rows=>exact hr
          | frz sz n rows=>exact hr
          | map t m es=>exact hr
          | deep o e sz n rows =>
            cases o with
            | true=>trivial
            | false =>
              obtain ⟨flat,fs,q1,q2,q3,q4,q5,q6⟩:=hr;exact ⟨flat,fs,q1,(q2.blOf (q6 rfl).flat).kl,q3,q4,q5,q6⟩
      sep:=fun g j e k he hl hk=>by
        rcases b4N (ι:=ι) hp he with rfl|⟨g0,j0,e0,h0,rfl,h2,_⟩
        · cases hl
        · rw [h2] at hk;exact h.sep _ _ _ k h0 (hlive _ hl).1 ((hlive _ hl).2 _ _ hk)
      inj:=fun g1 j1 e1 g2 j2 e2 k he1 he2 hl1 hl2 hk1 hk2=>by
        rcases b4N (ι:=ι) hp he1 with rfl|⟨x1,y1,z1,a1,rfl,b1,c1⟩
        · cases hl1
        rcases b4N (ι:=ι) hp he2 with rfl|⟨x2,y2,z2,a2,rfl,b2,c2⟩
        · cases hl2
        rw [b1] at hk1;rw [b2] at hk2;obtain ⟨q1,q2⟩:=h.inj _ _ _ _ _ _ k a1 a2 (hlive _ hl1).1 (hlive _ hl2).1 ((hlive _ hl1).2 _ _ hk1) ((hlive _ hl2).2 _ _ hk2);rcases c1 with ⟨u1,u2,u3,u4⟩|⟨i1,u1,u2,u3⟩<;>rcases c2 with ⟨v1,v2,v3,v4⟩|⟨i2,v1,v2,v3⟩
        · exact ⟨by omega,by omega⟩
        · refine absurd (f5F v3) ?_;rw [<-q1,<-q2,u2,<-u3];exact u4
        · refine absurd (f5F u3) ?_;rw [q1,q2,v2,<-v3];exact v4
        · rw [q1,q2] at u3;have:=d9Y hnd u3 v3;exact ⟨by omega,by omega⟩
      defers:=h.defers
      pins:=fun j c hc=>by
        obtain ⟨h1,h2⟩:=h.pins j c hc;exact ⟨c6h hp h1,h2⟩}
end
def b07(cx:Cx)(k:List Item)(S:St)(sc:T0)(fs:List Fix)(keep:List Nat)(gs:List (Nat×Nat)):Option (List Item×St×List Prop) :=
 match goM cx 4000 k S sc with
 | some (k1,S1,ps)=>match b1q fs S1 with
  | some (S2,qs)=>match a1n keep gs S2 with
   | some S3=>some (k1,S3,ps++qs)
   | none=>none
  | none=>none
 | none=>none
theorem J9.seg0{cx:Cx}{X:O7}{res:V}{outs:List (Option V)}{k k':List Item}{S S':St}{sc:T0}{fs:List Fix}{keep:List Nat}{gs:List (Nat×Nat)}{ps:List Prop}(hg:b07 cx k S sc fs keep gs=some (k',S',ps))(hob:∀p∈ps,p)(h:J9 cx X res outs k' S'):J9 cx X res outs k S:=by
 unfold b07 at hg;split at hg<;>try (cases hg;done)
 rename_i k1 S1 ps' h1;split at hg<;>try (cases hg;done)
 rename_i S2 qs h2;split at hg<;>try (cases hg;done)
 rename_i S3 h3;injection hg with hg;injection hg with e1 e2;injection e2 with e2 e3;subst e1;subst e2;subst e3;refine J9.go h1 (fun p hp=>hob p (List.mem_append.2 (.inl hp))) ?_;intro w0 F0 fp cargs bs hp hF0 F ι a w b cs hrel hb1 hb2;obtain ⟨F',ι',hrel'⟩:=e2Y fs hrel h2 (fun p hp=>hob p (List.mem_append.2 (.inr hp)));obtain ⟨ι2,hrel2⟩:=e7d hrel' h3;exact h w0 F0 fp cargs bs hp hF0 F' ι2 a w b cs hrel2 hb1 hb2
def a90(cx:Cx)(X:O7)(k:List Item)(S:St)(sc:T0):Option (V×List (Option V)×List Prop) :=
 match goM cx 4000 k S sc with
 | some (k1,S1,ps)=>match c3b cx X k1 S1 with
  | some (res,outs,qs)=>some (res,outs,ps++qs)
  | none=>none
 | none=>none
theorem J9.fin0{cx:Cx}{X:O7}{res:V}{outs:List (Option V)}{k:List Item}{S:St}{sc:T0}{ps:List Prop}(hf:cx.P.funcs[X.f]?=some X.fn)(hg:a90 cx X k S sc=some (res,outs,ps))(hob:∀p∈ps,p):J9 cx X res outs k S:=by
 unfold a90 at hg;split at hg<;>try (cases hg;done)
 rename_i k1 S1 ps' h1;split at hg<;>try (cases hg;done)
 rename_i r o qs h2;injection hg with hg;injection hg with e1 e2;injection e2 with e2 e3;subst e1;subst e2;subst e3;exact J9.go h1 (fun p hp=>hob p (List.mem_append.2 (.inl hp))) (J9.ret hf h2 fun p hp=>hob p (List.mem_append.2 (.inr hp)))
def P3:List Prop->Prop
 | []=>True
 | p::ps=>p/\P3 ps
theorem P3.mem:∀{ps:List Prop},P3 ps->∀p∈ps,p
 | _::_,h,p,hp=>by
  rcases f5B.1 hp with rfl|hp
  ·exact h.1
  ·exact P3.mem h.2 p hp
theorem P3.nil:P3 []:=trivial
theorem J9.seg{cx:Cx}{X:O7}{res:V}{outs:List (Option V)}{k k':List Item}{S S':St}(sc:T0)(fs:List Fix)(keep:List Nat)(gs:List (Nat×Nat))(ps:List Prop)(hob:P3 ps)(h:J9 cx X res outs k' S')(hg:b07 cx k S sc fs keep gs=some (k',S',ps)):J9 cx X res outs k S :=
 J9.seg0 hg hob.mem h
theorem J9.fin{cx:Cx}{X:O7}{res:V}{outs:List (Option V)}{k:List Item}{S:St}(hf:cx.P.funcs[X.f]?=some X.fn)(sc:T0)(ps:List Prop)(hob:P3 ps)(hg:a90 cx X k S sc=some (res,outs,ps)):J9 cx X res outs k S :=
 J9.fin0 hf hg hob.mem
def a7e:V->Bool
 | .osl .. | .dsl .. | .optr .. => true
 | _=>false
def a16:List (Option Nat)->List V->Bool
 | [],[]=>true
 | none::om,.osl .. :: _=>false
 | none::om,.dsl .. :: _=>false
 | none::om,_::vs=>a16 om vs
 | some _::om,.osl .. :: vs=>a16 om vs
 | some _::om,.dsl .. :: vs=>a16 om vs
 | _,_=>false
def d1z:PM->V->Bool
 | .val _ om,.agg vs=>a16 om vs
 | .val ..,_=>false
 | .part,_=>false
 | _,v=>a7e v
def a4r:Nat->List (Option (Nat×PM))->List V->Bool
 | _,[],[]=>true
 | j,none::os,v::vs=>a4r (j+(K2 0 j v).2.length) os vs
 | j,some (j',m)::os,v::vs=>Nat.beq j' j&&d1z m v&&a4r (j+(K2 0 j v).2.length) os vs
 | _,_,_=>false
def b9K:Nat->List V
 | 0=>[]
 | n+1=>.bot::b9K n
def a9X(X:O7)(args:List V):St :=
 let x:=Y4 0 0 args
 {t:=x.1++b9K (X.fn.ntmps-args.length),h:=[some x.2]}
section
variable {w:World} {F:Nat->Prop}
theorem e0S{v:V}{c:Value}{f:List Nat}(h:BA w F v c f)(j:Nat):∃bs:List Value,bs.length=(K2 0 j v).2.length/\H3 w (K2 0 j v).2 bs f/\(a7e v=true->bs.head?=some c)/\
  ∀(D:Nat->Prop) (ι:Nat->Nat->Value),D 0->At ι 0 j bs->f.Nodup->RA w F D ι (K2 0 j v).1 c/\Lie w F D ι (K2 0 j v).2 bs:=by
 by_cases ho:a7e v=true
 ·cases h with
  | cell v c f h =>
   cases h with
   | fv v c h=>cases h<;>cases ho
   | osl e sz n rows c h =>
    refine ⟨[c],rfl,.one fun k hk=>R2.2 hk,fun _=>rfl,fun D ι hD hat _=>⟨.cell _ _ (RC.whole hD (hat 0 c rfl) h),?_⟩⟩;intro k e' b he hb;cases k with
    | zero =>
     simp [K2,J1] at he hb;subst he;subst hb;exact h
    | succ k=>simp [K2,J1] at he
   | dsl e sz n rows c flat fs h1 h2 h3 h4 =>
    obtain ⟨bs,q1,q2,q3⟩:=b5j (grp:=0) (BC.dsl e sz n rows c flat fs h1 h2 h3 h4) j;refine ⟨[c],rfl,.one fun k hk=>(EB.deep_iff (D:=fun _=>True) (ι:=fun _ _=>.nilFunc) h1 h2.kl).1 hk,fun _=>rfl,fun D ι hD hat hnd=>⟨.cell _ _ (RC.wholeO hD (hat 0 c rfl) h1),?_⟩⟩;intro k e' b he hb;cases k with
    | zero =>
     simp [K2,J1] at he hb;subst he;subst hb;exact ⟨flat,fs,h1,h2.kl,h3,h4,hnd,fun _=>H9.of_flat h2.noRef⟩
    | succ k=>simp [K2,J1] at he
  | agg cs ds f h=>cases ho
  | optr e cs g cur f hg h =>
   obtain ⟨bs,h1,h2,h3⟩:=a7X (grp:=0) h (j+1);refine ⟨.pointer (some ⟨g,0,none⟩)::bs,by simp [K2,h1],?_,fun _=>rfl,fun D ι hD hat hnd => ?_⟩
   ·exact H3.cons (w:=w) (e:=.var e (L0 0 (j+1) cs).1) (b:=.pointer (some ⟨g,0,none⟩)) (f1:=[g]) (fun k hk=>by
     have hk:B0 (.pointer (some ⟨g,0,none⟩))=some k:=hk;simp [B0] at hk;simp [hk]) h2
   have hat':At ι 0 (j+1) bs:=fun k b hb=>by
    have:=hat (k+1) b (by simpa using hb);rw [<-this];congr 1;omega
   obtain ⟨x,y⟩:=h3 D ι hD hat' (f6N.1 hnd).2;refine ⟨.cell _ _ (.ptr 0 j 0 g hD (hat 0 _ rfl)),?_⟩;intro k e' b he hb;cases k with
   | zero =>
    simp [K2] at he hb;subst he;subst hb;exact ⟨g,cur,rfl,hg,x⟩
   | succ k=>exact y k e' b (by simpa [K2] using he) (by simpa using hb)
 ·obtain ⟨bs,h1,h2,h3⟩:=c5s (grp:=0) h j;exact ⟨bs,h1,h2,fun q=>absurd q ho,h3⟩
theorem c0g{pre b1 b2:List Value}:∀{om:List (Option Nat)} {j:Nat} {ds:List Value},a6u (pre++b1) om j ds->a6u (pre++(b1++b2)) om j ds
 | [],_,[],_=>trivial
 | none::om,j,d::ds,h=>⟨h.1,c0g h.2⟩
 | some _::om,j,d::ds,h=>by
  refine ⟨?_,c0g h.2⟩;have h1:=h.1;rw [<-f5J,f5O (f5z.1 h1).1];exact h1
 | [],_,_::_,h=>h.elim
 | none::_,_,[],h=>h.elim
 | some _::_,_,[],h=>h.elim
theorem c9F:∀{vs:List V} {cs:List Value} {f:List Nat},BL w F vs cs f->∀j,∃bs:List Value,bs.length=(L0 0 j vs).2.length/\H3 w (L0 0 j vs).2 bs f/\
    (∀(om:List (Option Nat)) (pre:List Value),pre.length=j->a16 om vs=true->a6u (pre++bs) om j cs)/\
    ∀(D:Nat->Prop) (ι:Nat->Nat->Value),D 0->At ι 0 j bs->f.Nodup->x8 (RC w F D ι) (L0 0 j vs).1 cs/\Lie w F D ι (L0 0 j vs).2 bs
  | _,_,_,.nil,j=>⟨[],rfl,.nil,fun om pre _ h=>by cases om with|nil=>trivial|cons o om=>cases o<;>simp [a16] at h,fun D ι hD hat _=>⟨.nil,fun k e b he=>by simp [L0] at he⟩⟩
  | _,_,_,.cons v c f vs cs fs h t,j=>by
    have hone:=h.one;have hb:∃b1:List Value,b1.length=(J1 0 j v).2.length/\H3 w (J1 0 j v).2 b1 f/\(a7e v=true->b1=[c])/\(a7e v=false->b1=[])/\∀(D:Nat->Prop) (ι:Nat->Nat->Value),D 0->At ι 0 j b1->f.Nodup->RC w F D ι (J1 0 j v).1 c/\Lie w F D ι (J1 0 j v).2 b1:=by
      cases h with
      | fv v c h =>
        obtain ⟨b1,q1,q2,q3⟩:=b5j (grp:=0) (BC.fv (w:=w) v c h) j;have hv:(J1 0 j v).2=[]/\a7e v=false:=by cases h<;>exact ⟨rfl,rfl⟩
        have:b1=[]:=f5E (by rw [q1,hv.1];rfl);exact ⟨b1,q1,q2,fun q=>by (rw [hv.2] at q;cases q),fun _=>this,q3⟩
      | osl e sz n rows c h =>
        refine ⟨[c],rfl,.one fun k hk=>R2.2 hk,fun _=>rfl,(fun q=>by cases q),fun D ι hD hat _=>⟨RC.whole hD (hat 0 c rfl) h,?_⟩⟩;intro k e' b he hb;cases k with
        | zero =>
          simp [J1] at he hb;subst he;subst hb;exact h
        | succ k=>simp [J1] at he
      | dsl e sz n rows c flat fs h1 h2 h3 h4 =>
        refine ⟨[c],rfl,.one fun k hk=>(EB.deep_iff (D:=fun _=>True) (ι:=fun _ _=>.nilFunc) h1 h2.kl).1 hk,fun _=>rfl,(fun q=>by cases q),fun D ι hD hat hnd=>⟨RC.wholeO hD (hat 0 c rfl) h1,?_⟩⟩;intro k e' b he hb;cases k with
        | zero =>
          simp [J1] at he hb;subst he;subst hb;exact ⟨flat,fs,h1,h2.kl,h3,h4,hnd,fun _=>H9.of_flat h2.noRef⟩
        | succ k=>simp [J1] at he
    obtain ⟨b1,hl1,hf1,hi1,hi0,h1⟩:=hb;obtain ⟨b2,hl2,hf2,hp2,h2⟩:=c9F t (j+(J1 0 j v).2.length);refine ⟨b1++b2,by simp [L0,hl1,hl2],hf1.append hf2 hl1,?_,fun D ι hD hat hnd => ?_⟩
    · intro om pre hpre hok;have hnext:∀om,a16 om vs=true->a6u (pre++(b1++b2)) om (j+(J1 0 j v).2.length) cs:=by
        intro om hok;have:=hp2 om (pre++b1) (by simp [hpre,hl1]) hok;rwa [f5J] at this
      cases om with
      | nil=>simp [a16] at hok
      | cons o om =>
        by_cases hv:a7e v=true
        · obtain rfl:=hi1 hv;have hlen:(J1 0 j v).2.length=1:=by rw [<-hl1];rfl
          rw [hlen] at hnext;cases o with
          | none => cases v<;>first|(cases hv;done)|(simp [a16] at hok;done)|skip
                    cases h;rename_i h;cases h
          | some e =>
            refine ⟨?_,hnext om ?_⟩
            · rw [f5I (by omega)];simp [hpre]
            · cases v<;>first|(cases hv;done)|(simpa [a16] using hok)|(simp [a16] at hok;done)
        · have hv:a7e v=false:=by simpa using hv
          obtain rfl:=hi0 hv;have hlen:(J1 0 j v).2.length=0:=by rw [<-hl1];rfl
          rw [hlen] at hnext;cases o with
          | none =>
            refine ⟨hone,hnext om ?_⟩;cases v<;>first|(cases hv;done)|(simpa [a16] using hok)
          | some e=>cases v<;>first|(cases hv;done)|(simp [a16] at hok;done)
    · rw [f5C] at hnd;obtain ⟨x1,y1⟩:=h1 D ι hD hat.left hnd.1;obtain ⟨x2,y2⟩:=h2 D ι hD (by rw [<-hl1];exact hat.right) hnd.2.1;exact ⟨.cons x1 x2,y1.append y2 hl1.symm⟩
theorem e4V{v:V}{c:Value}{f:List Nat}(h:BA w F v c f)(j:Nat):∃bs:List Value,bs.length=(K2 0 j v).2.length/\H3 w (K2 0 j v).2 bs f/\
  (∀(m:PM) (oms:List (Option (Nat×PM))) (cs pre b2:List Value),pre.length=j->d1z m v=true->a1G oms cs (pre++(bs++b2))->a1G (some (j,m)::oms) (c::cs) (pre++(bs++b2)))/\
  ∀(D:Nat->Prop) (ι:Nat->Nat->Value),D 0->At ι 0 j bs->f.Nodup->RA w F D ι (K2 0 j v).1 c/\Lie w F D ι (K2 0 j v).2 bs:=by
 by_cases hv:∃cs,v=.agg cs
 ·obtain ⟨cs,rfl⟩:=hv;cases h with
  | cell v c f h=>cases h with|fv v c h=>cases h
  | agg cs ds f h =>
   obtain ⟨bs,h1,h2,hp,h3⟩:=c9F h j;refine ⟨bs,h1,h2,?_,fun D ι hD hat hnd=>⟨.agg _ _ (h3 D ι hD hat hnd).1,(h3 D ι hD hat hnd).2⟩⟩;intro m oms cs' pre b2 hpre hm t;cases m with
   | val ck om=>exact .agg _ _ _ _ _ _ _ (c0g (hp om pre hpre hm)) t
   | ptr ck om=>cases hm
   | row=>cases hm
   | part=>cases hm
 ·obtain ⟨bs,h1,h2,hh,h3⟩:=e0S h j;refine ⟨bs,h1,h2,?_,h3⟩;intro m oms cs' pre b2 hpre hm t;cases m with
  | val ck om=>cases v<;>first|exact absurd ⟨_,rfl⟩ hv|cases hm
  | part=>cases hm
  | ptr ck om =>
   refine .pin _ _ _ _ _ _ rfl ?_ t;have:=hh hm;cases bs with
   | nil=>cases this
   | cons b b1 =>
    injection this with this;subst this;rw [f5I (by omega)];simp [hpre]
  | row =>
   refine .pin _ _ _ _ _ _ rfl ?_ t;have:=hh hm;cases bs with
   | nil=>cases this
   | cons b b1 =>
    injection this with this;subst this;rw [f5I (by omega)];simp [hpre]
theorem e8c{vs:List V}{cs:List Value}{f:List Nat}(h:BS w F vs cs f):∀j,∃bs:List Value,bs.length=(Y4 0 j vs).2.length/\H3 w (Y4 0 j vs).2 bs f/\
  (∀(oms:List (Option (Nat×PM))) (pre:List Value),pre.length=j->a4r j oms vs=true->a1G oms cs (pre++bs))/\
  ∀(D:Nat->Prop) (ι:Nat->Nat->Value),D 0->At ι 0 j bs->f.Nodup->x8 (RA w F D ι) (Y4 0 j vs).1 cs/\Lie w F D ι (Y4 0 j vs).2 bs:=by
 induction h with
 | nil =>
  refine fun j=>⟨[],rfl,.nil,fun oms pre _ hp => ?_,fun D ι hD hat _=>⟨.nil,fun k e b he=>by simp [Y4] at he⟩⟩
  cases oms with
  | nil=>exact .nil _
  | cons o oms=>cases o<;>simp [a4r] at hp
 | cons v c f vs cs fs h t ih =>
  intro j;obtain ⟨b1,hl1,hf1,hh1,h1⟩:=e4V h j;obtain ⟨b2,hl2,hf2,hp2,h2⟩:=ih (j+(K2 0 j v).2.length);refine ⟨b1++b2,by simp [Y4,hl1,hl2],hf1.append hf2 hl1,?_,fun D ι hD hat hnd => ?_⟩
  ·intro oms pre hpre hp;cases oms with
   | nil=>simp [a4r] at hp
   | cons o oms =>
    have hnext:∀oms,a4r (j+(K2 0 j v).2.length) oms vs=true->a1G oms cs (pre++(b1++b2)):=by
     intro oms hp;have:=hp2 oms (pre++b1) (by simp [hpre,hl1]) hp;rwa [f5J] at this
    cases o with
    | none=>exact .skip _ _ _ _ (hnext oms (by simpa [a4r] using hp))
    | some q =>
     obtain ⟨j',m⟩:=q;simp only [a4r,f5w] at hp;obtain ⟨⟨e1,e2⟩,e3⟩:=hp;have hj:j'=j:=f5Z e1;subst hj;exact hh1 m oms cs pre b2 hpre e2 (hnext oms e3)
  ·rw [f5C] at hnd;obtain ⟨x1,y1⟩:=h1 D ι hD hat.left hnd.1;obtain ⟨x2,y2⟩:=h2 D ι hD (by rw [<-hl1];exact hat.right) hnd.2.1;exact ⟨.cons x1 x2,y1.append y2 hl1.symm⟩
theorem d0I{D:Nat->Prop}{ι:Nat->Nat->Value}:∀n,x8 (RV w F D ι) (b9K n) (f5u n undef)
 | 0=>.nil
 | n+1=>.cons (.any _) (d0I n)
theorem BS.len{vs:List V}{cs:List Value}{f:List Nat}(h:BS w F vs cs f):vs.length=cs.length:=by
 induction h with
 | nil=>rfl
 | cons _ _ _ _ _ _ _ _ ih=>simp [ih]
end
theorem a0v.of{cx:Cx}{X:O7}{args:List V}{res:V}{outs:List (Option V)}{c:Code}(hf:cx.P.funcs[X.f]?=some X.fn)(hb:X.fn.body=some c) (hn:(X.fn.name == "runtime.NumGoroutine")=false) (ho:a4r 0 X.oms args=true)
    (h:J9 cx X res outs [.code c] (a9X X args)):a0v cx.P X.f args res outs:=by
  refine ⟨⟨X.fn,hf,hn,by rw [hb];rfl⟩,?_⟩;intro w F cargs fp hbs hfpn hfp hF;obtain ⟨bs,hl,hbf,hpin,hlie⟩:=e8c hbs 0;have hpin':=hpin X.oms [] rfl ho;rw [f6o] at hpin';obtain ⟨hargs,hents⟩:=hlie (a9X X args).D (a5f (fun _ _=>.nilFunc) 0 bs) ⟨_,rfl⟩ (fun k b hb=>by rw [f6x];exact a5x hb) hfpn;have hent:∀g j e,(a9X X args).ent g j=some e->g=0/\(Y4 0 0 args).2[j]?=some e:=by
    intro g j e he;unfold St.ent a9X at he;cases g with
    | zero=>exact ⟨rfl,he⟩
    | succ g=>simp at he
  have hget:∀j e,(Y4 0 0 args).2[j]?=some e->∃b,bs[j]?=some b/\a5f (fun _ _=>.nilFunc) 0 bs 0 j=b:=by
    intro j e he;have hj:j<bs.length:=by rw [hl];exact (f5z.1 he).1
    exact ⟨bs[j],f5t hj,a5x (f5t hj)⟩
  have hrel:u0 ⟨w,F,(· ∈ fp),bs⟩ F (a5f (fun _ _=>.nilFunc) 0 bs) (a9X X args) {tmps:=cargs.toArray++Array.replicate (X.fn.ntmps-cargs.toArray.size) undef,defers:=[]} w :=
    { F0:=fun _ x=>x,F1:=hF,F2:=fun _ x=>.inl x,kept:=.refl _ _
      tmps:=by
        show x8 _ ((Y4 0 0 args).1++b9K (X.fn.ntmps-args.length)) _
        simp only [Array.toList_append,Array.toList_replicate,f7q];rw [hbs.len];exact (hargs.imp fun _ _ x=>RV.one _ _ x).app (d0I _)
      ents:=fun g j e he=>by
        obtain ⟨rfl,he⟩:=hent g j e he;obtain ⟨b,hb,hv⟩:=hget j e he;rw [hv];exact hents j e b he hb
      sep:=fun g j e k he hl' hk=>by
        obtain ⟨rfl,he⟩:=hent g j e he;obtain ⟨b,hb,hv⟩:=hget j e he;rw [hv] at hk;have:=hbf.mem he hb hk;exact ⟨(hfp k this).1,.inl this⟩
      inj:=fun g j e g' j' e' k he he' hl1 hl2 hk hk'=>by
        obtain ⟨rfl,he⟩:=hent g j e he;obtain ⟨rfl,he'⟩:=hent g' j' e' he';obtain ⟨b,hb,hv⟩:=hget j e he;obtain ⟨b',hb',hv'⟩:=hget j' e' he';rw [hv] at hk;rw [hv'] at hk';exact ⟨rfl,hbf.inj hfpn he hb hk he' hb' hk'⟩
      defers:=rfl
      pins:=fun j c hc=>⟨⟨_,rfl⟩,a5x hc⟩}
  intro cs;let b:Frame:={ (default:Frame) with fn:=X.f,kind:=.normal}
  have henter:Frame.enter cx.P X.f cargs.toArray .normal =
      b.at {tmps:=cargs.toArray++Array.replicate (X.fn.ntmps-cargs.toArray.size) undef,defers:=[]} [.code c]:=by
    simp [Frame.enter,Frame.at,hf,hb,b]
  obtain ⟨e,w',fr,h1,h2,h3,h4⟩:=h w F fp cargs bs hpin' hF F _ _ w b cs hrel rfl rfl;rw [<-henter] at h2;exact ⟨e,w',fr,h1,h2,h3,h4⟩
inductive j9 (R S B:Type) where
 | ret (r:R)
 | brk (b:B)
 | nxt (s:S)
inductive l9 (R B:Type) where
 | ret (r:R)
 | brk (b:B)
def a0K{R S B:Type}(body:S->Option (j9 R S B)):Nat->S->Option (l9 R B)
 | 0,_=>none
 | n+1,s=>match body s with
  | some (.ret r)=>some (.ret r)
  | some (.brk s)=>some (.brk s)
  | some (.nxt s)=>a0K body n s
  | none=>none
open Classical in
def p7{R S B:Type}(body:S->Option (j9 R S B))(s:S):Option (l9 R B) :=
 if h:∃n r,a0K body n s=some r then some h.choose_spec.choose else none
theorem c2m{R S B:Type}{body:S->Option (j9 R S B)}:∀{n:Nat} {s:S} {r:l9 R B},a0K body n s=some r->∀m,n<=m->a0K body m s=some r
 | 0,s,r,h,_,_=>by cases h
 | n+1,s,r,h,0,hm=>by omega
 | n+1,s,r,h,m+1,hm=>by
  unfold a0K at h ⊢;cases hb:body s with
  | none=>rw [hb] at h;cases h
  | some st =>
   rw [hb] at h;cases st with
   | ret x=>exact h
   | brk x=>exact h
   | nxt x=>exact c2m h m (by omega)
theorem c5m{R S B:Type}{body:S->Option (j9 R S B)}{s:S}{r:l9 R B}:p7 body s=some r ↔ ∃n,a0K body n s=some r:=by
 unfold p7;constructor
 ·intro h;split at h
  ·rename_i hx;injection h with h;exact ⟨_,h▸hx.choose_spec.choose_spec⟩
  ·cases h
 ·rintro ⟨n,h⟩
  have hx:∃n r,a0K body n s=some r:=⟨n,r,h⟩
  rw [dif_pos hx];have h1:=hx.choose_spec.choose_spec;have h2:=c2m h1 _ (Nat.le_max_left _ n);have h3:=c2m h _ (Nat.le_max_right hx.choose n);rw [h2] at h3;exact h3
theorem c5P{R S B:Type}(body:S->Option (j9 R S B))(s:S):p7 body s=match body s with
  | some (.ret r)=>some (.ret r)
  | some (.brk s)=>some (.brk s)
  | some (.nxt s)=>p7 body s
  | none=>none:=by
 apply Option.ext;intro r;rw [c5m];cases hb:body s with
 | none =>
  constructor
  ·rintro ⟨n,h⟩
   cases n with
   | zero=>cases h
   | succ n=>unfold a0K at h;rw [hb] at h;cases h
  ·intro h;cases h
 | some st =>
  cases st with
  | ret x =>
   constructor
   ·rintro ⟨n,h⟩
    cases n with
    | zero=>cases h
    | succ n=>unfold a0K at h;rw [hb] at h;exact h
   ·intro h;exact ⟨1,by unfold a0K;rw [hb];exact h⟩
  | brk x =>
   constructor
   ·rintro ⟨n,h⟩
    cases n with
    | zero=>cases h
    | succ n=>unfold a0K at h;rw [hb] at h;exact h
   ·intro h;exact ⟨1,by unfold a0K;rw [hb];exact h⟩
  | nxt x =>
   simp only;rw [c5m];constructor
   ·rintro ⟨n,h⟩
    cases n with
    | zero=>cases h
    | succ n=>unfold a0K at h;rw [hb] at h;exact ⟨n,h⟩
   ·rintro ⟨n,h⟩
    exact ⟨n+1,by unfold a0K;rw [hb];exact h⟩
def b0e{R S B:Type}(r:l9 R B)(I:S->Prop):j9 R S B->Prop
 | .ret x=>r=.ret x
 | .brk s=>r=.brk s
 | .nxt s=>I s
theorem d78{R S B:Type}{body:S->Option (j9 R S B)}{I:S->Prop}{s:S}{r:l9 R B}(h:p7 body s=some r)(step:∀s st,body s=some st->b0e r I st->I s):I s:=by
 obtain ⟨n,h1⟩:=c5m.1 h;clear h;have h:=h1;clear h1;induction n generalizing s with
 | zero=>cases h
 | succ n ih =>
  unfold a0K at h;cases hb:body s with
  | none=>rw [hb] at h;cases h
  | some st =>
   rw [hb] at h;refine step s st hb ?_;cases st with
   | ret x=>injection h with h;exact h.symm
   | brk x=>injection h with h;exact h.symm
   | nxt x=>exact ih h
def l9.go{R B β:Type}(x:l9 R B)(kr:R->Option β)(ks:B->Option β):Option β :=
 match x with
 | .ret r=>kr r
 | .brk s=>ks s
def JC{B J:Type}(I:J->Prop)(r:B):l9 B J->Prop
 | .ret v=>some v=some r
 | .brk j=>I j
def idx{α:Type}(l:List α)(i:Int):Option α:=if 0<=i then l[i.toNat]? else none
def t0{β:Type}(p:Prop)[Decidable p](k:Option β):Option β:=if p then k else none
theorem b9T{α:Type}{l:List α}{i:Int}{x:α}(h:idx l i=some x):0<=i/\i<l.length/\l[i.toNat]?=some x:=by
 unfold idx at h;split at h
 ·rename_i hi;refine ⟨hi,?_,h⟩;have:=(f5z.1 h).1;omega
 ·cases h
section
variable {G:Prop} {α β R S:Type}
theorem A8{m:Option α}{f:α->Option β}{r:β}(h:m.bind f=some r)(k:∀x,m=some x->f x=some r->G):G:=by
 cases m with
 | none=>cases h
 | some x=>exact k x rfl h
theorem t9{p:Prop}[Decidable p]{a:Option β}{r:β}(h:t0 p a=some r)(k:p->a=some r->G):G:=by
 unfold t0 at h;split at h
 ·rename_i hp;exact k hp h
 ·cases h
theorem d98{B:Type}{I:S->Prop}{r:l9 R B}{x:R}{st:j9 R S B}(h:some (j9.ret x)=some st)(hc:b0e r I st)(k:r=.ret x->G):G:=by
 injection h with h;subst h;exact k hc
theorem e9n{B:Type}{I:S->Prop}{r:l9 R B}{x:B}{st:j9 R S B}(h:some (j9.brk x)=some st)(hc:b0e r I st)(k:r=.brk x->G):G:=by
 injection h with h;subst h;exact k hc
theorem e2a{B:Type}{I:S->Prop}{r:l9 R B}{x:S}{st:j9 R S B}(h:some (j9.nxt x)=some st)(hc:b0e r I st)(k:I x->G):G:=by
 injection h with h;subst h;exact k hc
theorem d9L{B:Type}{I:S->Prop}{r:l9 R B}{x:R}{st:j9 R S B}(h:some (j9.ret x)=some st)(hc:b0e r I st):r=.ret x:=d98 h hc id
theorem A6{B J:Type}{T:Option (l9 B J)}{K:J->Option B}{r:B}{I:J->Prop}(h:(T.bind fun x=>x.go some K)=some r)(rest:∀j,K j=some r->I j)(e8F:∀x,T=some x->JC I r x->G):G:=by
 cases T with
 | none=>cases h
 | some x =>
  refine e8F x rfl ?_;cases x with
  | ret v=>exact h
  | brk j=>exact rest j h
theorem B7{B J:Type}{I:J->Prop}{r v:B}{x:l9 B J}(h:some (l9.ret v)=some x)(hc:JC I r x)(k:some v=some r->G):G:=by
 injection h with h;subst h;exact k hc
theorem e1q{B J:Type}{I:J->Prop}{r v:B}{x:l9 B J}(h:some (l9.ret v)=some x)(hc:JC I r x):some v=some r:=B7 h hc id
theorem o8{B J:Type}{I:J->Prop}{r:B}{x:l9 B J}{j:J}(h:some (l9.brk j)=some x)(hc:JC I r x)(k:I j->G):G:=by
 injection h with h;subst h;exact k hc
theorem e6q{B:Type}{body:S->Option (j9 R S B)}{s:S}{kr:R->Option β}{ks:B->Option β}{r:β}(h:((p7 body s).bind fun x=>x.go kr ks)=some r)(k:∀x,p7 body s=some x->(∀v,x=.ret v->kr v=some r)->(∀b,x=.brk b->ks b=some r)->G):G:=by
 cases hl:p7 body s with
 | none=>rw [hl] at h;cases h
 | some x =>
  rw [hl] at h;refine k x hl ?_ ?_
  ·intro v hv;subst hv;exact h
  ·intro b hb;subst hb;exact h
end
theorem J9.is{cx:Cx}{X:O7}{res b11:V}{outs b3K:List (Option V)}{k:List Item}{S:St}(h:J9 cx X b11 b3K k S)(h1:res=b11)(h2:outs=b3K):J9 cx X res outs k S:=by
 subst h1;subst h2;exact h
def vi(n:Int):V:=.i .i64 n
def bs:Nat->List V->List V
 | 0,l=>l
 | n+1,l=>.bot::bs n l
def j8{α:Type}(sz:Nat)(enc:α->List V)(l:List α):V:=.sl sz l.length (l.map enc)
def u9{α:Type}(e sz:Nat)(enc:α->List V)(l:List α):V:=.osl e sz l.length (l.map enc)
def m6{α:Type}(e sz:Nat)(enc:α->List V)(l:List α):s6:=.row e sz l.length (l.map enc)
def b4j{α:Type}(sz:Nat)(enc:α->List V)(l:List α):s6:=.frz sz l.length (l.map enc)
section
variable {α:Type} {enc:α->List V} {l:List α} {i:Int} {x:α}
theorem U7(h:idx l i=some x):(l.map enc)[i.toNat]?=some (enc x):=by
 rw [f6t,(b9T h).2.2];rfl
theorem b38(h:idx l i=some x):(l.map enc)[0+i.toNat]?=some (enc x):=by
 rw [f6x];exact U7 h
theorem O9(h:idx l i=some x):0<=i:=(b9T h).1
theorem b30(h:idx l i=some x):i<(l.length:Nat):=(b9T h).2.1
theorem e6H{e sz:Nat}{y:α}{cs:List V}(h:cs=enc y):s6.row e sz (l.length+1) (l.map enc++[cs])=m6 e sz enc (l++[y]):=by
 subst h;simp [m6]
theorem c1K{e sz:Nat}{l':List α}{n:Nat}{rows:List (List V)}(h1:n=l'.length)(h2:rows=l'.map enc):s6.row e sz (l.length+n) (l.map enc++rows)=m6 e sz enc (l++l'):=by
 subst h1;subst h2;simp [m6]
theorem d9h{e sz:Nat}{k:Nat}{y:α}{cs:List V}(h:cs=enc y):s6.row e sz l.length ((l.map enc).set (0+k) cs)=m6 e sz enc (l.set k y):=by
 subst h;simp [m6,List.map_set]
theorem d2B{sz:Nat}{a b:Nat}(ha:a<=b)(hb:b<=l.length):V.sl sz (b-a) (((l.map enc).drop a).take (b-a))=j8 sz enc ((l.drop a).take (b-a)):=by
 have:min (b-a) (l.length-a)=b-a:=by omega
 simp [j8,List.map_take,List.map_drop,this]
end
def d7n(f:Func):Code:=match f.body with
 | some c=>c
 | none=>.skip
def a33:Nat->Nat->List Bool->List Item->List Item
 | 0,_,_,k=>k
 | f+1,n,cs,k=>match k with
  | .code (.region id ops dr)::k'=>match n with
   | 0=>.code (.region id ops dr)::k'
   | n+1=>a33 f n cs k'
  | .code .skip::k'=>a33 f n cs k'
  | .inBlock _::k'=>a33 f n cs k'
  | .code (.seq x y)::k'=>a33 f n cs (.code x :: .code y::k')
  | .code (.cond o x y)::k'=>match cs with
   | c::cs=>a33 f n cs (.code (bif c then x else y)::k')
   | []=>.code (.cond o x y)::k'
  | .code (.block id c)::k'=>a33 f n cs (.code c :: .inBlock id::k')
  | .code (.loop c)::k'=>a33 f n cs (.code c :: .inLoop c::k')
  | .inLoop c::k'=>a33 f n cs (.code c :: .inLoop c::k')
  | .code (.exit id)::k'=>match exitTo id k' with
   | some k2=>a33 f n cs k2
   | none=>.code (.exit id)::k'
  | k=>k
def td(i:Nat)(d:Bool):Nat×K7:=(i,{d:=some d})
def tr(i:Nat)(cs:List V):Nat×K7:=(i,{a:=.row cs})
def m7(n:Int):Int:=IntKind.wrap .i64 n
section
variable {α:Type} {enc:α->List V} {l l':List α} {n:Nat} {x y:α} {cs:List V} {e sz:Nat}
theorem e0r(h:cs=enc x):s6.row e sz n (f5u n cs)=m6 e sz enc (f5u n x):=by
 subst h;simp [m6]
theorem a1w(h:l.length=n):s6.row e sz n (l.map enc)=m6 e sz enc l:=by
 subst h;rfl
theorem a8M{k:Nat}(h:cs=enc y):s6.arr e sz n ((l.map enc).set k cs)=.arr e sz n ((l.set k y).map enc):=by
 subst h;simp [List.map_set]
def C4(e sz:Nat)(enc:α->List V)(l:List α):s6:=.deep false e sz l.length (l.map enc)
def b0j(e sz:Nat)(enc:α->List V)(l:List α):V:=.dsl e sz l.length (l.map enc)
theorem a07{k:Nat}(h:cs=enc y):(l.map enc).set (0+k) cs=(l.set k y).map enc:=by
 subst h;simp [List.map_set]
theorem a73{rows:List (List V)}(h:rows=l.map enc)(hn:∀x,∀v∈enc x,v.isRef=false):H9 rows:=h▸H9.map hn l
theorem a77{rows:List (List V)}{n:Nat}(h:rows=l.map enc)(hl:n=l.length):s6.deep false e sz n rows=C4 e sz enc l:=by
 subst h;subst hl;rfl
theorem c1u(h:cs=enc y):s6.deep false e sz (l.length+1) (l.map enc++[cs])=C4 e sz enc (l++[y]):=by
 subst h;simp [C4]
theorem c1s{L l1:List α}{lo n:Nat}(h:lo+n<=L.length):s6.row e sz (l1.length+n) (l1.map enc++((L.map enc).drop lo).take n)=m6 e sz enc (l1++(L.drop lo).take n):=by
 have:((L.drop lo).take n).length=n:=by simp;omega
 simp [m6,List.map_take,List.map_drop];omega
theorem c3D{L l1:List α}{lo n g:Nat}(h:lo+n<=L.length):V.own g 0 sz 0 (l1.length+n)=V.own g 0 sz 0 (l1++(L.drop lo).take n).length:=by
 congr 1
 simp;omega
theorem W5{rows X:List (List V)}{k:Nat}{c c':List V}(h:rows.set k c'=X):(rows.set k c).set k c'=X:=by rw [List.set_set];exact h
theorem a1N{rows:List (List V)}{k:Nat}(h:k<rows.length):(rows.set k cs)[k]?=some cs:=by simp [h]
theorem a39{rows:List (List V)}{k j:Nat}(h:k<rows.length):k<(rows.set j cs).length:=by simpa using h
theorem a1I{i:Int}(h:idx l i=some y):0+i.toNat<(l.map enc).length:=by
 have:=(b30 h)
 have:=(O9 h)
 rw [f6l];omega
theorem c0A{i:Int}{f:α->V}(hf:∀x,enc x=[f x])(h:idx l i=some y):(l.map enc).flatten[i.toNat]?=some (f y):=by
 have e:(l.map enc).flatten=l.map f:=by
  induction l with
  | nil=>rfl
  | cons x l ih =>
   have ih':(l.map enc).flatten=l.map f:=by
    clear ih h;induction l with
    | nil=>rfl
    | cons x l ih=>simp [hf,ih]
   simp [hf,ih']
 rw [e,f6t];unfold idx at h;split at h
 ·rw [h];rfl
 ·cases h
theorem b67{hi:Int}(h:0<=hi/\hi<=(l.length:Nat)):V.sl sz (hi.toNat-0) (((l.map enc).drop 0).take (hi.toNat-0))=j8 sz enc ((l.drop 0).take (hi.toNat-0)) :=
 d2B (by omega) (by omega)
theorem b2X{lo:Int}(h:0<=lo/\lo<=(l.length:Nat)):V.sl sz (l.length-lo.toNat) (((l.map enc).drop lo.toNat).take (l.length-lo.toNat))=j8 sz enc ((l.drop lo.toNat).take (l.length-lo.toNat)) :=
 d2B (by omega) (by omega)
end
def c5u:Nat->List (Option V)
 | 0=>[]
 | n+1=>none::c5u n
theorem P8:∀n,a4s (c5u n)
 | 0=>fun v h=>by cases h
 | n+1=>fun v h=>by
  rcases f5B.1 h with q|q
  ·cases q
  ·exact P8 n v q
section
variable {P:Program} {d:Nat} {xs ys:Array Value} {f:Field} {fs:List Field} {a b:Value} {r s:Bool} {w:World}
theorem a9M:(Op.eqFields d xs ys []).run P w=.ok true w:=by simp [Op.eqFields]
theorem a0C (hn:(f.name == "_")=false) (ha:(part f.type xs f.offset).run P w=.ok a w) (hb:(part f.type ys f.offset).run P w=.ok b w) (he:(Op.equalIn d f.type a b).run P w=.ok r w) (hr:(Op.eqFields d xs ys fs).run P w=.ok s w):(Op.eqFields d xs ys (f::fs)).run P w=.ok (r&&s) w:=by
 have hn':f.name ≠ "_" := by simpa using hn
 rw [Op.eqFields];simp only [if_pos hn',Sem.run_bind,ha,hb,he,Result.andThen_ok];cases r
 ·simp
 ·simpa using hr
theorem b0n{t:TypeId}{fs:Array Field}(hu:P.underlying t=some (.struct fs))(hp:P.stoodInHeld t=false)(h:(Op.eqFields d xs ys fs.toList).run P w=.ok r w):(Op.equalIn (d+1) t (.agg xs) (.agg ys)).run P w=.ok r w:=by
 have hf:P.fieldsOf t=fs:=by simp [Program.fieldsOf,hu]
 rw [run_equalIn_struct (P:=P) w d t xs ys (by rw [hf];exact hu) hp,hf];exact h
theorem a0X{t:TypeId}{k:IntKind}{m n:Int}(h:P.underlying t=some (.int k)):(Op.equalIn (d+1) t (.int .i64 m) (.int .i64 n)).run P w=.ok (m==n) w:=run_equalIn_int w d t .i64 k m n h
end
structure Pt(cx:Cx)(X:O7)(res:V)(outs:List (Option V))(k:List Item)(S:St)(sc:T0)(ps:List Prop):Prop where
 f:P3 ps->J9 cx X res outs k S
def c8o{α:Type}:List α->List α->List α
 | [],b=>b
 | a::l,b=>c8o l (a::b)
def scO:T0->T0->T0
 | [],b=>b
 | r::l,b=>scO l (c8o r []::b)
def psO:List Prop->List Prop->List Prop
 | [],b=>b
 | p::l,b=>psO l (p::b)
theorem c4T{ps:List Prop}:∀{qs:List Prop},P3 ps->P3 qs->P3 (psO ps qs):=by
 induction ps with
 | nil=>exact fun _ h=>h
 | cons p ps ih=>exact fun h h'=>ih h.2 ⟨h.1,h'⟩
def a5p{α β:Type}(m:Option α)(f:α->Option β)(g:Option β):Option β :=
 match m with
 | some x=>f x
 | none=>g
def dt(t:Nat×K7)(d:Bool):Nat×K7:=(t.1,{t.2 with d:=some d})
section
variable {cx:Cx} {X:O7} {res:V} {outs:List (Option V)} {k:List Item} {S:St} {sc:T0} {ps:List Prop} {r:List (Nat×K7)} {α β:Type} {v:β}
theorem P0(h:Pt cx X res outs k S [] []):J9 cx X res outs k S:=h.f P3.nil
theorem rg(h:Pt cx X res outs k S ([]::sc) ps):Pt cx X res outs k S sc ps:=⟨h.f⟩
theorem n6(h:Pt cx X res outs k S ([]::[]::sc) ps):Pt cx X res outs k S sc ps:=⟨h.f⟩
theorem N0(h:Pt cx X res outs k S ([]::[]::[]::sc) ps):Pt cx X res outs k S sc ps:=⟨h.f⟩
theorem rg4(h:Pt cx X res outs k S ([]::[]::[]::[]::sc) ps):Pt cx X res outs k S sc ps:=⟨h.f⟩
theorem tl(t:Nat×K7)(h:Pt cx X res outs k S ((t::r)::sc) ps):Pt cx X res outs k S (r::sc) ps:=⟨h.f⟩
theorem ob{p:Prop}(q:p)(h:Pt cx X res outs k S sc (p::ps)):Pt cx X res outs k S sc ps:=⟨fun a=>h.f ⟨q,a⟩⟩
theorem om(p:Prop)(q:p)(h:Pt cx X res outs k S sc (p::ps)):Pt cx X res outs k S sc ps:=ob q h
theorem cdT(t:Nat×K7){e:Bool}{a b:Option β}(h:cond e a b=some v)(k1:e=true->a=some v->Pt cx X res outs k S ((dt t true::r)::sc) ((e=true)::ps))(k2:e=false->b=some v->Pt cx X res outs k S ((dt t false::r)::sc) ((e=false)::ps)):Pt cx X res outs k S (r::sc) ps:=by
 cases e with
 | true=>exact ob rfl (tl _ (k1 rfl h))
 | false=>exact ob rfl (tl _ (k2 rfl h))
theorem j5(i:Nat){e:Bool}{a b:Option β}(h:cond e a b=some v)(k1:a=some v->Pt cx X res outs k S ((td i true::r)::sc) ((e=true)::ps))(k2:b=some v->Pt cx X res outs k S ((td i false::r)::sc) ((e=false)::ps)):Pt cx X res outs k S (r::sc) ps:=by
 cases e with
 | true=>exact ob rfl (tl _ (k1 h))
 | false=>exact ob rfl (tl _ (k2 h))
theorem cb(t:Nat->Bool->α->Nat×K7){m:Option α}{p:α->Prop}(ok:∀x,m=some x->p x)(i:Nat)(fr:Bool){f:α->Option β}(h:m.bind f=some v)(g:∀x,f x=some v->Pt cx X res outs k S ((t i fr x::r)::sc) (p x::ps)):Pt cx X res outs k S (r::sc) ps :=
 A8 h fun x hx h=>ob (ok x hx) (tl _ (g x h))
theorem cbA(t:Nat->Bool->α->Nat×K7){m:Option α}{p:α->Prop}(ok:∀x,m=some x->p x)(i:Nat)(fr:Bool){f:α->Option β}{e:Option β}(h:a5p m f e=some v)(g:∀x,f x=some v->Pt cx X res outs k S ((t i fr x::r)::sc) (p x::ps))(g2:e=some v->Pt cx X res outs k S (r::sc) ps):Pt cx X res outs k S (r::sc) ps:=by
 cases m with
 | none=>exact g2 h
 | some x=>exact ob (ok x rfl) (tl _ (g x h))
theorem cbE(t:Nat->Bool->α->Nat×K7){m:Option α}{p:α->Prop}(ok:∀x,m=some x->p x){f:α->Option β}(h:m.bind f=some v)(g:∀x,p x->f x=some v->Pt cx X res outs k S sc ps):Pt cx X res outs k S sc ps :=
 A8 h fun x hx h=>g x (ok x hx) h
section
variable {enc:α->List V} {l l':List α} {I:Int} {x y z:α}
theorem v5(enc:α->List V)(i:Nat){f:α->Option β}(h:(idx l I).bind f=some v)(g:∀y,idx l I=some y->f y=some v->Pt cx X res outs k S ((tr i (enc y)::r)::sc) (((l.map enc)[I.toNat]?=some (enc y))::(I<((l.length:Nat):Int))::((0:Int)<=I)::ps)):Pt cx X res outs k S (r::sc) ps :=
 A8 h fun y hy h=>ob (O9 hy) (ob (b30 hy) (ob (U7 hy) (tl _ (g y hy h))))
theorem J3(enc:α->List V)(i:Nat)(hy:idx l I=some y)(g:Pt cx X res outs k S ((tr i (enc y)::r)::sc) (((l.map enc)[I.toNat]?=some (enc y))::(I<((l.length:Nat):Int))::((0:Int)<=I)::ps)):Pt cx X res outs k S (r::sc) ps :=
 ob (O9 hy) (ob (b30 hy) (ob (U7 hy) (tl _ g)))
theorem B5(hy:idx l I=some y)(g:Pt cx X res outs k S sc ((I<((l.length:Nat):Int))::((0:Int)<=I)::ps)):Pt cx X res outs k S sc ps:=ob (O9 hy) (ob (b30 hy) g)
theorem H8(enc:α->List V)(i:Nat)(hy:idx l I=some y)(g:Pt cx X res outs k S ((tr i (enc y)::r)::sc) (((l.map enc)[0+I.toNat]?=some (enc y))::ps)):Pt cx X res outs k S (r::sc) ps :=
 ob (b38 hy) (tl _ g)
theorem Q3(e sz:Nat)(enc:α->List V)(i:Nat)(ck:List (Option Nat))(y:α)(hz:idx l I=some z)(g:Pt cx X res outs k S (((i,{a:=.rowck (enc z) ck,e:=some (m6 e sz enc (l.set I.toNat y))})::r)::sc) (((l.map enc)[0+I.toNat]?=some (enc z))::(s6.row e sz l.length ((l.map enc).set (0+I.toNat) (enc y))=m6 e sz enc (l.set I.toNat y))::ps)):Pt cx X res outs k S (r::sc) ps :=
 ob (d9h rfl) (ob (b38 hz) (tl _ g))
theorem R8(i w t sz b:Nat)(enc:α->List V)(z:α)(T:TI)(a:O5){N:Int}(e1:0<=N/\N*((b:Nat):Int)<=140737488355328)(hb:0<b)(hl:T.zero.length=sz)(g:Pt cx X res outs k S (((i,{a:=a,e:=some (m6 t sz enc (f5u N.toNat z)),v:=some (.own w 0 sz 0 (f5u N.toNat z).length)})::r)::sc)
   ((T.zero.length=sz)::(N*((b:Nat):Int)<=140737488355328/\0<b)::(N=N)::((0:Int)<=N)::(s6.row t sz N.toNat (f5u N.toNat (enc z))=m6 t sz enc (f5u N.toNat z))::(V.own w 0 sz 0 N.toNat=.own w 0 sz 0 (f5u N.toNat z).length)::ps)):Pt cx X res outs k S (r::sc) ps :=
 ob (by simp) (ob (e0r rfl) (ob e1.1 (ob rfl (ob ⟨e1.2,hb⟩ (ob hl (tl _ g))))))
theorem F9(i w t sz b:Nat)(enc:α->List V)(l:List α)(x:α)(h:(l.length+1)*b<=140737488355328)(g:Pt cx X res outs k S (((i,{v:=some (.own w 0 sz 0 (l++[x]).length),e:=some (m6 t sz enc (l++[x]))})::r)::sc)
   (((l.length+1)*b<=140737488355328)::(l.length=l.length)::(s6.row t sz (l.length+1) (l.map enc++[enc x])=m6 t sz enc (l++[x]))::(V.own w 0 sz 0 (l.length+1)=.own w 0 sz 0 (l++[x]).length)::ps)):Pt cx X res outs k S (r::sc) ps :=
 ob (by simp) (ob (e6H rfl) (ob rfl (ob h (tl _ g))))
theorem apL(i w t sz b:Nat)(enc:α->List V)(l l':List α)(h:(l.length+l'.length)*b<=140737488355328)(g:Pt cx X res outs k S (((i,{v:=some (.own w 0 sz 0 (l++l').length),e:=some (m6 t sz enc (l++l'))})::r)::sc)
   (((l.length+l'.length)*b<=140737488355328)::(l.length=l.length)::(s6.row t sz (l.length+l'.length) (l.map enc++l'.map enc)=m6 t sz enc (l++l'))::(V.own w 0 sz 0 (l.length+l'.length)=.own w 0 sz 0 (l++l').length)::ps)):Pt cx X res outs k S (r::sc) ps :=
 ob (by simp) (ob (c1K rfl rfl) (ob rfl (ob h (tl _ g))))
end
theorem sg(fs:List Fix)(keep:List Nat)(gs:List (Nat×Nat)){k':List Item}{S':St}(h:J9 cx X res outs k' S')(hg:b07 cx k S (scO sc []) fs keep gs=some (k',S',psO ps []):=by kernel_rfl):Pt cx X res outs k S sc ps :=
 ⟨fun a=>J9.seg _ fs keep gs _ (c4T a P3.nil) h hg⟩
def reT:List (Nat×V)->St->St×List Prop
 | [],S=>(S,[])
 | (i,v)::l,S=>match S.t[i]? with
  | some u=>match reT l {S with t:=S.t.set i v} with
   | (S',ps)=>(S',(u=v)::ps)
  | none=>reT l S
theorem c0W:∀{l:List (Nat×V)} {S:St},P3 (reT l S).2->(reT l S).1=S
 | [],_,_=>rfl
 | (i,v)::l,S,h=>by
  unfold reT at h ⊢;split at h
  ·rename_i u hu;have h1:u=v:=h.1;have h2:=c0W (l:=l) h.2;simp only;rw [h2,<-h1,a0w hu]
  ·exact c0W h
theorem P3.split:∀{ps qs:List Prop},P3 (ps++qs)->P3 ps/\P3 qs
 | [],_,h=>⟨trivial,h⟩
 | _::_,_,h=>⟨⟨h.1,(P3.split h.2).1⟩,(P3.split h.2).2⟩
def c2V(cx:Cx)(k:List Item)(S:St)(sc:T0)(fs:List Fix)(keep:List Nat)(gs:List (Nat×Nat))(ts:List (Nat×V)):Option (List Item×St×List Prop) :=
 match b07 cx k S sc fs keep gs with
 | some (k',S',ps)=>some (k',(reT ts S').1,ps++(reT ts S').2)
 | none=>none
theorem sgT(fs:List Fix)(keep:List Nat)(gs:List (Nat×Nat))(ts:List (Nat×V)){k':List Item}{S':St}(h:J9 cx X res outs k' S')(hg:c2V cx k S (scO sc []) fs keep gs ts=some (k',S',psO ps []):=by kernel_rfl):Pt cx X res outs k S sc ps:=by
 refine ⟨fun a => ?_⟩;unfold c2V at hg;split at hg<;>try (cases hg;done)
 rename_i k1 S1 ps1 h1;injection hg with hg;injection hg with e1 e2;injection e2 with e2 e3;have ha:=c4T a P3.nil;rw [<-e3] at ha;obtain ⟨a1,a2⟩:=P3.split ha;rw [<-e2,<-e1,c0W a2] at h;exact J9.seg _ fs keep gs _ a1 h h1
theorem a8A{α:Type}{enc:α->List V}{gs:List (Nat×Nat)}(h:∀x,(enc x).map (W3 gs)=enc x):∀l:List α,((l.map enc).flatten.map (W3 gs))=(l.map enc).flatten
 | []=>rfl
 | x::l=>by
  simp only [f6b,f5X,f6E,h,a8A h l]
theorem fn0{b11:V}{b3K:List (Option V)}(hf:cx.P.funcs[X.f]?=some X.fn)(h:res=b11/\outs=b3K)(hg:a90 cx X k S (scO sc [])=some (b11,b3K,psO ps []):=by kernel_rfl):Pt cx X res outs k S sc ps :=
 ⟨fun a=>(J9.fin hf _ _ (c4T a P3.nil) hg).is h.1 h.2⟩
end
def I6(n:Int):Prop := -9223372036854775808<=n/\n<=9223372036854775807
def A4{α:Type}(bytes:Nat)(ok:α->Prop)(l:List α):Prop:=l.length*bytes<=140737488351232/\∀x∈l,ok x
def okT{α:Type}(x:α):Prop:=True
def Old(w:World)(k:Nat):Prop:=k<w.heap.size
def a9H(P:Program){α:Type}(t:TypeId)(enc:α->List V)(ok:α->Prop):Prop :=
 ∀{H:Type} (ec:TypeId×Value->H) (w:World) (fuel:Nat) (cs:List Value) (x:DataW H×List MemPlace),DataW.trod ec P w 0 (fun _=>true) true fuel t cs=some x->(x.1.weights P t).all (·<=reachBytes)=true->
  ∃y,FL w (Old w) (enc y) cs/\ok y
section
variable {P:Program} {α:Type} {t e:TypeId} {enc:α->List V} {ok:α->Prop}
def a6t(n:Int):Prop:=0<=n/\n<=255
theorem e2j(ht:P.underlying t=some (.int .u8)):a9H P t (fun n:Int=>[.i .u8 n]) a6t:=by
 intro H ec w fuel cs x h _;obtain ⟨n,rfl,rfl,hw⟩:=DataW.trod_int ht h;refine ⟨n,.cons _ _ _ _ (.i _ _) .nil,?_⟩;simp only [Lit.wf,f5w,decide_eq_true_eq] at hw;exact hw
theorem d0i{H:Type}{P:Program}{e:TypeId}{p:Nat->Bool}:∀{ds:List (DataW H)},(DataW.weightsAll P e ds).all p=true->∀d∈ds,(d.weights P e).all p=true
 | [],_,d,hd=>by cases hd
 | d0::ds,h,d,hd=>by
  rw [DataW.weightsAll,List.all_append,f5w] at h;rcases f5B.1 hd with rfl|hd
  ·exact h.1
  ·exact d0i h.2 d hd
theorem FL.flat{w:World}{F:Nat->Prop}(vs:Nat->List V)(cs:Nat->List Value):∀n,(∀i,i<n->FL w F (vs i) (cs i))->FL w F ((f5A n).flatMap vs) ((f5A n).flatMap cs)
 | 0,_=>.nil
 | n+1,h=>by
  rw [List.range_succ,List.flatMap_append,List.flatMap_append];refine FL.append (FL.flat vs cs n fun i hi=>h i (by omega)) ?_;simpa using h n (by omega)
theorem b8q{sz:Nat}(cs:Nat->List Value):∀n,(∀i,i<n->(cs i).length=sz)->∀i,i<n->∀j,j<sz->((f5A n).flatMap cs)[i*sz+j]?=(cs i)[j]?/\((f5A n).flatMap cs).length=n*sz
 | 0,_,i,hi,_,_=>by omega
 | n+1,h,i,hi,j,hj=>by
  have hl:((f5A n).flatMap cs).length=n*sz:=by
   cases n with
   | zero=>simp
   | succ m=>exact (b8q cs (m+1) (fun i hi=>h i (by omega)) 0 (by omega) j hj).2
  rw [List.range_succ,List.flatMap_append];simp only [List.flatMap_cons,List.flatMap_nil,f6d];constructor
  ·by_cases hin:i<n
   ·have:i*sz+j<n*sz:=by
     have:(i+1)*sz<=n*sz:=f5Y _ hin;rw [Nat.add_mul] at this;omega
    rw [f5O (by omega)];exact (b8q cs n (fun i hi=>h i (by omega)) i hin j hj).1
   ·have:i=n:=by omega
    subst this;rw [f5I (by omega),hl];congr 1
    omega
  ·rw [f5D,hl,h n (by omega),Nat.add_mul,Nat.one_mul]
theorem e1D{β:Type}{n:Nat}{p:Nat->β->Prop}(d:β)(h:∀i,i<n->∃x,p i x):∃f:Nat->β,∀i,i<n->p i (f i):=by
 classical
 refine ⟨fun i=>if hi:i<n then (h i hi).choose else d,fun i hi => ?_⟩;simp only [dif_pos hi];exact (h i hi).choose_spec
theorem e22{sz bytes:Nat}(ht:P.underlying t=some (.slice e))(he:a9H P e enc ok)(hsz:P.cellsOf e=sz)(h0:0<sz)(hb:P.bytesOf e=bytes)(hl:∀y,(enc y).length=sz):a9H P t (fun l:List α=>[j8 sz enc l]) (A4 bytes ok):=by
 intro H ec w fuel cs x h hw;rcases DataW.trod_slice ht h with ⟨rfl,rfl⟩|⟨a,len,cap,elems,rest,n,_,rfl,rfl,hbs,hlc,hcm,hlen,hel,hsp,hns⟩
 ·exact ⟨[],.cons _ _ _ _ (.sl0 sz none 0) .nil,by simp,by simp⟩
 simp only [DataW.weights,ht,List.all_cons,List.all_append,f5w,decide_eq_true_eq,f6l] at hw;obtain ⟨hw0,hw1,hw2⟩:=hw;have hrest:rest.length=cap-len:=by
  cases hs:(fun _:Nat=>true) a.block with
  | true=>exact (hsp rfl).1
  | false=>cases hs
 have hlen2:len*bytes<=140737488351232:=by
  rw [hb] at hw0;have:len*bytes<=(elems.length+rest.length)*bytes:=f5Y _ (by omega);have h2:reachBytes=140737488351232:=rfl;omega
 cases Nat.eq_zero_or_pos len with
 | inl hz =>
  subst hz;exact ⟨[],.cons _ _ _ _ (.sl0 sz _ cap) .nil,by simp,by simp⟩
 | inr hpos =>
  have key:∀i,i<len->∃cy:List Value×α,w.cells? 0 (a.add (i*sz)) sz=some cy.1/\FL w (Old w) (enc cy.2) cy.1/\ok cy.2:=by
   intro i hi;have h1:=hel i hi;have hi':i<elems.length:=by omega
   rw [f5t hi',hsz] at h1;obtain ⟨ci,h2,h3⟩:=Option.bind_eq_some_iff.1 h1;obtain ⟨y,h4,h5⟩:=he ec w n ci _ h3 (d0i hw1 _ (List.mem_map.2 ⟨_,f5v hi',rfl⟩));exact ⟨(ci,y),h2,h4,h5⟩
  obtain ⟨cy0,_⟩:=key 0 hpos;obtain ⟨f,hf⟩:=e1D cy0 key;have hcl:∀i,i<len->(f i).1.length=sz:=fun i hi=>(World.cells?_some (hf i hi).1).2.1
  have hspot:a.spot=none:=by
   have:=(World.cells?_some (hf 0 hpos).1).2.2 0 h0;rw [f5t (by rw [hcl 0 hpos];exact h0)] at this;have:=World.cell?_spot this;simpa [Addr.add] using this
  have hold:Old w a.block:=by
   have:=(World.cells?_some (hf 0 hpos).1).2.2 0 h0;rw [f5t (by rw [hcl 0 hpos];exact h0)] at this;unfold World.cell? at this;unfold Old;split at this
   ·rename_i c _ _ hh;simpa [Addr.add] using (Array.getElem?_eq_some_iff.1 hh).1
   ·cases this
  refine ⟨(f5A len).map fun i=>(f i).2,?_,?_,?_⟩
  ·have haddr:a=⟨a.block,a.off,none⟩:=by cases a;simp_all
   rw [show (Value.slice (some a) len cap)=.slice (some ⟨a.block,a.off,none⟩) len cap from by rw [<-haddr]];refine .cons _ _ _ _ ?_ .nil;unfold j8;rw [f6l,List.length_range];refine .sl sz len _ _ _ cap ((f5A len).flatMap fun i=>(f i).1) hold ?_ ?_ ?_ hlc ?_
   ·have:=FL.flat (w:=w) (F:=Old w) (fun i=>enc (f i).2) (fun i=>(f i).1) len fun i hi=>(hf i hi).2.1
    rw [f7s,<-List.flatMap_def];exact this
   ·simp
   ·intro r hr;rw [f7s] at hr;obtain ⟨i,_,rfl⟩:=List.mem_map.1 hr;exact hl _
   ·intro j u hu;have hlf:=(b8q (fun i=>(f i).1) len hcl 0 hpos 0 h0).2;have hj:j<len*sz:=by
     have:=(f5z.1 hu).1;omega
    have hq:j / sz<len:=Nat.div_lt_of_lt_mul (by rw [Nat.mul_comm];exact hj);have hr:j % sz<sz:=Nat.mod_lt _ h0;have hjs:j=j / sz*sz+j % sz:=by rw [Nat.mul_comm];exact (Nat.div_add_mod j sz).symm
    have hget:=(b8q (fun i=>(f i).1) len hcl _ hq _ hr).1;rw [<-hjs,hu] at hget;have hcell:=(World.cells?_some (hf _ hq).1).2.2 _ hr;rw [<-hget] at hcell;rw [<-hcell];have hadd:(a.add (j / sz*sz)).add (j % sz)=a.add j:=by
     rw [show (a.add (j / sz*sz)).add (j % sz)=a.add (j / sz*sz+j % sz) from Go.Deep.add_add a _ _,<-hjs]
    rw [hadd];congr 1
    unfold Addr.add;split
    ·rename_i h;subst h;exact haddr.symm
    ·rfl
  ·simpa using hlen2
  ·intro y hy;obtain ⟨i,hi,rfl⟩:=List.mem_map.1 hy;exact (hf i (by simpa using hi)).2.2
section
variable {α':Type} {H:Type} {ec:TypeId×Value->H} {w:World} {base:Nat} {r:Reach} {v:Value} {d:DataW H} {p:List MemPlace}
theorem BA.of1{F:Nat->Prop}{x:V}{c:Value}(h:FL w F [x] [c]):BA w F x c []:=by
 cases h with
 | cons _ _ _ _ h _=>exact .cell _ _ _ (.fv _ _ h)
theorem e3r{f:α->V}(ht:P.underlying t=some (.slice e))(ho:a9H P t (fun y=>[f y]) ok)(hv:Value.okWide P w r base t v)(h:DataW.Trod ec P w 0 (fun _=>true) true t v d p)(hw:(d.weights P t).all (·<=reachBytes)=true):∃y,BA w (Old w) (f y) v []/\ok y:=by
 obtain ⟨a,l,c,rfl⟩:=WideShapes.okWide_slice ht hv;obtain ⟨fuel,hf⟩:=h;obtain ⟨y,h1,h2⟩:=ho ec w fuel _ _ hf hw;exact ⟨y,BA.of1 h1,h2⟩
end
theorem e49{f:FuncId}{args:List V}{outs:List (Option V)}{vs:List Value}{W:World}(h:a0v P f args (.b true) outs)(hb:BS W (Old W) args vs []) :
  Calls P f vs.toArray W fun e W'=>e=.returned (.bool true)/\RowKit.Below W.heap.size W W':=by
 refine (h.2 W (Old W) vs [] hb List.nodup_nil (by simp) (fun k hk=>hk)).mono ?_;rintro e W' ⟨c,F',fr,fo,rfl,hk,_,_,hr,_,_,_⟩
 refine ⟨?_,hk.os,hk.tape,hk.output,hk.size,fun k hk'=>hk.block k hk' (by simp)⟩;cases hr with
 | one _ _ _ h =>
  cases h with
  | cell _ _ _ h =>
   cases h with
   | fv _ _ h=>cases h;rfl
end
abbrev LOV:=List (Option V)
abbrev KS:=List Item×St
def FK(cx:Cx)(X:O7)(res:V)(outs:LOV)(s:KS):Prop:=J9 cx X res outs s.1 s.2
structure LC(cx:Cx)(X:O7){R P E:Type}(fR:R->V)(fO:R->LOV)(SE:E->KS)(S:P->KS) where
 res:V
 outs:LOV
 x:l9 R E
 hb:∀s:E,x=.brk s->FK cx X res outs (SE s)
 hr:∀v:R,x=.ret v->res=fR v/\outs=fO v
 st:j9 R P E
 hc:b0e x (fun s=>FK cx X res outs (S s)) st
section
variable {cx:Cx} {X:O7} {R P E J:Type} {fR:R->V} {fO:R->LOV} {SE:E->KS} {SP:P->KS} {G:Prop} {α β:Type}
abbrev LB(cx:Cx)(X:O7)(fR:R->V)(fO:R->LOV)(SE:E->KS)(SP:P->KS)(b:P->Option (j9 R P E)):Prop := ∀(c:LC cx X fR fO SE SP) (s:P),b s=some c.st->FK cx X c.res c.outs (SP s)
abbrev NL(c:LC cx X fR fO SE SP)(S:J->KS)(f:J->Option (j9 R P E)):Prop := ∀s,f s=some c.st->FK cx X c.res c.outs (S s)
theorem LC.nx(c:LC cx X fR fO SE SP){s:P}(h:some (j9.nxt s)=some c.st)(g:FK cx X c.res c.outs (SP s)->G):G:=e2a h c.hc g
theorem LC.bk(c:LC cx X fR fO SE SP){s:E}(h:some (j9.brk s)=some c.st)(g:FK cx X c.res c.outs (SE s)->G):G:=e9n h c.hc fun e=>g (c.hb _ e)
theorem LC.rt(c:LC cx X fR fO SE SP){r:R}(h:some (j9.ret r)=some c.st):c.res=fR r/\c.outs=fO r:=c.hr _ (d9L h c.hc)
variable {res:V} {outs:LOV} {k:List Item} {S:St} {sc:T0} {ps:List Prop} {r:List (Nat×K7)} {v:β} {s:KS}
theorem PK(h:Pt cx X res outs s.1 s.2 [] []):FK cx X res outs s:=h.f P3.nil
theorem sk(fs:List Fix)(keep:List Nat)(gs:List (Nat×Nat))(h:FK cx X res outs s)(hg:b07 cx k S (scO sc []) fs keep gs=some (s.1,s.2,psO ps []):=by kernel_rfl):Pt cx X res outs k S sc ps:=sg fs keep gs h hg
theorem skT(fs:List Fix)(keep:List Nat)(gs:List (Nat×Nat))(ts:List (Nat×V))(h:FK cx X res outs s)(hg:c2V cx k S (scO sc []) fs keep gs ts=some (s.1,s.2,psO ps []):=by kernel_rfl):Pt cx X res outs k S sc ps:=sgT fs keep gs ts h hg
theorem lp{b:P->Option (j9 R P E)}(B:LB cx X fR fO SE SP b){d43:P}{g1:R->Option β}{g2:E->Option β}(h:((p7 b d43).bind fun x=>x.go g1 g2)=some v)(h1:∀r,g1 r=some v->res=fR r/\outs=fO r)(h2:∀s,g2 s=some v->FK cx X res outs (SE s))(hs:FK cx X res outs (SP d43)->Pt cx X res outs k S sc ps):Pt cx X res outs k S sc ps :=
 e6q h fun x hl hr hb=>hs (d78 (I:=fun s=>FK cx X res outs (SP s)) hl fun s st h hc=>B ⟨res,outs,x,fun s e=>h2 s (hb s e),fun v e=>h1 v (hr v e),st,hc⟩ s h)
theorem s7{α:Type}(a:List α)(h:Pt cx X res outs k S sc ((a.length=a.length)::ps)):Pt cx X res outs k S sc ps:=ob rfl h
theorem C7{α β:Type}(a:List α)(b:List β)(h:Pt cx X res outs k S sc ((b.length=b.length)::(a.length=a.length)::ps)):Pt cx X res outs k S sc ps:=ob rfl (ob rfl h)
theorem Y1{α β γ:Type}(a:List α)(b:List β)(c:List γ)(h:Pt cx X res outs k S sc ((c.length=c.length)::(b.length=b.length)::(a.length=a.length)::ps)):Pt cx X res outs k S sc ps:=ob rfl (ob rfl (ob rfl h))
theorem H5{α β γ δ:Type}(a:List α)(b:List β)(c:List γ)(d:List δ)(h:Pt cx X res outs k S sc ((d.length=d.length)::(c.length=c.length)::(b.length=b.length)::(a.length=a.length)::ps)):Pt cx X res outs k S sc ps:=ob rfl (ob rfl (ob rfl (ob rfl h)))
theorem B9(α:Type)(h:Pt cx X res outs k S sc ((0=([]:List α).length)::ps)):Pt cx X res outs k S sc ps:=ob rfl h
theorem E6{α:Type}(x:α)(h:Pt cx X res outs k S sc ((1=[x].length)::ps)):Pt cx X res outs k S sc ps:=ob rfl h
theorem tk(i:Nat)(c:List (Option Nat))(h:Pt cx X res outs k S (((i,{a:=.ck c})::r)::sc) ps):Pt cx X res outs k S (r::sc) ps:=tl _ h
theorem oa(g j sz:Nat){α:Type}(a b:List α)(h:Pt cx X res outs k S sc ((V.own g j sz 0 (a.length+b.length)=.own g j sz 0 (a++b).length)::ps)):Pt cx X res outs k S sc ps:=ob (congrArg (V.own g j sz 0) f5D.symm) h
theorem oz(e sz:Nat){α:Type}(f:α->List V)(a b:List α)(h:Pt cx X res outs k S sc ((s6.row e sz (a.length+b.length) (a.map f++b.map f)=m6 e sz f (a++b))::ps)):Pt cx X res outs k S sc ps:=ob (c1K rfl rfl) h
end
def eI(x:Int):List V:=[vi x]
def K1(x:Int):List V:=[.i .u8 x]
def eB(x:Bool):List V:=[.b x]
structure n8 where
 a9:Int
 A:Int
 B:Int
 N:Int
def A0(x:n8):List V:=[vi x.a9,vi x.A,vi x.B,vi x.N]
structure r9 where
 a9:Int
 A:Int
 i6:List n8
def I1(x:r9):List V:=[vi x.a9,vi x.A,j8 4 A0 x.i6]
structure t7 where
 b:List Int
 p:Int
def Z9(x:t7):List V:=[j8 1 K1 x.b,vi x.p]
structure n9 where
 b9:Int
 Seq:Int
def I7(x:n9):List V:=[vi x.b9,vi x.Seq]
structure q8 where
 i5:Int
 j4:Int
def v6(x:q8):List V:=[vi x.i5,vi x.j4]
structure p6 where
 i5:Int
 f0:Int
def w8(x:p6):List V:=[vi x.i5,vi x.f0]
structure n5 where
 b5:List q8
 b6:List p6
 f0:Int
 Code:Int
def Q9(x:n5):List V:=[j8 2 v6 x.b5,j8 2 w8 x.b6,vi x.f0,vi x.Code]
structure m4 where
 i7:Bool
 a0:n9
 b8:n5
def t5(x:m4):List V:=[.b x.i7,vi x.a0.b9,vi x.a0.Seq,j8 2 v6 x.b8.b5,j8 2 w8 x.b8.b6,vi x.b8.f0,vi x.b8.Code]
structure m8 where
 a8:Int
 g9:m4
def p8(x:m8):List V:=[vi x.a8,.b x.g9.i7,vi x.g9.a0.b9,vi x.g9.a0.Seq,j8 2 v6 x.g9.b8.b5,j8 2 w8 x.g9.b8.b6,vi x.g9.b8.f0,vi x.g9.b8.Code]
structure z0 where
 i0:Int
 a7:List m8
def Z3(x:z0):List V:=[vi x.i0,j8 8 p8 x.a7]
structure j6 where
 Id:Int
 Acc:z0
 a5:List m4
 Seq:Int
 d7:Int
 a8:Int
 c8:List Bool
 i4:List m8
 c9:m4
 a7:List Bool
 i8:Bool
 i6:List n8
 b7:m4
 d9:List m4
def x6(x:j6):List V:=[vi x.Id,vi x.Acc.i0,j8 8 p8 x.Acc.a7,j8 7 t5 x.a5,vi x.Seq,vi x.d7,vi x.a8,j8 1 eB x.c8,j8 8 p8 x.i4,.b x.c9.i7,vi x.c9.a0.b9,vi x.c9.a0.Seq,j8 2 v6 x.c9.b8.b5,j8 2 w8 x.c9.b8.b6,vi x.c9.b8.f0,vi x.c9.b8.Code,j8 1 eB x.a7,.b x.i8,j8 4 A0 x.i6,.b x.b7.i7,vi x.b7.a0.b9,vi x.b7.a0.Seq,j8 2 v6 x.b7.b8.b5,j8 2 w8 x.b7.b8.b6,vi x.b7.b8.f0,vi x.b7.b8.Code,j8 7 t5 x.d9]
structure l8 where
 a9:Int
 c8:Int
 To:Int
 a8:Int
 g7:Int
 g9:m4
 a7:List m8
def s8(x:l8):List V:=[vi x.a9,vi x.c8,vi x.To,vi x.a8,vi x.g7,.b x.g9.i7,vi x.g9.a0.b9,vi x.g9.a0.Seq,j8 2 v6 x.g9.b8.b5,j8 2 w8 x.g9.b8.b6,vi x.g9.b8.f0,vi x.g9.b8.Code,j8 8 p8 x.a7]
structure x7 where
 a0:n9
 i6:List n8
def B4(x:x7):List V:=[vi x.a0.b9,vi x.a0.Seq,j8 4 A0 x.i6]
structure m9 where
 Node:Int
 a0:n9
 Code:Int
 f0:Int
def z4(x:m9):List V:=[vi x.Node,vi x.a0.b9,vi x.a0.Seq,vi x.Code,vi x.f0]
structure m5 where
 a6:List j6
 d6:List l8
 d8:List x7
 Told:List m9
def R1(x:m5):List V:=[j8 27 x6 x.a6,j8 13 s8 x.d6,j8 3 B4 x.d8,j8 5 z4 x.Told]
structure n7 where
 j4:Int
 f0:Int
def z6(x:n7):List V:=[vi x.j4,vi x.f0]
structure s5 where
 a0:n9
 Code:Int
 f0:Int
def B6(x:s5):List V:=[vi x.a0.b9,vi x.a0.Seq,vi x.Code,vi x.f0]
structure u6 where
 At:Int
 g8:List n7
 i9:List s5
def a8b(x:u6):List V:=[vi x.At,j8 2 z6 x.g8,j8 4 B6 x.i9]
structure o9 where
 n:j6
 out:List l8
 told:List m9
def d6j(x:o9):List V:=[vi x.n.Id,vi x.n.Acc.i0,j8 8 p8 x.n.Acc.a7,j8 7 t5 x.n.a5,vi x.n.Seq,vi x.n.d7,vi x.n.a8,j8 1 eB x.n.c8,j8 8 p8 x.n.i4,.b x.n.c9.i7,vi x.n.c9.a0.b9,vi x.n.c9.a0.Seq,j8 2 v6 x.n.c9.b8.b5,j8 2 w8 x.n.c9.b8.b6,vi x.n.c9.b8.f0,vi x.n.c9.b8.Code,j8 1 eB x.n.a7,.b x.n.i8,j8 4 A0 x.n.i6,.b x.n.b7.i7,vi x.n.b7.a0.b9,vi x.n.b7.a0.Seq,j8 2 v6 x.n.b7.b8.b5,j8 2 w8 x.n.b7.b8.b6,vi x.n.b7.b8.f0,vi x.n.b7.b8.Code,j8 7 t5 x.n.d9,j8 13 s8 x.out,j8 5 z4 x.told]
def z7(x:j6):List V:=[vi x.Id,vi x.Acc.i0,u9 106 8 p8 x.Acc.a7,u9 55 7 t5 x.a5,vi x.Seq,vi x.d7,vi x.a8,u9 4 1 eB x.c8,j8 8 p8 x.i4,.b x.c9.i7,vi x.c9.a0.b9,vi x.c9.a0.Seq,j8 2 v6 x.c9.b8.b5,j8 2 w8 x.c9.b8.b6,vi x.c9.b8.f0,vi x.c9.b8.Code,u9 4 1 eB x.a7,.b x.i8,j8 4 A0 x.i6,.b x.b7.i7,vi x.b7.a0.b9,vi x.b7.a0.Seq,j8 2 v6 x.b7.b8.b5,j8 2 w8 x.b7.b8.b6,vi x.b7.b8.f0,vi x.b7.b8.Code,u9 55 7 t5 x.d9]
theorem a5V(x:j6):∀v∈z7 x,v.isRef=false:=by simp [z7,V.isRef,vi,j8,u9,b0j]
theorem b4K(x:j6):a1A (z7 x)=x6 x:=by simp [z7,x6,a1A,a8f,vi,j8,u9,b0j]
def a08(x:m8):List V:=[vi x.a8,.b x.g9.i7,vi x.g9.a0.b9,vi x.g9.a0.Seq,u9 164 2 v6 x.g9.b8.b5,u9 166 2 w8 x.g9.b8.b6,vi x.g9.b8.f0,vi x.g9.b8.Code]
theorem e52(x:m8):a1A (a08 x)=p8 x:=by simp [a08,p8,a1A,a8f,vi,j8,u9,b0j]
def b09(l:List n8):List V:=[j8 4 A0 l]
def H1(x:n9):List Int:=[x.b9,x.Seq]
def H0(x_:j6):List V:=[vi x_.Id,vi x_.Acc.i0,u9 106 8 p8 x_.Acc.a7,u9 55 7 t5 x_.a5,vi x_.Seq,vi x_.d7,vi x_.a8,u9 4 1 eB x_.c8,j8 8 p8 x_.i4,.b x_.c9.i7,vi x_.c9.a0.b9,vi x_.c9.a0.Seq,j8 2 v6 x_.c9.b8.b5,j8 2 w8 x_.c9.b8.b6,vi x_.c9.b8.f0,vi x_.c9.b8.Code,u9 4 1 eB x_.a7,.b x_.i8,j8 4 A0 x_.i6,.b x_.b7.i7,vi x_.b7.a0.b9,vi x_.b7.a0.Seq,j8 2 v6 x_.b7.b8.b5,j8 2 w8 x_.b7.b8.b6,vi x_.b7.b8.f0,vi x_.b7.b8.Code,u9 55 7 t5 x_.d9]
def T9(x_:m5):List V:=[b0j 57 27 z7 x_.a6,u9 62 13 s8 x_.d6,u9 65 3 B4 x_.d8,u9 69 5 z4 x_.Told]
def e3m(x_:j6):List V:=[vi x_.Id,vi x_.Acc.i0,j8 8 p8 x_.Acc.a7,u9 55 7 t5 x_.a5,vi x_.Seq,vi x_.d7,vi x_.a8,u9 4 1 eB x_.c8,j8 8 p8 x_.i4,.b x_.c9.i7,vi x_.c9.a0.b9,vi x_.c9.a0.Seq,j8 2 v6 x_.c9.b8.b5,j8 2 w8 x_.c9.b8.b6,vi x_.c9.b8.f0,vi x_.c9.b8.Code,u9 4 1 eB x_.a7,.b x_.i8,j8 4 A0 x_.i6,.b x_.b7.i7,vi x_.b7.a0.b9,vi x_.b7.a0.Seq,j8 2 v6 x_.b7.b8.b5,j8 2 w8 x_.b7.b8.b6,vi x_.b7.b8.f0,vi x_.b7.b8.Code,u9 55 7 t5 x_.d9]
def a6J(x_:n5):List V:=[u9 164 2 v6 x_.b5,u9 166 2 w8 x_.b6,vi x_.f0,vi x_.Code]
def e5M(x_:m4):List V:=[.b x_.i7,vi x_.a0.b9,vi x_.a0.Seq,u9 164 2 v6 x_.b8.b5,u9 166 2 w8 x_.b8.b6,vi x_.b8.f0,vi x_.b8.Code]
def c6D(x_:m8):List V:=[vi x_.a8,.b x_.g9.i7,vi x_.g9.a0.b9,vi x_.g9.a0.Seq,j8 2 v6 x_.g9.b8.b5,j8 2 w8 x_.g9.b8.b6,vi x_.g9.b8.f0,vi x_.g9.b8.Code]
def a8u(x_:j6):List V:=[vi x_.Id,vi x_.Acc.i0,.own 0 0 8 0 x_.Acc.a7.length,.own 0 1 7 0 x_.a5.length,vi x_.Seq,vi x_.d7,vi x_.a8,.own 0 2 1 0 x_.c8.length,j8 8 p8 x_.i4,.b x_.c9.i7,vi x_.c9.a0.b9,vi x_.c9.a0.Seq,j8 2 v6 x_.c9.b8.b5,j8 2 w8 x_.c9.b8.b6,vi x_.c9.b8.f0,vi x_.c9.b8.Code,.own 0 3 1 0 x_.a7.length,.b x_.i8,j8 4 A0 x_.i6,.b x_.b7.i7,vi x_.b7.a0.b9,vi x_.b7.a0.Seq,j8 2 v6 x_.b7.b8.b5,j8 2 w8 x_.b7.b8.b6,vi x_.b7.b8.f0,vi x_.b7.b8.Code,.own 0 4 7 0 x_.d9.length]
def X6(x_:j6):List V:=[vi x_.Id,vi x_.Acc.i0,j8 8 p8 x_.Acc.a7,j8 7 t5 x_.a5,vi x_.Seq,vi x_.d7,vi x_.a8,j8 1 eB x_.c8,j8 8 p8 x_.i4,.b x_.c9.i7,vi x_.c9.a0.b9,vi x_.c9.a0.Seq,j8 2 v6 x_.c9.b8.b5,j8 2 w8 x_.c9.b8.b6,vi x_.c9.b8.f0,vi x_.c9.b8.Code,j8 1 eB x_.a7,.b x_.i8,j8 4 A0 x_.i6,.b x_.b7.i7,vi x_.b7.a0.b9,vi x_.b7.a0.Seq,j8 2 v6 x_.b7.b8.b5,j8 2 w8 x_.b7.b8.b6,vi x_.b7.b8.f0,vi x_.b7.b8.Code,j8 7 t5 x_.d9]
def a4y(x_:l8):List V:=[vi x_.a9,vi x_.c8,vi x_.To,vi x_.a8,vi x_.g7,.b x_.g9.i7,vi x_.g9.a0.b9,vi x_.g9.a0.Seq,j8 2 v6 x_.g9.b8.b5,j8 2 w8 x_.g9.b8.b6,vi x_.g9.b8.f0,vi x_.g9.b8.Code,j8 8 p8 x_.a7]
def a20(x_:m4):List V:=[.b x_.i7,vi x_.a0.b9,vi x_.a0.Seq,j8 2 v6 x_.b8.b5,j8 2 w8 x_.b8.b6,vi x_.b8.f0,vi x_.b8.Code]
def b2Z(x_:u6):List V:=[vi x_.At,u9 150 2 z6 x_.g8,j8 4 B6 x_.i9]
def f3g(x_:j6):List V:=[.bot,.bot,u9 106 8 p8 x_.Acc.a7,u9 55 7 t5 x_.a5,.bot,.bot,.bot,u9 4 1 eB x_.c8,.bot,.bot,.bot,.bot,.bot,.bot,.bot,.bot,u9 4 1 eB x_.a7,.bot,.bot,.bot,.bot,.bot,.bot,.bot,.bot,.bot,u9 55 7 t5 x_.d9]
def e00(x_:j6):List V:=[vi x_.Id,vi x_.Acc.i0,.own 3 0 8 0 x_.Acc.a7.length,.own 4 0 7 0 x_.a5.length,vi x_.Seq,vi x_.d7,vi x_.a8,.own 5 0 1 0 x_.c8.length,j8 8 p8 x_.i4,.b x_.c9.i7,vi x_.c9.a0.b9,vi x_.c9.a0.Seq,j8 2 v6 x_.c9.b8.b5,j8 2 w8 x_.c9.b8.b6,vi x_.c9.b8.f0,vi x_.c9.b8.Code,.own 6 0 1 0 x_.a7.length,.b x_.i8,j8 4 A0 x_.i6,.b x_.b7.i7,vi x_.b7.a0.b9,vi x_.b7.a0.Seq,j8 2 v6 x_.b7.b8.b5,j8 2 w8 x_.b7.b8.b6,vi x_.b7.b8.f0,vi x_.b7.b8.Code,.own 7 0 7 0 x_.d9.length]
def a8X(x_:m5):List V:=[u9 57 27 x6 x_.a6,u9 62 13 s8 x_.d6,u9 65 3 B4 x_.d8,u9 69 5 z4 x_.Told]
def b6n(x_:o9):List V:=[vi x_.n.Id,vi x_.n.Acc.i0,j8 8 p8 x_.n.Acc.a7,u9 55 7 t5 x_.n.a5,vi x_.n.Seq,vi x_.n.d7,vi x_.n.a8,u9 4 1 eB x_.n.c8,j8 8 p8 x_.n.i4,.b x_.n.c9.i7,vi x_.n.c9.a0.b9,vi x_.n.c9.a0.Seq,j8 2 v6 x_.n.c9.b8.b5,j8 2 w8 x_.n.c9.b8.b6,vi x_.n.c9.b8.f0,vi x_.n.c9.b8.Code,u9 4 1 eB x_.n.a7,.b x_.n.i8,j8 4 A0 x_.n.i6,.b x_.n.b7.i7,vi x_.n.b7.a0.b9,vi x_.n.b7.a0.Seq,j8 2 v6 x_.n.b7.b8.b5,j8 2 w8 x_.n.b7.b8.b6,vi x_.n.b7.b8.f0,vi x_.n.b7.b8.Code,u9 55 7 t5 x_.n.d9,u9 62 13 s8 x_.out,u9 69 5 z4 x_.told]
def b4D(x_:u6):List V:=[vi x_.At,u9 150 2 z6 x_.g8,u9 188 4 B6 x_.i9]
def c3u(x_:o9):List V:=[vi x_.n.Id,vi x_.n.Acc.i0,j8 8 p8 x_.n.Acc.a7,.own 0 1 7 0 x_.n.a5.length,vi x_.n.Seq,vi x_.n.d7,vi x_.n.a8,.own 0 2 1 0 x_.n.c8.length,j8 8 p8 x_.n.i4,.b x_.n.c9.i7,vi x_.n.c9.a0.b9,vi x_.n.c9.a0.Seq,j8 2 v6 x_.n.c9.b8.b5,j8 2 w8 x_.n.c9.b8.b6,vi x_.n.c9.b8.f0,vi x_.n.c9.b8.Code,.own 0 3 1 0 x_.n.a7.length,.b x_.n.i8,j8 4 A0 x_.n.i6,.b x_.n.b7.i7,vi x_.n.b7.a0.b9,vi x_.n.b7.a0.Seq,j8 2 v6 x_.n.b7.b8.b5,j8 2 w8 x_.n.b7.b8.b6,vi x_.n.b7.b8.f0,vi x_.n.b7.b8.Code,j8 7 t5 x_.n.d9,.own 0 4 13 0 x_.out.length,.own 0 5 5 0 x_.told.length]
def M0(x_:o9):List V:=[vi x_.n.Id,vi x_.n.Acc.i0,j8 8 p8 x_.n.Acc.a7,u9 55 7 t5 x_.n.a5,vi x_.n.Seq,vi x_.n.d7,vi x_.n.a8,u9 4 1 eB x_.n.c8,j8 8 p8 x_.n.i4,.b x_.n.c9.i7,vi x_.n.c9.a0.b9,vi x_.n.c9.a0.Seq,j8 2 v6 x_.n.c9.b8.b5,j8 2 w8 x_.n.c9.b8.b6,vi x_.n.c9.b8.f0,vi x_.n.c9.b8.Code,u9 4 1 eB x_.n.a7,.b x_.n.i8,j8 4 A0 x_.n.i6,.b x_.n.b7.i7,vi x_.n.b7.a0.b9,vi x_.n.b7.a0.Seq,j8 2 v6 x_.n.b7.b8.b5,j8 2 w8 x_.n.b7.b8.b6,vi x_.n.b7.b8.f0,vi x_.n.b7.b8.Code,j8 7 t5 x_.n.d9,u9 62 13 s8 x_.out,u9 69 5 z4 x_.told]
def b31(x_:o9):List V:=[vi x_.n.Id,vi x_.n.Acc.i0,j8 8 p8 x_.n.Acc.a7,.own 1 0 7 0 x_.n.a5.length,vi x_.n.Seq,vi x_.n.d7,vi x_.n.a8,.own 2 0 1 0 x_.n.c8.length,j8 8 p8 x_.n.i4,.b x_.n.c9.i7,vi x_.n.c9.a0.b9,vi x_.n.c9.a0.Seq,j8 2 v6 x_.n.c9.b8.b5,j8 2 w8 x_.n.c9.b8.b6,vi x_.n.c9.b8.f0,vi x_.n.c9.b8.Code,.own 3 0 1 0 x_.n.a7.length,.b x_.n.i8,j8 4 A0 x_.n.i6,.b x_.n.b7.i7,vi x_.n.b7.a0.b9,vi x_.n.b7.a0.Seq,j8 2 v6 x_.n.b7.b8.b5,j8 2 w8 x_.n.b7.b8.b6,vi x_.n.b7.b8.f0,vi x_.n.b7.b8.Code,j8 7 t5 x_.n.d9,.own 4 0 13 0 x_.out.length,.own 5 0 5 0 x_.told.length]
def e5m(x_:o9):List V:=[vi x_.n.Id,vi x_.n.Acc.i0,j8 8 p8 x_.n.Acc.a7,.own 6 0 7 0 x_.n.a5.length,vi x_.n.Seq,vi x_.n.d7,vi x_.n.a8,.own 5 0 1 0 x_.n.c8.length,j8 8 p8 x_.n.i4,.b x_.n.c9.i7,vi x_.n.c9.a0.b9,vi x_.n.c9.a0.Seq,j8 2 v6 x_.n.c9.b8.b5,j8 2 w8 x_.n.c9.b8.b6,vi x_.n.c9.b8.f0,vi x_.n.c9.b8.Code,.own 4 0 1 0 x_.n.a7.length,.b x_.n.i8,j8 4 A0 x_.n.i6,.b x_.n.b7.i7,vi x_.n.b7.a0.b9,vi x_.n.b7.a0.Seq,j8 2 v6 x_.n.b7.b8.b5,j8 2 w8 x_.n.b7.b8.b6,vi x_.n.b7.b8.f0,vi x_.n.b7.b8.Code,j8 7 t5 x_.n.d9,.own 3 0 13 0 x_.out.length,.own 2 0 5 0 x_.told.length]
def b1Z(x_:o9):List V:=[vi x_.n.Id,vi x_.n.Acc.i0,j8 8 p8 x_.n.Acc.a7,.own 3 0 7 0 x_.n.a5.length,vi x_.n.Seq,vi x_.n.d7,vi x_.n.a8,.own 4 0 1 0 x_.n.c8.length,j8 8 p8 x_.n.i4,.b x_.n.c9.i7,vi x_.n.c9.a0.b9,vi x_.n.c9.a0.Seq,j8 2 v6 x_.n.c9.b8.b5,j8 2 w8 x_.n.c9.b8.b6,vi x_.n.c9.b8.f0,vi x_.n.c9.b8.Code,.own 5 0 1 0 x_.n.a7.length,.b x_.n.i8,j8 4 A0 x_.n.i6,.b x_.n.b7.i7,vi x_.n.b7.a0.b9,vi x_.n.b7.a0.Seq,j8 2 v6 x_.n.b7.b8.b5,j8 2 w8 x_.n.b7.b8.b6,vi x_.n.b7.b8.f0,vi x_.n.b7.b8.Code,j8 7 t5 x_.n.d9,.own 6 0 13 0 x_.out.length,.own 7 0 5 0 x_.told.length]
def c9O(x_:o9):List V:=[vi x_.n.Id,vi x_.n.Acc.i0,j8 8 p8 x_.n.Acc.a7,.own 1 0 7 0 x_.n.a5.length,vi x_.n.Seq,vi x_.n.d7,vi x_.n.a8,.own 0 2 1 0 x_.n.c8.length,j8 8 p8 x_.n.i4,.b x_.n.c9.i7,vi x_.n.c9.a0.b9,vi x_.n.c9.a0.Seq,j8 2 v6 x_.n.c9.b8.b5,j8 2 w8 x_.n.c9.b8.b6,vi x_.n.c9.b8.f0,vi x_.n.c9.b8.Code,.own 2 0 1 0 x_.n.a7.length,.b x_.n.i8,j8 4 A0 x_.n.i6,.b x_.n.b7.i7,vi x_.n.b7.a0.b9,vi x_.n.b7.a0.Seq,j8 2 v6 x_.n.b7.b8.b5,j8 2 w8 x_.n.b7.b8.b6,vi x_.n.b7.b8.f0,vi x_.n.b7.b8.Code,j8 7 t5 x_.n.d9,.own 0 4 13 0 x_.out.length,.own 0 5 5 0 x_.told.length]
def e6V(x_:o9):List V:=[vi x_.n.Id,vi x_.n.Acc.i0,j8 8 p8 x_.n.Acc.a7,.own 1 0 7 0 x_.n.a5.length,vi x_.n.Seq,vi x_.n.d7,vi x_.n.a8,.own 0 2 1 0 x_.n.c8.length,j8 8 p8 x_.n.i4,.b x_.n.c9.i7,vi x_.n.c9.a0.b9,vi x_.n.c9.a0.Seq,j8 2 v6 x_.n.c9.b8.b5,j8 2 w8 x_.n.c9.b8.b6,vi x_.n.c9.b8.f0,vi x_.n.c9.b8.Code,.own 2 0 1 0 x_.n.a7.length,.b x_.n.i8,j8 4 A0 x_.n.i6,.b x_.n.b7.i7,vi x_.n.b7.a0.b9,vi x_.n.b7.a0.Seq,j8 2 v6 x_.n.b7.b8.b5,j8 2 w8 x_.n.b7.b8.b6,vi x_.n.b7.b8.f0,vi x_.n.b7.b8.Code,j8 7 t5 x_.n.d9,.own 0 4 13 0 x_.out.length,.own 3 0 5 0 x_.told.length]
def e8d(x_:o9):List V:=[vi x_.n.Id,vi x_.n.Acc.i0,j8 8 p8 x_.n.Acc.a7,.own 4 0 7 0 x_.n.a5.length,vi x_.n.Seq,vi x_.n.d7,vi x_.n.a8,.own 5 0 1 0 x_.n.c8.length,j8 8 p8 x_.n.i4,.b x_.n.c9.i7,vi x_.n.c9.a0.b9,vi x_.n.c9.a0.Seq,j8 2 v6 x_.n.c9.b8.b5,j8 2 w8 x_.n.c9.b8.b6,vi x_.n.c9.b8.f0,vi x_.n.c9.b8.Code,.own 6 0 1 0 x_.n.a7.length,.b x_.n.i8,j8 4 A0 x_.n.i6,.b x_.n.b7.i7,vi x_.n.b7.a0.b9,vi x_.n.b7.a0.Seq,j8 2 v6 x_.n.b7.b8.b5,j8 2 w8 x_.n.b7.b8.b6,vi x_.n.b7.b8.f0,vi x_.n.b7.b8.Code,j8 7 t5 x_.n.d9,.own 7 0 13 0 x_.out.length,.own 8 0 5 0 x_.told.length]
def a8N(x_:j6):List s6:=[m6 106 8 p8 x_.Acc.a7,m6 55 7 t5 x_.a5,m6 4 1 eB x_.c8,m6 4 1 eB x_.a7,m6 55 7 t5 x_.d9]
def e1K(x_:j6):List (Option (List s6)):=[some [m6 106 8 p8 x_.Acc.a7],some [m6 55 7 t5 x_.a5],some [m6 4 1 eB x_.c8],some [m6 4 1 eB x_.a7],some [m6 55 7 t5 x_.d9]]
def c3a(x_:o9):List s6:=[m6 55 7 t5 x_.n.a5,m6 4 1 eB x_.n.c8,m6 4 1 eB x_.n.a7,m6 62 13 s8 x_.out,m6 69 5 z4 x_.told]
def a3h(x_:o9):List (Option (List s6)):=[some [m6 55 7 t5 x_.n.a5],some [m6 4 1 eB x_.n.c8],some [m6 4 1 eB x_.n.a7],some [m6 62 13 s8 x_.out],some [m6 69 5 z4 x_.told]]
def e4b(x_:o9):List (Option (List s6)):=[some [m6 69 5 z4 x_.told],some [m6 62 13 s8 x_.out],some [m6 4 1 eB x_.n.a7],some [m6 4 1 eB x_.n.c8],some [m6 55 7 t5 x_.n.a5]]
def d3z(x_:o9):List s6:=[m6 62 13 s8 x_.out,m6 69 5 z4 x_.told]
def d0f(x_:o9):List (Option (List s6)):=[some [m6 55 7 t5 x_.n.a5],some [m6 4 1 eB x_.n.a7]]
def f0r(x_:o9):List (Option (List s6)):=[some [m6 55 7 t5 x_.n.a5],some [m6 4 1 eB x_.n.a7],some [m6 69 5 z4 x_.told]]
def G7:List (Option Nat):=[none,none,some 106,some 55,none,none,none,some 4,none,none,none,none,none,none,none,none,some 4,none,none,none,none,none,none,none,none,none,some 55]
def U3:List (Option Nat):=[some 1000057,some 62,some 65,some 69]
def om3:List (Option Nat):=[none,none,none,some 55,none,none,none,some 4,none,none,none,none,none,none,none,none,some 4,none,none,none,none,none,none,none,none,none,some 55]
def om4:List (Option Nat):=[some 164,some 166,none,none]
def om5:List (Option Nat):=[none,none,none,some 164,some 166,none,none]
def om6:List (Option Nat):=[some 57,some 62,some 65,some 69]
def om7:List (Option Nat):=[none,none,none,some 55,none,none,none,some 4,none,none,none,none,none,none,none,none,some 4,none,none,none,none,none,none,none,none,none,some 55,some 62,some 69]
def L2:List (Option Nat):=[none,none,none,some 55,none,none,none,some 4,none,none,none,none,none,none,none,none,some 4,none,none,none,none,none,none,none,none,none,none,some 62,some 69]
def E2:List (Option Nat):=[some 27,some 13,some 3,some 5]
def O2:List (Option Nat):=[some 2,some 2,none,none]
def K4:List (Option Nat):=[none,none,none,some 2,some 2,none,none]
def A7:List (Option Nat):=[none,none,some 8,some 7,none,none,none,some 1,some 8,none,none,none,some 2,some 2,none,none,some 1,none,some 4,none,none,none,some 2,some 2,none,none,some 7]
def B8:List (Option Nat):=[none,none,none,none,none,none,none,none,some 2,some 2,none,none,some 8]
def W0:List (Option Nat):=[none,none,none,none,some 2,some 2,none,none]
def I4:List (Option Nat):=[none,none,some 8,some 7,none,none,none,some 1,some 8,none,none,none,some 2,some 2,none,none,some 1,none,some 4,none,none,none,some 2,some 2,none,none,some 7,some 13,some 5]
theorem d1W(d:Nat)(w:World)(x0 x1 y0 y1:Int):(Op.equalIn (d+2) 49 (.agg #[.int .i64 x0,.int .i64 x1]) (.agg #[.int .i64 y0,.int .i64 y1])).run Tryz.prog w=.ok ((x0==y0)&&((x1==y1)&&true)) w:=by
 refine b0n Tryz.underlying49 Tryz.stoodInHeld49 ?_;refine a0C (by rfl) (by first|(go_simp;done)|(go_simp;rfl)) (by first|(go_simp;done)|(go_simp;rfl)) (a0X Tryz.underlying3) ?_;refine a0C (by rfl) (by first|(go_simp;done)|(go_simp;rfl)) (by first|(go_simp;done)|(go_simp;rfl)) (a0X Tryz.underlying3) ?_;exact a9M
theorem e4i(xs ys:List Int)(w:World)(hx:xs.length=2)(hy:ys.length=2):(Op.equal 49 (.agg (xs.map (Value.int .i64)).toArray) (.agg (ys.map (Value.int .i64)).toArray)).run Tryz.prog w=.ok (xs==ys) w:=by
 match xs,ys,hx,hy with
 | [x0,x1],[y0,y1],_,_ =>
  have h:=d1W 9998 w x0 x1 y0 y1;have e:((x0==y0)&&((x1==y1)&&true))=([x0,x1]==([y0,y1]:List Int)):=by simp [f7i]
  rw [e] at h;exact h
theorem f2O(d:Nat)(w:World)(x0 x1 x2 x3 x4 y0 y1 y2 y3 y4:Int):(Op.equalIn (d+3) 69 (.agg #[.int .i64 x0,.int .i64 x1,.int .i64 x2,.int .i64 x3,.int .i64 x4]) (.agg #[.int .i64 y0,.int .i64 y1,.int .i64 y2,.int .i64 y3,.int .i64 y4])).run Tryz.prog w=.ok ((x0==y0)&&(((x1==y1)&&((x2==y2)&&true))&&((x3==y3)&&((x4==y4)&&true)))) w:=by
 refine b0n Tryz.underlying69 Tryz.stoodInHeld69 ?_;refine a0C (by rfl) (by first|(go_simp;done)|(go_simp;rfl)) (by first|(go_simp;done)|(go_simp;rfl)) (a0X Tryz.underlying3) ?_;refine a0C (by rfl) (by first|(go_simp;done)|(go_simp;rfl)) (by first|(go_simp;done)|(go_simp;rfl)) (d1W (d+0) w x1 x2 y1 y2) ?_;refine a0C (by rfl) (by first|(go_simp;done)|(go_simp;rfl)) (by first|(go_simp;done)|(go_simp;rfl)) (a0X Tryz.underlying3) ?_;refine a0C (by rfl) (by first|(go_simp;done)|(go_simp;rfl)) (by first|(go_simp;done)|(go_simp;rfl)) (a0X Tryz.underlying3) ?_;exact a9M
theorem e2u(xs ys:List Int)(w:World)(hx:xs.length=5)(hy:ys.length=5):(Op.equal 69 (.agg (xs.map (Value.int .i64)).toArray) (.agg (ys.map (Value.int .i64)).toArray)).run Tryz.prog w=.ok (xs==ys) w:=by
 match xs,ys,hx,hy with
 | [x0,x1,x2,x3,x4],[y0,y1,y2,y3,y4],_,_ =>
  have h:=f2O 9997 w x0 x1 x2 x3 x4 y0 y1 y2 y3 y4;have e:((x0==y0)&&(((x1==y1)&&((x2==y2)&&true))&&((x3==y3)&&((x4==y4)&&true))))=([x0,x1,x2,x3,x4]==([y0,y1,y2,y3,y4]:List Int)):=by simp [f7i]
  rw [e] at h;exact h
theorem d8V(d:Nat)(w:World)(x0 x1 x2 x3 y0 y1 y2 y3:Int):(Op.equalIn (d+2) 93 (.agg #[.int .i64 x0,.int .i64 x1,.int .i64 x2,.int .i64 x3]) (.agg #[.int .i64 y0,.int .i64 y1,.int .i64 y2,.int .i64 y3])).run Tryz.prog w=.ok ((x0==y0)&&((x1==y1)&&((x2==y2)&&((x3==y3)&&true)))) w:=by
 refine b0n Tryz.underlying93 Tryz.stoodInHeld93 ?_;refine a0C (by rfl) (by first|(go_simp;done)|(go_simp;rfl)) (by first|(go_simp;done)|(go_simp;rfl)) (a0X Tryz.underlying3) ?_;refine a0C (by rfl) (by first|(go_simp;done)|(go_simp;rfl)) (by first|(go_simp;done)|(go_simp;rfl)) (a0X Tryz.underlying3) ?_;refine a0C (by rfl) (by first|(go_simp;done)|(go_simp;rfl)) (by first|(go_simp;done)|(go_simp;rfl)) (a0X Tryz.underlying3) ?_;refine a0C (by rfl) (by first|(go_simp;done)|(go_simp;rfl)) (by first|(go_simp;done)|(go_simp;rfl)) (a0X Tryz.underlying3) ?_;exact a9M
theorem e1O(xs ys:List Int)(w:World)(hx:xs.length=4)(hy:ys.length=4):(Op.equal 93 (.agg (xs.map (Value.int .i64)).toArray) (.agg (ys.map (Value.int .i64)).toArray)).run Tryz.prog w=.ok (xs==ys) w:=by
 match xs,ys,hx,hy with
 | [x0,x1,x2,x3],[y0,y1,y2,y3],_,_ =>
  have h:=d8V 9998 w x0 x1 x2 x3 y0 y1 y2 y3;have e:((x0==y0)&&((x1==y1)&&((x2==y2)&&((x3==y3)&&true))))=([x0,x1,x2,x3]==([y0,y1,y2,y3]:List Int)):=by simp [f7i]
  rw [e] at h;exact h
theorem f0e(d:Nat)(w:World)(x0 x1 y0 y1:Int):(Op.equalIn (d+2) 150 (.agg #[.int .i64 x0,.int .i64 x1]) (.agg #[.int .i64 y0,.int .i64 y1])).run Tryz.prog w=.ok ((x0==y0)&&((x1==y1)&&true)) w:=by
 refine b0n Tryz.underlying150 Tryz.stoodInHeld150 ?_;refine a0C (by rfl) (by first|(go_simp;done)|(go_simp;rfl)) (by first|(go_simp;done)|(go_simp;rfl)) (a0X Tryz.underlying3) ?_;refine a0C (by rfl) (by first|(go_simp;done)|(go_simp;rfl)) (by first|(go_simp;done)|(go_simp;rfl)) (a0X Tryz.underlying3) ?_;exact a9M
theorem e7W(xs ys:List Int)(w:World)(hx:xs.length=2)(hy:ys.length=2):(Op.equal 150 (.agg (xs.map (Value.int .i64)).toArray) (.agg (ys.map (Value.int .i64)).toArray)).run Tryz.prog w=.ok (xs==ys) w:=by
 match xs,ys,hx,hy with
 | [x0,x1],[y0,y1],_,_ =>
  have h:=f0e 9998 w x0 x1 y0 y1;have e:((x0==y0)&&((x1==y1)&&true))=([x0,x1]==([y0,y1]:List Int)):=by simp [f7i]
  rw [e] at h;exact h
theorem e6E(d:Nat)(w:World)(x0 x1 y0 y1:Int):(Op.equalIn (d+2) 164 (.agg #[.int .i64 x0,.int .i64 x1]) (.agg #[.int .i64 y0,.int .i64 y1])).run Tryz.prog w=.ok ((x0==y0)&&((x1==y1)&&true)) w:=by
 refine b0n Tryz.underlying164 Tryz.stoodInHeld164 ?_;refine a0C (by rfl) (by first|(go_simp;done)|(go_simp;rfl)) (by first|(go_simp;done)|(go_simp;rfl)) (a0X Tryz.underlying3) ?_;refine a0C (by rfl) (by first|(go_simp;done)|(go_simp;rfl)) (by first|(go_simp;done)|(go_simp;rfl)) (a0X Tryz.underlying3) ?_;exact a9M
theorem f0F(xs ys:List Int)(w:World)(hx:xs.length=2)(hy:ys.length=2):(Op.equal 164 (.agg (xs.map (Value.int .i64)).toArray) (.agg (ys.map (Value.int .i64)).toArray)).run Tryz.prog w=.ok (xs==ys) w:=by
 match xs,ys,hx,hy with
 | [x0,x1],[y0,y1],_,_ =>
  have h:=e6E 9998 w x0 x1 y0 y1;have e:((x0==y0)&&((x1==y1)&&true))=([x0,x1]==([y0,y1]:List Int)):=by simp [f7i]
  rw [e] at h;exact h
theorem e0k(d:Nat)(w:World)(x0 x1 y0 y1:Int):(Op.equalIn (d+2) 166 (.agg #[.int .i64 x0,.int .i64 x1]) (.agg #[.int .i64 y0,.int .i64 y1])).run Tryz.prog w=.ok ((x0==y0)&&((x1==y1)&&true)) w:=by
 refine b0n Tryz.underlying166 Tryz.stoodInHeld166 ?_;refine a0C (by rfl) (by first|(go_simp;done)|(go_simp;rfl)) (by first|(go_simp;done)|(go_simp;rfl)) (a0X Tryz.underlying3) ?_;refine a0C (by rfl) (by first|(go_simp;done)|(go_simp;rfl)) (by first|(go_simp;done)|(go_simp;rfl)) (a0X Tryz.underlying3) ?_;exact a9M
theorem f2w(xs ys:List Int)(w:World)(hx:xs.length=2)(hy:ys.length=2):(Op.equal 166 (.agg (xs.map (Value.int .i64)).toArray) (.agg (ys.map (Value.int .i64)).toArray)).run Tryz.prog w=.ok (xs==ys) w:=by
 match xs,ys,hx,hy with
 | [x0,x1],[y0,y1],_,_ =>
  have h:=e0k 9998 w x0 x1 y0 y1;have e:((x0==y0)&&((x1==y1)&&true))=([x0,x1]==([y0,y1]:List Int)):=by simp [f7i]
  rw [e] at h;exact h
def ti3:TI:={size:=1,bytes:=8,agg:=false,zero:=[vi 0],sl:=none,arr:=none,ik:=some .i64,fs:=none,str:=false,ptr:=none,bl:=false}
def ti4:TI:={size:=1,bytes:=1,agg:=false,zero:=[.b false],sl:=none,arr:=none,ik:=none,fs:=none,str:=false,ptr:=none,bl:=true}
def ti5:TI:={size:=1,bytes:=1,agg:=false,zero:=[.i .u8 0],sl:=none,arr:=none,ik:=some .u8,fs:=none,str:=false,ptr:=none,bl:=false}
def d6u:TI:={size:=1,bytes:=24,agg:=false,zero:=[.nil],sl:=some 5,arr:=none,ik:=none,fs:=none,str:=false,ptr:=none,bl:=false}
def d0R:TI:={size:=1,bytes:=24,agg:=false,zero:=[.nil],sl:=some 36,arr:=none,ik:=none,fs:=none,str:=false,ptr:=none,bl:=false}
def d09:TI:={size:=1,bytes:=24,agg:=false,zero:=[.nil],sl:=some 57,arr:=none,ik:=none,fs:=none,str:=false,ptr:=none,bl:=false}
def c8a:TI:={size:=1,bytes:=24,agg:=false,zero:=[.nil],sl:=some 62,arr:=none,ik:=none,fs:=none,str:=false,ptr:=none,bl:=false}
def d4W:TI:={size:=1,bytes:=24,agg:=false,zero:=[.nil],sl:=some 65,arr:=none,ik:=none,fs:=none,str:=false,ptr:=none,bl:=false}
def d0q:TI:={size:=1,bytes:=24,agg:=false,zero:=[.nil],sl:=some 69,arr:=none,ik:=none,fs:=none,str:=false,ptr:=none,bl:=false}
def d3O:TI:={size:=4,bytes:=96,agg:=true,zero:=[.nil,.nil,.nil,.nil],sl:=none,arr:=none,ik:=none,fs:=some [(0,25),(1,26),(2,27),(3,28)],str:=false,ptr:=none,bl:=false}
def d4Q:TI:={size:=1,bytes:=24,agg:=false,zero:=[.nil],sl:=some 93,arr:=none,ik:=none,fs:=none,str:=false,ptr:=none,bl:=false}
def d29:TI:={size:=3,bytes:=40,agg:=true,zero:=[vi 0,vi 0,.nil],sl:=none,arr:=none,ik:=none,fs:=some [(0,3),(1,3),(2,34)],str:=false,ptr:=none,bl:=false}
def d3Y:TI:={size:=1,bytes:=24,agg:=false,zero:=[.nil],sl:=some 55,arr:=none,ik:=none,fs:=none,str:=false,ptr:=none,bl:=false}
def d4n:TI:={size:=1,bytes:=24,agg:=false,zero:=[.nil],sl:=some 106,arr:=none,ik:=none,fs:=none,str:=false,ptr:=none,bl:=false}
def d5x:TI:={size:=2,bytes:=32,agg:=true,zero:=[vi 0,.nil],sl:=none,arr:=none,ik:=none,fs:=some [(0,3),(1,44)],str:=false,ptr:=none,bl:=false}
def c8p:TI:={size:=1,bytes:=24,agg:=false,zero:=[.nil],sl:=some 4,arr:=none,ik:=none,fs:=none,str:=false,ptr:=none,bl:=false}
def c0h:TI:={size:=2,bytes:=16,agg:=true,zero:=[vi 0,vi 0],sl:=none,arr:=none,ik:=none,fs:=some [(0,3),(1,3)],str:=false,ptr:=none,bl:=false}
def d2p:TI:={size:=1,bytes:=24,agg:=false,zero:=[.nil],sl:=some 164,arr:=none,ik:=none,fs:=none,str:=false,ptr:=none,bl:=false}
def d3F:TI:={size:=1,bytes:=24,agg:=false,zero:=[.nil],sl:=some 166,arr:=none,ik:=none,fs:=none,str:=false,ptr:=none,bl:=false}
def d3j:TI:={size:=4,bytes:=64,agg:=true,zero:=[.nil,.nil,vi 0,vi 0],sl:=none,arr:=none,ik:=none,fs:=some [(0,50),(1,51),(2,3),(3,3)],str:=false,ptr:=none,bl:=false}
def c3v:TI:={size:=7,bytes:=88,agg:=true,zero:=[.b false,vi 0,vi 0,.nil,.nil,vi 0,vi 0],sl:=none,arr:=none,ik:=none,fs:=some [(0,4),(1,49),(3,53)],str:=false,ptr:=none,bl:=false}
def c4N:TI:={size:=27,bytes:=392,agg:=true,zero:=[vi 0,vi 0,.nil,.nil,vi 0,vi 0,vi 0,.nil,.nil,.b false,vi 0,vi 0,.nil,.nil,vi 0,vi 0,.nil,.b false,.nil,.b false,vi 0,vi 0,.nil,.nil,vi 0,vi 0,.nil],sl:=none,arr:=none,ik:=none,fs:=some [(0,3),(1,46),(3,38),(4,3),(5,3),(6,3),(7,47),(8,44),(9,55),(16,47),(17,4),(18,34),(19,55),(26,38)],str:=false,ptr:=none,bl:=false}
def c2j:TI:={size:=13,bytes:=152,agg:=true,zero:=[vi 0,vi 0,vi 0,vi 0,vi 0,.b false,vi 0,vi 0,.nil,.nil,vi 0,vi 0,.nil],sl:=none,arr:=none,ik:=none,fs:=some [(0,3),(1,3),(2,3),(3,3),(4,3),(5,55),(12,44)],str:=false,ptr:=none,bl:=false}
def c4j:TI:={size:=3,bytes:=40,agg:=true,zero:=[vi 0,vi 0,.nil],sl:=none,arr:=none,ik:=none,fs:=some [(0,49),(2,34)],str:=false,ptr:=none,bl:=false}
def c5Q:TI:={size:=5,bytes:=40,agg:=true,zero:=[vi 0,vi 0,vi 0,vi 0,vi 0],sl:=none,arr:=none,ik:=none,fs:=some [(0,3),(1,49),(3,3),(4,3)],str:=false,ptr:=none,bl:=false}
def d3h:TI:={size:=1,bytes:=24,agg:=false,zero:=[.nil],sl:=some 3,arr:=none,ik:=none,fs:=none,str:=false,ptr:=none,bl:=false}
def d3a:TI:={size:=2,bytes:=32,agg:=true,zero:=[.nil,vi 0],sl:=none,arr:=none,ik:=none,fs:=some [(0,22),(1,3)],str:=false,ptr:=none,bl:=false}
def c3U:TI:={size:=4,bytes:=32,agg:=true,zero:=[vi 0,vi 0,vi 0,vi 0],sl:=none,arr:=none,ik:=none,fs:=some [(0,3),(1,3),(2,3),(3,3)],str:=false,ptr:=none,bl:=false}
def b18:TI:={size:=8,bytes:=96,agg:=true,zero:=[vi 0,.b false,vi 0,vi 0,.nil,.nil,vi 0,vi 0],sl:=none,arr:=none,ik:=none,fs:=some [(0,3),(1,55)],str:=false,ptr:=none,bl:=false}
def d07:TI:={size:=1,bytes:=24,agg:=false,zero:=[.nil],sl:=some 49,arr:=none,ik:=none,fs:=none,str:=false,ptr:=none,bl:=false}
def c8y:TI:={size:=1,bytes:=24,agg:=false,zero:=[.nil],sl:=some 34,arr:=none,ik:=none,fs:=none,str:=false,ptr:=none,bl:=false}
def d5D:TI:={size:=1,bytes:=24,agg:=false,zero:=[.nil],sl:=some 150,arr:=none,ik:=none,fs:=none,str:=false,ptr:=none,bl:=false}
def d36:TI:={size:=1,bytes:=24,agg:=false,zero:=[.nil],sl:=some 188,arr:=none,ik:=none,fs:=none,str:=false,ptr:=none,bl:=false}
def c5Y:TI:={size:=3,bytes:=56,agg:=true,zero:=[vi 0,.nil,.nil],sl:=none,arr:=none,ik:=none,fs:=some [(0,3),(1,113),(2,118)],str:=false,ptr:=none,bl:=false}
def b2L:TI:={size:=2,bytes:=16,agg:=true,zero:=[vi 0,vi 0],sl:=none,arr:=none,ik:=none,fs:=some [(0,3),(1,3)],str:=false,ptr:=none,bl:=false}
def d4U:TI:={size:=4,bytes:=4,agg:=true,zero:=[.b false,.b false,.b false,.b false],sl:=none,arr:=some (4,4),ik:=none,fs:=none,str:=false,ptr:=none,bl:=false}
def c25:TI:={size:=2,bytes:=16,agg:=true,zero:=[vi 0,vi 0],sl:=none,arr:=none,ik:=none,fs:=some [(0,3),(1,3)],str:=false,ptr:=none,bl:=false}
def c1G:TI:={size:=2,bytes:=16,agg:=true,zero:=[vi 0,vi 0],sl:=none,arr:=none,ik:=none,fs:=some [(0,3),(1,3)],str:=false,ptr:=none,bl:=false}
def d2X:TI:={size:=29,bytes:=440,agg:=true,zero:=[vi 0,vi 0,.nil,.nil,vi 0,vi 0,vi 0,.nil,.nil,.b false,vi 0,vi 0,.nil,.nil,vi 0,vi 0,.nil,.b false,.nil,.b false,vi 0,vi 0,.nil,.nil,vi 0,vi 0,.nil,.nil,.nil],sl:=none,arr:=none,ik:=none,fs:=some [(0,57),(27,26),(28,28)],str:=false,ptr:=none,bl:=false}
def c0q:TI:={size:=4,bytes:=32,agg:=true,zero:=[vi 0,vi 0,vi 0,vi 0],sl:=none,arr:=none,ik:=none,fs:=some [(0,49),(2,3),(3,3)],str:=false,ptr:=none,bl:=false}
def d39:TI:={size:=4,bytes:=32,agg:=true,zero:=[vi 0,vi 0,vi 0,vi 0],sl:=none,arr:=some (4,3),ik:=none,fs:=none,str:=false,ptr:=none,bl:=false}
def c2K:List (Nat×TI):=[(3,ti3),(4,ti4),(5,ti5),(22,d6u),(23,d0R),(25,d09),(26,c8a),(27,d4W),(28,d0q),(30,d3O),(34,d4Q),(36,d29),(38,d3Y),(44,d4n),(46,d5x),(47,c8p),(49,c0h),(50,d2p),(51,d3F),(53,d3j),(55,c3v),(57,c4N),(62,c2j),(65,c4j),(69,c5Q),(81,d3h),(85,d3a),(93,c3U),(106,b18),(108,d07),(110,c8y),(113,d5D),(118,d36),(120,c5Y),(150,b2L),(162,d4U),(164,c25),(166,c1G),(173,d2X),(188,c0q),(192,d39)]
def b64:List (Nat×TI)->Nat->Option TI
 | [],_=>none
 | (k,x)::l,t=>if Nat.beq k t then some x else b64 l t
theorem e7y{l:List (Nat×TI)}{t:Nat}{x:TI}(h:b64 l t=some x):(t,x)∈l:=by
 induction l with
 | nil=>cases h
 | cons p l ih =>
  obtain ⟨k,y⟩:=p;unfold b64 at h;split at h
  ·rename_i hk;have:k=t:=f5Z hk;injection h with h;subst this;subst h;simp
  ·exact f5B.2 (.inr (ih h))
theorem e0a:F8 Tryz.prog 3=some ti3:=by kernel_rfl
theorem e4o:F8 Tryz.prog 4=some ti4:=by kernel_rfl
theorem f1u:F8 Tryz.prog 5=some ti5:=by kernel_rfl
theorem f0G:F8 Tryz.prog 22=some d6u:=by kernel_rfl
theorem f1j:F8 Tryz.prog 23=some d0R:=by kernel_rfl
theorem f1y:F8 Tryz.prog 25=some d09:=by kernel_rfl
theorem e88:F8 Tryz.prog 26=some c8a:=by kernel_rfl
theorem f02:F8 Tryz.prog 27=some d4W:=by kernel_rfl
theorem e7B:F8 Tryz.prog 28=some d0q:=by kernel_rfl
theorem e2p:F8 Tryz.prog 30=some d3O:=by kernel_rfl
theorem e0w:F8 Tryz.prog 34=some d4Q:=by kernel_rfl
theorem e6W:F8 Tryz.prog 36=some d29:=by kernel_rfl
theorem e9A:F8 Tryz.prog 38=some d3Y:=by kernel_rfl
theorem e5x:F8 Tryz.prog 44=some d4n:=by kernel_rfl
theorem d7U:F8 Tryz.prog 46=some d5x:=by kernel_rfl
theorem f4n:F8 Tryz.prog 47=some c8p:=by kernel_rfl
theorem e5g:F8 Tryz.prog 49=some c0h:=by kernel_rfl
theorem f2X:F8 Tryz.prog 50=some d2p:=by kernel_rfl
theorem e4v:F8 Tryz.prog 51=some d3F:=by kernel_rfl
theorem e24:F8 Tryz.prog 53=some d3j:=by kernel_rfl
theorem d7J:F8 Tryz.prog 55=some c3v:=by kernel_rfl
theorem e2b:F8 Tryz.prog 57=some c4N:=by kernel_rfl
theorem f4v:F8 Tryz.prog 62=some c2j:=by kernel_rfl
theorem d6H:F8 Tryz.prog 65=some c4j:=by kernel_rfl
theorem e5d:F8 Tryz.prog 69=some c5Q:=by kernel_rfl
theorem e9z:F8 Tryz.prog 81=some d3h:=by kernel_rfl
theorem e7o:F8 Tryz.prog 85=some d3a:=by kernel_rfl
theorem f4u:F8 Tryz.prog 93=some c3U:=by kernel_rfl
theorem f1i:F8 Tryz.prog 106=some b18:=by kernel_rfl
theorem d6P:F8 Tryz.prog 108=some d07:=by kernel_rfl
theorem e2M:F8 Tryz.prog 110=some c8y:=by kernel_rfl
theorem e0M:F8 Tryz.prog 113=some d5D:=by kernel_rfl
theorem e4a:F8 Tryz.prog 118=some d36:=by kernel_rfl
theorem e0N:F8 Tryz.prog 120=some c5Y:=by kernel_rfl
theorem d7z:F8 Tryz.prog 150=some b2L:=by kernel_rfl
theorem f3W:F8 Tryz.prog 162=some d4U:=by kernel_rfl
theorem e8R:F8 Tryz.prog 164=some c25:=by kernel_rfl
theorem e5P:F8 Tryz.prog 166=some c1G:=by kernel_rfl
theorem e4K:F8 Tryz.prog 173=some d2X:=by kernel_rfl
theorem d8I:F8 Tryz.prog 188=some c0q:=by kernel_rfl
theorem e4Q:F8 Tryz.prog 192=some d39:=by kernel_rfl
theorem f3G:∀p∈c2K,F8 Tryz.prog p.1=some p.2:=by
 intro p hp;simp only [c2K,f5B,f7k,or_false] at hp;rcases hp with rfl|rfl|rfl|rfl|rfl|rfl|rfl|rfl|rfl|rfl|rfl|rfl|rfl|rfl|rfl|rfl|rfl|rfl|rfl|rfl|rfl|rfl|rfl|rfl|rfl|rfl|rfl|rfl|rfl|rfl|rfl|rfl|rfl|rfl|rfl|rfl|rfl|rfl|rfl|rfl|rfl
 ·exact e0a
 ·exact e4o
 ·exact f1u
 ·exact f0G
 ·exact f1j
 ·exact f1y
 ·exact e88
 ·exact f02
 ·exact e7B
 ·exact e2p
 ·exact e0w
 ·exact e6W
 ·exact e9A
 ·exact e5x
 ·exact d7U
 ·exact f4n
 ·exact e5g
 ·exact f2X
 ·exact e4v
 ·exact e24
 ·exact d7J
 ·exact e2b
 ·exact f4v
 ·exact d6H
 ·exact e5d
 ·exact e9z
 ·exact e7o
 ·exact f4u
 ·exact f1i
 ·exact d6P
 ·exact e2M
 ·exact e0M
 ·exact e4a
 ·exact e0N
 ·exact d7z
 ·exact f3W
 ·exact e8R
 ·exact e5P
 ·exact e4K
 ·exact d8I
 ·exact e4Q
def b0w(t:Nat):Option Nat:=if Nat.beq t 49 then some 2 else if Nat.beq t 69 then some 5 else if Nat.beq t 93 then some 4 else if Nat.beq t 150 then some 2 else if Nat.beq t 164 then some 2 else if Nat.beq t 166 then some 2 else  none
theorem e3l(t m:Nat)(h:b0w t=some m)(xs ys:List Int)(w:World)(hx:xs.length=m)(hy:ys.length=m):(Op.equal t (.agg (xs.map (Value.int .i64)).toArray) (.agg (ys.map (Value.int .i64)).toArray)).run Tryz.prog w=.ok (xs==ys) w:=by
 unfold b0w at h;split at h
 ·rename_i hk;have hm:2=m:=f6w h;rw [f5Z hk];exact e4i xs ys w (hx.trans hm.symm) (hy.trans hm.symm)
 split at h
 ·rename_i hk;have hm:5=m:=f6w h;rw [f5Z hk];exact e2u xs ys w (hx.trans hm.symm) (hy.trans hm.symm)
 split at h
 ·rename_i hk;have hm:4=m:=f6w h;rw [f5Z hk];exact e1O xs ys w (hx.trans hm.symm) (hy.trans hm.symm)
 split at h
 ·rename_i hk;have hm:2=m:=f6w h;rw [f5Z hk];exact e7W xs ys w (hx.trans hm.symm) (hy.trans hm.symm)
 split at h
 ·rename_i hk;have hm:2=m:=f6w h;rw [f5Z hk];exact f0F xs ys w (hx.trans hm.symm) (hy.trans hm.symm)
 split at h
 ·rename_i hk;have hm:2=m:=f6w h;rw [f5Z hk];exact f2w xs ys w (hx.trans hm.symm) (hy.trans hm.symm)
 cases h
theorem e2i(t m:Nat)(h:b0w t=some m):Tryz.prog.eqGuardType Tryz.prog.depth t=false:=by
 unfold b0w at h;split at h
 ·rename_i hk;have hm:2=m:=f6w h;rw [f5Z hk];exact Tryz.eqGuardType49
 split at h
 ·rename_i hk;have hm:5=m:=f6w h;rw [f5Z hk];exact Tryz.eqGuardType69
 split at h
 ·rename_i hk;have hm:4=m:=f6w h;rw [f5Z hk];exact Tryz.eqGuardType93
 split at h
 ·rename_i hk;have hm:2=m:=f6w h;rw [f5Z hk];exact Tryz.eqGuardType150
 split at h
 ·rename_i hk;have hm:2=m:=f6w h;rw [f5Z hk];exact Tryz.eqGuardType164
 split at h
 ·rename_i hk;have hm:2=m:=f6w h;rw [f5Z hk];exact Tryz.eqGuardType166
 cases h
theorem f00:Tryz.prog.underlying 125=some (.map 49 4):=by kernel_rfl
theorem f0X(w:World):(zeroValue 4).run Tryz.prog w=.ok (.bool false) w:=by kernel_rfl
theorem e2m(em:Bool)(xs:List Int)(w:World)(h:xs.length=2):(Instr.checkKey em 10000 49 (kv xs)).run Tryz.prog w=.ok () w:=by
 match xs,h with
 | [x0,x1],_ =>
  refine e0A (n:=9999) Tryz.underlying49 fun f hf => ?_
  simp only [f5B,f7k,or_false] at hf;rcases hf with rfl|rfl
  ·exact ⟨.int .i64 x0,by first|(go_simp;done)|(go_simp;rfl),d2k (n:=9998) Tryz.underlying3⟩
  ·exact ⟨.int .i64 x1,by first|(go_simp;done)|(go_simp;rfl),d2k (n:=9998) Tryz.underlying3⟩
def c0O(t:Nat):Option (Nat×Nat×V):=if Nat.beq t 125 then some (49,2,.b false) else  none
theorem f0b(t kt m:Nat)(z:V)(h:c0O t=some (kt,m,z)):∃vt,Tryz.prog.underlying t=some (.map kt vt)/\b0w kt=some m/\b89 (Tryz.prog.underlying kt)=true/\(∀w,(zeroValue vt).run Tryz.prog w=.ok z.conc w)/\z.simple=true/\∀(em:Bool) (xs:List Int) (w:World),xs.length=m->(Instr.checkKey em 10000 kt (kv xs)).run Tryz.prog w=.ok () w:=by
 unfold c0O at h;split at h
 ·rename_i hk;injection h with h;injection h with h1 h;injection h with h2 h3;subst h1;subst h2;subst h3;obtain rfl:=f5Z hk;exact ⟨4,f00,rfl,by rw [Tryz.underlying49];rfl,f0X,rfl,e2m⟩
 cases h
theorem e8l:Tryz.prog.follows .mixedOrders=true:=by kernel_rfl
def cx:Cx where
 P:=Tryz.prog
 mixed:=e8l
 T:=b64 c2K
 hT:=fun t ti h=>f3G (t,ti) (e7y h)
 E:=b0w
 hE:=e3l
 hG:=e2i
 M:=c0O
 hM:=f0b
structure FS(α:Type) where
 f:Nat
 fn:Func
 m:List PM
 o:List (Option (Nat×PM))
 ms:List PM
 R:α->V
 O:α->LOV
 h:cx.P.funcs[f]?=some fn
def FS.X{α:Type}(q:FS α):O7:=⟨q.f,q.fn,q.m,q.o⟩
def FS.c{α:Type}(q:FS α):Code:=d7n q.fn
def FS.t{α:Type}(q:FS α)(i:Nat)(fr:Bool)(r:α):Nat×K7:=(i,{a:=.call q.ms fr (q.R r) (q.O r)})
def FS.k{α:Type}(q:FS α)(i:Nat)(l:List Bool):List Item:=a33 2000 i l [.code q.c]
def noK:Unit->KS:=fun _=>([],⟨[],[]⟩)
section
variable {α β J P E:Type}
abbrev OK(q:FS α)(args:List V)(m:Option α):Prop := ∀r,m=some r->a0v cx.P q.f args (q.R r) (q.O r)
abbrev NG(q:FS α)(r:α)(S:J->KS)(f:J->Option β)(v:β):Prop := ∀s,f s=some v->FK cx q.X (q.R r) (q.O r) (S s)
abbrev NF(q:FS α)(r:α)(S:J->KS)(f:J->Option α):Prop:=NG q r S f r
abbrev F6(q:FS α)(SE:E->KS)(S:P->KS):=LC cx q.X q.R q.O SE S
abbrev LQ(q:FS α)(SE:E->KS)(S:P->KS)(b:P->Option (j9 α P E)):Prop:=LB cx q.X q.R q.O SE S b
theorem o7(q:FS α){args:List V}{m:Option α}(h:∀r,m=some r->Pt cx q.X (q.R r) (q.O r) [.code q.c] (a9X q.X args) [] [])(hb:q.X.fn.body=some q.c:=by kernel_rfl) (hn:(q.X.fn.name == "runtime.NumGoroutine")=false:=by kernel_rfl) (ho:a4r 0 q.X.oms args=true:=by kernel_rfl):OK q args m :=
 fun r hm=>a0v.of (X:=q.X) q.h hb hn ho (P0 (h r hm))
theorem FS.rt(q:FS α){x y:α}(h:some x=some y):q.R y=q.R x/\q.O y=q.O x:=by
 injection h with h;subst h;exact ⟨rfl,rfl⟩
variable {X:O7} {res:V} {outs:LOV} {k:List Item} {S:St} {sc:T0} {ps:List Prop} {t:List (Nat×K7)} {v:β}
theorem fE{q:FS α}{x y:α}(h:some x=some y)(hg:a90 cx q.X k S (scO sc [])=some (q.R x,q.O x,psO ps []):=by kernel_rfl):Pt cx q.X (q.R y) (q.O y) k S sc ps:=fn0 q.h (q.rt h) hg
theorem fL{q:FS α}{SE:E->KS}{SP:P->KS}(c:F6 q SE SP){x:α}(h:some (j9.ret x)=some c.st)(hg:a90 cx q.X k S (scO sc [])=some (q.R x,q.O x,psO ps []):=by kernel_rfl):Pt cx q.X c.res c.outs k S sc ps:=fn0 q.h (c.rt h) hg
theorem l7(q:FS α){m:Option α}{p:α->Prop}(ok:∀x,m=some x->p x)(i:Nat){f:α->Option β}(h:m.bind f=some v)(g:∀x,f x=some v->Pt cx X res outs k S ((q.t i false x::t)::sc) (p x::ps)):Pt cx X res outs k S (t::sc) ps:=cb q.t ok i false h g
theorem cbS(q:FS α){m:Option α}{p:α->Prop}(ok:∀x,m=some x->p x)(i:Nat){f:α->Option β}(a:∀x,K9 (q.R x))(b:∀x,a4s (q.O x))(h:m.bind f=some v)(g:∀x,f x=some v->Pt cx X res outs k S ((q.t i true x::t)::sc) ((K9 (q.R x)/\a4s (q.O x))::p x::ps)):Pt cx X res outs k S (t::sc) ps :=
 cb q.t ok i true h fun x h=>ob ⟨a x,b x⟩ (g x h)
theorem T5(q:FS α){m:Option α}{p:α->Prop}(ok:∀x,m=some x->p x)(i n:Nat){f:α->Option β}(h:m.bind f=some v)(g:∀x,f x=some v->Pt cx X res outs k S ((q.t i true x::t)::sc) ((K9 (q.R x)/\a4s (q.O x))::p x::ps))(a:∀x,K9 (q.R x):=by exact fun _=>rfl)(b:∀x,q.O x=c5u n:=by exact fun _=>rfl):Pt cx X res outs k S (t::sc) ps:=cbS q ok i a (fun x=>b x▸P8 n) h g
theorem osc(q:FS α)(x:α)(a:K9 (q.R x))(b:a4s (q.O x))(h:Pt cx X res outs k S sc ((K9 (q.R x)/\a4s (q.O x))::ps)):Pt cx X res outs k S sc ps:=ob ⟨a,b⟩ h
end
theorem C6{X:O7}{res:V}{outs:LOV}{k:List Item}{S:St}{sc:T0}{ps:List Prop}(x:o9)(h:Pt cx X res outs k S sc ((x.told.length=x.told.length)::(x.out.length=x.out.length)::(x.n.a7.length=x.n.a7.length)::(x.n.c8.length=x.n.c8.length)::(x.n.a5.length=x.n.a5.length)::ps)):Pt cx X res outs k S sc ps:=ob rfl (ob rfl (ob rfl (ob rfl (ob rfl (h)))))
theorem J6{X:O7}{res:V}{outs:LOV}{k:List Item}{S:St}{sc:T0}{ps:List Prop}(x:j6)(h:Pt cx X res outs k S sc ((x.d9.length=x.d9.length)::(x.a7.length=x.a7.length)::(x.c8.length=x.c8.length)::(x.a5.length=x.a5.length)::ps)):Pt cx X res outs k S sc ps:=ob rfl (ob rfl (ob rfl (ob rfl (h))))
theorem A2{X:O7}{res:V}{outs:LOV}{k:List Item}{S:St}{sc:T0}{ps:List Prop}(x:j6)(h:Pt cx X res outs k S sc ((x.d9.length=x.d9.length)::(x.a7.length=x.a7.length)::(x.c8.length=x.c8.length)::(x.a5.length=x.a5.length)::(x.Acc.a7.length=x.Acc.a7.length)::ps)):Pt cx X res outs k S sc ps:=ob rfl (ob rfl (ob rfl (ob rfl (ob rfl (h)))))
theorem olR{X:O7}{res:V}{outs:LOV}{k:List Item}{S:St}{sc:T0}{ps:List Prop}(x:n5)(h:Pt cx X res outs k S sc ((x.b6.length=x.b6.length)::(x.b5.length=x.b5.length)::ps)):Pt cx X res outs k S sc ps:=ob rfl (ob rfl (h))
theorem A9{X:O7}{res:V}{outs:LOV}{k:List Item}{S:St}{sc:T0}{ps:List Prop}(x:m5)(h:Pt cx X res outs k S sc ((x.Told.length=x.Told.length)::(x.d8.length=x.d8.length)::(x.d6.length=x.d6.length)::(x.a6.length=x.a6.length)::ps)):Pt cx X res outs k S sc ps:=ob rfl (ob rfl (ob rfl (ob rfl (h))))
def a6v(x_:j6):List V:=[vi x_.Id,vi x_.Acc.i0,u9 106 8 p8 x_.Acc.a7,u9 55 7 t5 x_.a5,vi x_.Seq,vi x_.d7,vi x_.a8,u9 4 1 eB x_.c8,j8 8 p8 x_.i4,.b x_.c9.i7,vi x_.c9.a0.b9,vi x_.c9.a0.Seq,j8 2 v6 x_.c9.b8.b5,j8 2 w8 x_.c9.b8.b6,vi x_.c9.b8.f0,vi x_.c9.b8.Code,u9 4 1 eB x_.a7,.b x_.i8,j8 4 A0 x_.i6,.b x_.b7.i7,vi x_.b7.a0.b9,vi x_.b7.a0.Seq,j8 2 v6 x_.b7.b8.b5,j8 2 w8 x_.b7.b8.b6,vi x_.b7.b8.f0,vi x_.b7.b8.Code,u9 55 7 t5 x_.d9]
def b0R(x_:j6):List V:=[u9 55 7 t5 x_.a5,vi x_.Seq,vi x_.d7,vi x_.a8,u9 4 1 eB x_.c8,j8 8 p8 x_.i4,.b x_.c9.i7,vi x_.c9.a0.b9,vi x_.c9.a0.Seq,j8 2 v6 x_.c9.b8.b5,j8 2 w8 x_.c9.b8.b6,vi x_.c9.b8.f0,vi x_.c9.b8.Code,u9 4 1 eB x_.a7,.b x_.i8,j8 4 A0 x_.i6,.b x_.b7.i7,vi x_.b7.a0.b9,vi x_.b7.a0.Seq,j8 2 v6 x_.b7.b8.b5,j8 2 w8 x_.b7.b8.b6,vi x_.b7.b8.f0,vi x_.b7.b8.Code,u9 55 7 t5 x_.d9]
def a50(x_:j6):List V:=[j8 8 p8 x_.i4,.b x_.c9.i7,vi x_.c9.a0.b9,vi x_.c9.a0.Seq,j8 2 v6 x_.c9.b8.b5,j8 2 w8 x_.c9.b8.b6,vi x_.c9.b8.f0,vi x_.c9.b8.Code]
def a4u(x_:j6):List V:=[.b x_.i8,j8 4 A0 x_.i6,.b x_.b7.i7,vi x_.b7.a0.b9,vi x_.b7.a0.Seq,j8 2 v6 x_.b7.b8.b5,j8 2 w8 x_.b7.b8.b6,vi x_.b7.b8.f0,vi x_.b7.b8.Code]
def a0E(x_:n5):List V:=[j8 2 v6 x_.b5,j8 2 w8 x_.b6,vi x_.f0,vi x_.Code]
def D8(x_:m5):List V:=[j8 27 x6 x_.a6,j8 13 s8 x_.d6,j8 3 B4 x_.d8,j8 5 z4 x_.Told]
def b9j:FS (t7):=⟨13,Tryz.f13,[.ptr [some 1,none] []],[none],[.val [some 1] []],fun r=>.optr 85 (Z9 r),fun _=>[none],Tryz.func13⟩
def f2Z:(List Int)->KS:=fun b4T=>⟨b9j.k 3 [true],(j8 1 K1 b4T::(bs 10 [])),[some []]⟩
def c4W(b4T:List Int):Option t7 :=
 some (t7.mk b4T 0)
theorem e6e(r):NF b9j r f2Z (fun s=>c4W s):=fun b4T h=>PK<|rg<|fE h
def b41(code:List Int):Option t7 :=
 (((bif decide ((code.length:Int)>2000) then (t0 ((0:Int)<=2000/\2000<=(code.length:Int)) (some (l9.brk ((code.drop 0).take ((2000:Int).toNat-0))))) else some (l9.brk code)):Option (l9 t7 (List Int))).bind fun x=>x.go some fun j=>c4W j)
theorem d7W{code}:OK b9j [j8 1 K1 code] (b41 code) :=
 o7 _ fun r h=>rg<|A6 h (e6e r) fun x1 h hc1=>rg<|j5 2 h (fun h=>rg<|t9 h fun e1 h=>om (V.sl 1 ((2000:Int).toNat-0) (((code.map K1).drop 0).take ((2000:Int).toNat-0))=j8 1 K1 ((code.drop 0).take ((2000:Int).toNat-0))) (b67 e1)<|ob e1.1<|ob e1.2<|tl (1,{v:=some (j8 1 K1 ((code.drop 0).take ((2000:Int).toNat-0)))})<|(o8 h hc1 fun hI=>sk [] [0] [] hI)) (fun h=>(o8 h hc1 fun hI=>sk [] [0] [] hI))
def d6G:FS (j6):=⟨25,Tryz.f25,[.val A7 G7],[none],[.val [] []],fun r=>.agg (H0 r),fun _=>[none],Tryz.func25⟩
def c0t(id:Int):Option j6 :=
 (bif decide (id<0) then some (j6.mk 0 (z0.mk 0 []) [] 0 0 0 [] [] (m4.mk false (n9.mk 0 0) (n5.mk [] [] 0 0)) [] false [] (m4.mk false (n9.mk 0 0) (n5.mk [] [] 0 0)) []) else (bif decide (id>=3) then some (j6.mk 0 (z0.mk 0 []) [] 0 0 0 [] [] (m4.mk false (n9.mk 0 0) (n5.mk [] [] 0 0)) [] false [] (m4.mk false (n9.mk 0 0) (n5.mk [] [] 0 0)) []) else some (j6.mk id (z0.mk 0 []) [] 0 0 0 [] [] (m4.mk false (n9.mk 0 0) (n5.mk [] [] 0 0)) [] false [] (m4.mk false (n9.mk 0 0) (n5.mk [] [] 0 0)) [])))
theorem e2s{id}:OK d6G [vi id] (c0t id) :=
 o7 _ fun r h=>n6<|j5 2 h (fun h=>rg<|fE h) (fun h=>j5 5 h (fun h=>rg<|fE h) (fun h=>rg<|fE h))
def a5T:FS (m5):=⟨8,Tryz.f8,[.val E2 U3],[],[],fun r=>.agg (T9 r),fun _=>[],Tryz.func8⟩
def c9g:(List j6)->KS:=fun Nodes1=>⟨a5T.k 4 [false],(.ptr 1 0 0::(.ptr 2 0 0::(bs 14 []))),[some [],some [.var 30 [.nil,.nil,.nil,.nil]],some [.var 30 [.own 3 0 27 0 Nodes1.length,.nil,.nil,.nil]],some [C4 57 27 z7 Nodes1]]⟩
def d4B(Nodes1:List j6):Option m5 :=
 some (m5.mk Nodes1 [] [] [])
theorem f09(r):NF a5T r c9g (fun s=>d4B s):=fun Nodes1 h=>PK<|rg<|s7 Nodes1<|fE h
def d9E:((List j6)×Int)->KS:=fun (a6,i)=>⟨a5T.k 3 [],(.ptr 1 0 0::(.ptr 2 0 0::(vi i::(bs 13 [])))),[some [],some [.var 30 [.nil,.nil,.nil,.nil]],some [.var 30 [.own 3 0 27 0 a6.length,.nil,.nil,.nil]],some [C4 57 27 z7 a6]]⟩
def f03(Y3:j6):List V:=(a6v Y3)
def a3N(a6:List j6)(i:Int):Option (j9 m5 ((List j6)×Int) (List j6)) :=
 (bif decide (i<3) then ((c0t i).bind fun Y3=>(t0 ((a6.length+1)*392<=140737488355328) (some (j9.nxt (a6++[Y3],m7 (i+1)))))) else some (j9.brk a6))
theorem f01:LQ a5T c9g d9E (fun s=>a3N s.1 s.2):=fun lc (a6,i) h=>PK<|rg<|j5 1 h (fun h=>rg<|l7 d6G e2s 3 h fun Y3 h=>om (s6.deep false 57 27 1 [(f03 Y3)]=C4 57 27 z7 [Y3]) rfl<|A2 Y3<|tl (4,{a:=.dck [none,none,some 8,some 7,none,none,none,some 1,some 8,none,none,none,some 2,some 2,none,none,some 1,none,some 4,none,none,none,some 2,some 2,none,none,some 7] [none,none,some 106,some 55,none,none,none,some 4,none,none,none,none,none,none,none,none,some 4,none,none,none,none,none,none,none,none,none,some 55],e:=some (C4 57 27 z7 [Y3])})<|t9 h fun e1 h=>om (V.own 11 0 27 0 (a6.length+1)=.own 11 0 27 0 (a6++[Y3]).length) (by simp)<|om (s6.deep false 57 27 (a6.length+1) (a6.map z7++[z7 Y3])=C4 57 27 z7 (a6++[Y3])) (c1u rfl)<|s7 a6<|ob e1<|om (1=1) rfl<|tl (5,{a:=.dck [] [],v:=some (.own 11 0 27 0 (a6++[Y3]).length),e:=some (C4 57 27 z7 (a6++[Y3]))})<|rg<|(lc.nx h fun hI=>sk [] [0,1,2] [(1,0),(2,0),(11,0)] hI)) (fun h=>(lc.bk h fun hI=>sk [] [0,1] [(1,0),(2,0),(3,0)] hI))
def b3W:Option m5 :=
 ((p7 (fun s:(List j6)×Int=>a3N s.1 s.2) ([],0)).bind fun x=>x.go (fun r=>some r) fun s=>d4B s)
theorem c8Z:OK a5T [] b3W :=
 o7 _ fun r h=>N0<|lp (f01) h (fun _ h=>a5T.rt h) (f09 r) fun hI=>sk [.ownD (.cell 3 0 0) 57 27] [0,1,2] [(1,0),(3,0),(6,0)] hI
def G1:FS (Int×t7):=⟨36,Tryz.f36,[.val [] []],[some (0,.ptr [some 1,none] []),none],[.ptr [some 1,none] [],.val [] []],fun r=>vi r.1,fun r=>[some (.optr 85 (Z9 r.2)),none],Tryz.func36⟩
def F7(r_:t7)(n:Int):Option (Int×t7) :=
 (bif decide (n<1) then some (0,(t7.mk r_.b (m7 (r_.p+1)))) else (bif ((r_.b.length:Int)==0) then some (0,(t7.mk r_.b (m7 (r_.p+1)))) else (bif decide ((m7 ((m7 (r_.p+1))-1))<(r_.b.length:Int)) then ((idx r_.b (m7 ((m7 (r_.p+1))-1))).bind fun y=>(t0 (n≠0) (some (f5W (m7 y) n,(t7.mk r_.b (m7 (r_.p+1))))))) else (t0 ((r_.b.length:Int)≠0) (((idx r_.b (f5W (m7 ((m7 (r_.p+1))-1)) (r_.b.length:Int))).bind fun y1=>(t0 ((r_.b.length:Int)≠0) (((idx r_.b (f5W (m7 ((m7 ((m7 ((m7 (r_.p+1))-1))*7))+3)) (r_.b.length:Int))).bind fun y2=>(t0 ((r_.b.length:Int)≠0) ((t0 (n≠0) (some (f5W (a68 .i64 (m7 ((m7 ((m7 ((m7 ((m7 y1)*131))+(m7 ((m7 y2)*1117))))+(m7 ((m7 ((m7 (r_.p+1))-1))*29))))+(m7 ((m7 (f7y (m7 ((m7 (r_.p+1))-1)) (r_.b.length:Int)))*53)))) (m7 (f7y (m7 ((m7 ((m7 ((m7 ((m7 y1)*131))+(m7 ((m7 y2)*1117))))+(m7 ((m7 ((m7 (r_.p+1))-1))*29))))+(m7 ((m7 (f7y (m7 ((m7 (r_.p+1))-1)) (r_.b.length:Int)))*53)))) 64))) n,(t7.mk r_.b (m7 (r_.p+1)))))))))))))))))
theorem G4{r_ n}:OK G1 [.optr 85 (Z9 r_),vi n] (F7 r_ n) :=
 o7 _ fun r h=>N0<|j5 2 h (fun h=>rg<|fE h) (fun h=>j5 9 h (fun h=>rg<|fE h) (fun h=>n6<|j5 6 h (fun h=>rg<|v5 K1 5 h fun y hy h=>t9 h fun e1 h=>ob e1<|fE h) (fun h=>rg<|t9 h fun e2 h=>ob e2<|v5 K1 11 h fun y1 hy1 h=>t9 h fun e3 h=>ob e3<|v5 K1 28 h fun y2 hy2 h=>t9 h fun e4 h=>ob e4<|rg<|om (64≠(0:Int)) (by decide)<|rg<|t9 h fun e5 h=>ob e5<|fE h)))
def c79:FS (n5):=⟨195,Tryz.f195,[.val O2 []],[none],[.val O2 []],fun r=>.agg (Q9 r),fun _=>[none],Tryz.func195⟩
def c3N(r_:n5):Option n5 :=
 (t0 ((([]:List q8).length+r_.b5.length)*16<=140737488355328) ((t0 ((([]:List p6).length+r_.b6.length)*16<=140737488355328) (some (n5.mk (([]:List q8)++r_.b5) (([]:List p6)++r_.b6) r_.f0 r_.Code)))))
theorem f4d{r_}:OK c79 [.agg (Q9 r_)] (c3N r_) :=
 o7 _ fun r h=>n6<|tk 0 []<|t9 h fun e1 h=>oa 6 0 2 ([]:List q8) r_.b5<|oz 164 2 v6 ([]:List q8) r_.b5<|B9 q8<|ob e1<|tl (3,{v:=some (.own 6 0 2 0 (([]:List q8)++r_.b5).length),e:=some (m6 164 2 v6 (([]:List q8)++r_.b5))})<|tk 4 []<|t9 h fun e2 h=>oa 10 0 2 ([]:List p6) r_.b6<|oz 166 2 w8 ([]:List p6) r_.b6<|B9 p6<|ob e2<|tl (7,{v:=some (.own 10 0 2 0 (([]:List p6)++r_.b6).length),e:=some (m6 166 2 w8 (([]:List p6)++r_.b6))})<|C7 (([]:List q8)++r_.b5) (([]:List p6)++r_.b6)<|fE h
def a0u:FS (m4):=⟨168,Tryz.f168,[.val K4 []],[none],[.val K4 []],fun r=>.agg (t5 r),fun _=>[none],Tryz.func168⟩
def W6(e_:m4):Option m4 :=
 ((c3N e_.b8).bind fun c63=>some (m4.mk e_.i7 e_.a0 c63))
theorem a01{e_}:OK a0u [.agg (t5 e_)] (W6 e_) :=
 o7 _ fun r h=>n6<|l7 c79 f4d 6 h fun c63 h=>fE h
def a3M:FS (List m8):=⟨153,Tryz.f153,[.val [some 8] [some 106]],[none],[.val [some 8] []],fun r=>u9 106 8 p8 r,fun _=>[none],Tryz.func153⟩
def c8v:(List m8)->KS:=fun out1=>⟨a3M.k 4 [false],(bs 3 (.own 1 0 8 0 out1.length::(bs 24 []))),[some [],some [m6 106 8 p8 out1]]⟩
def c7z(out1:List m8):Option (List m8) :=
 some out1
theorem d9O(r):NF a3M r c8v (fun s=>c7z s):=fun out1 h=>PK<|rg<|s7 out1<|fE h
def e9R(list:List m8):((List m8)×Int)->KS:=fun (out,i)=>⟨a3M.k 3 [],(j8 8 p8 list::(bs 2 (.own 1 0 8 0 out.length::(vi i::(bs 23 []))))),[some [],some [m6 106 8 p8 out]]⟩
def b1o(list:List m8)(out:List m8)(i:Int):Option (j9 (List m8) ((List m8)×Int) (List m8)) :=
 (bif decide (i<(list.length:Int)) then ((idx list i).bind fun vote=>((W6 vote.g9).bind fun l5Entry=>(t0 ((out.length+1)*96<=140737488355328) (some (j9.nxt (out++[(m8.mk vote.a8 l5Entry)],m7 (i+1))))))) else some (j9.brk out))
theorem e7r(list):LQ a3M c8v (e9R list) (fun s=>b1o list s.1 s.2):=fun lc (out,i) h=>PK<|rg<|j5 3 h (fun h=>rg<|v5 p8 3 h fun vote J5 h=>J3 p8 8 J5<|l7 a0u a01 11 h fun l5Entry h=>tk 13 W0<|t9 h fun e1 h=>F9 14 20 106 8 96 p8 out (m8.mk vote.a8 l5Entry) e1<|E6 (m8.mk vote.a8 l5Entry)<|rg<|(lc.nx h fun hI=>sk [] [0,3,4] [(20,0)] hI)) (fun h=>(lc.bk h fun hI=>sk [] [3] [(1,0)] hI))
def a76(list:List m8):Option (List m8) :=
 ((p7 (fun s:(List m8)×Int=>b1o list s.1 s.2) (([]:List m8),0)).bind fun x=>x.go (fun r=>some r) fun s=>c7z s)
theorem b6y{list}:OK a3M [j8 8 p8 list] (a76 list) :=
 o7 _ fun r h=>n6<|tk 0 W0<|rg<|lp (e7r list) h (fun _ h=>a3M.rt h) (d9O r) fun hI=>om ((.own 2 0 8 0 0:V)=.own 2 0 8 0 ([]:List m8).length) (by simp)<|sk [.is (.tmp 3) (.own 2 0 8 0 ([]:List m8).length)] [0,3,4] [(2,0)] hI
def b3t:FS (l8):=⟨119,Tryz.f119,[.val B8 []],[none],[.val B8 []],fun r=>.agg (s8 r),fun _=>[none],Tryz.func119⟩
def a8p(m:l8):Option l8 :=
 ((W6 m.g9).bind fun l5Entry=>((a76 m.a7).bind fun Y2=>some (l8.mk m.a9 m.c8 m.To m.a8 m.g7 l5Entry Y2)))
theorem c0c{m}:OK b3t [.agg (s8 m)] (a8p m) :=
 o7 _ fun r h=>N0<|l7 a0u a01 2 h fun l5Entry h=>rg<|l7 a3M b6y 2 h fun Y2 h=>rg<|s7 Y2<|fE h
def a1r:FS (m5):=⟨111,Tryz.f111,[.val E2 U3],[none,none],[.val E2 U3,.val [some 13] []],fun r=>.agg (T9 r),fun _=>[none,none],Tryz.func111⟩
def d4H(w:m5):(List l8)->KS:=fun Net1=>⟨a1r.k 3 [false],(bs 2 (.ptr 1 0 0::(bs 1 (.ptr 3 0 0::(bs 24 []))))),[some [C4 57 27 z7 w.a6,.dead,m6 65 3 B4 w.d8,m6 69 5 z4 w.Told],some [.var 30 [.own 0 0 27 0 w.a6.length,.own 2 0 13 0 Net1.length,.own 0 2 3 0 w.d8.length,.own 0 3 5 0 w.Told.length]],some [m6 62 13 s8 Net1],some [.var 30 [.nil,.nil,.nil,.nil]]]⟩
def c6M(w:m5)(Net1:List l8):Option m5 :=
 some (m5.mk w.a6 Net1 w.d8 w.Told)
theorem f1d(w)(r):NF a1r r (d4H w) (fun s=>c6M w s):=fun Net1 h=>PK<|rg<|H5 w.a6 Net1 w.d8 w.Told<|fE h
def f2l(w:m5)(list:List l8):((List l8)×Int)->KS:=fun (d6,i)=>⟨a1r.k 2 [],(bs 1 (j8 13 s8 list::(.ptr 1 0 0::(bs 1 (.ptr 2 0 0::(vi i::(bs 23 []))))))),[some [C4 57 27 z7 w.a6,.dead,m6 65 3 B4 w.d8,m6 69 5 z4 w.Told],some [.var 30 [.own 0 0 27 0 w.a6.length,.own 3 0 13 0 d6.length,.own 0 2 3 0 w.d8.length,.own 0 3 5 0 w.Told.length]],some [.var 30 [.nil,.nil,.nil,.nil]],some [m6 62 13 s8 d6]]⟩
def a29(list:List l8)(d6:List l8)(i:Int):Option (j9 m5 ((List l8)×Int) (List l8)) :=
 (bif decide (i<(list.length:Int)) then (bif decide ((d6.length:Int)<40) then ((idx list i).bind fun msg=>((a8p msg).bind fun G2=>(t0 ((d6.length+1)*152<=140737488355328) (some (j9.nxt (d6++[G2],m7 (i+1))))))) else some (j9.brk d6)) else some (j9.brk d6))
theorem e4g(w list):LQ a1r (d4H w) (f2l w list) (fun s=>a29 list s.1 s.2):=fun lc (d6,i) h=>PK<|rg<|j5 4 h (fun h=>j5 9 h (fun h=>rg<|v5 s8 4 h fun msg hmsg h=>l7 b3t c0c 6 h fun G2 h=>tk 7 B8<|t9 h fun e1 h=>F9 8 22 62 13 152 s8 d6 G2 e1<|E6 G2<|rg<|(lc.nx h fun hI=>sk [] [1,2,4,5] [(1,0),(2,0),(22,0)] hI)) (fun h=>(lc.bk h fun hI=>sk [] [2,4] [(1,0),(3,0),(2,0)] hI))) (fun h=>(lc.bk h fun hI=>sk [] [2,4] [(1,0),(3,0),(2,0)] hI))
def a3u(w:m5)(list:List l8):Option m5 :=
 ((p7 (fun s:(List l8)×Int=>a29 list s.1 s.2) (w.d6,0)).bind fun x=>x.go (fun r=>some r) fun s=>c6M w s)
theorem a6B{w list}:OK a1r [.agg (T9 w),j8 13 s8 list] (a3u w list) :=
 o7 _ fun r h=>n6<|lp (e4g w list) h (fun _ h=>a1r.rt h) (f1d w r) fun hI=>sk [] [1,2,4,5] [(1,0),(2,0),(0,1)] hI
def c2Y:FS (m5):=⟨147,Tryz.f147,[.val E2 U3],[none,none],[.val E2 U3,.val [] []],fun r=>.agg (T9 r),fun _=>[none,none],Tryz.func147⟩
def b4l(w:m5)(i:Int):Option m5 :=
 (t0 ((0:Int)<=i/\i<=(w.d6.length:Int)) ((t0 ((([]:List l8).length+(i.toNat-0))*152<=140737488355328) ((t0 ((0:Int)<=m7 (i+1)/\m7 (i+1)<=(w.d6.length:Int)) ((t0 (((([]:List l8)++(w.d6.drop (0+0)).take (i.toNat-0)).length+(w.d6.length-(m7 (i+1)).toNat))*152<=140737488355328) (some (m5.mk w.a6 ((([]:List l8)++(w.d6.drop (0+0)).take (i.toNat-0))++(w.d6.drop (0+(m7 (i+1)).toNat)).take (w.d6.length-(m7 (i+1)).toNat)) w.d8 w.Told)))))))))
set_option maxRecDepth 20000 in
theorem d1f{w i}:OK c2Y [.agg (T9 w),vi i] (b4l w i) :=
 o7 _ fun r h=>n6<|tk 0 B8<|t9 h fun e1 h=>ob e1.1<|ob e1.2<|t9 h fun e2 h=>om (V.own 8 0 13 0 (([]:List l8).length+(i.toNat-0))=.own 8 0 13 0 (([]:List l8)++(w.d6.drop (0+0)).take (i.toNat-0)).length) (c3D (by omega))<|om (s6.row 62 13 (([]:List l8).length+(i.toNat-0)) (([]:List l8).map s8++((w.d6.map s8).drop (0+0)).take (i.toNat-0))=m6 62 13 s8 (([]:List l8)++(w.d6.drop (0+0)).take (i.toNat-0))) (c1s (by omega))<|B9 l8<|ob e2<|om ((0+0)+(i.toNat-0)<=w.d6.length) (by omega)<|tl (5,{a:=.part,v:=some (.own 8 0 13 0 (([]:List l8)++(w.d6.drop (0+0)).take (i.toNat-0)).length),e:=some (m6 62 13 s8 (([]:List l8)++(w.d6.drop (0+0)).take (i.toNat-0)))})<|t9 h fun e3 h=>ob e3.1<|ob e3.2<|t9 h fun e4 h=>om (V.own 14 0 13 0 ((([]:List l8)++(w.d6.drop (0+0)).take (i.toNat-0)).length+(w.d6.length-(m7 (i+1)).toNat))=.own 14 0 13 0 ((([]:List l8)++(w.d6.drop (0+0)).take (i.toNat-0))++(w.d6.drop (0+(m7 (i+1)).toNat)).take (w.d6.length-(m7 (i+1)).toNat)).length) (c3D (by omega))<|om (s6.row 62 13 ((([]:List l8)++(w.d6.drop (0+0)).take (i.toNat-0)).length+(w.d6.length-(m7 (i+1)).toNat)) ((([]:List l8)++(w.d6.drop (0+0)).take (i.toNat-0)).map s8++((w.d6.map s8).drop (0+(m7 (i+1)).toNat)).take (w.d6.length-(m7 (i+1)).toNat))=m6 62 13 s8 ((([]:List l8)++(w.d6.drop (0+0)).take (i.toNat-0))++(w.d6.drop (0+(m7 (i+1)).toNat)).take (w.d6.length-(m7 (i+1)).toNat))) (c1s (by omega))<|s7 (([]:List l8)++(w.d6.drop (0+0)).take (i.toNat-0))<|ob e4<|om ((0+(m7 (i+1)).toNat)+(w.d6.length-(m7 (i+1)).toNat)<=w.d6.length) (by omega)<|tl (11,{a:=.part,v:=some (.own 14 0 13 0 ((([]:List l8)++(w.d6.drop (0+0)).take (i.toNat-0))++(w.d6.drop (0+(m7 (i+1)).toNat)).take (w.d6.length-(m7 (i+1)).toNat)).length),e:=some (m6 62 13 s8 ((([]:List l8)++(w.d6.drop (0+0)).take (i.toNat-0))++(w.d6.drop (0+(m7 (i+1)).toNat)).take (w.d6.length-(m7 (i+1)).toNat)))})<|rg<|H5 w.a6 ((([]:List l8)++(w.d6.drop (0+0)).take (i.toNat-0))++(w.d6.drop (0+(m7 (i+1)).toNat)).take (w.d6.length-(m7 (i+1)).toNat)) w.d8 w.Told<|fE h
def a19:FS (Bool):=⟨162,Tryz.f162,[.val [] []],[none],[.val [] []],fun r=>.b r,fun _=>[none],Tryz.func162⟩
def a1t(n:Int):Option Bool :=
 (bif decide (n>=1) then some (decide (n<=3000)) else some false)
theorem a2C{n}:OK a19 [vi n] (a1t n) :=
 o7 _ fun r h=>n6<|j5 2 h (fun h=>fE h) (fun h=>fE h)
def a61:FS (z0×Bool):=⟨152,Tryz.f152,[.val [none,some 8] [none,some 9000000],.val [] []],[none,none],[.val [none,some 8] [],.val [] []],fun r=>.tup [.agg [vi r.1.i0,.bot],.b r.2],fun _=>[none,none],Tryz.func152⟩
def b0C(a:z0)(bal:Int):Option (z0×Bool) :=
 ((a1t bal).bind fun Z0=>(bif (!Z0) then some (a,false) else (bif decide (bal<a.i0) then some (a,false) else none)))
theorem c1I{a bal}:OK a61 [.agg (Z3 a),vi bal] (b0C a bal) :=
 o7 _ fun r h=>n6<|l7 a19 a2C 1 h fun Z0 h=>j5 3 h (fun h=>rg<|fE h) (fun h=>j5 8 h (fun h=>rg<|fE h) (fun h=>(nomatch h)))
def a31:FS (List l8):=⟨196,Tryz.f196,[.val [some 13] []],[none,none],[.val B8 [],.val B8 []],fun r=>j8 13 s8 r,fun _=>[none,none],Tryz.func196⟩
def a4I(m:l8)(out:l8):Option (List l8) :=
 some [(l8.mk out.a9 m.To m.c8 out.a8 out.g7 out.g9 out.a7)]
theorem a71{m out}:OK a31 [.agg (s8 m),.agg (s8 out)] (a4I m out) :=
 o7 _ fun r h=>rg4<|tk 1 B8<|E6 (l8.mk out.a9 m.To m.c8 out.a8 out.g7 out.g9 out.a7)<|fE h
def d1t(rv:Value):FS (j6):=⟨151,Tryz.f151,[.val A7 om3],[none],[.val A7 om3],fun r=>.agg ([vi r.Id,vi r.Acc.i0,.raw rv]++b0R r),fun _=>[none],Tryz.func151⟩
def d6k(n:j6):Option j6 :=
 some (j6.mk n.Id n.Acc n.a5 n.Seq 0 0 [] [] (m4.mk false (n9.mk 0 0) (n5.mk [] [] 0 0)) [] n.i8 n.i6 n.b7 n.d9)
theorem e2e{n}(rv):OK (d1t rv) [.agg ([vi n.Id,vi n.Acc.i0,.raw rv]++b0R n)] (d6k n) :=
 o7 _ fun r h=>rg4<|rg4<|C7 n.a5 n.d9<|fE h
def b4s(rv:Value):FS (j6):=⟨182,Tryz.f182,[.val A7 om3],[none,none],[.val A7 om3,.val [] []],fun r=>.agg ([vi r.Id,vi r.Acc.i0,.raw rv]++b0R r),fun _=>[none,none],Tryz.func182⟩
def f2e(i:Nat)(fr:Bool)(r:j6):Nat×K7:=(i,{a:=.callr 0 2 [.val A7 om3,.val [] []] fr (.agg ([vi r.Id,vi r.Acc.i0,.hole]++b0R r)) [none,none]})
def e9y(rv:Value)(n:j6):Unit->KS:=fun _=>⟨(b4s rv).k 2 [false],(bs 2 (.ptr 1 0 0::(bs 1 (.ptr 2 0 0::(bs 12 []))))),[some [m6 55 7 t5 n.a5,m6 4 1 eB n.c8,m6 4 1 eB n.a7,m6 55 7 t5 n.d9],some [.var 57 ([vi n.Id,vi n.Acc.i0,.raw rv,.own 0 0 7 0 n.a5.length,vi n.Seq,vi n.d7,vi n.a8,.own 0 1 1 0 n.c8.length]++a50 n++[.own 0 2 1 0 n.a7.length]++a4u n++[.own 0 3 7 0 n.d9.length])],some [.var 57 [vi 0,vi 0,.nil,.nil,vi 0,vi 0,vi 0,.nil,.nil,.b false,vi 0,vi 0,.nil,.nil,vi 0,vi 0,.nil,.b false,.nil,.b false,vi 0,vi 0,.nil,.nil,vi 0,vi 0,.nil]]]⟩
def d1c(n:j6):Option j6 :=
 some n
theorem d9U(rv n)(r):NF (b4s rv) r (e9y rv n) (fun s=>d1c n):=fun _ h=>PK<|rg<|J6 n<|fE h
def b2S(n:j6)(bal:Int):Option j6 :=
 (((bif (n.d7 != 0) then (bif decide (bal>n.a8) then ((d6k n).bind fun r_=>some (l9.ret r_)) else some (l9.brk ())) else some (l9.brk ())):Option (l9 j6 Unit)).bind fun x=>x.go some fun j=>d1c n)
theorem f4R{n bal}(rv):OK (b4s rv) [.agg ([vi n.Id,vi n.Acc.i0,.raw rv]++b0R n),vi bal] (b2S n bal) :=
 o7 _ fun r h=>rg<|A6 h (d9U rv n r) fun x1 h hc1=>rg<|j5 3 h (fun h=>j5 8 h (fun h=>rg<|cb (d1t rv).t (e2e rv) 1 false h fun r_ h=>J6 n<|(B7 h hc1 fun h=>J6 r_<|fE h)) (fun h=>(o8 h hc1 fun hI=>sk [] [2,4] [(1,0),(2,0)] hI))) (fun h=>(o8 h hc1 fun hI=>sk [] [2,4] [(1,0),(2,0)] hI))
theorem e9g{n bal}(r)(h:b2S n bal=some r):∀c,a0v cx.P 182 [.agg ([vi n.Id,vi n.Acc.i0,.raw c]++b0R n),vi bal] ((b4s c).R r) ((b4s c).O r):=fun c=>f4R c r h
def b1t:FS (z0×Bool):=⟨152,Tryz.f152,[.val [none,some 8] [none,some 106],.val [] []],[none,none],[.val [none,some 8] [none,some 106],.val [] []],fun r=>.tup [.agg [vi r.1.i0,u9 106 8 p8 r.1.a7],.b r.2],fun _=>[none,none],Tryz.func152⟩
def a7U(a:z0)(bal:Int):Option (z0×Bool) :=
 ((a1t bal).bind fun Z0=>(bif (!Z0) then some (a,false) else (bif decide (bal<a.i0) then some (a,false) else some ((z0.mk bal a.a7),true))))
theorem b4L{a bal}:OK b1t [.agg [vi a.i0,u9 106 8 p8 a.a7],vi bal] (a7U a bal) :=
 o7 _ fun r h=>n6<|l7 a19 a2C 1 h fun Z0 h=>j5 3 h (fun h=>rg<|s7 a.a7<|fE h) (fun h=>j5 8 h (fun h=>rg<|s7 a.a7<|fE h) (fun h=>n6<|s7 a.a7<|fE h))
def d0t:FS (n5):=⟨195,Tryz.f195,[.val O2 om4],[none],[.val O2 []],fun r=>.agg (a6J r),fun _=>[none],Tryz.func195⟩
def c3X(r_:n5):Option n5 :=
 (t0 ((([]:List q8).length+r_.b5.length)*16<=140737488355328) ((t0 ((([]:List p6).length+r_.b6.length)*16<=140737488355328) (some (n5.mk (([]:List q8)++r_.b5) (([]:List p6)++r_.b6) r_.f0 r_.Code)))))
theorem e3Y{r_}:OK d0t [.agg (Q9 r_)] (c3X r_) :=
 o7 _ fun r h=>n6<|tk 0 []<|t9 h fun e1 h=>oa 6 0 2 ([]:List q8) r_.b5<|oz 164 2 v6 ([]:List q8) r_.b5<|B9 q8<|ob e1<|tl (3,{v:=some (.own 6 0 2 0 (([]:List q8)++r_.b5).length),e:=some (m6 164 2 v6 (([]:List q8)++r_.b5))})<|tk 4 []<|t9 h fun e2 h=>oa 10 0 2 ([]:List p6) r_.b6<|oz 166 2 w8 ([]:List p6) r_.b6<|B9 p6<|ob e2<|tl (7,{v:=some (.own 10 0 2 0 (([]:List p6)++r_.b6).length),e:=some (m6 166 2 w8 (([]:List p6)++r_.b6))})<|C7 (([]:List q8)++r_.b5) (([]:List p6)++r_.b6)<|fE h
def c9p:FS (m4):=⟨168,Tryz.f168,[.val K4 om5],[none],[.val K4 []],fun r=>.agg (e5M r),fun _=>[none],Tryz.func168⟩
def b6m(e_:m4):Option m4 :=
 ((c3X e_.b8).bind fun d=>some (m4.mk e_.i7 e_.a0 d))
theorem f2m{e_}:OK c9p [.agg (t5 e_)] (b6m e_) :=
 o7 _ fun r h=>n6<|l7 d0t e3Y 6 h fun d h=>olR d<|fE h
def a3v:FS (List m8):=⟨153,Tryz.f153,[.val [some 8] [some 1000106]],[none],[.part],fun r=>b0j 106 8 a08 r,fun _=>[none],Tryz.func153⟩
def d37:(List m8)->KS:=fun out1=>⟨a3v.k 4 [false],(bs 3 (.own 1 0 8 0 out1.length::(bs 24 []))),[some [],some [C4 106 8 a08 out1]]⟩
def d0L(out1:List m8):Option (List m8) :=
 some out1
theorem e5W(r):NF a3v r d37 (fun s=>d0L s):=fun out1 h=>PK<|rg<|s7 out1<|fE h
def e9V(list:List m8):((List m8)×Int)->KS:=fun (out,i)=>⟨a3v.k 3 [],(j8 8 p8 list::(bs 2 (.own 1 0 8 0 out.length::(vi i::(bs 23 []))))),[some [],some [C4 106 8 a08 out]]⟩
def e3A(vote:m8)(d:m4):List V:=[vi vote.a8,.b d.i7,vi d.a0.b9,vi d.a0.Seq,u9 164 2 v6 d.b8.b5,u9 166 2 w8 d.b8.b6,vi d.b8.f0,vi d.b8.Code]
def b22(list:List m8)(out:List m8)(i:Int):Option (j9 (List m8) ((List m8)×Int) (List m8)) :=
 (bif decide (i<(list.length:Int)) then ((idx list i).bind fun vote=>((b6m vote.g9).bind fun d=>(t0 ((out.length+1)*96<=140737488355328) (some (j9.nxt (out++[(m8.mk vote.a8 d)],m7 (i+1))))))) else some (j9.brk out))
end
end Go.Proofs.YthbeecjnggpjnaaGreat
