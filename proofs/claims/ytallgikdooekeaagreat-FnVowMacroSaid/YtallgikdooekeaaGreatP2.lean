/- Abstract values and states of the program, functions of the program and what their calls come to, and what follows from it: part 2 of the text that the law leans on; long names are written short. -/
import Derived.Test.YtallgikdooekeaaGreatP1
import Derived.WideKeyRuns
import Derived.Below
import Derived.Carry
import Derived.ChangeArms
import Derived.Deep.Slices
import Derived.WideShapes
import Derived.Test.YtallgikdooekeaaGreatProg
set_option linter.unusedVariables false
set_option linter.unusedSimpArgs false
set_option linter.unnecessarySimpa false
namespace Go.Proofs.YtallgikdooekeaaGreat
open Go
open Option renaming bind_some → d9s, map_some → e0b, getD_some → e0A, map_eq_some_iff → e0J
open List renaming getElem?_eq_getElem → d9t, replicate → d9u, getElem_mem → d9w, getElem?_eq_some_iff → d9x, mem_singleton → d9y, mem_cons → d9z, nodup_append → d9A, range → d9C, eq_nil_of_length_eq_zero → d9D, length_append → d9E, getD_eq_getElem?_getD → d9F, mem_of_getElem? → d9G, getElem?_append_right → d9H, getElem?_set_ne → d9J, getElem?_append_left → d9L, map_append → d9M, append_assoc → d9N, take_length → d9P, map_cons → d9R, flatten_cons → d9S, getElem?_eq_none → d9U, take_succ_eq_append_getElem → d9V, append_nil → d9X, getElem_of_mem → d9Y, drop_eq_nil_of_le → d9Z, findIdx?_eq_some_iff_getElem → d90, take_append_of_le_length → d91, length_take → d93, length_set → d94, any_eq_false → d95, drop_eq_getElem_cons → d97, pairwise_iff_getElem → d98, take_of_length_le → d99, take_append_drop → e0d, mem_flatten → e0e, mem_of_mem_take → e0f, mem_take_iff_getElem → e0g, mem_replicate → e0i, take_zero → e0j, nil_append → e0k, getElem?_cons_zero → e0l, mem_range → e0m, mem_of_mem_drop → e0n, length_cons → e0o, length_singleton → e0q, getElem?_cons_succ → e0r, getElem?_set_self → e0t, pairwise_cons → e0w, nodup_cons → e0x, map_singleton → e0D, findIdx?_eq_none_iff → e0E, mem_append_left → e0F, getElem?_set → e0G, any_eq_true → e0I, getElem?_drop → e0K, getElem?_take → e0L, find?_cons → e0M, sublist_append_right → e0O, getElem?_of_mem → e0P, pairwise_append → e0Q, Perm → e0S, drop_zero → e0T, drop_drop → e0U, cons_append → e0V, getElem_map → e0W, replicate_succ → e0X, drop_append_of_le_length → e0Y, size_toArray → e0Z, all_eq_false → e00, toArray → e02, map_map → e03, Sublist → e04, set_getElem_self → e05, length_replicate → e07, getElem?_append → e08, not_mem_nil → e09, length_drop → e1b, flatten_append → e1c, foldl_cons → e1d, map_set → e1f
open Bool renaming and_eq_true → d9v, not_true → d9B, true_and → d9Q, not_eq_true' → d9T, not_false → d9W, or_eq_false_iff → e0h, false_or → e0s, false_eq_true → e0v, eq_iff_iff → e0z, true_or → e06, not_eq_true → e1a
open Int renaming tmod → d9I, le_refl → d9O, toNat_natCast → d96, le_trans → e0c, tdiv → e0B, tmod_eq_emod_of_nonneg → e0N
open Nat renaming le_refl → d9K, mul_le_mul_right → d92, eq_of_beq_eq_true → e0a, succ_mul → e0p, zero_add → e0u, lt_of_lt_of_le → e0C, le_mul_of_pos_right → e0H, zero_le → e0R, add_zero → e01
open Option.some renaming inj → e0y
open Classical renaming byContradiction → e1e
noncomputable section
section
variable {cx:Cx} {Γ:J3} {F:Nat->Prop} {ι:Nat->Nat->Value} {S:St} {a:Act} {w:World}
theorem p6.writeX(h:p6 Γ F ι S a w){g j:Nat}{e e':n9}(he:S.ent g j=some e)(hl:e.live=true){w':World}(hk:w'.os=w.os/\w'.tape=w.tape/\w'.output=w.output)(hsz:w'.heap.size=w.heap.size)(hb:∀k,¬EB w e (ι g j) k->w'.heap[k]?=w.heap[k]?)(hn:E2 w w' F->RE w' F (S.setE g j e').D ι e' (ι g j)){X:List Nat}(hX:∀k∈X,¬F k/\(Γ.own k\/Γ.w0.heap.size<=k)/\∀g' j' e'',S.ent g' j'=some e''->e''.live=true->¬EB w e'' (ι g' j') k)(hin:∀k,EB w' e' (ι g j) k->EB w e (ι g j) k\/k∈X):p6 Γ F ι (S.setE g j e') a w':=by
  have hs:E2 w w' F:=Y8 fun k hF=>hb k fun q=>(h.sep g j e k he hl q).1 hF
  have hD:∀k,S.D k->(S.setE g j e').D k:=fun k x=>L9.2 x
  have hoth:∀g' j' e'',S.ent g' j'=some e''->e''.live=true->¬(g'=g/\j'=j)->∀k,EB w e'' (ι g' j') k->w'.heap[k]?=w.heap[k]?:=fun g' j' e'' he'' hl'' q k a0s=>hb k fun q'=>q (h.inj g' j' e'' g j e k he'' he hl'' hl a0s q')
  have hone:∀g2 j2 e2 k,S.ent g2 j2=some e2->e2.live=true->¬(g2=g/\j2=j)->EB w' e' (ι g j) k->EB w' e2 (ι g2 j2) k->False:=by
    intro g2 j2 e2 k h2 l2 q2 k1 k2;have k2':=(h.ents g2 j2 e2 h2).back (hoth g2 j2 e2 h2 l2 q2) k2;rcases hin k k1 with x|x
    · exact q2 (h.inj g2 j2 e2 g j e k h2 he l2 hl k2' x)
    · exact (hX k x).2.2 g2 j2 e2 h2 l2 k2'
  exact
    { F0:=h.F0
      F1:=fun k hF=>hsz▸h.F1 k hF
      F2:=h.F2
      kept:=⟨hk.1.trans h.kept.os,hk.2.1.trans h.kept.tape,hk.2.2.trans h.kept.output,hsz▸h.kept.size,fun k hk' hno=>by
        rw [hb k fun q => ?_]
        · exact h.kept.block k hk' hno
        · rcases (h.sep g j e k he hl q).2 with x|x
          · exact hno x
          · omega⟩
      tmps:=by rw [a4w];exact h.tmps.imp fun _ _ x=>x.mono hs (fun _ y=>y) hD (fun _ _ _=>rfl)
      ents:=fun g' j' e'' he''=>by
        rw [K3 he] at he'';split at he''
        · rename_i q;obtain ⟨rfl,rfl⟩:=q;injection he'' with he'';subst he'';exact hn hs
        · rename_i q;exact (h.ents g' j' e'' he'').mono hs (fun _ y=>y) hD (fun _ _ _=>rfl) fun k hl'' a0s=>hoth g' j' e'' he'' hl'' q k a0s
      sep:=fun g' j' e'' k he'' hl'' a0s=>by
        rw [K3 he] at he'';split at he''
        · rename_i q;obtain ⟨rfl,rfl⟩:=q;injection he'' with he'';subst he'';rcases hin k a0s with x|x
          · exact h.sep g' j' e k he hl x
          · exact ⟨(hX k x).1,(hX k x).2.1⟩
        · rename_i q;exact h.sep g' j' e'' k he'' hl'' ((h.ents g' j' e'' he'').back (hoth g' j' e'' he'' hl'' q) a0s)
      inj:=fun g1 j1 e1 g2 j2 e2 k h1 h2 l1 l2 k1 k2=>by
        rw [K3 he] at h1 h2;split at h1<;>split at h2
        · rename_i q1 q2;exact ⟨q1.1.trans q2.1.symm,q1.2.trans q2.2.symm⟩
        · rename_i q1 q2;obtain ⟨rfl,rfl⟩:=q1;injection h1 with h1;subst h1;exact (hone g2 j2 e2 k h2 l2 q2 k1 k2).elim
        · rename_i q1 q2;obtain ⟨rfl,rfl⟩:=q2;injection h2 with h2;subst h2;exact (hone g1 j1 e1 k h1 l1 q1 k2 k1).elim
        · rename_i q1 q2;exact h.inj g1 j1 e1 g2 j2 e2 k h1 h2 l1 l2 ((h.ents g1 j1 e1 h1).back (hoth g1 j1 e1 h1 l1 q1) k1) ((h.ents g2 j2 e2 h2).back (hoth g2 j2 e2 h2 l2 q2) k2)
      defers:=h.defers
      pins:=fun j c hc=>⟨hD _ (h.pins j c hc).1,(h.pins j c hc).2⟩}
theorem L4.splice{rows:List (List V)}(h:L4 rows){idx off:Nat}{r vs:List V}(hr:rows[idx]?=some r)(hv:∀v∈vs,v.isRef=false):L4 (rows.set idx (u9 r off vs)):=by
 intro q hq v hm;rcases List.mem_or_eq_of_mem_set hq with hq|rfl
 ·exact h q hq v hm
 ·unfold u9 at hm;have hrr:=h r (d9G hr);rcases List.mem_append.1 hm with hm|hm
  ·rcases List.mem_append.1 hm with hm|hm
   ·exact hrr v (e0f hm)
   ·exact hv v hm
  ·exact hrr v (e0n hm)
theorem p6.dput(h:p6 Γ F ι S a w){g j t sz n:Nat}{o:Bool}{rows:List (List V)}(he:S.ent g j=some (.deep o t sz n rows)){idx off:Nat}{r vs:List V}{ds:List Value}{fp:List Nat}{ks:List (Nat×Nat)}(hr:rows[idx]?=some r)(hoff:off+vs.length<=sz)(hbl:BL w F vs ds fp)(hfps:H2 S w ι ks fp)(hks:ks.Nodup)(hgj:(g,j) ∉ ks){w':World}(hw:w'.os=w.os/\w'.tape=w.tape/\w'.output=w.output)(hsz:w'.heap.size=w.heap.size)(hb:∀k,z0 (ι g j)≠some k->w'.heap[k]?=w.heap[k]?)(hnew:∀flat,w.ownsRow 0 t sz (ι g j) n flat->w'.ownsRow 0 t sz (ι g j) n (u9 flat (idx*sz+off) ds)) :
  p6 Γ F ι (S.upds (C5 ks++[((g,j),.deep o t sz n (rows.set idx (u9 r off vs)))])) a w':=by
 obtain ⟨flat,fs,hor,hkl,hn,hl,hnd,hnr⟩:=h.ents g j _ he;have h1:=h.killAll ks fun id hid=>by
  obtain ⟨e,he,_⟩:=hfps.live id hid;exact ⟨e,he⟩
 have he1:(S.upds (C5 ks)).ent g j=some (.deep o t sz n rows):=by rw [c1w hgj];exact he
 have hidx:=(d9x.1 hr).1;have hpos:idx*sz+sz<=n*sz:=by rw [<-e0p];exact d92 _ (by omega)
 obtain ⟨fa,fm,fb,rfl,hrow,_⟩:=hkl.splice (k:=idx*sz+off) hbl.kl (by rw [a1I hl,hn];omega);rw [<-a4T hl hr hoff] at hrow;have hfpx:∀k∈fp,¬F k/\(Γ.own k\/Γ.w0.heap.size<=k)/\k ∉ A9 (ι g j)++(fa++(fm++fb))/\∀g' j' e'',(S.upds (C5 ks)).ent g' j'=some e''->e''.live=true->¬EB w e'' (ι g' j') k:=by
  intro k hk;obtain ⟨id,hid,e',he',hl',hb'⟩:=hfps.mem hk;obtain ⟨z1,z2⟩:=h.sep _ _ e' k he' hl' hb';refine ⟨z1,z2,?_,?_⟩
  ·intro q;obtain ⟨y1,y2⟩:=h.inj _ _ _ _ _ _ k he he' rfl hl' ((EB.deep_iff hor hkl).2 q) hb';exact hgj (by rw [show (g,j)=id from Prod.ext y1 y2];exact hid)
  ·intro g' j' e'' he'' hl'' hb'';rcases a57 _ he'' with ⟨_,rfl⟩|⟨q1,q2⟩
   ·cases hl''
   ·obtain ⟨y1,y2⟩:=h.inj _ _ _ _ _ _ k q2 he' hl'' hl' hb'' hb';exact q1 (by rw [show (g',j')=id from Prod.ext y1 y2];exact hid)
 have hnd2:(A9 (ι g j)++(fa++fb)).Nodup:=by
  refine List.Nodup.sublist ?_ hnd;exact e04.append_left (e04.append_left (e0O _ _) _) _
 have hnd':(A9 (ι g j)++(fa++(fp++fb))).Nodup:=by
  refine (a5f (a5f (e0S.refl (fp++fb)))).nodup_iff.2 ?_;refine d9A.2 ⟨H2.nodup h hfps hks,hnd2,?_⟩;intro k hk k' hk' hkk;subst hkk;refine (hfpx k hk).2.2.1 ?_;simp only [List.mem_append] at hk' ⊢;rcases hk' with q|q|q<;>simp [q]
 have hre:E2 w w' F->RE w' F ((S.upds (C5 ks)).setE g j (.deep o t sz n (rows.set idx (u9 r off vs)))).D ι (.deep o t sz n (rows.set idx (u9 r off vs))) (ι g j):=by
  intro hs;refine ⟨_,_,hnew flat hor,hrow.mono hs (fun _ x=>x) (fun k x=>L9.2 ((T9 S k _).2 x)) (fun _ _ _=>rfl) ?_,by simpa using hn,?_,hnd',fun q=>(hnr q).splice hr hbl.noRef⟩
  ·intro k hk;refine hb k fun q => ?_
   exact (d9A.1 hnd').2.2 k (L2.2 q) k hk rfl
  ·intro q hq;rcases List.mem_or_eq_of_mem_set hq with hq|rfl
   ·exact hl q hq
   ·have:=hl r (d9G hr);rw [a06 _ _ _ (by omega)];exact this
 rw [St.upds_append];refine h1.writeX he1 rfl hw hsz (fun k hk=>hb k fun q=>hk (EB.top q)) hre (X:=fp) (fun k hk=>⟨(hfpx k hk).1,(hfpx k hk).2.1,(hfpx k hk).2.2.2⟩) ?_;intro k hk;have hs:E2 w w' F:=Y8 fun k hF=>hb k fun q=>(h.sep g j _ k he rfl (EB.top q)).1 hF
 obtain ⟨flat2,fs2,ho2,hkl2,_⟩:=hre hs;have hk2:=(EB.deep_iff ho2 hkl2).1 hk;have hkl3:=hrow.mono (w':=w') hs (fun _ x=>x) (fun k x=>x) (fun _ _ _=>rfl) (fun k hk=>hb k fun q=>(d9A.1 hnd').2.2 k (L2.2 q) k hk rfl);have hfl:=a51 ho2 (hnew flat hor) (fun _ _=>rfl);subst hfl;rw [hkl2.det hkl3 (fun _ _=>rfl)] at hk2;simp only [List.mem_append] at hk2;rw [EB.deep_iff hor hkl];simp only [List.mem_append];rcases hk2 with q|q|q|q<;>simp [q]
def a6f(cx:Cx)(ty:Nat)(x y:V)(r:List V)(ck om:List (Option Nat)):i8 x8 :=
 match cx.T ty,y.cells with
 | some ti,some vs=>match x with
  | .eptr g j sz idx off=>i8.bind (i8.rd g j) fun e=>i8.bind (a0i ck om vs) fun f=>match e with
   | .deep o t sz' n rows=>if sz'=sz/\vs.length=ti.size/\off+vs.length<=sz/\f.ls.isEmpty/\a1h f.ks/\Z5 f.ks (g,j)=false then
     i8.pure {v:=.bot,upd:=C5 f.ks++[((g,j),.deep o t sz n (rows.set idx (u9 r off f.v)))],obl:=(rows[idx]?=some r)::f.obl}
    else i8.no
   | _=>i8.no
  | _=>i8.no
 | _,_=>i8.no
theorem BL.len{F:Nat->Prop}:∀{vs:List V} {cs:List Value} {f:List Nat},BL w F vs cs f->vs.length=cs.length
 | _,_,_,.nil=>rfl
 | _,_,_,.cons _ _ _ _ _ _ _ t=>by simp [BL.len t]
theorem c5Y(h:p6 Γ F ι S a w){grp:Nat}{ob:Oper}{ty:Nat}{x y:Operand}{r:List V}{ck om:List (Option Nat)}(ho:ob.op=.store ty x y)(hd:ob.dst=none){out:x8}{lg:List (Nat×Nat)}(hp:a6f cx ty (n5 S.t x) (n5 S.t y) r ck om S.ent=some (out,lg))(hob:∀p∈out.obl,p):N6 cx.P Γ ι S grp ob out a w:=by
 have hx:=A8 h.tmps x;have hy:=A8 h.tmps y;unfold a6f at hp;cases hti:cx.T ty with
 | none=>rw [hti] at hp;cases hp
 | some ti =>
 cases hvs:(n5 S.t y).cells with
 | none=>rw [hti,hvs] at hp;cases hp
 | some vs =>
 rw [hti,hvs] at hp;simp only at hp;obtain ⟨i,d,z,htf⟩:=cx.tf hti;have hcells:=hy.cells hvs;have hone:=hcells.all_one;have hclen:vs.length=(a.eval y).cells.size:=by simpa using hcells.length
 generalize n5 S.t x=xv at hp hx;cases xv<;>try (cases hp;done)
 case eptr g j sz idx off =>
  obtain ⟨hD,b,hι,hc⟩:=hx.inv_eptr;obtain ⟨e,l1,l2,hrd,hp',hl12⟩:=i8.bind_some hp;clear hp;have he:=(i8.rd_some hrd).1;simp only at he;obtain ⟨f,l3,l4,hf,hp'',hl34⟩:=i8.bind_some hp';clear hp';cases e<;>try (cases hp'';done)
  rename_i o t sz' n rows;simp only at hp'';split at hp''<;>try (cases hp'';done)
  rename_i hcond;obtain ⟨rfl,hc1,hc2,hc3,hc4,hc5⟩:=hcond;have:=i8.pure_some hp'';injection this with h2 h3;subst h2;have hr:rows[idx]?=some r:=hob _ (d9z.2 (.inl rfl));have hls:f.ls=[]:=List.isEmpty_iff.1 hc3;obtain ⟨fp,hbl,hfps,hh⟩:=a9u (F1:=F) h (fun _ x=>x) hcells hf (fun p hp=>hob p (d9z.2 (.inr hp))) (by rw [hls];intro id hid;cases hid);obtain ⟨flat0,fs0,hor0,hkl0,hn0,hl0,_⟩:=h.ents g j _ he;have hidx:=(d9x.1 hr).1;have hvl:f.v.length=vs.length:=by rw [hbl.len,hclen];simp
  rcases hor0.2 with ⟨hv,h0⟩|⟨g0,cap,cur,hv,hbg,hg,hnc,hcm,hcs,ht⟩
  ·omega
  ·have hb:b=g0:=by rw [hv] at hι;simp [z0] at hι;omega
   subst hb;have hcl:n*sz'<=cur.size:=by rw [hcs];exact d92 _ hnc
   have hpos:idx*sz'+sz'<=n*sz':=by rw [<-e0p];exact d92 _ (by omega)
   have hrun:=b0N (P:=cx.P) ho htf hc hg (by omega) (by omega) hone;refine ⟨_,undef,_,F,ι,hrun,.inr ⟨rfl,rfl⟩,?_⟩;rw [hd,a9d,a8i];refine h.dput he hr (by omega) hbl hfps (a2j hc4) (fun q=>by rw [a4j.2 q] at hc5;cases hc5) ⟨rfl,rfl,rfl⟩ (a8z _ _ _) (fun k hk=>setRow_other w b k _ fun q=>hk (by rw [hι,q])) ?_;intro flat hor;have hfl:=a51 hor hor0 (fun _ _=>rfl);subst hfl;have hflat:flat.length=n*sz':=hor.1;refine ⟨?_,.inr ⟨b,cap,_,hv,hbg,setRow_heap w b cur _ t (0,0) hg,hnc,hcm,?_,?_⟩⟩
   ·rw [a06 _ _ _ (by simp;omega)];exact hor.1
   ·rw [e0Z,a06 _ _ _ (by simp;omega)];simpa using hcs
   ·rw [<-ht];exact b6N _ _ _ _ (by simp;omega) (by simpa using hcl)
theorem b7k{t sz n:Nat}{rows:List (List V)}{c:Value}{flat:List Value}{b idx off m:Nat}{r:List V}(ho:w.ownsRow 0 t sz c n flat)(hn:rows.length=n)(hl:∀r∈rows,r.length=sz)(hb:z0 c=some b)(hr:rows[idx]?=some r)(hoff:off+m<=sz) :
  J4 w b (idx*sz+off) ((flat.drop (idx*sz+off)).take m)/\((rows.flatten.drop (idx*sz+off)).take m=(r.drop off).take m)/\idx*sz+off+m<=rows.flatten.length:=by
 have hidx:=(d9x.1 hr).1;have hpos:idx*sz+sz<=n*sz:=by rw [<-e0p];exact d92 _ (by omega)
 refine ⟨?_,?_,by rw [a1I hl,hn];omega⟩
 ·rcases ho.2 with ⟨hv,h0⟩|⟨g0,cap,cur,hv,_,hg,hnc,hcm,hcs,ht⟩
  ·rw [hv] at hb;cases hb
  ·rw [hv] at hb;simp [z0] at hb;subst hb;have hseg:J4 w g0 0 flat:=by
    rw [<-ht];have:=(a3M hg 0).take (n*sz);simpa using this
   have:=(hseg.drop (idx*sz+off)).take m;simpa using this
 ·rw [<-a8s hl hr,List.drop_take,List.take_take,e0U];congr 1
  omega
def a79(cx:Cx)(grp ty:Nat)(x:V)(r:List V):i8 x8 :=
 match cx.T ty with
 | none=>i8.no
 | some ti=>match x with
  | .eptr g j sz idx off=>i8.bind (i8.rd g j) fun e=>match e with
   | .deep _ t sz' n rows =>
    let m:=if ti.agg then ti.size else 1
    let y:=G4 grp 0 ((r.drop off).take m);if sz'=sz/\off+m<=sz/\((r.drop off).take m).all (fun v => !v.isRef) then
     match N5 ti y.1 with
     | some v=>i8.pure {v:=v,new:=some y.2,upd:=[((g,j),.deep true t sz n (rows.set idx (u9 r off y.1)))],obl:=[rows[idx]?=some r]}
     | none=>i8.no
    else i8.no
   | _=>i8.no
  | _=>i8.no
theorem KL.toBL{w:World}{F D:Nat->Prop}{ι:Nat->Nat->Value}{vs:List V}{cs:List Value}{f:List Nat}(h:KL w F D ι vs cs f)(hv:vs.all (fun v => !v.isRef)=true):BL w F vs cs f:=by
 refine h.blOf fun v hm => ?_
 have:=List.all_eq_true.1 hv v hm;simpa using this
theorem c1G(grp:Nat):∀(vs:List V) (j:Nat),(G4 grp j vs).1.length=vs.length
 | [],_=>rfl
 | v::vs,j=>by simp [G4,c1G grp vs]
theorem d75{S:St}{g j:Nat}{e e':n9}:(S.setE g j e).setE g j e'=S.setE g j e':=by
 cases hx:S.h[g]? with
 | none=>unfold St.setE;simp [hx]
 | some o=>cases o with
  | none=>unfold St.setE;simp [hx]
  | some l =>
   have hlt:=(d9x.1 hx).1;rw [a02 hx,a02 hx,a02 (l:=l.set j e) (by simp [hlt])];simp only [List.set_set]
set_option maxHeartbeats 800000 in
theorem d5B(h:p6 Γ F ι S a w){grp:Nat}(hg:grp<S.h.length)(hn:¬S.D grp){ob:Oper}{ty:Nat}{x:Operand}{r:List V}(ho:ob.op=.load ty x){out:x8}{lg:List (Nat×Nat)}(hp:a79 cx grp ty (n5 S.t x) r S.ent=some (out,lg))(hob:∀p∈out.obl,p):N6 cx.P Γ ι S grp ob out a w:=by
 have hx:=A8 h.tmps x;unfold a79 at hp;cases hti:cx.T ty with
 | none=>rw [hti] at hp;cases hp
 | some ti =>
 rw [hti] at hp;obtain ⟨i,d,z,htf⟩:=cx.tf hti;generalize n5 S.t x=xv at hp hx;cases xv<;>try (cases hp;done)
 case eptr g j sz idx off =>
  obtain ⟨hD,b,hι,hc⟩:=hx.inv_eptr;obtain ⟨e,l1,l2,hrd,hp',hl12⟩:=i8.bind_some hp;clear hp;have he:=(i8.rd_some hrd).1;simp only at he;cases e<;>try (cases hp';done)
  rename_i o t sz' n rows;simp only at hp';obtain ⟨m,hm⟩:∃m,(if ti.agg=true then ti.size else 1)=m:=⟨_,rfl⟩
  rw [hm] at hp';split at hp'<;>try (cases hp';done)
  rename_i hcond;obtain ⟨rfl,hc1,hc2⟩:=hcond;obtain ⟨y,hy⟩:∃y,G4 grp 0 ((r.drop off).take m)=y:=⟨_,rfl⟩
  rw [hy] at hp';cases hrv:N5 ti y.1 with
  | none=>rw [hrv] at hp';cases hp'
  | some v =>
  rw [hrv] at hp';have:=i8.pure_some hp';injection this with h2 h3;subst h2;have hr:rows[idx]?=some r:=hob _ (by simp);obtain ⟨flat,fs,hor,hkl,hrn,hl,hnd,hnr⟩:=h.ents g j _ he;obtain ⟨hseg,hmid,hle⟩:=b7k hor hrn hl hι hr hc1;have hrl:=hl r (d9G hr);have hml:((r.drop off).take m).length=m:=by simp;omega
  have hgg:g≠grp:=fun q=>hn (q▸hD)
  obtain ⟨k,hk⟩:∃k,idx*sz'+off=k:=⟨_,rfl⟩
  rw [hk] at hseg hmid hle;obtain ⟨fa,fm,fb,rfl,ka,km,kb⟩:=hkl.cut (k:=k) (m:=m) hle;rw [hmid] at km;have hbl:=km.toBL hc2;have hds:(flat.drop k).take m=((flat.drop k).take m):=rfl;have hflen:flat.length=rows.flatten.length:=hkl.len.symm;have hspl:∀us:List V,us.length=m->(rows.set idx (u9 r off us)).flatten=rows.flatten.take k++(us++rows.flatten.drop (k+m)):=by
   intro us hus;rw [a4T hl hr (by omega),hk];unfold u9;rw [hus,d9N]
  have hfs:flat=flat.take k++((flat.drop k).take m++flat.drop (k+m)):=by
   rw [<-e0U,e0d,e0d]
  have hrl':∀us:List V,us.length=m->∀q∈rows.set idx (u9 r off us),q.length=sz':=by
   intro us hus q hq;rcases List.mem_or_eq_of_mem_set hq with hq|rfl
   ·exact hl q hq
   ·rw [a06 _ _ _ (by omega)];exact hrl
  have hnd2:(A9 (ι g j)++(fa++fb)).Nodup:=List.Nodup.sublist (e04.append_left (e04.append_left (e0O _ _) _) _) hnd;have hndm:fm.Nodup:=(d9A.1 (d9A.1 (d9A.1 hnd).2.1).2.1).1;have hdm:∀k∈fm,k ∉ A9 (ι g j)++(fa++fb):=by
   intro q hq hq';have hp:=(a5f (C:=A9 (ι g j)) (a5f (C:=fa) (e0S.refl (fm++fb)))).nodup_iff.1 hnd;exact (d9A.1 hp).2.2 q hq q hq' rfl
  obtain ⟨us0,hus0⟩:∃us:List V,us=((r.drop off).take m).map fun _=>V.bot:=⟨_,rfl⟩
  have hus0l:us0.length=m:=by rw [hus0,List.length_map,hml]
  have kl0:∀{D':Nat->Prop} {ι':Nat->Nat->Value},(∀k,S.D k->D' k)->(∀g j,S.D g->ι' g j=ι g j)->∀{us:List V},us.length=m->KL w F D' ι' us ((flat.drop k).take m) []->KL w F D' ι' (rows.set idx (u9 r off us)).flatten flat (fa++([]++fb)):=by
   intro D' ι' h1 h2 us hus hku;rw [hspl us hus,hfs];have l1:(flat.take k).length=k:=by simp;omega
   have e1:(flat.take k++((flat.drop k).take m++flat.drop (k+m)))=flat:=hfs.symm;exact (ka.mono (fun _ _ _=>rfl) (fun _ x=>x) h1 h2 (fun _ _=>rfl)).app (hku.app (kb.mono (fun _ _ _=>rfl) (fun _ x=>x) h1 h2 (fun _ _=>rfl)))
  have hmem0:∀q,q∈A9 (ι g j)++(fa++([]++fb))->q∈A9 (ι g j)++(fa++(fm++fb)):=by
   intro q hq;simp only [List.mem_append,e09,false_or] at hq ⊢;rcases hq with x|x|x<;>simp [x]
  have rel1:p6 Γ F ι (S.setE g j (.deep true t sz' n (rows.set idx (u9 r off us0)))) a w:=by
   have k1:=kl0 (D':=S.D) (ι':=ι) (fun _ x=>x) (fun _ _ _=>rfl) hus0l (hus0▸km.bots);refine h.write he rfl ⟨rfl,rfl,rfl⟩ rfl (fun _ _=>rfl) (fun _ => ?_) ?_
   ·exact ⟨flat,_,hor,k1.mono (fun _ _ _=>rfl) (fun _ x=>x) (fun k x=>L9.2 x) (fun _ _ _=>rfl) (fun _ _=>rfl),by simpa using hrn,hrl' _ hus0l,by simpa using hnd2,fun q=>by cases q⟩
   ·intro q hq;exact (EB.deep_iff hor hkl).2 (hmem0 q ((EB.deep_iff hor k1).1 hq))
  have he1:(S.setE g j (.deep true t sz' n (rows.set idx (u9 r off us0)))).ent g j=some (.deep true t sz' n (rows.set idx (u9 r off us0))):=by rw [K3 he];simp
  obtain ⟨bs,hbsl,hhas,hth⟩:=a4x (grp:=grp) hbl 0;rw [hy] at hbsl hhas hth;obtain ⟨ι',hι'⟩:∃ι',ι'=a2M ι grp bs:=⟨_,rfl⟩
  have hne:∀g j,g≠grp->ι' g j=ι g j:=fun g j q=>by rw [hι'];exact b7H q
  have hlenS:grp<(S.setE g j (.deep true t sz' n (rows.set idx (u9 r off us0)))).h.length:=by rw [a6i];exact hg
  have hnD:¬(S.setE g j (.deep true t sz' n (rows.set idx (u9 r off us0)))).D grp:=fun q=>hn (L9.1 q)
  have hDg:=V3 (S:=S.setE g j (.deep true t sz' n (rows.set idx (u9 r off us0)))) (new:=y.2) hlenS;obtain ⟨hrc,hlie⟩:=hth ((S.setE g j (.deep true t sz' n (rows.set idx (u9 r off us0)))).lay grp y.2).D ι' hDg (fun q c hq=>by rw [hι',e0u];exact a2S hq) hndm;have hvb:∀(q:Nat) (e:n9),y.2[q]?=some e->bs[q]?=some (ι' grp q):=by
   intro q e hq;have hlt:q<bs.length:=by rw [hbsl];exact (d9x.1 hq).1
   have hv:ι' grp q=bs[q]:=by rw [hι'];exact a2S (d9t hlt)
   rw [hv];exact d9t hlt
  have hmB:∀k∈fm,EB w (.deep o t sz' n rows) (ι g j) k:=fun k hk=>(EB.deep_iff hor hkl).2 (by simp [hk])
  have k1:=kl0 (D':=S.D) (ι':=ι) (fun _ x=>x) (fun _ _ _=>rfl) hus0l (hus0▸km.bots);have rel2:=rel1.lay hlenS hnD (new:=y.2) (ι':=ι') hne (fun q e he=>hlie q e _ he (hvb q e he))
   (fun q e k he hl hk=>h.sep _ _ _ k ‹S.ent g j=some (.deep o t sz' n rows)› rfl (hmB k (hhas.mem he (hvb q e he) hk)))
   (fun q e q' e' k he he' hl hl' hk hk'=>hhas.inj hndm he (hvb q e he) hk he' (hvb q' e' he') hk')
   (fun q e g' j' e' k he0 he' hl hl' hk hk'=>by
    have hkm:=hhas.mem he0 (hvb q e he0) hk;rw [K3 he] at he';split at he'
    ·rename_i qq;obtain ⟨rfl,rfl⟩:=qq;injection he' with he';subst he';exact hdm k hkm (by simpa using (EB.deep_iff hor k1).1 hk')
    ·rename_i qq;exact qq (h.inj _ _ _ _ _ _ k he' he hl' rfl hk' (hmB k hkm)))
  have he2:((S.setE g j (.deep true t sz' n (rows.set idx (u9 r off us0)))).lay grp y.2).ent g j=some (.deep true t sz' n (rows.set idx (u9 r off us0))):=by rw [a4s hgg];exact he1
  have hyl:y.1.length=m:=by rw [<-hy,c1G,hml]
  have hor':w.ownsRow 0 t sz' (ι' g j) n flat:=by rw [hne g j hgg];exact hor
  have hDD:∀k,S.D k->((S.setE g j (.deep true t sz' n (rows.set idx (u9 r off us0)))).lay grp y.2).D k:=fun k x=>a9Q (L9.2 x)
  have hιD:∀g' j',S.D g'->ι' g' j'=ι g' j':=fun g' j' x=>hne g' j' fun q=>hn (q▸x)
  have k2:=kl0 (D':=((S.setE g j (.deep true t sz' n (rows.set idx (u9 r off us0)))).lay grp y.2).D) (ι':=ι') hDD hιD hyl (KL.ofRC hrc);have k1':=kl0 (D':=((S.setE g j (.deep true t sz' n (rows.set idx (u9 r off us0)))).lay grp y.2).D) (ι':=ι') hDD hιD hus0l (hus0▸km.bots.mono (fun _ _ _=>rfl) (fun _ x=>x) hDD hιD (fun _ _=>rfl));have rel3:=rel2.write he2 rfl (e':=.deep true t sz' n (rows.set idx (u9 r off y.1))) ⟨rfl,rfl,rfl⟩ rfl (fun _ _=>rfl)
   (fun _=>⟨flat,_,hor',k2.mono (fun _ _ _=>rfl) (fun _ x=>x) (fun k x=>L9.2 x) (fun _ _ _=>rfl) (fun _ _=>rfl),by simpa using hrn,hrl' _ hyl,by rw [hne g j hgg];simpa using hnd2,fun q=>by cases q⟩)
   (fun q hq=>(EB.deep_iff hor' k1').2 ((EB.deep_iff hor' k2).1 hq))
  obtain ⟨c,hrd',hvc⟩:=a4i hrc hrv;refine ⟨_,c,w,F,ι',a31 ho htf (by rw [hc,hk]) hseg hrd',.inl rfl,?_⟩;have hput:=rel3.put ob.dst (hvc.mono (fun _ _ _=>rfl) (fun _ x=>x) (fun k x=>L9.2 x) (fun _ _ _=>rfl));rw [<-c6e hgg,d75] at hput;exact hput
def V.plainO:V->Bool
 | .own .. => true
 | v=>v.plain
theorem KL.plainO{w:World}{F D:Nat->Prop}{ι:Nat->Nat->Value}:∀{vs:List V} {cs:List Value} {f:List Nat},KL w F D ι vs cs f->vs.all V.plainO=true->r7 (RC w F D ι) vs cs
 | _,_,_,.nil,_=>.nil
 | _,_,_,.cons v c f vs cs fs h t,hp=>by
  simp only [List.all_cons,d9v] at hp;refine .cons ?_ (KL.plainO t hp.2);have hv:=hp.1;cases h with
  | rc h=>exact h
  | bc _ h=>cases h with
   | fv v c h=>exact .fv _ _ h
   | _=>cases hv
def a7I(cx:Cx)(ty:Nat)(x:V)(r:List V):i8 x8 :=
 match cx.T ty with
 | none=>i8.no
 | some ti=>match x with
  | .eptr g j sz idx off=>i8.bind (i8.rd g j) fun e=>match e with
   | .deep _ t sz' n rows =>
    let m:=if ti.agg then ti.size else 1
    if sz'=sz/\off+m<=sz/\((r.drop off).take m).all V.plainO then
     match N5 ti ((r.drop off).take m) with
     | some v=>i8.pure {v:=v,obl:=[rows[idx]?=some r]}
     | none=>i8.no
    else i8.no
   | _=>i8.no
  | _=>i8.no
theorem d4K(h:p6 Γ F ι S a w){grp:Nat}{ob:Oper}{ty:Nat}{x:Operand}{r:List V}(ho:ob.op=.load ty x){out:x8}{lg:List (Nat×Nat)}(hp:a7I cx ty (n5 S.t x) r S.ent=some (out,lg))(hob:∀p∈out.obl,p):N6 cx.P Γ ι S grp ob out a w:=by
 have hx:=A8 h.tmps x;unfold a7I at hp;cases hti:cx.T ty with
 | none=>rw [hti] at hp;cases hp
 | some ti =>
 rw [hti] at hp;obtain ⟨i,d,z,htf⟩:=cx.tf hti;generalize n5 S.t x=xv at hp hx;cases xv<;>try (cases hp;done)
 case eptr g j sz idx off =>
  obtain ⟨hD,b,hι,hc⟩:=hx.inv_eptr;obtain ⟨e,l1,l2,hrd,hp',hl12⟩:=i8.bind_some hp;clear hp;have he:=(i8.rd_some hrd).1;simp only at he;cases e<;>try (cases hp';done)
  rename_i o t sz' n rows;simp only at hp';obtain ⟨m,hm⟩:∃m,(if ti.agg=true then ti.size else 1)=m:=⟨_,rfl⟩
  rw [hm] at hp';split at hp'<;>try (cases hp';done)
  rename_i hcond;obtain ⟨rfl,hc1,hc2⟩:=hcond;cases hrv:N5 ti ((r.drop off).take m) with
  | none=>rw [hrv] at hp';cases hp'
  | some v =>
  rw [hrv] at hp';have:=i8.pure_some hp';injection this with h2 h3;subst h2;have hr:rows[idx]?=some r:=hob _ (by simp);obtain ⟨flat,fs,hor,hkl,hrn,hl,hnd,hnr⟩:=h.ents g j _ he;obtain ⟨hseg,hmid,hle⟩:=b7k hor hrn hl hι hr hc1;obtain ⟨fa,fm,fb,rfl,ka,km,kb⟩:=hkl.cut hle;rw [hmid] at km;obtain ⟨c,hrd',hvc⟩:=a4i (D:=S.D) (ι:=ι) (km.plainO hc2) hrv;exact ⟨_,c,w,F,ι,a31 ho htf hc hseg hrd',.inl rfl,by rw [a39];exact h.put ob.dst hvc⟩
def a7V(cx:Cx)(grp ty:Nat)(l c:V)(ck om:List (Option Nat)):i8 x8 :=
 match cx.T ty with
 | some ti=>match ti.sl with
  | some e=>match cx.T e with
   | some ei=>match l,c with
    | .i _ n,.i _ n'=>i8.bind (a0i ck om ei.zero) fun f =>
     if f.ks.isEmpty/\f.ls.isEmpty then
      i8.pure {v:=.own grp 0 ei.size 0 n.toNat,new:=some [.deep false e ei.size n.toNat (d9u n.toNat f.v)],obl:=[0<=n,n'=n,n*ei.bytes<=140737488355328/\0<ei.bytes,ei.zero.length=ei.size]++f.obl}
     else i8.no
    | _,_=>i8.no
   | none=>i8.no
  | none=>i8.no
 | none=>i8.no
theorem BL.replicate{w:World}{F D:Nat->Prop}{ι:Nat->Nat->Value}{vs:List V}{cs:List Value}(h:KL w F D ι vs cs []):∀n,KL w F D ι (d9u n vs).flatten (d9u n cs).flatten []
 | 0=>.nil
 | n+1=>by
  rw [e0X,e0X,d9S,d9S];exact h.app (BL.replicate h n)
theorem d34(h:p6 Γ F ι S a w){grp:Nat}(hg:grp<S.h.length)(hn:¬S.D grp){ob:Oper}{ty:Nat}{l c:Operand}(ho:ob.op=.makeSlice ty l c){ck om:List (Option Nat)}{out:x8}{lg:List (Nat×Nat)}(hp:a7V cx grp ty (n5 S.t l) (n5 S.t c) ck om S.ent=some (out,lg))(hob:∀p∈out.obl,p):N6 cx.P Γ ι S grp ob out a w:=by
 have hl:=A8 h.tmps l;have hc:=A8 h.tmps c;unfold a7V at hp;cases hti:cx.T ty with
 | none=>rw [hti] at hp;cases hp
 | some ti =>
 rw [hti] at hp;simp only at hp;cases hs:ti.sl with
 | none=>rw [hs] at hp;cases hp
 | some e =>
 rw [hs] at hp;simp only at hp;cases hei:cx.T e with
 | none=>rw [hei] at hp;cases hp
 | some ei =>
 rw [hei] at hp;simp only at hp;generalize n5 S.t l=lv at hp hl;generalize n5 S.t c=cv at hp hc;cases lv<;>try (cases hp;done)
 cases cv<;>try (cases hp;done)
 rename_i k n k' n';simp only at hp;obtain ⟨f,l1,l2,hf,hp',_⟩:=i8.bind_some hp;clear hp;split at hp'<;>try (cases hp';done)
 rename_i hcond;have:=i8.pure_some hp';injection this with h3 h4;subst h3;have p1:0<=n:=hob _ (by simp);have p2:n'=n:=hob _ (by simp);have p3:n*ei.bytes<=140737488355328/\0<ei.bytes:=hob _ (by simp);have p4:ei.zero.length=ei.size:=hob _ (by simp);have p5:∀p∈f.obl,p:=fun p hp=>hob p (List.mem_append.2 (.inr hp))
 subst p2;obtain ⟨m,rfl⟩:=Int.eq_ofNat_of_zero_le p1;obtain ⟨i,d,z,htf⟩:=cx.tf hti;obtain ⟨i',d',z',hef⟩:=cx.tf hei;obtain rfl:=htf.isSl hs;have hzs:z'.cells.size=ei.size:=by rw [<-p4,<-hef.zeros];simp
 have hb1:m*ei.bytes<=140737488355328:=by
  have:=p3.1;rw [<-Int.natCast_mul] at this;omega
 have hb2:m<=140737488355328:=Nat.le_trans (e0H _ p3.2) hb1;obtain ⟨w',hr,hown,hgr⟩:=run_make_full (P:=cx.P) w 0 ty e i' z' ei.size htf.und hef.info hef.zero hef.size k k' m (by rw [hef.bytes,Nat.mul_comm];omega) (by unfold maxLen;omega) (e0R _);have hrun:(execOp a.eval ob).run cx.P w=.ok (.value (.slice (some ⟨w.heap.size,0,none⟩) m m)) w':=by
  simp [execOp,ho,hl.inv_i,hc.inv_i,hr]
 have hz:r7 (RC w F S.D ι) ei.zero z'.cells.toList:=by
  rw [<-hef.zeros];exact (FL.ofCells (w:=w) (F:=F) _ hef.one).all2.imp fun _ _ x=>.fv _ _ x
 obtain ⟨fp,hbl,hfps,hh⟩:=a9u (F1:=F) h (fun _ x=>x) hz hf p5 (by rw [List.isEmpty_iff.1 hcond.2];intro id hid;cases hid);have hfp:fp=[]:=by
  rw [List.isEmpty_iff.1 hcond.1] at hfps;cases hfps;rfl
 subst hfp;have hs':E2 w w' F:=Y8 fun g hg=>hgr.block g (h.F1 g hg) (by simp)
 have hbl':BL w' F f.v z'.cells.toList []:=hbl.mono hs' (fun _ x=>x) (fun k hk=>by cases hk);have hrowl:∀r∈d9u m f.v,r.length=ei.size:=fun r hr=>by
  rw [(e0i.1 hr).2,hbl.len];simpa using hzs
 have hkl:∀{D:Nat->Prop} {ι:Nat->Nat->Value},KL w' F D ι (d9u m f.v).flatten (d9u m z'.cells.toList).flatten []:=BL.replicate hbl'.kl m
 have hown':=hown;rw [<-hzs,b3c,hzs] at hown';have hor:RE w' F (S.lay grp [.deep false e ei.size m (d9u m f.v)]).D (H4 ι grp (.slice (some ⟨w.heap.size,0,none⟩) m m)) (.deep false e ei.size m (d9u m f.v)) (.slice (some ⟨w.heap.size,0,none⟩) m m) :=
  ⟨_,[],hown',hkl,by simp,hrowl,by simp [A9,z0],fun _=>L4.of_flat fun v hv=>by
   obtain ⟨q,hq,hv⟩:=e0e.1 hv;rw [(e0i.1 hq).2] at hv;exact hbl.noRef v hv⟩
 have hrel:=h.new1 hg hn hgr (ent:=.deep false e ei.size m (d9u m f.v)) (c0:=.slice (some ⟨w.heap.size,0,none⟩) m m) (by
  intro q hq;have:=(EB.deep_iff (D:=fun _=>True) (ι:=fun _ _=>.nilFunc) hown' hkl).1 hq;simp [A9,z0] at this;omega) hor
 refine ⟨_,_,_,F,H4 ι grp (.slice (some ⟨w.heap.size,0,none⟩) m m),hrun,.inl rfl,?_⟩;exact hrel.put ob.dst (.cell (RC.wholeO (V3 hg) J7 hown'))
end
def a1m:List (List Int×V)->List Int->V->V
 | [],_,z=>z
 | p::es,k,z=>if k==p.1 then p.2 else a1m es k z
def Z9:List (List Int×V)->List Int->V->List (List Int×V)
 | [],k,v=>[(k,v)]
 | p::es,k,v=>if k==p.1 then (p.1,v)::es else p::Z9 es k v
def U4:List (List Int×V)->List Int->Nat->Option (Nat×Value)
 | [],_,_=>none
 | p::es,k,i=>if k==p.1 then some (i,p.2.conc) else U4 es k (i+1)
theorem c00{P:Program}{w:World}{r:Nat}{es:Array MapEntry}{clock:Nat}(o:Obj)(hb:w.heap[r]?=some (.map es clock)):(setObj r o).run P w=.ok () {w with heap:=w.heap.setIfInBounds r o}:=by
 simp [setObj,Sem.run,hb]
theorem b7X{w:World}{r:Nat}{o o':Obj}(hb:w.heap[r]?=some o):(w.heap.setIfInBounds r o')[r]?=some o'/\∀r',r'≠r->(w.heap.setIfInBounds r o')[r']?=w.heap[r']?:=by
 have hlt:=(Array.getElem?_eq_some_iff.1 hb).1;exact ⟨by simp [hlt],fun r' q=>by rw [Array.getElem?_setIfInBounds_ne (Ne.symm q)]⟩
theorem c5S(z:V)(k:List Int):∀(es:List (List Int×V)) (i:Nat),(a1m es k z).conc=match U4 es k i with
  | some (_,v)=>v
  | none=>z.conc
 | [],_=>rfl
 | p::es,i=>by
  unfold a1m U4;split
  ·rfl
  ·exact c5S z k es (i+1)
theorem RV.simple{w:World}{F D:Nat->Prop}{ι:Nat->Nat->Value}{v:V}{c:Value}(h:RV w F D ι v c)(hv:v.simple=true):c=v.conc:=by
 cases h with
 | one v c h =>
  cases h with
  | cell v c h =>
   cases h with
   | fv v c h=>cases h<;>first|rfl|(cases hv;done)
   | _=>cases hv
  | agg cs ds h=>cases hv
 | tup cs ds h=>cases hv
 | any c=>cases hv
section
variable {P:Program} {kt m:Nat} {w:World}
theorem b4T(hE:∀(xs ys:List Int) (w:World),xs.length=m->ys.length=m->(Op.equal kt (kv xs) (kv ys)).run P w=.ok (xs==ys) w){k:List Int}(hk:k.length=m):∀(es:List (List Int×V)) (l:List MapEntry) (i:Nat),l.map (fun e=>(e.key,e.val))=es.map (fun p=>(kv p.1,p.2.conc))->(∀p∈es,p.1.length=m)->(Instr.findAsking kt (kv k) l i).run P w=.ok (U4 es k i) w
 | [],[],i,_,_=>by simp [Instr.findAsking,U4]
 | [],_::_,_,h,_=>by cases h
 | _::_,[],_,h,_=>by cases h
 | p::es,e::l,i,h,hl=>by
  simp only [d9R,List.cons.injEq,Prod.mk.injEq] at h;obtain ⟨⟨h1,h2⟩,h3⟩:=h;unfold Instr.findAsking;rw [h1];simp only [Sem.run_bind,hE k p.1 w hk (hl p (by simp)),Result.andThen_ok];unfold U4;by_cases q:(k==p.1)=true
  ·rw [if_pos q,if_pos q,h2];rfl
  ·rw [if_neg q,if_neg q];exact b4T hE hk es l (i+1) h3 fun p hp=>hl p (by simp [hp])
theorem d60:∀(n:Nat) (xs:List Int),Instr.sameBits (n+2) (kv xs) (kv xs)=true:=by
 intro n xs;unfold kv Instr.sameBits;simp only [e0Z,beq_self_eq_true,d9Q];induction xs with
 | nil=>rfl
 | cons x xs ih =>
  simp only [d9R,List.zip_cons_cons,List.all_cons,d9v];exact ⟨by simp [Instr.sameBits],by simpa using ih⟩
theorem c35{k:List Int}{j:Nat}{v:Value}:∀{es:List (List Int×V)} {i:Nat},U4 es k i=some (j,v)->i<=j
 | [],_,h=>by cases h
 | p::es,i,h=>by
  unfold U4 at h;split at h
  ·injection h with h;injection h with h;omega
  ·have:=c35 h;omega
theorem b8F{k:List Int}{x:V}{v:Value}:∀{es:List (List Int×V)} {l:List MapEntry} {i j:Nat},l.map (fun e=>(e.key,e.val))=es.map (fun p=>(kv p.1,p.2.conc))->U4 es k i=some (j,v)->
  (∃e,l[j-i]?=some e/\e.key=kv k)/\((l.modify (j-i) fun e=>{e with key:=kv k,val:=x.conc}).map (fun e=>(e.key,e.val))=(Z9 es k x).map (fun p=>(kv p.1,p.2.conc)))
 | [],_,_,_,_,h=>by cases h
 | _::_,[],_,_,h,_=>by cases h
 | p::es,e::l,i,j,h,hf=>by
  simp only [d9R,List.cons.injEq,Prod.mk.injEq] at h;obtain ⟨⟨h1,h2⟩,h3⟩:=h;unfold U4 at hf;unfold Z9;split at hf
  ·rename_i q;injection hf with hf;injection hf with hf1 hf2;subst hf1;have:k=p.1:=by simpa using q
   rw [Nat.sub_self,if_pos q];exact ⟨⟨e,rfl,by rw [h1,this]⟩,by simp [List.modify_cons,h3,this]⟩
  ·rename_i q;rw [if_neg q];have hge:=c35 hf;obtain ⟨⟨e',h4,h5⟩,h6⟩:=b8F (x:=x) h3 hf;obtain ⟨d,hd⟩:∃d,j-i=d+1:=⟨j-i-1,by omega⟩
   have hd':j-(i+1)=d:=by omega
   rw [hd'] at h4 h6;rw [hd];refine ⟨⟨e',by simpa using h4,h5⟩,?_⟩;rw [List.modify_succ_cons];simp only [d9R,h1,h2,h6]
theorem b73{k:List Int}{x:V}:∀{es:List (List Int×V)} {i:Nat},U4 es k i=none->Z9 es k x=es++[(k,x)]
 | [],_,_=>rfl
 | p::es,i,h=>by
  unfold U4 at h;unfold Z9;split at h
  ·cases h
  ·rename_i q;rw [if_neg q,b73 h];rfl
theorem c0P{k:List Int}{x:V}{p:List Int×V->Prop}:∀{es:List (List Int×V)},(∀q∈es,p q)->(∀q∈es,p (q.1,x))->p (k,x)->∀q∈Z9 es k x,p q
 | [],_,_,h3,q,hq=>by
  simp only [Z9,d9y] at hq;subst hq;exact h3
 | e::es,h1,h2,h3,q,hq=>by
  unfold Z9 at hq;split at hq
  ·rcases d9z.1 hq with rfl|hq
   ·exact h2 e (by simp)
   ·exact h1 q (by simp [hq])
  ·rcases d9z.1 hq with rfl|hq
   ·exact h1 _ (by simp)
   ·exact c0P (fun q hq=>h1 q (by simp [hq])) (fun q hq=>h2 q (by simp [hq])) h3 q hq
end
theorem d8V{P:Program}{w:World}{em:Bool}{n kt:Nat}{fs:Array Field}{xs:Array Value}(hu:P.underlying kt=some (.struct fs))(h:∀f∈fs.toList,∃a,(part f.type xs f.offset).run P w=.ok a w/\(Instr.checkKey em n f.type a).run P w=.ok () w):(Instr.checkKey em (n+1) kt (.agg xs)).run P w=.ok () w:=by
 rw [Instr.checkKey];simp only [Sem.run_bind,run_underlying hu,Result.andThen_ok];rw [<-Array.forIn_toList];generalize fs.toList=l at h;induction l with
 | nil=>rfl
 | cons f l ih =>
  obtain ⟨a,h1,h2⟩:=h f (by simp);have ih':=ih fun f hf=>h f (by simp [hf])
  simp only [List.forIn_cons,Sem.run_bind];by_cases q:f.name = "_"
  ·simp [q];simpa using ih'
  ·simp [q,Sem.run_bind,h1,h2];simpa using ih'
theorem c4B{P:Program}{w:World}{em:Bool}{n t:Nat}{k j:IntKind}{x:Int}(hu:P.underlying t=some (.int k)):(Instr.checkKey em (n+1) t (.int j x)).run P w=.ok () w:=by
 rw [Instr.checkKey];simp [Sem.run_bind,run_underlying hu]
section
variable {cx:Cx} {Γ:J3} {F:Nat->Prop} {ι:Nat->Nat->Value} {S S':St} {a:Act} {w:World}
theorem RV.inv_mp{D:Nat->Prop}{g j:Nat}{c:Value}(h:RV w F D ι (.mp g j) c):D g/\∃b,ι g j=.map (some b)/\c=.map (some b):=by
 cases h with
 | one v c h=>cases h with
  | cell v c h=>cases h with
   | fv v c h=>cases h
   | mp g j b h1 h2=>exact ⟨h1,b,h2,rfl⟩
def b4B(cx:Cx)(grp ty:Nat):Option x8 :=
 match cx.M ty with
 | some (_,m,_)=>some {v:=.mp grp 0,new:=some [.map ty m []]}
 | none=>none
theorem d7g(h:p6 Γ F ι S a w){grp:Nat}(hg:grp<S.h.length)(hn:¬S.D grp){ob:Oper}{ty:Nat}(ho:ob.op=.makeMap ty none){out:x8}(hp:b4B cx grp ty=some out):N6 cx.P Γ ι S grp ob out a w:=by
 unfold b4B at hp;split at hp<;>try (cases hp;done)
 injection hp with hp;subst hp;rename_i kt m z hM;have hrun:(execOp a.eval ob).run cx.P w=.ok (.value (.map (some w.heap.size))) (w.alloc (.map #[] 0)):=by
  simp only [execOp,ho,Option.map_none];rfl
 have hrel:=h.new1 hg hn (a2W w (.map #[] 0)) (ent:=.map ty m []) (c0:=.map (some w.heap.size))
  (by intro k hk;simp [EB,z0] at hk;omega) ⟨w.heap.size,#[],0,rfl,a5M w _,rfl,fun p hp=>by cases hp⟩
 refine ⟨_,_,_,F,H4 ι grp (.map (some w.heap.size)),hrun,.inl rfl,?_⟩;exact hrel.put ob.dst (.cell (.mp grp 0 w.heap.size (V3 hg) J7))
def a78(cx:Cx)(ty:Nat)(x ix:V):i8 x8 :=
 match cx.M ty with
 | none=>i8.no
 | some (kt,m,z)=>match x,ix with
  | .mp g j,.agg ks=>match a0z ks with
   | some xs=>i8.bind (i8.rd g j) fun e=>match e with
    | .map t' m' es=>if m'=m/\xs.length=m then i8.pure {v:=a1m es xs z} else i8.no
    | _=>i8.no
   | none=>i8.no
  | _,_=>i8.no
theorem c0K{xs:List Int}{z:V}(hz:z.simple=true):∀{es:List (List Int×V)},(∀p∈es,p.2.simple=true)->(a1m es xs z).simple=true
 | [],_=>hz
 | p::es,h=>by
  unfold a1m;split
  ·exact h p (by simp)
  ·exact c0K hz fun p hp=>h p (by simp [hp])
theorem c6K(h:p6 Γ F ι S a w){grp:Nat}{ob:Oper}{ty:Nat}{x ix:Operand}(ho:ob.op=.lookup ty x ix false){out:x8}{lg:List (Nat×Nat)}(hp:a78 cx ty (n5 S.t x) (n5 S.t ix) S.ent=some (out,lg)):N6 cx.P Γ ι S grp ob out a w:=by
 have hx:=A8 h.tmps x;have hi:=A8 h.tmps ix;unfold a78 at hp;cases hM:cx.M ty with
 | none=>rw [hM] at hp;cases hp
 | some q =>
 obtain ⟨kt,m,z⟩:=q;rw [hM] at hp;simp only at hp;generalize n5 S.t x=xv at hp hx;generalize n5 S.t ix=iv at hp hi;cases xv<;>try (cases hp;done)
 cases iv<;>try (cases hp;done)
 rename_i g j ks;simp only at hp;cases hks:a0z ks with
 | none=>rw [hks] at hp;cases hp
 | some xs =>
 rw [hks] at hp;obtain ⟨e,l1,l2,hrd,hp',hl12⟩:=i8.bind_some hp;clear hp;have he:=(i8.rd_some hrd).1;simp only at he hp';cases e<;>try (cases hp';done)
 rename_i t' m' es;simp only at hp';split at hp'<;>try (cases hp';done)
 rename_i hcond;obtain ⟨rfl,hlen⟩:=hcond;have:=i8.pure_some hp';injection this with h2 h3;subst h2;obtain ⟨hD,b,hι,hc⟩:=hx.inv_mp;obtain ⟨ds,hds,hall⟩:=hi.inv_agg;have hints:=b1u hall hks;subst hints;obtain ⟨b',arr,clock,hb,hheap,hes,hok⟩:=h.ents g j _ he;rw [hι] at hb;injection hb with hb;injection hb with hb;subst hb;obtain ⟨vt,hu,hE,hwide,hz,hzs,hck⟩:=cx.hM ty kt m' z hM;have hck':∀em,(Instr.checkKey em 10000 kt (kv xs)).run cx.P w=.ok () w:=fun em=>hck em xs w hlen
 have hfind:(Instr.findKey kt (kv xs) arr.toList).run cx.P w=.ok (U4 es xs 0) w:=by
  rw [run_findKey_eq w (by unfold b1K at hwide;exact hwide)];exact b4T (fun xs ys w h1 h2=>cx.hE kt m' hE xs ys w h1 h2) hlen es arr.toList 0 hes fun p hp=>(hok p hp).1
 have hrun:(execOp a.eval ob).run cx.P w=.ok (.value (a1m es xs z).conc) w:=by
  rw [c5S z xs es 0];simp only [execOp,ho,hc,hds,Instr.lookup,Sem.run_bind,run_underlying hu,Result.andThen_ok,run_getObj_map w b arr clock hheap];rw [show (Value.agg (xs.map (Value.int .i64)).toArray)=kv xs from rfl];simp only [Sem.run_pure,Sem.run_bind,hck',Result.andThen_ok,hfind];cases U4 es xs 0 with
  | none=>simp [hz,Sem.run_bind]
  | some q=>simp
 have hs:=c0K (xs:=xs) hzs fun p hp=>(hok p hp).2
 refine ⟨_,_,w,F,ι,hrun,.inl rfl,?_⟩;rw [a39];exact h.put ob.dst (.fv (FV.conc hs))
def a8N(cx:Cx)(ty:Nat)(x ix y:V):i8 x8 :=
 match cx.M ty with
 | none=>i8.no
 | some (kt,m,z)=>match x,ix with
  | .mp g j,.agg ks=>match a0z ks with
   | some xs=>i8.bind (i8.rd g j) fun e=>match e with
    | .map t' m' es=>if m'=m/\xs.length=m/\y.simple=true then i8.pure {v:=.bot,upd:=[((g,j),.map t' m (Z9 es xs y))]} else i8.no
    | _=>i8.no
   | none=>i8.no
  | _,_=>i8.no
theorem d1F(h:p6 Γ F ι S a w){grp:Nat}{ob:Oper}{ty:Nat}{x ix y:Operand}(ho:ob.op=.mapUpdate ty x ix y)(hd:ob.dst=none){out:x8}{lg:List (Nat×Nat)}(hp:a8N cx ty (n5 S.t x) (n5 S.t ix) (n5 S.t y) S.ent=some (out,lg)):N6 cx.P Γ ι S grp ob out a w:=by
 have hx:=A8 h.tmps x;have hi:=A8 h.tmps ix;have hy:=A8 h.tmps y;unfold a8N at hp;cases hM:cx.M ty with
 | none=>rw [hM] at hp;cases hp
 | some q =>
 obtain ⟨kt,m,z⟩:=q;rw [hM] at hp;simp only at hp;generalize n5 S.t x=xv at hp hx;generalize n5 S.t ix=iv at hp hi;generalize n5 S.t y=yv at hp hy;cases xv<;>try (cases hp;done)
 cases iv<;>try (cases hp;done)
 rename_i g j ks;simp only at hp;cases hks:a0z ks with
 | none=>rw [hks] at hp;cases hp
 | some xs =>
 rw [hks] at hp;obtain ⟨e,l1,l2,hrd,hp',hl12⟩:=i8.bind_some hp;clear hp;have he:=(i8.rd_some hrd).1;simp only at he hp';cases e<;>try (cases hp';done)
 rename_i t' m' es;simp only at hp';split at hp'<;>try (cases hp';done)
 rename_i hcond;obtain ⟨rfl,hlen,hys⟩:=hcond;have:=i8.pure_some hp';injection this with h2 h3;subst h2;obtain ⟨hD,b,hι,hc⟩:=hx.inv_mp;obtain ⟨ds,hds,hall⟩:=hi.inv_agg;have hints:=b1u hall hks;subst hints;have hyc:=hy.simple hys;obtain ⟨b',arr,clock,hb,hheap,hes,hok⟩:=h.ents g j _ he;rw [hι] at hb;injection hb with hb;injection hb with hb;subst hb;obtain ⟨vt,hu,hE,hwide,hz,hzs,hck⟩:=cx.hM ty kt m' z hM;have hck':∀em,(Instr.checkKey em 10000 kt (kv xs)).run cx.P w=.ok () w:=fun em=>hck em xs w hlen
 have hfind:(Instr.findKey kt (kv xs) arr.toList).run cx.P w=.ok (U4 es xs 0) w:=by
  rw [run_findKey_eq w (by unfold b1K at hwide;exact hwide)];exact b4T (fun xs ys w h1 h2=>cx.hE kt m' hE xs ys w h1 h2) hlen es arr.toList 0 hes fun p hp=>(hok p hp).1
 have hlt:b<w.heap.size:=(Array.getElem?_eq_some_iff.1 hheap).1;obtain ⟨arr',clock',hrun,hes'⟩:∃arr' clock',(execOp a.eval ob).run cx.P w=.ok .skip {w with heap:=w.heap.setIfInBounds b (.map arr' clock')}/\arr'.toList.map (fun e=>(e.key,e.val))=(Z9 es xs yv).map (fun p=>(kv p.1,p.2.conc)):=by
  have e0:(Value.agg (xs.map (Value.int .i64)).toArray)=kv xs:=rfl;cases hf:U4 es xs 0 with
  | none =>
   refine ⟨arr.push {key:=kv xs,val:=yv.conc,born:=clock},clock+1,?_,?_⟩
   ·simp only [execOp,ho,hc,hds,hyc,Instr.mapUpdate,Sem.run_bind,run_underlying hu,Result.andThen_ok,run_getObj_map w b arr clock hheap];rw [e0];simp only [Sem.run_pure,Sem.run_bind,hck',Result.andThen_ok,hfind,hf,c00 _ hheap]
   ·rw [b73 hf];simp [hes]
  | some q =>
   obtain ⟨i,v⟩:=q;obtain ⟨⟨e,he1,he2⟩,he3⟩:=b8F (x:=yv) hes hf;rw [Nat.sub_zero] at he1 he3;have hkey:((arr[i]?).map (·.key)).getD (kv xs)=kv xs:=by
    have:arr[i]?=some e:=by simpa using he1
    rw [this];exact he2
   refine ⟨arr.modify i fun e=>{e with key:=kv xs,val:=yv.conc},clock,?_,?_⟩
   ·simp only [execOp,ho,hc,hds,hyc,Instr.mapUpdate,Sem.run_bind,run_underlying hu,Result.andThen_ok,run_getObj_map w b arr clock hheap];rw [e0];simp only [Sem.run_pure,Sem.run_bind,hck',Result.andThen_ok,hfind,hf,hkey,Instr.keyThatStays,d60 9998,if_true,c00 _ hheap]
   ·rw [Array.toList_modify];exact he3
 refine ⟨_,undef,_,F,ι,hrun,.inr ⟨rfl,rfl⟩,?_⟩;rw [hd,a9d,a8i];have hsz:(w.heap.setIfInBounds b (.map arr' clock')).size=w.heap.size:=by simp
 refine h.write he rfl ⟨rfl,rfl,rfl⟩ hsz (fun k hk => ?_) (fun _ => ?_) (fun k hk=>hk)
 ·refine (b7X hheap).2 k fun q=>hk ?_
  rw [q,hι];rfl
 ·exact ⟨b,arr',clock',hι,(b7X hheap).1,hes',c0P hok (fun q hq=>⟨(hok q hq).1,hys⟩) ⟨hlen,hys⟩⟩
end
theorem b7q{α:Type}(key:α->List Int)(k:List Int):∀l:List α,a1m (l.map fun x=>(key x,.b true)) k (.b false)=.b (l.any fun x=>k==key x)
 | []=>rfl
 | x::l=>by
  simp only [d9R,a1m,List.any_cons];by_cases q:(k==key x)=true
  ·simp [q]
  ·simp only [q,if_false,e0s,b7q key k l];rfl
def a4B{α:Type}(key:α->List Int)(l:List α)(y:α):List α:=if l.any (fun x=>key y==key x) then l else l++[y]
theorem c5t{α:Type}(key:α->List Int)(y:α):∀l:List α,Z9 (l.map fun x=>(key x,.b true)) (key y) (.b true)=(a4B key l y).map fun x=>(key x,.b true)
 | []=>rfl
 | x::l=>by
  have ih:=c5t key y l;unfold a4B at ih ⊢;simp only [d9R,Z9,List.any_cons];by_cases q:(key y==key x)=true
  ·simp [q]
  ·have q':(key y==key x)=false:=by simpa using q
   simp only [q',e0s];rw [if_neg (by simp),ih];by_cases c:(l.any fun x=>key y==key x)=true
   ·rw [if_pos c,if_pos c];rfl
   ·rw [if_neg c,if_neg c];rfl
section
variable {cx:Cx} {Γ:J3} {F:Nat->Prop} {ι:Nat->Nat->Value} {S S':St} {a:Act} {w:World}
theorem p6.killsR:∀{ks:List (Nat×Nat)} {S:St},p6 Γ F ι S a w->(∀id∈ks,∃e,S.ent id.1 id.2=some e)->p6 Γ F ι (S.upds (C5 ks)) a w
 | [],S,h,_=>h
 | id::ks,S,h,hk=>by
  obtain ⟨e,he⟩:=hk id (by simp);refine p6.killsR (S:=S.setE id.1 id.2 .dead) (h.kill he) fun id' hid => ?_
  obtain ⟨e',he'⟩:=hk id' (by simp [hid]);rw [K3 he];split
  ·exact ⟨_,rfl⟩
  ·exact ⟨e',he'⟩
theorem L4.flatB{rows:List (List V)}(h:L4 rows):rows.flatten.all (fun v => !v.isRef)=true:=by
 rw [List.all_eq_true];intro v hv;obtain ⟨r,hr,hv⟩:=e0e.1 hv;rw [h r hr v hv];rfl
theorem p6.layDeep(h:p6 Γ F ι S a w){grp:Nat}(hgl:grp<S.h.length)(hn:¬S.D grp){X:Option Nat}{w':World}(hgr:w.grownBy w' X)(hX:∀k,X=some k->¬F k/\(Γ.own k\/Γ.w0.heap.size<=k)/\∀g j e,S.ent g j=some e->e.live=true->¬EB w e (ι g j) k){e sz n:Nat}{rows:List (List V)}{sv:Value}{flat:List Value}{fs:List Nat}(hown:w'.ownsRow 0 e sz sv n flat)(hbl:BL w F rows.flatten flat fs)(hlen:rows.length=n)(hl:∀r∈rows,r.length=sz)(hsv:∀k,z0 sv=some k->X=some k\/w.heap.size<=k)(hfs:∀k∈fs,¬F k/\(Γ.own k\/Γ.w0.heap.size<=k)/\(∀g j e,S.ent g j=some e->e.live=true->¬EB w e (ι g j) k)/\X≠some k)(hnd:fs.Nodup) :
  p6 Γ F (H4 ι grp sv) (S.lay grp [.deep false e sz n rows]) a w'/\RC w' F (S.lay grp [.deep false e sz n rows]).D (H4 ι grp sv) (.own grp 0 sz 0 n) sv:=by
 have hs:E2 w w' F:=Y8 fun g hF=>hgr.block g (h.F1 g hF) fun q=>(hX g q.symm).1 hF
 have hlt:=hbl.lt;have hbl':BL w' F rows.flatten flat fs:=hbl.mono hs (fun _ x=>x) fun k hk=>hgr.block k (hlt k hk) fun q=>(hfs k hk).2.2.2 q.symm
 have hkl:∀{D:Nat->Prop} {ι:Nat->Nat->Value},KL w' F D ι rows.flatten flat fs:=hbl'.kl
 have hEB:∀k,EB w' (.deep false e sz n rows) sv k->(X=some k\/w.heap.size<=k)\/k∈fs:=by
  intro k hk;rcases List.mem_append.1 ((EB.deep_iff (D:=fun _=>True) (ι:=fun _ _=>.nilFunc) hown hkl).1 hk) with q|q
  ·exact .inl (hsv k (L2.1 q))
  ·exact .inr q
 have h':=h.world2 hgr hX;have hback:∀{g' j' e' k},S.ent g' j'=some e'->e'.live=true->EB w' e' (ι g' j') k->EB w e' (ι g' j') k:=fun he' hl' hk' =>
  (h.ents _ _ _ he').back (fun k q=>hgr.block k (h.lt he' hl' q) fun z=>(hX k z.symm).2.2 _ _ _ he' hl' q) hk'
 refine ⟨h'.lay hgl hn (fun g j q=>a7a q) ?_ ?_ ?_ ?_,RC.wholeO (V3 hgl) J7 hown⟩
 ·intro j e1 he;cases j with
  | succ j=>simp at he
  | zero =>
   simp at he;subst he;rw [J7];refine ⟨flat,fs,hown,hkl,hlen,hl,d9A.2 ⟨b6z sv,hnd,?_⟩,fun _=>L4.of_flat hbl.noRef⟩;intro k hk k' hk' hkk;subst hkk;rcases hsv k (L2.1 hk) with q|q
   ·exact (hfs k hk').2.2.2 q
   ·have:=hlt k hk';omega
 ·intro j e1 k he hl1 hk;rw [J7] at hk;cases j with
  | succ j=>simp at he
  | zero =>
   simp at he;subst he;rcases hEB k hk with (q|q)|q
   ·exact ⟨(hX k q).1,(hX k q).2.1⟩
   ·refine ⟨fun hF => ?_,.inr (Nat.le_trans h.kept.size q)⟩;have:=h.F1 k hF;omega
   ·exact ⟨(hfs k q).1,(hfs k q).2.1⟩
 ·intro j e1 j' e1' k he he' _ _ _ _;cases j<;>cases j'<;>simp_all
 ·intro j e1 g' j' e' k he he' _ hl' hk hk';rw [J7] at hk;cases j with
  | succ j=>simp at he
  | zero =>
   simp at he;subst he;have hk2:=hback he' hl' hk';rcases hEB k hk with (q|q)|q
   ·exact (hX k q).2.2 g' j' e' he' hl' hk2
   ·have:=h.lt he' hl' hk2;omega
   ·exact (hfs k q).2.2.1 g' j' e' he' hl' hk2
def a54:V->V
 | .osl .. | .dsl .. => .bot
 | v=>v
theorem KL.holes:∀{vs:List V} {cs:List Value} {f:List Nat} {D:Nat->Prop} {ι:Nat->Nat->Value},KL w F D ι vs cs f->vs.all (fun v => !v.isRef)=true->KL w F D ι (vs.map a54) cs []
 | _,_,_,_,_,.nil,_=>.nil
 | _,_,_,D,ι,.cons v c f vs cs fs h t,hv=>by
  simp only [List.all_cons,d9v] at hv;have h1:KC w F D ι (a54 v) c []:=by
   have hone:=h.one;cases h with
   | rc h =>
    have:a54 v=v:=by
     cases h with
     | fv v c h=>cases h<;>rfl
     | _=>rfl
    rw [this];exact .rc _ _ h
   | bc _ h=>cases h with
    | fv _ _ h =>
     have:a54 v=v:=by cases h<;>rfl
     rw [this];exact .rc _ _ (.fv _ _ h)
    | _=>exact .rc _ _ (.fv _ _ (.bot _ hone))
  exact .cons _ _ [] _ _ [] h1 (KL.holes t hv.2)
def a88(cx:Cx)(grp ty:Nat)(x:V)(r:List V):i8 x8 :=
 match cx.T ty with
 | none=>i8.no
 | some ti=>match x with
  | .eptr g j sz idx off=>i8.bind (i8.rd g j) fun e=>match e with
   | .deep _ t sz' n rows =>
    let m:=if ti.agg then ti.size else 1
    let y:=G4 grp 0 ((r.drop off).take m);if sz'=sz/\off+m<=sz/\((r.drop off).take m).all (fun v => !v.isRef) then
     match N5 ti y.1 with
     | some v=>i8.pure {v:=v,new:=some y.2,upd:=[((g,j),.deep true t sz n (rows.set idx (u9 r off (((r.drop off).take m).map a54))))],obl:=[rows[idx]?=some r]}
     | none=>i8.no
    else i8.no
   | _=>i8.no
  | _=>i8.no
set_option maxHeartbeats 800000 in
theorem d2X(h:p6 Γ F ι S a w){grp:Nat}(hg:grp<S.h.length)(hn:¬S.D grp){ob:Oper}{ty:Nat}{x:Operand}{r:List V}(ho:ob.op=.load ty x){out:x8}{lg:List (Nat×Nat)}(hp:a88 cx grp ty (n5 S.t x) r S.ent=some (out,lg))(hob:∀p∈out.obl,p):N6 cx.P Γ ι S grp ob out a w:=by
 have hx:=A8 h.tmps x;unfold a88 at hp;cases hti:cx.T ty with
 | none=>rw [hti] at hp;cases hp
 | some ti =>
 rw [hti] at hp;obtain ⟨i,d,z,htf⟩:=cx.tf hti;generalize n5 S.t x=xv at hp hx;cases xv<;>try (cases hp;done)
 case eptr g j sz idx off =>
  obtain ⟨hD,b,hι,hc⟩:=hx.inv_eptr;obtain ⟨e,l1,l2,hrd,hp',hl12⟩:=i8.bind_some hp;clear hp;have he:=(i8.rd_some hrd).1;simp only at he;cases e<;>try (cases hp';done)
  rename_i o t sz' n rows;simp only at hp';obtain ⟨m,hm⟩:∃m,(if ti.agg=true then ti.size else 1)=m:=⟨_,rfl⟩
  rw [hm] at hp';split at hp'<;>try (cases hp';done)
  rename_i hcond;obtain ⟨rfl,hc1,hc2⟩:=hcond;obtain ⟨y,hy⟩:∃y,G4 grp 0 ((r.drop off).take m)=y:=⟨_,rfl⟩
  rw [hy] at hp';cases hrv:N5 ti y.1 with
  | none=>rw [hrv] at hp';cases hp'
  | some v =>
  rw [hrv] at hp';have:=i8.pure_some hp';injection this with h2 h3;subst h2;have hr:rows[idx]?=some r:=hob _ (by simp);obtain ⟨flat,fs,hor,hkl,hrn,hl,hnd,hnr⟩:=h.ents g j _ he;obtain ⟨hseg,hmid,hle⟩:=b7k hor hrn hl hι hr hc1;have hrl:=hl r (d9G hr);have hml:((r.drop off).take m).length=m:=by simp;omega
  have hgg:g≠grp:=fun q=>hn (q▸hD)
  obtain ⟨k,hk⟩:∃k,idx*sz'+off=k:=⟨_,rfl⟩
  rw [hk] at hseg hmid hle;obtain ⟨fa,fm,fb,rfl,ka,km,kb⟩:=hkl.cut (k:=k) (m:=m) hle;rw [hmid] at km;have hbl:=km.toBL hc2;have hds:(flat.drop k).take m=((flat.drop k).take m):=rfl;have hflen:flat.length=rows.flatten.length:=hkl.len.symm;have hspl:∀us:List V,us.length=m->(rows.set idx (u9 r off us)).flatten=rows.flatten.take k++(us++rows.flatten.drop (k+m)):=by
   intro us hus;rw [a4T hl hr (by omega),hk];unfold u9;rw [hus,d9N]
  have hfs:flat=flat.take k++((flat.drop k).take m++flat.drop (k+m)):=by
   rw [<-e0U,e0d,e0d]
  have hrl':∀us:List V,us.length=m->∀q∈rows.set idx (u9 r off us),q.length=sz':=by
   intro us hus q hq;rcases List.mem_or_eq_of_mem_set hq with hq|rfl
   ·exact hl q hq
   ·rw [a06 _ _ _ (by omega)];exact hrl
  have hnd2:(A9 (ι g j)++(fa++fb)).Nodup:=List.Nodup.sublist (e04.append_left (e04.append_left (e0O _ _) _) _) hnd;have hndm:fm.Nodup:=(d9A.1 (d9A.1 (d9A.1 hnd).2.1).2.1).1;have hdm:∀k∈fm,k ∉ A9 (ι g j)++(fa++fb):=by
   intro q hq hq';have hp:=(a5f (C:=A9 (ι g j)) (a5f (C:=fa) (e0S.refl (fm++fb)))).nodup_iff.1 hnd;exact (d9A.1 hp).2.2 q hq q hq' rfl
  obtain ⟨us0,hus0⟩:∃us:List V,us=((r.drop off).take m).map a54:=⟨_,rfl⟩
  have hus0l:us0.length=m:=by rw [hus0,List.length_map,hml]
  have kl0:∀{D':Nat->Prop} {ι':Nat->Nat->Value},(∀k,S.D k->D' k)->(∀g j,S.D g->ι' g j=ι g j)->∀{us:List V},us.length=m->KL w F D' ι' us ((flat.drop k).take m) []->KL w F D' ι' (rows.set idx (u9 r off us)).flatten flat (fa++([]++fb)):=by
   intro D' ι' h1 h2 us hus hku;rw [hspl us hus,hfs];have l1:(flat.take k).length=k:=by simp;omega
   have e1:(flat.take k++((flat.drop k).take m++flat.drop (k+m)))=flat:=hfs.symm;exact (ka.mono (fun _ _ _=>rfl) (fun _ x=>x) h1 h2 (fun _ _=>rfl)).app (hku.app (kb.mono (fun _ _ _=>rfl) (fun _ x=>x) h1 h2 (fun _ _=>rfl)))
  have hmem0:∀q,q∈A9 (ι g j)++(fa++([]++fb))->q∈A9 (ι g j)++(fa++(fm++fb)):=by
   intro q hq;simp only [List.mem_append,e09,false_or] at hq ⊢;rcases hq with x|x|x<;>simp [x]
  have rel1:p6 Γ F ι (S.setE g j (.deep true t sz' n (rows.set idx (u9 r off us0)))) a w:=by
   have k1:=kl0 (D':=S.D) (ι':=ι) (fun _ x=>x) (fun _ _ _=>rfl) hus0l (hus0▸km.holes hc2);refine h.write he rfl ⟨rfl,rfl,rfl⟩ rfl (fun _ _=>rfl) (fun _ => ?_) ?_
   ·exact ⟨flat,_,hor,k1.mono (fun _ _ _=>rfl) (fun _ x=>x) (fun k x=>L9.2 x) (fun _ _ _=>rfl) (fun _ _=>rfl),by simpa using hrn,hrl' _ hus0l,by simpa using hnd2,fun q=>by cases q⟩
   ·intro q hq;exact (EB.deep_iff hor hkl).2 (hmem0 q ((EB.deep_iff hor k1).1 hq))
  have he1:(S.setE g j (.deep true t sz' n (rows.set idx (u9 r off us0)))).ent g j=some (.deep true t sz' n (rows.set idx (u9 r off us0))):=by rw [K3 he];simp
  obtain ⟨bs,hbsl,hhas,hth⟩:=a4x (grp:=grp) hbl 0;rw [hy] at hbsl hhas hth;obtain ⟨ι',hι'⟩:∃ι',ι'=a2M ι grp bs:=⟨_,rfl⟩
  have hne:∀g j,g≠grp->ι' g j=ι g j:=fun g j q=>by rw [hι'];exact b7H q
  have hlenS:grp<(S.setE g j (.deep true t sz' n (rows.set idx (u9 r off us0)))).h.length:=by rw [a6i];exact hg
  have hnD:¬(S.setE g j (.deep true t sz' n (rows.set idx (u9 r off us0)))).D grp:=fun q=>hn (L9.1 q)
  have hDg:=V3 (S:=S.setE g j (.deep true t sz' n (rows.set idx (u9 r off us0)))) (new:=y.2) hlenS;obtain ⟨hrc,hlie⟩:=hth ((S.setE g j (.deep true t sz' n (rows.set idx (u9 r off us0)))).lay grp y.2).D ι' hDg (fun q c hq=>by rw [hι',e0u];exact a2S hq) hndm;have hvb:∀(q:Nat) (e:n9),y.2[q]?=some e->bs[q]?=some (ι' grp q):=by
   intro q e hq;have hlt:q<bs.length:=by rw [hbsl];exact (d9x.1 hq).1
   have hv:ι' grp q=bs[q]:=by rw [hι'];exact a2S (d9t hlt)
   rw [hv];exact d9t hlt
  have hmB:∀k∈fm,EB w (.deep o t sz' n rows) (ι g j) k:=fun k hk=>(EB.deep_iff hor hkl).2 (by simp [hk])
  have k1:=kl0 (D':=S.D) (ι':=ι) (fun _ x=>x) (fun _ _ _=>rfl) hus0l (hus0▸km.holes hc2);have rel2:=rel1.lay hlenS hnD (new:=y.2) (ι':=ι') hne (fun q e he=>hlie q e _ he (hvb q e he))
   (fun q e k he hl hk=>h.sep _ _ _ k ‹S.ent g j=some (.deep o t sz' n rows)› rfl (hmB k (hhas.mem he (hvb q e he) hk)))
   (fun q e q' e' k he he' hl hl' hk hk'=>hhas.inj hndm he (hvb q e he) hk he' (hvb q' e' he') hk')
   (fun q e g' j' e' k he0 he' hl hl' hk hk'=>by
    have hkm:=hhas.mem he0 (hvb q e he0) hk;rw [K3 he] at he';split at he'
    ·rename_i qq;obtain ⟨rfl,rfl⟩:=qq;injection he' with he';subst he';exact hdm k hkm (by simpa using (EB.deep_iff hor k1).1 hk')
    ·rename_i qq;exact qq (h.inj _ _ _ _ _ _ k he' he hl' rfl hk' (hmB k hkm)))
  have he2:((S.setE g j (.deep true t sz' n (rows.set idx (u9 r off us0)))).lay grp y.2).ent g j=some (.deep true t sz' n (rows.set idx (u9 r off us0))):=by rw [a4s hgg];exact he1
  obtain ⟨c,hrd',hvc⟩:=a4i hrc hrv;refine ⟨_,c,w,F,ι',a31 ho htf (by rw [hc,hk]) hseg hrd',.inl rfl,?_⟩;have hput:=rel2.put ob.dst hvc;rw [hus0] at hput;exact hput
theorem p6.shut(h:p6 Γ F ι S a w){g j t sz n:Nat}{o:Bool}{rows:List (List V)}(he:S.ent g j=some (.deep o t sz n rows))(hn:L4 rows):p6 Γ F ι (S.setE g j (.deep false t sz n rows)) a w:=by
 refine h.write he rfl ⟨rfl,rfl,rfl⟩ rfl (fun _ _=>rfl) (fun _ => ?_) (fun k hk=>hk);obtain ⟨flat,fs,q1,q2,q3,q4,q5,q6⟩:=h.ents g j _ he;exact ⟨flat,fs,q1,q2.mono (fun _ _ _=>rfl) (fun _ x=>x) (fun k x=>L9.2 x) (fun _ _ _=>rfl) (fun _ _=>rfl),q3,q4,q5,fun _=>hn⟩
theorem b7J{g j:Nat}:∀{us:List J1} {S:St} {e:n9},S.ent g j=some e->∃e',(S.upds us).ent g j=some e'
 | [],_,e,h=>⟨e,h⟩
 | ((g',j'),e')::us,S,e,h=>by
  cases hx:S.ent g' j' with
  | none =>
   have:(S.setE g' j' e').ent g j=some e:=by
    by_cases q:g=g'/\j=j'
    ·rw [q.1,q.2,hx] at h;cases h
    ·rw [a34 q];exact h
   exact b7J (us:=us) (S:=S.setE g' j' e') this
  | some e0 =>
   have:∃e1,(S.setE g' j' e').ent g j=some e1:=by
    rw [K3 hx];split
    ·exact ⟨_,rfl⟩
    ·exact ⟨e,h⟩
   obtain ⟨e1,h1⟩:=this;exact b7J (us:=us) (S:=S.setE g' j' e') h1
def a9q(cx:Cx)(ty:Nat)(x y:V)(r:List V)(ck om:List (Option Nat)):i8 x8 :=
 i8.bind (a6f cx ty x y r ck om) fun o=>match o.new,o.upd.reverse with
  | none,((g,j),.deep b t sz n rows)::us=>i8.bind (i8.rd g j) fun _=>i8.pure {v:=o.v,upd:=o.upd++[((g,j),.deep false t sz n rows)],obl:=L4 rows::o.obl}
  | _,_=>i8.no
theorem d49{S:St}{g j:Nat}{e:n9}{t:List V}:({S with t:=t}:St).setE g j e={S.setE g j e with t:=t}:=by
 unfold St.setE;cases S.h[g]? with
 | none=>rfl
 | some o=>cases o<;>rfl
theorem d1S(h:p6 Γ F ι S a w){grp:Nat}{ob:Oper}{ty:Nat}{x y:Operand}{r:List V}{ck om:List (Option Nat)}(ho:ob.op=.store ty x y)(hd:ob.dst=none){out:x8}{lg:List (Nat×Nat)}(hp:a9q cx ty (n5 S.t x) (n5 S.t y) r ck om S.ent=some (out,lg))(hob:∀p∈out.obl,p):N6 cx.P Γ ι S grp ob out a w:=by
 unfold a9q at hp;obtain ⟨o,l1,l2,hd1,hp',_⟩:=i8.bind_some hp;clear hp;simp only at hp';cases hnew:o.new with
 | some _=>rw [hnew] at hp';cases hp'
 | none =>
 rw [hnew] at hp';cases hrev:o.upd.reverse with
 | nil=>rw [hrev] at hp';cases hp'
 | cons u us =>
 rw [hrev] at hp';obtain ⟨⟨g,j⟩,e⟩:=u;cases e<;>try (cases hp';done)
 rename_i b t sz n rows;simp only at hp';obtain ⟨e0,l3,l4,hrd,hp'',_⟩:=i8.bind_some hp';have he0:=(i8.rd_some hrd).1;simp only at he0;have:=i8.pure_some hp'';injection this with h2 h3;subst h2;have hnr:L4 rows:=hob _ (by simp);obtain ⟨nx,c,w',F',ι',hrun,hnx,hrel⟩:=c5Y h (grp:=grp) ho hd hd1 (fun p hp=>hob p (by simp [hp]));refine ⟨nx,c,w',F',ι',hrun,hnx,?_⟩;have hu:o.upd=us.reverse++[((g,j),.deep b t sz n rows)]:=by
  have:=congrArg List.reverse hrev;simpa using this
 have happ:S.apply grp ob.dst o={S.upds o.upd with t:=N2 S.t ob.dst o.v}:=by
  unfold St.apply;rw [hnew];simp only [St.upds_t]
 rw [happ] at hrel;have hent:({S.upds o.upd with t:=N2 S.t ob.dst o.v}:St).ent g j=some (.deep b t sz n rows):=by
  show (S.upds o.upd).ent g j=_
  rw [hu,St.upds_append];obtain ⟨e1,he1⟩:=b7J (us:=us.reverse) he0;show ((S.upds us.reverse).setE g j _).ent g j=_
  rw [K3 he1];simp
 have hs:=hrel.shut hent hnr;rw [d49] at hs;unfold St.apply;simp only [St.upds_append,St.upds_t];exact hs
def a8u(cx:Cx)(grp ty len:Nat)(parts:List (Nat×V))(ck om:List (Option Nat)):i8 x8 :=
 match cx.T ty with
 | some ti=>match ti.sl with
  | some e=>match cx.T e with
   | some ei=>match parts with
    | [(0,x)]=>match x.cells with
     | some cs=>i8.bind (a0i ck om cs) fun f =>
      if len=1/\cs.length=ei.size/\ei.zero.length=ei.size/\0<ei.size/\ei.size<=16777216/\a1h f.ks=true/\f.ls.isEmpty=true then
       i8.pure {v:=.own grp 0 ei.size 0 1,new:=some [.deep false e ei.size 1 [f.v]],upd:=C5 f.ks,obl:=f.obl}
      else i8.no
     | none=>i8.no
    | [] =>
     if len=0/\ei.zero.length=ei.size/\0<ei.size/\ei.size<=16777216 then
      i8.pure {v:=.own grp 0 ei.size 0 0,new:=some [.deep false e ei.size 0 []]}
     else i8.no
    | _=>i8.no
   | none=>i8.no
  | none=>i8.no
 | none=>i8.no
theorem c8U{u:Value}{ds:Array Value}{sz:Nat}(hu:u.cells.size=sz)(hd:ds.size=sz):∃es:Array Value,Instr.fill (fun i=>some (i*sz,sz)) ds [(0,u)]=some es/\es.toList=u.cells.toList:=by
 have hout:=b5o u.cells.toList 0 (0*sz) ds (by simp only [Array.length_toList];omega);refine ⟨u.cells.toList.zipIdx.foldl (fun (cs:Array Value) (x:Value×Nat)=>cs.setIfInBounds (0*sz+x.2) x.1) ds,?_,?_⟩
 ·have hcond':(u.cells.size≠sz||0*sz+u.cells.size>ds.size)=false:=by
   simp [hu];omega
  simp only [Instr.fill,hcond'];simp only [e0v,if_false];congr 1
  rw [<-Array.foldl_toList,Array.toList_zipIdx]
 ·rw [hout,Nat.zero_mul,e01,b8s];simp only [Array.length_toList];omega
theorem c8a(h:p6 Γ F ι S a w){grp:Nat}(hg:grp<S.h.length)(hn:¬S.D grp){ob:Oper}{ty len:Nat}{parts:Array (Nat×Operand)}{ck om:List (Option Nat)}(ho:ob.op=.buildSlice ty len parts){out:x8}{lg:List (Nat×Nat)}(hp:a8u cx grp ty len (parts.toList.map fun (i,x)=>(i,n5 S.t x)) ck om S.ent=some (out,lg))(hob:∀p∈out.obl,p):N6 cx.P Γ ι S grp ob out a w:=by
 unfold a8u at hp;cases hti:cx.T ty with
 | none=>rw [hti] at hp;cases hp
 | some ti =>
 rw [hti] at hp;simp only at hp;cases hsl:ti.sl with
 | none=>rw [hsl] at hp;cases hp
 | some e =>
 rw [hsl] at hp;simp only at hp;cases hei:cx.T e with
 | none=>rw [hei] at hp;cases hp
 | some ei =>
 rw [hei] at hp;simp only at hp;have hrel:=b6J h.tmps parts.toList;generalize hpl:(parts.toList.map fun (i,x)=>(i,n5 S.t x))=pl at hp hrel;generalize hql:(parts.toList.map fun (i,x)=>(i,a.eval x))=ql at hrel;cases hrel with
 | nil =>
  simp only at hp;split at hp<;>try (cases hp;done)
  rename_i hcond;obtain ⟨rfl,hc2,hc3,hc4⟩:=hcond;have:=i8.pure_some hp;injection this with h3 h4;subst h3;obtain ⟨ti',d,z,htf⟩:=cx.tf hti;obtain ⟨ti2,d',z',hef⟩:=cx.tf hei;obtain rfl:=htf.isSl hsl;have hmd:(madeCells z'.cells (0*ei.size)) = #[]:=by simp [madeCells]
  have hrun:(execOp a.eval ob).run cx.P w=.ok (.value (.slice (some ⟨w.heap.size,0,none⟩) 0 0)) (w.alloc (.cells #[] e)):=by
   have:=b7c (w:=w) (len:=0) htf rfl hef (by omega) (qs:=parts.map fun (i,x)=>(i,a.eval x)) (es := #[]) (by rw [Array.toList_map,hql,hmd];rfl);simp [execOp,ho,this]
  have hgr:=a2W w (.cells #[] e);have hown:(w.alloc (.cells #[] e)).ownsRow 0 e ei.size (.slice (some ⟨w.heap.size,0,none⟩) 0 0) 0 [] :=
   ⟨by simp,.inr ⟨w.heap.size,0,#[],rfl,e0R _,a5M w _,d9K _,by simp,by simp,by simp⟩⟩
  obtain ⟨r1,r2⟩:=h.layDeep hg hn hgr (fun k q=>by cases q) (rows:=[]) (sv:=.slice (some ⟨w.heap.size,0,none⟩) 0 0) hown (show BL w F [].flatten [] [] from .nil) rfl (by simp) (by intro k hk;simp [z0] at hk;exact .inr (by omega)) (by simp) .nil;exact ⟨_,_,_,F,H4 ι grp (.slice (some ⟨w.heap.size,0,none⟩) 0 0),hrun,.inl rfl,r1.put ob.dst (.cell r2)⟩
 | @cons p q pl ql hpq ht =>
 obtain ⟨i,x⟩:=p;obtain ⟨i',u⟩:=q;obtain ⟨hii,hxu⟩:=hpq;simp only at hii hxu;subst hii;cases ht with
 | cons _ _=>cases i<;>cases hp
 | nil =>
 cases i with
 | succ i=>cases hp
 | zero =>
 simp only at hp;cases hcs:x.cells with
 | none=>rw [hcs] at hp;cases hp
 | some cs =>
 rw [hcs] at hp;obtain ⟨f,l1,l2,hf,hp',_⟩:=i8.bind_some hp;clear hp;split at hp'<;>try (cases hp';done)
 rename_i hcond;obtain ⟨rfl,hc1,hc2,hc3,hc4,hc5,hc6⟩:=hcond;have:=i8.pure_some hp';injection this with h3 h4;subst h3;obtain ⟨ti',d,z,htf⟩:=cx.tf hti;obtain ⟨ti2,d',z',hef⟩:=cx.tf hei;obtain rfl:=htf.isSl hsl;have hrc:=hxu.cells hcs;obtain ⟨fp,hbl,hfps,hh⟩:=a9u (F1:=F) h (fun _ x=>x) hrc hf hob (by rw [List.isEmpty_iff.1 hc6];intro id hid;cases hid);have hul:u.cells.size=ei.size:=by rw [<-hc1,hrc.length];simp
 have hzs:z'.cells.size=ei.size:=by rw [<-hc2,<-hef.zeros];simp
 have hmd:(madeCells z'.cells (1*ei.size)).size=ei.size:=by simp [madeCells]
 obtain ⟨es,hfill,hes⟩:=c8U (u:=u) (ds:=madeCells z'.cells (1*ei.size)) hul hmd;have hel:es.size=1*ei.size:=by
  have:=congrArg List.length hes;simp only [Array.length_toList] at this;omega
 have hrun:(execOp a.eval ob).run cx.P w=.ok (.value (.slice (some ⟨w.heap.size,0,none⟩) 1 1)) (w.alloc (.cells es e)):=by
  have:=b7c (w:=w) (len:=1) htf rfl hef (by omega) (qs:=parts.map fun (i,x)=>(i,a.eval x)) (es:=es) (by rw [Array.toList_map,hql];exact hfill);simp [execOp,ho,this]
 have hgr:=a2W w (.cells es e);have hown:(w.alloc (.cells es e)).ownsRow 0 e ei.size (.slice (some ⟨w.heap.size,0,none⟩) 1 1) 1 u.cells.toList:=by
  refine ⟨by simp only [Array.length_toList];omega,.inr ⟨w.heap.size,1,es,rfl,e0R _,a5M w _,d9K _,by unfold maxLen;omega,hel,?_⟩⟩;rw [hes,d99 (by simp only [Array.length_toList];omega)]
 have hkl:=h.killsR (fun id hid=>(hfps.live id hid).imp fun _ x=>x.1);have hnd:=H2.nodup h hfps (a2j hc5);have hgk:grp<(S.upds (C5 f.ks)).h.length:=by rw [St.upds_len];exact hg
 have hnk:¬(S.upds (C5 f.ks)).D grp:=fun q=>hn ((T9 S grp _).1 q)
 obtain ⟨r1,r2⟩:=hkl.layDeep hgk hnk hgr (fun k q=>by cases q) (rows:=[f.v]) (sv:=.slice (some ⟨w.heap.size,0,none⟩) 1 1) hown (by simpa using hbl) rfl (by
   intro r hr;rw [d9y.1 hr,hbl.len];simp only [Array.length_toList];exact hul) (by intro k hk;simp [z0] at hk;exact .inr (by omega)) (by
   intro k hk;obtain ⟨id,hid,e1,he1,hl1,hk1⟩:=hfps.mem hk;obtain ⟨x1,x2⟩:=h.sep _ _ _ k he1 hl1 hk1;refine ⟨x1,x2,?_,by simp⟩;intro g' j' e' he' hl' hk';rcases a57 _ he' with ⟨_,rfl⟩|⟨hni,he2⟩
   ·cases hl'
   ·obtain ⟨y1,y2⟩:=h.inj _ _ _ _ _ _ k he2 he1 hl' hl1 hk' hk1;exact hni (by rw [y1,y2];exact hid)) hnd
 exact ⟨_,_,_,F,H4 ι grp (.slice (some ⟨w.heap.size,0,none⟩) 1 1),hrun,.inl rfl,r1.put ob.dst (.cell r2)⟩
def a7N(cx:Cx)(grp ty:Nat)(s x:V):i8 x8 :=
 match cx.T ty with
 | some ti=>match ti.sl with
  | some e=>match cx.T e with
   | some ei=>match x with
    | .own g2 j2 sz2 0 m=>i8.bind (i8.rd g2 j2) fun e2=>match e2 with
     | .deep false t2 sz2' m' rows2 =>
      if t2=e/\sz2=ei.size/\sz2'=ei.size/\0<ei.size/\0<ei.bytes/\ei.zero.length=ei.size/\0<m' then
       match s with
       | .nil=>i8.pure {v:=.own grp 0 ei.size 0 m',new:=some [.deep false e ei.size m' rows2],upd:=C5 [(g2,j2)],obl:=[m=m',m'*ei.bytes<=140737488355328]}
       | .own g j sz 0 n=>i8.bind (i8.rd g j) fun e1=>match e1 with
        | .deep false t sz' n' rows =>
         if t=e/\sz=ei.size/\sz'=ei.size/\a1h [(g,j),(g2,j2)]=true then
          i8.pure {v:=.own grp 0 ei.size 0 (n'+m'),new:=some [.deep false e ei.size (n'+m') (rows++rows2)],upd:=C5 [(g,j),(g2,j2)],obl:=[n=n',(n'+m')*ei.bytes<=140737488355328,m=m']}
         else i8.no
        | _=>i8.no
       | _=>i8.no
      else i8.no
     | _=>i8.no
    | _=>i8.no
   | none=>i8.no
  | none=>i8.no
 | none=>i8.no
theorem b63{g j sz n e sz':Nat}{c:Value}{flat:List Value}(hs:RV w F S.D ι (.own g j sz 0 n) c)(hown:w.ownsRow 0 e sz' (ι g j) n flat):c=ι g j:=by
 obtain ⟨hD,⟨b,nn,cap,hι,hlo,hb0,hb1,hc⟩|⟨hl0',_⟩⟩:=hs.inv_own;case inr=>omega
 rcases hown.2 with ⟨hv,hz⟩|⟨g0,cap0,cur,hv,_⟩
 ·rw [hι] at hv;injection hv with e1 e2 e3;subst e1;subst e2;subst e3;subst hz;rw [hc,hι];simp
 ·rw [hι] at hv;injection hv with e1 e2 e3;subst e1;subst e2;subst e3;rw [hc,hι];by_cases q:cap=0
  ·simp [q]
  ·simp [q,Addr.add]
theorem c4u{P:Program}{ty e:Nat}{ti ei:TI}{i i':TypeInfo}{d d':TypeDesc}{z z':Value}(htf:TF P ty ti i d z)(hd:d=.slice e)(hef:TF P e ei i' d' z')(h0:0<ei.size)(hb0:0<ei.bytes)(hzl:ei.zero.length=ei.size){sv sv2:Value}{n m:Nat}{flat flat2:List Value}(hown:w.ownsRow 0 e ei.size sv n flat)(hown2:w.ownsRow 0 e ei.size sv2 m flat2)(hm:0<m)(hone:∀u∈flat2,u.oneCell'=true)(hb:(n+m)*ei.bytes<=140737488355328)(rt:Nat) :
  ∃v' w',(Builtin.append_ #[ty,ty] rt #[sv,sv2]).run P w=.ok v' w'/\w'.ownsRow 0 e ei.size v' (n+m) (flat++flat2)/\w.grownBy w' sv.ownBlock/\(v'.ownBlock=sv.ownBlock\/v'.ownBlock=some w.heap.size):=by
 subst hd;have hzs:z'.cells.size=ei.size:=by rw [<-hzl,<-hef.zeros];simp
 have hm63:n+m<=maxLen:=by
  have:n+m<=140737488355328:=Nat.le_trans (e0H _ hb0) hb;unfold maxLen;omega
 rcases hown2.2 with ⟨_,q⟩|⟨g2,cap2,cur2,rfl,_,hg2,hnc2,_,hcs2,ht2⟩
 ·omega
 ·have hseg:J4 w g2 0 flat2:=by
   rw [<-ht2];have:=(a3M hg2 0).take (m*ei.size);simpa using this
  obtain ⟨v',w',h1,h2,h3,_,h5⟩:=run_append_own_at (P:=P) w 0 ty rt e i' z' ei.size ei.bytes htf.und hef.info hef.zero hef.size hef.bytes hzs h0 sv n flat hown ⟨g2,0,none⟩ m cap2 flat2 hown2.1 (by
   intro j u hu;rw [a1j];exact hseg j u hu) hone hm63 hb (e0R _)
  exact ⟨v',w',h1,h2,h3,h5⟩
theorem BL.ones:∀{vs:List V} {cs:List Value} {f:List Nat},BL w F vs cs f->∀u∈cs,u.oneCell'=true
 | _,_,_,.cons v c f vs cs fs h t,u,hu=>by
  rcases d9z.1 hu with rfl|hu
  ·exact h.one
  ·exact BL.ones t u hu
theorem BL.app:∀{vs vs':List V} {cs cs':List Value} {f f':List Nat},BL w F vs cs f->BL w F vs' cs' f'->BL w F (vs++vs') (cs++cs') (f++f')
 | _,_,_,_,_,_,.nil,k=>k
 | _,_,_,_,_,_,.cons v c f vs cs fs h t,k=>by
  rw [d9N];exact .cons v c f _ _ _ h (BL.app t k)
theorem d4l(h:p6 Γ F ι S a w){grp:Nat}(hg:grp<S.h.length)(hn:¬S.D grp){ob:Oper}{ty:Nat}{s x:Operand}(ho:ob.op=.call {callee:=.builtin .append,args := #[s,x],argTypes := #[ty,ty]}){out:x8}{lg:List (Nat×Nat)}(hp:a7N cx grp ty (n5 S.t s) (n5 S.t x) S.ent=some (out,lg))(hob:∀p∈out.obl,p):N6 cx.P Γ ι S grp ob out a w:=by
 have hs:=A8 h.tmps s;have hx:=A8 h.tmps x;unfold a7N at hp;cases hti:cx.T ty with
 | none=>rw [hti] at hp;cases hp
 | some ti =>
 rw [hti] at hp;simp only at hp;cases hsl:ti.sl with
 | none=>rw [hsl] at hp;cases hp
 | some e =>
 rw [hsl] at hp;simp only at hp;cases hei:cx.T e with
 | none=>rw [hei] at hp;cases hp
 | some ei =>
 rw [hei] at hp;simp only at hp;obtain ⟨i,d,z,htf⟩:=cx.tf hti;obtain ⟨i',d',z',hef⟩:=cx.tf hei;have hd:=htf.isSl hsl;generalize n5 S.t s=sv at hp hs;generalize n5 S.t x=xv at hp hx;cases xv<;>try (cases hp;done)
 rename_i g2 j2 sz2 lo2 m;cases lo2 with
 | succ q=>cases hp
 | zero =>
 simp only at hp;obtain ⟨e2,l1,l2,hrd2,hp',_⟩:=i8.bind_some hp;clear hp;have he2:=(i8.rd_some hrd2).1;simp only at he2;cases e2<;>try (cases hp';done)
 rename_i o2 t2 sz2' m' rows2;cases o2 with
 | true=>cases hp'
 | false =>
 simp only at hp';split at hp'<;>try (cases hp';done)
 rename_i hcond;obtain ⟨rfl,rfl,rfl,hc3,hc4,hc5,hc6⟩:=hcond;obtain ⟨flat2,fs2,hown2,hkl2,hlen2,hl2,hnd2,hnr2⟩:=h.ents g2 j2 _ he2;have hbl2:=hkl2.toBL (hnr2 rfl).flatB;have hin2:∀k∈A9 (ι g2 j2)++fs2,EB w (.deep false t2 ei.size m' rows2) (ι g2 j2) k:=fun k hk=>(EB.deep_iff hown2 hkl2).2 hk
 cases sv<;>try (cases hp';done)
 case nil =>
  have:=i8.pure_some hp';injection this with h3 h4;subst h3;obtain hcs:=hs.inv_nil;have hmm:m=m':=hob _ (by simp);subst hmm;have hb:m*ei.bytes<=140737488355328:=hob _ (by simp);obtain ⟨v',w',hr,hown,hgr,hat⟩:=c4u htf hd hef hc3 hc4 hc5 (World.ownsRow_nil w 0 t2 ei.size) hown2 hc6 hbl2.ones (by simpa using hb) ob.type;have hxc:=b63 hx hown2;have hrun:(execOp a.eval ob).run cx.P w=.ok (.value v') w':=by
   simp [execOp,ho,resolve,invoke,builtin,hcs,hxc,hr]
  have hkl:=h.killsR (ks:=[(g2,j2)]) (fun id hid=>by rw [d9y.1 hid];exact ⟨_,he2⟩);have hgk:grp<(S.upds (C5 [(g2,j2)])).h.length:=by rw [St.upds_len];exact hg
  have hnk:¬(S.upds (C5 [(g2,j2)])).D grp:=fun q=>hn ((T9 S grp _).1 q)
  simp only [e0u,e0k] at hown;obtain ⟨r1,r2⟩:=hkl.layDeep hgk hnk hgr (fun k q=>by cases q) hown hbl2 hlen2 hl2 (by
   intro k hk;rw [<-a6D hown] at hk;rcases hat with q|q
   ·rw [q] at hk;cases hk
   ·rw [q] at hk;injection hk with hk;exact .inr (by omega)) (by
   intro k hk;have hk1:=hin2 k (List.mem_append.2 (.inr hk));obtain ⟨x1,x2⟩:=h.sep _ _ _ k he2 rfl hk1;refine ⟨x1,x2,?_,by intro q;cases q⟩;intro g' j' e' he' hl' hk';rcases a57 _ he' with ⟨_,rfl⟩|⟨hni,he3⟩
   ·cases hl'
   ·obtain ⟨y1,y2⟩:=h.inj _ _ _ _ _ _ k he3 he2 hl' rfl hk' hk1;exact hni (by rw [y1,y2];simp)) (d9A.1 hnd2).2.1
  exact ⟨_,_,_,F,H4 ι grp v',hrun,.inl rfl,r1.put ob.dst (.cell r2)⟩
 case own g j sz lo n =>
  cases lo with
  | succ q=>cases hp'
  | zero =>
  simp only at hp';obtain ⟨e1,l3,l4,hrd1,hp'',_⟩:=i8.bind_some hp';clear hp';have he1:=(i8.rd_some hrd1).1;simp only at he1;cases e1<;>try (cases hp'';done)
  rename_i o1 t1 sz1 n' rows;cases o1 with
  | true=>cases hp''
  | false =>
  simp only at hp'';split at hp''<;>try (cases hp'';done)
  rename_i hcond;obtain ⟨rfl,rfl,rfl,hnod⟩:=hcond;have:=i8.pure_some hp'';injection this with h3 h4;subst h3;have hnn:n=n':=hob _ (by simp);subst hnn;have hb:(n+m')*ei.bytes<=140737488355328:=hob _ (by simp);have hmm:m=m':=hob _ (by simp);subst hmm;obtain ⟨flat1,fs1,hown1,hkl1,hlen1,hl1,hnd1,hnr1⟩:=h.ents g j _ he1;have hbl1:=hkl1.toBL (hnr1 rfl).flatB;have hin1:∀k∈A9 (ι g j)++fs1,EB w (.deep false t1 ei.size n rows) (ι g j) k:=fun k hk=>(EB.deep_iff hown1 hkl1).2 hk
  have hne:¬(g=g2/\j=j2):=by
   have:=a2j hnod;rw [e0x] at this;intro q;exact this.1 (by rw [q.1,q.2];simp)
  obtain ⟨v',w',hr,hown,hgr,hat⟩:=c4u htf hd hef hc3 hc4 hc5 hown1 hown2 hc6 hbl2.ones hb ob.type;have hxc:=b63 hx hown2;have hsc:=b63 hs hown1;have hrun:(execOp a.eval ob).run cx.P w=.ok (.value v') w':=by
   simp [execOp,ho,resolve,invoke,builtin,hsc,hxc,hr]
  have hkl:=h.killsR (ks:=[(g,j),(g2,j2)]) (fun id hid=>by
   rcases d9z.1 hid with rfl|hid
   ·exact ⟨_,he1⟩
   ·rw [d9y.1 hid];exact ⟨_,he2⟩)
  have hgk:grp<(S.upds (C5 [(g,j),(g2,j2)])).h.length:=by rw [St.upds_len];exact hg
  have hnk:¬(S.upds (C5 [(g,j),(g2,j2)])).D grp:=fun q=>hn ((T9 S grp _).1 q)
  have hob1:∀k,(ι g j).ownBlock=some k->k∈A9 (ι g j):=fun k hk=>L2.2 (by rw [<-a6D hown1];exact hk)
  have free1:∀k∈A9 (ι g j)++fs1,∀g' j' e',(S.upds (C5 [(g,j),(g2,j2)])).ent g' j'=some e'->e'.live=true->¬EB w e' (ι g' j') k:=by
   intro k hk g' j' e' he' hl' hk';rcases a57 _ he' with ⟨_,rfl⟩|⟨hni,he3⟩
   ·cases hl'
   ·obtain ⟨y1,y2⟩:=h.inj _ _ _ _ _ _ k he3 he1 hl' rfl hk' (hin1 k hk);exact hni (by rw [y1,y2];simp)
  have free2:∀k∈A9 (ι g2 j2)++fs2,∀g' j' e',(S.upds (C5 [(g,j),(g2,j2)])).ent g' j'=some e'->e'.live=true->¬EB w e' (ι g' j') k:=by
   intro k hk g' j' e' he' hl' hk';rcases a57 _ he' with ⟨_,rfl⟩|⟨hni,he3⟩
   ·cases hl'
   ·obtain ⟨y1,y2⟩:=h.inj _ _ _ _ _ _ k he3 he2 hl' rfl hk' (hin2 k hk);exact hni (by rw [y1,y2];simp)
  have hdis:∀k,k∈A9 (ι g j)++fs1->k∈A9 (ι g2 j2)++fs2->False:=by
   intro k q1 q2;obtain ⟨y1,y2⟩:=h.inj _ _ _ _ _ _ k he1 he2 rfl rfl (hin1 k q1) (hin2 k q2);exact hne ⟨y1,y2⟩
  obtain ⟨r1,r2⟩:=hkl.layDeep hgk hnk hgr (fun k q=>by
   have hk:k∈A9 (ι g j)++fs1:=List.mem_append.2 (.inl (hob1 k q));obtain ⟨x1,x2⟩:=h.sep _ _ _ k he1 rfl (hin1 k hk);exact ⟨x1,x2,free1 k hk⟩) (rows:=rows++rows2) hown (by rw [e1c];exact hbl1.app hbl2) (by rw [d9E,hlen1,hlen2]) (by
   intro r hr';rcases List.mem_append.1 hr' with q|q
   ·exact hl1 r q
   ·exact hl2 r q) (by
   intro k hk;rw [<-a6D hown] at hk;rcases hat with q|q
   ·rw [q] at hk;exact .inl hk
   ·rw [q] at hk;injection hk with hk;exact .inr (by omega)) (by
   intro k hk;rcases List.mem_append.1 hk with q|q
   ·have hk1:k∈A9 (ι g j)++fs1:=List.mem_append.2 (.inr q);obtain ⟨x1,x2⟩:=h.sep _ _ _ k he1 rfl (hin1 k hk1);exact ⟨x1,x2,free1 k hk1,fun z=>(d9A.1 hnd1).2.2 k (hob1 k z) k q rfl⟩
   ·have hk2:k∈A9 (ι g2 j2)++fs2:=List.mem_append.2 (.inr q);obtain ⟨x1,x2⟩:=h.sep _ _ _ k he2 rfl (hin2 k hk2);exact ⟨x1,x2,free2 k hk2,fun z=>hdis k (List.mem_append.2 (.inl (hob1 k z))) hk2⟩) (by
   rw [d9A];exact ⟨(d9A.1 hnd1).2.1,(d9A.1 hnd2).2.1,fun k q k' q' z=>by
    subst z;exact hdis k (List.mem_append.2 (.inr q)) (List.mem_append.2 (.inr q'))⟩)
  exact ⟨_,_,_,F,H4 ι grp v',hrun,.inl rfl,r1.put ob.dst (.cell r2)⟩
end
structure I1 where
 a:J2:=.none
 d:Option Bool:=none
 v:Option V:=none
 e:Option n9:=none
def b3F(d:Option Bool)(o:x8):Option x8 :=
 match d with
 | some d=>match o.v with
  | .b x=>some {o with v:=.b d,obl:=(x=d)::o.obl}
  | _=>none
 | none=>some o
def b1b(v:Option V)(o:x8):Option x8 :=
 match v with
 | some v=>some {o with v:=v,obl:=(o.v=v)::o.obl}
 | none=>some o
def a89(e:n9):List ((Nat×Nat)×n9)->Option (List ((Nat×Nat)×n9)×Prop)
 | []=>none
 | [u]=>some ([(u.1,e)],u.2=e)
 | u::us=>match a89 e us with
  | some (us',p)=>some (u::us',p)
  | none=>none
def b21(e:Option n9)(o:x8):Option x8 :=
 match e with
 | some e=>match o.new with
  | some [e0]=>some {o with new:=some [e],obl:=(e0=e)::o.obl}
  | some _=>none
  | none=>match a89 e o.upd with
   | some (us,p)=>some {o with upd:=us,obl:=p::o.obl}
   | none=>none
 | none=>some o
def b5H(T:I1)(o:x8):Option x8 :=
 match b21 T.e o with
 | some o1=>match b1b T.v o1 with
  | some o2=>b3F T.d o2
  | none=>none
 | none=>none
def opM(cx:Cx)(grp:Nat)(ob:Oper)(t:List V)(A:J2):i8 x8 :=
 match ob.op with
 | .alloc e=>i8.lift (b5X cx grp e)
 | .box e x=>i8.lift (b3K cx grp e (n5 t x))
 | .buildSlice ty len parts=>match A with
  | .dck ck om=>a8u cx grp ty len (parts.toList.map fun (i,x)=>(i,n5 t x)) ck om
  | A=>a8q cx grp ty len (parts.toList.map fun (i,x)=>(i,n5 t x)) A
 | .makeSlice ty l c=>match A with
  | .dck ck om=>a7V cx grp ty (n5 t l) (n5 t c) ck om
  | A=>i8.lift (b62 cx grp ty (n5 t l) (n5 t c) (d7y A))
 | .load ty x=>match A with
  | .drow r=>a79 cx grp ty (n5 t x) r
  | .prow r=>a7I cx ty (n5 t x) r
  | .dtak r=>a88 cx grp ty (n5 t x) r
  | A=>a7r cx ty (n5 t x) A
 | .store ty x y=>match ob.dst with
  | none=>match A with
   | .dst r ck om=>a6f cx ty (n5 t x) (n5 t y) r ck om
   | .dsc r ck om=>a9q cx ty (n5 t x) (n5 t y) r ck om
   | A=>a8X cx ty (n5 t x) (n5 t y) A
  | some _=>i8.no
 | .makeMap ty none=>i8.lift (b4B cx grp ty)
 | .lookup ty x ix false=>a78 cx ty (n5 t x) (n5 t ix)
 | .mapUpdate ty x ix y=>match ob.dst with
  | none=>a8N cx ty (n5 t x) (n5 t ix) (n5 t y)
  | some _=>i8.no
 | .call c=>match c.callee,c.args.toList,c.argTypes.toList with
  | .builtin .append,[s,x],[ty,ty']=>if ty=ty' then (match A with
   | .dck _ _=>a7N cx grp ty (n5 t s) (n5 t x)
   | .part=>a59 true cx grp ty (n5 t s) (n5 t x)
   | _=>a59 false cx grp ty (n5 t s) (n5 t x)) else i8.no
  | .builtin .copy,[s,x],[ty,_]=>a9p cx ty (n5 t s) (n5 t x)
  | .value fop,args,_=>match n5 t fop with
   | .fn f=>a8k cx.P grp f (args.map (n5 t)) A
   | _=>i8.no
  | _,_,_=>i8.lift ((M9 cx ob.op t A).map fun q=>{v:=q.1,obl:=q.2})
 | _=>i8.lift ((M9 cx ob.op t A).map fun q=>{v:=q.1,obl:=q.2})
section
variable {cx:Cx} {Γ:J3} {F:Nat->Prop} {ι:Nat->Nat->Value} {S:St} {a:Act} {w:World}
def b40(P:Program)(Γ:J3)(S':St)(ob:Oper)(a:Act)(w:World):Prop :=
 (∃nx c w' F' ι',(execOp a.eval ob).run P w=.ok nx w'/\(nx=.value c\/(nx=.skip/\c=undef))/\p6 Γ F' ι' S' (a.put ob.dst c) w')\/
 (∃f args,(execOp a.eval ob).run P w=.ok (.enter f args) w/\Calls P f args w fun e w' => ∃c F' ι',e=.returned c/\p6 Γ F' ι' S' (a.put ob.dst c) w')
theorem d4A(h:p6 Γ F ι S a w){grp:Nat}(hg:grp<S.h.length)(hn:¬S.D grp){ob:Oper}{A:J2}{out:x8}{lg:List (Nat×Nat)}(hp:opM cx grp ob S.t A S.ent=some (out,lg))(hob:∀p∈out.obl,p):b40 cx.P Γ (S.apply grp ob.dst out) ob a w:=by
 have pure:∀{op:Op} {out:x8} {lg},ob.op=op->i8.lift ((M9 cx op S.t A).map fun q=>({v:=q.1,obl:=q.2}:x8)) S.ent=some (out,lg)->(∀p∈out.obl,p)->b40 cx.P Γ (S.apply grp ob.dst out) ob a w:=by
  intro op out lg hop hp hob;subst hop;obtain ⟨h1,_⟩:=i8.lift_some hp;obtain ⟨q,hq,he⟩:=e0J.1 h1;simp only at he;subst he;obtain ⟨c,hr,hv⟩:=d4t h.tmps hq hob;exact .inl ⟨_,c,w,F,ι,hr,.inl rfl,by rw [a39];exact h.put ob.dst hv⟩
 unfold opM at hp;cases ho:ob.op;case alloc e =>
  rw [ho] at hp;exact .inl (d8W h hg hn ho (i8.lift_some hp).1 hob)
 case box e x =>
  rw [ho] at hp;exact .inl (c6N h hg hn ho (i8.lift_some hp).1)
 case buildSlice ty len parts =>
  rw [ho] at hp;cases A;case dck ck om=>exact .inl (c8a h hg hn ho hp hob)
  all_goals exact .inl (d1m h hg hn ho hp hob)
 case makeSlice ty l c =>
  rw [ho] at hp;cases A;case dck ck om=>exact .inl (d34 h hg hn ho hp hob)
  all_goals exact .inl (c7Z h hg hn ho (i8.lift_some hp).1 hob)
 case load ty x =>
  rw [ho] at hp;cases A;case drow r=>exact .inl (d5B h hg hn ho hp hob)
  case prow r=>exact .inl (d4K h ho hp hob)
  case dtak r=>exact .inl (d2X h hg hn ho hp hob)
  all_goals exact .inl (d3z h ho hp hob)
 case store ty x y =>
  rw [ho] at hp;cases hd:ob.dst with
  | some d=>rw [hd] at hp;cases hp
  | none =>
   rw [hd] at hp;have:N6 cx.P Γ ι S grp ob out a w:=by
    cases A;case dst r ck om=>exact c5Y h (grp:=grp) ho hd hp hob
    case dsc r ck om=>exact d1S h (grp:=grp) ho hd hp hob
    all_goals exact d3x h (grp:=grp) ho hd hp hob
   rw [<-hd];exact .inl this
 case makeMap ty r =>
  rw [ho] at hp;cases r with
  | none=>exact .inl (d7g h hg hn ho (i8.lift_some hp).1)
  | some r=>exact pure ho hp hob
 case lookup ty x ix ok =>
  rw [ho] at hp;cases ok with
  | false=>exact .inl (c6K h ho hp)
  | true=>exact pure ho hp hob
 case mapUpdate ty x ix y =>
  rw [ho] at hp;cases hd:ob.dst with
  | some d=>rw [hd] at hp;cases hp
  | none =>
   rw [hd] at hp;have:N6 cx.P Γ ι S grp ob out a w:=d1F h (grp:=grp) ho hd hp;rw [<-hd];exact .inl this
 case call c =>
  rw [ho] at hp;obtain ⟨callee,args,tys⟩:=c;simp only at hp;cases callee with
  | invoke x m=>exact pure ho hp hob
  | value fop =>
   simp only at hp;generalize hfe:n5 S.t fop=fv at hp;cases fv<;>try (cases hp;done)
   rename_i f;obtain ⟨h1,h2⟩:=d4u h hg hn ho hfe hp hob;exact .inr ⟨f,_,h1,h2⟩
  | builtin b =>
   cases b;case append =>
    generalize hargs:args.toList=al at hp;generalize htys:tys.toList=tl at hp;rcases al with _|⟨s,_|⟨x,_|⟨y,al⟩⟩⟩<;>rcases tl with _|⟨ty,_|⟨ty',_|⟨ty3,tl⟩⟩⟩<;>try exact pure ho hp hob
    have ha:args = #[s,x]:=by simpa using congrArg e02 hargs
    have hy:tys = #[ty,ty']:=by simpa using congrArg e02 htys
    subst ha;subst hy;simp only at hp;by_cases q:ty=ty'
    ·subst q;rw [if_pos rfl] at hp;cases A;case dck ck om=>exact .inl (d4l h hg hn ho hp hob)
     all_goals exact .inl (c9S (rt:=0) h hg hn ho hp hob)
    ·rw [if_neg q] at hp;cases hp
   case copy =>
    generalize hargs:args.toList=al at hp;generalize htys:tys.toList=tl at hp;rcases al with _|⟨s,_|⟨x,_|⟨y,al⟩⟩⟩<;>rcases tl with _|⟨ty,_|⟨ty',_|⟨ty3,tl⟩⟩⟩<;>try exact pure ho hp hob
    have ha:args = #[s,x]:=by simpa using congrArg e02 hargs
    have hy:tys = #[ty,ty']:=by simpa using congrArg e02 htys
    subst ha;subst hy;exact .inl (d14 h ho hp hob)
   all_goals exact pure ho hp hob
 all_goals
  rw [ho] at hp;exact pure ho hp hob
theorem c5y{e:n9}:∀{us us':List ((Nat×Nat)×n9)} {p:Prop},a89 e us=some (us',p)->p->us'=us
 | [],_,_,h,_=>by cases h
 | [u],us',p,h,hp=>by
  unfold a89 at h;injection h with h;injection h with h1 h2;subst h1;subst h2;have:u.2=e:=hp;subst this;rfl
 | u::u2::us,us',p,h,hp=>by
  unfold a89 at h;split at h<;>try (cases h;done)
  rename_i us1 p1 h1;injection h with h;injection h with h2 h3;subst h2;subst h3;rw [c5y h1 hp]
theorem d69{d:Option Bool}{o o':x8}(hd:b3F d o=some o')(hob:∀p∈o'.obl,p):(∀p∈o.obl,p)/\o'.new=o.new/\o'.upd=o.upd/\o'.v=o.v:=by
 unfold b3F at hd;split at hd
 ·split at hd<;>try (cases hd;done)
  rename_i d _ x hv;injection hd with hd;subst hd;have hx:x=d:=hob _ (by simp);exact ⟨fun p hp=>hob p (by simp [hp]),rfl,rfl,by simp [hv,hx]⟩
 ·injection hd with hd;subst hd;exact ⟨hob,rfl,rfl,rfl⟩
theorem d4M{v:Option V}{o o':x8}(hd:b1b v o=some o')(hob:∀p∈o'.obl,p):(∀p∈o.obl,p)/\o'.new=o.new/\o'.upd=o.upd/\o'.v=o.v:=by
 unfold b1b at hd;split at hd
 ·rename_i v;injection hd with hd;subst hd;have hx:o.v=v:=hob _ (by simp);exact ⟨fun p hp=>hob p (by simp [hp]),rfl,rfl,hx.symm⟩
 ·injection hd with hd;subst hd;exact ⟨hob,rfl,rfl,rfl⟩
theorem d1q{e:Option n9}{o o':x8}(hd:b21 e o=some o')(hob:∀p∈o'.obl,p):(∀p∈o.obl,p)/\o'.new=o.new/\o'.upd=o.upd/\o'.v=o.v:=by
 unfold b21 at hd;split at hd
 ·rename_i e;split at hd
  ·rename_i e0 hn;injection hd with hd;subst hd;have hx:e0=e:=hob _ (by simp);exact ⟨fun p hp=>hob p (by simp [hp]),by rw [hn,hx],rfl,rfl⟩
  ·cases hd
  ·split at hd<;>try (cases hd;done)
   rename_i us p h1;injection hd with hd;subst hd;have hx:p:=hob _ (by simp);exact ⟨fun p hp=>hob p (by simp [hp]),rfl,c5y h1 hx,rfl⟩
 ·injection hd with hd;subst hd;exact ⟨hob,rfl,rfl,rfl⟩
theorem c9A{T:I1}{o o':x8}(hd:b5H T o=some o')(hob:∀p∈o'.obl,p):(∀p∈o.obl,p)/\o'.new=o.new/\o'.upd=o.upd/\o'.v=o.v:=by
 unfold b5H at hd;cases h1:b21 T.e o with
 | none=>rw [h1] at hd;cases hd
 | some o1 =>
 rw [h1] at hd;simp only at hd;cases h2:b1b T.v o1 with
 | none=>rw [h2] at hd;cases hd
 | some o2 =>
 rw [h2] at hd;obtain ⟨a1,a2,a3,a4⟩:=d69 hd hob;obtain ⟨b1,b2,b3,b4⟩:=d4M h2 a1;obtain ⟨c1,c2,c3,c4⟩:=d1q h1 b1;exact ⟨c1,a2.trans (b2.trans c2),a3.trans (b3.trans c3),a4.trans (b4.trans c4)⟩
def a5V(cx:Cx)(grp:Nat)(ob:Oper)(t:List V)(A:I1):i8 x8:=i8.bind (opM cx grp ob t A.a) fun o=>i8.lift (b5H A o)
theorem d7I{S:St}{grp:Nat}{dst:Option Nat}{o o':x8}(h1:o'.new=o.new)(h2:o'.upd=o.upd)(h3:o'.v=o.v):S.apply grp dst o'=S.apply grp dst o:=by
 unfold St.apply;rw [h1,h2,h3]
theorem c72(h:p6 Γ F ι S a w){grp:Nat}(hg:grp<S.h.length)(hn:¬S.D grp){ob:Oper}{A:I1}{out:x8}{lg:List (Nat×Nat)}(hp:a5V cx grp ob S.t A S.ent=some (out,lg))(hob:∀p∈out.obl,p):b40 cx.P Γ (S.apply grp ob.dst out) ob a w:=by
 obtain ⟨o,l1,l2,h1,h2,_⟩:=i8.bind_some hp;obtain ⟨h3,_⟩:=i8.lift_some h2;simp only at h3;obtain ⟨h4,h5,h6,h7⟩:=c9A h3 hob;rw [d7I h5 h6 h7];exact d4A h hg hn h1 h4
def a3o(ops:Array Oper)(o:Oper)(t:List V):Option Bool :=
 match o.guard with
 | none=>some true
 | some (j,want)=>match (ops[j]?).bind (·.dst) with
  | some d=>match t[d]? with
   | some (.b x)=>some (x==want)
   | some (.tup [])=>some false
   | _=>none
  | none=>none
theorem c4U{ops:Array Oper}{o:Oper}{b:Bool}{D:Nat->Prop}{t:List V}(ht:r7 (RV w F D ι) t a.tmps.toList)(h:a3o ops o t=some b):Region.wanted o (yielded ops a.tmps)=b:=by
 unfold a3o at h;unfold Region.wanted;split at h
 ·rename_i hg;rw [hg];injection h
 ·rename_i j want hg;rw [hg];simp only;cases hd:(ops[j]?).bind (·.dst) with
  | none=>rw [hd] at h;cases h
  | some d =>
   rw [hd] at h;simp only at h;split at h<;>try (cases h;done)
   rename_i x hx;injection h with h;obtain ⟨c,hc,hv⟩:=ht.get hx;obtain rfl:=hv.inv_b;have:yielded ops a.tmps j=some x:=by
    unfold yielded;simp only [hd];rw [Array.getElem?_toList] at hc;simp [hc]
   rw [this,<-h];cases x<;>cases want<;>rfl
   ·rename_i hx;injection h with h;obtain ⟨c,hc,hv⟩:=ht.get hx;have hcc:c=undef:=by
     cases hv with
     | one v c hv=>cases hv with|cell v c hv=>cases hv with|fv v c hv=>cases hv
     | tup cs ds hv=>cases hv;rfl
    subst hcc;have:yielded ops a.tmps j=none:=by
     unfold yielded;simp only [hd];rw [Array.getElem?_toList] at hc;simp [hc,undef]
    rw [this,<-h];rfl
end
structure T2 where
 rd:List (Nat×Nat)
 wr:List (Nat×Nat)
def R6(cx:Cx)(ops:Array Oper)(base:Nat)(A:Nat->I1)(i:Nat)(S:St):Option (St×List Prop×T2) :=
 match ops[i]? with
 | none=>none
 | some o=>match a3o ops o S.t with
  | some true=>match a5V cx (base+i) o S.t (A i) S.ent with
   | some (out,lg)=>some (S.apply (base+i) o.dst out,out.obl,⟨lg,out.upd.map (·.1)⟩)
   | none=>none
  | some false=>some ({S with t:=N2 S.t o.dst (.tup [])},[],⟨[],[]⟩)
  | none=>none
section
variable {cx:Cx} {Γ:J3} {F:Nat->Prop} {ι:Nat->Nat->Value} {S S':St} {a:Act} {w:World} {ops:Array Oper} {base:Nat} {A:Nat->I1}
theorem d8R{grp:Nat}{dst:Option Nat}{out:x8}{g:Nat}(h:(S.apply grp dst out).D g):S.D g\/g=grp:=by
 unfold St.apply at h;simp only at h;split at h
 ·exact .inl ((T9 S g _).1 h)
 ·rename_i new hnew;by_cases q:g=grp
  ·exact .inr q
  ·left
   obtain ⟨l,hl⟩:=h;simp only [St.lay,d9J (Ne.symm q)] at hl;exact (T9 S g _).1 ⟨l,hl⟩
theorem d0c{grp:Nat}{dst:Option Nat}{out:x8}:(S.apply grp dst out).h.length=S.h.length:=by
 unfold St.apply;simp only;split
 ·exact St.upds_len S _
 ·simp [St.lay,St.upds_len]
theorem c2w{i:Nat}{ps:List Prop}{ft:T2}(h:R6 cx ops base A i S=some (S',ps,ft)):(∀g,S'.D g->S.D g\/g=base+i)/\S'.h.length=S.h.length:=by
 unfold R6 at h;split at h<;>try (cases h;done)
 split at h<;>try (cases h;done)
 ·split at h<;>try (cases h;done)
  injection h with h;injection h with h1 h2;subst h1;exact ⟨fun g x=>d8R x,d0c⟩
 ·injection h with h;injection h with h1 h2;subst h1;exact ⟨fun g x=>.inl x,rfl⟩
theorem b9n{Q:Exit->Act->World->Prop}{K:Act->World->Prop}{i:Nat}{ps:List Prop}{ft:T2}(h:p6 Γ F ι S a w)(hg:base+i<S.h.length)(hn:¬S.D (base+i))(hs:R6 cx ops base A i S=some (S',ps,ft))(hob:∀p∈ps,p)(hK:∀a' w' F' ι',p6 Γ F' ι' S' a' w'->K a' w'):wpOp cx.P ops Q i K a w:=by
 unfold R6 at hs;unfold wpOp;split at hs<;>try (cases hs;done)
 rename_i o ho;rw [ho];simp only;split at hs<;>try (cases hs;done)
 ·rename_i hw;have hwant:=c4U h.tmps hw;rw [hwant];simp only [if_true];split at hs<;>try (cases hs;done)
  rename_i out lg hop;injection hs with hs;injection hs with h1 h2;injection h2 with h2 h3;subst h1;subst h2;left
  unfold Oper.wp;rcases c72 h hg hn hop hob with ⟨nx,c,w',F',ι',hr,hnx,hrel⟩|⟨f,args,hr,hcalls⟩
  ·rw [hr];rcases hnx with rfl|⟨rfl,rfl⟩
   ·exact hK _ _ _ _ hrel
   ·exact hK _ _ _ _ hrel
  ·rw [hr];refine hcalls.mono ?_;rintro e w' ⟨c,F',ι',rfl,hrel⟩
   exact hK _ _ _ _ hrel
 ·rename_i hw;have hwant:=c4U h.tmps hw;rw [hwant];simp only [e0v,if_false];injection hs with hs;injection hs with h1 h2;subst h1;exact hK _ _ _ _ (h.put o.dst (.tup [] [] .nil))
def Y6(cx:Cx)(ops:Array Oper)(base:Nat)(A:Nat->I1):List Nat->St->Option (St×List (List Prop×T2))
 | [],S=>some (S,[])
 | i::l,S=>match R6 cx ops base A i S with
  | some (S1,r)=>match Y6 cx ops base A l S1 with
   | some (S2,rs)=>some (S2,r::rs)
   | none=>none
  | none=>none
theorem a8U{i:Nat}{l:List Nat}{rs:List (List Prop×T2)}(h:Y6 cx ops base A (i::l) S=some (S',rs)):∃S1 r rs',R6 cx ops base A i S=some (S1,r)/\Y6 cx ops base A l S1=some (S',rs')/\rs=r::rs':=by
 unfold Y6 at h;split at h<;>try (cases h;done)
 rename_i S1 r h1;split at h<;>try (cases h;done)
 rename_i S2 rs' h2;injection h with h;injection h with h3 h4;subst h3;subst h4;exact ⟨S1,r,rs',h1,h2,rfl⟩
theorem c37{Q:Exit->Act->World->Prop}:∀{l:List Nat} {S:St} {F:Nat->Prop} {ι:Nat->Nat->Value} {a:Act} {w:World} {rs:List (List Prop×T2)},p6 Γ F ι S a w->l.Nodup->(∀i∈l,base+i<S.h.length/\¬S.D (base+i))->Y6 cx ops base A l S=some (S',rs)->(∀r∈rs,∀p∈r.1,p)->
  (∀a' w' F' ι',p6 Γ F' ι' S' a' w'->Q .normal a' w')->wpOps cx.P ops Q l a w
 | [],S,F,ι,a,w,rs,h,_,_,hr,_,hQ=>by
  unfold Y6 at hr;injection hr with hr;injection hr with h1 h2;subst h1;exact hQ _ _ _ _ h
 | i::l,S,F,ι,a,w,rs,h,hn,hfree,hr,hob,hQ=>by
  obtain ⟨S1,r,rs',h1,h2,rfl⟩:=a8U hr;rw [wpOps_cons];have hn':=e0x.1 hn;obtain ⟨hD,hl⟩:=c2w (ps:=r.1) (ft:=r.2) h1;refine b9n h (hfree i (by simp)).1 (hfree i (by simp)).2 (ps:=r.1) (ft:=r.2) h1 (hob r (by simp)) fun a' w' F' ι' hrel => ?_
  refine c37 hrel hn'.2 (fun j hj => ?_) h2 (fun r' hr'=>hob r' (by simp [hr'])) hQ;refine ⟨by rw [hl];exact (hfree j (by simp [hj])).1,fun x => ?_⟩;rcases hD _ x with y|y
  ·exact (hfree j (by simp [hj])).2 y
  ·have:i=j:=by omega
   exact hn'.1 (this▸hj)
end
def t0{α:Type}(m:i8 α):Prop := ∀(H H':Hp) r lg,m H=some (r,lg)->(∀id∈lg,H' id.1 id.2=H id.1 id.2)->m H'=some (r,lg)
namespace t0
variable {α β:Type}
theorem pure(a:α):t0 (i8.pure a):=fun _ _ _ _ h _=>h
theorem no:t0 (i8.no:i8 α):=fun _ _ _ _ h _=>h
theorem lift(o:Option α):t0 (i8.lift o):=by
 intro H H' r lg h _;unfold i8.lift at h ⊢;exact h
theorem rd(g j:Nat):t0 (i8.rd g j):=by
 intro H H' r lg h hH;obtain ⟨h1,h2⟩:=i8.rd_some h;simp only at h1 h2;subst h2;have:=hH (g,j) (by simp);unfold i8.rd;simp only at this;rw [this,h1]
theorem bind{m:i8 α}{f:α->i8 β}(hm:t0 m)(hf:∀a,t0 (f a)):t0 (i8.bind m f):=by
 intro H H' r lg h hH;obtain ⟨a,l,l',h1,h2,h3⟩:=i8.bind_some h;simp only at h2 h3;subst h3;unfold i8.bind;rw [hm H H' a l h1 (fun id hid=>hH id (List.mem_append.2 (.inl hid)))];simp only;rw [hf a H H' r l' h2 (fun id hid=>hH id (List.mem_append.2 (.inr hid)))]
theorem ite{c:Prop}[Decidable c]{m n:i8 α}(hm:t0 m)(hn:t0 n):t0 (if c then m else n):=by
 split<;>assumption
end t0
theorem d8U(ck:Option Nat)(v:V):t0 (fzP ck v):=by
 unfold fzP;cases v<;>try exact t0.no
 case own g j sz lo n =>
  refine .bind (.rd g j) fun e => ?_
  cases e<;>first|exact t0.no|exact .ite (.pure _) .no
 case nil=>cases ck<;>exact .pure _
 all_goals exact .pure _
theorem b5a:∀(vs:List V) (ck:List (Option Nat)),t0 (a8t ck vs)
 | [],ck=>by cases ck<;>exact .pure _
 | v::vs,ck=>.bind (d8U _ _) fun x=>.bind (b5a vs _) fun y=>.pure _
theorem c89(cx:Cx)(ty:Nat)(x:V)(A:J2):t0 (a7r cx ty x A):=by
 unfold a7r;cases cx.T ty with
 | none=>exact .no
 | some ti =>
  cases x<;>try exact t0.no
  case ptr g j off =>
   refine .bind (.rd g j) fun e => ?_
   cases e<;>try exact t0.no
   case var e cs=>simp only;cases N5 ti (cs.drop off)<;>first|exact .no|exact .pure _
   case arr e sz n rows=>exact .ite (.pure _) .no
  case eptr g j sz idx off =>
   refine .bind (.rd g j) fun e => ?_
   cases A<;>try exact t0.no
   case row r =>
    simp only;cases N5 ti (r.drop off) with
    | none=>exact .no
    | some v=>cases e<;>first|exact t0.no|exact .ite (.pure _) .no
  case fptr cs=>simp only;cases N5 ti cs<;>first|exact .no|exact .pure _
theorem d1Z(cx:Cx)(ty:Nat)(x y:V)(A:J2):t0 (a8X cx ty x y A):=by
 unfold a8X;cases cx.T ty with
 | none=>exact .no
 | some ti =>
  cases y.cells with
  | none=>exact .no
  | some vs =>
   cases x<;>try exact t0.no
   case ptr g j off =>
    refine .bind (.rd g j) fun e => ?_
    cases e<;>first|exact t0.no|exact .ite (.pure _) .no
   case eptr g j sz idx off =>
    refine .bind (.rd g j) fun e => ?_
    cases A<;>try exact t0.no
    case rowck r ck =>
     refine .bind (b5a _ _) fun f => ?_
     cases e<;>first|exact t0.no|exact .ite (.pure _) .no
theorem b8g(pt:Bool)(x:V):t0 (a5X pt x):=by
 unfold a5X;cases x<;>try first|exact t0.no|exact t0.pure _
 case own g j sz lo n =>
  refine .bind (.rd g j) fun e => ?_
  cases e<;>first|exact t0.no|exact .ite (.pure _) .no
theorem d2D(pt:Bool)(cx:Cx)(grp ty:Nat)(s x:V):t0 (a59 pt cx grp ty s x):=by
 unfold a59;cases cx.T ty with
 | none=>exact .no
 | some ti =>
  simp only;cases ti.sl with
  | none=>exact .no
  | some e =>
   simp only;cases cx.T e with
   | none=>exact .no
   | some ei =>
    refine .bind (b8g _ x) fun q=>.ite ?_ .no
    cases s<;>try first|exact t0.no|exact t0.pure _
    case own g j sz lo n =>
     cases lo with
     | succ k=>exact .no
     | zero =>
      refine .bind (.rd g j) fun e => ?_
      cases e<;>first|exact t0.no|exact .ite (.pure _) .no
theorem c8t(cx:Cx)(ty:Nat)(s x:V):t0 (a9p cx ty s x):=by
 unfold a9p;cases cx.T ty with
 | none=>exact .no
 | some ti =>
  simp only;cases ti.sl with
  | none=>exact .no
  | some e =>
   simp only;cases cx.T e with
   | none=>exact .no
   | some ei =>
    refine .bind (b8g _ x) fun q => ?_
    cases s<;>try exact t0.no
    case own g j sz lo n =>
     cases lo with
     | succ k=>exact .no
     | zero =>
      refine .bind (.rd g j) fun e => ?_
      cases e<;>first|exact t0.no|exact .ite (.pure _) .no
theorem c5i(ck:List (Option Nat)):∀ps:List (Nat×V),t0 (a63 ck ps)
 | []=>.pure _
 | (i,v)::ps=>by
  unfold a63;cases v.cells with
  | none=>exact .no
  | some cs=>exact .bind (b5a _ _) fun x=>.bind (c5i ck ps) fun y=>.pure _
theorem d12(cx:Cx)(grp ty len:Nat)(parts:List (Nat×V))(A:J2):t0 (a8q cx grp ty len parts A):=by
 unfold a8q;cases cx.T ty with
 | none=>exact .no
 | some ti =>
  simp only;cases ti.sl with
  | none=>exact .no
  | some e =>
   simp only;cases cx.T e with
   | none=>exact .no
   | some ei =>
    cases A<;>try exact t0.no
    case ck ck =>
     refine .bind (c5i _ _) fun q => ?_
     cases a3k ei.size (d9u len ei.zero) q.1 with
     | none=>exact .no
     | some rows=>exact .ite (.pure _) .no
theorem c5l(ck om:Option Nat)(v:V):t0 (N1 ck om v):=by
 unfold N1;cases om with
 | some e =>
  refine .ite (.pure _) ?_;cases v<;>try first|exact t0.no|exact t0.pure _
  case own g j sz lo n =>
   cases lo with
   | succ k=>exact .no
   | zero =>
    refine .bind (.rd g j) fun e => ?_
    cases e<;>first|exact t0.no|exact .ite (.pure _) .no|(rename_i o _ _ _ _;cases o<;>first|exact t0.no|exact .ite (.pure _) .no)
 | none =>
  cases v<;>try first|exact t0.no|exact t0.pure _
  case own g j sz lo n =>
   refine .bind (.rd g j) fun e => ?_
   cases e<;>first|exact t0.no|exact .ite (.pure _) .no|(rename_i o _ _ _ _;cases o<;>first|exact t0.no|exact .ite (.pure _) .no)
  case nil=>cases ck<;>exact .pure _
theorem a6P:∀(vs:List V) (ck om:List (Option Nat)),t0 (a0i ck om vs)
 | [],ck,om=>by cases ck<;>cases om<;>exact .pure _
 | v::vs,ck,om=>.bind (c5l _ _ _) fun x=>.bind (a6P vs _ _) fun y=>.pure _
theorem c8T(m:PM)(v:V):t0 (Y4 m v):=by
 unfold Y4;cases m with
 | val ck om =>
  cases v<;>try first|exact t0.no|exact c5l _ _ _
  case agg cs=>exact .bind (a6P _ _ _) fun x=>.pure _
 | ptr ck om =>
  cases v<;>try exact t0.no
  case ptr g j off =>
   cases off with
   | succ k=>exact .no
   | zero =>
    refine .bind (.rd g j) fun e => ?_
    cases e<;>try exact t0.no
    case var e cs=>exact .bind (a6P _ _ _) fun x=>.pure _
 | row =>
  cases v<;>try exact t0.no
  case own g j sz lo n =>
   cases lo with
   | succ k=>exact .no
   | zero =>
    refine .bind (.rd g j) fun e => ?_
    cases e<;>first|exact t0.no|exact .ite (.pure _) .no|(rename_i o _ _ _ _;cases o<;>first|exact t0.no|exact .ite (.pure _) .no)
 | part =>
  cases v<;>try exact t0.no
  case own g j sz lo n =>
   refine .bind (.rd g j) fun e => ?_
   cases e<;>first|exact t0.no|exact .ite (.pure _) .no|(rename_i o _ _ _ _;cases o<;>first|exact t0.no|exact .ite (.pure _) .no)
theorem c3c:∀(vs:List V) (ms:List PM),t0 (a0j ms vs)
 | [],ms=>by cases ms<;>exact .pure _
 | v::vs,[]=>.no
 | v::vs,m::ms=>.bind (c8T m v) fun x=>.bind (c3c vs ms) fun y=>.pure _
theorem b4w:∀ids:List (Nat×Nat),t0 (a2N ids)
 | []=>.pure _
 | (g,j)::ids=>by
  unfold a2N;refine .bind (.rd g j) fun e => ?_
  cases e<;>try exact t0.no
  case row t sz n rows=>exact .bind (b4w ids) fun us=>.pure _
  case deep o t sz n rows =>
   cases o
   ·exact .bind (b4w ids) fun us=>.pure _
   ·exact .no
theorem c1p(grp:Nat)(args:List V)(ms:List PM)(fr:Bool)(res:V)(outs:List (Option V))(p:List V->Prop):t0 (a5l grp args ms fr res outs p):=by
 unfold a5l;refine .bind (c3c _ _) fun r=>.bind (b4w _) fun fz => ?_
 simp only;cases M2 grp (E1 grp 0 res).2.length ms args outs with
 | none=>exact .no
 | some ue=>exact .ite (.pure _) .no
theorem d7q(P:Program)(grp f:Nat)(args:List V)(A:J2):t0 (a8k P grp f args A):=by
 unfold a8k;cases A<;>try exact t0.no
 case call ms fr res outs=>exact c1p _ _ _ _ _ _ _
 case callr k q ms fr res outs =>
  simp only;split
  ·split
   ·exact .bind (c1p _ _ _ _ _ _ _) fun o=>.pure _
   ·exact .no
  ·exact .no
theorem c4f(cx:Cx)(ty:Nat)(x y:V)(r:List V)(ck om:List (Option Nat)):t0 (a6f cx ty x y r ck om):=by
 unfold a6f;cases cx.T ty with
 | none=>exact .no
 | some ti =>
  cases y.cells with
  | none=>exact .no
  | some vs =>
   cases x<;>try exact t0.no
   case eptr g j sz idx off =>
    refine .bind (.rd g j) fun e=>.bind (a6P _ _ _) fun f => ?_
    cases e<;>try exact t0.no
    exact .ite (.pure _) .no
theorem d82(cx:Cx)(grp ty:Nat)(x:V)(r:List V):t0 (a79 cx grp ty x r):=by
 unfold a79;cases cx.T ty with
 | none=>exact .no
 | some ti =>
  cases x<;>try exact t0.no
  case eptr g j sz idx off =>
   refine .bind (.rd g j) fun e => ?_
   cases e<;>try exact t0.no
   simp only;refine .ite ?_ .no;cases N5 ti (G4 grp 0 ((r.drop off).take (if ti.agg=true then ti.size else 1))).1 with
   | none=>exact .no
   | some v=>exact .pure _
theorem d2y(cx:Cx)(grp ty:Nat)(x:V)(r:List V):t0 (a88 cx grp ty x r):=by
 unfold a88;cases cx.T ty with
 | none=>exact .no
 | some ti =>
  cases x<;>try exact t0.no
  case eptr g j sz idx off =>
   refine .bind (.rd g j) fun e => ?_
   cases e<;>try exact t0.no
   simp only;refine .ite ?_ .no;cases N5 ti (G4 grp 0 ((r.drop off).take (if ti.agg=true then ti.size else 1))).1 with
   | none=>exact .no
   | some v=>exact .pure _
theorem c8f(cx:Cx)(ty:Nat)(x y:V)(r:List V)(ck om:List (Option Nat)):t0 (a9q cx ty x y r ck om):=by
 unfold a9q;refine .bind (c4f _ _ _ _ _ _ _) fun o => ?_
 split
 ·exact .bind (.rd _ _) fun _=>.pure _
 ·exact .no
theorem c9C(cx:Cx)(ty:Nat)(x:V)(r:List V):t0 (a7I cx ty x r):=by
 unfold a7I;cases cx.T ty with
 | none=>exact .no
 | some ti =>
  cases x<;>try exact t0.no
  case eptr g j sz idx off =>
   refine .bind (.rd g j) fun e => ?_
   cases e<;>try exact t0.no
   simp only;refine .ite ?_ .no;cases N5 ti ((r.drop off).take (if ti.agg=true then ti.size else 1)) with
   | none=>exact .no
   | some v=>exact .pure _
theorem d8I(cx:Cx)(grp ty:Nat)(l c:V)(ck om:List (Option Nat)):t0 (a7V cx grp ty l c ck om):=by
 unfold a7V;cases cx.T ty with
 | none=>exact .no
 | some ti =>
  simp only;cases ti.sl with
  | none=>exact .no
  | some e =>
   simp only;cases cx.T e with
   | none=>exact .no
   | some ei =>
    cases l<;>try exact t0.no
    cases c<;>try exact t0.no
    exact .bind (a6P _ _ _) fun f=>.ite (.pure _) .no
theorem c63(cx:Cx)(grp ty len:Nat)(parts:List (Nat×V))(ck om:List (Option Nat)):t0 (a8u cx grp ty len parts ck om):=by
 unfold a8u;cases cx.T ty with
 | none=>exact .no
 | some ti =>
  simp only;cases ti.sl with
  | none=>exact .no
  | some e =>
   simp only;cases cx.T e with
   | none=>exact .no
   | some ei =>
    simp only;split
    ·split
     ·exact .bind (a6P _ _ _) fun f=>.ite (.pure _) .no
     ·exact .no
    ·exact .ite (.pure _) .no
    ·exact .no
theorem d35(cx:Cx)(grp ty:Nat)(s x:V):t0 (a7N cx grp ty s x):=by
 unfold a7N;cases cx.T ty with
 | none=>exact .no
 | some ti =>
  simp only;cases ti.sl with
  | none=>exact .no
  | some e =>
   simp only;cases cx.T e with
   | none=>exact .no
   | some ei =>
    simp only;split
    ·refine .bind (.rd _ _) fun e2 => ?_
     split
     ·refine .ite ?_ .no;split
      ·exact .pure _
      ·refine .bind (.rd _ _) fun e1 => ?_
       split
       ·exact .ite (.pure _) .no
       ·exact .no
      ·exact .no
     ·exact .no
    ·exact .no
theorem d3V(cx:Cx)(ty:Nat)(x ix:V):t0 (a78 cx ty x ix):=by
 unfold a78;cases cx.M ty with
 | none=>exact .no
 | some q =>
  obtain ⟨kt,m,z⟩:=q;cases x<;>try exact t0.no
  cases ix<;>try exact t0.no
  rename_i g j ks;simp only;cases a0z ks with
  | none=>exact .no
  | some xs =>
   refine .bind (.rd g j) fun e => ?_
   cases e<;>try exact t0.no
   exact .ite (.pure _) .no
theorem c96(cx:Cx)(ty:Nat)(x ix y:V):t0 (a8N cx ty x ix y):=by
 unfold a8N;cases cx.M ty with
 | none=>exact .no
 | some q =>
  obtain ⟨kt,m,z⟩:=q;cases x<;>try exact t0.no
  cases ix<;>try exact t0.no
  rename_i g j ks;simp only;cases a0z ks with
  | none=>exact .no
  | some xs =>
   refine .bind (.rd g j) fun e => ?_
   cases e<;>try exact t0.no
   exact .ite (.pure _) .no
theorem d4T(cx:Cx)(grp:Nat)(ob:Oper)(t:List V)(A:J2):t0 (opM cx grp ob t A):=by
 unfold opM;cases ob.op<;>try exact t0.lift _
 case buildSlice ty len parts=>cases A<;>first|exact c63 _ _ _ _ _ _ _|exact d12 _ _ _ _ _ _
 case makeSlice ty l c=>cases A<;>first|exact d8I _ _ _ _ _ _ _|exact t0.lift _
 case load ty x=>cases A<;>first|exact d82 _ _ _ _ _|exact d2y _ _ _ _ _|exact c9C _ _ _ _|exact c89 _ _ _ _
 case store ty x y =>
  cases ob.dst
  ·cases A<;>first|exact c4f _ _ _ _ _ _ _|exact c8f _ _ _ _ _ _ _|exact d1Z _ _ _ _ _
  ·exact .no
 case makeMap ty r=>cases r<;>exact t0.lift _
 case lookup ty x ix ok=>cases ok<;>first|exact d3V _ _ _ _|exact t0.lift _
 case mapUpdate ty x ix y =>
  cases ob.dst
  ·exact c96 _ _ _ _ _
  ·exact .no
 case call c =>
  obtain ⟨callee,args,tys⟩:=c;simp only;split
  ·refine .ite ?_ .no;cases A<;>first|exact d35 _ _ _ _ _|exact d2D _ _ _ _ _ _
  ·exact c8t _ _ _ _
  ·cases n5 t _<;>first|exact d7q _ _ _ _ _|exact t0.no
  ·exact .lift _
theorem c7U(cx:Cx)(grp:Nat)(ob:Oper)(t:List V)(A:I1):t0 (a5V cx grp ob t A):=.bind (d4T _ _ _ _ _) fun o=>.lift _
theorem c38{t t':List V}:∀{xs:List Operand},(∀x∈xs,n5 t' x=n5 t x)->xs.map (n5 t')=xs.map (n5 t)
 | [],_=>rfl
 | x::xs,h=>by simp only [d9R];rw [h x (by simp),c38 fun y hy=>h y (by simp [hy])]
theorem b4d{t t':List V}:∀{ps:List (Nat×Operand)},(∀x∈ps.map (·.2),n5 t' x=n5 t x)->(ps.map fun (i,x)=>(i,n5 t' x))=(ps.map fun (i,x)=>(i,n5 t x))
 | [],_=>rfl
 | p::ps,h=>by
  simp only [d9R];rw [h p.2 (by simp),b4d fun y hy=>h y (by simp [hy])]
theorem c4W{t t':List V}{o:Option Operand}(h:∀x∈o.toList,n5 t' x=n5 t x):o.map (n5 t')=o.map (n5 t):=by
 cases o with
 | none=>rfl
 | some x=>simp only [e0b];rw [h x (by simp)]
theorem d43{cx:Cx}{op:Op}{t t':List V}{A:J2}(h:∀x∈op.operands.toList,n5 t' x=n5 t x):M9 cx op t' A=M9 cx op t A:=by
 cases op<;>try rfl
 case makeFunc fn first captured=>cases fn<;>rfl
 case move x=>simp only [M9];rw [h x (by simp [Op.operands])]
 case assign x=>simp only [M9];rw [h x (by simp [Op.operands])]
 case pick c x y=>simp only [M9];rw [h c (by simp [Op.operands]),h x (by simp [Op.operands]),h y (by simp [Op.operands])]
 case nilCheck x=>simp only [M9];rw [h x (by simp [Op.operands])]
 case binOp o ty x y ty'=>simp only [M9];rw [h x (by simp [Op.operands]),h y (by simp [Op.operands])]
 case unOp o ty x=>simp only [M9];rw [h x (by simp [Op.operands])]
 case convert s d x=>simp only [M9];rw [h x (by simp [Op.operands])]
 case extract x k=>simp only [M9];rw [h x (by simp [Op.operands])]
 case field ty x f=>simp only [M9];rw [h x (by simp [Op.operands])]
 case fieldAddr ty x f=>simp only [M9];rw [h x (by simp [Op.operands])]
 case build ty parts=>simp only [M9];rw [b4d (by simpa [Op.operands] using h)]
 case indexAddr ty x y=>simp only [M9];rw [h x (by simp [Op.operands]),h y (by simp [Op.operands])]
 case index ty x y=>simp only [M9];rw [h x (by simp [Op.operands]),h y (by simp [Op.operands])]
 case slice ty x lo hi mx =>
  cases mx with
  | some m=>rfl
  | none =>
   simp only [M9];rw [h x (by simp [Op.operands]),c4W (o:=lo) (fun y hy=>h y (by simp [Op.operands] at hy ⊢;simp [hy])),c4W (o:=hi) (fun y hy=>h y (by simp [Op.operands] at hy ⊢;simp [hy]))]
 case call c =>
  obtain ⟨callee,args,tys⟩:=c;simp only [M9];cases callee with
  | value x=>rfl
  | invoke x m=>rfl
  | builtin b =>
   have ha:∀x∈args.toList,n5 t' x=n5 t x:=fun x hx=>h x (by simpa [Op.operands,Call.operands] using hx)
   cases b<;>try rfl
   all_goals
    generalize args.toList=al at ha;generalize tys.toList=tl;rcases al with _|⟨s,_|⟨x,_|⟨y,al⟩⟩⟩<;>rcases tl with _|⟨ty,_|⟨ty',tl⟩⟩<;>try rfl
    all_goals simp only [ha s (by simp)]
    all_goals try simp only [ha x (by simp)]
theorem c6M{cx:Cx}{grp:Nat}{ob:Oper}{t t':List V}{A:J2}(h:∀x∈ob.op.operands.toList,n5 t' x=n5 t x):opM cx grp ob t' A=opM cx grp ob t A:=by
 have hp:=d43 (cx:=cx) (A:=A) h;unfold opM;cases ho:ob.op<;>rw [ho] at h hp<;>simp only [hp]
 case box e x=>rw [h x (by simp [Op.operands])]
 case buildSlice ty len parts=>rw [b4d (by simpa [Op.operands] using h)]
 case makeSlice ty l c=>rw [h l (by simp [Op.operands]),h c (by simp [Op.operands])]
 case load ty x=>rw [h x (by simp [Op.operands])]
 case store ty x y=>rw [h x (by simp [Op.operands]),h y (by simp [Op.operands])]
 case makeMap ty r=>cases r<;>simp only [hp]
 case lookup ty x ix ok =>
  have h1:=h x (by simp [Op.operands]);have h2:=h ix (by simp [Op.operands]);cases ok<;>simp only [hp,h1,h2]
 case mapUpdate ty x ix y=>rw [h x (by simp [Op.operands]),h ix (by simp [Op.operands]),h y (by simp [Op.operands])]
 case call c =>
  obtain ⟨callee,args,tys⟩:=c;cases callee with
  | invoke x m=>rfl
  | value fop =>
   have h1:n5 t' fop=n5 t fop:=h fop (by simp [Op.operands,Call.operands]);have h2:args.toList.map (n5 t')=args.toList.map (n5 t):=c38 fun x hx=>h x (by simp [Op.operands,Call.operands] at hx ⊢;simp [hx])
   simp only [h1,h2]
  | builtin b =>
   have ha:∀x∈args.toList,n5 t' x=n5 t x:=fun x hx=>h x (by simpa [Op.operands,Call.operands] using hx)
   cases b<;>try rfl
   all_goals
    generalize args.toList=al at ha;generalize tys.toList=tl;rcases al with _|⟨s,_|⟨x,_|⟨y,al⟩⟩⟩<;>rcases tl with _|⟨ty,_|⟨ty',_|⟨ty3,tl⟩⟩⟩<;>try rfl
    all_goals simp only [ha s (by simp),ha x (by simp)]
theorem b9B{t:List V}{dst:Option Nat}{v:V}{x:Operand}(h:∀d,dst=some d->x ≠ .tmp d):n5 (N2 t dst v) x=n5 t x:=by
 cases dst with
 | none=>rfl
 | some d =>
  cases x with
  | tmp k =>
   have:d≠k:=fun q=>h d rfl (by rw [q])
   simp [n5,N2,d9J this]
  | _=>rfl
theorem d00{S:St}{g j g' j':Nat}{e e':n9}(h:¬(g=g'/\j=j')):(S.setE g j e).setE g' j' e'=(S.setE g' j' e').setE g j e:=by
 by_cases q:g=g'
 ·subst q;have hj:j≠j':=fun z=>h ⟨rfl,z⟩
  cases hx:S.h[g]? with
  | none=>unfold St.setE;simp [hx]
  | some o=>cases o with
   | none=>unfold St.setE;simp [hx]
   | some l =>
    have hlt:=(d9x.1 hx).1;rw [a02 hx,a02 hx,a02 (l:=l.set j e) (by simp [hlt]),a02 (l:=l.set j' e') (by simp [hlt])];simp only [List.set_set];rw [List.set_comm _ _ hj]
 ·unfold St.setE;cases hx:S.h[g]? with
  | none =>
   cases hy:S.h[g']? with
   | none=>simp [hx,hy]
   | some o=>cases o with
    | none=>simp [hx,hy]
    | some l=>simp [hx,hy,d9J (Ne.symm q)]
  | some o=>cases o with
   | none =>
    cases hy:S.h[g']? with
    | none=>simp [hx,hy]
    | some o=>cases o with
     | none=>simp [hx,hy]
     | some l=>simp [hx,hy,d9J (Ne.symm q)]
   | some l =>
    cases hy:S.h[g']? with
    | none=>simp [hx,hy,d9J q]
    | some o=>cases o with
     | none=>simp [hx,hy,d9J q]
     | some l'=>simp [hx,hy,d9J q,d9J (Ne.symm q),List.set_comm _ _ q]
theorem b9D{g j:Nat}{e:n9}:∀{us:List J1} {S:St},(∀u∈us,¬(g=u.1.1/\j=u.1.2))->(S.setE g j e).upds us=(S.upds us).setE g j e
 | [],_,_=>rfl
 | ((g',j'),e')::us,S,h=>by
  simp only [St.upds];rw [d00 (h ((g',j'),e') (by simp)),b9D fun u hu=>h u (by simp [hu])]
theorem a9L:∀{us vs:List J1} {S:St},(∀u∈us,∀v∈vs,u.1≠v.1)->(S.upds us).upds vs=(S.upds vs).upds us
 | [],_,_,_=>rfl
 | ((g,j),e)::us,vs,S,h=>by
  simp only [St.upds];rw [a9L fun u hu=>h u (by simp [hu]),b9D fun v hv q=>h ((g,j),e) (by simp) v hv (Prod.ext q.1 q.2)]
theorem c9x{S:St}{g g':Nat}{n n':List n9}(h:g≠g'):(S.lay g n).lay g' n'=(S.lay g' n').lay g n:=by
 simp [St.lay,List.set_comm _ _ h]
theorem d2I{t:List V}{d d':Option Nat}{v v':V}(h:∀k,d=some k->d'≠some k):N2 (N2 t d v) d' v'=N2 (N2 t d' v') d v:=by
 cases d with
 | none=>rfl
 | some k=>cases d' with
  | none=>rfl
  | some k' =>
   have:k≠k':=fun q=>h k rfl (by rw [q])
   simp [N2,List.set_comm _ _ this]
def a11(S:St)(t:List V):St:={S with t:=t}
def hp(S:St)(grp:Nat)(o:x8):St:=match o.new with
 | none=>S.upds o.upd
 | some new=>(S.upds o.upd).lay grp new
theorem b7M(S:St)(grp:Nat)(dst:Option Nat)(o:x8):S.apply grp dst o=a11 (hp S grp o) (N2 S.t dst o.v):=by
 unfold St.apply hp a11;cases o.new with
 | none=>simp only [St.upds_t]
 | some new=>simp only [St.lay,St.upds_t]
theorem d3Q(S:St)(t:List V)(g j:Nat)(e:n9):(a11 S t).setE g j e=a11 (S.setE g j e) t:=by
 unfold a11 St.setE;simp only;split<;>rfl
theorem b41(t:List V):∀(us:List J1) (S:St),(a11 S t).upds us=a11 (S.upds us) t
 | [],_=>rfl
 | ((g,j),e)::us,S=>by simp only [St.upds];rw [d3Q,b41]
theorem c7F(S:St)(t:List V)(grp:Nat)(o:x8):hp (a11 S t) grp o=a11 (hp S grp o) t:=by
 unfold hp;cases o.new with
 | none=>simp only [b41]
 | some new=>simp only [b41];rfl
theorem c6z{S:St}{g g':Nat}{o o':x8}(hg:g≠g')(h1:∀u∈o.upd,∀v∈o'.upd,u.1≠v.1)(h2:∀u∈o.upd,u.1.1≠g')(h3:∀u∈o'.upd,u.1.1≠g):hp (hp S g o) g' o'=hp (hp S g' o') g o:=by
 unfold hp;cases o.new with
 | none=>cases o'.new with
  | none=>simp only;exact a9L h1
  | some n'=>simp only;rw [<-a61 o.upd _ h2,a9L h1]
 | some n=>cases o'.new with
  | none=>simp only;rw [<-a61 o'.upd _ h3,a9L h1]
  | some n' =>
   simp only;rw [<-a61 o'.upd _ h3,<-a61 o.upd _ h2,a9L h1,c9x hg]
theorem c7p{S:St}{grp:Nat}{o:x8}{g j:Nat}(h1:g≠grp)(h2:∀u∈o.upd,u.1≠(g,j)):(hp S grp o).ent g j=S.ent g j:=by
 have:(S.upds o.upd).ent g j=S.ent g j:=by
  refine b0U ?_;unfold a5R;rw [List.all_eq_true];intro u hu;have:=h2 u hu;simp only [d9T,Bool.and_eq_false_iff,beq_eq_false_iff_ne];by_cases q:g=u.1.1
  ·right
   intro z;exact this (Prod.ext q.symm z.symm)
  ·exact .inl q
 unfold hp;cases o.new with
 | none=>exact this
 | some new=>simp only;rw [a4s h1];exact this
section
variable {cx:Cx} {ops:Array Oper} {base:Nat} {A:Nat->I1}
theorem c1J{i:Nat}{S S':St}{ps:List Prop}{ft:T2}(h:R6 cx ops base A i S=some (S',ps,ft)):∃o out,ops[i]?=some o/\S'=S.apply (base+i) o.dst out/\ft.wr=out.upd.map (·.1)/\
  ∀T:St,(∀x∈o.op.operands.toList,n5 T.t x=n5 S.t x)->a3o ops o T.t=a3o ops o S.t->(∀id∈ft.rd,T.ent id.1 id.2=S.ent id.1 id.2)->R6 cx ops base A i T=some (T.apply (base+i) o.dst out,ps,ft):=by
 unfold R6 at h;split at h<;>try (cases h;done)
 rename_i o ho;split at h<;>try (cases h;done)
 ·rename_i hw;split at h<;>try (cases h;done)
  rename_i out lg hop;injection h with h;injection h with h1 h2;injection h2 with h2 h3;subst h1;subst h2;subst h3;refine ⟨o,out,ho,rfl,rfl,?_⟩;intro T hx hwT hent;have hst:a5V cx (base+i) o T.t (A i)=a5V cx (base+i) o S.t (A i):=by
   unfold a5V;rw [c6M hx]
  have:=c7U cx (base+i) o S.t (A i) S.ent T.ent out lg hop hent;unfold R6;rw [ho];simp only [hwT,hw,hst,this]
 ·rename_i hw;injection h with h;injection h with h1 h2;injection h2 with h2 h3;subst h1;subst h2;subst h3;refine ⟨o,{v:=.tup []},ho,rfl,rfl,?_⟩;intro T hx hwT hent;unfold R6;rw [ho];simp only [hwT,hw];rfl
structure Ind(ops:Array Oper)(base:Nat)(x i:Nat)(f1 f2:T2):Prop where
 ne:x≠i
 apart:∀o1 o2,ops[x]?=some o1->ops[i]?=some o2->o1.apart ops o2=true
 w1:∀id∈f1.wr,id ∉ f2.rd/\id ∉ f2.wr
 w2:∀id∈f2.wr,id ∉ f1.rd
 g1:∀id∈f2.rd++f2.wr,id.1≠base+x
 g2:∀id∈f1.rd++f1.wr,id.1≠base+i
theorem c3H{o:Oper}{x:Operand}(hx:x∈o.op.operands.toList){d:Nat}(hd:d ∉ o.looksAt ops):x ≠ .tmp d:=by
 intro q;subst q;apply hd;unfold Oper.looksAt;exact List.mem_append.2 (.inl (List.mem_filterMap.2 ⟨_,hx,rfl⟩))
theorem c5Q{o:Oper}{t:List V}{dst:Option Nat}{v:V}(hd:∀d,dst=some d->d ∉ o.looksAt ops):a3o ops o (N2 t dst v)=a3o ops o t:=by
 unfold a3o;split
 ·rfl
 ·rename_i j want hg;cases hj:(ops[j]?).bind (·.dst) with
  | none=>rfl
  | some d =>
   simp only;cases dst with
   | none=>rfl
   | some k =>
    have hk:k≠d:=by
     intro q;subst q;apply hd k rfl;unfold Oper.looksAt;rw [hg];exact List.mem_append.2 (.inr (by simp [hj]))
    simp only [N2,d9J hk]
theorem b2y{S:St}{grp:Nat}{dst:Option Nat}{o:x8}:(S.apply grp dst o).t=N2 S.t dst o.v:=by rw [b7M];rfl
theorem c4y{S:St}{grp:Nat}{dst:Option Nat}{o:x8}{g j:Nat}(h1:g≠grp)(h2:(g,j) ∉ o.upd.map (·.1)):(S.apply grp dst o).ent g j=S.ent g j:=by
 rw [b7M];show (hp S grp o).ent g j=_
 exact c7p h1 fun u hu q=>h2 (List.mem_map.2 ⟨u,hu,q⟩)
theorem d4x{x i:Nat}{S S1 S2:St}{p1 p2:List Prop}{f1 f2:T2}(hx:R6 cx ops base A x S=some (S1,p1,f1))(hi:R6 cx ops base A i S1=some (S2,p2,f2))(h:Ind ops base x i f1 f2) :
  ∃S1',R6 cx ops base A i S=some (S1',p2,f2)/\R6 cx ops base A x S1'=some (S2,p1,f1):=by
 obtain ⟨o1,out1,ho1,rfl,hw1,hr1⟩:=c1J hx;obtain ⟨o2,out2,ho2,rfl,hw2,hr2⟩:=c1J hi;obtain ⟨a1,a2,a3⟩:=Oper.apart_spec (h.apart o1 o2 ho1 ho2);have e1:=hr2 S (fun z hz=>by rw [b2y,b9B fun d hd=>c3H (ops:=ops) hz (a1 d hd)]) (by rw [b2y,c5Q a1]) (fun id hid=>by
  refine (c4y (h.g1 id (List.mem_append.2 (.inl hid))) ?_).symm;rw [<-hw1];exact fun q=>(h.w1 id q).1 hid)
 refine ⟨_,e1,?_⟩;have e2:=hr1 (S.apply (base+i) o2.dst out2) (fun z hz=>by rw [b2y,b9B fun d hd=>c3H (ops:=ops) hz (a3 d hd)]) (by rw [b2y,c5Q a3]) (fun id hid=>by
  refine c4y (h.g2 id (List.mem_append.2 (.inl hid))) ?_;rw [<-hw2];exact fun q=>h.w2 id q hid)
 rw [e2];congr 2
 simp only [b7M,c7F];have hh:hp (hp S (base+x) out1) (base+i) out2=hp (hp S (base+i) out2) (base+x) out1:=by
  refine c6z (fun q=>h.ne (by omega)) ?_ ?_ ?_
  ·intro u hu v hv q;have m1:u.1∈f1.wr:=by rw [hw1];exact List.mem_map.2 ⟨u,hu,rfl⟩
   have m2:v.1∈f2.wr:=by rw [hw2];exact List.mem_map.2 ⟨v,hv,rfl⟩
   exact (h.w1 _ m1).2 (q▸m2)
  ·intro u hu;exact h.g2 _ (List.mem_append.2 (.inr (by rw [hw1];exact List.mem_map.2 ⟨u,hu,rfl⟩)))
  ·intro u hu;exact h.g1 _ (List.mem_append.2 (.inr (by rw [hw2];exact List.mem_map.2 ⟨u,hu,rfl⟩)))
 rw [hh];unfold a11;simp only;rw [d2I (fun k hk q=>a2 k hk q)]
abbrev Rc:=Nat->List Prop×T2
theorem b8p{rc:Rc}{i:Nat}:∀{l m:List Nat} {S S':St},(∀x∈l,Ind ops base x i (rc x).2 (rc i).2)->Y6 cx ops base A (l++i::m) S=some (S',(l++i::m).map rc)->Y6 cx ops base A (i::(l++m)) S=some (S',(i::(l++m)).map rc)
 | [],m,S,S',_,h=>h
 | x::l,m,S,S',hind,h=>by
  obtain ⟨S1,r,rs,h1,h2,h3⟩:=a8U h;simp only [e0V,d9R] at h3;injection h3 with h3 h4;subst h3;subst h4;have h5:=b8p (fun y hy=>hind y (by simp [hy])) h2;obtain ⟨S2,r2,rs2,h6,h7,h8⟩:=a8U h5;simp only [d9R] at h8;injection h8 with h8 h9;subst h8;subst h9;obtain ⟨S1',e1,e2⟩:=d4x (p1:=(rc x).1) (f1:=(rc x).2) (p2:=(rc i).1) (f2:=(rc i).2) h1 h6 (hind x (by simp));have e2':R6 cx ops base A x S1'=some (S2,rc x):=e2;have e1':R6 cx ops base A i S=some (S1',rc i):=e1;simp only [e0V,Y6,e1',e2',h7,d9R]
end
def a1q(ops:Array Oper)(i:Nat):List Nat :=
 match ops[i]? with
 | some o=>(o.after.toList.filter (Region.binds .any)).map (·.on)
 | none=>[]
def a1P(ops:Array Oper):Nat->List (List Nat)
 | 0=>[]
 | k+1=>let L:=a1P ops k;L++[(a1q ops k).flatMap fun e=>e::L.getD e []]
def a4Q(ops:Array Oper)(i:Nat):List Nat:=(a1P ops (i+1)).getD i []
theorem a5O(ops:Array Oper):∀k,(a1P ops k).length=k
 | 0=>rfl
 | k+1=>by simp [a1P,a5O ops k]
theorem b5G(ops:Array Oper)(i:Nat):∀k,i<k->(a1P ops k).getD i []=a4Q ops i
 | k+1,h=>by
  by_cases q:i=k
  ·subst q;rfl
  ·have:i<k:=by omega
   rw [<-b5G ops i k this];simp only [a1P,d9F];rw [d9L (by rw [a5O];exact this)]
theorem d84(ops:Array Oper)(i:Nat):a4Q ops i=(a1q ops i).flatMap fun e=>e::(a1P ops i).getD e []:=by
 unfold a4Q;simp only [a1P,d9F];rw [d9H (by rw [a5O];omega),a5O];simp
theorem b89{ops:Array Oper}{S5:Array Bool}{i:Nat}(h:i∈Region.ready .any ops S5):i<ops.size/\S5.getD i true=false/\∀e∈a1q ops i,S5.getD e false=true:=by
 unfold Region.ready at h;obtain ⟨h1,h2⟩:=List.mem_filter.1 h;have hlt:=e0m.1 h1;simp only [d9v,d9T] at h2;refine ⟨hlt,h2.1,?_⟩;intro e he;unfold a1q at he;rw [Array.getElem?_eq_getElem hlt] at he h2;simp only [List.mem_map,List.mem_filter] at he;obtain ⟨ed,⟨hm,hb⟩,rfl⟩:=he;have:=h2.2;simp only [e0b,e0A,Array.all_eq_true_iff_forall_mem] at this;have:=this ed (by simpa using hm);simpa [hb] using this
theorem d5I{ops:Array Oper}{S5:Array Bool}{i:Nat}(hlt:i<ops.size)(hl:S5.getD i true=false)(he:∀e∈a1q ops i,S5.getD e false=true):i∈Region.ready .any ops S5:=by
 unfold Region.ready;refine List.mem_filter.2 ⟨e0m.2 hlt,?_⟩;rw [Array.getElem?_eq_getElem hlt];simp only [hl,d9W,e0b,e0A,d9Q,Array.all_eq_true_iff_forall_mem];intro ed hm;by_cases hb:Region.binds .any ed=true
 ·have:ed.on∈a1q ops i:=by
   unfold a1q;rw [Array.getElem?_eq_getElem hlt];exact List.mem_map.2 ⟨ed,List.mem_filter.2 ⟨by simpa using hm,hb⟩,rfl⟩
  simp [he _ this]
 ·simp [hb]
section
variable {cx:Cx} {Γ:J3} {ops:Array Oper} {base:Nat} {A:Nat->I1} {Q:Exit->Act->World->Prop} {S':St} {rc:Rc}
theorem d3E(b9g:∀i,i<ops.size->∀e∈a1q ops i,e<i)(hind:∀x i,x<i->i<ops.size->x ∉ a4Q ops i->Ind ops base x i (rc x).2 (rc i).2)(hob:∀i,i<ops.size->∀p∈(rc i).1,p)(hQ:∀a' w' F' ι',p6 Γ F' ι' S' a' w'->Q .normal a' w'):∀(fuel:Nat) (R:List Nat) (S5:Array Bool) (S:St) (F:Nat->Prop) (ι:Nat->Nat->Value) (a:Act) (w:World),
  R.length=fuel->S5.size=ops.size->R.Pairwise (· < ·)->(∀i,i<ops.size->(S5.getD i true=false↔i∈R))->(∀i∈R,i<ops.size)->(∀i,i<ops.size->i ∉ R->∀x∈a4Q ops i,x ∉ R)->
  p6 Γ F ι S a w->(∀i∈R,base+i<S.h.length/\¬S.D (base+i))->Y6 cx ops base A R S=some (S',R.map rc)->wpAny cx.P .any ops Q fuel S5 a w:=by
 intro fuel;induction fuel with
 | zero =>
  intro R S5 S F ι a w hR hsz hpw hlist hlt hdown hrel hfree hrun;have:R=[]:=d9D hR;subst this;unfold Y6 at hrun;injection hrun with hrun;injection hrun with h1 h2;subst h1;refine ⟨?_,hQ _ _ _ _ hrel⟩;rw [List.eq_nil_iff_forall_not_mem];intro i hi;obtain ⟨h1,h2,_⟩:=b89 hi;have:=(hlist i h1).1 h2;simp at this
 | succ fuel ih =>
  intro R S5 S F ι a w hR hsz hpw hlist hlt hdown hrel hfree hrun;refine ⟨fun c8b => ?_,fun i hi => ?_⟩
  ·exfalso
   cases R with
   | nil=>simp at hR
   | cons r R =>
    have hr:=hlt r (by simp);have hrd:r∈Region.ready .any ops S5:=by
     refine d5I hr ((hlist r hr).2 (by simp)) ?_;intro e he;have hlt':=b9g r hr e he;have hen:e ∉ r::R:=by
      intro q;rcases d9z.1 q with q|q
      ·omega
      ·have:=(e0w.1 hpw).1 e q;omega
     have:=mt (hlist e (by omega)).1 hen;have hes:e<S5.size:=by omega
     simp only [Array.getD_eq_getD_getElem?,Array.getElem?_eq_getElem hes,e0A] at this ⊢;simpa using this
    rw [c8b] at hrd;simp at hrd
  ·obtain ⟨hi1,hi2,hi3⟩:=b89 hi;have hiR:=(hlist i hi1).1 hi2;obtain ⟨A1,B1,hAB⟩:=List.append_of_mem hiR;have hpw':=hpw;rw [hAB] at hpw';obtain ⟨hpA,hpB,hpAB⟩:=e0Q.1 hpw';have hcl:∀x∈a4Q ops i,x ∉ R:=by
    intro x hx;rw [d84] at hx;obtain ⟨e,he,hx⟩:=List.mem_flatMap.1 hx;have hel:=b9g i hi1 e he;have heR:e ∉ R:=by
     intro q;have h1:=(hlist e (by omega)).2 q;have h2:=hi3 e he;have hes:e<S5.size:=by omega
     simp only [Array.getD_eq_getD_getElem?,Array.getElem?_eq_getElem hes,e0A] at h1 h2;rw [h1] at h2;cases h2
    rcases d9z.1 hx with rfl|hx
    ·exact heR
    ·rw [b5G ops e i hel] at hx;exact hdown e (by omega) heR x hx
   have hfront:=b8p (cx:=cx) (A:=A) (rc:=rc) (i:=i) (l:=A1) (m:=B1) (S:=S) (S':=S') (fun x hx=>by
    have hxR:x∈R:=by rw [hAB];simp [hx]
    exact hind x i (hpAB x hx i (by simp)) hi1 (fun q=>hcl x q hxR)) (by rw [<-hAB];exact hrun)
   obtain ⟨S1,r,rs,h1,h2,h3⟩:=a8U hfront;simp only [d9R] at h3;injection h3 with h3 h4;subst h3;subst h4;obtain ⟨hD,hl⟩:=c2w (ps:=(rc i).1) (ft:=(rc i).2) h1;refine b9n hrel (hfree i hiR).1 (hfree i hiR).2 (ps:=(rc i).1) (ft:=(rc i).2) h1 (hob i hi1) fun a' w' F' ι' hrel' => ?_
   have hsub:∀j,j∈A1++B1↔(j∈R/\j≠i):=by
    intro j;rw [hAB];simp only [List.mem_append,d9z];constructor
    ·intro hj;refine ⟨by rcases hj with q|q<;>simp [q],?_⟩;rintro rfl
     rcases hj with q|q
     ·have:=hpAB j q j (by simp);omega
     ·have:=(e0w.1 hpB).1 j q;omega
    ·rintro ⟨q|rfl|q,hne⟩
     ·exact .inl q
     ·exact absurd rfl hne
     ·exact .inr q
   refine ih (A1++B1) _ S1 F' ι' a' w' ?_ (by simp [hsz]) ?_ ?_ ?_ ?_ hrel' ?_ h2
   ·rw [hAB] at hR;simp at hR ⊢;omega
   ·refine e0Q.2 ⟨hpA,(e0w.1 hpB).2,fun x hx y hy=>hpAB x hx y (by simp [hy])⟩
   ·intro j hj;rw [hsub];have hjs:j<S5.size:=by omega
    simp only [Array.getD_eq_getD_getElem?];by_cases q:j=i
    ·subst q;simp [hjs]
    ·rw [Array.getElem?_setIfInBounds_ne (Ne.symm q),<-hlist j hj,Array.getD_eq_getD_getElem?];simp [q]
   ·intro j hj;exact hlt j ((hsub j).1 hj).1
   ·intro j hj hjn x hx hxm;have hxR:=((hsub x).1 hxm).1;by_cases q:j=i
    ·subst q;exact hcl x hx hxR
    ·exact hdown j hj (fun z=>hjn ((hsub j).2 ⟨z,q⟩)) x hx hxR
   ·intro j hj;have hjR:=((hsub j).1 hj)
    refine ⟨by rw [hl];exact (hfree j hjR.1).1,fun x => ?_⟩;rcases hD _ x with y|y
    ·exact (hfree j hjR.1).2 y
    ·exact hjR.2 (by omega)
end
def a9U(l:List Nat)(x:Nat):Bool:=l.any fun y=>y==x
theorem d7W{l:List Nat}{x:Nat}:a9U l x=true↔x∈l:=by
 unfold a9U;rw [e0I];constructor
 ·rintro ⟨y,hy,h⟩
  simp at h;exact h▸hy
 ·intro h;exact ⟨x,h,by simp⟩
def dnN:List Nat->List Nat
 | []=>[]
 | x::xs=>if a9U (dnN xs) x then dnN xs else x::dnN xs
theorem b5k{x:Nat}:∀{l:List Nat},x∈dnN l->x∈l
 | y::l,h=>by
  unfold dnN at h;split at h
  ·exact d9z.2 (.inr (b5k h))
  ·rcases d9z.1 h with rfl|h
   ·simp
   ·exact d9z.2 (.inr (b5k h))
def a5K(ops:Array Oper):Nat->List (List Nat)
 | 0=>[]
 | k+1=>let L:=a5K ops k;L++[dnN ((a1q ops k).flatMap fun e=>e::L.getD e [])]
theorem b04(ops:Array Oper):∀k,(a5K ops k).length=k
 | 0=>rfl
 | k+1=>by simp [a5K,b04 ops k]
theorem b3A(ops:Array Oper):∀k i,∀x∈(a5K ops k).getD i [],x∈(a1P ops k).getD i []
 | 0,i,x,h=>by simp [a5K] at h
 | k+1,i,x,h=>by
  simp only [a5K,a1P,d9F] at h ⊢;by_cases q:i<k
  ·rw [d9L (by rw [b04];exact q)] at h;rw [d9L (by rw [a5O];exact q)];have:=b3A ops k i x (by rw [d9F];exact h);rwa [d9F] at this
  ·rw [d9H (by rw [b04];omega),b04] at h;rw [d9H (by rw [a5O];omega),a5O];by_cases q':i=k
   ·subst q';simp only [Nat.sub_self,e0l,e0A] at h ⊢;obtain ⟨e,he,hx⟩:=List.mem_flatMap.1 (b5k h);refine List.mem_flatMap.2 ⟨e,he,?_⟩;rcases d9z.1 hx with rfl|hx
    ·simp
    ·have:=b3A ops i e x (by rw [d9F];exact hx);rw [d9F] at this;exact d9z.2 (.inr this)
   ·have:i-k=(i-k-1)+1:=by omega
    rw [this] at h;simp at h
def b31(ops:Array Oper)(base x i:Nat)(f1 f2:T2):Bool :=
  (match ops[x]?,ops[i]? with
   | some o1,some o2=>o1.apart ops o2
   | _,_=>false) &&
  f1.wr.all (fun id => !Z5 f2.rd id && !Z5 f2.wr id)&&f2.wr.all (fun id => !Z5 f1.rd id) &&
  f2.rd.all (fun id => !(id.1==base+x))&&f2.wr.all (fun id => !(id.1==base+x)) &&
  f1.rd.all (fun id => !(id.1==base+i))&&f1.wr.all (fun id => !(id.1==base+i))
theorem a99{l:List (Nat×Nat)}{x:Nat×Nat}(h:(!Z5 l x)=true):x ∉ l:=by
 intro q;rw [a4j.2 q] at h;cases h
theorem d0Q{ops:Array Oper}{base x i:Nat}{f1 f2:T2}(hne:x<i)(h:b31 ops base x i f1 f2=true):Ind ops base x i f1 f2:=by
 unfold b31 at h;simp only [d9v] at h;obtain ⟨⟨⟨⟨⟨⟨h1,h2⟩,h3⟩,h4⟩,h5⟩,h6⟩,h7⟩:=h;refine ⟨by omega,?_,?_,?_,?_,?_⟩
 ·intro o1 o2 e1 e2;rw [e1,e2] at h1;exact h1
 ·intro id hid;have:=List.all_eq_true.1 h2 id hid;simp only [d9v] at this;exact ⟨a99 this.1,a99 this.2⟩
 ·intro id hid;exact a99 (List.all_eq_true.1 h3 id hid)
 ·intro id hid;rcases List.mem_append.1 hid with q|q
  ·have:=List.all_eq_true.1 h4 id q;simpa using this
  ·have:=List.all_eq_true.1 h5 id q;simpa using this
 ·intro id hid;rcases List.mem_append.1 hid with q|q
  ·have:=List.all_eq_true.1 h6 id q;simpa using this
  ·have:=List.all_eq_true.1 h7 id q;simpa using this
def c42(ops:Array Oper)(base:Nat)(L:List (List Nat))(fs:List T2):Bool :=
 (d9C ops.size).all fun i =>
  (a1q ops i).all (fun e=>Nat.blt e i) &&
  (d9C i).all fun x=>a9U (L.getD i []) x||b31 ops base x i (fs.getD x ⟨[],[]⟩) (fs.getD i ⟨[],[]⟩)
def b4l(A:List (Nat×I1))(i:Nat):I1 :=
 match A with
 | []=>{}
 | (j,x)::A=>if j==i then x else b4l A i
def b07:List (List Prop×T2)->List Prop
 | []=>[]
 | r::rs=>r.1++b07 rs
theorem c1P{rs:List (List Prop×T2)}(h:∀p∈b07 rs,p):∀r∈rs,∀p∈r.1,p:=by
 induction rs with
 | nil=>intro r hr;cases hr
 | cons r rs ih =>
  intro r' hr p hp;rcases d9z.1 hr with rfl|hr
  ·exact h p (List.mem_append.2 (.inl hp))
  ·exact ih (fun p hp=>h p (List.mem_append.2 (.inr hp))) r' hr p hp
def a1Z:Nat->List (Option (List n9))
 | 0=>[]
 | n+1=>none::a1Z n
theorem b9S:∀(n i:Nat) (l:List n9),(a1Z n)[i]?≠some (some l)
 | 0,i,l=>by simp [a1Z]
 | n+1,0,l=>by simp [a1Z]
 | n+1,i+1,l=>by simpa [a1Z] using b9S n i l
theorem c1j:∀n,(a1Z n).length=n
 | 0=>rfl
 | n+1=>by simp [a1Z,c1j n]
def St.more(S:St)(n:Nat):St:={S with h:=S.h++a1Z n}
theorem b1L{S:St}{n g:Nat}{l:List n9}:(S.more n).h[g]?=some (some l)↔S.h[g]?=some (some l):=by
 unfold St.more;simp only;by_cases q:g<S.h.length
 ·rw [d9L q]
 ·rw [d9H (by omega)];constructor
  ·intro h;exact absurd h (b9S _ _ _)
  ·intro h;have:=(d9x.1 h).1;omega
theorem a7d{S:St}{n g:Nat}:(S.more n).D g↔S.D g:=by
 unfold St.D;constructor
 ·rintro ⟨l,h⟩
  exact ⟨l,b1L.1 h⟩
 ·rintro ⟨l,h⟩
  exact ⟨l,b1L.2 h⟩
theorem a86{S:St}{n g j:Nat}:(S.more n).ent g j=S.ent g j:=by
 have key:∀e,(S.more n).ent g j=some e↔S.ent g j=some e:=by
  intro e;constructor
  ·intro h;obtain ⟨l,hl⟩:=St.D_of_ent h;rw [a0e hl] at h;rw [a0e (b1L.1 hl)];exact h
  ·intro h;obtain ⟨l,hl⟩:=St.D_of_ent h;rw [a0e hl] at h;rw [a0e (b1L.2 hl)];exact h
 cases h:S.ent g j with
 | some e=>exact (key e).2 h
 | none =>
  cases h':(S.more n).ent g j with
  | none=>rfl
  | some e=>rw [(key e).1 h'] at h;cases h
theorem p6.more{Γ:J3}{F:Nat->Prop}{ι:Nat->Nat->Value}{S:St}{a:Act}{w:World}(h:p6 Γ F ι S a w)(n:Nat):p6 Γ F ι (S.more n) a w :=
  { F0:=h.F0,F1:=h.F1,F2:=h.F2,kept:=h.kept
    tmps:=h.tmps.imp fun _ _ x=>x.mono (fun _ _ _=>rfl) (fun _ y=>y) (fun g y=>a7d.2 y) (fun _ _ _=>rfl)
    ents:=fun g j e he=>(h.ents g j e (a86▸he)).mono (fun _ _ _=>rfl) (fun _ y=>y) (fun g y=>a7d.2 y) (fun _ _ _=>rfl) (fun _ _ _=>rfl)
    sep:=fun g j e k he=>h.sep g j e k (a86▸he)
    inj:=fun g j e g' j' e' k he he'=>h.inj g j e g' j' e' k (a86▸he) (a86▸he')
    defers:=h.defers
    pins:=fun j c hc=>⟨a7d.2 (h.pins j c hc).1,(h.pins j c hc).2⟩}
def b6b(cx:Cx)(ops:Array Oper)(draw:Bool)(A:List (Nat×I1))(S:St):Option (St×List Prop) :=
 match Y6 cx ops S.h.length (b4l A) (d9C ops.size) (S.more ops.size) with
 | none=>none
 | some (S',rs)=>if draw then (if c42 ops S.h.length (a5K ops ops.size) (rs.map (·.2)) then some (S',b07 rs) else none) else some (S',b07 rs)
section
variable {cx:Cx} {Γ:J3} {F:Nat->Prop} {ι:Nat->Nat->Value} {S S':St} {a:Act} {w:World} {ops:Array Oper} {A:List (Nat×I1)}
theorem c4p{base:Nat}{B:Nat->I1}:∀{l:List Nat} {S S':St} {rs:List (List Prop×T2)},Y6 cx ops base B l S=some (S',rs)->rs.length=l.length
 | [],S,S',rs,h=>by
  unfold Y6 at h;injection h with h;injection h with h1 h2;subst h2;rfl
 | i::l,S,S',rs,h=>by
  obtain ⟨S1,r,rs',h1,h2,rfl⟩:=a8U h;simp [c4p h2]
theorem d5t{α:Type}(d:α):∀{rs:List α} {n:Nat},rs.length=n->rs=(d9C n).map fun i=>rs.getD i d:=by
 intro rs n h;apply List.ext_getElem
 ·simp [h]
 ·intro i h1 h2;simp [d9F,h1]
theorem c7D{draw:Bool}{id:Nat}{ps:List Prop}{Q:Exit->Act->World->Prop}(h:p6 Γ F ι S a w)(hr:b6b cx ops draw A S=some (S',ps))(hob:∀p∈ps,p)(hQ:∀a' w' F' ι',p6 Γ F' ι' S' a' w'->Q .normal a' w'):(Code.region id ops draw).wp cx.P Q a w:=by
 unfold b6b at hr;split at hr<;>try (cases hr;done)
 rename_i S1 rs hrun;have hfree:∀i∈d9C ops.size,S.h.length+i<(S.more ops.size).h.length/\¬(S.more ops.size).D (S.h.length+i):=by
  intro i hi;refine ⟨by simp [St.more,c1j,e0m.1 hi],fun q => ?_⟩;obtain ⟨l,hl⟩:=a7d.1 q;have:=(d9x.1 hl).1;omega
 cases draw with
 | false =>
  simp only [e0v,if_false] at hr;injection hr with hr;injection hr with h1 h2;subst h1;subst h2;exact wp_region (c37 (h.more ops.size) List.nodup_range hfree hrun (c1P hob) hQ)
 | true =>
  simp only [if_true] at hr;split at hr<;>try (cases hr;done)
  rename_i hap;injection hr with hr;injection hr with h1 h2;subst h1;subst h2;have hw:p6 Γ F ι (S.more ops.size) a {w with drawn:=w.drawn+1}:=(h.more ops.size).world ⟨rfl,rfl,rfl⟩ (d9K _) (fun _ _=>rfl);have hlen:=c4p hrun;rw [List.length_range] at hlen;have hrs:=d5t (([],⟨[],[]⟩):List Prop×T2) hlen;unfold c42 at hap;rw [List.all_eq_true] at hap;have hap':∀i,i<ops.size->(∀e∈a1q ops i,e<i)/\∀x,x<i->x ∉ a4Q ops i->Ind ops S.h.length x i ((rs.getD x ([],⟨[],[]⟩)).2) ((rs.getD i ([],⟨[],[]⟩)).2):=by
   intro i hi;have:=hap i (e0m.2 hi);simp only [d9v] at this;refine ⟨fun e he => ?_,fun x hx hc => ?_⟩
   ·have:=List.all_eq_true.1 this.1 e he;rwa [Nat.blt_eq] at this
   ·have h2:=List.all_eq_true.1 this.2 x (e0m.2 hx);rcases Bool.or_eq_true_iff.1 h2 with q|q
    ·exfalso
     apply hc;have:=b3A ops ops.size i x (d7W.1 q);rwa [b5G ops i ops.size hi] at this
    ·have:=d0Q hx q;have hm:∀j,j<rs.length->(rs.map (·.2)).getD j ⟨[],[]⟩=(rs.getD j ([],⟨[],[]⟩)).2:=by
      intro j hj;simp [d9F,hj]
     rw [hm x (by omega),hm i (by omega)] at this;exact this
  refine wp_region_any cx.mixed ?_;have hrange:∀i,i<ops.size->rs.getD i ([],⟨[],[]⟩)∈rs:=by
   intro i hi;have:i<rs.length:=by omega
   simp [d9F,this]
  refine d3E (rc:=fun i=>rs.getD i ([],⟨[],[]⟩)) (base:=S.h.length) (A:=b4l A) (fun i hi=>(hap' i hi).1) (fun x i hx hi hc=>(hap' i hi).2 x hx hc) (fun i hi p hp=>c1P hob _ (hrange i hi) p hp) hQ
   ops.size (d9C ops.size) _ _ F ι a _ (by simp) (by simp) ?_ ?_ ?_ ?_ hw hfree ?_
  ·exact List.pairwise_lt_range
  ·intro i hi;simp [e0m,hi,Array.getD_eq_getD_getElem?]
  ·intro i hi;exact e0m.1 hi
  ·intro i hi hn;exact absurd (e0m.2 hi) hn
  ·rw [<-hrs];exact hrun
end
def mvM(t:List V):List Item->Option (List Item)
 | .code .skip::k=>some k
 | .inBlock _::k=>some k
 | .code (.seq x y)::k=>some (.code x :: .code y::k)
 | .code (.cond c x y)::k=>match n5 t c with
  | .b true=>some (.code x::k)
  | .b false=>some (.code y::k)
  | _=>none
 | .code (.block id c)::k=>some (.code c :: .inBlock id::k)
 | .code (.loop c)::k=>some (.code c :: .inLoop c::k)
 | .inLoop c::k=>some (.code c :: .inLoop c::k)
 | .code (.exit id)::k=>exitTo id k
 | _=>none
abbrev P8:=List (List (Nat×I1))
def goM(cx:Cx):Nat->List Item->St->P8->Option (List Item×St×List Prop)
 | 0,_,_,_=>none
 | n+1,k,S,sc =>
  match k with
  | .code (.region id ops draw)::k'=>match sc with
   | []=>some (k,S,[])
   | A::sc'=>match b6b cx ops draw A S with
    | some (S1,ps)=>match goM cx n k' S1 sc' with
     | some (k2,S2,qs)=>some (k2,S2,ps++qs)
     | none=>none
    | none=>none
  | k=>match mvM S.t k with
   | some k1=>goM cx n k1 S sc
   | none=>match sc with
    | []=>some (k,S,[])
    | _::_=>none
section
variable {cx:Cx} {Γ:J3} {F:Nat->Prop} {ι:Nat->Nat->Value} {S S':St} {a:Act} {w:World} {b:Frame} {cs:List Frame} {k k':List Item}
theorem d0A(h:p6 Γ F ι S a w)(hm:mvM S.t k=some k'):step cx.P (lone (b.at a k) cs w)=.next (lone (b.at a k') cs w):=by
 unfold mvM at hm;split at hm
 ·injection hm with hm;subst hm;exact step_skip
 ·injection hm with hm;subst hm;exact step_inBlock
 ·injection hm with hm;subst hm;exact step_seq
 ·rename_i c x y k0;have hc:=A8 h.tmps c;split at hm<;>try (cases hm;done)
  ·rename_i hx;injection hm with hm;subst hm;rw [hx] at hc;have:=step_cond (P:=cx.P) (b:=b) (k:=k0) (cs:=cs) (w:=w) (x:=x) (y:=y) hc.inv_b;simpa using this
  ·rename_i hx;injection hm with hm;subst hm;rw [hx] at hc;have:=step_cond (P:=cx.P) (b:=b) (k:=k0) (cs:=cs) (w:=w) (x:=x) (y:=y) hc.inv_b;simpa using this
 ·injection hm with hm;subst hm;exact step_block
 ·injection hm with hm;subst hm;exact step_loop
 ·injection hm with hm;subst hm;exact step_inLoop
 ·exact step_exit hm
 ·cases hm
theorem c8m:∀{n:Nat} {k:List Item} {S:St} {F:Nat->Prop} {ι:Nat->Nat->Value} {a:Act} {w:World} {sc:P8} {ps:List Prop},p6 Γ F ι S a w->goM cx n k S sc=some (k',S',ps)->(∀p∈ps,p)->
  ∃a' w' F' ι',Steps cx.P (lone (b.at a k) cs w) (lone (b.at a' k') cs w')/\p6 Γ F' ι' S' a' w':=by
 intro n;induction n with
 | zero=>intro k S F ι a w sc ps h hg hob;cases hg
 | succ n ih =>
  intro k S F ι a w sc ps h hg hob;unfold goM at hg;split at hg
  ·rename_i id ops draw k0;split at hg
   ·injection hg with hg;injection hg with h1 h2;injection h2 with h2 h3;subst h1;subst h2;exact ⟨a,w,F,ι,.refl _ _,h⟩
   ·rename_i A sc';split at hg<;>try (cases hg;done)
    rename_i S1 qs hr;split at hg<;>try (cases hg;done)
    rename_i k2 S2 rs hg2;injection hg with hg;injection hg with h1 h2;injection h2 with h2 h3;subst h1;subst h2;subst h3;have hwp:=c7D (cx:=cx) (draw:=draw) (id:=id) (Q:=fun e a' w'=>e=.normal/\∃F' ι',p6 Γ F' ι' S1 a' w') h hr (fun p hp=>hob p (List.mem_append.2 (.inl hp)))
     (fun a' w' F' ι' hrel=>⟨rfl,F',ι',hrel⟩)
    obtain ⟨e,a1,w1,⟨he,F1,ι1,h1⟩,harr⟩:=hwp b k0 cs;subst he;obtain ⟨a2,w2,F2,ι2,hs,h2⟩:=ih h1 hg2 (fun p hp=>hob p (List.mem_append.2 (.inr hp)));exact ⟨a2,w2,F2,ι2,Steps.trans harr hs,h2⟩
  ·split at hg
   ·rename_i k1 hm;obtain ⟨a2,w2,F2,ι2,hs,h2⟩:=ih h hg hob;exact ⟨a2,w2,F2,ι2,.head (d0A h hm) hs,h2⟩
   ·split at hg<;>try (cases hg;done)
    injection hg with hg;injection hg with h1 h2;injection h2 with h2 h3;subst h1;subst h2;exact ⟨a,w,F,ι,.refl _ _,h⟩
end
structure K9 where
 f:Nat
 fn:Func
 rms:List PM
 oms:List (Option (Nat×PM))
def b8y(w:World)(F:Nat->Prop)(fp:List Nat)(cargs:List Value)(res:V)(outs:List (Option V))(e:Ending)(w':World):Prop :=
 ∃ c F' fr fo,e=.returned c/\a10 (· ∈ fp) w w'/\(∀k,F k->F' k)/\(∀k,F' k->(F k\/k∈fp\/w.heap.size<=k)/\k<w'.heap.size)/\
   BR w' F' res c fr/\BO w' F' outs cargs fo/\(fr++fo).Nodup/\∀k∈fr++fo,¬F' k/\(k∈fp\/w.heap.size<=k)/\k<w'.heap.size
def PM.isVal:PM->Bool
 | .val .. => true
 | _=>false
def a3K(bs:List Value):List (Option Nat)->Nat->List Value->Prop
 | [],_,[]=>True
 | none::om,j,d::ds=>d.oneCell'=true/\a3K bs om j ds
 | some _::om,j,d::ds=>bs[j]?=some d/\a3K bs om (j+1) ds
 | _,_,_=>False
inductive a0x:List (Option (Nat×PM))->List Value->List Value->Prop
 | nil (bs):a0x [] [] bs
 | skip (oms c cs bs) (t:a0x oms cs bs):a0x (none::oms) (c::cs) bs
 | pin (j m oms c cs bs) (hm:m.isVal=false) (h:bs[j]?=some c) (t:a0x oms cs bs):a0x (some (j,m)::oms) (c::cs) bs
 | agg (j ck om oms ds cs bs) (h:a3K bs om j ds) (t:a0x oms cs bs):a0x (some (j,.val ck om)::oms) (.agg ds.toArray::cs) bs
def F7(cx:Cx)(X:K9)(res:V)(outs:List (Option V))(k:List Item)(S:St):Prop :=
 ∀(w0:World) (F0:Nat->Prop) (fp:List Nat) (cargs bs:List Value),a0x X.oms cargs bs->(∀k,F0 k->k<w0.heap.size)->
 ∀(F:Nat->Prop) (ι:Nat->Nat->Value) (a:Act) (w:World) (b:Frame) (cs:List Frame),p6 ⟨w0,F0,(· ∈ fp),bs⟩ F ι S a w->b.fn=X.f->b.kind=.normal->
  ∃e w' fr,b8y w0 F0 fp cargs res outs e w'/\Comes cx.P (lone (b.at a k) cs w) (lone fr cs w') e/\fr.fn=X.f/\fr.leaving cx.P w' e
theorem F7.go{cx:Cx}{X:K9}{res:V}{outs:List (Option V)}{k k':List Item}{S S':St}{n:Nat}{sc:P8}{ps:List Prop}(hg:goM cx n k S sc=some (k',S',ps))(hob:∀p∈ps,p)(h:F7 cx X res outs k' S'):F7 cx X res outs k S:=by
 intro w0 F0 fp cargs bs hp hF0 F ι a w b cs hrel hb1 hb2;obtain ⟨a',w',F',ι',hs,hrel'⟩:=c8m (b:=b) (cs:=cs) hrel hg hob;obtain ⟨e,w2,fr,h1,h2,h3,h4⟩:=h w0 F0 fp cargs bs hp hF0 F' ι' a' w' b cs hrel' hb1 hb2;exact ⟨e,w2,fr,h1,.of_steps hs h2,h3,h4⟩
def b7j(cx:Cx)(t:List V)(r:ResultVar):i8 V :=
 match r with
 | .tmp k=>i8.pure (t.getD k .bot)
 | .cell a ty=>match cx.T ty with
  | some ti=>match t.getD a .bot with
   | .ptr g j off=>i8.bind (i8.rd g j) fun e=>match e with
    | .var _ cs=>match N5 ti (cs.drop off) with
     | some v=>i8.pure v
     | none=>i8.no
    | _=>i8.no
   | _=>i8.no
  | none=>i8.no
def b3z(cx:Cx)(t:List V):List ResultVar->i8 (List V)
 | []=>i8.pure []
 | r::rs=>i8.bind (b7j cx t r) fun v=>i8.bind (b3z cx t rs) fun vs=>i8.pure (v::vs)
def b0I:List (Option Nat)->Nat->i8 (List V)
 | [],_=>i8.pure []
 | none::om,j=>i8.bind (b0I om j) fun vs=>i8.pure (.bot::vs)
 | some _::om,j=>i8.bind (i8.rd 0 j) fun e=>i8.bind (b0I om (j+1)) fun vs=>match e with
  | .row _ sz n _=>i8.pure (.own 0 j sz 0 n::vs)
  | .deep false _ sz n _=>i8.pure (.own 0 j sz 0 n::vs)
  | _=>i8.no
def a48:List (Option (Nat×PM))->i8 (List V×List PM)
 | []=>i8.pure ([],[])
 | none::os=>a48 os
 | some (j,.val ck om)::os=>i8.bind (b0I om j) fun cs=>i8.bind (a48 os) fun x=>i8.pure (.agg cs::x.1,.val ck om::x.2)
 | some (j,m)::os=>i8.bind (i8.rd 0 j) fun e=>match m,e with
  | .ptr _ _,.var _ _=>i8.bind (a48 os) fun x=>i8.pure (.ptr 0 j 0::x.1,m::x.2)
  | .row,.row _ sz n _=>i8.bind (a48 os) fun x=>i8.pure (.own 0 j sz 0 n::x.1,m::x.2)
  | .row,.deep false _ sz n _=>i8.bind (a48 os) fun x=>i8.pure (.own 0 j sz 0 n::x.1,m::x.2)
  | _,_=>i8.no
def b0Q:List V->V
 | [v]=>v
 | vs=>.tup vs
def a4A:List (Option (Nat×PM))->List V->List (Option V)
 | [],_=>[]
 | none::os,vs=>none::a4A os vs
 | some _::os,v::vs=>some v::a4A os vs
 | some _::os,[]=>none::a4A os []
def b5S(cx:Cx)(X:K9)(t:List V):i8 (AR (List V)×Nat) :=
 i8.bind (b3z cx t X.fn.results.toList) fun rv=>i8.bind (a48 X.oms) fun ov=>i8.bind (a0j (X.rms++ov.2) (rv++ov.1)) fun r =>
  if a1h r.ks&&r.ls.all (fun id => !Z5 r.ks id)&&Nat.beq rv.length X.rms.length then i8.pure (r,rv.length) else i8.no
def b5E(cx:Cx)(X:K9)(k:List Item)(S:St):Option (V×List (Option V)×List Prop) :=
 match k with
 | .code .ret::_|[]=>match b5S cx X S.t S.ent with
  | some ((r,n),_)=>some (b0Q (r.v.take n),a4A X.oms (r.v.drop n),r.obl)
  | none=>none
 | _=>none
section
variable {cx:Cx} {Γ:J3} {F:Nat->Prop} {ι:Nat->Nat->Value} {S S':St} {a:Act} {w:World} {b:Frame} {cs:List Frame} {k k':List Item}
theorem b9u(h:p6 Γ F ι S a w)(k:Nat):RV w F S.D ι (S.t.getD k .bot) (a.tmps.getD k undef):=A8 h.tmps (.tmp k)
def b2l(P:Program)(tmps:Array Value)(w:World)(r:ResultVar)(c:Value):Prop :=
  ((match r with
    | .tmp t=>pure (tmps.getD t undef)
    | .cell a t=>do loadVar t (<-asAddr (tmps.getD a undef))):Sem Value).run P w=.ok c w
theorem d7i(h:p6 Γ F ι S a w){r:ResultVar}{v:V}{lg:List (Nat×Nat)}(hr:b7j cx S.t r S.ent=some (v,lg)):∃c,b2l cx.P a.tmps w r c/\RV w F S.D ι v c:=by
 unfold b7j at hr;cases r with
 | tmp k =>
  have:=i8.pure_some hr;injection this with this h9;subst this;exact ⟨_,rfl,b9u h k⟩
 | cell ad ty =>
  simp only at hr;cases hti:cx.T ty with
  | none=>rw [hti] at hr;cases hr
  | some ti =>
  rw [hti] at hr;obtain ⟨i,d,z,htf⟩:=cx.tf hti;have hx:=b9u h ad;generalize S.t.getD ad .bot=xv at hr hx;cases xv<;>try (cases hr;done)
  case ptr g j off =>
   obtain ⟨hD,b,hι,hc⟩:=hx.inv_ptr;obtain ⟨e,l1,l2,hrd,hp',hl12⟩:=i8.bind_some hr;clear hr;have he:=(i8.rd_some hrd).1;simp only at he;have hre:=h.ents g j e he;split at hp'<;>try (cases hp';done)
   ·rename_i e0 cs;obtain ⟨g0,cur,h1,hg,hcs⟩:=hre;rw [hι] at h1;injection h1 with h1;injection h1 with h1;injection h1 with h1;subst h1;cases hrv:N5 ti (cs.drop off) with
    | none=>rw [hrv] at hp';cases hp'
    | some v' =>
    rw [hrv] at hp';have:=i8.pure_some hp';injection this with this h9;subst this;obtain ⟨c,hrd',hvc⟩:=a4i (hcs.drop off) hrv;refine ⟨c,?_,hvc⟩;unfold b2l;simp only [hc,asAddr];have:=b9A htf (a3M hg off) hrd';simpa [Sem.run_bind] using this
theorem c46(h:p6 Γ F ι S a w):∀{rs:List ResultVar} {vs:List V} {lg:List (Nat×Nat)},b3z cx S.t rs S.ent=some (vs,lg)->∃cs,r7 (b2l cx.P a.tmps w) rs cs/\r7 (RV w F S.D ι) vs cs
 | [],vs,lg,hr=>by
  have:=i8.pure_some hr;injection this with this h9;subst this;exact ⟨[],.nil,.nil⟩
 | r::rs,vs,lg,hr=>by
  obtain ⟨v,l1,l2,h1,h2,_⟩:=i8.bind_some hr;obtain ⟨vs',l3,l4,h3,h4,_⟩:=i8.bind_some h2;have:=i8.pure_some h4;injection this with this h9;subst this;obtain ⟨c,e1,e2⟩:=d7i h h1;obtain ⟨cs,e3,e4⟩:=c46 h h3;exact ⟨c::cs,.cons e1 e3,.cons e2 e4⟩
def a9B:List Value->Value
 | [c]=>c
 | cs=>.tuple cs.toArray
theorem c4m{P:Program}{w:World}{α:Type}{f:α->Sem Value}:∀{l:List α} {cs:List Value},r7 (fun r c=>(f r).run P w=.ok c w) l cs->(l.mapM f).run P w=.ok cs w
 | _,_,.nil=>by simp [Sem.run]
 | _,_,.cons h t=>by
  rw [List.mapM_cons];have:=c4m t;simp [Sem.run_bind,h,this]
theorem d6n{P:Program}{fn:Func}{tmps:Array Value}{w:World}{cs:List Value}(h:r7 (b2l P tmps w) fn.results.toList cs):(results fn tmps).run P w=.ok (a9B cs) w:=by
 unfold results;have hm:=c4m (f:=fun r:ResultVar=>match r with
  | .tmp t=>pure (tmps.getD t undef)
  | .cell a t=>do loadVar t (<-asAddr (tmps.getD a undef))) (h.imp fun r c x=>x)
 have he:fn.results=fn.results.toList.toArray:=by simp
 rw [he,List.mapM_toArray];have hp:(if hh:cs.toArray.size=1 then cs.toArray[0] else Value.tuple cs.toArray)=a9B cs:=by
  rcases cs with _|⟨c,_|⟨c',cs⟩⟩
  ·rfl
  ·rfl
  ·have:¬(c::c'::cs).toArray.size=1:=by simp
   rw [dif_neg this];rfl
 simp only [map_eq_pure_bind,Sem.run_bind,bind_assoc,pure_bind];refine (congrArg (fun r=>Result.andThen r _) hm).trans ?_;simp only [Result.andThen];rw [<-hp];rfl
theorem b4F(h:p6 Γ F ι S a w):∀{om:List (Option Nat)} {j:Nat} {ds:List Value} {vs:List V} {lg:List (Nat×Nat)},a3K Γ.pins om j ds->b0I om j S.ent=some (vs,lg)->r7 (RC w F S.D ι) vs ds
 | [],j,[],vs,lg,_,hr=>by
  have:=i8.pure_some hr;injection this with h1 h2;subst h1;exact .nil
 | none::om,j,d::ds,vs,lg,hc,hr=>by
  obtain ⟨xs,l1,l2,h1,h2,_⟩:=i8.bind_some hr;have:=i8.pure_some h2;injection this with h3 h4;subst h3;exact .cons (.fv _ _ (.bot _ hc.1)) (b4F h hc.2 h1)
 | some _::om,j,d::ds,vs,lg,hc,hr=>by
  obtain ⟨e,l1,l2,hrd,hp,_⟩:=i8.bind_some hr;have he:=(i8.rd_some hrd).1;simp only at he;have hD:=St.D_of_ent he;have hι:=(h.pins j d hc.1).2;have hre:=h.ents 0 j e he;obtain ⟨xs,l3,l4,h1,h2,_⟩:=i8.bind_some hp;have ht:=b4F h hc.2 h1;split at h2<;>try (cases h2;done)
  ·have:=i8.pure_some h2;injection this with h3 h4;subst h3;refine .cons ?_ ht;have:=RC.whole hD rfl hre;rwa [hι] at this
  ·have:=i8.pure_some h2;injection this with h3 h4;subst h3;refine .cons ?_ ht;obtain ⟨flat,fs,ho,_⟩:=hre;have:=RC.wholeO (F:=F) (D:=S.D) hD rfl ho;rwa [hι] at this
 | [],_,_::_,_,_,hc,_=>hc.elim
 | none::_,_,[],_,_,hc,_=>hc.elim
 | some _::_,_,[],_,_,hc,_=>hc.elim
theorem a7j(h:p6 Γ F ι S a w):∀{oms:List (Option (Nat×PM))} {cargs:List Value} {vs:List V} {ms:List PM} {lg:List (Nat×Nat)},a0x oms cargs Γ.pins->a48 oms S.ent=some ((vs,ms),lg)->∃cs,r7 (RV w F S.D ι) vs cs/\
  ∀{F1:Nat->Prop} {us:List V} {f:List Nat},BS w F1 us cs f->BO w F1 (a4A oms us) cargs f
 | [],_,vs,ms,lg,.nil _,hr=>by
  have:=i8.pure_some hr;injection this with h1 h2;injection h1 with h1 h3;subst h1;exact ⟨[],.nil,fun hb=>by cases hb;exact .nil⟩
 | none::oms,_,vs,ms,lg,.skip _ c cs _ t,hr=>by
  obtain ⟨cs',e1,e2⟩:=a7j h t hr;exact ⟨cs',e1,fun {F1 us f} hb=>.skip _ _ _ _ (e2 hb)⟩
 | some (j,.val ck om)::oms,_,vs,ms,lg,.agg _ _ _ _ ds cs _ hc t,hr=>by
  obtain ⟨xs,l1,l2,hxs,hp,_⟩:=i8.bind_some hr;obtain ⟨x,l3,l4,h1,h2,_⟩:=i8.bind_some hp;have:=i8.pure_some h2;injection this with h3 h4;injection h3 with h3 h5;subst h3;obtain ⟨cs',e1,e2⟩:=a7j h t h1;refine ⟨.agg ds.toArray::cs',.cons (.one _ _ (.agg _ _ (b4F h hc hxs))) e1,?_⟩;intro F1 us f hb;cases hb with
  | cons v c f vs cs fs h t=>exact .cons _ _ _ _ _ _ h (e2 t)
 | some (j,.val ck om)::oms,_,vs,ms,lg,.pin _ _ _ c cs _ hm hc t,hr=>by cases hm
 | some (j,.part)::oms,_,vs,ms,lg,.pin _ _ _ c cs _ hm hc t,hr=>by
  obtain ⟨e,l1,l2,hrd,hp,_⟩:=i8.bind_some hr;cases e<;>cases hp
 | some (j,.ptr ck om)::oms,_,vs,ms,lg,.pin _ _ _ c cs _ hm hc t,hr=>by
  obtain ⟨e,l1,l2,hrd,hp,_⟩:=i8.bind_some hr;have he:=(i8.rd_some hrd).1;simp only at he;have hD:=St.D_of_ent he;have hι:=(h.pins j c hc).2;have hre:=h.ents 0 j e he;cases e<;>try (cases hp;done)
  obtain ⟨x,l3,l4,h1,h2,_⟩:=i8.bind_some hp;have:=i8.pure_some h2;injection this with h3 h4;injection h3 with h3 h5;subst h3;obtain ⟨cs',e1,e2⟩:=a7j h t h1;obtain ⟨g,cur,q1,q2,q3⟩:=hre;refine ⟨c::cs',.cons (.one _ _ (.cell _ _ ?_)) e1,?_⟩
  ·rw [<-hι,q1];exact .ptr 0 j 0 g hD q1
  ·intro F1 us f hb;cases hb with
   | cons v c f vs cs fs h t=>exact .cons _ _ _ _ _ _ h (e2 t)
 | some (j,.row)::oms,_,vs,ms,lg,.pin _ _ _ c cs _ hm hc t,hr=>by
  obtain ⟨e,l1,l2,hrd,hp,_⟩:=i8.bind_some hr;have he:=(i8.rd_some hrd).1;simp only at he;have hD:=St.D_of_ent he;have hι:=(h.pins j c hc).2;have hre:=h.ents 0 j e he;cases e<;>try (cases hp;done)
  case row =>
   obtain ⟨x,l3,l4,h1,h2,_⟩:=i8.bind_some hp;have:=i8.pure_some h2;injection this with h3 h4;injection h3 with h3 h5;subst h3;obtain ⟨cs',e1,e2⟩:=a7j h t h1;refine ⟨c::cs',.cons (.one _ _ (.cell _ _ ?_)) e1,?_⟩
   ·have:=RC.whole hD rfl hre;rwa [hι] at this
   ·intro F1 us f hb;cases hb with
    | cons v c f vs cs fs h t=>exact .cons _ _ _ _ _ _ h (e2 t)
  case deep o _ _ _ _ =>
   cases o<;>try (cases hp;done)
   obtain ⟨x,l3,l4,h1,h2,_⟩:=i8.bind_some hp;have:=i8.pure_some h2;injection this with h3 h4;injection h3 with h3 h5;subst h3;obtain ⟨cs',e1,e2⟩:=a7j h t h1;obtain ⟨flat,fs,ho,_⟩:=hre;refine ⟨c::cs',.cons (.one _ _ (.cell _ _ ?_)) e1,?_⟩
   ·have:=RC.wholeO (F:=F) (D:=S.D) hD rfl ho;rwa [hι] at this
   ·intro F1 us f hb;cases hb with
    | cons v c f vs cs fs h t=>exact .cons _ _ _ _ _ _ h (e2 t)
theorem r7.app{α β:Type}{R:α->β->Prop}:∀{x7 bs cs ds},r7 R x7 bs->r7 R cs ds->r7 R (x7++cs) (bs++ds)
 | _,_,_,_,.nil,k=>k
 | _,_,_,_,.cons hx t,k=>.cons hx (t.app k)
theorem BS.split:∀{c1 c2:List Value} {vs:List V} {f:List Nat},BS w F vs (c1++c2) f->∃f1 f2,f=f1++f2/\BS w F (vs.take c1.length) c1 f1/\BS w F (vs.drop c1.length) c2 f2
 | [],c2,vs,f,h=>⟨[],f,rfl,by simpa using .nil,by simpa using h⟩
 | c::c1,c2,_,_,.cons v _ f vs _ fs h t=>by
  obtain ⟨f1,f2,rfl,h1,h2⟩:=BS.split t;exact ⟨f++f1,f2,by simp,.cons _ _ _ _ _ _ h h1,h2⟩
theorem BS.pack{vs:List V}{cs:List Value}{f:List Nat}(h:BS w F vs cs f):BR w F (b0Q vs) (a9B cs) f:=by
 cases h with
 | nil=>exact .tup _ _ _ .nil
 | cons v c f vs cs fs h t =>
  cases t with
  | nil=>rw [d9X];exact .one _ _ _ h
  | cons v' c' f' vs' cs' fs' h' t'=>exact .tup _ _ _ (.cons _ _ _ _ _ _ h (.cons _ _ _ _ _ _ h' t'))
theorem F7.ret{X:K9}{res:V}{outs:List (Option V)}{ps:List Prop}(hf:cx.P.funcs[X.f]?=some X.fn)(hr:b5E cx X k S=some (res,outs,ps))(hob:∀p∈ps,p):F7 cx X res outs k S:=by
 obtain ⟨r,n,lg,hR,rfl,rfl,rfl,hk⟩:∃r n lg,b5S cx X S.t S.ent=some ((r,n),lg)/\b0Q (r.v.take n)=res/\a4A X.oms (r.v.drop n)=outs/\r.obl=ps/\(k=[]\/∃k',k=.code .ret::k'):=by
  unfold b5E at hr;split at hr<;>try (cases hr;done)
  all_goals
   split at hr<;>try (cases hr;done)
   rename_i r n lg hR;injection hr with hr;injection hr with h1 h2;injection h2 with h2 h3;first|exact ⟨r,n,lg,hR,h1,h2,h3,.inr ⟨_,rfl⟩⟩|exact ⟨r,n,lg,hR,h1,h2,h3,.inl rfl⟩
 intro w0 F0 fp cargs bs hp hF0 F ι a w b cs h hb1 hb2;unfold b5S at hR;obtain ⟨rv,l1,l2,g1,g2,_⟩:=i8.bind_some hR;obtain ⟨⟨ov,om⟩,l3,l4,g3,g4,_⟩:=i8.bind_some g2;obtain ⟨r',l5,l6,g5,g6,_⟩:=i8.bind_some g4;simp only at g6;split at g6<;>try (cases g6;done)
 rename_i hchk;have:=i8.pure_some g6;injection this with e1 e2;injection e1 with e1 e3;subst e1;subst e3;simp only [d9v] at hchk;obtain ⟨⟨hnk,hls⟩,hlen⟩:=hchk;have hnk':=a2j hnk;have hdis:∀id∈r.ls,id ∉ r.ks:=fun id hid=>a99 (List.all_eq_true.1 hls id hid)
 obtain ⟨rcs,q1,q2⟩:=c46 h g1;obtain ⟨ocs,q3,q4⟩:=a7j h hp g3;let F1:Nat->Prop:=fun k=>F k\/∃id∈r.ls,∃e,S.ent id.1 id.2=some e/\EB w e (ι id.1 id.2) k
 obtain ⟨fpx,hbs,hfps,hhk,hhl⟩:=b8I (F1:=F1) h (fun k x=>.inl x) (q2.app q3) g5 hob (fun id hid e k he hk=>.inr ⟨id,hid,e,he,hk⟩);obtain ⟨f1,f2,hf12,b1,b2⟩:=hbs.split;have hl2:rcs.length=rv.length:=q2.length.symm;rw [hl2] at b1 b2;have hfpn:=H2.nodup h hfps hnk';have hF1lt:∀k,F1 k->k<w.heap.size:=by
  rintro k (x|⟨id,hid,e,he,hb⟩)
  ·exact h.F1 k x
  ·obtain ⟨e',he',hl'⟩:=hhl id hid;have:e=e':=by rw [he] at he';injection he'
   subst this;exact h.lt he hl' hb
 have hfin:b8y w0 F0 fp cargs (b0Q (r.v.take rv.length)) (a4A X.oms (r.v.drop rv.length)) (.returned (a9B rcs)) w:=by
  refine ⟨a9B rcs,F1,f1,f2,rfl,h.kept,fun k x=>.inl (h.F0 k x),?_,b1.pack,q4 b2,?_,?_⟩
  ·rintro k x
   refine ⟨?_,hF1lt k x⟩;rcases x with x|⟨id,hid,e,he,hb⟩
   ·exact h.F2 k x
   ·obtain ⟨e',he',hl'⟩:=hhl id hid;have:e=e':=by rw [he] at he';injection he'
    subst this;exact .inr (h.sep _ _ _ k he hl' hb).2
  ·rw [<-hf12];exact hfpn
  ·intro k hk;rw [<-hf12] at hk;obtain ⟨id,hid,e,he,hl,hb⟩:=hfps.mem hk;obtain ⟨z1,z2⟩:=h.sep _ _ e k he hl hb;refine ⟨?_,z2,h.lt he hl hb⟩;rintro (x|⟨id',hid',e0,he0,hb'⟩)
   ·exact z1 x
   ·obtain ⟨e',he',hl'⟩:=hhl id' hid';have:e0=e':=by rw [he0] at he';injection he'
    subst this;obtain ⟨y1,y2⟩:=h.inj _ _ e _ _ _ k he he' hl hl' hb hb';have:id=id':=Prod.ext y1 y2;exact hdis id' hid' (this▸hid)
 have hres:=d6n (P:=cx.P) q1;rcases hk with rfl|⟨k',rfl⟩
 ·exact ⟨_,w,_,hfin,.one step_end,hb1,rfl,h.defers,hb2,X.fn,by show cx.P.funcs[b.fn]?=_;rw [hb1];exact hf,hres⟩
 ·exact ⟨_,w,_,hfin,.one step_ret,hb1,rfl,h.defers,hb2,X.fn,by show cx.P.funcs[b.fn]?=_;rw [hb1];exact hf,hres⟩
end
inductive Loc where
 | tmp (t:Nat)
 | sub (t i:Nat)
 | cell (g j i:Nat)
def St.get(S:St):Loc->Option V
 | .tmp t=>S.t[t]?
 | .sub t i=>match S.t[t]? with
  | some (.agg cs)=>cs[i]?
  | _=>none
 | .cell g j i=>match S.ent g j with
  | some (.var _ cs)=>cs[i]?
  | _=>none
def St.put(S:St)(l:Loc)(v:V):St :=
 match l with
 | .tmp t=>{S with t:=S.t.set t v}
 | .sub t i=>match S.t[t]? with
  | some (.agg cs)=>{S with t:=S.t.set t (.agg (cs.set i v))}
  | _=>S
 | .cell g j i=>match S.ent g j with
  | some (.var e cs)=>S.setE g j (.var e (cs.set i v))
  | _=>S
inductive Fix where
 | own (l:Loc) (e sz:Nat)
 | frz (l:Loc) (ck:Option Nat)
 | is (l:Loc) (v:V)
 | ent (g j:Nat) (e:n9)
 | plug (g j idx off:Nat) (r:List V) (e:Nat)
 | shut (g j n:Nat) (rows:List (List V))
 | ownD (l:Loc) (e sz:Nat)
 | kill (g j:Nat)
def V.isCell:V->Bool
 | .agg _ | .tup _ | .bot=>false
 | _=>true
def a4e(f:Fix)(S:St):Option (St×List Prop) :=
 match f with
 | .own l e sz=>match S.get l with
  | some .nil=>some (((S.more 1).lay S.h.length [.row e sz 0 []]).put l (.own S.h.length 0 sz 0 0),[])
  | _=>none
 | .frz l ck=>match S.get l with
  | some v=>if v.isCell then match fzP ck v S.ent with
   | some ((v',us,ps),_)=>some ((S.upds us).put l v',ps)
   | none=>none else none
  | none=>none
 | .is l v'=>match S.get l with
  | some v=>if v.isCell then some (S.put l v',[v=v']) else none
  | none=>none
 | .ent g j e'=>match S.ent g j with
  | some e=>some (S.setE g j e',[e=e'])
  | none=>none
 | .plug g j idx off r e=>match S.ent g j,r[off]? with
  | some (.deep o t sz n rows),some (.own g' j' sz' lo n')=>match N1 none (some e) (.own g' j' sz' lo n') S.ent with
   | some (f,_)=>if off+1<=sz/\a1h f.ks/\Z5 f.ks (g,j)=false then some (S.upds (C5 f.ks++[((g,j),.deep o t sz n (rows.set idx (u9 r off [f.v])))]),(rows[idx]?=some r)::f.obl) else none
   | none=>none
  | _,_=>none
 | .kill g j=>match S.ent g j with
  | some _=>some (S.setE g j .dead,[])
  | none=>none
 | .shut g j n' rows'=>match S.ent g j with
  | some (.deep o t sz n rows)=>some (S.setE g j (.deep false t sz n' rows'),[rows=rows',L4 rows',n=n'])
  | _=>none
 | .ownD l e sz=>match S.get l with
  | some .nil=>some (((S.more 1).lay S.h.length [.deep false e sz 0 []]).put l (.own S.h.length 0 sz 0 0),[])
  | _=>none
def a7T:List Fix->St->Option (St×List Prop)
 | [],S=>some (S,[])
 | f::fs,S=>match a4e f S with
  | some (S1,ps)=>match a7T fs S1 with
   | some (S2,qs)=>some (S2,ps++qs)
   | none=>none
  | none=>none
section
variable {cx:Cx} {Γ:J3} {F:Nat->Prop} {ι:Nat->Nat->Value} {S S':St} {a:Act} {w:World}
theorem RV.isCell{D:Nat->Prop}{v:V}{c:Value}(h:RV w F D ι v c)(hv:v.isCell=true):RC w F D ι v c:=by
 cases h with
 | one v c h =>
  cases h with
  | cell v c h=>exact h
  | agg cs ds h=>cases hv
 | tup cs ds h=>cases hv
 | any c=>cases hv
theorem p6.withT(h:p6 Γ F ι S a w){t:List V}(ht:r7 (RV w F S.D ι) t a.tmps.toList):p6 Γ F ι {S with t:=t} a w :=
 {F0:=h.F0,F1:=h.F1,F2:=h.F2,kept:=h.kept,tmps:=ht,ents:=h.ents,sep:=h.sep,inj:=h.inj,defers:=h.defers,pins:=h.pins}
theorem r7.set_left{α β:Type}{R:α->β->Prop}{x7:List α}{bs:List β}(h:r7 R x7 bs){i:Nat}{x y:α}(hx:x7[i]?=some x)(hy:∀b,R x b->R y b):r7 R (x7.set i y) bs:=by
 obtain ⟨b,hb,hr⟩:=h.get hx;have:=h.set i (hy b hr);rwa [U7 hb] at this
theorem p6.putL(h:p6 Γ F ι S a w){l:Loc}{v v':V}(hg:S.get l=some v)(hc:v.isCell=true)(hr:∀c,RC w F S.D ι v c->RC w F S.D ι v' c):p6 Γ F ι (S.put l v') a w:=by
 cases l with
 | tmp t =>
  exact h.withT (h.tmps.set_left hg fun c hv=>.one _ _ (.cell _ _ (hr c (hv.isCell hc))))
 | sub t i =>
  unfold St.get at hg;unfold St.put;simp only at hg ⊢;split at hg<;>try (cases hg;done)
  rename_i cs hcs;try rw [hcs]
  refine h.withT (h.tmps.set_left hcs fun c hv => ?_);cases hv with
  | one v c hv =>
   cases hv with
   | cell v c hv=>cases hv with|fv v c hv=>cases hv
   | agg cs ds hv=>exact .one _ _ (.agg _ _ (hv.set_left hg hr))
 | cell g j i =>
  unfold St.get at hg;unfold St.put;simp only at hg ⊢;split at hg<;>try (cases hg;done)
  rename_i e cs hcs;try rw [hcs]
  try simp only
  refine h.write hcs rfl ⟨rfl,rfl,rfl⟩ rfl (fun _ _=>rfl) (fun _ => ?_) (fun _ hk=>hk);obtain ⟨g0,cur,h1,h2,h3⟩:=h.ents g j _ hcs;exact ⟨g0,cur,h1,h2,(h3.set_left hg hr).imp fun _ _ x=>x.mono (fun _ _ _=>rfl) (fun _ y=>y) (fun k y=>L9.2 y) (fun _ _ _=>rfl)⟩
theorem b9p{grp:Nat}{new:List n9}{l:Loc}{v:V}(h:S.get l=some v)(hn:¬S.D grp):(S.lay grp new).get l=some v:=by
 cases l with
 | tmp t=>exact h
 | sub t i=>exact h
 | cell g j i =>
  unfold St.get at h ⊢;simp only at h ⊢;split at h<;>try (cases h;done)
  rename_i e cs hcs;have:g≠grp:=fun q=>hn (q▸St.D_of_ent hcs)
  rw [a4s this,hcs];exact h
theorem c5C{n:Nat}{l:Loc}{v:V}(h:S.get l=some v):(S.more n).get l=some v:=by
 cases l with
 | tmp t=>exact h
 | sub t i=>exact h
 | cell g j i =>
  unfold St.get at h ⊢;simp only at h ⊢;rw [a86];exact h
theorem c9f{e:Nat}{v:V}{H:Hp}{f:AR V}{lg:List (Nat×Nat)}(h:N1 none (some e) v H=some (f,lg)):f.ls=[]:=by
 unfold N1 at h;simp only at h;split at h
 ·have:=i8.pure_some h;injection this with h1 h2;rw [h1]
 cases v<;>try (cases h;done)
 case nil =>
  have:=i8.pure_some h;injection this with h1 h2;rw [h1]
 case own g j sz lo n =>
  cases lo with
  | succ q=>cases h
  | zero =>
   simp only at h;obtain ⟨en,l1,l2,hrd,hp,_⟩:=i8.bind_some h;cases en<;>try (cases hp;done)
   case row =>
    simp only at hp;split at hp<;>try (cases hp;done)
    have:=i8.pure_some hp;injection this with h1 h2;rw [h1]
   case deep o _ _ _ _ =>
    cases o<;>try (cases hp;done)
    simp only at hp;split at hp<;>try (cases hp;done)
    have:=i8.pure_some hp;injection this with h1 h2;rw [h1]
theorem d4C{g j idx off e:Nat}{r:List V}{ps:List Prop}(h:p6 Γ F ι S a w)(hf:a4e (.plug g j idx off r e) S=some (S',ps))(hob:∀p∈ps,p):p6 Γ F ι S' a w:=by
 unfold a4e at hf;simp only at hf;split at hf<;>try (cases hf;done)
 rename_i o t sz n rows g' j' sz' lo n' he hv;split at hf<;>try (cases hf;done)
 rename_i f lg hm;split at hf<;>try (cases hf;done)
 rename_i hcond;injection hf with hf;injection hf with h1 h2;subst h1;subst h2;obtain ⟨hoff,hks,hgj⟩:=hcond;have hr:rows[idx]?=some r:=hob _ (by simp);obtain ⟨flat,fs,hor,hkl,hrn,hl,hnd,hnr⟩:=h.ents g j _ he;have hidx:=(d9x.1 hr).1;have hpos:idx*sz+sz<=n*sz:=by rw [<-e0p];exact d92 _ (by omega)
 have hle:idx*sz+off+1<=rows.flatten.length:=by rw [a1I hl,hrn];omega
 have hmid:(rows.flatten.drop (idx*sz+off)).take 1=[.own g' j' sz' lo n']:=by
  have:(rows.flatten.drop (idx*sz+off)).take 1=(r.drop off).take 1:=by
   rw [<-a8s hl hr,List.drop_take,List.take_take,e0U];congr 1
   omega
  rw [this];obtain ⟨hlt,hv'⟩:=d9x.1 hv;rw [d97 hlt,hv'];rfl
 obtain ⟨fa,fm,fb,rfl,ka,km,kb⟩:=hkl.cut hle;rw [hmid] at km;obtain ⟨c,hc,hkc⟩:∃c,(flat.drop (idx*sz+off)).take 1=[c]/\RC w F S.D ι (.own g' j' sz' lo n') c:=by
  generalize (flat.drop (idx*sz+off)).take 1=cs at km;cases km with
  | cons v c f vs cs fs h t =>
   cases t;refine ⟨c,rfl,?_⟩;cases h with
   | rc h=>exact h
   | bc _ h=>cases h with
    | fv _ _ h=>exact .fv _ _ h
 obtain ⟨fp,hb,hfps,_⟩:=b6Y (F1:=F) h (fun _ x=>x) hkc hm (fun p hp=>hob p (d9z.2 (.inr hp))) (by rw [c9f hm];intro id hid;cases hid);have hbl:BL w F [f.v] [c] fp:=by
  have:=BL.cons _ _ _ _ _ _ hb .nil;simpa using this
 refine h.dput he hr (by simpa using hoff) hbl hfps (a2j hks) (fun q=>by rw [a4j.2 q] at hgj;cases hgj) ⟨rfl,rfl,rfl⟩ rfl (fun _ _=>rfl) ?_;intro flat2 ho2;have:=a51 ho2 hor (fun _ _=>rfl);subst this;have e1:u9 flat2 (idx*sz+off) [c]=flat2:=by
  unfold u9;rw [<-hc,d9N];have hl1:((flat2.drop (idx*sz+off)).take 1).length=1:=by rw [hc];rfl
  rw [hl1];have e2:∀k:Nat,flat2.take k++((flat2.drop k).take 1++flat2.drop (k+1))=flat2:=fun k=>by
   rw [<-e0U,e0d,e0d]
  exact e2 _
 rw [e1];exact ho2
theorem d18{g j n':Nat}{rows':List (List V)}{ps:List Prop}(h:p6 Γ F ι S a w)(hf:a4e (.shut g j n' rows') S=some (S',ps))(hob:∀p∈ps,p):p6 Γ F ι S' a w:=by
 unfold a4e at hf;simp only at hf;split at hf<;>try (cases hf;done)
 rename_i o t sz n rows he;injection hf with hf;injection hf with h1 h2;subst h1;subst h2;have hrr:rows=rows':=hob _ (by simp);have hnr:L4 rows':=hob _ (by simp);have hnn:n=n':=hob _ (by simp);subst hrr;subst hnn;refine h.write he rfl ⟨rfl,rfl,rfl⟩ rfl (fun _ _=>rfl) (fun _ => ?_) (fun k hk=>hk);obtain ⟨flat,fs,q1,q2,q3,q4,q5,q6⟩:=h.ents g j _ he;exact ⟨flat,fs,q1,q2.mono (fun _ _ _=>rfl) (fun _ x=>x) (fun k x=>L9.2 x) (fun _ _ _=>rfl) (fun _ _=>rfl),q3,q4,q5,fun _=>hnr⟩
theorem d1n{f:Fix}{ps:List Prop}(h:p6 Γ F ι S a w)(hf:a4e f S=some (S',ps))(hob:∀p∈ps,p):∃F' ι',p6 Γ F' ι' S' a w:=by
 unfold a4e at hf;split at hf
 ·rename_i l e sz;split at hf<;>try (cases hf;done)
  rename_i hg;injection hf with hf;injection hf with hf hf2;subst hf;have hn:¬(S.more 1).D S.h.length:=fun q=>by
   obtain ⟨x,hx⟩:=a7d.1 q;have:=(d9x.1 hx).1;omega
  have hlen:S.h.length<(S.more 1).h.length:=by simp [St.more,a1Z]
  have hor:OR w F e sz (.slice none 0 0) 0 []:=⟨[],⟨by simp,.inl ⟨rfl,rfl⟩⟩,.nil,rfl,by simp⟩
  have hno:∀(j:Nat) (e':n9) (k:Nat),([.row e sz 0 []]:List n9)[j]?=some e'->EB w e' (H4 ι S.h.length (.slice none 0 0) S.h.length j) k->False:=by
   intro j e' k he hk;rw [J7] at hk;cases j with
   | zero =>
    simp at he;subst he;cases hk
   | succ j=>simp at he
  have h1:=(h.more 1).lay hlen hn (new:=[.row e sz 0 []]) (ι':=H4 ι S.h.length (.slice none 0 0)) (fun g j q=>a7a q)
   (fun j e' he=>by
    cases j with
    | zero =>
     simp at he;subst he;rw [J7];exact hor
    | succ j=>simp at he)
   (fun j e' k he hl hk=>(hno j e' k he hk).elim)
   (fun j e' j' e'' k he he' hl hl' hk hk'=>(hno j e' k he hk).elim)
   (fun j e' g' j' e'' k he he' hl hl' hk=>(hno j e' k he hk).elim)
  refine ⟨F,_,h1.putL (b9p (c5C hg) hn) rfl fun c hc => ?_⟩;have hcn:c=.slice none 0 0:=by
   cases hc with
   | fv v c hc=>cases hc;rfl
  subst hcn;exact RC.whole (V3 hlen) J7 hor
 ·rename_i l ck;split at hf<;>try (cases hf;done)
  rename_i v hg;split at hf<;>try (cases hf;done)
  rename_i hcell;split at hf<;>try (cases hf;done)
  rename_i v' us fps lg hz;injection hf with hf;injection hf with hf hf2;subst hf;subst hf2;have hfr:∀c,RC w F S.D ι v c->∃F',(∀k,F k->F' k)/\p6 Γ F' ι (S.upds us) a w/\W1 S (S.upds us)/\FV w F' v' c:=fun c hc=>a8o h (W1.refl S) hc hz hob
  have hat:∃c,RC w F S.D ι v c:=by
   cases l with
   | tmp t =>
    obtain ⟨c,_,hv⟩:=h.tmps.get hg;exact ⟨c,hv.isCell hcell⟩
   | sub t i =>
    unfold St.get at hg;simp only at hg;split at hg<;>try (cases hg;done)
    rename_i cs hcs;obtain ⟨c,_,hv⟩:=h.tmps.get hcs;cases hv with
    | one v c hv =>
     cases hv with
     | cell v c hv=>cases hv with|fv v c hv=>cases hv
     | agg cs ds hv =>
      obtain ⟨c,_,hv⟩:=hv.get hg;exact ⟨c,hv⟩
   | cell g j i =>
    unfold St.get at hg;simp only at hg;split at hg<;>try (cases hg;done)
    rename_i e cs hcs;obtain ⟨g0,cur,h1,h2,h3⟩:=h.ents g j _ hcs;obtain ⟨c,_,hv⟩:=h3.get hg;exact ⟨c,hv⟩
  obtain ⟨c0,hc0⟩:=hat;obtain ⟨F',hF,hrel,hfz,hfv⟩:=hfr c0 hc0;clear hfr hfv;cases l with
  | tmp t =>
   obtain ⟨c,hct,hv⟩:=h.tmps.get hg;obtain ⟨F',hF,hrel,hfz,hfv⟩:=a8o h (W1.refl S) (hv.isCell hcell) hz hob;refine ⟨F',ι,?_⟩;have ht:(S.upds us).t=S.t:=hfz.2.2.1;show p6 Γ F' ι {S.upds us with t:=(S.upds us).t.set t v'} a w
   refine hrel.withT ?_;have:=hrel.tmps.set t (b:=c) (.one _ _ (.cell _ _ (.fv _ _ hfv)));rwa [U7 hct] at this
  | sub t i =>
   unfold St.get at hg;simp only at hg;split at hg<;>try (cases hg;done)
   rename_i cs hcs;obtain ⟨c,hct,hv⟩:=h.tmps.get hcs;cases hv with
   | one v c hv =>
    cases hv with
    | cell v c hv=>cases hv with|fv v c hv=>cases hv
    | agg cs ds hv =>
     obtain ⟨c,hci,hvi⟩:=hv.get hg;obtain ⟨F',hF,hrel,hfz,hfv⟩:=a8o h (W1.refl S) hvi hz hob;refine ⟨F',ι,?_⟩;have ht:(S.upds us).t=S.t:=hfz.2.2.1;unfold St.put;simp only [ht,hcs];have h2:=hrel.tmps;rw [ht] at h2;have:=hrel.withT (t:=S.t.set t (.agg (cs.set i v'))) ?_
     ·exact this
     ·have hagg:=h2.get hcs;obtain ⟨c',hct',hv'⟩:=hagg;rw [hct] at hct';injection hct' with hct';have hv2:r7 (RC w F' (S.upds us).D ι) cs ds:=by
       refine hv.imp fun _ _ x=>x.mono (fun _ _ _=>rfl) hF (fun k y=>(T9 S k us).2 y) (fun _ _ _=>rfl)
      have hset:=hv2.set i (b:=c) (.fv _ _ hfv);rw [U7 hci] at hset;have:=h2.set t (b:=.agg ds.toArray) (.one _ _ (.agg _ _ hset));rwa [U7 hct] at this
  | cell g j i =>
   unfold St.get at hg;simp only at hg;split at hg<;>try (cases hg;done)
   rename_i e cs hcs;obtain ⟨g0,cur,q1,q2,q3⟩:=h.ents g j _ hcs;obtain ⟨c,hci,hvi⟩:=q3.get hg;obtain ⟨F',hF,hrel,hfz,hfv⟩:=a8o h (W1.refl S) hvi hz hob;refine ⟨F',ι,?_⟩;have hcs':(S.upds us).ent g j=some (.var e cs):=by
    rcases hfz.2.2.2 _ _ _ hcs with q|⟨e',sz,n,rows,q,_⟩
    ·exact q
    ·cases q
   unfold St.put;simp only [hcs'];refine hrel.write hcs' rfl ⟨rfl,rfl,rfl⟩ rfl (fun _ _=>rfl) (fun _ => ?_) (fun _ hk=>hk);have hset:=(q3.imp fun _ _ x=>RC.mono (D':=((S.upds us).setE g j (.var e (cs.set i v'))).D) (F':=F') (w':=w) (ι':=ι) (fun _ _ _=>rfl) hF (fun k y=>L9.2 ((T9 S k us).2 y)) (fun _ _ _=>rfl) x).set i (b:=c) (.fv _ _ hfv);rw [U7 hci] at hset;exact ⟨g0,cur,q1,q2,hset⟩
 ·rename_i l v';split at hf<;>try (cases hf;done)
  rename_i v hg;split at hf<;>try (cases hf;done)
  rename_i hcell;injection hf with hf;injection hf with hf hf2;subst hf;subst hf2;have:v=v':=hob _ (by simp);subst this;exact ⟨F,ι,h.putL hg hcell fun _ x=>x⟩
 ·rename_i g j e';split at hf<;>try (cases hf;done)
  rename_i e he;injection hf with hf;injection hf with hf hf2;subst hf;subst hf2;have:e=e':=hob _ (by simp);subst this;have hset:S.setE g j e=S:=by
   obtain ⟨l,hl⟩:=St.D_of_ent he;rw [a02 hl];rw [a0e hl] at he;rw [U7 he,U7 hl]
  rw [hset];exact ⟨F,ι,h⟩
 ·rename_i g j idx off r e;exact ⟨F,ι,d4C (g:=g) (j:=j) (idx:=idx) (off:=off) (r:=r) (e:=e) h hf hob⟩
 ·rename_i g j;split at hf<;>try (cases hf;done)
  rename_i e he;injection hf with hf;injection hf with hf hf2;subst hf;exact ⟨F,ι,h.kill he⟩
 ·rename_i g j n' rows';exact ⟨F,ι,d18 (g:=g) (j:=j) (n':=n') (rows':=rows') h hf hob⟩
 ·rename_i l e sz;split at hf<;>try (cases hf;done)
  rename_i hg;injection hf with hf;injection hf with hf hf2;subst hf;have hn:¬(S.more 1).D S.h.length:=fun q=>by
   obtain ⟨x,hx⟩:=a7d.1 q;have:=(d9x.1 hx).1;omega
  have hlen:S.h.length<(S.more 1).h.length:=by simp [St.more,a1Z]
  have hor:OR w F e sz (.slice none 0 0) 0 []:=⟨[],⟨by simp,.inl ⟨rfl,rfl⟩⟩,.nil,rfl,by simp⟩
  have hno:∀(j:Nat) (e':n9) (k:Nat),([.deep false e sz 0 []]:List n9)[j]?=some e'->EB w e' (H4 ι S.h.length (.slice none 0 0) S.h.length j) k->False:=by
   intro j e' k he hk;rw [J7] at hk;cases j with
   | zero =>
    simp at he;subst he;have:=(EB.deep_iff (F:=F) (D:=S.D) (ι:=ι) (flat:=[]) (fs:=[]) ⟨by simp,.inl ⟨rfl,rfl⟩⟩ .nil).1 hk;simp [A9,z0] at this
   | succ j=>simp at he
  have h1:=(h.more 1).lay hlen hn (new:=[.deep false e sz 0 []]) (ι':=H4 ι S.h.length (.slice none 0 0)) (fun g j q=>a7a q)
   (fun j e' he=>by
    cases j with
    | zero =>
     simp at he;subst he;rw [J7];exact ⟨[],[],⟨by simp,.inl ⟨rfl,rfl⟩⟩,.nil,rfl,by simp,by simp [A9,z0],fun _=>by simp [L4]⟩
    | succ j=>simp at he)
   (fun j e' k he hl hk=>(hno j e' k he hk).elim)
   (fun j e' j' e'' k he he' hl hl' hk hk'=>(hno j e' k he hk).elim)
   (fun j e' g' j' e'' k he he' hl hl' hk=>(hno j e' k he hk).elim)
  refine ⟨F,_,h1.putL (b9p (c5C hg) hn) rfl fun c hc => ?_⟩;have hcn:c=.slice none 0 0:=by
   cases hc with
   | fv v c hc=>cases hc;rfl
  subst hcn;exact RC.whole (V3 hlen) J7 hor
theorem c9p(fs:List Fix):∀{S:St} {F:Nat->Prop} {ι:Nat->Nat->Value} {ps:List Prop},p6 Γ F ι S a w->a7T fs S=some (S',ps)->(∀p∈ps,p)->∃F' ι',p6 Γ F' ι' S' a w:=by
 induction fs with
 | nil =>
  intro S F ι ps h hf hob;injection hf with hf;injection hf with hf hf2;subst hf;exact ⟨F,ι,h⟩
 | cons f fs ih =>
  intro S F ι ps h hf hob;unfold a7T at hf;cases h1:a4e f S with
  | none=>rw [h1] at hf;cases hf
  | some x1 =>
  obtain ⟨S1,ps1⟩:=x1;rw [h1] at hf;simp only at hf;cases h2:a7T fs S1 with
  | none=>rw [h2] at hf;cases hf
  | some x2 =>
  obtain ⟨S2,ps2⟩:=x2;rw [h2] at hf;simp only at hf;injection hf with hf;injection hf with hf hf2;subst hf;subst hf2;obtain ⟨F1,ι1,h3⟩:=d1n h h1 (fun p hp=>hob p (List.mem_append.2 (.inl hp)));exact ih h3 h2 (fun p hp=>hob p (List.mem_append.2 (.inr hp)))
end
def a5q:List (Nat×Nat)->Nat×Nat->Nat->Option Nat
 | [],_,_=>none
 | y::l,x,i=>if y.1==x.1&&y.2==x.2 then some i else a5q l x (i+1)
def a7h(gs:List (Nat×Nat))(g j:Nat):Option (Nat×Nat) :=
 match a5q gs (g,j) 1 with
 | some i=>some (i,0)
 | none=>match g with
  | 0=>some (0,j)
  | _+1=>none
def Q4(gs:List (Nat×Nat))(v:V):V :=
 match v with
 | .own g j sz lo n=>match a7h gs g j with
  | some (g',j')=>.own g' j' sz lo n
  | none=>.bot
 | .ptr g j off=>match a7h gs g j with
  | some (g',j')=>.ptr g' j' off
  | none=>.bot
 | .eptr g j sz idx off=>match a7h gs g j with
  | some (g',j')=>.eptr g' j' sz idx off
  | none=>.bot
 | .fptr _=>.bot
 | .mp g j=>match a7h gs g j with
  | some (g',j')=>.mp g' j'
  | none=>.bot
 | v=>v
def a7Z(gs:List (Nat×Nat))(v:V):V :=
 match v with
 | .agg cs=>.agg (cs.map (Q4 gs))
 | v=>Q4 gs v
def b56(gs:List (Nat×Nat))(v:V):V :=
 match v with
 | .tup cs=>.tup (cs.map (a7Z gs))
 | v=>a7Z gs v
def a5m(gs:List (Nat×Nat))(e:n9):n9 :=
 match e with
 | .var e cs=>.var e (cs.map (Q4 gs))
 | .deep true _ _ _ _=>.dead
 | e=>e
def a49(gs:List (Nat×Nat)):Nat->List Nat->List V->List V
 | _,_,[]=>[]
 | i,[],_::vs=>.bot::a49 gs (i+1) [] vs
 | i,k::ks,v::vs=>if Nat.beq k i then b56 gs v::a49 gs (i+1) ks vs else .bot::a49 gs (i+1) (k::ks) vs
def a4K(S:St)(gs0:List (Nat×Nat)):List (Nat×Nat)->List (Option (List n9))
 | []=>[]
 | id::gs=>some [match S.ent id.1 id.2 with
  | some e=>a5m gs0 e
  | none=>.dead]::a4K S gs0 gs
def a5T(gs:List (Nat×Nat)):Nat->List n9->List n9
 | _,[]=>[]
 | j,e::es=>(match a5q gs (0,j) 1 with
  | some _=>.dead
  | none=>a5m gs e)::a5T gs (j+1) es
def Y1(keep:List Nat)(gs:List (Nat×Nat))(S:St):Option St :=
 if a1h gs then
  some {t:=a49 gs 0 keep S.t,h:=(match S.h with
   | some l::_=>some (a5T gs 0 l)
   | _=>none)::a4K S gs gs}
 else none
section
variable {cx:Cx} {Γ:J3} {F:Nat->Prop} {ι:Nat->Nat->Value} {S S':St} {a:Act} {w:World} {keep:List Nat}
theorem c0A:∀{l:List (Nat×Nat)} {x:Nat×Nat} {i k:Nat},a5q l x i=some k->i<=k/\l[k-i]?=some x
 | [],x,i,k,h=>by cases h
 | y::l,x,i,k,h=>by
  unfold a5q at h;split at h
  ·rename_i q;injection h with h;subst h;simp at q;have:y=x:=Prod.ext q.1 q.2;exact ⟨d9K _,by simp [this]⟩
  ·obtain ⟨h1,h2⟩:=c0A h;refine ⟨by omega,?_⟩;have:k-i=(k-(i+1))+1:=by omega
   rw [this];simpa using h2
def a2I(ι:Nat->Nat->Value)(gs:List (Nat×Nat))(g j:Nat):Value :=
 match g with
 | 0=>ι 0 j
 | g+1=>match gs[g]? with
  | some id=>ι id.1 id.2
  | none=>.nilFunc
theorem b5U{gs0:List (Nat×Nat)}:∀{gs:List (Nat×Nat)} {i:Nat} {id:Nat×Nat},gs[i]?=some id->(a4K S gs0 gs)[i]?=some (some [match S.ent id.1 id.2 with
  | some e=>a5m gs0 e
  | none=>.dead])
 | id'::gs,0,id,h=>by simp at h;subst h;simp [a4K]
 | id'::gs,i+1,id,h=>by simp at h;simp [a4K,b5U h]
theorem c51{gs0:List (Nat×Nat)}:∀{gs:List (Nat×Nat)},(a4K S gs0 gs).length=gs.length
 | []=>rfl
 | _::gs=>by simp [a4K,c51]
theorem c44{gs:List (Nat×Nat)}(hp:Y1 keep gs S=some S')(hD:S.D 0):S'.D 0:=by
 unfold Y1 at hp;split at hp<;>try (cases hp;done)
 injection hp with hp;subst hp;obtain ⟨l,hl⟩:=hD;have:∃t,S.h=some l::t:=by
  cases hh:S.h with
  | nil=>rw [hh] at hl;simp at hl
  | cons x t=>rw [hh] at hl;simp at hl;exact ⟨t,by rw [hl]⟩
 obtain ⟨t,ht⟩:=this;rw [ht];exact ⟨_,rfl⟩
theorem a8j{gs:List (Nat×Nat)}(hp:Y1 keep gs S=some S'){g j g' j':Nat}(hn:a7h gs g j=some (g',j'))(hD:S.D g):S'.D g'/\a2I ι gs g' j'=ι g j:=by
 unfold a7h at hn;split at hn
 ·rename_i i hi;injection hn with hn;injection hn with h1 h2;subst h1;subst h2;unfold Y1 at hp;split at hp<;>try (cases hp;done)
  injection hp with hp;subst hp;obtain ⟨h3,h4⟩:=c0A hi;obtain ⟨m,rfl⟩:∃m,i=m+1:=⟨i-1,by omega⟩
  simp only [Nat.add_sub_cancel] at h4;refine ⟨⟨_,(e0r).trans (b5U h4)⟩,?_⟩;simp [a2I,h4]
 ·split at hn<;>try (cases hn;done)
  injection hn with hn;injection hn with h1 h2;subst h1;subst h2;exact ⟨c44 hp hD,rfl⟩
theorem c5B:∀{l:List (Nat×Nat)} {x:Nat×Nat} {i:Nat},a5q l x i=none->x ∉ l
 | [],x,i,_=>by simp
 | y::l,x,i,h=>by
  unfold a5q at h;split at h
  ·cases h
  ·rename_i q;intro hx;rcases d9z.1 hx with rfl|hx
   ·simp at q
   ·exact c5B h hx
theorem b8w{gs:List (Nat×Nat)}:∀{l:List n9} {i j:Nat} {e:n9},(a5T gs i l)[j]?=some e->e=.dead\/∃e0,l[j]?=some e0/\e=a5m gs e0/\(0,i+j) ∉ gs
 | [],i,j,e,h=>by simp [a5T] at h
 | e1::l,i,0,e,h=>by
  simp only [a5T,e0l] at h;injection h with h;split at h
  ·exact .inl h.symm
  ·rename_i hq;exact .inr ⟨e1,rfl,h.symm,by simpa using c5B hq⟩
 | e1::l,i,j+1,e,h=>by
  simp only [a5T,e0r] at h;rcases b8w h with h1|⟨e0,h1,h2,h3⟩
  ·exact .inl h1
  ·exact .inr ⟨e0,by simpa using h1,h2,by rw [show i+(j+1)=i+1+j by omega];exact h3⟩
theorem RC.ren{gs:List (Nat×Nat)}(hp:Y1 keep gs S=some S'){v:V}{c:Value}(h:RC w F S.D ι v c):RC w F S'.D (a2I ι gs) (Q4 gs v) c:=by
 cases h with
 | fv v c h =>
  have:Q4 gs v=v:=by cases h<;>rfl
  rw [this];exact .fv _ _ h
 | own g j sz lo n b nn cap hD hι hlo hb0 hb1 =>
  unfold Q4;simp only;split
  ·rename_i g' j' hn;obtain ⟨h1,h2⟩:=a8j (ι:=ι) hp hn hD;exact .own g' j' sz lo n b nn cap h1 (h2.trans hι) hlo hb0 hb1
  ·exact .fv _ _ (.bot _ rfl)
 | own0 g j sz lo b cap hD hlo =>
  unfold Q4;simp only;split
  ·rename_i g' j' hn;obtain ⟨h1,h2⟩:=a8j (ι:=ι) hp hn hD;exact .own0 g' j' sz lo b cap h1 hlo
  ·exact .fv _ _ (.bot _ rfl)
 | ptr g j off z0 hD hι =>
  unfold Q4;simp only;split
  ·rename_i g' j' hn;obtain ⟨h1,h2⟩:=a8j (ι:=ι) hp hn hD;exact .ptr g' j' off z0 h1 (h2.trans hι)
  ·exact .fv _ _ (.bot _ rfl)
 | eptr g j sz idx off b hD hι =>
  unfold Q4;simp only;split
  ·rename_i g' j' hn;obtain ⟨h1,h2⟩:=a8j (ι:=ι) hp hn hD;exact .eptr g' j' sz idx off b h1 (by rw [h2];exact hι)
  ·exact .fv _ _ (.bot _ rfl)
 | fptr cs g o ds hF h hs=>exact .fv _ _ (.bot _ rfl)
 | mp g j z0 hD hι =>
  unfold Q4;simp only;split
  ·rename_i g' j' hn;obtain ⟨h1,h2⟩:=a8j (ι:=ι) hp hn hD;exact .mp g' j' z0 h1 (h2.trans hι)
  ·exact .fv _ _ (.bot _ rfl)
theorem r7.maps{α α' β:Type}{R:α->β->Prop}{R':α'->β->Prop}(f:α->α')(hf:∀x y,R x y->R' (f x) y):∀{x7 bs},r7 R x7 bs->r7 R' (x7.map f) bs
 | _,_,.nil=>.nil
 | _,_,.cons h t=>.cons (hf _ _ h) (t.maps f hf)
theorem RA.ren{gs:List (Nat×Nat)}(hp:Y1 keep gs S=some S'){v:V}{c:Value}(h:RA w F S.D ι v c):RA w F S'.D (a2I ι gs) (a7Z gs v) c:=by
 cases h with
 | cell v c h =>
  have:a7Z gs v=Q4 gs v:=by
   cases h with
   | fv v c h=>cases h<;>rfl
   | _=>rfl
  rw [this];exact .cell _ _ (h.ren hp)
 | agg cs ds h=>exact .agg _ _ (h.maps _ fun _ _ x=>x.ren hp)
theorem RV.ren{gs:List (Nat×Nat)}(hp:Y1 keep gs S=some S'){v:V}{c:Value}(h:RV w F S.D ι v c):RV w F S'.D (a2I ι gs) (b56 gs v) c:=by
 cases h with
 | one v c h =>
  have:b56 gs v=a7Z gs v:=by
   cases h with
   | cell v c h =>
    cases h with
    | fv v c h=>cases h<;>rfl
    | _=>rfl
   | agg cs ds h=>rfl
  rw [this];exact .one _ _ (h.ren hp)
 | tup cs ds h=>exact .tup _ _ (h.maps _ fun _ _ x=>x.ren hp)
 | any c=>exact .any c
theorem b2h{gs:List (Nat×Nat)}(hp:Y1 keep gs S=some S'):∀{vs:List V} {cs:List Value},r7 (RV w F S.D ι) vs cs->∀(i:Nat) (ks:List Nat),r7 (RV w F S'.D (a2I ι gs)) (a49 gs i ks vs) cs
 | _,_,.nil,i,ks=>by cases ks<;>exact .nil
 | _,_,.cons h t,i,[]=>.cons (.any _) (b2h hp t _ _)
 | _,_,.cons h t,i,k::ks=>by
  unfold a49;split
  ·exact .cons (h.ren hp) (b2h hp t _ _)
  ·exact .cons (.any _) (b2h hp t _ _)
theorem b0P{gs:List (Nat×Nat)}(hp:Y1 keep gs S=some S'){g j:Nat}{e:n9}(he:S'.ent g j=some e):e=.dead\/∃g0 j0 e0,S.ent g0 j0=some e0/\e=a5m gs e0/\a2I ι gs g j=ι g0 j0/\((g=0/\g0=0/\j=j0/\(0,j) ∉ gs)\/(∃i,g=i+1/\j=0/\gs[i]?=some (g0,j0))):=by
 unfold Y1 at hp;split at hp<;>try (cases hp;done)
 injection hp with hp;subst hp;cases g with
 | zero =>
  unfold St.ent at he;simp only [e0l] at he;split at he<;>try (cases he;done)
  rename_i l hl;injection hl with hl;split at hl<;>try (cases hl;done)
  rename_i l0 t hh;injection hl with hl;subst hl;rcases b8w he with h1|⟨e0,h1,h2,h3⟩
  ·exact .inl h1
  ·exact .inr ⟨0,j,e0,by unfold St.ent;rw [hh];exact h1,h2,rfl,.inl ⟨rfl,rfl,rfl,by simpa using h3⟩⟩
 | succ i =>
  unfold St.ent at he;simp only [e0r] at he;split at he<;>try (cases he;done)
  rename_i l hl;have hlt:i<gs.length:=by
   have:=(d9x.1 hl).1;rwa [c51] at this
  have hgi:gs[i]?=some gs[i]:=d9t hlt;generalize gs[i]=id at hgi;rw [b5U hgi] at hl;injection hl with hl;injection hl with hl;subst hl;cases j with
  | succ j=>simp at he
  | zero =>
   simp only [e0l] at he;injection he with he;cases hx:S.ent id.1 id.2 with
   | none=>rw [hx] at he;exact .inl he.symm
   | some e0 =>
    rw [hx] at he;exact .inr ⟨id.1,id.2,e0,hx,he.symm,by simp [a2I,hgi],.inr ⟨i,rfl,rfl,hgi⟩⟩
theorem c99{α:Type}{l:List α}(h:l.Nodup){i j:Nat}{x:α}(hi:l[i]?=some x)(hj:l[j]?=some x):i=j:=by
 obtain ⟨h1,h2⟩:=d9x.1 hi;obtain ⟨h3,h4⟩:=d9x.1 hj;exact (List.getElem_inj h).1 (h2.trans h4.symm)
theorem d42{gs:List (Nat×Nat)}(h:p6 Γ F ι S a w)(hp:Y1 keep gs S=some S'):∃ι',p6 Γ F ι' S' a w:=by
  have hnd:gs.Nodup:=by
    unfold Y1 at hp;split at hp<;>try (cases hp;done)
    rename_i hchk;exact a2j hchk
  have hlive:∀e:n9,(a5m gs e).live=true->e.live=true/\∀c k,EB w (a5m gs e) c k->EB w e c k:=by
    intro e he;cases e with
    | deep o e sz n rows =>
      cases o with
      | true=>cases he
      | false=>exact ⟨rfl,fun _ _ hk=>hk⟩
    | _=>exact ⟨he,fun _ _ hk=>hk⟩
  have ht:S'.t=a49 gs 0 keep S.t:=by
    unfold Y1 at hp;split at hp<;>try (cases hp;done)
    injection hp with hp;subst hp;rfl
  refine ⟨a2I ι gs,?_⟩;exact
    { F0:=h.F0,F1:=h.F1,F2:=h.F2,kept:=h.kept
      tmps:=by rw [ht];exact b2h hp h.tmps 0 keep
      ents:=fun g j e he=>by
        rcases b0P (ι:=ι) hp he with rfl|⟨g0,j0,e0,h0,rfl,h2,_⟩
        · trivial
        · rw [h2];have hr:=h.ents _ _ _ h0;cases e0 with
          | var e cs =>
            obtain ⟨g1,cur,q1,q2,q3⟩:=hr;exact ⟨g1,cur,q1,q2,q3.maps _ fun _ _ x=>x.ren hp⟩
          | dead=>exact hr
          | arr e sz n rows=>exact hr
          | row e sz n rows=>exact hr
          | frz sz n rows=>exact hr
          | map t m es=>exact hr
          | deep o e sz n rows =>
            cases o with
            | true=>trivial
            | false =>
              obtain ⟨flat,fs,q1,q2,q3,q4,q5,q6⟩:=hr;exact ⟨flat,fs,q1,(q2.blOf (q6 rfl).flat).kl,q3,q4,q5,q6⟩
      sep:=fun g j e k he hl hk=>by
        rcases b0P (ι:=ι) hp he with rfl|⟨g0,j0,e0,h0,rfl,h2,_⟩
        · cases hl
        · rw [h2] at hk;exact h.sep _ _ _ k h0 (hlive _ hl).1 ((hlive _ hl).2 _ _ hk)
      inj:=fun g1 j1 e1 g2 j2 e2 k he1 he2 hl1 hl2 hk1 hk2=>by
        rcases b0P (ι:=ι) hp he1 with rfl|⟨x1,y1,z1,a1,rfl,b1,c1⟩
        · cases hl1
        rcases b0P (ι:=ι) hp he2 with rfl|⟨x2,y2,z2,a2,rfl,b2,c2⟩
        · cases hl2
        rw [b1] at hk1;rw [b2] at hk2;obtain ⟨q1,q2⟩:=h.inj _ _ _ _ _ _ k a1 a2 (hlive _ hl1).1 (hlive _ hl2).1 ((hlive _ hl1).2 _ _ hk1) ((hlive _ hl2).2 _ _ hk2);rcases c1 with ⟨u1,u2,u3,u4⟩|⟨i1,u1,u2,u3⟩<;>rcases c2 with ⟨v1,v2,v3,v4⟩|⟨i2,v1,v2,v3⟩
        · exact ⟨by omega,by omega⟩
        · refine absurd (d9G v3) ?_;rw [<-q1,<-q2,u2,<-u3];exact u4
        · refine absurd (d9G u3) ?_;rw [q1,q2,v2,<-v3];exact v4
        · rw [q1,q2] at u3;have:=c99 hnd u3 v3;exact ⟨by omega,by omega⟩
      defers:=h.defers
      pins:=fun j c hc=>by
        obtain ⟨h1,h2⟩:=h.pins j c hc;exact ⟨c44 hp h1,h2⟩}
end
def a6U(cx:Cx)(k:List Item)(S:St)(sc:P8)(fs:List Fix)(keep:List Nat)(gs:List (Nat×Nat)):Option (List Item×St×List Prop) :=
 match goM cx 4000 k S sc with
 | some (k1,S1,ps)=>match a7T fs S1 with
  | some (S2,qs)=>match Y1 keep gs S2 with
   | some S3=>some (k1,S3,ps++qs)
   | none=>none
  | none=>none
 | none=>none
theorem F7.seg0{cx:Cx}{X:K9}{res:V}{outs:List (Option V)}{k k':List Item}{S S':St}{sc:P8}{fs:List Fix}{keep:List Nat}{gs:List (Nat×Nat)}{ps:List Prop}(hg:a6U cx k S sc fs keep gs=some (k',S',ps))(hob:∀p∈ps,p)(h:F7 cx X res outs k' S'):F7 cx X res outs k S:=by
 unfold a6U at hg;split at hg<;>try (cases hg;done)
 rename_i k1 S1 ps' h1;split at hg<;>try (cases hg;done)
 rename_i S2 qs h2;split at hg<;>try (cases hg;done)
 rename_i S3 h3;injection hg with hg;injection hg with e1 e2;injection e2 with e2 e3;subst e1;subst e2;subst e3;refine F7.go h1 (fun p hp=>hob p (List.mem_append.2 (.inl hp))) ?_;intro w0 F0 fp cargs bs hp hF0 F ι a w b cs hrel hb1 hb2;obtain ⟨F',ι',hrel'⟩:=c9p fs hrel h2 (fun p hp=>hob p (List.mem_append.2 (.inr hp)));obtain ⟨ι2,hrel2⟩:=d42 hrel' h3;exact h w0 F0 fp cargs bs hp hF0 F' ι2 a w b cs hrel2 hb1 hb2
def a6z(cx:Cx)(X:K9)(k:List Item)(S:St)(sc:P8):Option (V×List (Option V)×List Prop) :=
 match goM cx 4000 k S sc with
 | some (k1,S1,ps)=>match b5E cx X k1 S1 with
  | some (res,outs,qs)=>some (res,outs,ps++qs)
  | none=>none
 | none=>none
theorem F7.fin0{cx:Cx}{X:K9}{res:V}{outs:List (Option V)}{k:List Item}{S:St}{sc:P8}{ps:List Prop}(hf:cx.P.funcs[X.f]?=some X.fn)(hg:a6z cx X k S sc=some (res,outs,ps))(hob:∀p∈ps,p):F7 cx X res outs k S:=by
 unfold a6z at hg;split at hg<;>try (cases hg;done)
 rename_i k1 S1 ps' h1;split at hg<;>try (cases hg;done)
 rename_i r o qs h2;injection hg with hg;injection hg with e1 e2;injection e2 with e2 e3;subst e1;subst e2;subst e3;exact F7.go h1 (fun p hp=>hob p (List.mem_append.2 (.inl hp))) (F7.ret hf h2 fun p hp=>hob p (List.mem_append.2 (.inr hp)))
def J9:List Prop->Prop
 | []=>True
 | p::ps=>p/\J9 ps
theorem J9.mem:∀{ps:List Prop},J9 ps->∀p∈ps,p
 | _::_,h,p,hp=>by
  rcases d9z.1 hp with rfl|hp
  ·exact h.1
  ·exact J9.mem h.2 p hp
theorem J9.nil:J9 []:=trivial
theorem F7.seg{cx:Cx}{X:K9}{res:V}{outs:List (Option V)}{k k':List Item}{S S':St}(sc:P8)(fs:List Fix)(keep:List Nat)(gs:List (Nat×Nat))(ps:List Prop)(hob:J9 ps)(h:F7 cx X res outs k' S')(hg:a6U cx k S sc fs keep gs=some (k',S',ps)):F7 cx X res outs k S :=
 F7.seg0 hg hob.mem h
theorem F7.fin{cx:Cx}{X:K9}{res:V}{outs:List (Option V)}{k:List Item}{S:St}(hf:cx.P.funcs[X.f]?=some X.fn)(sc:P8)(ps:List Prop)(hob:J9 ps)(hg:a6z cx X k S sc=some (res,outs,ps)):F7 cx X res outs k S :=
 F7.fin0 hf hg hob.mem
def a28:V->Bool
 | .osl .. | .dsl .. | .optr .. => true
 | _=>false
def a0v:List (Option Nat)->List V->Bool
 | [],[]=>true
 | none::om,.osl .. :: _=>false
 | none::om,.dsl .. :: _=>false
 | none::om,_::vs=>a0v om vs
 | some _::om,.osl .. :: vs=>a0v om vs
 | some _::om,.dsl .. :: vs=>a0v om vs
 | _,_=>false
def c3d:PM->V->Bool
 | .val _ om,.agg vs=>a0v om vs
 | .val ..,_=>false
 | .part,_=>false
 | _,v=>a28 v
def a2e:Nat->List (Option (Nat×PM))->List V->Bool
 | _,[],[]=>true
 | j,none::os,v::vs=>a2e (j+(F8 0 j v).2.length) os vs
 | j,some (j',m)::os,v::vs=>Nat.beq j' j&&c3d m v&&a2e (j+(F8 0 j v).2.length) os vs
 | _,_,_=>false
def b0g:Nat->List V
 | 0=>[]
 | n+1=>.bot::b0g n
def a6Q(X:K9)(args:List V):St :=
 let x:=Q5 0 0 args
 {t:=x.1++b0g (X.fn.ntmps-args.length),h:=[some x.2]}
section
variable {w:World} {F:Nat->Prop}
theorem c7I{v:V}{c:Value}{f:List Nat}(h:BA w F v c f)(j:Nat):∃bs:List Value,bs.length=(F8 0 j v).2.length/\D9 w (F8 0 j v).2 bs f/\(a28 v=true->bs.head?=some c)/\
  ∀(D:Nat->Prop) (ι:Nat->Nat->Value),D 0->At ι 0 j bs->f.Nodup->RA w F D ι (F8 0 j v).1 c/\V9 w F D ι (F8 0 j v).2 bs:=by
 by_cases ho:a28 v=true
 ·cases h with
  | cell v c f h =>
   cases h with
   | fv v c h=>cases h<;>cases ho
   | osl e sz n rows c h =>
    refine ⟨[c],rfl,.one fun k hk=>L2.2 hk,fun _=>rfl,fun D ι hD hat _=>⟨.cell _ _ (RC.whole hD (hat 0 c rfl) h),?_⟩⟩;intro k e' b he hb;cases k with
    | zero =>
     simp [F8,F6] at he hb;subst he;subst hb;exact h
    | succ k=>simp [F8,F6] at he
   | dsl e sz n rows c flat fs h1 h2 h3 h4 =>
    obtain ⟨bs,q1,q2,q3⟩:=b1a (grp:=0) (BC.dsl e sz n rows c flat fs h1 h2 h3 h4) j;refine ⟨[c],rfl,.one fun k hk=>(EB.deep_iff (D:=fun _=>True) (ι:=fun _ _=>.nilFunc) h1 h2.kl).1 hk,fun _=>rfl,fun D ι hD hat hnd=>⟨.cell _ _ (RC.wholeO hD (hat 0 c rfl) h1),?_⟩⟩;intro k e' b he hb;cases k with
    | zero =>
     simp [F8,F6] at he hb;subst he;subst hb;exact ⟨flat,fs,h1,h2.kl,h3,h4,hnd,fun _=>L4.of_flat h2.noRef⟩
    | succ k=>simp [F8,F6] at he
  | agg cs ds f h=>cases ho
  | optr e cs g cur f hg h =>
   obtain ⟨bs,h1,h2,h3⟩:=a4x (grp:=0) h (j+1);refine ⟨.pointer (some ⟨g,0,none⟩)::bs,by simp [F8,h1],?_,fun _=>rfl,fun D ι hD hat hnd => ?_⟩
   ·exact D9.cons (w:=w) (e:=.var e (G4 0 (j+1) cs).1) (b:=.pointer (some ⟨g,0,none⟩)) (f1:=[g]) (fun k hk=>by
     have hk:z0 (.pointer (some ⟨g,0,none⟩))=some k:=hk;simp [z0] at hk;simp [hk]) h2
   have hat':At ι 0 (j+1) bs:=fun k b hb=>by
    have:=hat (k+1) b (by simpa using hb);rw [<-this];congr 1;omega
   obtain ⟨x,y⟩:=h3 D ι hD hat' (e0x.1 hnd).2;refine ⟨.cell _ _ (.ptr 0 j 0 g hD (hat 0 _ rfl)),?_⟩;intro k e' b he hb;cases k with
   | zero =>
    simp [F8] at he hb;subst he;subst hb;exact ⟨g,cur,rfl,hg,x⟩
   | succ k=>exact y k e' b (by simpa [F8] using he) (by simpa using hb)
 ·obtain ⟨bs,h1,h2,h3⟩:=b3I (grp:=0) h j;exact ⟨bs,h1,h2,fun q=>absurd q ho,h3⟩
theorem b4k{pre b1 b2:List Value}:∀{om:List (Option Nat)} {j:Nat} {ds:List Value},a3K (pre++b1) om j ds->a3K (pre++(b1++b2)) om j ds
 | [],_,[],_=>trivial
 | none::om,j,d::ds,h=>⟨h.1,b4k h.2⟩
 | some _::om,j,d::ds,h=>by
  refine ⟨?_,b4k h.2⟩;have h1:=h.1;rw [<-d9N,d9L (d9x.1 h1).1];exact h1
 | [],_,_::_,h=>h.elim
 | none::_,_,[],h=>h.elim
 | some _::_,_,[],h=>h.elim
theorem c6d:∀{vs:List V} {cs:List Value} {f:List Nat},BL w F vs cs f->∀j,∃bs:List Value,bs.length=(G4 0 j vs).2.length/\D9 w (G4 0 j vs).2 bs f/\
    (∀(om:List (Option Nat)) (pre:List Value),pre.length=j->a0v om vs=true->a3K (pre++bs) om j cs)/\
    ∀(D:Nat->Prop) (ι:Nat->Nat->Value),D 0->At ι 0 j bs->f.Nodup->r7 (RC w F D ι) (G4 0 j vs).1 cs/\V9 w F D ι (G4 0 j vs).2 bs
  | _,_,_,.nil,j=>⟨[],rfl,.nil,fun om pre _ h=>by cases om with|nil=>trivial|cons o om=>cases o<;>simp [a0v] at h,fun D ι hD hat _=>⟨.nil,fun k e b he=>by simp [G4] at he⟩⟩
  | _,_,_,.cons v c f vs cs fs h t,j=>by
    have hone:=h.one;have hb:∃b1:List Value,b1.length=(F6 0 j v).2.length/\D9 w (F6 0 j v).2 b1 f/\(a28 v=true->b1=[c])/\(a28 v=false->b1=[])/\∀(D:Nat->Prop) (ι:Nat->Nat->Value),D 0->At ι 0 j b1->f.Nodup->RC w F D ι (F6 0 j v).1 c/\V9 w F D ι (F6 0 j v).2 b1:=by
      cases h with
      | fv v c h =>
        obtain ⟨b1,q1,q2,q3⟩:=b1a (grp:=0) (BC.fv (w:=w) v c h) j;have hv:(F6 0 j v).2=[]/\a28 v=false:=by cases h<;>exact ⟨rfl,rfl⟩
        have:b1=[]:=d9D (by rw [q1,hv.1];rfl);exact ⟨b1,q1,q2,fun q=>by (rw [hv.2] at q;cases q),fun _=>this,q3⟩
      | osl e sz n rows c h =>
        refine ⟨[c],rfl,.one fun k hk=>L2.2 hk,fun _=>rfl,(fun q=>by cases q),fun D ι hD hat _=>⟨RC.whole hD (hat 0 c rfl) h,?_⟩⟩;intro k e' b he hb;cases k with
        | zero =>
          simp [F6] at he hb;subst he;subst hb;exact h
        | succ k=>simp [F6] at he
      | dsl e sz n rows c flat fs h1 h2 h3 h4 =>
        refine ⟨[c],rfl,.one fun k hk=>(EB.deep_iff (D:=fun _=>True) (ι:=fun _ _=>.nilFunc) h1 h2.kl).1 hk,fun _=>rfl,(fun q=>by cases q),fun D ι hD hat hnd=>⟨RC.wholeO hD (hat 0 c rfl) h1,?_⟩⟩;intro k e' b he hb;cases k with
        | zero =>
          simp [F6] at he hb;subst he;subst hb;exact ⟨flat,fs,h1,h2.kl,h3,h4,hnd,fun _=>L4.of_flat h2.noRef⟩
        | succ k=>simp [F6] at he
    obtain ⟨b1,hl1,hf1,hi1,hi0,h1⟩:=hb;obtain ⟨b2,hl2,hf2,hp2,h2⟩:=c6d t (j+(F6 0 j v).2.length);refine ⟨b1++b2,by simp [G4,hl1,hl2],hf1.append hf2 hl1,?_,fun D ι hD hat hnd => ?_⟩
    · intro om pre hpre hok;have hnext:∀om,a0v om vs=true->a3K (pre++(b1++b2)) om (j+(F6 0 j v).2.length) cs:=by
        intro om hok;have:=hp2 om (pre++b1) (by simp [hpre,hl1]) hok;rwa [d9N] at this
      cases om with
      | nil=>simp [a0v] at hok
      | cons o om =>
        by_cases hv:a28 v=true
        · obtain rfl:=hi1 hv;have hlen:(F6 0 j v).2.length=1:=by rw [<-hl1];rfl
          rw [hlen] at hnext;cases o with
          | none => cases v<;>first|(cases hv;done)|(simp [a0v] at hok;done)|skip
                    cases h;rename_i h;cases h
          | some e =>
            refine ⟨?_,hnext om ?_⟩
            · rw [d9H (by omega)];simp [hpre]
            · cases v<;>first|(cases hv;done)|(simpa [a0v] using hok)|(simp [a0v] at hok;done)
        · have hv:a28 v=false:=by simpa using hv
          obtain rfl:=hi0 hv;have hlen:(F6 0 j v).2.length=0:=by rw [<-hl1];rfl
          rw [hlen] at hnext;cases o with
          | none =>
            refine ⟨hone,hnext om ?_⟩;cases v<;>first|(cases hv;done)|(simpa [a0v] using hok)
          | some e=>cases v<;>first|(cases hv;done)|(simp [a0v] at hok;done)
    · rw [d9A] at hnd;obtain ⟨x1,y1⟩:=h1 D ι hD hat.left hnd.1;obtain ⟨x2,y2⟩:=h2 D ι hD (by rw [<-hl1];exact hat.right) hnd.2.1;exact ⟨.cons x1 x2,y1.append y2 hl1.symm⟩
theorem d6j{v:V}{c:Value}{f:List Nat}(h:BA w F v c f)(j:Nat):∃bs:List Value,bs.length=(F8 0 j v).2.length/\D9 w (F8 0 j v).2 bs f/\
  (∀(m:PM) (oms:List (Option (Nat×PM))) (cs pre b2:List Value),pre.length=j->c3d m v=true->a0x oms cs (pre++(bs++b2))->a0x (some (j,m)::oms) (c::cs) (pre++(bs++b2)))/\
  ∀(D:Nat->Prop) (ι:Nat->Nat->Value),D 0->At ι 0 j bs->f.Nodup->RA w F D ι (F8 0 j v).1 c/\V9 w F D ι (F8 0 j v).2 bs:=by
 by_cases hv:∃cs,v=.agg cs
 ·obtain ⟨cs,rfl⟩:=hv;cases h with
  | cell v c f h=>cases h with|fv v c h=>cases h
  | agg cs ds f h =>
   obtain ⟨bs,h1,h2,hp,h3⟩:=c6d h j;refine ⟨bs,h1,h2,?_,fun D ι hD hat hnd=>⟨.agg _ _ (h3 D ι hD hat hnd).1,(h3 D ι hD hat hnd).2⟩⟩;intro m oms cs' pre b2 hpre hm t;cases m with
   | val ck om=>exact .agg _ _ _ _ _ _ _ (b4k (hp om pre hpre hm)) t
   | ptr ck om=>cases hm
   | row=>cases hm
   | part=>cases hm
 ·obtain ⟨bs,h1,h2,hh,h3⟩:=c7I h j;refine ⟨bs,h1,h2,?_,h3⟩;intro m oms cs' pre b2 hpre hm t;cases m with
  | val ck om=>cases v<;>first|exact absurd ⟨_,rfl⟩ hv|cases hm
  | part=>cases hm
  | ptr ck om =>
   refine .pin _ _ _ _ _ _ rfl ?_ t;have:=hh hm;cases bs with
   | nil=>cases this
   | cons b b1 =>
    injection this with this;subst this;rw [d9H (by omega)];simp [hpre]
  | row =>
   refine .pin _ _ _ _ _ _ rfl ?_ t;have:=hh hm;cases bs with
   | nil=>cases this
   | cons b b1 =>
    injection this with this;subst this;rw [d9H (by omega)];simp [hpre]
theorem d7J{vs:List V}{cs:List Value}{f:List Nat}(h:BS w F vs cs f):∀j,∃bs:List Value,bs.length=(Q5 0 j vs).2.length/\D9 w (Q5 0 j vs).2 bs f/\
  (∀(oms:List (Option (Nat×PM))) (pre:List Value),pre.length=j->a2e j oms vs=true->a0x oms cs (pre++bs))/\
  ∀(D:Nat->Prop) (ι:Nat->Nat->Value),D 0->At ι 0 j bs->f.Nodup->r7 (RA w F D ι) (Q5 0 j vs).1 cs/\V9 w F D ι (Q5 0 j vs).2 bs:=by
 induction h with
 | nil =>
  refine fun j=>⟨[],rfl,.nil,fun oms pre _ hp => ?_,fun D ι hD hat _=>⟨.nil,fun k e b he=>by simp [Q5] at he⟩⟩
  cases oms with
  | nil=>exact .nil _
  | cons o oms=>cases o<;>simp [a2e] at hp
 | cons v c f vs cs fs h t ih =>
  intro j;obtain ⟨b1,hl1,hf1,hh1,h1⟩:=d6j h j;obtain ⟨b2,hl2,hf2,hp2,h2⟩:=ih (j+(F8 0 j v).2.length);refine ⟨b1++b2,by simp [Q5,hl1,hl2],hf1.append hf2 hl1,?_,fun D ι hD hat hnd => ?_⟩
  ·intro oms pre hpre hp;cases oms with
   | nil=>simp [a2e] at hp
   | cons o oms =>
    have hnext:∀oms,a2e (j+(F8 0 j v).2.length) oms vs=true->a0x oms cs (pre++(b1++b2)):=by
     intro oms hp;have:=hp2 oms (pre++b1) (by simp [hpre,hl1]) hp;rwa [d9N] at this
    cases o with
    | none=>exact .skip _ _ _ _ (hnext oms (by simpa [a2e] using hp))
    | some q =>
     obtain ⟨j',m⟩:=q;simp only [a2e,d9v] at hp;obtain ⟨⟨e1,e2⟩,e3⟩:=hp;have hj:j'=j:=e0a e1;subst hj;exact hh1 m oms cs pre b2 hpre e2 (hnext oms e3)
  ·rw [d9A] at hnd;obtain ⟨x1,y1⟩:=h1 D ι hD hat.left hnd.1;obtain ⟨x2,y2⟩:=h2 D ι hD (by rw [<-hl1];exact hat.right) hnd.2.1;exact ⟨.cons x1 x2,y1.append y2 hl1.symm⟩
theorem b9l{D:Nat->Prop}{ι:Nat->Nat->Value}:∀n,r7 (RV w F D ι) (b0g n) (d9u n undef)
 | 0=>.nil
 | n+1=>.cons (.any _) (b9l n)
theorem BS.len{vs:List V}{cs:List Value}{f:List Nat}(h:BS w F vs cs f):vs.length=cs.length:=by
 induction h with
 | nil=>rfl
 | cons _ _ _ _ _ _ _ _ ih=>simp [ih]
end
theorem a2i.of{cx:Cx}{X:K9}{args:List V}{res:V}{outs:List (Option V)}{c:Code}(hf:cx.P.funcs[X.f]?=some X.fn)(hb:X.fn.body=some c) (hn:(X.fn.name == "runtime.NumGoroutine")=false) (ho:a2e 0 X.oms args=true)
    (h:F7 cx X res outs [.code c] (a6Q X args)):a2i cx.P X.f args res outs:=by
  refine ⟨⟨X.fn,hf,hn,by rw [hb];rfl⟩,?_⟩;intro w F cargs fp hbs hfpn hfp hF;obtain ⟨bs,hl,hbf,hpin,hlie⟩:=d7J hbs 0;have hpin':=hpin X.oms [] rfl ho;rw [e0k] at hpin';obtain ⟨hargs,hents⟩:=hlie (a6Q X args).D (a2M (fun _ _=>.nilFunc) 0 bs) ⟨_,rfl⟩ (fun k b hb=>by rw [e0u];exact a2S hb) hfpn;have hent:∀g j e,(a6Q X args).ent g j=some e->g=0/\(Q5 0 0 args).2[j]?=some e:=by
    intro g j e he;unfold St.ent a6Q at he;cases g with
    | zero=>exact ⟨rfl,he⟩
    | succ g=>simp at he
  have hget:∀j e,(Q5 0 0 args).2[j]?=some e->∃b,bs[j]?=some b/\a2M (fun _ _=>.nilFunc) 0 bs 0 j=b:=by
    intro j e he;have hj:j<bs.length:=by rw [hl];exact (d9x.1 he).1
    exact ⟨bs[j],d9t hj,a2S (d9t hj)⟩
  have hrel:p6 ⟨w,F,(· ∈ fp),bs⟩ F (a2M (fun _ _=>.nilFunc) 0 bs) (a6Q X args) {tmps:=cargs.toArray++Array.replicate (X.fn.ntmps-cargs.toArray.size) undef,defers:=[]} w :=
    { F0:=fun _ x=>x,F1:=hF,F2:=fun _ x=>.inl x,kept:=.refl _ _
      tmps:=by
        show r7 _ ((Q5 0 0 args).1++b0g (X.fn.ntmps-args.length)) _
        simp only [Array.toList_append,Array.toList_replicate,e0Z];rw [hbs.len];exact (hargs.imp fun _ _ x=>RV.one _ _ x).app (b9l _)
      ents:=fun g j e he=>by
        obtain ⟨rfl,he⟩:=hent g j e he;obtain ⟨b,hb,hv⟩:=hget j e he;rw [hv];exact hents j e b he hb
      sep:=fun g j e k he hl' hk=>by
        obtain ⟨rfl,he⟩:=hent g j e he;obtain ⟨b,hb,hv⟩:=hget j e he;rw [hv] at hk;have:=hbf.mem he hb hk;exact ⟨(hfp k this).1,.inl this⟩
      inj:=fun g j e g' j' e' k he he' hl1 hl2 hk hk'=>by
        obtain ⟨rfl,he⟩:=hent g j e he;obtain ⟨rfl,he'⟩:=hent g' j' e' he';obtain ⟨b,hb,hv⟩:=hget j e he;obtain ⟨b',hb',hv'⟩:=hget j' e' he';rw [hv] at hk;rw [hv'] at hk';exact ⟨rfl,hbf.inj hfpn he hb hk he' hb' hk'⟩
      defers:=rfl
      pins:=fun j c hc=>⟨⟨_,rfl⟩,a2S hc⟩}
  intro cs;let b:Frame:={ (default:Frame) with fn:=X.f,kind:=.normal}
  have henter:Frame.enter cx.P X.f cargs.toArray .normal =
      b.at {tmps:=cargs.toArray++Array.replicate (X.fn.ntmps-cargs.toArray.size) undef,defers:=[]} [.code c]:=by
    simp [Frame.enter,Frame.at,hf,hb,b]
  obtain ⟨e,w',fr,h1,h2,h3,h4⟩:=h w F fp cargs bs hpin' hF F _ _ w b cs hrel rfl rfl;rw [<-henter] at h2;exact ⟨e,w',fr,h1,h2,h3,h4⟩
inductive j6 (R S B:Type) where
 | ret (r:R)
 | brk (b:B)
 | nxt (s:S)
inductive l7 (R B:Type) where
 | ret (r:R)
 | brk (b:B)
def X5{R S B:Type}(body:S->Option (j6 R S B)):Nat->S->Option (l7 R B)
 | 0,_=>none
 | n+1,s=>match body s with
  | some (.ret r)=>some (.ret r)
  | some (.brk s)=>some (.brk s)
  | some (.nxt s)=>X5 body n s
  | none=>none
open Classical in
def p8{R S B:Type}(body:S->Option (j6 R S B))(s:S):Option (l7 R B) :=
 if h:∃n r,X5 body n s=some r then some h.choose_spec.choose else none
theorem b3R{R S B:Type}{body:S->Option (j6 R S B)}:∀{n:Nat} {s:S} {r:l7 R B},X5 body n s=some r->∀m,n<=m->X5 body m s=some r
 | 0,s,r,h,_,_=>by cases h
 | n+1,s,r,h,0,hm=>by omega
 | n+1,s,r,h,m+1,hm=>by
  unfold X5 at h ⊢;cases hb:body s with
  | none=>rw [hb] at h;cases h
  | some st =>
   rw [hb] at h;cases st with
   | ret x=>exact h
   | brk x=>exact h
   | nxt x=>exact b3R h m (by omega)
theorem b7m{R S B:Type}{body:S->Option (j6 R S B)}{s:S}{r:l7 R B}:p8 body s=some r ↔ ∃n,X5 body n s=some r:=by
 unfold p8;constructor
 ·intro h;split at h
  ·rename_i hx;injection h with h;exact ⟨_,h▸hx.choose_spec.choose_spec⟩
  ·cases h
 ·rintro ⟨n,h⟩
  have hx:∃n r,X5 body n s=some r:=⟨n,r,h⟩
  rw [dif_pos hx];have h1:=hx.choose_spec.choose_spec;have h2:=b3R h1 _ (Nat.le_max_left _ n);have h3:=b3R h _ (Nat.le_max_right hx.choose n);rw [h2] at h3;exact h3
theorem b3P{R S B:Type}(body:S->Option (j6 R S B))(s:S):p8 body s=match body s with
  | some (.ret r)=>some (.ret r)
  | some (.brk s)=>some (.brk s)
  | some (.nxt s)=>p8 body s
  | none=>none:=by
 apply Option.ext;intro r;rw [b7m];cases hb:body s with
 | none =>
  constructor
  ·rintro ⟨n,h⟩
   cases n with
   | zero=>cases h
   | succ n=>unfold X5 at h;rw [hb] at h;cases h
  ·intro h;cases h
 | some st =>
  cases st with
  | ret x =>
   constructor
   ·rintro ⟨n,h⟩
    cases n with
    | zero=>cases h
    | succ n=>unfold X5 at h;rw [hb] at h;exact h
   ·intro h;exact ⟨1,by unfold X5;rw [hb];exact h⟩
  | brk x =>
   constructor
   ·rintro ⟨n,h⟩
    cases n with
    | zero=>cases h
    | succ n=>unfold X5 at h;rw [hb] at h;exact h
   ·intro h;exact ⟨1,by unfold X5;rw [hb];exact h⟩
  | nxt x =>
   simp only;rw [b7m];constructor
   ·rintro ⟨n,h⟩
    cases n with
    | zero=>cases h
    | succ n=>unfold X5 at h;rw [hb] at h;exact ⟨n,h⟩
   ·rintro ⟨n,h⟩
    exact ⟨n+1,by unfold X5;rw [hb];exact h⟩
def a6w{R S B:Type}(r:l7 R B)(I:S->Prop):j6 R S B->Prop
 | .ret x=>r=.ret x
 | .brk s=>r=.brk s
 | .nxt s=>I s
theorem c7A{R S B:Type}{body:S->Option (j6 R S B)}{I:S->Prop}{s:S}{r:l7 R B}(h:p8 body s=some r)(step:∀s st,body s=some st->a6w r I st->I s):I s:=by
 obtain ⟨n,h1⟩:=b7m.1 h;clear h;have h:=h1;clear h1;induction n generalizing s with
 | zero=>cases h
 | succ n ih =>
  unfold X5 at h;cases hb:body s with
  | none=>rw [hb] at h;cases h
  | some st =>
   rw [hb] at h;refine step s st hb ?_;cases st with
   | ret x=>injection h with h;exact h.symm
   | brk x=>injection h with h;exact h.symm
   | nxt x=>exact ih h
def l7.go{R B β:Type}(x:l7 R B)(kr:R->Option β)(ks:B->Option β):Option β :=
 match x with
 | .ret r=>kr r
 | .brk s=>ks s
def JC{B J:Type}(I:J->Prop)(r:B):l7 B J->Prop
 | .ret v=>some v=some r
 | .brk j=>I j
def idx{α:Type}(l:List α)(i:Int):Option α:=if 0<=i then l[i.toNat]? else none
def s5{β:Type}(p:Prop)[Decidable p](k:Option β):Option β:=if p then k else none
theorem b16{α:Type}{l:List α}{i:Int}{x:α}(h:idx l i=some x):0<=i/\i<l.length/\l[i.toNat]?=some x:=by
 unfold idx at h;split at h
 ·rename_i hi;refine ⟨hi,?_,h⟩;have:=(d9x.1 h).1;omega
 ·cases h
section
variable {G:Prop} {α β R S:Type}
theorem B3{m:Option α}{f:α->Option β}{r:β}(h:m.bind f=some r)(k:∀x,m=some x->f x=some r->G):G:=by
 cases m with
 | none=>cases h
 | some x=>exact k x rfl h
theorem t8{p:Prop}[Decidable p]{a:Option β}{r:β}(h:s5 p a=some r)(k:p->a=some r->G):G:=by
 unfold s5 at h;split at h
 ·rename_i hp;exact k hp h
 ·cases h
theorem d4U{B:Type}{I:S->Prop}{r:l7 R B}{x:R}{st:j6 R S B}(h:some (j6.ret x)=some st)(hc:a6w r I st)(k:r=.ret x->G):G:=by
 injection h with h;subst h;exact k hc
theorem d0i{B:Type}{I:S->Prop}{r:l7 R B}{x:B}{st:j6 R S B}(h:some (j6.brk x)=some st)(hc:a6w r I st)(k:r=.brk x->G):G:=by
 injection h with h;subst h;exact k hc
theorem c9B{B:Type}{I:S->Prop}{r:l7 R B}{x:S}{st:j6 R S B}(h:some (j6.nxt x)=some st)(hc:a6w r I st)(k:I x->G):G:=by
 injection h with h;subst h;exact k hc
theorem d1w{B:Type}{I:S->Prop}{r:l7 R B}{x:R}{st:j6 R S B}(h:some (j6.ret x)=some st)(hc:a6w r I st):r=.ret x:=d4U h hc id
theorem C2{B J:Type}{T:Option (l7 B J)}{K:J->Option B}{r:B}{I:J->Prop}(h:(T.bind fun x=>x.go some K)=some r)(rest:∀j,K j=some r->I j)(c9F:∀x,T=some x->JC I r x->G):G:=by
 cases T with
 | none=>cases h
 | some x =>
  refine c9F x rfl ?_;cases x with
  | ret v=>exact h
  | brk j=>exact rest j h
theorem E6{B J:Type}{I:J->Prop}{r v:B}{x:l7 B J}(h:some (l7.ret v)=some x)(hc:JC I r x)(k:some v=some r->G):G:=by
 injection h with h;subst h;exact k hc
theorem c3m{B J:Type}{I:J->Prop}{r v:B}{x:l7 B J}(h:some (l7.ret v)=some x)(hc:JC I r x):some v=some r:=E6 h hc id
theorem p7{B J:Type}{I:J->Prop}{r:B}{x:l7 B J}{j:J}(h:some (l7.brk j)=some x)(hc:JC I r x)(k:I j->G):G:=by
 injection h with h;subst h;exact k hc
theorem d4c{B:Type}{body:S->Option (j6 R S B)}{s:S}{kr:R->Option β}{ks:B->Option β}{r:β}(h:((p8 body s).bind fun x=>x.go kr ks)=some r)(k:∀x,p8 body s=some x->(∀v,x=.ret v->kr v=some r)->(∀b,x=.brk b->ks b=some r)->G):G:=by
 cases hl:p8 body s with
 | none=>rw [hl] at h;cases h
 | some x =>
  rw [hl] at h;refine k x hl ?_ ?_
  ·intro v hv;subst hv;exact h
  ·intro b hb;subst hb;exact h
end
theorem F7.is{cx:Cx}{X:K9}{res a8Z:V}{outs a8w:List (Option V)}{k:List Item}{S:St}(h:F7 cx X a8Z a8w k S)(h1:res=a8Z)(h2:outs=a8w):F7 cx X res outs k S:=by
 subst h1;subst h2;exact h
def vi(n:Int):V:=.i .i64 n
def bs:Nat->List V->List V
 | 0,l=>l
 | n+1,l=>.bot::bs n l
def j4{α:Type}(sz:Nat)(enc:α->List V)(l:List α):V:=.sl sz l.length (l.map enc)
def A4{α:Type}(e sz:Nat)(enc:α->List V)(l:List α):V:=.osl e sz l.length (l.map enc)
def m4{α:Type}(e sz:Nat)(enc:α->List V)(l:List α):n9:=.row e sz l.length (l.map enc)
section
variable {α:Type} {enc:α->List V} {l:List α} {i:Int} {x:α}
theorem N9(h:idx l i=some x):(l.map enc)[i.toNat]?=some (enc x):=by
 rw [List.getElem?_map,(b16 h).2.2];rfl
theorem b8V(h:idx l i=some x):(l.map enc)[0+i.toNat]?=some (enc x):=by
 rw [e0u];exact N9 h
theorem K7(h:idx l i=some x):0<=i:=(b16 h).1
theorem b5u(h:idx l i=some x):i<(l.length:Nat):=(b16 h).2.1
theorem d8y{e sz:Nat}{y:α}{cs:List V}(h:cs=enc y):n9.row e sz (l.length+1) (l.map enc++[cs])=m4 e sz enc (l++[y]):=by
 subst h;simp [m4]
theorem b4V{e sz:Nat}{l':List α}{n:Nat}{rows:List (List V)}(h1:n=l'.length)(h2:rows=l'.map enc):n9.row e sz (l.length+n) (l.map enc++rows)=m4 e sz enc (l++l'):=by
 subst h1;subst h2;simp [m4]
theorem c7w{e sz:Nat}{k:Nat}{y:α}{cs:List V}(h:cs=enc y):n9.row e sz l.length ((l.map enc).set (0+k) cs)=m4 e sz enc (l.set k y):=by
 subst h;simp [m4,e1f]
theorem c3D{sz:Nat}{a b:Nat}(ha:a<=b)(hb:b<=l.length):V.sl sz (b-a) (((l.map enc).drop a).take (b-a))=j4 sz enc ((l.drop a).take (b-a)):=by
 have:min (b-a) (l.length-a)=b-a:=by omega
 simp [j4,List.map_take,List.map_drop,this]
end
def d2w(f:Func):Code:=match f.body with
 | some c=>c
 | none=>.skip
def a1Y:Nat->Nat->List Bool->List Item->List Item
 | 0,_,_,k=>k
 | f+1,n,cs,k=>match k with
  | .code (.region id ops dr)::k'=>match n with
   | 0=>.code (.region id ops dr)::k'
   | n+1=>a1Y f n cs k'
  | .code .skip::k'=>a1Y f n cs k'
  | .inBlock _::k'=>a1Y f n cs k'
  | .code (.seq x y)::k'=>a1Y f n cs (.code x :: .code y::k')
  | .code (.cond o x y)::k'=>match cs with
   | c::cs=>a1Y f n cs (.code (bif c then x else y)::k')
   | []=>.code (.cond o x y)::k'
  | .code (.block id c)::k'=>a1Y f n cs (.code c :: .inBlock id::k')
  | .code (.loop c)::k'=>a1Y f n cs (.code c :: .inLoop c::k')
  | .inLoop c::k'=>a1Y f n cs (.code c :: .inLoop c::k')
  | .code (.exit id)::k'=>match exitTo id k' with
   | some k2=>a1Y f n cs k2
   | none=>.code (.exit id)::k'
  | k=>k
def td(i:Nat)(d:Bool):Nat×I1:=(i,{d:=some d})
def tr(i:Nat)(cs:List V):Nat×I1:=(i,{a:=.row cs})
def l9(n:Int):Int:=IntKind.wrap .i64 n
section
variable {α:Type} {enc:α->List V} {l l':List α} {n:Nat} {x y:α} {cs:List V} {e sz:Nat}
theorem d2S(h:cs=enc x):n9.row e sz n (d9u n cs)=m4 e sz enc (d9u n x):=by
 subst h;simp [m4]
theorem Y7(h:l.length=n):n9.row e sz n (l.map enc)=m4 e sz enc l:=by
 subst h;rfl
theorem a5y{k:Nat}(h:cs=enc y):n9.arr e sz n ((l.map enc).set k cs)=.arr e sz n ((l.set k y).map enc):=by
 subst h;simp [e1f]
theorem b5e{i:Int}{f:α->V}(hf:∀x,enc x=[f x])(h:idx l i=some y):(l.map enc).flatten[i.toNat]?=some (f y):=by
 have e:(l.map enc).flatten=l.map f:=by
  induction l with
  | nil=>rfl
  | cons x l ih =>
   have ih':(l.map enc).flatten=l.map f:=by
    clear ih h;induction l with
    | nil=>rfl
    | cons x l ih=>simp [hf,ih]
   simp [hf,ih']
 rw [e,List.getElem?_map];unfold idx at h;split at h
 ·rw [h];rfl
 ·cases h
theorem b7Z{hi:Int}(h:0<=hi/\hi<=(l.length:Nat)):V.sl sz (hi.toNat-0) (((l.map enc).drop 0).take (hi.toNat-0))=j4 sz enc ((l.drop 0).take (hi.toNat-0)) :=
 c3D (by omega) (by omega)
theorem b3j{lo:Int}(h:0<=lo/\lo<=(l.length:Nat)):V.sl sz (l.length-lo.toNat) (((l.map enc).drop lo.toNat).take (l.length-lo.toNat))=j4 sz enc ((l.drop lo.toNat).take (l.length-lo.toNat)) :=
 c3D (by omega) (by omega)
end
def b7t:Nat->List (Option V)
 | 0=>[]
 | n+1=>none::b7t n
theorem Z8:∀n,a35 (b7t n)
 | 0=>fun v h=>by cases h
 | n+1=>fun v h=>by
  rcases d9z.1 h with q|q
  ·cases q
  ·exact Z8 n v q
section
variable {P:Program} {d:Nat} {xs ys:Array Value} {f:Field} {fs:List Field} {a b:Value} {r s:Bool} {w:World}
theorem b1N:(Op.eqFields d xs ys []).run P w=.ok true w:=by simp [Op.eqFields]
theorem a3D (hn:(f.name == "_")=false) (ha:(part f.type xs f.offset).run P w=.ok a w) (hb:(part f.type ys f.offset).run P w=.ok b w) (he:(Op.equalIn d f.type a b).run P w=.ok r w) (hr:(Op.eqFields d xs ys fs).run P w=.ok s w):(Op.eqFields d xs ys (f::fs)).run P w=.ok (r&&s) w:=by
 have hn':f.name ≠ "_" := by simpa using hn
 rw [Op.eqFields];simp only [if_pos hn',Sem.run_bind,ha,hb,he,Result.andThen_ok];cases r
 ·simp
 ·simpa using hr
theorem b0p{t:TypeId}{fs:Array Field}(hu:P.underlying t=some (.struct fs))(hp:P.stoodInHeld t=false)(h:(Op.eqFields d xs ys fs.toList).run P w=.ok r w):(Op.equalIn (d+1) t (.agg xs) (.agg ys)).run P w=.ok r w:=by
 have hf:P.fieldsOf t=fs:=by simp [Program.fieldsOf,hu]
 rw [run_equalIn_struct (P:=P) w d t xs ys (by rw [hf];exact hu) hp,hf];exact h
theorem a3W{t:TypeId}{k:IntKind}{m n:Int}(h:P.underlying t=some (.int k)):(Op.equalIn (d+1) t (.int .i64 m) (.int .i64 n)).run P w=.ok (m==n) w:=run_equalIn_int w d t .i64 k m n h
end
structure Pt(cx:Cx)(X:K9)(res:V)(outs:List (Option V))(k:List Item)(S:St)(sc:P8)(ps:List Prop):Prop where
 f:J9 ps->F7 cx X res outs k S
def c2O{α:Type}:List α->List α->List α
 | [],b=>b
 | a::l,b=>c2O l (a::b)
def scO:P8->P8->P8
 | [],b=>b
 | r::l,b=>scO l (c2O r []::b)
def psO:List Prop->List Prop->List Prop
 | [],b=>b
 | p::l,b=>psO l (p::b)
theorem b51{ps:List Prop}:∀{qs:List Prop},J9 ps->J9 qs->J9 (psO ps qs):=by
 induction ps with
 | nil=>exact fun _ h=>h
 | cons p ps ih=>exact fun h h'=>ih h.2 ⟨h.1,h'⟩
def dt(t:Nat×I1)(d:Bool):Nat×I1:=(t.1,{t.2 with d:=some d})
section
variable {cx:Cx} {X:K9} {res:V} {outs:List (Option V)} {k:List Item} {S:St} {sc:P8} {ps:List Prop} {r:List (Nat×I1)} {α β:Type} {v:β}
theorem P0(h:Pt cx X res outs k S [] []):F7 cx X res outs k S:=h.f J9.nil
theorem rg(h:Pt cx X res outs k S ([]::sc) ps):Pt cx X res outs k S sc ps:=⟨h.f⟩
theorem o8(h:Pt cx X res outs k S ([]::[]::sc) ps):Pt cx X res outs k S sc ps:=⟨h.f⟩
theorem W9(h:Pt cx X res outs k S ([]::[]::[]::sc) ps):Pt cx X res outs k S sc ps:=⟨h.f⟩
theorem rg4(h:Pt cx X res outs k S ([]::[]::[]::[]::sc) ps):Pt cx X res outs k S sc ps:=⟨h.f⟩
theorem tl(t:Nat×I1)(h:Pt cx X res outs k S ((t::r)::sc) ps):Pt cx X res outs k S (r::sc) ps:=⟨h.f⟩
theorem ob{p:Prop}(q:p)(h:Pt cx X res outs k S sc (p::ps)):Pt cx X res outs k S sc ps:=⟨fun a=>h.f ⟨q,a⟩⟩
theorem om(p:Prop)(q:p)(h:Pt cx X res outs k S sc (p::ps)):Pt cx X res outs k S sc ps:=ob q h
theorem cdT(t:Nat×I1){e:Bool}{a b:Option β}(h:cond e a b=some v)(k1:e=true->a=some v->Pt cx X res outs k S ((dt t true::r)::sc) ((e=true)::ps))(k2:e=false->b=some v->Pt cx X res outs k S ((dt t false::r)::sc) ((e=false)::ps)):Pt cx X res outs k S (r::sc) ps:=by
 cases e with
 | true=>exact ob rfl (tl _ (k1 rfl h))
 | false=>exact ob rfl (tl _ (k2 rfl h))
theorem i9(i:Nat){e:Bool}{a b:Option β}(h:cond e a b=some v)(k1:a=some v->Pt cx X res outs k S ((td i true::r)::sc) ((e=true)::ps))(k2:b=some v->Pt cx X res outs k S ((td i false::r)::sc) ((e=false)::ps)):Pt cx X res outs k S (r::sc) ps:=by
 cases e with
 | true=>exact ob rfl (tl _ (k1 h))
 | false=>exact ob rfl (tl _ (k2 h))
theorem cb(t:Nat->Bool->α->Nat×I1){m:Option α}{p:α->Prop}(ok:∀x,m=some x->p x)(i:Nat)(fr:Bool){f:α->Option β}(h:m.bind f=some v)(g:∀x,f x=some v->Pt cx X res outs k S ((t i fr x::r)::sc) (p x::ps)):Pt cx X res outs k S (r::sc) ps :=
 B3 h fun x hx h=>ob (ok x hx) (tl _ (g x h))
theorem cbE(t:Nat->Bool->α->Nat×I1){m:Option α}{p:α->Prop}(ok:∀x,m=some x->p x){f:α->Option β}(h:m.bind f=some v)(g:∀x,p x->f x=some v->Pt cx X res outs k S sc ps):Pt cx X res outs k S sc ps :=
 B3 h fun x hx h=>g x (ok x hx) h
section
variable {enc:α->List V} {l l':List α} {I:Int} {x y z:α}
theorem v5(enc:α->List V)(i:Nat){f:α->Option β}(h:(idx l I).bind f=some v)(g:∀y,idx l I=some y->f y=some v->Pt cx X res outs k S ((tr i (enc y)::r)::sc) (((l.map enc)[I.toNat]?=some (enc y))::(I<((l.length:Nat):Int))::((0:Int)<=I)::ps)):Pt cx X res outs k S (r::sc) ps :=
 B3 h fun y hy h=>ob (K7 hy) (ob (b5u hy) (ob (N9 hy) (tl _ (g y hy h))))
theorem ixR(enc:α->List V)(i:Nat)(hy:idx l I=some y)(g:Pt cx X res outs k S ((tr i (enc y)::r)::sc) (((l.map enc)[I.toNat]?=some (enc y))::(I<((l.length:Nat):Int))::((0:Int)<=I)::ps)):Pt cx X res outs k S (r::sc) ps :=
 ob (K7 hy) (ob (b5u hy) (ob (N9 hy) (tl _ g)))
theorem E3(hy:idx l I=some y)(g:Pt cx X res outs k S sc ((I<((l.length:Nat):Int))::((0:Int)<=I)::ps)):Pt cx X res outs k S sc ps:=ob (K7 hy) (ob (b5u hy) g)
theorem T4(enc:α->List V)(i:Nat)(hy:idx l I=some y)(g:Pt cx X res outs k S ((tr i (enc y)::r)::sc) (((l.map enc)[0+I.toNat]?=some (enc y))::ps)):Pt cx X res outs k S (r::sc) ps :=
 ob (b8V hy) (tl _ g)
theorem R1(e sz:Nat)(enc:α->List V)(i:Nat)(ck:List (Option Nat))(y:α)(hz:idx l I=some z)(g:Pt cx X res outs k S (((i,{a:=.rowck (enc z) ck,e:=some (m4 e sz enc (l.set I.toNat y))})::r)::sc) (((l.map enc)[0+I.toNat]?=some (enc z))::(n9.row e sz l.length ((l.map enc).set (0+I.toNat) (enc y))=m4 e sz enc (l.set I.toNat y))::ps)):Pt cx X res outs k S (r::sc) ps :=
 ob (c7w rfl) (ob (b8V hz) (tl _ g))
theorem Q6(i w t sz b:Nat)(enc:α->List V)(z:α)(T:TI)(a:J2){N:Int}(e1:0<=N/\N*((b:Nat):Int)<=140737488355328)(hb:0<b)(hl:T.zero.length=sz)(g:Pt cx X res outs k S (((i,{a:=a,e:=some (m4 t sz enc (d9u N.toNat z)),v:=some (.own w 0 sz 0 (d9u N.toNat z).length)})::r)::sc)
   ((T.zero.length=sz)::(N*((b:Nat):Int)<=140737488355328/\0<b)::(N=N)::((0:Int)<=N)::(n9.row t sz N.toNat (d9u N.toNat (enc z))=m4 t sz enc (d9u N.toNat z))::(V.own w 0 sz 0 N.toNat=.own w 0 sz 0 (d9u N.toNat z).length)::ps)):Pt cx X res outs k S (r::sc) ps :=
 ob (by simp) (ob (d2S rfl) (ob e1.1 (ob rfl (ob ⟨e1.2,hb⟩ (ob hl (tl _ g))))))
theorem K2(i w t sz b:Nat)(enc:α->List V)(l:List α)(x:α)(h:(l.length+1)*b<=140737488355328)(g:Pt cx X res outs k S (((i,{v:=some (.own w 0 sz 0 (l++[x]).length),e:=some (m4 t sz enc (l++[x]))})::r)::sc)
   (((l.length+1)*b<=140737488355328)::(l.length=l.length)::(n9.row t sz (l.length+1) (l.map enc++[enc x])=m4 t sz enc (l++[x]))::(V.own w 0 sz 0 (l.length+1)=.own w 0 sz 0 (l++[x]).length)::ps)):Pt cx X res outs k S (r::sc) ps :=
 ob (by simp) (ob (d8y rfl) (ob rfl (ob h (tl _ g))))
theorem apL(i w t sz b:Nat)(enc:α->List V)(l l':List α)(h:(l.length+l'.length)*b<=140737488355328)(g:Pt cx X res outs k S (((i,{v:=some (.own w 0 sz 0 (l++l').length),e:=some (m4 t sz enc (l++l'))})::r)::sc)
   (((l.length+l'.length)*b<=140737488355328)::(l.length=l.length)::(n9.row t sz (l.length+l'.length) (l.map enc++l'.map enc)=m4 t sz enc (l++l'))::(V.own w 0 sz 0 (l.length+l'.length)=.own w 0 sz 0 (l++l').length)::ps)):Pt cx X res outs k S (r::sc) ps :=
 ob (by simp) (ob (b4V rfl rfl) (ob rfl (ob h (tl _ g))))
end
theorem sg(fs:List Fix)(keep:List Nat)(gs:List (Nat×Nat)){k':List Item}{S':St}(h:F7 cx X res outs k' S')(hg:a6U cx k S (scO sc []) fs keep gs=some (k',S',psO ps []):=by kernel_rfl):Pt cx X res outs k S sc ps :=
 ⟨fun a=>F7.seg _ fs keep gs _ (b51 a J9.nil) h hg⟩
def reT:List (Nat×V)->St->St×List Prop
 | [],S=>(S,[])
 | (i,v)::l,S=>match S.t[i]? with
  | some u=>match reT l {S with t:=S.t.set i v} with
   | (S',ps)=>(S',(u=v)::ps)
  | none=>reT l S
theorem b4i:∀{l:List (Nat×V)} {S:St},J9 (reT l S).2->(reT l S).1=S
 | [],_,_=>rfl
 | (i,v)::l,S,h=>by
  unfold reT at h ⊢;split at h
  ·rename_i u hu;have h1:u=v:=h.1;have h2:=b4i (l:=l) h.2;simp only;rw [h2,<-h1,U7 hu]
  ·exact b4i h
theorem J9.split:∀{ps qs:List Prop},J9 (ps++qs)->J9 ps/\J9 qs
 | [],_,h=>⟨trivial,h⟩
 | _::_,_,h=>⟨⟨h.1,(J9.split h.2).1⟩,(J9.split h.2).2⟩
def b5b(cx:Cx)(k:List Item)(S:St)(sc:P8)(fs:List Fix)(keep:List Nat)(gs:List (Nat×Nat))(ts:List (Nat×V)):Option (List Item×St×List Prop) :=
 match a6U cx k S sc fs keep gs with
 | some (k',S',ps)=>some (k',(reT ts S').1,ps++(reT ts S').2)
 | none=>none
theorem sgT(fs:List Fix)(keep:List Nat)(gs:List (Nat×Nat))(ts:List (Nat×V)){k':List Item}{S':St}(h:F7 cx X res outs k' S')(hg:b5b cx k S (scO sc []) fs keep gs ts=some (k',S',psO ps []):=by kernel_rfl):Pt cx X res outs k S sc ps:=by
 refine ⟨fun a => ?_⟩;unfold b5b at hg;split at hg<;>try (cases hg;done)
 rename_i k1 S1 ps1 h1;injection hg with hg;injection hg with e1 e2;injection e2 with e2 e3;have ha:=b51 a J9.nil;rw [<-e3] at ha;obtain ⟨a1,a2⟩:=J9.split ha;rw [<-e2,<-e1,b4i a2] at h;exact F7.seg _ fs keep gs _ a1 h h1
theorem a4V{α:Type}{enc:α->List V}{gs:List (Nat×Nat)}(h:∀x,(enc x).map (Q4 gs)=enc x):∀l:List α,((l.map enc).flatten.map (Q4 gs))=(l.map enc).flatten
 | []=>rfl
 | x::l=>by
  simp only [d9R,d9S,d9M,h,a4V h l]
theorem fn0{a8Z:V}{a8w:List (Option V)}(hf:cx.P.funcs[X.f]?=some X.fn)(h:res=a8Z/\outs=a8w)(hg:a6z cx X k S (scO sc [])=some (a8Z,a8w,psO ps []):=by kernel_rfl):Pt cx X res outs k S sc ps :=
 ⟨fun a=>(F7.fin hf _ _ (b51 a J9.nil) hg).is h.1 h.2⟩
end
def G2(n:Int):Prop := -9223372036854775808<=n/\n<=9223372036854775807
def A0{α:Type}(bytes:Nat)(ok:α->Prop)(l:List α):Prop:=l.length*bytes<=140737488351232/\∀x∈l,ok x
def okT{α:Type}(x:α):Prop:=True
def Old(w:World)(k:Nat):Prop:=k<w.heap.size
def a56(P:Program){α:Type}(t:TypeId)(enc:α->List V)(ok:α->Prop):Prop :=
 ∀{H:Type} (ec:TypeId×Value->H) (w:World) (fuel:Nat) (cs:List Value) (x:DataW H×List MemPlace),DataW.trod ec P w 0 (fun _=>true) true fuel t cs=some x->(x.1.weights P t).all (·<=reachBytes)=true->
  ∃y,FL w (Old w) (enc y) cs/\ok y
section
variable {P:Program} {α:Type} {t e:TypeId} {enc:α->List V} {ok:α->Prop}
def a2t(n:Int):Prop:=0<=n/\n<=255
theorem d3J(ht:P.underlying t=some (.int .u8)):a56 P t (fun n:Int=>[.i .u8 n]) a2t:=by
 intro H ec w fuel cs x h _;obtain ⟨n,rfl,rfl,hw⟩:=DataW.trod_int ht h;refine ⟨n,.cons _ _ _ _ (.i _ _) .nil,?_⟩;simp only [Lit.wf,d9v,decide_eq_true_eq] at hw;exact hw
theorem c4T{H:Type}{P:Program}{e:TypeId}{p:Nat->Bool}:∀{ds:List (DataW H)},(DataW.weightsAll P e ds).all p=true->∀d∈ds,(d.weights P e).all p=true
 | [],_,d,hd=>by cases hd
 | d0::ds,h,d,hd=>by
  rw [DataW.weightsAll,List.all_append,d9v] at h;rcases d9z.1 hd with rfl|hd
  ·exact h.1
  ·exact c4T h.2 d hd
theorem FL.flat{w:World}{F:Nat->Prop}(vs:Nat->List V)(cs:Nat->List Value):∀n,(∀i,i<n->FL w F (vs i) (cs i))->FL w F ((d9C n).flatMap vs) ((d9C n).flatMap cs)
 | 0,_=>.nil
 | n+1,h=>by
  rw [List.range_succ,List.flatMap_append,List.flatMap_append];refine FL.append (FL.flat vs cs n fun i hi=>h i (by omega)) ?_;simpa using h n (by omega)
theorem b2O{sz:Nat}(cs:Nat->List Value):∀n,(∀i,i<n->(cs i).length=sz)->∀i,i<n->∀j,j<sz->((d9C n).flatMap cs)[i*sz+j]?=(cs i)[j]?/\((d9C n).flatMap cs).length=n*sz
 | 0,_,i,hi,_,_=>by omega
 | n+1,h,i,hi,j,hj=>by
  have hl:((d9C n).flatMap cs).length=n*sz:=by
   cases n with
   | zero=>simp
   | succ m=>exact (b2O cs (m+1) (fun i hi=>h i (by omega)) 0 (by omega) j hj).2
  rw [List.range_succ,List.flatMap_append];simp only [List.flatMap_cons,List.flatMap_nil,d9X];constructor
  ·by_cases hin:i<n
   ·have:i*sz+j<n*sz:=by
     have:(i+1)*sz<=n*sz:=d92 _ hin;rw [Nat.add_mul] at this;omega
    rw [d9L (by omega)];exact (b2O cs n (fun i hi=>h i (by omega)) i hin j hj).1
   ·have:i=n:=by omega
    subst this;rw [d9H (by omega),hl];congr 1
    omega
  ·rw [d9E,hl,h n (by omega),Nat.add_mul,Nat.one_mul]
theorem d65{β:Type}{n:Nat}{p:Nat->β->Prop}(d:β)(h:∀i,i<n->∃x,p i x):∃f:Nat->β,∀i,i<n->p i (f i):=by
 classical
 refine ⟨fun i=>if hi:i<n then (h i hi).choose else d,fun i hi => ?_⟩;simp only [dif_pos hi];exact (h i hi).choose_spec
theorem d8A{sz bytes:Nat}(ht:P.underlying t=some (.slice e))(he:a56 P e enc ok)(hsz:P.cellsOf e=sz)(h0:0<sz)(hb:P.bytesOf e=bytes)(hl:∀y,(enc y).length=sz):a56 P t (fun l:List α=>[j4 sz enc l]) (A0 bytes ok):=by
 intro H ec w fuel cs x h hw;rcases DataW.trod_slice ht h with ⟨rfl,rfl⟩|⟨a,len,cap,elems,rest,n,_,rfl,rfl,hbs,hlc,hcm,hlen,hel,hsp,hns⟩
 ·exact ⟨[],.cons _ _ _ _ (.sl0 sz none 0) .nil,by simp,by simp⟩
 simp only [DataW.weights,ht,List.all_cons,List.all_append,d9v,decide_eq_true_eq,List.length_map] at hw;obtain ⟨hw0,hw1,hw2⟩:=hw;have hrest:rest.length=cap-len:=by
  cases hs:(fun _:Nat=>true) a.block with
  | true=>exact (hsp rfl).1
  | false=>cases hs
 have hlen2:len*bytes<=140737488351232:=by
  rw [hb] at hw0;have:len*bytes<=(elems.length+rest.length)*bytes:=d92 _ (by omega);have h2:reachBytes=140737488351232:=rfl;omega
 cases Nat.eq_zero_or_pos len with
 | inl hz =>
  subst hz;exact ⟨[],.cons _ _ _ _ (.sl0 sz _ cap) .nil,by simp,by simp⟩
 | inr hpos =>
  have key:∀i,i<len->∃cy:List Value×α,w.cells? 0 (a.add (i*sz)) sz=some cy.1/\FL w (Old w) (enc cy.2) cy.1/\ok cy.2:=by
   intro i hi;have h1:=hel i hi;have hi':i<elems.length:=by omega
   rw [d9t hi',hsz] at h1;obtain ⟨ci,h2,h3⟩:=Option.bind_eq_some_iff.1 h1;obtain ⟨y,h4,h5⟩:=he ec w n ci _ h3 (c4T hw1 _ (List.mem_map.2 ⟨_,d9w hi',rfl⟩));exact ⟨(ci,y),h2,h4,h5⟩
  obtain ⟨cy0,_⟩:=key 0 hpos;obtain ⟨f,hf⟩:=d65 cy0 key;have hcl:∀i,i<len->(f i).1.length=sz:=fun i hi=>(World.cells?_some (hf i hi).1).2.1
  have hspot:a.spot=none:=by
   have:=(World.cells?_some (hf 0 hpos).1).2.2 0 h0;rw [d9t (by rw [hcl 0 hpos];exact h0)] at this;have:=World.cell?_spot this;simpa [Addr.add] using this
  have hold:Old w a.block:=by
   have:=(World.cells?_some (hf 0 hpos).1).2.2 0 h0;rw [d9t (by rw [hcl 0 hpos];exact h0)] at this;unfold World.cell? at this;unfold Old;split at this
   ·rename_i c _ _ hh;simpa [Addr.add] using (Array.getElem?_eq_some_iff.1 hh).1
   ·cases this
  refine ⟨(d9C len).map fun i=>(f i).2,?_,?_,?_⟩
  ·have haddr:a=⟨a.block,a.off,none⟩:=by cases a;simp_all
   rw [show (Value.slice (some a) len cap)=.slice (some ⟨a.block,a.off,none⟩) len cap from by rw [<-haddr]];refine .cons _ _ _ _ ?_ .nil;unfold j4;rw [List.length_map,List.length_range];refine .sl sz len _ _ _ cap ((d9C len).flatMap fun i=>(f i).1) hold ?_ ?_ ?_ hlc ?_
   ·have:=FL.flat (w:=w) (F:=Old w) (fun i=>enc (f i).2) (fun i=>(f i).1) len fun i hi=>(hf i hi).2.1
    rw [e03,<-List.flatMap_def];exact this
   ·simp
   ·intro r hr;rw [e03] at hr;obtain ⟨i,_,rfl⟩:=List.mem_map.1 hr;exact hl _
   ·intro j u hu;have hlf:=(b2O (fun i=>(f i).1) len hcl 0 hpos 0 h0).2;have hj:j<len*sz:=by
     have:=(d9x.1 hu).1;omega
    have hq:j / sz<len:=Nat.div_lt_of_lt_mul (by rw [Nat.mul_comm];exact hj);have hr:j % sz<sz:=Nat.mod_lt _ h0;have hjs:j=j / sz*sz+j % sz:=by rw [Nat.mul_comm];exact (Nat.div_add_mod j sz).symm
    have hget:=(b2O (fun i=>(f i).1) len hcl _ hq _ hr).1;rw [<-hjs,hu] at hget;have hcell:=(World.cells?_some (hf _ hq).1).2.2 _ hr;rw [<-hget] at hcell;rw [<-hcell];have hadd:(a.add (j / sz*sz)).add (j % sz)=a.add j:=by
     rw [show (a.add (j / sz*sz)).add (j % sz)=a.add (j / sz*sz+j % sz) from Go.Deep.add_add a _ _,<-hjs]
    rw [hadd];congr 1
    unfold Addr.add;split
    ·rename_i h;subst h;exact haddr.symm
    ·rfl
  ·simpa using hlen2
  ·intro y hy;obtain ⟨i,hi,rfl⟩:=List.mem_map.1 hy;exact (hf i (by simpa using hi)).2.2
section
variable {α':Type} {H:Type} {ec:TypeId×Value->H} {w:World} {base:Nat} {r:Reach} {v:Value} {d:DataW H} {p:List MemPlace}
theorem BA.of1{F:Nat->Prop}{x:V}{c:Value}(h:FL w F [x] [c]):BA w F x c []:=by
 cases h with
 | cons _ _ _ _ h _=>exact .cell _ _ _ (.fv _ _ h)
theorem c6m{f:α->V}(ht:P.underlying t=some (.slice e))(ho:a56 P t (fun y=>[f y]) ok)(hv:Value.okWide P w r base t v)(h:DataW.Trod ec P w 0 (fun _=>true) true t v d p)(hw:(d.weights P t).all (·<=reachBytes)=true):∃y,BA w (Old w) (f y) v []/\ok y:=by
 obtain ⟨a,l,c,rfl⟩:=WideShapes.okWide_slice ht hv;obtain ⟨fuel,hf⟩:=h;obtain ⟨y,h1,h2⟩:=ho ec w fuel _ _ hf hw;exact ⟨y,BA.of1 h1,h2⟩
end
theorem c8Y{f:FuncId}{args:List V}{outs:List (Option V)}{vs:List Value}{W:World}(h:a2i P f args (.b true) outs)(hb:BS W (Old W) args vs []) :
  Calls P f vs.toArray W fun e W'=>e=.returned (.bool true)/\RowKit.Below W.heap.size W W':=by
 refine (h.2 W (Old W) vs [] hb List.nodup_nil (by simp) (fun k hk=>hk)).mono ?_;rintro e W' ⟨c,F',fr,fo,rfl,hk,_,_,hr,_,_,_⟩
 refine ⟨?_,hk.os,hk.tape,hk.output,hk.size,fun k hk'=>hk.block k hk' (by simp)⟩;cases hr with
 | one _ _ _ h =>
  cases h with
  | cell _ _ _ h =>
   cases h with
   | fv _ _ h=>cases h;rfl
end
abbrev LOV:=List (Option V)
abbrev KS:=List Item×St
def FK(cx:Cx)(X:K9)(res:V)(outs:LOV)(s:KS):Prop:=F7 cx X res outs s.1 s.2
structure LC(cx:Cx)(X:K9){R P E:Type}(fR:R->V)(fO:R->LOV)(SE:E->KS)(S:P->KS) where
 res:V
 outs:LOV
 x:l7 R E
 hb:∀s:E,x=.brk s->FK cx X res outs (SE s)
 hr:∀v:R,x=.ret v->res=fR v/\outs=fO v
 st:j6 R P E
 hc:a6w x (fun s=>FK cx X res outs (S s)) st
section
variable {cx:Cx} {X:K9} {R P E J:Type} {fR:R->V} {fO:R->LOV} {SE:E->KS} {SP:P->KS} {G:Prop} {α β:Type}
abbrev LB(cx:Cx)(X:K9)(fR:R->V)(fO:R->LOV)(SE:E->KS)(SP:P->KS)(b:P->Option (j6 R P E)):Prop := ∀(c:LC cx X fR fO SE SP) (s:P),b s=some c.st->FK cx X c.res c.outs (SP s)
abbrev NL(c:LC cx X fR fO SE SP)(S:J->KS)(f:J->Option (j6 R P E)):Prop := ∀s,f s=some c.st->FK cx X c.res c.outs (S s)
theorem LC.nx(c:LC cx X fR fO SE SP){s:P}(h:some (j6.nxt s)=some c.st)(g:FK cx X c.res c.outs (SP s)->G):G:=c9B h c.hc g
theorem LC.bk(c:LC cx X fR fO SE SP){s:E}(h:some (j6.brk s)=some c.st)(g:FK cx X c.res c.outs (SE s)->G):G:=d0i h c.hc fun e=>g (c.hb _ e)
theorem LC.rt(c:LC cx X fR fO SE SP){r:R}(h:some (j6.ret r)=some c.st):c.res=fR r/\c.outs=fO r:=c.hr _ (d1w h c.hc)
variable {res:V} {outs:LOV} {k:List Item} {S:St} {sc:P8} {ps:List Prop} {r:List (Nat×I1)} {v:β} {s:KS}
theorem PK(h:Pt cx X res outs s.1 s.2 [] []):FK cx X res outs s:=h.f J9.nil
theorem sk(fs:List Fix)(keep:List Nat)(gs:List (Nat×Nat))(h:FK cx X res outs s)(hg:a6U cx k S (scO sc []) fs keep gs=some (s.1,s.2,psO ps []):=by kernel_rfl):Pt cx X res outs k S sc ps:=sg fs keep gs h hg
theorem skT(fs:List Fix)(keep:List Nat)(gs:List (Nat×Nat))(ts:List (Nat×V))(h:FK cx X res outs s)(hg:b5b cx k S (scO sc []) fs keep gs ts=some (s.1,s.2,psO ps []):=by kernel_rfl):Pt cx X res outs k S sc ps:=sgT fs keep gs ts h hg
theorem lp{b:P->Option (j6 R P E)}(B:LB cx X fR fO SE SP b){c2o:P}{g1:R->Option β}{g2:E->Option β}(h:((p8 b c2o).bind fun x=>x.go g1 g2)=some v)(h1:∀r,g1 r=some v->res=fR r/\outs=fO r)(h2:∀s,g2 s=some v->FK cx X res outs (SE s))(hs:FK cx X res outs (SP c2o)->Pt cx X res outs k S sc ps):Pt cx X res outs k S sc ps :=
 d4c h fun x hl hr hb=>hs (c7A (I:=fun s=>FK cx X res outs (SP s)) hl fun s st h hc=>B ⟨res,outs,x,fun s e=>h2 s (hb s e),fun v e=>h1 v (hr v e),st,hc⟩ s h)
theorem z6{α:Type}(a:List α)(h:Pt cx X res outs k S sc ((a.length=a.length)::ps)):Pt cx X res outs k S sc ps:=ob rfl h
theorem C1{α β:Type}(a:List α)(b:List β)(h:Pt cx X res outs k S sc ((b.length=b.length)::(a.length=a.length)::ps)):Pt cx X res outs k S sc ps:=ob rfl (ob rfl h)
theorem ol3{α β γ:Type}(a:List α)(b:List β)(c:List γ)(h:Pt cx X res outs k S sc ((c.length=c.length)::(b.length=b.length)::(a.length=a.length)::ps)):Pt cx X res outs k S sc ps:=ob rfl (ob rfl (ob rfl h))
theorem ol4{α β γ δ:Type}(a:List α)(b:List β)(c:List γ)(d:List δ)(h:Pt cx X res outs k S sc ((d.length=d.length)::(c.length=c.length)::(b.length=b.length)::(a.length=a.length)::ps)):Pt cx X res outs k S sc ps:=ob rfl (ob rfl (ob rfl (ob rfl h)))
theorem ol0(α:Type)(h:Pt cx X res outs k S sc ((0=([]:List α).length)::ps)):Pt cx X res outs k S sc ps:=ob rfl h
theorem K0{α:Type}(x:α)(h:Pt cx X res outs k S sc ((1=[x].length)::ps)):Pt cx X res outs k S sc ps:=ob rfl h
theorem tk(i:Nat)(c:List (Option Nat))(h:Pt cx X res outs k S (((i,{a:=.ck c})::r)::sc) ps):Pt cx X res outs k S (r::sc) ps:=tl _ h
theorem oa(g j sz:Nat){α:Type}(a b:List α)(h:Pt cx X res outs k S sc ((V.own g j sz 0 (a.length+b.length)=.own g j sz 0 (a++b).length)::ps)):Pt cx X res outs k S sc ps:=ob (congrArg (V.own g j sz 0) d9E.symm) h
theorem oz(e sz:Nat){α:Type}(f:α->List V)(a b:List α)(h:Pt cx X res outs k S sc ((n9.row e sz (a.length+b.length) (a.map f++b.map f)=m4 e sz f (a++b))::ps)):Pt cx X res outs k S sc ps:=ob (b4V rfl rfl) h
end
def eI(x:Int):List V:=[vi x]
def L5(x:Int):List V:=[.i .u8 x]
def eB(x:Bool):List V:=[.b x]
structure m5 where
 i7:Int
 c8:Int
def u6(x:m5):List V:=[vi x.i7,vi x.c8]
structure m7 where
 a7:Int
 A:Int
 B:Int
 N:Int
def z8(x:m7):List V:=[vi x.a7,vi x.A,vi x.B,vi x.N]
structure x6 where
 b:List Int
 p:Int
def a0k(x:x6):List V:=[j4 1 L5 x.b,vi x.p]
structure m8 where
 b6:Int
 Seq:Int
def I9(x:m8):List V:=[vi x.b6,vi x.Seq]
structure p9 where
 g8:Int
 i7:Int
def u7(x:p9):List V:=[vi x.g8,vi x.i7]
structure n6 where
 g8:Int
 c8:Int
def v6(x:n6):List V:=[vi x.g8,vi x.c8]
structure o7 where
 b9:List p9
 c6:List n6
 c8:Int
 Code:Int
def a13(x:o7):List V:=[j4 2 u7 x.b9,j4 2 v6 x.c6,vi x.c8,vi x.Code]
structure j8 where
 i6:Bool
 a0:m8
 c7:o7
def u0(x:j8):List V:=[.b x.i6,vi x.a0.b6,vi x.a0.Seq,j4 2 u7 x.c7.b9,j4 2 v6 x.c7.c6,vi x.c7.c8,vi x.c7.Code]
structure n8 where
 a6:Int
 d7:j8
def s6(x:n8):List V:=[vi x.a6,.b x.d7.i6,vi x.d7.a0.b6,vi x.d7.a0.Seq,j4 2 u7 x.d7.c7.b9,j4 2 v6 x.d7.c7.c6,vi x.d7.c7.c8,vi x.d7.c7.Code]
structure z4 where
 g9:Int
 a9:List n8
def a5s(x:z4):List V:=[vi x.g9,j4 8 s6 x.a9]
structure j5 where
 Id:Int
 Acc:z4
 a5:List j8
 Seq:Int
 b5:Int
 a6:Int
 b8:List Bool
 g7:List n8
 d6:j8
 a9:List Bool
 i3:Bool
 i5:List m7
 b7:j8
 d9:List j8
def r9(x:j5):List V:=[vi x.Id,vi x.Acc.g9,j4 8 s6 x.Acc.a9,j4 7 u0 x.a5,vi x.Seq,vi x.b5,vi x.a6,j4 1 eB x.b8,j4 8 s6 x.g7,.b x.d6.i6,vi x.d6.a0.b6,vi x.d6.a0.Seq,j4 2 u7 x.d6.c7.b9,j4 2 v6 x.d6.c7.c6,vi x.d6.c7.c8,vi x.d6.c7.Code,j4 1 eB x.a9,.b x.i3,j4 4 z8 x.i5,.b x.b7.i6,vi x.b7.a0.b6,vi x.b7.a0.Seq,j4 2 u7 x.b7.c7.b9,j4 2 v6 x.b7.c7.c6,vi x.b7.c7.c8,vi x.b7.c7.Code,j4 7 u0 x.d9]
structure l8 where
 a7:Int
 b8:Int
 To:Int
 a6:Int
 c9:Int
 d7:j8
 a9:List n8
def u5(x:l8):List V:=[vi x.a7,vi x.b8,vi x.To,vi x.a6,vi x.c9,.b x.d7.i6,vi x.d7.a0.b6,vi x.d7.a0.Seq,j4 2 u7 x.d7.c7.b9,j4 2 v6 x.d7.c7.c6,vi x.d7.c7.c8,vi x.d7.c7.Code,j4 8 s6 x.a9]
structure D5 where
 a0:m8
 i5:List m7
def D6(x:D5):List V:=[vi x.a0.b6,vi x.a0.Seq,j4 4 z8 x.i5]
structure s9 where
 Node:Int
 a0:m8
 Code:Int
 c8:Int
def A3(x:s9):List V:=[vi x.Node,vi x.a0.b6,vi x.a0.Seq,vi x.Code,vi x.c8]
structure j9 where
 a8:List j5
 i0:List l8
 f0:List D5
 Told:List s9
def O8(x:j9):List V:=[j4 27 r9 x.a8,j4 13 u5 x.i0,j4 3 D6 x.f0,j4 5 A3 x.Told]
structure G5 where
 a7:Int
 A:Int
 i5:List m7
def b19(x:G5):List V:=[vi x.a7,vi x.A,j4 4 z8 x.i5]
structure m6 where
 n:j5
 out:List l8
 told:List s9
def b9i(x:m6):List V:=[vi x.n.Id,vi x.n.Acc.g9,j4 8 s6 x.n.Acc.a9,j4 7 u0 x.n.a5,vi x.n.Seq,vi x.n.b5,vi x.n.a6,j4 1 eB x.n.b8,j4 8 s6 x.n.g7,.b x.n.d6.i6,vi x.n.d6.a0.b6,vi x.n.d6.a0.Seq,j4 2 u7 x.n.d6.c7.b9,j4 2 v6 x.n.d6.c7.c6,vi x.n.d6.c7.c8,vi x.n.d6.c7.Code,j4 1 eB x.n.a9,.b x.n.i3,j4 4 z8 x.n.i5,.b x.n.b7.i6,vi x.n.b7.a0.b6,vi x.n.b7.a0.Seq,j4 2 u7 x.n.b7.c7.b9,j4 2 v6 x.n.b7.c7.c6,vi x.n.b7.c7.c8,vi x.n.b7.c7.Code,j4 7 u0 x.n.d9,j4 13 u5 x.out,j4 5 A3 x.told]
structure s8 where
 a0:m8
 Code:Int
 c8:Int
def D4(x:s8):List V:=[vi x.a0.b6,vi x.a0.Seq,vi x.Code,vi x.c8]
structure t7 where
 At:Int
 d8:List m5
 i4:List s8
def a8D(x:t7):List V:=[vi x.At,j4 2 u6 x.d8,j4 4 D4 x.i4]
def a5P(l:List m7):List V:=[j4 4 z8 l]
def D8(x:m8):List Int:=[x.b6,x.Seq]
def c6V(x_:j5):List V:=[vi x_.Id,vi x_.Acc.g9,j4 8 s6 x_.Acc.a9,A4 46 7 u0 x_.a5,vi x_.Seq,vi x_.b5,vi x_.a6,A4 4 1 eB x_.b8,j4 8 s6 x_.g7,.b x_.d6.i6,vi x_.d6.a0.b6,vi x_.d6.a0.Seq,j4 2 u7 x_.d6.c7.b9,j4 2 v6 x_.d6.c7.c6,vi x_.d6.c7.c8,vi x_.d6.c7.Code,A4 4 1 eB x_.a9,.b x_.i3,j4 4 z8 x_.i5,.b x_.b7.i6,vi x_.b7.a0.b6,vi x_.b7.a0.Seq,j4 2 u7 x_.b7.c7.b9,j4 2 v6 x_.b7.c7.c6,vi x_.b7.c7.c8,vi x_.b7.c7.Code,A4 46 7 u0 x_.d9]
def a4o(x_:j9):List V:=[A4 61 27 r9 x_.a8,A4 49 13 u5 x_.i0,A4 73 3 D6 x_.f0,A4 76 5 A3 x_.Told]
def W8(x_:j5):List V:=[vi x_.Id,vi x_.Acc.g9,j4 8 s6 x_.Acc.a9,j4 7 u0 x_.a5,vi x_.Seq,vi x_.b5,vi x_.a6,j4 1 eB x_.b8,j4 8 s6 x_.g7,.b x_.d6.i6,vi x_.d6.a0.b6,vi x_.d6.a0.Seq,j4 2 u7 x_.d6.c7.b9,j4 2 v6 x_.d6.c7.c6,vi x_.d6.c7.c8,vi x_.d6.c7.Code,j4 1 eB x_.a9,.b x_.i3,j4 4 z8 x_.i5,.b x_.b7.i6,vi x_.b7.a0.b6,vi x_.b7.a0.Seq,j4 2 u7 x_.b7.c7.b9,j4 2 v6 x_.b7.c7.c6,vi x_.b7.c7.c8,vi x_.b7.c7.Code,j4 7 u0 x_.d9]
def a9P(x_:m6):List V:=[vi x_.n.Id,vi x_.n.Acc.g9,j4 8 s6 x_.n.Acc.a9,A4 46 7 u0 x_.n.a5,vi x_.n.Seq,vi x_.n.b5,vi x_.n.a6,A4 4 1 eB x_.n.b8,j4 8 s6 x_.n.g7,.b x_.n.d6.i6,vi x_.n.d6.a0.b6,vi x_.n.d6.a0.Seq,j4 2 u7 x_.n.d6.c7.b9,j4 2 v6 x_.n.d6.c7.c6,vi x_.n.d6.c7.c8,vi x_.n.d6.c7.Code,A4 4 1 eB x_.n.a9,.b x_.n.i3,j4 4 z8 x_.n.i5,.b x_.n.b7.i6,vi x_.n.b7.a0.b6,vi x_.n.b7.a0.Seq,j4 2 u7 x_.n.b7.c7.b9,j4 2 v6 x_.n.b7.c7.c6,vi x_.n.b7.c7.c8,vi x_.n.b7.c7.Code,A4 46 7 u0 x_.n.d9,A4 49 13 u5 x_.out,A4 76 5 A3 x_.told]
def a7O(x_:t7):List V:=[vi x_.At,A4 111 2 u6 x_.d8,A4 169 4 D4 x_.i4]
def a46(x_:j8):List V:=[.b x_.i6,vi x_.a0.b6,vi x_.a0.Seq,j4 2 u7 x_.c7.b9,j4 2 v6 x_.c7.c6,vi x_.c7.c8,vi x_.c7.Code]
def c9y(x_:t7):List V:=[vi x_.At,A4 111 2 u6 x_.d8,j4 4 D4 x_.i4]
def b7x(x_:m6):List V:=[vi x_.n.Id,vi x_.n.Acc.g9,j4 8 s6 x_.n.Acc.a9,.own 0 1 7 0 x_.n.a5.length,vi x_.n.Seq,vi x_.n.b5,vi x_.n.a6,.own 0 2 1 0 x_.n.b8.length,j4 8 s6 x_.n.g7,.b x_.n.d6.i6,vi x_.n.d6.a0.b6,vi x_.n.d6.a0.Seq,j4 2 u7 x_.n.d6.c7.b9,j4 2 v6 x_.n.d6.c7.c6,vi x_.n.d6.c7.c8,vi x_.n.d6.c7.Code,.own 0 3 1 0 x_.n.a9.length,.b x_.n.i3,j4 4 z8 x_.n.i5,.b x_.n.b7.i6,vi x_.n.b7.a0.b6,vi x_.n.b7.a0.Seq,j4 2 u7 x_.n.b7.c7.b9,j4 2 v6 x_.n.b7.c7.c6,vi x_.n.b7.c7.c8,vi x_.n.b7.c7.Code,j4 7 u0 x_.n.d9,.own 0 4 13 0 x_.out.length,.own 0 5 5 0 x_.told.length]
def H9(x_:m6):List V:=[vi x_.n.Id,vi x_.n.Acc.g9,j4 8 s6 x_.n.Acc.a9,A4 46 7 u0 x_.n.a5,vi x_.n.Seq,vi x_.n.b5,vi x_.n.a6,A4 4 1 eB x_.n.b8,j4 8 s6 x_.n.g7,.b x_.n.d6.i6,vi x_.n.d6.a0.b6,vi x_.n.d6.a0.Seq,j4 2 u7 x_.n.d6.c7.b9,j4 2 v6 x_.n.d6.c7.c6,vi x_.n.d6.c7.c8,vi x_.n.d6.c7.Code,A4 4 1 eB x_.n.a9,.b x_.n.i3,j4 4 z8 x_.n.i5,.b x_.n.b7.i6,vi x_.n.b7.a0.b6,vi x_.n.b7.a0.Seq,j4 2 u7 x_.n.b7.c7.b9,j4 2 v6 x_.n.b7.c7.c6,vi x_.n.b7.c7.c8,vi x_.n.b7.c7.Code,j4 7 u0 x_.n.d9,A4 49 13 u5 x_.out,A4 76 5 A3 x_.told]
def a7C(x_:m6):List V:=[vi x_.n.Id,vi x_.n.Acc.g9,j4 8 s6 x_.n.Acc.a9,.own 1 0 7 0 x_.n.a5.length,vi x_.n.Seq,vi x_.n.b5,vi x_.n.a6,.own 2 0 1 0 x_.n.b8.length,j4 8 s6 x_.n.g7,.b x_.n.d6.i6,vi x_.n.d6.a0.b6,vi x_.n.d6.a0.Seq,j4 2 u7 x_.n.d6.c7.b9,j4 2 v6 x_.n.d6.c7.c6,vi x_.n.d6.c7.c8,vi x_.n.d6.c7.Code,.own 3 0 1 0 x_.n.a9.length,.b x_.n.i3,j4 4 z8 x_.n.i5,.b x_.n.b7.i6,vi x_.n.b7.a0.b6,vi x_.n.b7.a0.Seq,j4 2 u7 x_.n.b7.c7.b9,j4 2 v6 x_.n.b7.c7.c6,vi x_.n.b7.c7.c8,vi x_.n.b7.c7.Code,j4 7 u0 x_.n.d9,.own 4 0 13 0 x_.out.length,.own 5 0 5 0 x_.told.length]
def b1g(x_:l8):List V:=[vi x_.a7,vi x_.b8,vi x_.To,vi x_.a6,vi x_.c9,.b x_.d7.i6,vi x_.d7.a0.b6,vi x_.d7.a0.Seq,j4 2 u7 x_.d7.c7.b9,j4 2 v6 x_.d7.c7.c6,vi x_.d7.c7.c8,vi x_.d7.c7.Code,j4 8 s6 x_.a9]
def d0Z(x_:m6):List V:=[vi x_.n.Id,vi x_.n.Acc.g9,j4 8 s6 x_.n.Acc.a9,.own 6 0 7 0 x_.n.a5.length,vi x_.n.Seq,vi x_.n.b5,vi x_.n.a6,.own 5 0 1 0 x_.n.b8.length,j4 8 s6 x_.n.g7,.b x_.n.d6.i6,vi x_.n.d6.a0.b6,vi x_.n.d6.a0.Seq,j4 2 u7 x_.n.d6.c7.b9,j4 2 v6 x_.n.d6.c7.c6,vi x_.n.d6.c7.c8,vi x_.n.d6.c7.Code,.own 4 0 1 0 x_.n.a9.length,.b x_.n.i3,j4 4 z8 x_.n.i5,.b x_.n.b7.i6,vi x_.n.b7.a0.b6,vi x_.n.b7.a0.Seq,j4 2 u7 x_.n.b7.c7.b9,j4 2 v6 x_.n.b7.c7.c6,vi x_.n.b7.c7.c8,vi x_.n.b7.c7.Code,j4 7 u0 x_.n.d9,.own 3 0 13 0 x_.out.length,.own 2 0 5 0 x_.told.length]
def a9E(x_:m6):List V:=[vi x_.n.Id,vi x_.n.Acc.g9,j4 8 s6 x_.n.Acc.a9,.own 3 0 7 0 x_.n.a5.length,vi x_.n.Seq,vi x_.n.b5,vi x_.n.a6,.own 4 0 1 0 x_.n.b8.length,j4 8 s6 x_.n.g7,.b x_.n.d6.i6,vi x_.n.d6.a0.b6,vi x_.n.d6.a0.Seq,j4 2 u7 x_.n.d6.c7.b9,j4 2 v6 x_.n.d6.c7.c6,vi x_.n.d6.c7.c8,vi x_.n.d6.c7.Code,.own 5 0 1 0 x_.n.a9.length,.b x_.n.i3,j4 4 z8 x_.n.i5,.b x_.n.b7.i6,vi x_.n.b7.a0.b6,vi x_.n.b7.a0.Seq,j4 2 u7 x_.n.b7.c7.b9,j4 2 v6 x_.n.b7.c7.c6,vi x_.n.b7.c7.c8,vi x_.n.b7.c7.Code,j4 7 u0 x_.n.d9,.own 6 0 13 0 x_.out.length,.own 7 0 5 0 x_.told.length]
def c2W(x_:m6):List V:=[vi x_.n.Id,vi x_.n.Acc.g9,j4 8 s6 x_.n.Acc.a9,.own 1 0 7 0 x_.n.a5.length,vi x_.n.Seq,vi x_.n.b5,vi x_.n.a6,.own 0 2 1 0 x_.n.b8.length,j4 8 s6 x_.n.g7,.b x_.n.d6.i6,vi x_.n.d6.a0.b6,vi x_.n.d6.a0.Seq,j4 2 u7 x_.n.d6.c7.b9,j4 2 v6 x_.n.d6.c7.c6,vi x_.n.d6.c7.c8,vi x_.n.d6.c7.Code,.own 2 0 1 0 x_.n.a9.length,.b x_.n.i3,j4 4 z8 x_.n.i5,.b x_.n.b7.i6,vi x_.n.b7.a0.b6,vi x_.n.b7.a0.Seq,j4 2 u7 x_.n.b7.c7.b9,j4 2 v6 x_.n.b7.c7.c6,vi x_.n.b7.c7.c8,vi x_.n.b7.c7.Code,j4 7 u0 x_.n.d9,.own 0 4 13 0 x_.out.length,.own 0 5 5 0 x_.told.length]
def c8M(x_:m6):List V:=[vi x_.n.Id,vi x_.n.Acc.g9,j4 8 s6 x_.n.Acc.a9,.own 1 0 7 0 x_.n.a5.length,vi x_.n.Seq,vi x_.n.b5,vi x_.n.a6,.own 0 2 1 0 x_.n.b8.length,j4 8 s6 x_.n.g7,.b x_.n.d6.i6,vi x_.n.d6.a0.b6,vi x_.n.d6.a0.Seq,j4 2 u7 x_.n.d6.c7.b9,j4 2 v6 x_.n.d6.c7.c6,vi x_.n.d6.c7.c8,vi x_.n.d6.c7.Code,.own 2 0 1 0 x_.n.a9.length,.b x_.n.i3,j4 4 z8 x_.n.i5,.b x_.n.b7.i6,vi x_.n.b7.a0.b6,vi x_.n.b7.a0.Seq,j4 2 u7 x_.n.b7.c7.b9,j4 2 v6 x_.n.b7.c7.c6,vi x_.n.b7.c7.c8,vi x_.n.b7.c7.Code,j4 7 u0 x_.n.d9,.own 0 4 13 0 x_.out.length,.own 3 0 5 0 x_.told.length]
def c9t(x_:m6):List V:=[vi x_.n.Id,vi x_.n.Acc.g9,j4 8 s6 x_.n.Acc.a9,.own 4 0 7 0 x_.n.a5.length,vi x_.n.Seq,vi x_.n.b5,vi x_.n.a6,.own 5 0 1 0 x_.n.b8.length,j4 8 s6 x_.n.g7,.b x_.n.d6.i6,vi x_.n.d6.a0.b6,vi x_.n.d6.a0.Seq,j4 2 u7 x_.n.d6.c7.b9,j4 2 v6 x_.n.d6.c7.c6,vi x_.n.d6.c7.c8,vi x_.n.d6.c7.Code,.own 6 0 1 0 x_.n.a9.length,.b x_.n.i3,j4 4 z8 x_.n.i5,.b x_.n.b7.i6,vi x_.n.b7.a0.b6,vi x_.n.b7.a0.Seq,j4 2 u7 x_.n.b7.c7.b9,j4 2 v6 x_.n.b7.c7.c6,vi x_.n.b7.c7.c8,vi x_.n.b7.c7.Code,j4 7 u0 x_.n.d9,.own 7 0 13 0 x_.out.length,.own 8 0 5 0 x_.told.length]
def b5n(x_:m6):List n9:=[m4 46 7 u0 x_.n.a5,m4 4 1 eB x_.n.b8,m4 4 1 eB x_.n.a9,m4 49 13 u5 x_.out,m4 76 5 A3 x_.told]
def a1v(x_:m6):List (Option (List n9)):=[some [m4 46 7 u0 x_.n.a5],some [m4 4 1 eB x_.n.b8],some [m4 4 1 eB x_.n.a9],some [m4 49 13 u5 x_.out],some [m4 76 5 A3 x_.told]]
def d1b(x_:m6):List (Option (List n9)):=[some [m4 76 5 A3 x_.told],some [m4 49 13 u5 x_.out],some [m4 4 1 eB x_.n.a9],some [m4 4 1 eB x_.n.b8],some [m4 46 7 u0 x_.n.a5]]
def b8O(x_:m6):List n9:=[m4 49 13 u5 x_.out,m4 76 5 A3 x_.told]
def c0C(x_:m6):List (Option (List n9)):=[some [m4 46 7 u0 x_.n.a5],some [m4 4 1 eB x_.n.a9]]
def d8g(x_:m6):List (Option (List n9)):=[some [m4 46 7 u0 x_.n.a5],some [m4 4 1 eB x_.n.a9],some [m4 76 5 A3 x_.told]]
def om1:List (Option Nat):=[none,none,none,some 46,none,none,none,some 4,none,none,none,none,none,none,none,none,some 4,none,none,none,none,none,none,none,none,none,some 46]
def om2:List (Option Nat):=[some 61,some 49,some 73,some 76]
def om3:List (Option Nat):=[none,none,none,some 46,none,none,none,some 4,none,none,none,none,none,none,none,none,some 4,none,none,none,none,none,none,none,none,none,some 46,some 49,some 76]
def H8:List (Option Nat):=[none,none,none,some 46,none,none,none,some 4,none,none,none,none,none,none,none,none,some 4,none,none,none,none,none,none,none,none,none,none,some 49,some 76]
def I5:List (Option Nat):=[some 27,some 13,some 3,some 5]
def a1U:List (Option Nat):=[some 2,some 2,none,none]
def V8:List (Option Nat):=[none,none,none,some 2,some 2,none,none]
def R2:List (Option Nat):=[none,none,none,none,none,none,none,none,some 2,some 2,none,none,some 8]
def L3:List (Option Nat):=[none,none,some 8,some 7,none,none,none,some 1,some 8,none,none,none,some 2,some 2,none,none,some 1,none,some 4,none,none,none,some 2,some 2,none,none,some 7]
def a2R:List (Option Nat):=[none,none,none,none,some 2,some 2,none,none]
def E4:List (Option Nat):=[none,none,some 8,some 7,none,none,none,some 1,some 8,none,none,none,some 2,some 2,none,none,some 1,none,some 4,none,none,none,some 2,some 2,none,none,some 7,some 13,some 5]
theorem c8V(d:Nat)(w:World)(x0 x1 y0 y1:Int):(Op.equalIn (d+2) 40 (.agg #[.int .i64 x0,.int .i64 x1]) (.agg #[.int .i64 y0,.int .i64 y1])).run Tryz.prog w=.ok ((x0==y0)&&((x1==y1)&&true)) w:=by
 refine b0p Tryz.underlying40 Tryz.stoodInHeld40 ?_;refine a3D (by rfl) (by first|(go_simp;done)|(go_simp;rfl)) (by first|(go_simp;done)|(go_simp;rfl)) (a3W Tryz.underlying3) ?_;refine a3D (by rfl) (by first|(go_simp;done)|(go_simp;rfl)) (by first|(go_simp;done)|(go_simp;rfl)) (a3W Tryz.underlying3) ?_;exact b1N
theorem d2R(xs ys:List Int)(w:World)(hx:xs.length=2)(hy:ys.length=2):(Op.equal 40 (.agg (xs.map (Value.int .i64)).toArray) (.agg (ys.map (Value.int .i64)).toArray)).run Tryz.prog w=.ok (xs==ys) w:=by
 match xs,ys,hx,hy with
 | [x0,x1],[y0,y1],_,_ =>
  have h:=c8V 9998 w x0 x1 y0 y1;have e:((x0==y0)&&((x1==y1)&&true))=([x0,x1]==([y0,y1]:List Int)):=by simp [Bool.and_assoc]
  rw [e] at h;exact h
theorem d7x(d:Nat)(w:World)(x0 x1 y0 y1:Int):(Op.equalIn (d+2) 111 (.agg #[.int .i64 x0,.int .i64 x1]) (.agg #[.int .i64 y0,.int .i64 y1])).run Tryz.prog w=.ok ((x0==y0)&&((x1==y1)&&true)) w:=by
 refine b0p Tryz.underlying111 Tryz.stoodInHeld111 ?_;refine a3D (by rfl) (by first|(go_simp;done)|(go_simp;rfl)) (by first|(go_simp;done)|(go_simp;rfl)) (a3W Tryz.underlying3) ?_;refine a3D (by rfl) (by first|(go_simp;done)|(go_simp;rfl)) (by first|(go_simp;done)|(go_simp;rfl)) (a3W Tryz.underlying3) ?_;exact b1N
theorem c9w(xs ys:List Int)(w:World)(hx:xs.length=2)(hy:ys.length=2):(Op.equal 111 (.agg (xs.map (Value.int .i64)).toArray) (.agg (ys.map (Value.int .i64)).toArray)).run Tryz.prog w=.ok (xs==ys) w:=by
 match xs,ys,hx,hy with
 | [x0,x1],[y0,y1],_,_ =>
  have h:=d7x 9998 w x0 x1 y0 y1;have e:((x0==y0)&&((x1==y1)&&true))=([x0,x1]==([y0,y1]:List Int)):=by simp [Bool.and_assoc]
  rw [e] at h;exact h
theorem d4G(d:Nat)(w:World)(x0 x1 y0 y1:Int):(Op.equalIn (d+2) 159 (.agg #[.int .i64 x0,.int .i64 x1]) (.agg #[.int .i64 y0,.int .i64 y1])).run Tryz.prog w=.ok ((x0==y0)&&((x1==y1)&&true)) w:=by
 refine b0p Tryz.underlying159 Tryz.stoodInHeld159 ?_;refine a3D (by rfl) (by first|(go_simp;done)|(go_simp;rfl)) (by first|(go_simp;done)|(go_simp;rfl)) (a3W Tryz.underlying3) ?_;refine a3D (by rfl) (by first|(go_simp;done)|(go_simp;rfl)) (by first|(go_simp;done)|(go_simp;rfl)) (a3W Tryz.underlying3) ?_;exact b1N
theorem d2t(xs ys:List Int)(w:World)(hx:xs.length=2)(hy:ys.length=2):(Op.equal 159 (.agg (xs.map (Value.int .i64)).toArray) (.agg (ys.map (Value.int .i64)).toArray)).run Tryz.prog w=.ok (xs==ys) w:=by
 match xs,ys,hx,hy with
 | [x0,x1],[y0,y1],_,_ =>
  have h:=d4G 9998 w x0 x1 y0 y1;have e:((x0==y0)&&((x1==y1)&&true))=([x0,x1]==([y0,y1]:List Int)):=by simp [Bool.and_assoc]
  rw [e] at h;exact h
theorem d0r(d:Nat)(w:World)(x0 x1 y0 y1:Int):(Op.equalIn (d+2) 162 (.agg #[.int .i64 x0,.int .i64 x1]) (.agg #[.int .i64 y0,.int .i64 y1])).run Tryz.prog w=.ok ((x0==y0)&&((x1==y1)&&true)) w:=by
 refine b0p Tryz.underlying162 Tryz.stoodInHeld162 ?_;refine a3D (by rfl) (by first|(go_simp;done)|(go_simp;rfl)) (by first|(go_simp;done)|(go_simp;rfl)) (a3W Tryz.underlying3) ?_;refine a3D (by rfl) (by first|(go_simp;done)|(go_simp;rfl)) (by first|(go_simp;done)|(go_simp;rfl)) (a3W Tryz.underlying3) ?_;exact b1N
theorem d7l(xs ys:List Int)(w:World)(hx:xs.length=2)(hy:ys.length=2):(Op.equal 162 (.agg (xs.map (Value.int .i64)).toArray) (.agg (ys.map (Value.int .i64)).toArray)).run Tryz.prog w=.ok (xs==ys) w:=by
 match xs,ys,hx,hy with
 | [x0,x1],[y0,y1],_,_ =>
  have h:=d0r 9998 w x0 x1 y0 y1;have e:((x0==y0)&&((x1==y1)&&true))=([x0,x1]==([y0,y1]:List Int)):=by simp [Bool.and_assoc]
  rw [e] at h;exact h
def ti3:TI:={size:=1,bytes:=8,agg:=false,zero:=[vi 0],sl:=none,arr:=none,ik:=some .i64,fs:=none,str:=false,ptr:=none,bl:=false}
def ti4:TI:={size:=1,bytes:=1,agg:=false,zero:=[.b false],sl:=none,arr:=none,ik:=none,fs:=none,str:=false,ptr:=none,bl:=true}
def ti5:TI:={size:=1,bytes:=1,agg:=false,zero:=[.i .u8 0],sl:=none,arr:=none,ik:=some .u8,fs:=none,str:=false,ptr:=none,bl:=false}
def c1M:TI:={size:=1,bytes:=24,agg:=false,zero:=[.nil],sl:=some 5,arr:=none,ik:=none,fs:=none,str:=false,ptr:=none,bl:=false}
def c0Q:TI:={size:=1,bytes:=24,agg:=false,zero:=[.nil],sl:=some 111,arr:=none,ik:=none,fs:=none,str:=false,ptr:=none,bl:=false}
def b8b:TI:={size:=1,bytes:=24,agg:=false,zero:=[.nil],sl:=some 56,arr:=none,ik:=none,fs:=none,str:=false,ptr:=none,bl:=false}
def c6h:TI:={size:=1,bytes:=24,agg:=false,zero:=[.nil],sl:=some 61,arr:=none,ik:=none,fs:=none,str:=false,ptr:=none,bl:=false}
def c4A:TI:={size:=1,bytes:=24,agg:=false,zero:=[.nil],sl:=some 49,arr:=none,ik:=none,fs:=none,str:=false,ptr:=none,bl:=false}
def b8A:TI:={size:=1,bytes:=24,agg:=false,zero:=[.nil],sl:=some 73,arr:=none,ik:=none,fs:=none,str:=false,ptr:=none,bl:=false}
def c2l:TI:={size:=1,bytes:=24,agg:=false,zero:=[.nil],sl:=some 76,arr:=none,ik:=none,fs:=none,str:=false,ptr:=none,bl:=false}
def c2G:TI:={size:=4,bytes:=96,agg:=true,zero:=[.nil,.nil,.nil,.nil],sl:=none,arr:=none,ik:=none,fs:=some [(0,28),(1,29),(2,30),(3,31)],str:=false,ptr:=none,bl:=false}
def c2A:TI:={size:=3,bytes:=40,agg:=true,zero:=[vi 0,vi 0,.nil],sl:=none,arr:=none,ik:=none,fs:=some [(0,3),(1,3),(2,24)],str:=false,ptr:=none,bl:=false}
def b3T:TI:={size:=2,bytes:=16,agg:=true,zero:=[vi 0,vi 0],sl:=none,arr:=none,ik:=none,fs:=some [(0,3),(1,3)],str:=false,ptr:=none,bl:=false}
def c2N:TI:={size:=1,bytes:=24,agg:=false,zero:=[.nil],sl:=some 159,arr:=none,ik:=none,fs:=none,str:=false,ptr:=none,bl:=false}
def b9X:TI:={size:=1,bytes:=24,agg:=false,zero:=[.nil],sl:=some 162,arr:=none,ik:=none,fs:=none,str:=false,ptr:=none,bl:=false}
def b9K:TI:={size:=4,bytes:=64,agg:=true,zero:=[.nil,.nil,vi 0,vi 0],sl:=none,arr:=none,ik:=none,fs:=some [(0,41),(1,42),(2,3),(3,3)],str:=false,ptr:=none,bl:=false}
def b6X:TI:={size:=7,bytes:=88,agg:=true,zero:=[.b false,vi 0,vi 0,.nil,.nil,vi 0,vi 0],sl:=none,arr:=none,ik:=none,fs:=some [(0,4),(1,40),(3,44)],str:=false,ptr:=none,bl:=false}
def c3V:TI:={size:=1,bytes:=24,agg:=false,zero:=[.nil],sl:=some 86,arr:=none,ik:=none,fs:=none,str:=false,ptr:=none,bl:=false}
def b54:TI:={size:=13,bytes:=152,agg:=true,zero:=[vi 0,vi 0,vi 0,vi 0,vi 0,.b false,vi 0,vi 0,.nil,.nil,vi 0,vi 0,.nil],sl:=none,arr:=none,ik:=none,fs:=some [(0,3),(1,3),(2,3),(3,3),(4,3),(5,46),(12,47)],str:=false,ptr:=none,bl:=false}
def c5O:TI:={size:=1,bytes:=24,agg:=false,zero:=[.nil],sl:=some 46,arr:=none,ik:=none,fs:=none,str:=false,ptr:=none,bl:=false}
def b7T:TI:={size:=4,bytes:=32,agg:=true,zero:=[vi 0,vi 0,vi 0,vi 0],sl:=none,arr:=none,ik:=none,fs:=some [(0,3),(1,3),(2,3),(3,3)],str:=false,ptr:=none,bl:=false}
def b9N:TI:={size:=2,bytes:=32,agg:=true,zero:=[vi 0,.nil],sl:=none,arr:=none,ik:=none,fs:=some [(0,3),(1,47)],str:=false,ptr:=none,bl:=false}
def c5p:TI:={size:=1,bytes:=24,agg:=false,zero:=[.nil],sl:=some 4,arr:=none,ik:=none,fs:=none,str:=false,ptr:=none,bl:=false}
def b4D:TI:={size:=27,bytes:=392,agg:=true,zero:=[vi 0,vi 0,.nil,.nil,vi 0,vi 0,vi 0,.nil,.nil,.b false,vi 0,vi 0,.nil,.nil,vi 0,vi 0,.nil,.b false,.nil,.b false,vi 0,vi 0,.nil,.nil,vi 0,vi 0,.nil],sl:=none,arr:=none,ik:=none,fs:=some [(0,3),(1,58),(3,50),(4,3),(5,3),(6,3),(7,59),(8,47),(9,46),(16,59),(17,4),(18,24),(19,46),(26,50)],str:=false,ptr:=none,bl:=false}
def b6d:TI:={size:=3,bytes:=40,agg:=true,zero:=[vi 0,vi 0,.nil],sl:=none,arr:=none,ik:=none,fs:=some [(0,40),(2,24)],str:=false,ptr:=none,bl:=false}
def b4n:TI:={size:=5,bytes:=40,agg:=true,zero:=[vi 0,vi 0,vi 0,vi 0,vi 0],sl:=none,arr:=none,ik:=none,fs:=some [(0,3),(1,40),(3,3),(4,3)],str:=false,ptr:=none,bl:=false}
def b2F:TI:={size:=8,bytes:=96,agg:=true,zero:=[vi 0,.b false,vi 0,vi 0,.nil,.nil,vi 0,vi 0],sl:=none,arr:=none,ik:=none,fs:=some [(0,3),(1,46)],str:=false,ptr:=none,bl:=false}
def b8M:TI:={size:=1,bytes:=24,agg:=false,zero:=[.nil],sl:=some 40,arr:=none,ik:=none,fs:=none,str:=false,ptr:=none,bl:=false}
def c50:TI:={size:=1,bytes:=24,agg:=false,zero:=[.nil],sl:=some 24,arr:=none,ik:=none,fs:=none,str:=false,ptr:=none,bl:=false}
def b9y:TI:={size:=1,bytes:=24,agg:=false,zero:=[.nil],sl:=some 3,arr:=none,ik:=none,fs:=none,str:=false,ptr:=none,bl:=false}
def c0G:TI:={size:=1,bytes:=24,agg:=false,zero:=[.nil],sl:=some 169,arr:=none,ik:=none,fs:=none,str:=false,ptr:=none,bl:=false}
def c2s:TI:={size:=3,bytes:=56,agg:=true,zero:=[vi 0,.nil,.nil],sl:=none,arr:=none,ik:=none,fs:=some [(0,3),(1,23),(2,98)],str:=false,ptr:=none,bl:=false}
def b9Y:TI:={size:=2,bytes:=32,agg:=true,zero:=[.nil,vi 0],sl:=none,arr:=none,ik:=none,fs:=some [(0,22),(1,3)],str:=false,ptr:=none,bl:=false}
def a9h:TI:={size:=2,bytes:=16,agg:=true,zero:=[vi 0,vi 0],sl:=none,arr:=none,ik:=none,fs:=some [(0,3),(1,3)],str:=false,ptr:=none,bl:=false}
def c5A:TI:={size:=29,bytes:=440,agg:=true,zero:=[vi 0,vi 0,.nil,.nil,vi 0,vi 0,vi 0,.nil,.nil,.b false,vi 0,vi 0,.nil,.nil,vi 0,vi 0,.nil,.b false,.nil,.b false,vi 0,vi 0,.nil,.nil,vi 0,vi 0,.nil,.nil,.nil],sl:=none,arr:=none,ik:=none,fs:=some [(0,61),(27,29),(28,31)],str:=false,ptr:=none,bl:=false}
def b6h:TI:={size:=2,bytes:=16,agg:=true,zero:=[vi 0,vi 0],sl:=none,arr:=none,ik:=none,fs:=some [(0,3),(1,3)],str:=false,ptr:=none,bl:=false}
def b7b:TI:={size:=2,bytes:=16,agg:=true,zero:=[vi 0,vi 0],sl:=none,arr:=none,ik:=none,fs:=some [(0,3),(1,3)],str:=false,ptr:=none,bl:=false}
def b38:TI:={size:=4,bytes:=32,agg:=true,zero:=[vi 0,vi 0,vi 0,vi 0],sl:=none,arr:=none,ik:=none,fs:=some [(0,40),(2,3),(3,3)],str:=false,ptr:=none,bl:=false}
def c0c:TI:={size:=4,bytes:=4,agg:=true,zero:=[.b false,.b false,.b false,.b false],sl:=none,arr:=some (4,4),ik:=none,fs:=none,str:=false,ptr:=none,bl:=false}
def c2t:TI:={size:=4,bytes:=32,agg:=true,zero:=[vi 0,vi 0,vi 0,vi 0],sl:=none,arr:=some (4,3),ik:=none,fs:=none,str:=false,ptr:=none,bl:=false}
def b4u:List (Nat×TI):=[(3,ti3),(4,ti4),(5,ti5),(22,c1M),(23,c0Q),(24,b8b),(28,c6h),(29,c4A),(30,b8A),(31,c2l),(33,c2G),(37,c2A),(40,b3T),(41,c2N),(42,b9X),(44,b9K),(46,b6X),(47,c3V),(49,b54),(50,c5O),(56,b7T),(58,b9N),(59,c5p),(61,b4D),(73,b6d),(76,b4n),(86,b2F),(88,b8M),(90,c50),(93,b9y),(98,c0G),(100,c2s),(107,b9Y),(111,a9h),(147,c5A),(159,b6h),(162,b7b),(169,b38),(171,c0c),(172,c2t)]
def a98:List (Nat×TI)->Nat->Option TI
 | [],_=>none
 | (k,x)::l,t=>if Nat.beq k t then some x else a98 l t
theorem c82{l:List (Nat×TI)}{t:Nat}{x:TI}(h:a98 l t=some x):(t,x)∈l:=by
 induction l with
 | nil=>cases h
 | cons p l ih =>
  obtain ⟨k,y⟩:=p;unfold a98 at h;split at h
  ·rename_i hk;have:k=t:=e0a hk;injection h with h;subst this;subst h;simp
  ·exact d9z.2 (.inr (ih h))
theorem d6F:C6 Tryz.prog 3=some ti3:=by kernel_rfl
theorem d3e:C6 Tryz.prog 4=some ti4:=by kernel_rfl
theorem d2Z:C6 Tryz.prog 5=some ti5:=by kernel_rfl
theorem d6W:C6 Tryz.prog 22=some c1M:=by kernel_rfl
theorem d80:C6 Tryz.prog 23=some c0Q:=by kernel_rfl
theorem d4V:C6 Tryz.prog 24=some b8b:=by kernel_rfl
theorem c7r:C6 Tryz.prog 28=some c6h:=by kernel_rfl
theorem d6k:C6 Tryz.prog 29=some c4A:=by kernel_rfl
theorem d4j:C6 Tryz.prog 30=some b8A:=by kernel_rfl
theorem d7P:C6 Tryz.prog 31=some c2l:=by kernel_rfl
theorem d2K:C6 Tryz.prog 33=some c2G:=by kernel_rfl
theorem d0F:C6 Tryz.prog 37=some c2A:=by kernel_rfl
theorem d5E:C6 Tryz.prog 40=some b3T:=by kernel_rfl
theorem d0w:C6 Tryz.prog 41=some c2N:=by kernel_rfl
theorem c8D:C6 Tryz.prog 42=some b9X:=by kernel_rfl
theorem d3Y:C6 Tryz.prog 44=some b9K:=by kernel_rfl
theorem d58:C6 Tryz.prog 46=some b6X:=by kernel_rfl
theorem d6X:C6 Tryz.prog 47=some c3V:=by kernel_rfl
theorem c70:C6 Tryz.prog 49=some b54:=by kernel_rfl
theorem c6H:C6 Tryz.prog 50=some c5O:=by kernel_rfl
theorem d2s:C6 Tryz.prog 56=some b7T:=by kernel_rfl
theorem d6K:C6 Tryz.prog 58=some b9N:=by kernel_rfl
theorem d3w:C6 Tryz.prog 59=some c5p:=by kernel_rfl
theorem d62:C6 Tryz.prog 61=some b4D:=by kernel_rfl
theorem c62:C6 Tryz.prog 73=some b6d:=by kernel_rfl
theorem d5F:C6 Tryz.prog 76=some b4n:=by kernel_rfl
theorem d61:C6 Tryz.prog 86=some b2F:=by kernel_rfl
theorem d1i:C6 Tryz.prog 88=some b8M:=by kernel_rfl
theorem c6T:C6 Tryz.prog 90=some c50:=by kernel_rfl
theorem c8n:C6 Tryz.prog 93=some b9y:=by kernel_rfl
theorem d5q:C6 Tryz.prog 98=some c0G:=by kernel_rfl
theorem d0P:C6 Tryz.prog 100=some c2s:=by kernel_rfl
theorem d86:C6 Tryz.prog 107=some b9Y:=by kernel_rfl
theorem d1c:C6 Tryz.prog 111=some a9h:=by kernel_rfl
theorem d0X:C6 Tryz.prog 147=some c5A:=by kernel_rfl
theorem d8x:C6 Tryz.prog 159=some b6h:=by kernel_rfl
theorem c7o:C6 Tryz.prog 162=some b7b:=by kernel_rfl
theorem d8Z:C6 Tryz.prog 169=some b38:=by kernel_rfl
theorem c7v:C6 Tryz.prog 171=some c0c:=by kernel_rfl
theorem d1e:C6 Tryz.prog 172=some c2t:=by kernel_rfl
theorem c8C:∀p∈b4u,C6 Tryz.prog p.1=some p.2:=by
 intro p hp;simp only [b4u,d9z,e09,or_false] at hp;rcases hp with rfl|rfl|rfl|rfl|rfl|rfl|rfl|rfl|rfl|rfl|rfl|rfl|rfl|rfl|rfl|rfl|rfl|rfl|rfl|rfl|rfl|rfl|rfl|rfl|rfl|rfl|rfl|rfl|rfl|rfl|rfl|rfl|rfl|rfl|rfl|rfl|rfl|rfl|rfl|rfl
 ·exact d6F
 ·exact d3e
 ·exact d2Z
 ·exact d6W
 ·exact d80
 ·exact d4V
 ·exact c7r
 ·exact d6k
 ·exact d4j
 ·exact d7P
 ·exact d2K
 ·exact d0F
 ·exact d5E
 ·exact d0w
 ·exact c8D
 ·exact d3Y
 ·exact d58
 ·exact d6X
 ·exact c70
 ·exact c6H
 ·exact d2s
 ·exact d6K
 ·exact d3w
 ·exact d62
 ·exact c62
 ·exact d5F
 ·exact d61
 ·exact d1i
 ·exact c6T
 ·exact c8n
 ·exact d5q
 ·exact d0P
 ·exact d86
 ·exact d1c
 ·exact d0X
 ·exact d8x
 ·exact c7o
 ·exact d8Z
 ·exact c7v
 ·exact d1e
def a6Z(t:Nat):Option Nat:=if Nat.beq t 40 then some 2 else if Nat.beq t 111 then some 2 else if Nat.beq t 159 then some 2 else if Nat.beq t 162 then some 2 else  none
theorem d57(t m:Nat)(h:a6Z t=some m)(xs ys:List Int)(w:World)(hx:xs.length=m)(hy:ys.length=m):(Op.equal t (.agg (xs.map (Value.int .i64)).toArray) (.agg (ys.map (Value.int .i64)).toArray)).run Tryz.prog w=.ok (xs==ys) w:=by
 unfold a6Z at h;split at h
 ·rename_i hk;have hm:2=m:=e0y h;rw [e0a hk];exact d2R xs ys w (hx.trans hm.symm) (hy.trans hm.symm)
 split at h
 ·rename_i hk;have hm:2=m:=e0y h;rw [e0a hk];exact c9w xs ys w (hx.trans hm.symm) (hy.trans hm.symm)
 split at h
 ·rename_i hk;have hm:2=m:=e0y h;rw [e0a hk];exact d2t xs ys w (hx.trans hm.symm) (hy.trans hm.symm)
 split at h
 ·rename_i hk;have hm:2=m:=e0y h;rw [e0a hk];exact d7l xs ys w (hx.trans hm.symm) (hy.trans hm.symm)
 cases h
theorem d8u(t m:Nat)(h:a6Z t=some m):Tryz.prog.eqGuardType Tryz.prog.depth t=false:=by
 unfold a6Z at h;split at h
 ·rename_i hk;have hm:2=m:=e0y h;rw [e0a hk];exact Tryz.eqGuardType40
 split at h
 ·rename_i hk;have hm:2=m:=e0y h;rw [e0a hk];exact Tryz.eqGuardType111
 split at h
 ·rename_i hk;have hm:2=m:=e0y h;rw [e0a hk];exact Tryz.eqGuardType159
 split at h
 ·rename_i hk;have hm:2=m:=e0y h;rw [e0a hk];exact Tryz.eqGuardType162
 cases h
theorem d7u:Tryz.prog.underlying 105=some (.map 40 4):=by kernel_rfl
theorem c84(w:World):(zeroValue 4).run Tryz.prog w=.ok (.bool false) w:=by kernel_rfl
theorem d5w(em:Bool)(xs:List Int)(w:World)(h:xs.length=2):(Instr.checkKey em 10000 40 (kv xs)).run Tryz.prog w=.ok () w:=by
 match xs,h with
 | [x0,x1],_ =>
  refine d8V (n:=9999) Tryz.underlying40 fun f hf => ?_
  simp only [d9z,e09,or_false] at hf;rcases hf with rfl|rfl
  ·exact ⟨.int .i64 x0,by first|(go_simp;done)|(go_simp;rfl),c4B (n:=9998) Tryz.underlying3⟩
  ·exact ⟨.int .i64 x1,by first|(go_simp;done)|(go_simp;rfl),c4B (n:=9998) Tryz.underlying3⟩
def b6j(t:Nat):Option (Nat×Nat×V):=if Nat.beq t 105 then some (40,2,.b false) else  none
theorem c6v(t kt m:Nat)(z:V)(h:b6j t=some (kt,m,z)):∃vt,Tryz.prog.underlying t=some (.map kt vt)/\a6Z kt=some m/\b1K (Tryz.prog.underlying kt)=true/\(∀w,(zeroValue vt).run Tryz.prog w=.ok z.conc w)/\z.simple=true/\∀(em:Bool) (xs:List Int) (w:World),xs.length=m->(Instr.checkKey em 10000 kt (kv xs)).run Tryz.prog w=.ok () w:=by
 unfold b6j at h;split at h
 ·rename_i hk;injection h with h;injection h with h1 h;injection h with h2 h3;subst h1;subst h2;subst h3;obtain rfl:=e0a hk;exact ⟨4,d7u,rfl,by rw [Tryz.underlying40];rfl,c84,rfl,d5w⟩
 cases h
theorem c76:Tryz.prog.follows .mixedOrders=true:=by kernel_rfl
def cx:Cx where
 P:=Tryz.prog
 mixed:=c76
 T:=a98 b4u
 hT:=fun t ti h=>c8C (t,ti) (c82 h)
 E:=a6Z
 hE:=d57
 hG:=d8u
 M:=b6j
 hM:=c6v
structure FS(α:Type) where
 f:Nat
 fn:Func
 m:List PM
 o:List (Option (Nat×PM))
 ms:List PM
 R:α->V
 O:α->LOV
 h:cx.P.funcs[f]?=some fn
def FS.X{α:Type}(q:FS α):K9:=⟨q.f,q.fn,q.m,q.o⟩
def FS.c{α:Type}(q:FS α):Code:=d2w q.fn
def FS.t{α:Type}(q:FS α)(i:Nat)(fr:Bool)(r:α):Nat×I1:=(i,{a:=.call q.ms fr (q.R r) (q.O r)})
def FS.k{α:Type}(q:FS α)(i:Nat)(l:List Bool):List Item:=a1Y 2000 i l [.code q.c]
def noK:Unit->KS:=fun _=>([],⟨[],[]⟩)
section
variable {α β J P E:Type}
abbrev OK(q:FS α)(args:List V)(m:Option α):Prop := ∀r,m=some r->a2i cx.P q.f args (q.R r) (q.O r)
abbrev NG(q:FS α)(r:α)(S:J->KS)(f:J->Option β)(v:β):Prop := ∀s,f s=some v->FK cx q.X (q.R r) (q.O r) (S s)
abbrev NF(q:FS α)(r:α)(S:J->KS)(f:J->Option α):Prop:=NG q r S f r
abbrev G1(q:FS α)(SE:E->KS)(S:P->KS):=LC cx q.X q.R q.O SE S
abbrev LQ(q:FS α)(SE:E->KS)(S:P->KS)(b:P->Option (j6 α P E)):Prop:=LB cx q.X q.R q.O SE S b
theorem q8(q:FS α){args:List V}{m:Option α}(h:∀r,m=some r->Pt cx q.X (q.R r) (q.O r) [.code q.c] (a6Q q.X args) [] [])(hb:q.X.fn.body=some q.c:=by kernel_rfl) (hn:(q.X.fn.name == "runtime.NumGoroutine")=false:=by kernel_rfl) (ho:a2e 0 q.X.oms args=true:=by kernel_rfl):OK q args m :=
 fun r hm=>a2i.of (X:=q.X) q.h hb hn ho (P0 (h r hm))
theorem FS.rt(q:FS α){x y:α}(h:some x=some y):q.R y=q.R x/\q.O y=q.O x:=by
 injection h with h;subst h;exact ⟨rfl,rfl⟩
variable {X:K9} {res:V} {outs:LOV} {k:List Item} {S:St} {sc:P8} {ps:List Prop} {t:List (Nat×I1)} {v:β}
theorem fE{q:FS α}{x y:α}(h:some x=some y)(hg:a6z cx q.X k S (scO sc [])=some (q.R x,q.O x,psO ps []):=by kernel_rfl):Pt cx q.X (q.R y) (q.O y) k S sc ps:=fn0 q.h (q.rt h) hg
theorem fL{q:FS α}{SE:E->KS}{SP:P->KS}(c:G1 q SE SP){x:α}(h:some (j6.ret x)=some c.st)(hg:a6z cx q.X k S (scO sc [])=some (q.R x,q.O x,psO ps []):=by kernel_rfl):Pt cx q.X c.res c.outs k S sc ps:=fn0 q.h (c.rt h) hg
theorem j7(q:FS α){m:Option α}{p:α->Prop}(ok:∀x,m=some x->p x)(i:Nat){f:α->Option β}(h:m.bind f=some v)(g:∀x,f x=some v->Pt cx X res outs k S ((q.t i false x::t)::sc) (p x::ps)):Pt cx X res outs k S (t::sc) ps:=cb q.t ok i false h g
theorem cbS(q:FS α){m:Option α}{p:α->Prop}(ok:∀x,m=some x->p x)(i:Nat){f:α->Option β}(a:∀x,N3 (q.R x))(b:∀x,a35 (q.O x))(h:m.bind f=some v)(g:∀x,f x=some v->Pt cx X res outs k S ((q.t i true x::t)::sc) ((N3 (q.R x)/\a35 (q.O x))::p x::ps)):Pt cx X res outs k S (t::sc) ps :=
 cb q.t ok i true h fun x h=>ob ⟨a x,b x⟩ (g x h)
theorem cb1(q:FS α){m:Option α}{p:α->Prop}(ok:∀x,m=some x->p x)(i n:Nat){f:α->Option β}(h:m.bind f=some v)(g:∀x,f x=some v->Pt cx X res outs k S ((q.t i true x::t)::sc) ((N3 (q.R x)/\a35 (q.O x))::p x::ps))(a:∀x,N3 (q.R x):=by exact fun _=>rfl)(b:∀x,q.O x=b7t n:=by exact fun _=>rfl):Pt cx X res outs k S (t::sc) ps:=cbS q ok i a (fun x=>b x▸Z8 n) h g
end
theorem A5{X:K9}{res:V}{outs:LOV}{k:List Item}{S:St}{sc:P8}{ps:List Prop}(x:m6)(h:Pt cx X res outs k S sc ((x.told.length=x.told.length)::(x.out.length=x.out.length)::(x.n.a9.length=x.n.a9.length)::(x.n.b8.length=x.n.b8.length)::(x.n.a5.length=x.n.a5.length)::ps)):Pt cx X res outs k S sc ps:=ob rfl (ob rfl (ob rfl (ob rfl (ob rfl (h)))))
theorem K1{X:K9}{res:V}{outs:LOV}{k:List Item}{S:St}{sc:P8}{ps:List Prop}(x:j5)(h:Pt cx X res outs k S sc ((x.d9.length=x.d9.length)::(x.a9.length=x.a9.length)::(x.b8.length=x.b8.length)::(x.a5.length=x.a5.length)::ps)):Pt cx X res outs k S sc ps:=ob rfl (ob rfl (ob rfl (ob rfl (h))))
theorem K4{X:K9}{res:V}{outs:LOV}{k:List Item}{S:St}{sc:P8}{ps:List Prop}(x:j9)(h:Pt cx X res outs k S sc ((x.Told.length=x.Told.length)::(x.f0.length=x.f0.length)::(x.i0.length=x.i0.length)::(x.a8.length=x.a8.length)::ps)):Pt cx X res outs k S sc ps:=ob rfl (ob rfl (ob rfl (ob rfl (h))))
def H5(x_:j9):List V:=[j4 27 r9 x_.a8,j4 13 u5 x_.i0,j4 3 D6 x_.f0,j4 5 A3 x_.Told]
def b1X:FS (x6):=⟨27,Tryz.f27,[.ptr [some 1,none] []],[none],[.val [some 1] []],fun r=>.optr 107 (a0k r),fun _=>[none],Tryz.func27⟩
def c6F:(List Int)->KS:=fun a9W=>⟨b1X.k 3 [true],(j4 1 L5 a9W::(bs 10 [])),[some []]⟩
def b6S(a9W:List Int):Option x6 :=
 some (x6.mk a9W 0)
theorem d5g(r):NF b1X r c6F (fun s=>b6S s):=fun a9W h=>PK<|rg<|fE h
def b3m(code:List Int):Option x6 :=
 (((bif decide ((code.length:Int)>2000) then (s5 ((0:Int)<=2000/\2000<=(code.length:Int)) (some (l7.brk ((code.drop 0).take ((2000:Int).toNat-0))))) else some (l7.brk code)):Option (l7 x6 (List Int))).bind fun x=>x.go some fun j=>b6S j)
theorem d5H{code}:OK b1X [j4 1 L5 code] (b3m code) :=
 q8 _ fun r h=>rg<|C2 h (d5g r) fun x1 h hc1=>rg<|i9 2 h (fun h=>rg<|t8 h fun e1 h=>om (V.sl 1 ((2000:Int).toNat-0) (((code.map L5).drop 0).take ((2000:Int).toNat-0))=j4 1 L5 ((code.drop 0).take ((2000:Int).toNat-0))) (b7Z e1)<|ob e1.1<|ob e1.2<|tl (1,{v:=some (j4 1 L5 ((code.drop 0).take ((2000:Int).toNat-0)))})<|(p7 h hc1 fun hI=>sk [] [0] [] hI)) (fun h=>(p7 h hc1 fun hI=>sk [] [0] [] hI))
def c56:FS (List m5):=⟨59,Tryz.f59,[.val [some 2] [some 111]],[],[],fun r=>A4 111 2 u6 r,fun _=>[],Tryz.func59⟩
def b7u:Option (List m5) :=
 (s5 (0<=(4:Int)/\(4:Int)*16<=140737488355328) (some (d9u (4:Int).toNat (m5.mk 0 0))))
theorem d1k:OK c56 [] b7u :=
 q8 _ fun r h=>o8<|t8 h fun e1 h=>Q6 0 2 111 2 16 u6 (m5.mk 0 0) a9h (.none) e1 (by decide) (by rfl)<|z6 (d9u (4:Int).toNat (m5.mk 0 0))<|fE h
def Q2:FS (Int×x6):=⟨60,Tryz.f60,[.val [] []],[some (0,.ptr [some 1,none] []),none],[.ptr [some 1,none] [],.val [] []],fun r=>vi r.1,fun r=>[some (.optr 107 (a0k r.2)),none],Tryz.func60⟩
def O3(r_:x6)(n:Int):Option (Int×x6) :=
 (bif decide (n<1) then some (0,(x6.mk r_.b (l9 (r_.p+1)))) else (bif ((r_.b.length:Int)==0) then some (0,(x6.mk r_.b (l9 (r_.p+1)))) else (bif decide ((l9 ((l9 (r_.p+1))-1))<(r_.b.length:Int)) then ((idx r_.b (l9 ((l9 (r_.p+1))-1))).bind fun y=>(s5 (n≠0) (some (d9I (l9 y) n,(x6.mk r_.b (l9 (r_.p+1))))))) else (s5 ((r_.b.length:Int)≠0) (((idx r_.b (d9I (l9 ((l9 (r_.p+1))-1)) (r_.b.length:Int))).bind fun y1=>(s5 ((r_.b.length:Int)≠0) (((idx r_.b (d9I (l9 ((l9 ((l9 ((l9 (r_.p+1))-1))*7))+3)) (r_.b.length:Int))).bind fun y2=>(s5 ((r_.b.length:Int)≠0) ((s5 (n≠0) (some (d9I (a3a .i64 (l9 ((l9 ((l9 ((l9 ((l9 y1)*131))+(l9 ((l9 y2)*1117))))+(l9 ((l9 ((l9 (r_.p+1))-1))*29))))+(l9 ((l9 (e0B (l9 ((l9 (r_.p+1))-1)) (r_.b.length:Int)))*53)))) (l9 (e0B (l9 ((l9 ((l9 ((l9 ((l9 y1)*131))+(l9 ((l9 y2)*1117))))+(l9 ((l9 ((l9 (r_.p+1))-1))*29))))+(l9 ((l9 (e0B (l9 ((l9 (r_.p+1))-1)) (r_.b.length:Int)))*53)))) 64))) n,(x6.mk r_.b (l9 (r_.p+1)))))))))))))))))
theorem R4{r_ n}:OK Q2 [.optr 107 (a0k r_),vi n] (O3 r_ n) :=
 q8 _ fun r h=>W9<|i9 2 h (fun h=>rg<|fE h) (fun h=>i9 9 h (fun h=>rg<|fE h) (fun h=>o8<|i9 6 h (fun h=>rg<|v5 L5 5 h fun y hy h=>t8 h fun e1 h=>ob e1<|fE h) (fun h=>rg<|t8 h fun e2 h=>ob e2<|v5 L5 11 h fun y1 hy1 h=>t8 h fun e3 h=>ob e3<|v5 L5 28 h fun y2 hy2 h=>t8 h fun e4 h=>ob e4<|rg<|om (64≠(0:Int)) (by decide)<|rg<|t8 h fun e5 h=>ob e5<|fE h)))
def a2X:FS (Int×x6):=⟨61,Tryz.f61,[.val [] []],[some (0,.ptr [some 1,none] []),none],[.ptr [some 1,none] [],.val [some 1] []],fun r=>vi r.1,fun r=>[some (.optr 107 (a0k r.2)),none],Tryz.func61⟩
def a1t(r_:x6)(list:List Int):Option (Int×x6) :=
 ((O3 r_ (list.length:Int)).bind fun pick=>((idx list pick.1).bind fun y=>some (y,pick.2)))
theorem a4f{r_ list}:OK a2X [.optr 107 (a0k r_),j4 1 eI list] (a1t r_ list) :=
 q8 _ fun r h=>o8<|j7 Q2 R4 4 h fun pick h=>v5 eI 5 h fun y hy h=>fE h
def a5h:FS ((List m5×Nat)×x6):=⟨28,Tryz.f28,[.part],[some (0,.ptr [some 1,none] [])],[.ptr [some 1,none] []],fun r=>.sl 2 r.1.2 (((r.1.1.map u6).drop 0).take r.1.2),fun r=>[some (.optr 107 (a0k r.2))],Tryz.func28⟩
def b8k:(x6×List m5)->KS:=fun (r_2,out1)=>⟨a5h.k 4 [false],(.ptr 0 0 0::(bs 2 (.own 1 0 2 0 out1.length::(bs 44 [])))),[some [.var 107 [j4 1 L5 r_2.b,vi r_2.p]],some [m4 111 2 u6 out1]]⟩
def b4b(r_2:x6)(out1:List m5):Option ((List m5×Nat)×x6) :=
 ((O3 r_2 30).bind fun pick=>(bif (pick.1==0) then (s5 ((0:Int)<=3/\3<=(out1.length:Int)) (some ((out1,((3:Int).toNat-0)),pick.2))) else (bif (pick.1==1) then ((O3 pick.2 4).bind fun pick1=>((a1t pick1.2 [(-1),1000001]).bind fun num=>((idx out1 pick1.1).bind fun box=>some ((out1.set pick1.1.toNat (m5.mk num.1 box.c8),out1.length),num.2)))) else (bif (pick.1==2) then ((O3 pick.2 4).bind fun Y3=>((a1t Y3.2 [1000001,(-1000001)]).bind fun U0=>((idx out1 Y3.1).bind fun M1=>some ((out1.set Y3.1.toNat (m5.mk M1.i7 U0.1),out1.length),U0.2)))) else some ((out1,out1.length),pick.2)))))
theorem d6d(r):NF a5h r b8k (fun s=>b4b s.1 s.2):=fun (r_2,out1) h=>PK<|rg<|j7 Q2 R4 1 h fun pick h=>rg<|i9 1 h (fun h=>rg<|t8 h fun e1 h=>ob e1.1<|ob e1.2<|rg<|om ((0+0)+((3:Int).toNat-0)<=out1.length) (by first|omega|(simp only [d94];omega)|(dsimp only at *;omega)|(simp at *;omega))<|fE h) (fun h=>rg<|i9 1 h (fun h=>rg<|j7 Q2 R4 2 h fun pick1 h=>tk 4 []<|j7 a2X a4f 5 h fun num h=>om (2=[(-1),1000001].length) (by simp)<|B3 h fun box a7i h=>E3 a7i<|R1 111 2 u6 8 [] (m5.mk num.1 box.c8) a7i<|rg<|om (0+out1.length<=(out1.set pick1.1.toNat (m5.mk num.1 box.c8)).length) (by first|omega|(simp only [d94];omega)|(dsimp only at *;omega)|(simp at *;omega))<|fE h) (fun h=>rg<|i9 1 h (fun h=>rg<|j7 Q2 R4 2 h fun Y3 h=>tk 4 []<|j7 a2X a4f 5 h fun U0 h=>om (2=[1000001,(-1000001)].length) (by simp)<|B3 h fun M1 a2C h=>E3 a2C<|R1 111 2 u6 8 [] (m5.mk M1.i7 U0.1) a2C<|rg<|om (0+out1.length<=(out1.set Y3.1.toNat (m5.mk M1.i7 U0.1)).length) (by first|omega|(simp only [d94];omega)|(dsimp only at *;omega)|(simp at *;omega))<|fE h) (fun h=>rg<|om (0+out1.length<=out1.length) (by first|omega|(simp only [d94];omega)|(dsimp only at *;omega)|(simp at *;omega))<|fE h)))
def c8l:(x6×(List m5)×Int)->KS:=fun (r_1,out,i)=>⟨a5h.k 3 [],(.ptr 0 0 0::(bs 2 (.own 1 0 2 0 out.length::(vi i::(bs 43 []))))),[some [.var 107 [j4 1 L5 r_1.b,vi r_1.p]],some [m4 111 2 u6 out]]⟩
def a7s(r_1:x6)(out:List m5)(i:Int):Option (j6 ((List m5×Nat)×x6) (x6×(List m5)×Int) (x6×List m5)) :=
 (bif decide (i<(out.length:Int)) then ((O3 r_1 5).bind fun U9=>((a1t U9.2 [0,1,2,5,(-3),7,100,1000000,(-1000000)]).bind fun a0h=>((idx out i).bind fun c9j=>some (j6.nxt (a0h.2,out.set i.toNat (m5.mk U9.1 a0h.1),l9 (i+1)))))) else some (j6.brk (r_1,out)))
theorem d5b:LQ a5h b8k c8l (fun s=>a7s s.1 s.2.1 s.2.2):=fun lc (r_1,out,i) h=>PK<|rg<|i9 3 h (fun h=>rg<|j7 Q2 R4 3 h fun U9 h=>tk 5 []<|j7 a2X a4f 6 h fun a0h h=>om (9=[0,1,2,5,(-3),7,100,1000000,(-1000000)].length) (by simp)<|B3 h fun c9j c0b h=>E3 c0b<|R1 111 2 u6 9 [] (m5.mk U9.1 a0h.1) c0b<|rg<|(lc.nx h fun hI=>om ((.own 1 0 2 0 out.length:V)=.own 1 0 2 0 (out.set i.toNat (m5.mk U9.1 a0h.1)).length) (by simp)<|sk [.is (.tmp 3) (.own 1 0 2 0 (out.set i.toNat (m5.mk U9.1 a0h.1)).length)] [0,3,4] [(1,0)] hI)) (fun h=>(lc.bk h fun hI=>sk [] [0,3] [(1,0)] hI))
def b3u(r_:x6):Option ((List m5×Nat)×x6) :=
 ((b7u).bind fun a1R=>((p8 (fun s:x6×(List m5)×Int=>a7s s.1 s.2.1 s.2.2) (r_,a1R,0)).bind fun x=>x.go (fun r=>some r) fun s=>b4b s.1 s.2))
theorem d3I{r_}:OK a5h [.optr 107 (a0k r_)] (b3u r_) :=
 q8 _ fun r h=>o8<|j7 c56 d1k 0 h fun a1R h=>rg<|lp (d5b) h (fun _ h=>a5h.rt h) (d6d r) fun hI=>sk [] [0,3,4] [(2,0)] hI
def a9V:FS (m7×x6):=⟨90,Tryz.f90,[.val [] []],[some (0,.ptr [some 1,none] [])],[.ptr [some 1,none] []],fun r=>.agg (z8 r.1),fun r=>[some (.optr 107 (a0k r.2))],Tryz.func90⟩
def c8R:(x6×m7)->KS:=fun (w,i)=>⟨a9V.k 6 [true],(bs 2 (.ptr 1 0 0::(.ptr 2 0 0::(bs 36 [])))),[some [.var 107 [j4 1 L5 w.b,vi w.p]],some [.var 56 [vi 0,vi 0,vi 0,vi 0]],some [.var 56 [vi i.a7,vi i.A,vi i.B,vi i.N]]]⟩
def b8R(w:x6)(i:m7):Option (m7×x6) :=
 some (i,w)
theorem d38(r):NF a9V r c8R (fun s=>b8R s.1 s.2):=fun (w,i) h=>PK<|rg<|fE h
def b26(r_:x6):Option (m7×x6) :=
 ((a1t r_ [1,1,2,2,3,4,4,5,6,7]).bind fun num=>((O3 num.2 3).bind fun pick=>((O3 pick.2 3).bind fun pick1=>(((bif (num.1==3) then ((a1t pick1.2 [0,1,5,(-2),100,1000000]).bind fun U0=>some (l7.brk (U0.2,(m7.mk num.1 pick.1 0 U0.1)))) else (bif (num.1==6) then ((O3 pick1.2 3).bind fun Y3=>some (l7.brk (Y3.2,(m7.mk num.1 pick.1 pick1.1 (l9 (1+Y3.1)))))) else (bif (num.1==7) then ((O3 pick1.2 3).bind fun U9=>(bif decide (U9.1>0) then ((O3 U9.2 4).bind fun a4u=>((O3 a4u.2 4).bind fun b7S=>some (l7.ret ((m7.mk 4 a4u.1 b7S.1 0),b7S.2)))) else some (l7.brk (U9.2,(m7.mk num.1 0 0 0))))) else some (l7.brk (pick1.2,(m7.mk num.1 pick.1 pick1.1 0)))))):Option (l7 (m7×x6) (x6×m7))).bind fun x=>x.go some fun j=>b8R j.1 j.2))))
theorem c8P{r_}:OK a9V [.optr 107 (a0k r_)] (b26 r_) :=
 q8 _ fun r h=>o8<|tk 1 []<|j7 a2X a4f 2 h fun num h=>om (10=[1,1,2,2,3,4,4,5,6,7].length) (by simp)<|j7 Q2 R4 4 h fun pick h=>j7 Q2 R4 6 h fun pick1 h=>rg<|C2 h (d38 r) fun x1 h hc1=>rg<|i9 1 h (fun h=>o8<|tk 1 []<|j7 a2X a4f 2 h fun U0 h=>om (6=[0,1,5,(-2),100,1000000].length) (by simp)<|(p7 h hc1 fun hI=>sk [] [2,3] [(1,0),(10,0)] hI)) (fun h=>rg<|i9 1 h (fun h=>rg<|j7 Q2 R4 1 h fun Y3 h=>(p7 h hc1 fun hI=>sk [] [2,3] [(1,0),(10,0)] hI)) (fun h=>rg<|i9 1 h (fun h=>rg<|j7 Q2 R4 1 h fun U9 h=>i9 2 h (fun h=>rg<|j7 Q2 R4 1 h fun a4u h=>j7 Q2 R4 3 h fun b7S h=>(E6 h hc1 fun h=>fE h)) (fun h=>o8<|(p7 h hc1 fun hI=>sk [] [2,3] [(1,0),(10,0)] hI))) (fun h=>(p7 h hc1 fun hI=>sk [] [2,3] [(1,0),(10,0)] hI))))
def a5u:FS ((List m7)×x6):=⟨62,Tryz.f62,[.val [some 4] [some 56]],[some (0,.ptr [some 1,none] [])],[.ptr [some 1,none] []],fun r=>A4 56 4 z8 r.1,fun r=>[some (.optr 107 (a0k r.2))],Tryz.func62⟩
def c0p:(x6×List m7)->KS:=fun (w,out1)=>⟨a5u.k 5 [false,false],(bs 5 (.own 1 0 4 0 out1.length::(bs 31 []))),[some [.var 107 [j4 1 L5 w.b,vi w.p]],some [m4 56 4 z8 out1]]⟩
def c3t(w:x6)(out1:List m7):Option ((List m7)×x6) :=
 some (out1,w)
theorem d13(r):NF a5u r c0p (fun s=>c3t s.1 s.2):=fun (w,out1) h=>PK<|rg<|z6 out1<|fE h
def d4L:(x6×(List m7)×Int)->KS:=fun (r_1,out,i)=>⟨a5u.k 4 [false],(.ptr 0 0 0::(bs 4 (.own 1 0 4 0 out.length::(vi i::(bs 30 []))))),[some [.var 107 [j4 1 L5 r_1.b,vi r_1.p]],some [m4 56 4 z8 out]]⟩
def b0b(r_1:x6)(out:List m7)(i:Int):Option (j6 ((List m7)×x6) (x6×(List m7)×Int) (x6×List m7)) :=
 (bif decide (i>0) then ((b26 r_1).bind fun a8G=>(s5 ((out.length+1)*32<=140737488355328) (some (j6.nxt (a8G.2,out++[a8G.1],l9 (i-1)))))) else some (j6.brk (r_1,out)))
theorem d7E:LQ a5u c0p d4L (fun s=>b0b s.1 s.2.1 s.2.2):=fun lc (r_1,out,i) h=>PK<|rg<|i9 1 h (fun h=>rg<|j7 a9V c8P 2 h fun a8G h=>tk 3 []<|t8 h fun e1 h=>K2 4 8 56 4 32 z8 out a8G.1 e1<|K0 a8G.1<|rg<|(lc.nx h fun hI=>sk [] [0,5,6] [(8,0)] hI)) (fun h=>(lc.bk h fun hI=>sk [] [5] [(1,0)] hI))
def b2w(r_:x6):Option ((List m7)×x6) :=
 ((O3 r_ 3).bind fun pick=>(bif (pick.1==0) then ((O3 pick.2 3).bind fun pick1=>((O3 pick1.2 3).bind fun Y3=>((O3 Y3.2 3).bind fun U9=>some ([(m7.mk 1 0 pick1.1 0),(m7.mk 3 1 0 (l9 (1+U9.1))),(m7.mk 4 0 1 0),(m7.mk 2 Y3.1 0 0)],U9.2)))) else ((O3 pick.2 8).bind fun a4u=>((p8 (fun s:x6×(List m7)×Int=>b0b s.1 s.2.1 s.2.2) (a4u.2,([]:List m7),a4u.1)).bind fun x=>x.go (fun r=>some r) fun s=>c3t s.1 s.2))))
theorem d7A{r_}:OK a5u [.optr 107 (a0k r_)] (b2w r_) :=
 q8 _ fun r h=>o8<|j7 Q2 R4 1 h fun pick h=>i9 2 h (fun h=>rg<|j7 Q2 R4 1 h fun pick1 h=>rg<|j7 Q2 R4 1 h fun Y3 h=>rg<|j7 Q2 R4 3 h fun U9 h=>tk 9 []<|om (4=[(m7.mk 1 0 pick1.1 0),(m7.mk 3 1 0 (l9 (1+U9.1))),(m7.mk 4 0 1 0),(m7.mk 2 Y3.1 0 0)].length) (by simp)<|fE h) (fun h=>rg<|tk 0 []<|rg<|j7 Q2 R4 1 h fun a4u h=>lp (d7E) h (fun _ h=>a5u.rt h) (d13 r) fun hI=>om ((.own 5 0 4 0 0:V)=.own 5 0 4 0 ([]:List m7).length) (by simp)<|sk [.is (.tmp 5) (.own 5 0 4 0 ([]:List m7).length)] [0,5,6] [(5,0)] hI)
def a0H:FS ((List m7)×x6):=⟨29,Tryz.f29,[.val [some 4] []],[some (0,.ptr [some 1,none] [])],[.ptr [some 1,none] []],fun r=>j4 4 z8 r.1,fun r=>[some (.optr 107 (a0k r.2))],Tryz.func29⟩
def c0v:(x6×List m7)->KS:=fun (w,out)=>⟨a0H.k 7 [false,true],(bs 3 (.own 1 0 4 0 out.length::(bs 53 []))),[some [.var 107 [j4 1 L5 w.b,vi w.p]],some [m4 56 4 z8 out]]⟩
def c4t(w:x6)(out:List m7):Option ((List m7)×x6) :=
 some (out,w)
theorem d51(r):NF a0H r c0v (fun s=>c4t s.1 s.2):=fun (w,out) h=>PK<|rg<|z6 out<|fE h
def c3o(pick1:Int×x6):(List m7)->KS:=fun out2=>⟨a0H.k 10 [false,false,false,false,true,false],(bs 3 (.own 1 0 4 0 out2.length::(bs 53 []))),[some [.var 107 [j4 1 L5 pick1.2.b,vi pick1.2.p]],some [m4 56 4 z8 out2]]⟩
def c07(pick1:Int×x6)(out2:List m7):Option (l7 ((List m7)×x6) (x6×List m7)) :=
 some (l7.brk (pick1.2,out2))
theorem c92(pick1)(r){x1}(hc1:JC (fun j=>FK cx a0H.X (a0H.R r) (a0H.O r) (c0v j)) r x1):NG a0H r (c3o pick1) (fun s=>c07 pick1 s) x1:=fun out2 h=>PK<|(p7 h hc1 fun hI=>sk [] [3] [(1,0)] hI)
def d7r(pick:Int×x6)(pick1:Int×x6):(List m7)->KS:=fun out1=>⟨a0H.k 9 [false,false,false,false,true],(bs 3 (.own 1 0 4 0 out1.length::(vi pick.1::(bs 52 [])))),[some [.var 107 [j4 1 L5 pick1.2.b,vi pick1.2.p]],some [m4 56 4 z8 out1]]⟩
def a8b(pick:Int×x6)(out1:List m7):Option (j6 ((List m7)×x6) (List m7) (List m7)) :=
 (bif decide ((out1.length:Int)<11) then ((idx out1 pick.1).bind fun b1I=>(s5 ((out1.length+1)*32<=140737488355328) (some (j6.nxt (out1++[b1I]))))) else some (j6.brk out1))
theorem c6U(pick pick1):LQ a0H (c3o pick1) (d7r pick pick1) (fun s=>a8b pick s):=fun lc out1 h=>PK<|rg<|i9 2 h (fun h=>rg<|B3 h fun b1I c4F h=>E3 c4F<|T4 z8 4 c4F<|tk 5 []<|t8 h fun e1 h=>K2 6 11 56 4 32 z8 out1 b1I e1<|K0 b1I<|(lc.nx h fun hI=>sk [] [3,4] [(11,0)] hI)) (fun h=>(lc.bk h fun hI=>sk [] [3] [(1,0)] hI))
def b1Z(r_:x6):Option ((List m7)×x6) :=
 ((b2w r_).bind fun K8=>(bif ((K8.1.length:Int)==0) then some (K8.1,K8.2) else ((O3 K8.2 (K8.1.length:Int)).bind fun pick=>((O3 pick.2 40).bind fun pick1=>(((bif (pick1.1==0) then ((a1t pick1.2 [0,8]).bind fun num=>((idx K8.1 pick.1).bind fun ins=>some (l7.brk (num.2,K8.1.set pick.1.toNat (m7.mk num.1 ins.A ins.B ins.N))))) else (bif (pick1.1==1) then ((a1t pick1.2 [(-1),4]).bind fun U0=>((idx K8.1 pick.1).bind fun a0d=>some (l7.brk (U0.2,K8.1.set pick.1.toNat (m7.mk a0d.a7 U0.1 a0d.B a0d.N))))) else (bif (pick1.1==2) then ((a1t pick1.2 [(-1),11,2000000]).bind fun a0h=>((idx K8.1 pick.1).bind fun a0b=>some (l7.brk (a0h.2,K8.1.set pick.1.toNat (m7.mk a0b.a7 a0b.A a0b.B a0h.1))))) else (bif (pick1.1==3) then ((p8 (fun s:List m7=>a8b pick s) K8.1).bind fun x=>x.go (fun r=>some (l7.ret r)) fun s=>c07 pick1 s) else some (l7.brk (pick1.2,K8.1)))))):Option (l7 ((List m7)×x6) (x6×List m7))).bind fun x=>x.go some fun j=>c4t j.1 j.2)))))
set_option maxRecDepth 20000 in
theorem c6y{r_}:OK a0H [.optr 107 (a0k r_)] (b1Z r_) :=
 q8 _ fun r h=>o8<|j7 a5u d7A 1 h fun K8 h=>rg<|i9 2 h (fun h=>rg<|z6 K8.1<|fE h) (fun h=>rg<|j7 Q2 R4 3 h fun pick h=>rg<|j7 Q2 R4 1 h fun pick1 h=>C2 h (d51 r) fun x1 h hc1=>rg<|i9 1 h (fun h=>rg<|tk 3 []<|j7 a2X a4f 4 h fun num h=>om (2=[0,8].length) (by simp)<|B3 h fun ins hins h=>E3 hins<|R1 56 4 z8 7 [] (m7.mk num.1 ins.A ins.B ins.N) hins<|(p7 h hc1 fun hI=>om ((.own 3 0 4 0 K8.1.length:V)=.own 3 0 4 0 (K8.1.set pick.1.toNat (m7.mk num.1 ins.A ins.B ins.N)).length) (by simp)<|sk [.is (.tmp 3) (.own 3 0 4 0 (K8.1.set pick.1.toNat (m7.mk num.1 ins.A ins.B ins.N)).length)] [3] [(3,0)] hI)) (fun h=>rg<|i9 1 h (fun h=>rg<|tk 3 []<|j7 a2X a4f 4 h fun U0 h=>om (2=[(-1),4].length) (by simp)<|B3 h fun a0d c0R h=>E3 c0R<|R1 56 4 z8 7 [] (m7.mk a0d.a7 U0.1 a0d.B a0d.N) c0R<|(p7 h hc1 fun hI=>om ((.own 3 0 4 0 K8.1.length:V)=.own 3 0 4 0 (K8.1.set pick.1.toNat (m7.mk a0d.a7 U0.1 a0d.B a0d.N)).length) (by simp)<|sk [.is (.tmp 3) (.own 3 0 4 0 (K8.1.set pick.1.toNat (m7.mk a0d.a7 U0.1 a0d.B a0d.N)).length)] [3] [(3,0)] hI)) (fun h=>rg<|i9 1 h (fun h=>rg<|tk 3 []<|j7 a2X a4f 4 h fun a0h h=>om (3=[(-1),11,2000000].length) (by simp)<|B3 h fun a0b c6i h=>E3 c6i<|R1 56 4 z8 7 [] (m7.mk a0b.a7 a0b.A a0b.B a0h.1) c6i<|(p7 h hc1 fun hI=>om ((.own 3 0 4 0 K8.1.length:V)=.own 3 0 4 0 (K8.1.set pick.1.toNat (m7.mk a0b.a7 a0b.A a0b.B a0h.1)).length) (by simp)<|sk [.is (.tmp 3) (.own 3 0 4 0 (K8.1.set pick.1.toNat (m7.mk a0b.a7 a0b.A a0b.B a0h.1)).length)] [3] [(3,0)] hI)) (fun h=>rg<|i9 1 h (fun h=>lp (c6U pick pick1) h (fun _ h=>a0H.rt (c3m h hc1)) (c92 pick1 r hc1) fun hI=>sk [] [3,4] [(3,0)] hI) (fun h=>(p7 h hc1 fun hI=>sk [] [3] [(3,0)] hI))))))
def c5G:FS ((List m5×Nat)×List m7):=⟨12,Tryz.f12,[.val [some 2] [],.val [some 4] []],[none],[.val [some 1] []],fun r=>.tup [.sl 2 r.1.2 (((r.1.1.map u6).drop 0).take r.1.2),j4 4 z8 r.2],fun _=>[none],Tryz.func12⟩
def b7L(code:List Int):Option ((List m5×Nat)×List m7) :=
 ((b3m code).bind fun b7Y=>((b3u b7Y).bind fun b6a=>((b1Z b6a.2).bind fun c4r=>some (b6a.1,c4r.1))))
theorem c8J{code}:OK c5G [j4 1 L5 code] (b7L code) :=
 q8 _ fun r h=>o8<|j7 b1X d5H 1 h fun b7Y h=>rg<|j7 a5h d3I 1 h fun b6a h=>rg<|j7 a0H c6y 2 h fun c4r h=>fE h
def b8Q:FS ((List m5×Nat)×List m7):=⟨4,Tryz.f4,[.val [some 2] [],.val [some 4] []],[none],[.val [some 1] []],fun r=>.tup [.sl 2 r.1.2 (((r.1.1.map u6).drop 0).take r.1.2),j4 4 z8 r.2],fun _=>[none],Tryz.func4⟩
def b0v(code:List Int):Option ((List m5×Nat)×List m7) :=
 ((b7L code).bind fun b7l=>some (b7l.1,b7l.2))
theorem d8X{code}:OK b8Q [j4 1 L5 code] (b0v code) :=
 q8 _ fun r h=>o8<|j7 c5G c8J 1 h fun b7l h=>fE h
def a18:FS (Bool):=⟨30,Tryz.f30,[.val [] []],[none],[.val [] []],fun r=>.b r,fun _=>[none],Tryz.func30⟩
def a0J(n:Int):Option Bool :=
 (bif decide (n>=0) then some (decide (n<4)) else some false)
theorem a2L{n}:OK a18 [vi n] (a0J n) :=
 q8 _ fun r h=>o8<|i9 2 h (fun h=>fE h) (fun h=>fE h)
def b3Y:FS (Bool):=⟨31,Tryz.f31,[.val [] []],[none],[.val [] []],fun r=>.b r,fun _=>[none],Tryz.func31⟩
def a7H(n:Int):Option Bool :=
 (bif decide (n>=0) then some (decide (n<4)) else some false)
theorem c2Y{n}:OK b3Y [vi n] (a7H n) :=
 q8 _ fun r h=>o8<|i9 2 h (fun h=>fE h) (fun h=>fE h)
def c5m:FS (Bool):=⟨32,Tryz.f32,[.val [] []],[none],[.val [] []],fun r=>.b r,fun _=>[none],Tryz.func32⟩
def b3U(n:Int):Option Bool :=
 (bif decide (n>=(-1000000)) then some (decide (n<=1000000)) else some false)
theorem d4n{n}:OK c5m [vi n] (b3U n) :=
 q8 _ fun r h=>o8<|i9 2 h (fun h=>fE h) (fun h=>fE h)
def c2L:FS (Bool):=⟨13,Tryz.f13,[.val [] []],[none],[.val [] []],fun r=>.b r,fun _=>[none],Tryz.func13⟩
def b0x(i:m7):Option Bool :=
 (bif (i.a7==1) then ((a0J i.A).bind fun c55=>(bif c55 then ((a7H i.B).bind fun c4h=>(bif c4h then some (i.N==0) else some false)) else some false)) else (bif (i.a7==2) then ((a7H i.A).bind fun b9G=>(bif b9G then ((a0J i.B).bind fun b9r=>(bif b9r then some (i.N==0) else some false)) else some false)) else (bif (i.a7==3) then ((a0J i.A).bind fun c2U=>(bif c2U then (bif (i.B==0) then ((b3U i.N).bind fun c3n=>some c3n) else some false) else some false)) else (bif (i.a7==4) then ((a0J i.A).bind fun c0l=>(bif c0l then ((a0J i.B).bind fun c0z=>(bif c0z then some (i.N==0) else some false)) else some false)) else (bif (i.a7==5) then ((a0J i.A).bind fun c43=>(bif c43 then ((a0J i.B).bind fun b90=>(bif b90 then some (i.N==0) else some false)) else some false)) else (bif (i.a7==6) then ((a0J i.A).bind fun b85=>(bif b85 then ((a0J i.B).bind fun c2y=>(bif c2y then (bif decide (i.N>=1) then some (decide (i.N<=10)) else some false) else some false)) else some false)) else (bif (i.a7==7) then (bif (i.A==0) then (bif (i.B==0) then some (i.N==0) else some false) else some false) else some false)))))))
theorem d0D{i}:OK c2L [.agg (z8 i)] (b0x i) :=
 q8 _ fun r h=>W9<|i9 1 h (fun h=>rg<|j7 a18 a2L 2 h fun c55 h=>i9 3 h (fun h=>j7 b3Y c2Y 6 h fun c4h h=>i9 8 h (fun h=>fE h) (fun h=>fE h)) (fun h=>fE h)) (fun h=>rg<|i9 1 h (fun h=>rg<|j7 b3Y c2Y 2 h fun b9G h=>i9 3 h (fun h=>j7 a18 a2L 6 h fun b9r h=>i9 8 h (fun h=>fE h) (fun h=>fE h)) (fun h=>fE h)) (fun h=>rg<|i9 1 h (fun h=>rg<|j7 a18 a2L 2 h fun c2U h=>i9 3 h (fun h=>i9 8 h (fun h=>j7 c5m d4n 11 h fun c3n h=>fE h) (fun h=>fE h)) (fun h=>fE h)) (fun h=>rg<|i9 1 h (fun h=>rg<|j7 a18 a2L 2 h fun c0l h=>i9 3 h (fun h=>j7 a18 a2L 6 h fun c0z h=>i9 8 h (fun h=>fE h) (fun h=>fE h)) (fun h=>fE h)) (fun h=>rg<|i9 1 h (fun h=>rg<|j7 a18 a2L 2 h fun c43 h=>i9 3 h (fun h=>j7 a18 a2L 6 h fun b90 h=>i9 8 h (fun h=>fE h) (fun h=>fE h)) (fun h=>fE h)) (fun h=>rg<|i9 1 h (fun h=>rg<|j7 a18 a2L 2 h fun b85 h=>i9 3 h (fun h=>j7 a18 a2L 6 h fun c2y h=>i9 8 h (fun h=>i9 13 h (fun h=>fE h) (fun h=>fE h)) (fun h=>fE h)) (fun h=>fE h)) (fun h=>rg<|i9 1 h (fun h=>rg<|i9 3 h (fun h=>i9 8 h (fun h=>fE h) (fun h=>fE h)) (fun h=>fE h)) (fun h=>rg<|fE h)))))))
def a4H:FS (Bool):=⟨5,Tryz.f5,[.val [] []],[none],[.val [some 4] []],fun r=>.b r,fun _=>[none],Tryz.func5⟩
def c5f:Unit->KS:=fun _=>⟨a4H.k 4 [false,false],(bs 19 []),[some []]⟩
def b9q:Option Bool :=
 some true
theorem c7m(r):NF a4H r c5f (fun s=>b9q):=fun _ h=>PK<|rg<|fE h
def d2q(list:List m7):Int->KS:=fun i=>⟨a4H.k 3 [false],(j4 4 z8 list::(bs 2 (vi i::(bs 15 [])))),[some []]⟩
def b2t(list:List m7)(i:Int):Option (j6 Bool Int Unit) :=
 (bif decide (i<(list.length:Int)) then ((idx list i).bind fun ins=>((b0x ins).bind fun b8K=>(bif (!b8K) then some (j6.ret false) else some (j6.nxt (l9 (i+1)))))) else some (j6.brk ()))
theorem c8Z(list):LQ a4H c5f (d2q list) (fun s=>b2t list s):=fun lc i h=>PK<|rg<|i9 3 h (fun h=>rg<|v5 z8 2 h fun ins hins h=>j7 c2L d0D 4 h fun b8K h=>i9 5 h (fun h=>rg<|fL lc h) (fun h=>rg<|(lc.nx h fun hI=>sk [] [0,3] [] hI))) (fun h=>(lc.bk h fun hI=>sk [] [] [] hI))
def b1M(list:List m7):Option Bool :=
 (bif decide ((list.length:Int)>10) then some false else ((p8 (fun s:Int=>b2t list s) 0).bind fun x=>x.go (fun r=>some r) fun s=>b9q))
theorem d3X{list}:OK a4H [j4 4 z8 list] (b1M list) :=
 q8 _ fun r h=>o8<|i9 2 h (fun h=>rg<|fE h) (fun h=>rg<|lp (c8Z list) h (fun _ h=>a4H.rt h) (c7m r) fun hI=>sk [] [0,3] [] hI)
def A6:FS (Bool):=⟨34,Tryz.f34,[.val [] []],[none,none,none],[.val [] [],.val [] [],.val [] []],fun r=>.b r,fun _=>[none,none,none],Tryz.func34⟩
def A7(n:Int)(low:Int)(high:Int):Option Bool :=
 (bif decide (n>=low) then some (decide (n<=high)) else some false)
theorem B9{n low high}:OK A6 [vi n,vi low,vi high] (A7 n low high) :=
 q8 _ fun r h=>o8<|i9 3 h (fun h=>fE h) (fun h=>fE h)
def a1K:FS (Bool):=⟨33,Tryz.f33,[.val [] []],[none],[.val [] []],fun r=>.b r,fun _=>[none],Tryz.func33⟩
def a1b(n:Int):Option Bool :=
 ((A7 n 0 3).bind fun in_=>some in_)
theorem a2O{n}:OK a1K [vi n] (a1b n) :=
 q8 _ fun r h=>o8<|j7 A6 B9 1 h fun in_ h=>fE h
def b4o:FS (Bool):=⟨35,Tryz.f35,[.val [] []],[none],[.val [] []],fun r=>.b r,fun _=>[none],Tryz.func35⟩
def b0A(n:Int):Option Bool :=
 ((A7 n 0 3).bind fun in_=>some in_)
theorem c5H{n}:OK b4o [vi n] (b0A n) :=
 q8 _ fun r h=>o8<|j7 A6 B9 1 h fun in_ h=>fE h
def b8Z:FS (Bool):=⟨14,Tryz.f14,[.val [] []],[none],[.val [] []],fun r=>.b r,fun _=>[none],Tryz.func14⟩
def b2S(x_:m7):Option Bool :=
 (bif (x_.a7==1) then ((a1b x_.A).bind fun c1=>(bif c1 then ((b0A x_.B).bind fun c2=>(bif c2 then some (x_.N==0) else some false)) else some false)) else (bif (x_.a7==2) then ((b0A x_.A).bind fun c21=>(bif c21 then ((a1b x_.B).bind fun c11=>(bif c11 then some (x_.N==0) else some false)) else some false)) else (bif (x_.a7==3) then ((a1b x_.A).bind fun c12=>(bif c12 then (bif (x_.B==0) then ((A7 x_.N (-1000000) 1000000).bind fun in_=>some in_) else some false) else some false)) else (bif (x_.a7==4) then ((a1b x_.A).bind fun c13=>(bif c13 then ((a1b x_.B).bind fun c14=>(bif c14 then some (x_.N==0) else some false)) else some false)) else (bif (x_.a7==5) then ((a1b x_.A).bind fun c15=>(bif c15 then ((a1b x_.B).bind fun c16=>(bif c16 then some (x_.N==0) else some false)) else some false)) else (bif (x_.a7==6) then ((a1b x_.A).bind fun c17=>(bif c17 then ((a1b x_.B).bind fun c18=>(bif c18 then ((A7 x_.N 1 10).bind fun G8=>some G8) else some false)) else some false)) else (bif (x_.a7==7) then (bif (x_.A==0) then (bif (x_.B==0) then some (x_.N==0) else some false) else some false) else some false)))))))
theorem d78{x_}:OK b8Z [.agg (z8 x_)] (b2S x_) :=
 q8 _ fun r h=>rg4<|rg<|i9 1 h (fun h=>rg<|j7 a1K a2O 3 h fun c1 h=>i9 4 h (fun h=>j7 b4o c5H 8 h fun c2 h=>i9 10 h (fun h=>fE h) (fun h=>fE h)) (fun h=>fE h)) (fun h=>rg<|i9 1 h (fun h=>rg<|j7 b4o c5H 3 h fun c21 h=>i9 4 h (fun h=>j7 a1K a2O 8 h fun c11 h=>i9 10 h (fun h=>fE h) (fun h=>fE h)) (fun h=>fE h)) (fun h=>rg<|i9 1 h (fun h=>rg<|j7 a1K a2O 3 h fun c12 h=>i9 4 h (fun h=>i9 9 h (fun h=>j7 A6 B9 12 h fun in_ h=>fE h) (fun h=>fE h)) (fun h=>fE h)) (fun h=>rg<|i9 1 h (fun h=>rg<|j7 a1K a2O 3 h fun c13 h=>i9 4 h (fun h=>j7 a1K a2O 8 h fun c14 h=>i9 10 h (fun h=>fE h) (fun h=>fE h)) (fun h=>fE h)) (fun h=>rg<|i9 1 h (fun h=>rg<|j7 a1K a2O 3 h fun c15 h=>i9 4 h (fun h=>j7 a1K a2O 8 h fun c16 h=>i9 10 h (fun h=>fE h) (fun h=>fE h)) (fun h=>fE h)) (fun h=>rg<|i9 1 h (fun h=>rg<|j7 a1K a2O 3 h fun c17 h=>i9 4 h (fun h=>j7 a1K a2O 8 h fun c18 h=>i9 10 h (fun h=>j7 A6 B9 13 h fun G8 h=>fE h) (fun h=>fE h)) (fun h=>fE h)) (fun h=>rg<|i9 1 h (fun h=>rg<|i9 3 h (fun h=>i9 8 h (fun h=>fE h) (fun h=>fE h)) (fun h=>fE h)) (fun h=>rg<|fE h)))))))
def a1s:FS (Bool):=⟨6,Tryz.f6,[.val [] []],[none],[.val [some 4] []],fun r=>.b r,fun _=>[none],Tryz.func6⟩
def c5K(list:List m7):Unit->KS:=fun _=>⟨a1s.k 3 [false],(j4 4 z8 list::(bs 17 [])),[some []]⟩
def b5l(list:List m7):Option Bool :=
 some (decide ((list.length:Int)<=10))
theorem c9V(list)(r):NF a1s r (c5K list) (fun s=>b5l list):=fun _ h=>PK<|rg<|fE h
def d4N(list:List m7):Int->KS:=fun v7=>⟨a1s.k 2 [],(j4 4 z8 list::(bs 4 (j4 4 z8 list::(vi (list.length:Int)::(vi v7::(bs 10 [])))))),[some []]⟩
def b2a(list:List m7)(v7:Int):Option (j6 Bool Int Unit) :=
 (bif decide (v7<(list.length:Int)) then ((idx list v7).bind fun ins=>((b2S ins).bind fun K6=>(bif (!K6) then some (j6.ret false) else some (j6.nxt (l9 (v7+1)))))) else some (j6.brk ()))
theorem d7Y(list):LQ a1s (c5K list) (d4N list) (fun s=>b2a list s):=fun lc v7 h=>PK<|rg<|i9 0 h (fun h=>rg<|v5 z8 0 h fun ins hins h=>rg<|j7 b8Z d78 1 h fun K6 h=>i9 2 h (fun h=>rg<|fL lc h) (fun h=>rg<|(lc.nx h fun hI=>sk [] [0,5,6,7] [] hI))) (fun h=>(lc.bk h fun hI=>sk [] [0] [] hI))
def a3A(list:List m7):Option Bool :=
 ((p8 (fun s:Int=>b2a list s) 0).bind fun x=>x.go (fun r=>some r) fun s=>b5l list)
theorem a9x{list}:OK a1s [j4 4 z8 list] (a3A list) :=
 q8 _ fun r h=>o8<|lp (d7Y list) h (fun _ h=>a1s.rt h) (c9V list r) fun hI=>sk [] [0,5,6,7] [] hI
def c0m:FS (j5):=⟨17,Tryz.f17,[.val L3 []],[none],[.val [] []],fun r=>.agg (r9 r),fun _=>[none],Tryz.func17⟩
def b2z(id:Int):Option j5 :=
 ((A7 id 0 2).bind fun in_=>(bif (!in_) then some (j5.mk 0 (z4.mk 0 []) [] 0 0 0 [] [] (j8.mk false (m8.mk 0 0) (o7.mk [] [] 0 0)) [] false [] (j8.mk false (m8.mk 0 0) (o7.mk [] [] 0 0)) []) else some (j5.mk id (z4.mk 0 []) [] 0 0 0 [] [] (j8.mk false (m8.mk 0 0) (o7.mk [] [] 0 0)) [] false [] (j8.mk false (m8.mk 0 0) (o7.mk [] [] 0 0)) [])))
theorem c80{id}:OK c0m [vi id] (b2z id) :=
 q8 _ fun r h=>o8<|j7 A6 B9 1 h fun in_ h=>i9 2 h (fun h=>rg<|fE h) (fun h=>rg<|fE h)
def b9m:FS (List j5):=⟨41,Tryz.f41,[.val [some 27] [some 61]],[none],[.val [some 27] []],fun r=>A4 61 27 r9 r,fun _=>[none],Tryz.func41⟩
def b4S(list:List j5):Option (List j5) :=
 (bif ((list.length:Int)==0) then some [] else (s5 (0<=(list.length:Int)/\(list.length:Int)*392<=140737488355328) ((s5 (list.length=(d9u (list.length:Int).toNat (j5.mk 0 (z4.mk 0 []) [] 0 0 0 [] [] (j8.mk false (m8.mk 0 0) (o7.mk [] [] 0 0)) [] false [] (j8.mk false (m8.mk 0 0) (o7.mk [] [] 0 0)) [])).length) (some list)))))
theorem d4X{list}:OK b9m [j4 27 r9 list] (b4S list) :=
 q8 _ fun r h=>o8<|i9 2 h (fun h=>rg<|fE h) (fun h=>rg<|t8 h fun e1 h=>Q6 2 7 61 27 392 r9 (j5.mk 0 (z4.mk 0 []) [] 0 0 0 [] [] (j8.mk false (m8.mk 0 0) (o7.mk [] [] 0 0)) [] false [] (j8.mk false (m8.mk 0 0) (o7.mk [] [] 0 0)) []) b4D (.ck L3) e1 (by decide) (by rfl)<|rg<|t8 h fun e2 h=>om (n9.row 61 27 (d9u (list.length:Int).toNat (j5.mk 0 (z4.mk 0 []) [] 0 0 0 [] [] (j8.mk false (m8.mk 0 0) (o7.mk [] [] 0 0)) [] false [] (j8.mk false (m8.mk 0 0) (o7.mk [] [] 0 0)) [])).length (list.map r9)=m4 61 27 r9 list) (Y7 e2)<|z6 (d9u (list.length:Int).toNat (j5.mk 0 (z4.mk 0 []) [] 0 0 0 [] [] (j8.mk false (m8.mk 0 0) (o7.mk [] [] 0 0)) [] false [] (j8.mk false (m8.mk 0 0) (o7.mk [] [] 0 0)) []))<|ob e2<|tl (2,{e:=some (m4 61 27 r9 list)})<|rg<|om ((d9u (list.length:Int).toNat (j5.mk 0 (z4.mk 0 []) [] 0 0 0 [] [] (j8.mk false (m8.mk 0 0) (o7.mk [] [] 0 0)) [] false [] (j8.mk false (m8.mk 0 0) (o7.mk [] [] 0 0)) [])).length=list.length) (by simp)<|fE h)
def b9a:FS (List l8):=⟨75,Tryz.f75,[.val [some 13] [some 49]],[none],[.val [some 13] []],fun r=>A4 49 13 u5 r,fun _=>[none],Tryz.func75⟩
def b7I(list:List l8):Option (List l8) :=
 (bif ((list.length:Int)==0) then some [] else (s5 (0<=(list.length:Int)/\(list.length:Int)*152<=140737488355328) ((s5 (list.length=(d9u (list.length:Int).toNat (l8.mk 0 0 0 0 0 (j8.mk false (m8.mk 0 0) (o7.mk [] [] 0 0)) [])).length) (some list)))))
theorem c8L{list}:OK b9a [j4 13 u5 list] (b7I list) :=
 q8 _ fun r h=>o8<|i9 2 h (fun h=>rg<|fE h) (fun h=>rg<|t8 h fun e1 h=>Q6 2 7 49 13 152 u5 (l8.mk 0 0 0 0 0 (j8.mk false (m8.mk 0 0) (o7.mk [] [] 0 0)) []) b54 (.ck R2) e1 (by decide) (by rfl)<|rg<|t8 h fun e2 h=>om (n9.row 49 13 (d9u (list.length:Int).toNat (l8.mk 0 0 0 0 0 (j8.mk false (m8.mk 0 0) (o7.mk [] [] 0 0)) [])).length (list.map u5)=m4 49 13 u5 list) (Y7 e2)<|z6 (d9u (list.length:Int).toNat (l8.mk 0 0 0 0 0 (j8.mk false (m8.mk 0 0) (o7.mk [] [] 0 0)) []))<|ob e2<|tl (2,{e:=some (m4 49 13 u5 list)})<|rg<|om ((d9u (list.length:Int).toNat (l8.mk 0 0 0 0 0 (j8.mk false (m8.mk 0 0) (o7.mk [] [] 0 0)) [])).length=list.length) (by simp)<|fE h)
def a0Y:FS (List p9):=⟨114,Tryz.f114,[.val [some 2] [some 159]],[none],[.val [some 2] []],fun r=>A4 159 2 u7 r,fun _=>[none],Tryz.func114⟩
def a03(list:List p9):Option (List p9) :=
 (bif ((list.length:Int)==0) then some [] else (s5 (0<=(list.length:Int)/\(list.length:Int)*16<=140737488355328) ((s5 (list.length=(d9u (list.length:Int).toNat (p9.mk 0 0)).length) (some list)))))
theorem a52{list}:OK a0Y [j4 2 u7 list] (a03 list) :=
 q8 _ fun r h=>o8<|i9 2 h (fun h=>rg<|fE h) (fun h=>rg<|t8 h fun e1 h=>Q6 2 7 159 2 16 u7 (p9.mk 0 0) b6h (.none) e1 (by decide) (by rfl)<|rg<|t8 h fun e2 h=>om (n9.row 159 2 (d9u (list.length:Int).toNat (p9.mk 0 0)).length (list.map u7)=m4 159 2 u7 list) (Y7 e2)<|z6 (d9u (list.length:Int).toNat (p9.mk 0 0))<|ob e2<|tl (2,{e:=some (m4 159 2 u7 list)})<|rg<|om ((d9u (list.length:Int).toNat (p9.mk 0 0)).length=list.length) (by simp)<|fE h)
def b0Z:FS (List n6):=⟨115,Tryz.f115,[.val [some 2] [some 162]],[none],[.val [some 2] []],fun r=>A4 162 2 v6 r,fun _=>[none],Tryz.func115⟩
def a4P(list:List n6):Option (List n6) :=
 (bif ((list.length:Int)==0) then some [] else (s5 (0<=(list.length:Int)/\(list.length:Int)*16<=140737488355328) ((s5 (list.length=(d9u (list.length:Int).toNat (n6.mk 0 0)).length) (some list)))))
theorem c3r{list}:OK b0Z [j4 2 v6 list] (a4P list) :=
 q8 _ fun r h=>o8<|i9 2 h (fun h=>rg<|fE h) (fun h=>rg<|t8 h fun e1 h=>Q6 2 7 162 2 16 v6 (n6.mk 0 0) b7b (.none) e1 (by decide) (by rfl)<|rg<|t8 h fun e2 h=>om (n9.row 162 2 (d9u (list.length:Int).toNat (n6.mk 0 0)).length (list.map v6)=m4 162 2 v6 list) (Y7 e2)<|z6 (d9u (list.length:Int).toNat (n6.mk 0 0))<|ob e2<|tl (2,{e:=some (m4 162 2 v6 list)})<|rg<|om ((d9u (list.length:Int).toNat (n6.mk 0 0)).length=list.length) (by simp)<|fE h)
end
end Go.Proofs.YtallgikdooekeaaGreat
