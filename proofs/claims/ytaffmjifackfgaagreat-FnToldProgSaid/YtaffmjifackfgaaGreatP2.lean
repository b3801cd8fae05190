/- Abstract values and states of the program, functions of the program and what their calls come to, and what follows from it: part 2 of the text that the law leans on; long names are written short. -/
import Derived.Test.YtaffmjifackfgaaGreatP1
import Derived.WideKeyRuns
import Derived.Below
import Derived.Carry
import Derived.ChangeArms
import Derived.Deep.Slices
import Derived.WideShapes
import Derived.Test.YtaffmjifackfgaaGreatProg
set_option linter.unusedVariables false
set_option linter.unusedSimpArgs false
set_option linter.unnecessarySimpa false
namespace Go.Proofs.YtaffmjifackfgaaGreat
open Go
open Option renaming bind_some → e9J, map_some → f0J, getD_some → f0R, map_eq_some_iff → f0X
open List renaming getElem?_eq_getElem → e9K, replicate → e9L, getElem_mem → e9M, getElem?_eq_some_iff → e9P, mem_singleton → e9Q, mem_cons → e9R, nodup_append → e9S, length_append → e9T, range → e9U, eq_nil_of_length_eq_zero → e9V, mem_of_getElem? → e9W, getD_eq_getElem?_getD → e9X, append_assoc → e9Y, getElem?_append_right → e9Z, getElem?_set_ne → e90, drop_eq_nil_of_le → e91, getElem?_append_left → e94, length_take → e96, drop_eq_getElem_cons → e97, flatten_cons → f0a, getElem?_eq_none → f0c, map_cons → f0e, take_length → f0f, take_of_length_le → f0g, take_append_of_le_length → f0h, take_succ_eq_append_getElem → f0j, mem_of_mem_take → f0l, append_nil → f0m, mem_replicate → f0n, pairwise_iff_getElem → f0o, take_zero → f0p, nil_append → f0r, take_append_drop → f0s, mem_flatten → f0t, mem_of_mem_drop → f0u, length_cons → f0w, getElem_of_mem → f0x, length_singleton → f0y, getElem?_map → f0z, any_eq_false → f0A, getElem?_cons_zero → f0B, length_map → f0D, getElem?_set_self → f0F, mem_range → f0H, getElem?_cons_succ → f0I, drop_zero → f0N, length_set → f0O, nodup_cons → f0P, findIdx?_eq_some_iff_getElem → f0Q, pairwise_cons → f0T, mem_take_iff_getElem → f0U, map_append → f0V, getElem?_drop → f0Y, getElem?_take → f0Z, length_nil → f01, getElem?_set → f02, sublist_append_right → f04, getElem?_of_mem → f05, pairwise_append → f06, mem_append_left → f07, Perm → f09, drop_drop → f1a, any_eq_true → f1b, take_succ_cons → f1d, replicate_succ → f1e, foldl_cons → f1f, drop_append_of_le_length → f1g, size_toArray → f1h, all_eq_false → f1i, toArray → f1j, map_map → f1k, Sublist → f1l, set_getElem_self → f1n, length_replicate → f1o, getElem?_append → f1p, cons_append → f1q, mem_cons_of_mem → f1s, flatten_append → f1t, mem_of_find?_eq_some → f1u, foldl_nil → f1w
open Bool renaming and_eq_true → e9N, not_true → e9O, true_and → e93, not_false → e98, false_or → f0i, or_eq_false_iff → f0E, not_eq_true' → f0G, false_eq_true → f0L, and_true → f0M, true_or → f1c, and_assoc → f1m
open Int renaming toNat_natCast → e92, tmod → e99, le_refl → f0b, le_trans → f0q, tdiv → f1r
open Nat renaming mul_le_mul_right → e95, le_refl → f0d, eq_of_beq_eq_true → f0k, zero_add → f0v, succ_mul → f0C, lt_of_lt_of_le → f0S, le_mul_of_pos_right → f0W, add_zero → f00, le_succ_of_le → f03, zero_le → f08, sub_zero → f1v
open Option.some renaming inj → f0K
noncomputable section
section
variable {cx:Cx} {Γ:N1} {F:Nat->Prop} {ι:Nat->Nat->Value} {S:St} {a:Act} {w:World}
theorem t7.writeX(h:t7 Γ F ι S a w){g j:Nat}{e e':s6}(he:S.ent g j=some e)(hl:e.live=true){w':World}(hk:w'.os=w.os/\w'.tape=w.tape/\w'.output=w.output)(hsz:w'.heap.size=w.heap.size)(hb:∀k,¬EB w e (ι g j) k->w'.heap[k]?=w.heap[k]?)(hn:G9 w w' F->RE w' F (S.setE g j e').D ι e' (ι g j)){X:List Nat}(hX:∀k∈X,¬F k/\(Γ.own k\/Γ.w0.heap.size<=k)/\∀g' j' e'',S.ent g' j'=some e''->e''.live=true->¬EB w e'' (ι g' j') k)(hin:∀k,EB w' e' (ι g j) k->EB w e (ι g j) k\/k∈X):t7 Γ F ι (S.setE g j e') a w':=by
  have hs:G9 w w' F:=a0S fun k hF=>hb k fun q=>(h.sep g j e k he hl q).1 hF
  have hD:∀k,S.D k->(S.setE g j e').D k:=fun k x=>P5.2 x
  have hoth:∀g' j' e'',S.ent g' j'=some e''->e''.live=true->¬(g'=g/\j'=j)->∀k,EB w e'' (ι g' j') k->w'.heap[k]?=w.heap[k]?:=fun g' j' e'' he'' hl'' q k a1f=>hb k fun q'=>q (h.inj g' j' e'' g j e k he'' he hl'' hl a1f q')
  have hone:∀g2 j2 e2 k,S.ent g2 j2=some e2->e2.live=true->¬(g2=g/\j2=j)->EB w' e' (ι g j) k->EB w' e2 (ι g2 j2) k->False:=by
    intro g2 j2 e2 k h2 l2 q2 k1 k2;have k2':=(h.ents g2 j2 e2 h2).back (hoth g2 j2 e2 h2 l2 q2) k2;rcases hin k k1 with x|x
    · exact q2 (h.inj g2 j2 e2 g j e k h2 he l2 hl k2' x)
    · exact (hX k x).2.2 g2 j2 e2 h2 l2 k2'
  exact
    { F0:=h.F0
      F1:=fun k hF=>hsz▸h.F1 k hF
      F2:=h.F2
      kept:=⟨hk.1.trans h.kept.os,hk.2.1.trans h.kept.tape,hk.2.2.trans h.kept.output,hsz▸h.kept.size,fun k hk' hno=>by
        rw [hb k fun q => ?_]
        · exact h.kept.block k hk' hno
        · rcases (h.sep g j e k he hl q).2 with x|x
          · exact hno x
          · omega⟩
      tmps:=by rw [a7U];exact h.tmps.imp fun _ _ x=>x.mono hs (fun _ y=>y) hD (fun _ _ _=>rfl)
      ents:=fun g' j' e'' he''=>by
        rw [O5 he] at he'';split at he''
        · rename_i q;obtain ⟨rfl,rfl⟩:=q;injection he'' with he'';subst he'';exact hn hs
        · rename_i q;exact (h.ents g' j' e'' he'').mono hs (fun _ y=>y) hD (fun _ _ _=>rfl) fun k hl'' a1f=>hoth g' j' e'' he'' hl'' q k a1f
      sep:=fun g' j' e'' k he'' hl'' a1f=>by
        rw [O5 he] at he'';split at he''
        · rename_i q;obtain ⟨rfl,rfl⟩:=q;injection he'' with he'';subst he'';rcases hin k a1f with x|x
          · exact h.sep g' j' e k he hl x
          · exact ⟨(hX k x).1,(hX k x).2.1⟩
        · rename_i q;exact h.sep g' j' e'' k he'' hl'' ((h.ents g' j' e'' he'').back (hoth g' j' e'' he'' hl'' q) a1f)
      inj:=fun g1 j1 e1 g2 j2 e2 k h1 h2 l1 l2 k1 k2=>by
        rw [O5 he] at h1 h2;split at h1<;>split at h2
        · rename_i q1 q2;exact ⟨q1.1.trans q2.1.symm,q1.2.trans q2.2.symm⟩
        · rename_i q1 q2;obtain ⟨rfl,rfl⟩:=q1;injection h1 with h1;subst h1;exact (hone g2 j2 e2 k h2 l2 q2 k1 k2).elim
        · rename_i q1 q2;obtain ⟨rfl,rfl⟩:=q2;injection h2 with h2;subst h2;exact (hone g1 j1 e1 k h1 l1 q1 k2 k1).elim
        · rename_i q1 q2;exact h.inj g1 j1 e1 g2 j2 e2 k h1 h2 l1 l2 ((h.ents g1 j1 e1 h1).back (hoth g1 j1 e1 h1 l1 q1) k1) ((h.ents g2 j2 e2 h2).back (hoth g2 j2 e2 h2 l2 q2) k2)
      defers:=h.defers
      pins:=fun j c hc=>⟨hD _ (h.pins j c hc).1,(h.pins j c hc).2⟩}
theorem G7.splice{rows:List (List V)}(h:G7 rows){idx off:Nat}{r vs:List V}(hr:rows[idx]?=some r)(hv:∀v∈vs,v.isRef=false):G7 (rows.set idx (A0 r off vs)):=by
 intro q hq v hm;rcases List.mem_or_eq_of_mem_set hq with hq|rfl
 ·exact h q hq v hm
 ·unfold A0 at hm;have hrr:=h r (e9W hr);rcases List.mem_append.1 hm with hm|hm
  ·rcases List.mem_append.1 hm with hm|hm
   ·exact hrr v (f0l hm)
   ·exact hv v hm
  ·exact hrr v (f0u hm)
theorem t7.dput(h:t7 Γ F ι S a w){g j t sz n:Nat}{o:Bool}{rows:List (List V)}(he:S.ent g j=some (.deep o t sz n rows)){idx off:Nat}{r vs:List V}{ds:List Value}{fp:List Nat}{ks:List (Nat×Nat)}(hr:rows[idx]?=some r)(hoff:off+vs.length<=sz)(hbl:BL w F vs ds fp)(hfps:L1 S w ι ks fp)(hks:ks.Nodup)(hgj:(g,j) ∉ ks){w':World}(hw:w'.os=w.os/\w'.tape=w.tape/\w'.output=w.output)(hsz:w'.heap.size=w.heap.size)(hb:∀k,A8 (ι g j)≠some k->w'.heap[k]?=w.heap[k]?)(hnew:∀flat,w.ownsRow 0 t sz (ι g j) n flat->w'.ownsRow 0 t sz (ι g j) n (A0 flat (idx*sz+off) ds)) :
  t7 Γ F ι (S.upds (E6 ks++[((g,j),.deep o t sz n (rows.set idx (A0 r off vs)))])) a w':=by
 obtain ⟨flat,fs,hor,hkl,hn,hl,hnd,hnr⟩:=h.ents g j _ he;have h1:=h.killAll ks fun id hid=>by
  obtain ⟨e,he,_⟩:=hfps.live id hid;exact ⟨e,he⟩
 have he1:(S.upds (E6 ks)).ent g j=some (.deep o t sz n rows):=by rw [c5e hgj];exact he
 have hidx:=(e9P.1 hr).1;have hpos:idx*sz+sz<=n*sz:=by rw [<-f0C];exact e95 _ (by omega)
 obtain ⟨fa,fm,fb,rfl,hrow,_⟩:=hkl.splice (k:=idx*sz+off) hbl.kl (by rw [a3E hl,hn];omega);rw [<-a8s hl hr hoff] at hrow;have hfpx:∀k∈fp,¬F k/\(Γ.own k\/Γ.w0.heap.size<=k)/\k ∉ D2 (ι g j)++(fa++(fm++fb))/\∀g' j' e'',(S.upds (E6 ks)).ent g' j'=some e''->e''.live=true->¬EB w e'' (ι g' j') k:=by
  intro k hk;obtain ⟨id,hid,e',he',hl',hb'⟩:=hfps.mem hk;obtain ⟨z1,z2⟩:=h.sep _ _ e' k he' hl' hb';refine ⟨z1,z2,?_,?_⟩
  ·intro q;obtain ⟨y1,y2⟩:=h.inj _ _ _ _ _ _ k he he' rfl hl' ((EB.deep_iff hor hkl).2 q) hb';exact hgj (by rw [show (g,j)=id from Prod.ext y1 y2];exact hid)
  ·intro g' j' e'' he'' hl'' hb'';rcases a9N _ he'' with ⟨_,rfl⟩|⟨q1,q2⟩
   ·cases hl''
   ·obtain ⟨y1,y2⟩:=h.inj _ _ _ _ _ _ k q2 he' hl'' hl' hb'' hb';exact q1 (by rw [show (g',j')=id from Prod.ext y1 y2];exact hid)
 have hnd2:(D2 (ι g j)++(fa++fb)).Nodup:=by
  refine List.Nodup.sublist ?_ hnd;exact f1l.append_left (f1l.append_left (f04 _ _) _) _
 have hnd':(D2 (ι g j)++(fa++(fp++fb))).Nodup:=by
  refine (a73 (a73 (f09.refl (fp++fb)))).nodup_iff.2 ?_;refine e9S.2 ⟨L1.nodup h hfps hks,hnd2,?_⟩;intro k hk k' hk' hkk;subst hkk;refine (hfpx k hk).2.2.1 ?_;simp only [List.mem_append] at hk' ⊢;rcases hk' with q|q|q<;>simp [q]
 have hre:G9 w w' F->RE w' F ((S.upds (E6 ks)).setE g j (.deep o t sz n (rows.set idx (A0 r off vs)))).D ι (.deep o t sz n (rows.set idx (A0 r off vs))) (ι g j):=by
  intro hs;refine ⟨_,_,hnew flat hor,hrow.mono hs (fun _ x=>x) (fun k x=>P5.2 ((Z5 S k _).2 x)) (fun _ _ _=>rfl) ?_,by simpa using hn,?_,hnd',fun q=>(hnr q).splice hr hbl.noRef⟩
  ·intro k hk;refine hb k fun q => ?_
   exact (e9S.1 hnd').2.2 k (P6.2 q) k hk rfl
  ·intro q hq;rcases List.mem_or_eq_of_mem_set hq with hq|rfl
   ·exact hl q hq
   ·have:=hl r (e9W hr);rw [a2V _ _ _ (by omega)];exact this
 rw [St.upds_append];refine h1.writeX he1 rfl hw hsz (fun k hk=>hb k fun q=>hk (EB.top q)) hre (X:=fp) (fun k hk=>⟨(hfpx k hk).1,(hfpx k hk).2.1,(hfpx k hk).2.2.2⟩) ?_;intro k hk;have hs:G9 w w' F:=a0S fun k hF=>hb k fun q=>(h.sep g j _ k he rfl (EB.top q)).1 hF
 obtain ⟨flat2,fs2,ho2,hkl2,_⟩:=hre hs;have hk2:=(EB.deep_iff ho2 hkl2).1 hk;have hkl3:=hrow.mono (w':=w') hs (fun _ x=>x) (fun k x=>x) (fun _ _ _=>rfl) (fun k hk=>hb k fun q=>(e9S.1 hnd').2.2 k (P6.2 q) k hk rfl);have hfl:=a9m ho2 (hnew flat hor) (fun _ _=>rfl);subst hfl;rw [hkl2.det hkl3 (fun _ _=>rfl)] at hk2;simp only [List.mem_append] at hk2;rw [EB.deep_iff hor hkl];simp only [List.mem_append];rcases hk2 with q|q|q|q<;>simp [q]
def a9i(cx:Cx)(ty:Nat)(x y:V)(r:List V)(ck om:List (Option Nat)):j7 A9 :=
 match cx.T ty,y.cells with
 | some ti,some vs=>match x with
  | .eptr g j sz idx off=>j7.bind (j7.rd g j) fun e=>j7.bind (a1F ck om vs) fun f=>match e with
   | .deep o t sz' n rows=>if sz'=sz/\vs.length=ti.size/\off+vs.length<=sz/\f.ls.isEmpty/\a2q f.ks/\a1E f.ks (g,j)=false then
     j7.pure {v:=.bot,upd:=E6 f.ks++[((g,j),.deep o t sz n (rows.set idx (A0 r off f.v)))],obl:=(rows[idx]?=some r)::f.obl}
    else j7.no
   | _=>j7.no
  | _=>j7.no
 | _,_=>j7.no
theorem BL.len{F:Nat->Prop}:∀{vs:List V} {cs:List Value} {f:List Nat},BL w F vs cs f->vs.length=cs.length
 | _,_,_,.nil=>rfl
 | _,_,_,.cons _ _ _ _ _ _ _ t=>by simp [BL.len t]
theorem c6S(h:t7 Γ F ι S a w){grp:Nat}{ob:Oper}{ty:Nat}{x y:Operand}{r:List V}{ck om:List (Option Nat)}(ho:ob.op=.store ty x y)(hd:ob.dst=none){out:A9}{lg:List (Nat×Nat)}(hp:a9i cx ty (s8 S.t x) (s8 S.t y) r ck om S.ent=some (out,lg))(hob:∀p∈out.obl,p):S7 cx.P Γ ι S grp ob out a w:=by
 have hx:=C9 h.tmps x;have hy:=C9 h.tmps y;unfold a9i at hp;cases hti:cx.T ty with
 | none=>rw [hti] at hp;cases hp
 | some ti =>
 cases hvs:(s8 S.t y).cells with
 | none=>rw [hti,hvs] at hp;cases hp
 | some vs =>
 rw [hti,hvs] at hp;simp only at hp;obtain ⟨i,d,z,htf⟩:=cx.tf hti;have hcells:=hy.cells hvs;have hone:=hcells.all_one;have hclen:vs.length=(a.eval y).cells.size:=by simpa using hcells.length
 generalize s8 S.t x=xv at hp hx;cases xv<;>try (cases hp;done)
 case eptr g j sz idx off =>
  obtain ⟨hD,b,hι,hc⟩:=hx.inv_eptr;obtain ⟨e,l1,l2,hrd,hp',hl12⟩:=j7.bind_some hp;clear hp;have he:=(j7.rd_some hrd).1;simp only at he;obtain ⟨f,l3,l4,hf,hp'',hl34⟩:=j7.bind_some hp';clear hp';cases e<;>try (cases hp'';done)
  rename_i o t sz' n rows;simp only at hp'';split at hp''<;>try (cases hp'';done)
  rename_i hcond;obtain ⟨rfl,hc1,hc2,hc3,hc4,hc5⟩:=hcond;have:=j7.pure_some hp'';injection this with h2 h3;subst h2;have hr:rows[idx]?=some r:=hob _ (e9R.2 (.inl rfl));have hls:f.ls=[]:=List.isEmpty_iff.1 hc3;obtain ⟨fp,hbl,hfps,hh⟩:=b0C (F1:=F) h (fun _ x=>x) hcells hf (fun p hp=>hob p (e9R.2 (.inr hp))) (by rw [hls];intro id hid;cases hid);obtain ⟨flat0,fs0,hor0,hkl0,hn0,hl0,_⟩:=h.ents g j _ he;have hidx:=(e9P.1 hr).1;have hvl:f.v.length=vs.length:=by rw [hbl.len,hclen];simp
  rcases hor0.2 with ⟨hv,h0⟩|⟨g0,cap,cur,hv,hbg,hg,hnc,hcm,hcs,ht⟩
  ·omega
  ·have hb:b=g0:=by rw [hv] at hι;simp [A8] at hι;omega
   subst hb;have hcl:n*sz'<=cur.size:=by rw [hcs];exact e95 _ hnc
   have hpos:idx*sz'+sz'<=n*sz':=by rw [<-f0C];exact e95 _ (by omega)
   have hrun:=b67 (P:=cx.P) ho htf hc hg (by omega) (by omega) hone;refine ⟨_,undef,_,F,ι,hrun,.inr ⟨rfl,rfl⟩,?_⟩;rw [hd,b17,b2p];refine h.dput he hr (by omega) hbl hfps (a4S hc4) (fun q=>by rw [a6y.2 q] at hc5;cases hc5) ⟨rfl,rfl,rfl⟩ (b1n _ _ _) (fun k hk=>setRow_other w b k _ fun q=>hk (by rw [hι,q])) ?_;intro flat hor;have hfl:=a9m hor hor0 (fun _ _=>rfl);subst hfl;have hflat:flat.length=n*sz':=hor.1;refine ⟨?_,.inr ⟨b,cap,_,hv,hbg,setRow_heap w b cur _ t (0,0) hg,hnc,hcm,?_,?_⟩⟩
   ·rw [a2V _ _ _ (by simp;omega)];exact hor.1
   ·rw [f1h,a2V _ _ _ (by simp;omega)];simpa using hcs
   ·rw [<-ht];exact c0O _ _ _ _ (by simp;omega) (by simpa using hcl)
theorem c2u{t sz n:Nat}{rows:List (List V)}{c:Value}{flat:List Value}{b idx off m:Nat}{r:List V}(ho:w.ownsRow 0 t sz c n flat)(hn:rows.length=n)(hl:∀r∈rows,r.length=sz)(hb:A8 c=some b)(hr:rows[idx]?=some r)(hoff:off+m<=sz) :
  N3 w b (idx*sz+off) ((flat.drop (idx*sz+off)).take m)/\((rows.flatten.drop (idx*sz+off)).take m=(r.drop off).take m)/\idx*sz+off+m<=rows.flatten.length:=by
 have hidx:=(e9P.1 hr).1;have hpos:idx*sz+sz<=n*sz:=by rw [<-f0C];exact e95 _ (by omega)
 refine ⟨?_,?_,by rw [a3E hl,hn];omega⟩
 ·rcases ho.2 with ⟨hv,h0⟩|⟨g0,cap,cur,hv,_,hg,hnc,hcm,hcs,ht⟩
  ·rw [hv] at hb;cases hb
  ·rw [hv] at hb;simp [A8] at hb;subst hb;have hseg:N3 w g0 0 flat:=by
    rw [<-ht];have:=(a5Y hg 0).take (n*sz);simpa using this
   have:=(hseg.drop (idx*sz+off)).take m;simpa using this
 ·rw [<-b3l hl hr,List.drop_take,List.take_take,f1a];congr 1
  omega
def b0O(cx:Cx)(grp ty:Nat)(x:V)(r:List V):j7 A9 :=
 match cx.T ty with
 | none=>j7.no
 | some ti=>match x with
  | .eptr g j sz idx off=>j7.bind (j7.rd g j) fun e=>match e with
   | .deep _ t sz' n rows =>
    let m:=if ti.agg then ti.size else 1
    let y:=J7 grp 0 ((r.drop off).take m);if sz'=sz/\off+m<=sz/\((r.drop off).take m).all (fun v => !v.isRef) then
     match Q8 ti y.1 with
     | some v=>j7.pure {v:=v,new:=some y.2,upd:=[((g,j),.deep true t sz n (rows.set idx (A0 r off y.1)))],obl:=[rows[idx]?=some r]}
     | none=>j7.no
    else j7.no
   | _=>j7.no
  | _=>j7.no
theorem KL.toBL{w:World}{F D:Nat->Prop}{ι:Nat->Nat->Value}{vs:List V}{cs:List Value}{f:List Nat}(h:KL w F D ι vs cs f)(hv:vs.all (fun v => !v.isRef)=true):BL w F vs cs f:=by
 refine h.blOf fun v hm => ?_
 have:=List.all_eq_true.1 hv v hm;simpa using this
theorem c9M(grp:Nat):∀(vs:List V) (j:Nat),(J7 grp j vs).1.length=vs.length
 | [],_=>rfl
 | v::vs,j=>by simp [J7,c9M grp vs]
theorem e4l{S:St}{g j:Nat}{e e':s6}:(S.setE g j e).setE g j e'=S.setE g j e':=by
 cases hx:S.h[g]? with
 | none=>unfold St.setE;simp [hx]
 | some o=>cases o with
  | none=>unfold St.setE;simp [hx]
  | some l =>
   have hlt:=(e9P.1 hx).1;rw [a2i hx,a2i hx,a2i (l:=l.set j e) (by simp [hlt])];simp only [List.set_set]
set_option maxHeartbeats 800000 in
theorem e3Z(h:t7 Γ F ι S a w){grp:Nat}(hg:grp<S.h.length)(hn:¬S.D grp){ob:Oper}{ty:Nat}{x:Operand}{r:List V}(ho:ob.op=.load ty x){out:A9}{lg:List (Nat×Nat)}(hp:b0O cx grp ty (s8 S.t x) r S.ent=some (out,lg))(hob:∀p∈out.obl,p):S7 cx.P Γ ι S grp ob out a w:=by
 have hx:=C9 h.tmps x;unfold b0O at hp;cases hti:cx.T ty with
 | none=>rw [hti] at hp;cases hp
 | some ti =>
 rw [hti] at hp;obtain ⟨i,d,z,htf⟩:=cx.tf hti;generalize s8 S.t x=xv at hp hx;cases xv<;>try (cases hp;done)
 case eptr g j sz idx off =>
  obtain ⟨hD,b,hι,hc⟩:=hx.inv_eptr;obtain ⟨e,l1,l2,hrd,hp',hl12⟩:=j7.bind_some hp;clear hp;have he:=(j7.rd_some hrd).1;simp only at he;cases e<;>try (cases hp';done)
  rename_i o t sz' n rows;simp only at hp';obtain ⟨m,hm⟩:∃m,(if ti.agg=true then ti.size else 1)=m:=⟨_,rfl⟩
  rw [hm] at hp';split at hp'<;>try (cases hp';done)
  rename_i hcond;obtain ⟨rfl,hc1,hc2⟩:=hcond;obtain ⟨y,hy⟩:∃y,J7 grp 0 ((r.drop off).take m)=y:=⟨_,rfl⟩
  rw [hy] at hp';cases hrv:Q8 ti y.1 with
  | none=>rw [hrv] at hp';cases hp'
  | some v =>
  rw [hrv] at hp';have:=j7.pure_some hp';injection this with h2 h3;subst h2;have hr:rows[idx]?=some r:=hob _ (by simp);obtain ⟨flat,fs,hor,hkl,hrn,hl,hnd,hnr⟩:=h.ents g j _ he;obtain ⟨hseg,hmid,hle⟩:=c2u hor hrn hl hι hr hc1;have hrl:=hl r (e9W hr);have hml:((r.drop off).take m).length=m:=by simp;omega
  have hgg:g≠grp:=fun q=>hn (q▸hD)
  obtain ⟨k,hk⟩:∃k,idx*sz'+off=k:=⟨_,rfl⟩
  rw [hk] at hseg hmid hle;obtain ⟨fa,fm,fb,rfl,ka,km,kb⟩:=hkl.cut (k:=k) (m:=m) hle;rw [hmid] at km;have hbl:=km.toBL hc2;have hds:(flat.drop k).take m=((flat.drop k).take m):=rfl;have hflen:flat.length=rows.flatten.length:=hkl.len.symm;have hspl:∀us:List V,us.length=m->(rows.set idx (A0 r off us)).flatten=rows.flatten.take k++(us++rows.flatten.drop (k+m)):=by
   intro us hus;rw [a8s hl hr (by omega),hk];unfold A0;rw [hus,e9Y]
  have hfs:flat=flat.take k++((flat.drop k).take m++flat.drop (k+m)):=by
   rw [<-f1a,f0s,f0s]
  have hrl':∀us:List V,us.length=m->∀q∈rows.set idx (A0 r off us),q.length=sz':=by
   intro us hus q hq;rcases List.mem_or_eq_of_mem_set hq with hq|rfl
   ·exact hl q hq
   ·rw [a2V _ _ _ (by omega)];exact hrl
  have hnd2:(D2 (ι g j)++(fa++fb)).Nodup:=List.Nodup.sublist (f1l.append_left (f1l.append_left (f04 _ _) _) _) hnd;have hndm:fm.Nodup:=(e9S.1 (e9S.1 (e9S.1 hnd).2.1).2.1).1;have hdm:∀k∈fm,k ∉ D2 (ι g j)++(fa++fb):=by
   intro q hq hq';have hp:=(a73 (C:=D2 (ι g j)) (a73 (C:=fa) (f09.refl (fm++fb)))).nodup_iff.1 hnd;exact (e9S.1 hp).2.2 q hq q hq' rfl
  obtain ⟨us0,hus0⟩:∃us:List V,us=((r.drop off).take m).map fun _=>V.bot:=⟨_,rfl⟩
  have hus0l:us0.length=m:=by rw [hus0,f0D,hml]
  have kl0:∀{D':Nat->Prop} {ι':Nat->Nat->Value},(∀k,S.D k->D' k)->(∀g j,S.D g->ι' g j=ι g j)->∀{us:List V},us.length=m->KL w F D' ι' us ((flat.drop k).take m) []->KL w F D' ι' (rows.set idx (A0 r off us)).flatten flat (fa++([]++fb)):=by
   intro D' ι' h1 h2 us hus hku;rw [hspl us hus,hfs];have l1:(flat.take k).length=k:=by simp;omega
   have e1:(flat.take k++((flat.drop k).take m++flat.drop (k+m)))=flat:=hfs.symm;exact (ka.mono (fun _ _ _=>rfl) (fun _ x=>x) h1 h2 (fun _ _=>rfl)).app (hku.app (kb.mono (fun _ _ _=>rfl) (fun _ x=>x) h1 h2 (fun _ _=>rfl)))
  have hmem0:∀q,q∈D2 (ι g j)++(fa++([]++fb))->q∈D2 (ι g j)++(fa++(fm++fb)):=by
   intro q hq;simp only [List.mem_append,List.not_mem_nil,false_or] at hq ⊢;rcases hq with x|x|x<;>simp [x]
  have rel1:t7 Γ F ι (S.setE g j (.deep true t sz' n (rows.set idx (A0 r off us0)))) a w:=by
   have k1:=kl0 (D':=S.D) (ι':=ι) (fun _ x=>x) (fun _ _ _=>rfl) hus0l (hus0▸km.bots);refine h.write he rfl ⟨rfl,rfl,rfl⟩ rfl (fun _ _=>rfl) (fun _ => ?_) ?_
   ·exact ⟨flat,_,hor,k1.mono (fun _ _ _=>rfl) (fun _ x=>x) (fun k x=>P5.2 x) (fun _ _ _=>rfl) (fun _ _=>rfl),by simpa using hrn,hrl' _ hus0l,by simpa using hnd2,fun q=>by cases q⟩
   ·intro q hq;exact (EB.deep_iff hor hkl).2 (hmem0 q ((EB.deep_iff hor k1).1 hq))
  have he1:(S.setE g j (.deep true t sz' n (rows.set idx (A0 r off us0)))).ent g j=some (.deep true t sz' n (rows.set idx (A0 r off us0))):=by rw [O5 he];simp
  obtain ⟨bs,hbsl,hhas,hth⟩:=a6O (grp:=grp) hbl 0;rw [hy] at hbsl hhas hth;obtain ⟨ι',hι'⟩:∃ι',ι'=a4g ι grp bs:=⟨_,rfl⟩
  have hne:∀g j,g≠grp->ι' g j=ι g j:=fun g j q=>by rw [hι'];exact b9d q
  have hlenS:grp<(S.setE g j (.deep true t sz' n (rows.set idx (A0 r off us0)))).h.length:=by rw [b0o];exact hg
  have hnD:¬(S.setE g j (.deep true t sz' n (rows.set idx (A0 r off us0)))).D grp:=fun q=>hn (P5.1 q)
  have hDg:=a0A (S:=S.setE g j (.deep true t sz' n (rows.set idx (A0 r off us0)))) (new:=y.2) hlenS;obtain ⟨hrc,hlie⟩:=hth ((S.setE g j (.deep true t sz' n (rows.set idx (A0 r off us0)))).lay grp y.2).D ι' hDg (fun q c hq=>by rw [hι',f0v];exact a4F hq) hndm;have hvb:∀(q:Nat) (e:s6),y.2[q]?=some e->bs[q]?=some (ι' grp q):=by
   intro q e hq;have hlt:q<bs.length:=by rw [hbsl];exact (e9P.1 hq).1
   have hv:ι' grp q=bs[q]:=by rw [hι'];exact a4F (e9K hlt)
   rw [hv];exact e9K hlt
  have hmB:∀k∈fm,EB w (.deep o t sz' n rows) (ι g j) k:=fun k hk=>(EB.deep_iff hor hkl).2 (by simp [hk])
  have k1:=kl0 (D':=S.D) (ι':=ι) (fun _ x=>x) (fun _ _ _=>rfl) hus0l (hus0▸km.bots);have rel2:=rel1.lay hlenS hnD (new:=y.2) (ι':=ι') hne (fun q e he=>hlie q e _ he (hvb q e he))
   (fun q e k he hl hk=>h.sep _ _ _ k ‹S.ent g j=some (.deep o t sz' n rows)› rfl (hmB k (hhas.mem he (hvb q e he) hk)))
   (fun q e q' e' k he he' hl hl' hk hk'=>hhas.inj hndm he (hvb q e he) hk he' (hvb q' e' he') hk')
   (fun q e g' j' e' k he0 he' hl hl' hk hk'=>by
    have hkm:=hhas.mem he0 (hvb q e he0) hk;rw [O5 he] at he';split at he'
    ·rename_i qq;obtain ⟨rfl,rfl⟩:=qq;injection he' with he';subst he';exact hdm k hkm (by simpa using (EB.deep_iff hor k1).1 hk')
    ·rename_i qq;exact qq (h.inj _ _ _ _ _ _ k he' he hl' rfl hk' (hmB k hkm)))
  have he2:((S.setE g j (.deep true t sz' n (rows.set idx (A0 r off us0)))).lay grp y.2).ent g j=some (.deep true t sz' n (rows.set idx (A0 r off us0))):=by rw [a7h hgg];exact he1
  have hyl:y.1.length=m:=by rw [<-hy,c9M,hml]
  have hor':w.ownsRow 0 t sz' (ι' g j) n flat:=by rw [hne g j hgg];exact hor
  have hDD:∀k,S.D k->((S.setE g j (.deep true t sz' n (rows.set idx (A0 r off us0)))).lay grp y.2).D k:=fun k x=>b4j (P5.2 x)
  have hιD:∀g' j',S.D g'->ι' g' j'=ι g' j':=fun g' j' x=>hne g' j' fun q=>hn (q▸x)
  have k2:=kl0 (D':=((S.setE g j (.deep true t sz' n (rows.set idx (A0 r off us0)))).lay grp y.2).D) (ι':=ι') hDD hιD hyl (KL.ofRC hrc);have k1':=kl0 (D':=((S.setE g j (.deep true t sz' n (rows.set idx (A0 r off us0)))).lay grp y.2).D) (ι':=ι') hDD hιD hus0l (hus0▸km.bots.mono (fun _ _ _=>rfl) (fun _ x=>x) hDD hιD (fun _ _=>rfl));have rel3:=rel2.write he2 rfl (e':=.deep true t sz' n (rows.set idx (A0 r off y.1))) ⟨rfl,rfl,rfl⟩ rfl (fun _ _=>rfl)
   (fun _=>⟨flat,_,hor',k2.mono (fun _ _ _=>rfl) (fun _ x=>x) (fun k x=>P5.2 x) (fun _ _ _=>rfl) (fun _ _=>rfl),by simpa using hrn,hrl' _ hyl,by rw [hne g j hgg];simpa using hnd2,fun q=>by cases q⟩)
   (fun q hq=>(EB.deep_iff hor' k1').2 ((EB.deep_iff hor' k2).1 hq))
  obtain ⟨c,hrd',hvc⟩:=a5S hrc hrv;refine ⟨_,c,w,F,ι',a5m ho htf (by rw [hc,hk]) hseg hrd',.inl rfl,?_⟩;have hput:=rel3.put ob.dst (hvc.mono (fun _ _ _=>rfl) (fun _ x=>x) (fun k x=>P5.2 x) (fun _ _ _=>rfl));rw [<-d3h hgg,e4l] at hput;exact hput
def V.plainO:V->Bool
 | .own .. => true
 | v=>v.plain
theorem KL.plainO{w:World}{F D:Nat->Prop}{ι:Nat->Nat->Value}:∀{vs:List V} {cs:List Value} {f:List Nat},KL w F D ι vs cs f->vs.all V.plainO=true->w8 (RC w F D ι) vs cs
 | _,_,_,.nil,_=>.nil
 | _,_,_,.cons v c f vs cs fs h t,hp=>by
  simp only [List.all_cons,e9N] at hp;refine .cons ?_ (KL.plainO t hp.2);have hv:=hp.1;cases h with
  | rc h=>exact h
  | bc _ h=>cases h with
   | fv v c h=>exact .fv _ _ h
   | _=>cases hv
def b1N(cx:Cx)(ty:Nat)(x:V)(r:List V):j7 A9 :=
 match cx.T ty with
 | none=>j7.no
 | some ti=>match x with
  | .eptr g j sz idx off=>j7.bind (j7.rd g j) fun e=>match e with
   | .deep _ t sz' n rows =>
    let m:=if ti.agg then ti.size else 1
    if sz'=sz/\off+m<=sz/\((r.drop off).take m).all V.plainO then
     match Q8 ti ((r.drop off).take m) with
     | some v=>j7.pure {v:=v,obl:=[rows[idx]?=some r]}
     | none=>j7.no
    else j7.no
   | _=>j7.no
  | _=>j7.no
theorem e1t(h:t7 Γ F ι S a w){grp:Nat}{ob:Oper}{ty:Nat}{x:Operand}{r:List V}(ho:ob.op=.load ty x){out:A9}{lg:List (Nat×Nat)}(hp:b1N cx ty (s8 S.t x) r S.ent=some (out,lg))(hob:∀p∈out.obl,p):S7 cx.P Γ ι S grp ob out a w:=by
 have hx:=C9 h.tmps x;unfold b1N at hp;cases hti:cx.T ty with
 | none=>rw [hti] at hp;cases hp
 | some ti =>
 rw [hti] at hp;obtain ⟨i,d,z,htf⟩:=cx.tf hti;generalize s8 S.t x=xv at hp hx;cases xv<;>try (cases hp;done)
 case eptr g j sz idx off =>
  obtain ⟨hD,b,hι,hc⟩:=hx.inv_eptr;obtain ⟨e,l1,l2,hrd,hp',hl12⟩:=j7.bind_some hp;clear hp;have he:=(j7.rd_some hrd).1;simp only at he;cases e<;>try (cases hp';done)
  rename_i o t sz' n rows;simp only at hp';obtain ⟨m,hm⟩:∃m,(if ti.agg=true then ti.size else 1)=m:=⟨_,rfl⟩
  rw [hm] at hp';split at hp'<;>try (cases hp';done)
  rename_i hcond;obtain ⟨rfl,hc1,hc2⟩:=hcond;cases hrv:Q8 ti ((r.drop off).take m) with
  | none=>rw [hrv] at hp';cases hp'
  | some v =>
  rw [hrv] at hp';have:=j7.pure_some hp';injection this with h2 h3;subst h2;have hr:rows[idx]?=some r:=hob _ (by simp);obtain ⟨flat,fs,hor,hkl,hrn,hl,hnd,hnr⟩:=h.ents g j _ he;obtain ⟨hseg,hmid,hle⟩:=c2u hor hrn hl hι hr hc1;obtain ⟨fa,fm,fb,rfl,ka,km,kb⟩:=hkl.cut hle;rw [hmid] at km;obtain ⟨c,hrd',hvc⟩:=a5S (D:=S.D) (ι:=ι) (km.plainO hc2) hrv;exact ⟨_,c,w,F,ι,a5m ho htf hc hseg hrd',.inl rfl,by rw [a44];exact h.put ob.dst hvc⟩
def b0X(cx:Cx)(grp ty:Nat)(l c:V)(ck om:List (Option Nat)):j7 A9 :=
 match cx.T ty with
 | some ti=>match ti.sl with
  | some e=>match cx.T e with
   | some ei=>match l,c with
    | .i _ n,.i _ n'=>j7.bind (a1F ck om ei.zero) fun f =>
     if f.ks.isEmpty/\f.ls.isEmpty then
      j7.pure {v:=.own grp 0 ei.size 0 n.toNat,new:=some [.deep false e ei.size n.toNat (e9L n.toNat f.v)],obl:=[0<=n,n'=n,n*ei.bytes<=140737488355328/\0<ei.bytes,ei.zero.length=ei.size]++f.obl}
     else j7.no
    | _,_=>j7.no
   | none=>j7.no
  | none=>j7.no
 | none=>j7.no
theorem BL.replicate{w:World}{F D:Nat->Prop}{ι:Nat->Nat->Value}{vs:List V}{cs:List Value}(h:KL w F D ι vs cs []):∀n,KL w F D ι (e9L n vs).flatten (e9L n cs).flatten []
 | 0=>.nil
 | n+1=>by
  rw [f1e,f1e,f0a,f0a];exact h.app (BL.replicate h n)
theorem d7W(h:t7 Γ F ι S a w){grp:Nat}(hg:grp<S.h.length)(hn:¬S.D grp){ob:Oper}{ty:Nat}{l c:Operand}(ho:ob.op=.makeSlice ty l c){ck om:List (Option Nat)}{out:A9}{lg:List (Nat×Nat)}(hp:b0X cx grp ty (s8 S.t l) (s8 S.t c) ck om S.ent=some (out,lg))(hob:∀p∈out.obl,p):S7 cx.P Γ ι S grp ob out a w:=by
 have hl:=C9 h.tmps l;have hc:=C9 h.tmps c;unfold b0X at hp;cases hti:cx.T ty with
 | none=>rw [hti] at hp;cases hp
 | some ti =>
 rw [hti] at hp;simp only at hp;cases hs:ti.sl with
 | none=>rw [hs] at hp;cases hp
 | some e =>
 rw [hs] at hp;simp only at hp;cases hei:cx.T e with
 | none=>rw [hei] at hp;cases hp
 | some ei =>
 rw [hei] at hp;simp only at hp;generalize s8 S.t l=lv at hp hl;generalize s8 S.t c=cv at hp hc;cases lv<;>try (cases hp;done)
 cases cv<;>try (cases hp;done)
 rename_i k n k' n';simp only at hp;obtain ⟨f,l1,l2,hf,hp',_⟩:=j7.bind_some hp;clear hp;split at hp'<;>try (cases hp';done)
 rename_i hcond;have:=j7.pure_some hp';injection this with h3 h4;subst h3;have p1:0<=n:=hob _ (by simp);have p2:n'=n:=hob _ (by simp);have p3:n*ei.bytes<=140737488355328/\0<ei.bytes:=hob _ (by simp);have p4:ei.zero.length=ei.size:=hob _ (by simp);have p5:∀p∈f.obl,p:=fun p hp=>hob p (List.mem_append.2 (.inr hp))
 subst p2;obtain ⟨m,rfl⟩:=Int.eq_ofNat_of_zero_le p1;obtain ⟨i,d,z,htf⟩:=cx.tf hti;obtain ⟨i',d',z',hef⟩:=cx.tf hei;obtain rfl:=htf.isSl hs;have hzs:z'.cells.size=ei.size:=by rw [<-p4,<-hef.zeros];simp
 have hb1:m*ei.bytes<=140737488355328:=by
  have:=p3.1;rw [<-Int.natCast_mul] at this;omega
 have hb2:m<=140737488355328:=Nat.le_trans (f0W _ p3.2) hb1;obtain ⟨w',hr,hown,hgr⟩:=run_make_full (P:=cx.P) w 0 ty e i' z' ei.size htf.und hef.info hef.zero hef.size k k' m (by rw [hef.bytes,Nat.mul_comm];omega) (by unfold maxLen;omega) (f08 _);have hrun:(execOp a.eval ob).run cx.P w=.ok (.value (.slice (some ⟨w.heap.size,0,none⟩) m m)) w':=by
  simp [execOp,ho,hl.inv_i,hc.inv_i,hr]
 have hz:w8 (RC w F S.D ι) ei.zero z'.cells.toList:=by
  rw [<-hef.zeros];exact (FL.ofCells (w:=w) (F:=F) _ hef.one).all2.imp fun _ _ x=>.fv _ _ x
 obtain ⟨fp,hbl,hfps,hh⟩:=b0C (F1:=F) h (fun _ x=>x) hz hf p5 (by rw [List.isEmpty_iff.1 hcond.2];intro id hid;cases hid);have hfp:fp=[]:=by
  rw [List.isEmpty_iff.1 hcond.1] at hfps;cases hfps;rfl
 subst hfp;have hs':G9 w w' F:=a0S fun g hg=>hgr.block g (h.F1 g hg) (by simp)
 have hbl':BL w' F f.v z'.cells.toList []:=hbl.mono hs' (fun _ x=>x) (fun k hk=>by cases hk);have hrowl:∀r∈e9L m f.v,r.length=ei.size:=fun r hr=>by
  rw [(f0n.1 hr).2,hbl.len];simpa using hzs
 have hkl:∀{D:Nat->Prop} {ι:Nat->Nat->Value},KL w' F D ι (e9L m f.v).flatten (e9L m z'.cells.toList).flatten []:=BL.replicate hbl'.kl m
 have hown':=hown;rw [<-hzs,b6O,hzs] at hown';have hor:RE w' F (S.lay grp [.deep false e ei.size m (e9L m f.v)]).D (L3 ι grp (.slice (some ⟨w.heap.size,0,none⟩) m m)) (.deep false e ei.size m (e9L m f.v)) (.slice (some ⟨w.heap.size,0,none⟩) m m) :=
  ⟨_,[],hown',hkl,by simp,hrowl,by simp [D2,A8],fun _=>G7.of_flat fun v hv=>by
   obtain ⟨q,hq,hv⟩:=f0t.1 hv;rw [(f0n.1 hq).2] at hv;exact hbl.noRef v hv⟩
 have hrel:=h.new1 hg hn hgr (ent:=.deep false e ei.size m (e9L m f.v)) (c0:=.slice (some ⟨w.heap.size,0,none⟩) m m) (by
  intro q hq;have:=(EB.deep_iff (D:=fun _=>True) (ι:=fun _ _=>.nilFunc) hown' hkl).1 hq;simp [D2,A8] at this;omega) hor
 refine ⟨_,_,_,F,L3 ι grp (.slice (some ⟨w.heap.size,0,none⟩) m m),hrun,.inl rfl,?_⟩;exact hrel.put ob.dst (.cell (RC.wholeO (a0A hg) O1 hown'))
end
def a8x:List (List Int×V)->List Int->V->V
 | [],_,z=>z
 | p::es,k,z=>if k==p.1 then p.2 else a8x es k z
def a3m:List (List Int×V)->List Int->V->List (List Int×V)
 | [],k,v=>[(k,v)]
 | p::es,k,v=>if k==p.1 then (p.1,v)::es else p::a3m es k v
def Z7:List (List Int×V)->List Int->Nat->Option (Nat×Value)
 | [],_,_=>none
 | p::es,k,i=>if k==p.1 then some (i,p.2.conc) else Z7 es k (i+1)
theorem c7O{P:Program}{w:World}{r:Nat}{es:Array MapEntry}{clock:Nat}(o:Obj)(hb:w.heap[r]?=some (.map es clock)):(setObj r o).run P w=.ok () {w with heap:=w.heap.setIfInBounds r o}:=by
 simp [setObj,Sem.run,hb]
theorem d1k{w:World}{r:Nat}{o o':Obj}(hb:w.heap[r]?=some o):(w.heap.setIfInBounds r o')[r]?=some o'/\∀r',r'≠r->(w.heap.setIfInBounds r o')[r']?=w.heap[r']?:=by
 have hlt:=(Array.getElem?_eq_some_iff.1 hb).1;exact ⟨by simp [hlt],fun r' q=>by rw [Array.getElem?_setIfInBounds_ne (Ne.symm q)]⟩
theorem d3m(z:V)(k:List Int):∀(es:List (List Int×V)) (i:Nat),(a8x es k z).conc=match Z7 es k i with
  | some (_,v)=>v
  | none=>z.conc
 | [],_=>rfl
 | p::es,i=>by
  unfold a8x Z7;split
  ·rfl
  ·exact d3m z k es (i+1)
theorem RV.simple{w:World}{F D:Nat->Prop}{ι:Nat->Nat->Value}{v:V}{c:Value}(h:RV w F D ι v c)(hv:v.simple=true):c=v.conc:=by
 cases h with
 | one v c h =>
  cases h with
  | cell v c h =>
   cases h with
   | fv v c h=>cases h<;>first|rfl|(cases hv;done)
   | _=>cases hv
  | agg cs ds h=>cases hv
 | tup cs ds h=>cases hv
 | any c=>cases hv
section
variable {P:Program} {kt m:Nat} {w:World}
theorem c1O(hE:∀(xs ys:List Int) (w:World),xs.length=m->ys.length=m->(Op.equal kt (kv xs) (kv ys)).run P w=.ok (xs==ys) w){k:List Int}(hk:k.length=m):∀(es:List (List Int×V)) (l:List MapEntry) (i:Nat),l.map (fun e=>(e.key,e.val))=es.map (fun p=>(kv p.1,p.2.conc))->(∀p∈es,p.1.length=m)->(Instr.findAsking kt (kv k) l i).run P w=.ok (Z7 es k i) w
 | [],[],i,_,_=>by simp [Instr.findAsking,Z7]
 | [],_::_,_,h,_=>by cases h
 | _::_,[],_,h,_=>by cases h
 | p::es,e::l,i,h,hl=>by
  simp only [f0e,List.cons.injEq,Prod.mk.injEq] at h;obtain ⟨⟨h1,h2⟩,h3⟩:=h;unfold Instr.findAsking;rw [h1];simp only [Sem.run_bind,hE k p.1 w hk (hl p (by simp)),Result.andThen_ok];unfold Z7;by_cases q:(k==p.1)=true
  ·rw [if_pos q,if_pos q,h2];rfl
  ·rw [if_neg q,if_neg q];exact c1O hE hk es l (i+1) h3 fun p hp=>hl p (by simp [hp])
theorem e4K:∀(n:Nat) (xs:List Int),Instr.sameBits (n+2) (kv xs) (kv xs)=true:=by
 intro n xs;unfold kv Instr.sameBits;simp only [f1h,beq_self_eq_true,e93];induction xs with
 | nil=>rfl
 | cons x xs ih =>
  simp only [f0e,List.zip_cons_cons,List.all_cons,e9N];exact ⟨by simp [Instr.sameBits],by simpa using ih⟩
theorem c5Z{k:List Int}{j:Nat}{v:Value}:∀{es:List (List Int×V)} {i:Nat},Z7 es k i=some (j,v)->i<=j
 | [],_,h=>by cases h
 | p::es,i,h=>by
  unfold Z7 at h;split at h
  ·injection h with h;injection h with h;omega
  ·have:=c5Z h;omega
theorem c8v{k:List Int}{x:V}{v:Value}:∀{es:List (List Int×V)} {l:List MapEntry} {i j:Nat},l.map (fun e=>(e.key,e.val))=es.map (fun p=>(kv p.1,p.2.conc))->Z7 es k i=some (j,v)->
  (∃e,l[j-i]?=some e/\e.key=kv k)/\((l.modify (j-i) fun e=>{e with key:=kv k,val:=x.conc}).map (fun e=>(e.key,e.val))=(a3m es k x).map (fun p=>(kv p.1,p.2.conc)))
 | [],_,_,_,_,h=>by cases h
 | _::_,[],_,_,h,_=>by cases h
 | p::es,e::l,i,j,h,hf=>by
  simp only [f0e,List.cons.injEq,Prod.mk.injEq] at h;obtain ⟨⟨h1,h2⟩,h3⟩:=h;unfold Z7 at hf;unfold a3m;split at hf
  ·rename_i q;injection hf with hf;injection hf with hf1 hf2;subst hf1;have:k=p.1:=by simpa using q
   rw [Nat.sub_self,if_pos q];exact ⟨⟨e,rfl,by rw [h1,this]⟩,by simp [List.modify_cons,h3,this]⟩
  ·rename_i q;rw [if_neg q];have hge:=c5Z hf;obtain ⟨⟨e',h4,h5⟩,h6⟩:=c8v (x:=x) h3 hf;obtain ⟨d,hd⟩:∃d,j-i=d+1:=⟨j-i-1,by omega⟩
   have hd':j-(i+1)=d:=by omega
   rw [hd'] at h4 h6;rw [hd];refine ⟨⟨e',by simpa using h4,h5⟩,?_⟩;rw [List.modify_succ_cons];simp only [f0e,h1,h2,h6]
theorem c5d{k:List Int}{x:V}:∀{es:List (List Int×V)} {i:Nat},Z7 es k i=none->a3m es k x=es++[(k,x)]
 | [],_,_=>rfl
 | p::es,i,h=>by
  unfold Z7 at h;unfold a3m;split at h
  ·cases h
  ·rename_i q;rw [if_neg q,c5d h];rfl
theorem c5H{k:List Int}{x:V}{p:List Int×V->Prop}:∀{es:List (List Int×V)},(∀q∈es,p q)->(∀q∈es,p (q.1,x))->p (k,x)->∀q∈a3m es k x,p q
 | [],_,_,h3,q,hq=>by
  simp only [a3m,e9Q] at hq;subst hq;exact h3
 | e::es,h1,h2,h3,q,hq=>by
  unfold a3m at hq;split at hq
  ·rcases e9R.1 hq with rfl|hq
   ·exact h2 e (by simp)
   ·exact h1 q (by simp [hq])
  ·rcases e9R.1 hq with rfl|hq
   ·exact h1 _ (by simp)
   ·exact c5H (fun q hq=>h1 q (by simp [hq])) (fun q hq=>h2 q (by simp [hq])) h3 q hq
end
section
variable {cx:Cx} {Γ:N1} {F:Nat->Prop} {ι:Nat->Nat->Value} {S S':St} {a:Act} {w:World}
theorem RV.inv_mp{D:Nat->Prop}{g j:Nat}{c:Value}(h:RV w F D ι (.mp g j) c):D g/\∃b,ι g j=.map (some b)/\c=.map (some b):=by
 cases h with
 | one v c h=>cases h with
  | cell v c h=>cases h with
   | fv v c h=>cases h
   | mp g j b h1 h2=>exact ⟨h1,b,h2,rfl⟩
def c0I(cx:Cx)(grp ty:Nat):Option A9 :=
 match cx.M ty with
 | some (_,m,_)=>some {v:=.mp grp 0,new:=some [.map ty m []]}
 | none=>none
theorem e6b(h:t7 Γ F ι S a w){grp:Nat}(hg:grp<S.h.length)(hn:¬S.D grp){ob:Oper}{ty:Nat}(ho:ob.op=.makeMap ty none){out:A9}(hp:c0I cx grp ty=some out):S7 cx.P Γ ι S grp ob out a w:=by
 unfold c0I at hp;split at hp<;>try (cases hp;done)
 injection hp with hp;subst hp;rename_i kt m z hM;have hrun:(execOp a.eval ob).run cx.P w=.ok (.value (.map (some w.heap.size))) (w.alloc (.map #[] 0)):=by
  simp only [execOp,ho,Option.map_none];rfl
 have hrel:=h.new1 hg hn (a4r w (.map #[] 0)) (ent:=.map ty m []) (c0:=.map (some w.heap.size))
  (by intro k hk;simp [EB,A8] at hk;omega) ⟨w.heap.size,#[],0,rfl,a7z w _,rfl,fun p hp=>by cases hp⟩
 refine ⟨_,_,_,F,L3 ι grp (.map (some w.heap.size)),hrun,.inl rfl,?_⟩;exact hrel.put ob.dst (.cell (.mp grp 0 w.heap.size (a0A hg) O1))
def b1V(cx:Cx)(ty:Nat)(x ix:V):j7 A9 :=
 match cx.M ty with
 | none=>j7.no
 | some (kt,m,z)=>match x,ix with
  | .mp g j,.agg ks=>match a1T ks with
   | some xs=>j7.bind (j7.rd g j) fun e=>match e with
    | .map t' m' es=>if m'=m/\xs.length=m then j7.pure {v:=a8x es xs z} else j7.no
    | _=>j7.no
   | none=>j7.no
  | _,_=>j7.no
theorem d1G{xs:List Int}{z:V}(hz:z.simple=true):∀{es:List (List Int×V)},(∀p∈es,p.2.simple=true)->(a8x es xs z).simple=true
 | [],_=>hz
 | p::es,h=>by
  unfold a8x;split
  ·exact h p (by simp)
  ·exact d1G hz fun p hp=>h p (by simp [hp])
theorem e2U(h:t7 Γ F ι S a w){grp:Nat}{ob:Oper}{ty:Nat}{x ix:Operand}(ho:ob.op=.lookup ty x ix false){out:A9}{lg:List (Nat×Nat)}(hp:b1V cx ty (s8 S.t x) (s8 S.t ix) S.ent=some (out,lg)):S7 cx.P Γ ι S grp ob out a w:=by
 have hx:=C9 h.tmps x;have hi:=C9 h.tmps ix;unfold b1V at hp;cases hM:cx.M ty with
 | none=>rw [hM] at hp;cases hp
 | some q =>
 obtain ⟨kt,m,z⟩:=q;rw [hM] at hp;simp only at hp;generalize s8 S.t x=xv at hp hx;generalize s8 S.t ix=iv at hp hi;cases xv<;>try (cases hp;done)
 cases iv<;>try (cases hp;done)
 rename_i g j ks;simp only at hp;cases hks:a1T ks with
 | none=>rw [hks] at hp;cases hp
 | some xs =>
 rw [hks] at hp;obtain ⟨e,l1,l2,hrd,hp',hl12⟩:=j7.bind_some hp;clear hp;have he:=(j7.rd_some hrd).1;simp only at he hp';cases e<;>try (cases hp';done)
 rename_i t' m' es;simp only at hp';split at hp'<;>try (cases hp';done)
 rename_i hcond;obtain ⟨rfl,hlen⟩:=hcond;have:=j7.pure_some hp';injection this with h2 h3;subst h2;obtain ⟨hD,b,hι,hc⟩:=hx.inv_mp;obtain ⟨ds,hds,hall⟩:=hi.inv_agg;have hints:=b6D hall hks;subst hints;obtain ⟨b',arr,clock,hb,hheap,hes,hok⟩:=h.ents g j _ he;rw [hι] at hb;injection hb with hb;injection hb with hb;subst hb;obtain ⟨vt,hu,hE,hwide,hz,hzs,hck⟩:=cx.hM ty kt m' z hM;have hck':∀em,(Instr.checkKey em 10000 kt (kv xs)).run cx.P w=.ok () w:=fun em=>hck em xs w hlen
 have hfind:(Instr.findKey kt (kv xs) arr.toList).run cx.P w=.ok (Z7 es xs 0) w:=by
  rw [run_findKey_eq w (by unfold b8T at hwide;exact hwide)];exact c1O (fun xs ys w h1 h2=>cx.hE kt m' hE xs ys w h1 h2) hlen es arr.toList 0 hes fun p hp=>(hok p hp).1
 have hrun:(execOp a.eval ob).run cx.P w=.ok (.value (a8x es xs z).conc) w:=by
  rw [d3m z xs es 0];simp only [execOp,ho,hc,hds,Instr.lookup,Sem.run_bind,run_underlying hu,Result.andThen_ok,run_getObj_map w b arr clock hheap];rw [show (Value.agg (xs.map (Value.int .i64)).toArray)=kv xs from rfl];simp only [Sem.run_pure,Sem.run_bind,hck',Result.andThen_ok,hfind];cases Z7 es xs 0 with
  | none=>simp [hz,Sem.run_bind]
  | some q=>simp
 have hs:=d1G (xs:=xs) hzs fun p hp=>(hok p hp).2
 refine ⟨_,_,w,F,ι,hrun,.inl rfl,?_⟩;rw [a44];exact h.put ob.dst (.fv (FV.conc hs))
def b2h(cx:Cx)(ty:Nat)(x ix y:V):j7 A9 :=
 match cx.M ty with
 | none=>j7.no
 | some (kt,m,z)=>match x,ix with
  | .mp g j,.agg ks=>match a1T ks with
   | some xs=>j7.bind (j7.rd g j) fun e=>match e with
    | .map t' m' es=>if m'=m/\xs.length=m/\y.simple=true then j7.pure {v:=.bot,upd:=[((g,j),.map t' m (a3m es xs y))]} else j7.no
    | _=>j7.no
   | none=>j7.no
  | _,_=>j7.no
theorem d5K(h:t7 Γ F ι S a w){grp:Nat}{ob:Oper}{ty:Nat}{x ix y:Operand}(ho:ob.op=.mapUpdate ty x ix y)(hd:ob.dst=none){out:A9}{lg:List (Nat×Nat)}(hp:b2h cx ty (s8 S.t x) (s8 S.t ix) (s8 S.t y) S.ent=some (out,lg)):S7 cx.P Γ ι S grp ob out a w:=by
 have hx:=C9 h.tmps x;have hi:=C9 h.tmps ix;have hy:=C9 h.tmps y;unfold b2h at hp;cases hM:cx.M ty with
 | none=>rw [hM] at hp;cases hp
 | some q =>
 obtain ⟨kt,m,z⟩:=q;rw [hM] at hp;simp only at hp;generalize s8 S.t x=xv at hp hx;generalize s8 S.t ix=iv at hp hi;generalize s8 S.t y=yv at hp hy;cases xv<;>try (cases hp;done)
 cases iv<;>try (cases hp;done)
 rename_i g j ks;simp only at hp;cases hks:a1T ks with
 | none=>rw [hks] at hp;cases hp
 | some xs =>
 rw [hks] at hp;obtain ⟨e,l1,l2,hrd,hp',hl12⟩:=j7.bind_some hp;clear hp;have he:=(j7.rd_some hrd).1;simp only at he hp';cases e<;>try (cases hp';done)
 rename_i t' m' es;simp only at hp';split at hp'<;>try (cases hp';done)
 rename_i hcond;obtain ⟨rfl,hlen,hys⟩:=hcond;have:=j7.pure_some hp';injection this with h2 h3;subst h2;obtain ⟨hD,b,hι,hc⟩:=hx.inv_mp;obtain ⟨ds,hds,hall⟩:=hi.inv_agg;have hints:=b6D hall hks;subst hints;have hyc:=hy.simple hys;obtain ⟨b',arr,clock,hb,hheap,hes,hok⟩:=h.ents g j _ he;rw [hι] at hb;injection hb with hb;injection hb with hb;subst hb;obtain ⟨vt,hu,hE,hwide,hz,hzs,hck⟩:=cx.hM ty kt m' z hM;have hck':∀em,(Instr.checkKey em 10000 kt (kv xs)).run cx.P w=.ok () w:=fun em=>hck em xs w hlen
 have hfind:(Instr.findKey kt (kv xs) arr.toList).run cx.P w=.ok (Z7 es xs 0) w:=by
  rw [run_findKey_eq w (by unfold b8T at hwide;exact hwide)];exact c1O (fun xs ys w h1 h2=>cx.hE kt m' hE xs ys w h1 h2) hlen es arr.toList 0 hes fun p hp=>(hok p hp).1
 have hlt:b<w.heap.size:=(Array.getElem?_eq_some_iff.1 hheap).1;obtain ⟨arr',clock',hrun,hes'⟩:∃arr' clock',(execOp a.eval ob).run cx.P w=.ok .skip {w with heap:=w.heap.setIfInBounds b (.map arr' clock')}/\arr'.toList.map (fun e=>(e.key,e.val))=(a3m es xs yv).map (fun p=>(kv p.1,p.2.conc)):=by
  have e0:(Value.agg (xs.map (Value.int .i64)).toArray)=kv xs:=rfl;cases hf:Z7 es xs 0 with
  | none =>
   refine ⟨arr.push {key:=kv xs,val:=yv.conc,born:=clock},clock+1,?_,?_⟩
   ·simp only [execOp,ho,hc,hds,hyc,Instr.mapUpdate,Sem.run_bind,run_underlying hu,Result.andThen_ok,run_getObj_map w b arr clock hheap];rw [e0];simp only [Sem.run_pure,Sem.run_bind,hck',Result.andThen_ok,hfind,hf,c7O _ hheap]
   ·rw [c5d hf];simp [hes]
  | some q =>
   obtain ⟨i,v⟩:=q;obtain ⟨⟨e,he1,he2⟩,he3⟩:=c8v (x:=yv) hes hf;rw [f1v] at he1 he3;have hkey:((arr[i]?).map (·.key)).getD (kv xs)=kv xs:=by
    have:arr[i]?=some e:=by simpa using he1
    rw [this];exact he2
   refine ⟨arr.modify i fun e=>{e with key:=kv xs,val:=yv.conc},clock,?_,?_⟩
   ·simp only [execOp,ho,hc,hds,hyc,Instr.mapUpdate,Sem.run_bind,run_underlying hu,Result.andThen_ok,run_getObj_map w b arr clock hheap];rw [e0];simp only [Sem.run_pure,Sem.run_bind,hck',Result.andThen_ok,hfind,hf,hkey,Instr.keyThatStays,e4K 9998,if_true,c7O _ hheap]
   ·rw [Array.toList_modify];exact he3
 refine ⟨_,undef,_,F,ι,hrun,.inr ⟨rfl,rfl⟩,?_⟩;rw [hd,b17,b2p];have hsz:(w.heap.setIfInBounds b (.map arr' clock')).size=w.heap.size:=by simp
 refine h.write he rfl ⟨rfl,rfl,rfl⟩ hsz (fun k hk => ?_) (fun _ => ?_) (fun k hk=>hk)
 ·refine (d1k hheap).2 k fun q=>hk ?_
  rw [q,hι];rfl
 ·exact ⟨b,arr',clock',hι,(d1k hheap).1,hes',c5H hok (fun q hq=>⟨(hok q hq).1,hys⟩) ⟨hlen,hys⟩⟩
end
section
variable {cx:Cx} {Γ:N1} {F:Nat->Prop} {ι:Nat->Nat->Value} {S S':St} {a:Act} {w:World}
theorem t7.killsR:∀{ks:List (Nat×Nat)} {S:St},t7 Γ F ι S a w->(∀id∈ks,∃e,S.ent id.1 id.2=some e)->t7 Γ F ι (S.upds (E6 ks)) a w
 | [],S,h,_=>h
 | id::ks,S,h,hk=>by
  obtain ⟨e,he⟩:=hk id (by simp);refine t7.killsR (S:=S.setE id.1 id.2 .dead) (h.kill he) fun id' hid => ?_
  obtain ⟨e',he'⟩:=hk id' (by simp [hid]);rw [O5 he];split
  ·exact ⟨_,rfl⟩
  ·exact ⟨e',he'⟩
theorem G7.flatB{rows:List (List V)}(h:G7 rows):rows.flatten.all (fun v => !v.isRef)=true:=by
 rw [List.all_eq_true];intro v hv;obtain ⟨r,hr,hv⟩:=f0t.1 hv;rw [h r hr v hv];rfl
theorem t7.layDeep(h:t7 Γ F ι S a w){grp:Nat}(hgl:grp<S.h.length)(hn:¬S.D grp){X:Option Nat}{w':World}(hgr:w.grownBy w' X)(hX:∀k,X=some k->¬F k/\(Γ.own k\/Γ.w0.heap.size<=k)/\∀g j e,S.ent g j=some e->e.live=true->¬EB w e (ι g j) k){e sz n:Nat}{rows:List (List V)}{sv:Value}{flat:List Value}{fs:List Nat}(hown:w'.ownsRow 0 e sz sv n flat)(hbl:BL w F rows.flatten flat fs)(hlen:rows.length=n)(hl:∀r∈rows,r.length=sz)(hsv:∀k,A8 sv=some k->X=some k\/w.heap.size<=k)(hfs:∀k∈fs,¬F k/\(Γ.own k\/Γ.w0.heap.size<=k)/\(∀g j e,S.ent g j=some e->e.live=true->¬EB w e (ι g j) k)/\X≠some k)(hnd:fs.Nodup) :
  t7 Γ F (L3 ι grp sv) (S.lay grp [.deep false e sz n rows]) a w'/\RC w' F (S.lay grp [.deep false e sz n rows]).D (L3 ι grp sv) (.own grp 0 sz 0 n) sv:=by
 have hs:G9 w w' F:=a0S fun g hF=>hgr.block g (h.F1 g hF) fun q=>(hX g q.symm).1 hF
 have hlt:=hbl.lt;have hbl':BL w' F rows.flatten flat fs:=hbl.mono hs (fun _ x=>x) fun k hk=>hgr.block k (hlt k hk) fun q=>(hfs k hk).2.2.2 q.symm
 have hkl:∀{D:Nat->Prop} {ι:Nat->Nat->Value},KL w' F D ι rows.flatten flat fs:=hbl'.kl
 have hEB:∀k,EB w' (.deep false e sz n rows) sv k->(X=some k\/w.heap.size<=k)\/k∈fs:=by
  intro k hk;rcases List.mem_append.1 ((EB.deep_iff (D:=fun _=>True) (ι:=fun _ _=>.nilFunc) hown hkl).1 hk) with q|q
  ·exact .inl (hsv k (P6.1 q))
  ·exact .inr q
 have h':=h.world2 hgr hX;have hback:∀{g' j' e' k},S.ent g' j'=some e'->e'.live=true->EB w' e' (ι g' j') k->EB w e' (ι g' j') k:=fun he' hl' hk' =>
  (h.ents _ _ _ he').back (fun k q=>hgr.block k (h.lt he' hl' q) fun z=>(hX k z.symm).2.2 _ _ _ he' hl' q) hk'
 refine ⟨h'.lay hgl hn (fun g j q=>a9d q) ?_ ?_ ?_ ?_,RC.wholeO (a0A hgl) O1 hown⟩
 ·intro j e1 he;cases j with
  | succ j=>simp at he
  | zero =>
   simp at he;subst he;rw [O1];refine ⟨flat,fs,hown,hkl,hlen,hl,e9S.2 ⟨b81 sv,hnd,?_⟩,fun _=>G7.of_flat hbl.noRef⟩;intro k hk k' hk' hkk;subst hkk;rcases hsv k (P6.1 hk) with q|q
   ·exact (hfs k hk').2.2.2 q
   ·have:=hlt k hk';omega
 ·intro j e1 k he hl1 hk;rw [O1] at hk;cases j with
  | succ j=>simp at he
  | zero =>
   simp at he;subst he;rcases hEB k hk with (q|q)|q
   ·exact ⟨(hX k q).1,(hX k q).2.1⟩
   ·refine ⟨fun hF => ?_,.inr (Nat.le_trans h.kept.size q)⟩;have:=h.F1 k hF;omega
   ·exact ⟨(hfs k q).1,(hfs k q).2.1⟩
 ·intro j e1 j' e1' k he he' _ _ _ _;cases j<;>cases j'<;>simp_all
 ·intro j e1 g' j' e' k he he' _ hl' hk hk';rw [O1] at hk;cases j with
  | succ j=>simp at he
  | zero =>
   simp at he;subst he;have hk2:=hback he' hl' hk';rcases hEB k hk with (q|q)|q
   ·exact (hX k q).2.2 g' j' e' he' hl' hk2
   ·have:=h.lt he' hl' hk2;omega
   ·exact (hfs k q).2.2.1 g' j' e' he' hl' hk2
def a84:V->V
 | .osl .. | .dsl .. => .bot
 | v=>v
theorem KL.holes:∀{vs:List V} {cs:List Value} {f:List Nat} {D:Nat->Prop} {ι:Nat->Nat->Value},KL w F D ι vs cs f->vs.all (fun v => !v.isRef)=true->KL w F D ι (vs.map a84) cs []
 | _,_,_,_,_,.nil,_=>.nil
 | _,_,_,D,ι,.cons v c f vs cs fs h t,hv=>by
  simp only [List.all_cons,e9N] at hv;have h1:KC w F D ι (a84 v) c []:=by
   have hone:=h.one;cases h with
   | rc h =>
    have:a84 v=v:=by
     cases h with
     | fv v c h=>cases h<;>rfl
     | _=>rfl
    rw [this];exact .rc _ _ h
   | bc _ h=>cases h with
    | fv _ _ h =>
     have:a84 v=v:=by cases h<;>rfl
     rw [this];exact .rc _ _ (.fv _ _ h)
    | _=>exact .rc _ _ (.fv _ _ (.bot _ hone))
  exact .cons _ _ [] _ _ [] h1 (KL.holes t hv.2)
def b2W(cx:Cx)(grp ty:Nat)(x:V)(r:List V):j7 A9 :=
 match cx.T ty with
 | none=>j7.no
 | some ti=>match x with
  | .eptr g j sz idx off=>j7.bind (j7.rd g j) fun e=>match e with
   | .deep _ t sz' n rows =>
    let m:=if ti.agg then ti.size else 1
    let y:=J7 grp 0 ((r.drop off).take m);if sz'=sz/\off+m<=sz/\((r.drop off).take m).all (fun v => !v.isRef) then
     match Q8 ti y.1 with
     | some v=>j7.pure {v:=v,new:=some y.2,upd:=[((g,j),.deep true t sz n (rows.set idx (A0 r off (((r.drop off).take m).map a84))))],obl:=[rows[idx]?=some r]}
     | none=>j7.no
    else j7.no
   | _=>j7.no
  | _=>j7.no
set_option maxHeartbeats 800000 in
theorem e6W(h:t7 Γ F ι S a w){grp:Nat}(hg:grp<S.h.length)(hn:¬S.D grp){ob:Oper}{ty:Nat}{x:Operand}{r:List V}(ho:ob.op=.load ty x){out:A9}{lg:List (Nat×Nat)}(hp:b2W cx grp ty (s8 S.t x) r S.ent=some (out,lg))(hob:∀p∈out.obl,p):S7 cx.P Γ ι S grp ob out a w:=by
 have hx:=C9 h.tmps x;unfold b2W at hp;cases hti:cx.T ty with
 | none=>rw [hti] at hp;cases hp
 | some ti =>
 rw [hti] at hp;obtain ⟨i,d,z,htf⟩:=cx.tf hti;generalize s8 S.t x=xv at hp hx;cases xv<;>try (cases hp;done)
 case eptr g j sz idx off =>
  obtain ⟨hD,b,hι,hc⟩:=hx.inv_eptr;obtain ⟨e,l1,l2,hrd,hp',hl12⟩:=j7.bind_some hp;clear hp;have he:=(j7.rd_some hrd).1;simp only at he;cases e<;>try (cases hp';done)
  rename_i o t sz' n rows;simp only at hp';obtain ⟨m,hm⟩:∃m,(if ti.agg=true then ti.size else 1)=m:=⟨_,rfl⟩
  rw [hm] at hp';split at hp'<;>try (cases hp';done)
  rename_i hcond;obtain ⟨rfl,hc1,hc2⟩:=hcond;obtain ⟨y,hy⟩:∃y,J7 grp 0 ((r.drop off).take m)=y:=⟨_,rfl⟩
  rw [hy] at hp';cases hrv:Q8 ti y.1 with
  | none=>rw [hrv] at hp';cases hp'
  | some v =>
  rw [hrv] at hp';have:=j7.pure_some hp';injection this with h2 h3;subst h2;have hr:rows[idx]?=some r:=hob _ (by simp);obtain ⟨flat,fs,hor,hkl,hrn,hl,hnd,hnr⟩:=h.ents g j _ he;obtain ⟨hseg,hmid,hle⟩:=c2u hor hrn hl hι hr hc1;have hrl:=hl r (e9W hr);have hml:((r.drop off).take m).length=m:=by simp;omega
  have hgg:g≠grp:=fun q=>hn (q▸hD)
  obtain ⟨k,hk⟩:∃k,idx*sz'+off=k:=⟨_,rfl⟩
  rw [hk] at hseg hmid hle;obtain ⟨fa,fm,fb,rfl,ka,km,kb⟩:=hkl.cut (k:=k) (m:=m) hle;rw [hmid] at km;have hbl:=km.toBL hc2;have hds:(flat.drop k).take m=((flat.drop k).take m):=rfl;have hflen:flat.length=rows.flatten.length:=hkl.len.symm;have hspl:∀us:List V,us.length=m->(rows.set idx (A0 r off us)).flatten=rows.flatten.take k++(us++rows.flatten.drop (k+m)):=by
   intro us hus;rw [a8s hl hr (by omega),hk];unfold A0;rw [hus,e9Y]
  have hfs:flat=flat.take k++((flat.drop k).take m++flat.drop (k+m)):=by
   rw [<-f1a,f0s,f0s]
  have hrl':∀us:List V,us.length=m->∀q∈rows.set idx (A0 r off us),q.length=sz':=by
   intro us hus q hq;rcases List.mem_or_eq_of_mem_set hq with hq|rfl
   ·exact hl q hq
   ·rw [a2V _ _ _ (by omega)];exact hrl
  have hnd2:(D2 (ι g j)++(fa++fb)).Nodup:=List.Nodup.sublist (f1l.append_left (f1l.append_left (f04 _ _) _) _) hnd;have hndm:fm.Nodup:=(e9S.1 (e9S.1 (e9S.1 hnd).2.1).2.1).1;have hdm:∀k∈fm,k ∉ D2 (ι g j)++(fa++fb):=by
   intro q hq hq';have hp:=(a73 (C:=D2 (ι g j)) (a73 (C:=fa) (f09.refl (fm++fb)))).nodup_iff.1 hnd;exact (e9S.1 hp).2.2 q hq q hq' rfl
  obtain ⟨us0,hus0⟩:∃us:List V,us=((r.drop off).take m).map a84:=⟨_,rfl⟩
  have hus0l:us0.length=m:=by rw [hus0,f0D,hml]
  have kl0:∀{D':Nat->Prop} {ι':Nat->Nat->Value},(∀k,S.D k->D' k)->(∀g j,S.D g->ι' g j=ι g j)->∀{us:List V},us.length=m->KL w F D' ι' us ((flat.drop k).take m) []->KL w F D' ι' (rows.set idx (A0 r off us)).flatten flat (fa++([]++fb)):=by
   intro D' ι' h1 h2 us hus hku;rw [hspl us hus,hfs];have l1:(flat.take k).length=k:=by simp;omega
   have e1:(flat.take k++((flat.drop k).take m++flat.drop (k+m)))=flat:=hfs.symm;exact (ka.mono (fun _ _ _=>rfl) (fun _ x=>x) h1 h2 (fun _ _=>rfl)).app (hku.app (kb.mono (fun _ _ _=>rfl) (fun _ x=>x) h1 h2 (fun _ _=>rfl)))
  have hmem0:∀q,q∈D2 (ι g j)++(fa++([]++fb))->q∈D2 (ι g j)++(fa++(fm++fb)):=by
   intro q hq;simp only [List.mem_append,List.not_mem_nil,false_or] at hq ⊢;rcases hq with x|x|x<;>simp [x]
  have rel1:t7 Γ F ι (S.setE g j (.deep true t sz' n (rows.set idx (A0 r off us0)))) a w:=by
   have k1:=kl0 (D':=S.D) (ι':=ι) (fun _ x=>x) (fun _ _ _=>rfl) hus0l (hus0▸km.holes hc2);refine h.write he rfl ⟨rfl,rfl,rfl⟩ rfl (fun _ _=>rfl) (fun _ => ?_) ?_
   ·exact ⟨flat,_,hor,k1.mono (fun _ _ _=>rfl) (fun _ x=>x) (fun k x=>P5.2 x) (fun _ _ _=>rfl) (fun _ _=>rfl),by simpa using hrn,hrl' _ hus0l,by simpa using hnd2,fun q=>by cases q⟩
   ·intro q hq;exact (EB.deep_iff hor hkl).2 (hmem0 q ((EB.deep_iff hor k1).1 hq))
  have he1:(S.setE g j (.deep true t sz' n (rows.set idx (A0 r off us0)))).ent g j=some (.deep true t sz' n (rows.set idx (A0 r off us0))):=by rw [O5 he];simp
  obtain ⟨bs,hbsl,hhas,hth⟩:=a6O (grp:=grp) hbl 0;rw [hy] at hbsl hhas hth;obtain ⟨ι',hι'⟩:∃ι',ι'=a4g ι grp bs:=⟨_,rfl⟩
  have hne:∀g j,g≠grp->ι' g j=ι g j:=fun g j q=>by rw [hι'];exact b9d q
  have hlenS:grp<(S.setE g j (.deep true t sz' n (rows.set idx (A0 r off us0)))).h.length:=by rw [b0o];exact hg
  have hnD:¬(S.setE g j (.deep true t sz' n (rows.set idx (A0 r off us0)))).D grp:=fun q=>hn (P5.1 q)
  have hDg:=a0A (S:=S.setE g j (.deep true t sz' n (rows.set idx (A0 r off us0)))) (new:=y.2) hlenS;obtain ⟨hrc,hlie⟩:=hth ((S.setE g j (.deep true t sz' n (rows.set idx (A0 r off us0)))).lay grp y.2).D ι' hDg (fun q c hq=>by rw [hι',f0v];exact a4F hq) hndm;have hvb:∀(q:Nat) (e:s6),y.2[q]?=some e->bs[q]?=some (ι' grp q):=by
   intro q e hq;have hlt:q<bs.length:=by rw [hbsl];exact (e9P.1 hq).1
   have hv:ι' grp q=bs[q]:=by rw [hι'];exact a4F (e9K hlt)
   rw [hv];exact e9K hlt
  have hmB:∀k∈fm,EB w (.deep o t sz' n rows) (ι g j) k:=fun k hk=>(EB.deep_iff hor hkl).2 (by simp [hk])
  have k1:=kl0 (D':=S.D) (ι':=ι) (fun _ x=>x) (fun _ _ _=>rfl) hus0l (hus0▸km.holes hc2);have rel2:=rel1.lay hlenS hnD (new:=y.2) (ι':=ι') hne (fun q e he=>hlie q e _ he (hvb q e he))
   (fun q e k he hl hk=>h.sep _ _ _ k ‹S.ent g j=some (.deep o t sz' n rows)› rfl (hmB k (hhas.mem he (hvb q e he) hk)))
   (fun q e q' e' k he he' hl hl' hk hk'=>hhas.inj hndm he (hvb q e he) hk he' (hvb q' e' he') hk')
   (fun q e g' j' e' k he0 he' hl hl' hk hk'=>by
    have hkm:=hhas.mem he0 (hvb q e he0) hk;rw [O5 he] at he';split at he'
    ·rename_i qq;obtain ⟨rfl,rfl⟩:=qq;injection he' with he';subst he';exact hdm k hkm (by simpa using (EB.deep_iff hor k1).1 hk')
    ·rename_i qq;exact qq (h.inj _ _ _ _ _ _ k he' he hl' rfl hk' (hmB k hkm)))
  have he2:((S.setE g j (.deep true t sz' n (rows.set idx (A0 r off us0)))).lay grp y.2).ent g j=some (.deep true t sz' n (rows.set idx (A0 r off us0))):=by rw [a7h hgg];exact he1
  obtain ⟨c,hrd',hvc⟩:=a5S hrc hrv;refine ⟨_,c,w,F,ι',a5m ho htf (by rw [hc,hk]) hseg hrd',.inl rfl,?_⟩;have hput:=rel2.put ob.dst hvc;rw [hus0] at hput;exact hput
theorem t7.shut(h:t7 Γ F ι S a w){g j t sz n:Nat}{o:Bool}{rows:List (List V)}(he:S.ent g j=some (.deep o t sz n rows))(hn:G7 rows):t7 Γ F ι (S.setE g j (.deep false t sz n rows)) a w:=by
 refine h.write he rfl ⟨rfl,rfl,rfl⟩ rfl (fun _ _=>rfl) (fun _ => ?_) (fun k hk=>hk);obtain ⟨flat,fs,q1,q2,q3,q4,q5,q6⟩:=h.ents g j _ he;exact ⟨flat,fs,q1,q2.mono (fun _ _ _=>rfl) (fun _ x=>x) (fun k x=>P5.2 x) (fun _ _ _=>rfl) (fun _ _=>rfl),q3,q4,q5,fun _=>hn⟩
theorem c3a{g j:Nat}:∀{us:List N5} {S:St} {e:s6},S.ent g j=some e->∃e',(S.upds us).ent g j=some e'
 | [],_,e,h=>⟨e,h⟩
 | ((g',j'),e')::us,S,e,h=>by
  cases hx:S.ent g' j' with
  | none =>
   have:(S.setE g' j' e').ent g j=some e:=by
    by_cases q:g=g'/\j=j'
    ·rw [q.1,q.2,hx] at h;cases h
    ·rw [a5b q];exact h
   exact c3a (us:=us) (S:=S.setE g' j' e') this
  | some e0 =>
   have:∃e1,(S.setE g' j' e').ent g j=some e1:=by
    rw [O5 hx];split
    ·exact ⟨_,rfl⟩
    ·exact ⟨e,h⟩
   obtain ⟨e1,h1⟩:=this;exact c3a (us:=us) (S:=S.setE g' j' e') h1
def b1F(cx:Cx)(ty:Nat)(x y:V)(r:List V)(ck om:List (Option Nat)):j7 A9 :=
 j7.bind (a9i cx ty x y r ck om) fun o=>match o.new,o.upd.reverse with
  | none,((g,j),.deep b t sz n rows)::us=>j7.bind (j7.rd g j) fun _=>j7.pure {v:=o.v,upd:=o.upd++[((g,j),.deep false t sz n rows)],obl:=G7 rows::o.obl}
  | _,_=>j7.no
theorem d4w{S:St}{g j:Nat}{e:s6}{t:List V}:({S with t:=t}:St).setE g j e={S.setE g j e with t:=t}:=by
 unfold St.setE;cases S.h[g]? with
 | none=>rfl
 | some o=>cases o<;>rfl
theorem d98(h:t7 Γ F ι S a w){grp:Nat}{ob:Oper}{ty:Nat}{x y:Operand}{r:List V}{ck om:List (Option Nat)}(ho:ob.op=.store ty x y)(hd:ob.dst=none){out:A9}{lg:List (Nat×Nat)}(hp:b1F cx ty (s8 S.t x) (s8 S.t y) r ck om S.ent=some (out,lg))(hob:∀p∈out.obl,p):S7 cx.P Γ ι S grp ob out a w:=by
 unfold b1F at hp;obtain ⟨o,l1,l2,hd1,hp',_⟩:=j7.bind_some hp;clear hp;simp only at hp';cases hnew:o.new with
 | some _=>rw [hnew] at hp';cases hp'
 | none =>
 rw [hnew] at hp';cases hrev:o.upd.reverse with
 | nil=>rw [hrev] at hp';cases hp'
 | cons u us =>
 rw [hrev] at hp';obtain ⟨⟨g,j⟩,e⟩:=u;cases e<;>try (cases hp';done)
 rename_i b t sz n rows;simp only at hp';obtain ⟨e0,l3,l4,hrd,hp'',_⟩:=j7.bind_some hp';have he0:=(j7.rd_some hrd).1;simp only at he0;have:=j7.pure_some hp'';injection this with h2 h3;subst h2;have hnr:G7 rows:=hob _ (by simp);obtain ⟨nx,c,w',F',ι',hrun,hnx,hrel⟩:=c6S h (grp:=grp) ho hd hd1 (fun p hp=>hob p (by simp [hp]));refine ⟨nx,c,w',F',ι',hrun,hnx,?_⟩;have hu:o.upd=us.reverse++[((g,j),.deep b t sz n rows)]:=by
  have:=congrArg List.reverse hrev;simpa using this
 have happ:S.apply grp ob.dst o={S.upds o.upd with t:=Q3 S.t ob.dst o.v}:=by
  unfold St.apply;rw [hnew];simp only [St.upds_t]
 rw [happ] at hrel;have hent:({S.upds o.upd with t:=Q3 S.t ob.dst o.v}:St).ent g j=some (.deep b t sz n rows):=by
  show (S.upds o.upd).ent g j=_
  rw [hu,St.upds_append];obtain ⟨e1,he1⟩:=c3a (us:=us.reverse) he0;show ((S.upds us.reverse).setE g j _).ent g j=_
  rw [O5 he1];simp
 have hs:=hrel.shut hent hnr;rw [d4w] at hs;unfold St.apply;simp only [St.upds_append,St.upds_t];exact hs
def b15(cx:Cx)(grp ty len:Nat)(parts:List (Nat×V))(ck om:List (Option Nat)):j7 A9 :=
 match cx.T ty with
 | some ti=>match ti.sl with
  | some e=>match cx.T e with
   | some ei=>match parts with
    | [(0,x)]=>match x.cells with
     | some cs=>j7.bind (a1F ck om cs) fun f =>
      if len=1/\cs.length=ei.size/\ei.zero.length=ei.size/\0<ei.size/\ei.size<=16777216/\a2q f.ks=true/\f.ls.isEmpty=true then
       j7.pure {v:=.own grp 0 ei.size 0 1,new:=some [.deep false e ei.size 1 [f.v]],upd:=E6 f.ks,obl:=f.obl}
      else j7.no
     | none=>j7.no
    | [] =>
     if len=0/\ei.zero.length=ei.size/\0<ei.size/\ei.size<=16777216 then
      j7.pure {v:=.own grp 0 ei.size 0 0,new:=some [.deep false e ei.size 0 []]}
     else j7.no
    | _=>j7.no
   | none=>j7.no
  | none=>j7.no
 | none=>j7.no
theorem d5A{u:Value}{ds:Array Value}{sz:Nat}(hu:u.cells.size=sz)(hd:ds.size=sz):∃es:Array Value,Instr.fill (fun i=>some (i*sz,sz)) ds [(0,u)]=some es/\es.toList=u.cells.toList:=by
 have hout:=c2M u.cells.toList 0 (0*sz) ds (by simp only [Array.length_toList];omega);refine ⟨u.cells.toList.zipIdx.foldl (fun (cs:Array Value) (x:Value×Nat)=>cs.setIfInBounds (0*sz+x.2) x.1) ds,?_,?_⟩
 ·have hcond':(u.cells.size≠sz||0*sz+u.cells.size>ds.size)=false:=by
   simp [hu];omega
  simp only [Instr.fill,hcond'];simp only [f0L,if_false];congr 1
  rw [<-Array.foldl_toList,Array.toList_zipIdx]
 ·rw [hout,Nat.zero_mul,f00,c43];simp only [Array.length_toList];omega
theorem e8g(h:t7 Γ F ι S a w){grp:Nat}(hg:grp<S.h.length)(hn:¬S.D grp){ob:Oper}{ty len:Nat}{parts:Array (Nat×Operand)}{ck om:List (Option Nat)}(ho:ob.op=.buildSlice ty len parts){out:A9}{lg:List (Nat×Nat)}(hp:b15 cx grp ty len (parts.toList.map fun (i,x)=>(i,s8 S.t x)) ck om S.ent=some (out,lg))(hob:∀p∈out.obl,p):S7 cx.P Γ ι S grp ob out a w:=by
 unfold b15 at hp;cases hti:cx.T ty with
 | none=>rw [hti] at hp;cases hp
 | some ti =>
 rw [hti] at hp;simp only at hp;cases hsl:ti.sl with
 | none=>rw [hsl] at hp;cases hp
 | some e =>
 rw [hsl] at hp;simp only at hp;cases hei:cx.T e with
 | none=>rw [hei] at hp;cases hp
 | some ei =>
 rw [hei] at hp;simp only at hp;have hrel:=b9B h.tmps parts.toList;generalize hpl:(parts.toList.map fun (i,x)=>(i,s8 S.t x))=pl at hp hrel;generalize hql:(parts.toList.map fun (i,x)=>(i,a.eval x))=ql at hrel;cases hrel with
 | nil =>
  simp only at hp;split at hp<;>try (cases hp;done)
  rename_i hcond;obtain ⟨rfl,hc2,hc3,hc4⟩:=hcond;have:=j7.pure_some hp;injection this with h3 h4;subst h3;obtain ⟨ti',d,z,htf⟩:=cx.tf hti;obtain ⟨ti2,d',z',hef⟩:=cx.tf hei;obtain rfl:=htf.isSl hsl;have hmd:(madeCells z'.cells (0*ei.size)) = #[]:=by simp [madeCells]
  have hrun:(execOp a.eval ob).run cx.P w=.ok (.value (.slice (some ⟨w.heap.size,0,none⟩) 0 0)) (w.alloc (.cells #[] e)):=by
   have:=b8U (w:=w) (len:=0) htf rfl hef (by omega) (qs:=parts.map fun (i,x)=>(i,a.eval x)) (es := #[]) (by rw [Array.toList_map,hql,hmd];rfl);simp [execOp,ho,this]
  have hgr:=a4r w (.cells #[] e);have hown:(w.alloc (.cells #[] e)).ownsRow 0 e ei.size (.slice (some ⟨w.heap.size,0,none⟩) 0 0) 0 [] :=
   ⟨by simp,.inr ⟨w.heap.size,0,#[],rfl,f08 _,a7z w _,f0d _,by simp,by simp,by simp⟩⟩
  obtain ⟨r1,r2⟩:=h.layDeep hg hn hgr (fun k q=>by cases q) (rows:=[]) (sv:=.slice (some ⟨w.heap.size,0,none⟩) 0 0) hown (show BL w F [].flatten [] [] from .nil) rfl (by simp) (by intro k hk;simp [A8] at hk;exact .inr (by omega)) (by simp) .nil;exact ⟨_,_,_,F,L3 ι grp (.slice (some ⟨w.heap.size,0,none⟩) 0 0),hrun,.inl rfl,r1.put ob.dst (.cell r2)⟩
 | @cons p q pl ql hpq ht =>
 obtain ⟨i,x⟩:=p;obtain ⟨i',u⟩:=q;obtain ⟨hii,hxu⟩:=hpq;simp only at hii hxu;subst hii;cases ht with
 | cons _ _=>cases i<;>cases hp
 | nil =>
 cases i with
 | succ i=>cases hp
 | zero =>
 simp only at hp;cases hcs:x.cells with
 | none=>rw [hcs] at hp;cases hp
 | some cs =>
 rw [hcs] at hp;obtain ⟨f,l1,l2,hf,hp',_⟩:=j7.bind_some hp;clear hp;split at hp'<;>try (cases hp';done)
 rename_i hcond;obtain ⟨rfl,hc1,hc2,hc3,hc4,hc5,hc6⟩:=hcond;have:=j7.pure_some hp';injection this with h3 h4;subst h3;obtain ⟨ti',d,z,htf⟩:=cx.tf hti;obtain ⟨ti2,d',z',hef⟩:=cx.tf hei;obtain rfl:=htf.isSl hsl;have hrc:=hxu.cells hcs;obtain ⟨fp,hbl,hfps,hh⟩:=b0C (F1:=F) h (fun _ x=>x) hrc hf hob (by rw [List.isEmpty_iff.1 hc6];intro id hid;cases hid);have hul:u.cells.size=ei.size:=by rw [<-hc1,hrc.length];simp
 have hzs:z'.cells.size=ei.size:=by rw [<-hc2,<-hef.zeros];simp
 have hmd:(madeCells z'.cells (1*ei.size)).size=ei.size:=by simp [madeCells]
 obtain ⟨es,hfill,hes⟩:=d5A (u:=u) (ds:=madeCells z'.cells (1*ei.size)) hul hmd;have hel:es.size=1*ei.size:=by
  have:=congrArg List.length hes;simp only [Array.length_toList] at this;omega
 have hrun:(execOp a.eval ob).run cx.P w=.ok (.value (.slice (some ⟨w.heap.size,0,none⟩) 1 1)) (w.alloc (.cells es e)):=by
  have:=b8U (w:=w) (len:=1) htf rfl hef (by omega) (qs:=parts.map fun (i,x)=>(i,a.eval x)) (es:=es) (by rw [Array.toList_map,hql];exact hfill);simp [execOp,ho,this]
 have hgr:=a4r w (.cells es e);have hown:(w.alloc (.cells es e)).ownsRow 0 e ei.size (.slice (some ⟨w.heap.size,0,none⟩) 1 1) 1 u.cells.toList:=by
  refine ⟨by simp only [Array.length_toList];omega,.inr ⟨w.heap.size,1,es,rfl,f08 _,a7z w _,f0d _,by unfold maxLen;omega,hel,?_⟩⟩;rw [hes,f0g (by simp only [Array.length_toList];omega)]
 have hkl:=h.killsR (fun id hid=>(hfps.live id hid).imp fun _ x=>x.1);have hnd:=L1.nodup h hfps (a4S hc5);have hgk:grp<(S.upds (E6 f.ks)).h.length:=by rw [St.upds_len];exact hg
 have hnk:¬(S.upds (E6 f.ks)).D grp:=fun q=>hn ((Z5 S grp _).1 q)
 obtain ⟨r1,r2⟩:=hkl.layDeep hgk hnk hgr (fun k q=>by cases q) (rows:=[f.v]) (sv:=.slice (some ⟨w.heap.size,0,none⟩) 1 1) hown (by simpa using hbl) rfl (by
   intro r hr;rw [e9Q.1 hr,hbl.len];simp only [Array.length_toList];exact hul) (by intro k hk;simp [A8] at hk;exact .inr (by omega)) (by
   intro k hk;obtain ⟨id,hid,e1,he1,hl1,hk1⟩:=hfps.mem hk;obtain ⟨x1,x2⟩:=h.sep _ _ _ k he1 hl1 hk1;refine ⟨x1,x2,?_,by simp⟩;intro g' j' e' he' hl' hk';rcases a9N _ he' with ⟨_,rfl⟩|⟨hni,he2⟩
   ·cases hl'
   ·obtain ⟨y1,y2⟩:=h.inj _ _ _ _ _ _ k he2 he1 hl' hl1 hk' hk1;exact hni (by rw [y1,y2];exact hid)) hnd
 exact ⟨_,_,_,F,L3 ι grp (.slice (some ⟨w.heap.size,0,none⟩) 1 1),hrun,.inl rfl,r1.put ob.dst (.cell r2)⟩
def b2n(cx:Cx)(grp ty:Nat)(s x:V):j7 A9 :=
 match cx.T ty with
 | some ti=>match ti.sl with
  | some e=>match cx.T e with
   | some ei=>match x with
    | .own g2 j2 sz2 0 m=>j7.bind (j7.rd g2 j2) fun e2=>match e2 with
     | .deep false t2 sz2' m' rows2 =>
      if t2=e/\sz2=ei.size/\sz2'=ei.size/\0<ei.size/\0<ei.bytes/\ei.zero.length=ei.size/\0<m' then
       match s with
       | .nil=>j7.pure {v:=.own grp 0 ei.size 0 m',new:=some [.deep false e ei.size m' rows2],upd:=E6 [(g2,j2)],obl:=[m=m',m'*ei.bytes<=140737488355328]}
       | .own g j sz 0 n=>j7.bind (j7.rd g j) fun e1=>match e1 with
        | .deep false t sz' n' rows =>
         if t=e/\sz=ei.size/\sz'=ei.size/\a2q [(g,j),(g2,j2)]=true then
          j7.pure {v:=.own grp 0 ei.size 0 (n'+m'),new:=some [.deep false e ei.size (n'+m') (rows++rows2)],upd:=E6 [(g,j),(g2,j2)],obl:=[n=n',(n'+m')*ei.bytes<=140737488355328,m=m']}
         else j7.no
        | _=>j7.no
       | _=>j7.no
      else j7.no
     | _=>j7.no
    | _=>j7.no
   | none=>j7.no
  | none=>j7.no
 | none=>j7.no
theorem c0s{g j sz n e sz':Nat}{c:Value}{flat:List Value}(hs:RV w F S.D ι (.own g j sz 0 n) c)(hown:w.ownsRow 0 e sz' (ι g j) n flat):c=ι g j:=by
 obtain ⟨hD,⟨b,nn,cap,hι,hlo,hb0,hb1,hc⟩|⟨hl0',_⟩⟩:=hs.inv_own;case inr=>omega
 rcases hown.2 with ⟨hv,hz⟩|⟨g0,cap0,cur,hv,_⟩
 ·rw [hι] at hv;injection hv with e1 e2 e3;subst e1;subst e2;subst e3;subst hz;rw [hc,hι];simp
 ·rw [hι] at hv;injection hv with e1 e2 e3;subst e1;subst e2;subst e3;rw [hc,hι];by_cases q:cap=0
  ·simp [q]
  ·simp [q,Addr.add]
theorem c32{P:Program}{ty e:Nat}{ti ei:TI}{i i':TypeInfo}{d d':TypeDesc}{z z':Value}(htf:TF P ty ti i d z)(hd:d=.slice e)(hef:TF P e ei i' d' z')(h0:0<ei.size)(hb0:0<ei.bytes)(hzl:ei.zero.length=ei.size){sv sv2:Value}{n m:Nat}{flat flat2:List Value}(hown:w.ownsRow 0 e ei.size sv n flat)(hown2:w.ownsRow 0 e ei.size sv2 m flat2)(hm:0<m)(hone:∀u∈flat2,u.oneCell'=true)(hb:(n+m)*ei.bytes<=140737488355328)(rt:Nat) :
  ∃v' w',(Builtin.append_ #[ty,ty] rt #[sv,sv2]).run P w=.ok v' w'/\w'.ownsRow 0 e ei.size v' (n+m) (flat++flat2)/\w.grownBy w' sv.ownBlock/\(v'.ownBlock=sv.ownBlock\/v'.ownBlock=some w.heap.size):=by
 subst hd;have hzs:z'.cells.size=ei.size:=by rw [<-hzl,<-hef.zeros];simp
 have hm63:n+m<=maxLen:=by
  have:n+m<=140737488355328:=Nat.le_trans (f0W _ hb0) hb;unfold maxLen;omega
 rcases hown2.2 with ⟨_,q⟩|⟨g2,cap2,cur2,rfl,_,hg2,hnc2,_,hcs2,ht2⟩
 ·omega
 ·have hseg:N3 w g2 0 flat2:=by
   rw [<-ht2];have:=(a5Y hg2 0).take (m*ei.size);simpa using this
  obtain ⟨v',w',h1,h2,h3,_,h5⟩:=run_append_own_at (P:=P) w 0 ty rt e i' z' ei.size ei.bytes htf.und hef.info hef.zero hef.size hef.bytes hzs h0 sv n flat hown ⟨g2,0,none⟩ m cap2 flat2 hown2.1 (by
   intro j u hu;rw [a2j];exact hseg j u hu) hone hm63 hb (f08 _)
  exact ⟨v',w',h1,h2,h3,h5⟩
theorem BL.ones:∀{vs:List V} {cs:List Value} {f:List Nat},BL w F vs cs f->∀u∈cs,u.oneCell'=true
 | _,_,_,.cons v c f vs cs fs h t,u,hu=>by
  rcases e9R.1 hu with rfl|hu
  ·exact h.one
  ·exact BL.ones t u hu
theorem BL.app:∀{vs vs':List V} {cs cs':List Value} {f f':List Nat},BL w F vs cs f->BL w F vs' cs' f'->BL w F (vs++vs') (cs++cs') (f++f')
 | _,_,_,_,_,_,.nil,k=>k
 | _,_,_,_,_,_,.cons v c f vs cs fs h t,k=>by
  rw [e9Y];exact .cons v c f _ _ _ h (BL.app t k)
theorem e08(h:t7 Γ F ι S a w){grp:Nat}(hg:grp<S.h.length)(hn:¬S.D grp){ob:Oper}{ty:Nat}{s x:Operand}(ho:ob.op=.call {callee:=.builtin .append,args := #[s,x],argTypes := #[ty,ty]}){out:A9}{lg:List (Nat×Nat)}(hp:b2n cx grp ty (s8 S.t s) (s8 S.t x) S.ent=some (out,lg))(hob:∀p∈out.obl,p):S7 cx.P Γ ι S grp ob out a w:=by
 have hs:=C9 h.tmps s;have hx:=C9 h.tmps x;unfold b2n at hp;cases hti:cx.T ty with
 | none=>rw [hti] at hp;cases hp
 | some ti =>
 rw [hti] at hp;simp only at hp;cases hsl:ti.sl with
 | none=>rw [hsl] at hp;cases hp
 | some e =>
 rw [hsl] at hp;simp only at hp;cases hei:cx.T e with
 | none=>rw [hei] at hp;cases hp
 | some ei =>
 rw [hei] at hp;simp only at hp;obtain ⟨i,d,z,htf⟩:=cx.tf hti;obtain ⟨i',d',z',hef⟩:=cx.tf hei;have hd:=htf.isSl hsl;generalize s8 S.t s=sv at hp hs;generalize s8 S.t x=xv at hp hx;cases xv<;>try (cases hp;done)
 rename_i g2 j2 sz2 lo2 m;cases lo2 with
 | succ q=>cases hp
 | zero =>
 simp only at hp;obtain ⟨e2,l1,l2,hrd2,hp',_⟩:=j7.bind_some hp;clear hp;have he2:=(j7.rd_some hrd2).1;simp only at he2;cases e2<;>try (cases hp';done)
 rename_i o2 t2 sz2' m' rows2;cases o2 with
 | true=>cases hp'
 | false =>
 simp only at hp';split at hp'<;>try (cases hp';done)
 rename_i hcond;obtain ⟨rfl,rfl,rfl,hc3,hc4,hc5,hc6⟩:=hcond;obtain ⟨flat2,fs2,hown2,hkl2,hlen2,hl2,hnd2,hnr2⟩:=h.ents g2 j2 _ he2;have hbl2:=hkl2.toBL (hnr2 rfl).flatB;have hin2:∀k∈D2 (ι g2 j2)++fs2,EB w (.deep false t2 ei.size m' rows2) (ι g2 j2) k:=fun k hk=>(EB.deep_iff hown2 hkl2).2 hk
 cases sv<;>try (cases hp';done)
 case nil =>
  have:=j7.pure_some hp';injection this with h3 h4;subst h3;obtain hcs:=hs.inv_nil;have hmm:m=m':=hob _ (by simp);subst hmm;have hb:m*ei.bytes<=140737488355328:=hob _ (by simp);obtain ⟨v',w',hr,hown,hgr,hat⟩:=c32 htf hd hef hc3 hc4 hc5 (World.ownsRow_nil w 0 t2 ei.size) hown2 hc6 hbl2.ones (by simpa using hb) ob.type;have hxc:=c0s hx hown2;have hrun:(execOp a.eval ob).run cx.P w=.ok (.value v') w':=by
   simp [execOp,ho,resolve,invoke,builtin,hcs,hxc,hr]
  have hkl:=h.killsR (ks:=[(g2,j2)]) (fun id hid=>by rw [e9Q.1 hid];exact ⟨_,he2⟩);have hgk:grp<(S.upds (E6 [(g2,j2)])).h.length:=by rw [St.upds_len];exact hg
  have hnk:¬(S.upds (E6 [(g2,j2)])).D grp:=fun q=>hn ((Z5 S grp _).1 q)
  simp only [f0v,f0r] at hown;obtain ⟨r1,r2⟩:=hkl.layDeep hgk hnk hgr (fun k q=>by cases q) hown hbl2 hlen2 hl2 (by
   intro k hk;rw [<-a9Q hown] at hk;rcases hat with q|q
   ·rw [q] at hk;cases hk
   ·rw [q] at hk;injection hk with hk;exact .inr (by omega)) (by
   intro k hk;have hk1:=hin2 k (List.mem_append.2 (.inr hk));obtain ⟨x1,x2⟩:=h.sep _ _ _ k he2 rfl hk1;refine ⟨x1,x2,?_,by intro q;cases q⟩;intro g' j' e' he' hl' hk';rcases a9N _ he' with ⟨_,rfl⟩|⟨hni,he3⟩
   ·cases hl'
   ·obtain ⟨y1,y2⟩:=h.inj _ _ _ _ _ _ k he3 he2 hl' rfl hk' hk1;exact hni (by rw [y1,y2];simp)) (e9S.1 hnd2).2.1
  exact ⟨_,_,_,F,L3 ι grp v',hrun,.inl rfl,r1.put ob.dst (.cell r2)⟩
 case own g j sz lo n =>
  cases lo with
  | succ q=>cases hp'
  | zero =>
  simp only at hp';obtain ⟨e1,l3,l4,hrd1,hp'',_⟩:=j7.bind_some hp';clear hp';have he1:=(j7.rd_some hrd1).1;simp only at he1;cases e1<;>try (cases hp'';done)
  rename_i o1 t1 sz1 n' rows;cases o1 with
  | true=>cases hp''
  | false =>
  simp only at hp'';split at hp''<;>try (cases hp'';done)
  rename_i hcond;obtain ⟨rfl,rfl,rfl,hnod⟩:=hcond;have:=j7.pure_some hp'';injection this with h3 h4;subst h3;have hnn:n=n':=hob _ (by simp);subst hnn;have hb:(n+m')*ei.bytes<=140737488355328:=hob _ (by simp);have hmm:m=m':=hob _ (by simp);subst hmm;obtain ⟨flat1,fs1,hown1,hkl1,hlen1,hl1,hnd1,hnr1⟩:=h.ents g j _ he1;have hbl1:=hkl1.toBL (hnr1 rfl).flatB;have hin1:∀k∈D2 (ι g j)++fs1,EB w (.deep false t1 ei.size n rows) (ι g j) k:=fun k hk=>(EB.deep_iff hown1 hkl1).2 hk
  have hne:¬(g=g2/\j=j2):=by
   have:=a4S hnod;rw [f0P] at this;intro q;exact this.1 (by rw [q.1,q.2];simp)
  obtain ⟨v',w',hr,hown,hgr,hat⟩:=c32 htf hd hef hc3 hc4 hc5 hown1 hown2 hc6 hbl2.ones hb ob.type;have hxc:=c0s hx hown2;have hsc:=c0s hs hown1;have hrun:(execOp a.eval ob).run cx.P w=.ok (.value v') w':=by
   simp [execOp,ho,resolve,invoke,builtin,hsc,hxc,hr]
  have hkl:=h.killsR (ks:=[(g,j),(g2,j2)]) (fun id hid=>by
   rcases e9R.1 hid with rfl|hid
   ·exact ⟨_,he1⟩
   ·rw [e9Q.1 hid];exact ⟨_,he2⟩)
  have hgk:grp<(S.upds (E6 [(g,j),(g2,j2)])).h.length:=by rw [St.upds_len];exact hg
  have hnk:¬(S.upds (E6 [(g,j),(g2,j2)])).D grp:=fun q=>hn ((Z5 S grp _).1 q)
  have hob1:∀k,(ι g j).ownBlock=some k->k∈D2 (ι g j):=fun k hk=>P6.2 (by rw [<-a9Q hown1];exact hk)
  have free1:∀k∈D2 (ι g j)++fs1,∀g' j' e',(S.upds (E6 [(g,j),(g2,j2)])).ent g' j'=some e'->e'.live=true->¬EB w e' (ι g' j') k:=by
   intro k hk g' j' e' he' hl' hk';rcases a9N _ he' with ⟨_,rfl⟩|⟨hni,he3⟩
   ·cases hl'
   ·obtain ⟨y1,y2⟩:=h.inj _ _ _ _ _ _ k he3 he1 hl' rfl hk' (hin1 k hk);exact hni (by rw [y1,y2];simp)
  have free2:∀k∈D2 (ι g2 j2)++fs2,∀g' j' e',(S.upds (E6 [(g,j),(g2,j2)])).ent g' j'=some e'->e'.live=true->¬EB w e' (ι g' j') k:=by
   intro k hk g' j' e' he' hl' hk';rcases a9N _ he' with ⟨_,rfl⟩|⟨hni,he3⟩
   ·cases hl'
   ·obtain ⟨y1,y2⟩:=h.inj _ _ _ _ _ _ k he3 he2 hl' rfl hk' (hin2 k hk);exact hni (by rw [y1,y2];simp)
  have hdis:∀k,k∈D2 (ι g j)++fs1->k∈D2 (ι g2 j2)++fs2->False:=by
   intro k q1 q2;obtain ⟨y1,y2⟩:=h.inj _ _ _ _ _ _ k he1 he2 rfl rfl (hin1 k q1) (hin2 k q2);exact hne ⟨y1,y2⟩
  obtain ⟨r1,r2⟩:=hkl.layDeep hgk hnk hgr (fun k q=>by
   have hk:k∈D2 (ι g j)++fs1:=List.mem_append.2 (.inl (hob1 k q));obtain ⟨x1,x2⟩:=h.sep _ _ _ k he1 rfl (hin1 k hk);exact ⟨x1,x2,free1 k hk⟩) (rows:=rows++rows2) hown (by rw [f1t];exact hbl1.app hbl2) (by rw [e9T,hlen1,hlen2]) (by
   intro r hr';rcases List.mem_append.1 hr' with q|q
   ·exact hl1 r q
   ·exact hl2 r q) (by
   intro k hk;rw [<-a9Q hown] at hk;rcases hat with q|q
   ·rw [q] at hk;exact .inl hk
   ·rw [q] at hk;injection hk with hk;exact .inr (by omega)) (by
   intro k hk;rcases List.mem_append.1 hk with q|q
   ·have hk1:k∈D2 (ι g j)++fs1:=List.mem_append.2 (.inr q);obtain ⟨x1,x2⟩:=h.sep _ _ _ k he1 rfl (hin1 k hk1);exact ⟨x1,x2,free1 k hk1,fun z=>(e9S.1 hnd1).2.2 k (hob1 k z) k q rfl⟩
   ·have hk2:k∈D2 (ι g2 j2)++fs2:=List.mem_append.2 (.inr q);obtain ⟨x1,x2⟩:=h.sep _ _ _ k he2 rfl (hin2 k hk2);exact ⟨x1,x2,free2 k hk2,fun z=>hdis k (List.mem_append.2 (.inl (hob1 k z))) hk2⟩) (by
   rw [e9S];exact ⟨(e9S.1 hnd1).2.1,(e9S.1 hnd2).2.1,fun k q k' q' z=>by
    subst z;exact hdis k (List.mem_append.2 (.inr q)) (List.mem_append.2 (.inr q'))⟩)
  exact ⟨_,_,_,F,L3 ι grp v',hrun,.inl rfl,r1.put ob.dst (.cell r2)⟩
end
structure J6 where
 a:N4:=.none
 d:Option Bool:=none
 v:Option V:=none
 e:Option s6:=none
def c03(d:Option Bool)(o:A9):Option A9 :=
 match d with
 | some d=>match o.v with
  | .b x=>some {o with v:=.b d,obl:=(x=d)::o.obl}
  | _=>none
 | none=>some o
def b8C(v:Option V)(o:A9):Option A9 :=
 match v with
 | some v=>some {o with v:=v,obl:=(o.v=v)::o.obl}
 | none=>some o
def b0v(e:s6):List ((Nat×Nat)×s6)->Option (List ((Nat×Nat)×s6)×Prop)
 | []=>none
 | [u]=>some ([(u.1,e)],u.2=e)
 | u::us=>match b0v e us with
  | some (us',p)=>some (u::us',p)
  | none=>none
def b6Q(e:Option s6)(o:A9):Option A9 :=
 match e with
 | some e=>match o.new with
  | some [e0]=>some {o with new:=some [e],obl:=(e0=e)::o.obl}
  | some _=>none
  | none=>match b0v e o.upd with
   | some (us,p)=>some {o with upd:=us,obl:=p::o.obl}
   | none=>none
 | none=>some o
def b9b(T:J6)(o:A9):Option A9 :=
 match b6Q T.e o with
 | some o1=>match b8C T.v o1 with
  | some o2=>c03 T.d o2
  | none=>none
 | none=>none
def opM(cx:Cx)(grp:Nat)(ob:Oper)(t:List V)(A:N4):j7 A9 :=
 match ob.op with
 | .alloc e=>j7.lift (b93 cx grp e)
 | .box e x=>j7.lift (b9G cx grp e (s8 t x))
 | .buildSlice ty len parts=>match A with
  | .dck ck om=>b15 cx grp ty len (parts.toList.map fun (i,x)=>(i,s8 t x)) ck om
  | A=>b24 cx grp ty len (parts.toList.map fun (i,x)=>(i,s8 t x)) A
 | .makeSlice ty l c=>match A with
  | .dck ck om=>b0X cx grp ty (s8 t l) (s8 t c) ck om
  | A=>j7.lift (b9L cx grp ty (s8 t l) (s8 t c) (e1U A))
 | .load ty x=>match A with
  | .drow r=>b0O cx grp ty (s8 t x) r
  | .prow r=>b1N cx ty (s8 t x) r
  | .dtak r=>b2W cx grp ty (s8 t x) r
  | A=>b0G cx ty (s8 t x) A
 | .store ty x y=>match ob.dst with
  | none=>match A with
   | .dst r ck om=>a9i cx ty (s8 t x) (s8 t y) r ck om
   | .dsc r ck om=>b1F cx ty (s8 t x) (s8 t y) r ck om
   | A=>b1U cx ty (s8 t x) (s8 t y) A
  | some _=>j7.no
 | .makeMap ty none=>j7.lift (c0I cx grp ty)
 | .lookup ty x ix false=>b1V cx ty (s8 t x) (s8 t ix)
 | .mapUpdate ty x ix y=>match ob.dst with
  | none=>b2h cx ty (s8 t x) (s8 t ix) (s8 t y)
  | some _=>j7.no
 | .call c=>match c.callee,c.args.toList,c.argTypes.toList with
  | .builtin .append,[s,x],[ty,ty']=>if ty=ty' then (match A with
   | .dck _ _=>b2n cx grp ty (s8 t s) (s8 t x)
   | .part=>a8J true cx grp ty (s8 t s) (s8 t x)
   | _=>a8J false cx grp ty (s8 t s) (s8 t x)) else j7.no
  | .builtin .copy,[s,x],[ty,_]=>b0A cx ty (s8 t s) (s8 t x)
  | .value fop,args,_=>match s8 t fop with
   | .fn f=>b0Y cx.P grp f (args.map (s8 t)) A
   | _=>j7.no
  | _,_,_=>j7.lift ((R5 cx ob.op t A).map fun q=>{v:=q.1,obl:=q.2})
 | _=>j7.lift ((R5 cx ob.op t A).map fun q=>{v:=q.1,obl:=q.2})
section
variable {cx:Cx} {Γ:N1} {F:Nat->Prop} {ι:Nat->Nat->Value} {S:St} {a:Act} {w:World}
def b8V(P:Program)(Γ:N1)(S':St)(ob:Oper)(a:Act)(w:World):Prop :=
 (∃nx c w' F' ι',(execOp a.eval ob).run P w=.ok nx w'/\(nx=.value c\/(nx=.skip/\c=undef))/\t7 Γ F' ι' S' (a.put ob.dst c) w')\/
 (∃f args,(execOp a.eval ob).run P w=.ok (.enter f args) w/\Calls P f args w fun e w' => ∃c F' ι',e=.returned c/\t7 Γ F' ι' S' (a.put ob.dst c) w')
theorem e3p(h:t7 Γ F ι S a w){grp:Nat}(hg:grp<S.h.length)(hn:¬S.D grp){ob:Oper}{A:N4}{out:A9}{lg:List (Nat×Nat)}(hp:opM cx grp ob S.t A S.ent=some (out,lg))(hob:∀p∈out.obl,p):b8V cx.P Γ (S.apply grp ob.dst out) ob a w:=by
 have pure:∀{op:Op} {out:A9} {lg},ob.op=op->j7.lift ((R5 cx op S.t A).map fun q=>({v:=q.1,obl:=q.2}:A9)) S.ent=some (out,lg)->(∀p∈out.obl,p)->b8V cx.P Γ (S.apply grp ob.dst out) ob a w:=by
  intro op out lg hop hp hob;subst hop;obtain ⟨h1,_⟩:=j7.lift_some hp;obtain ⟨q,hq,he⟩:=f0X.1 h1;simp only at he;subst he;obtain ⟨c,hr,hv⟩:=d9y h.tmps hq hob;exact .inl ⟨_,c,w,F,ι,hr,.inl rfl,by rw [a44];exact h.put ob.dst hv⟩
 unfold opM at hp;cases ho:ob.op;case alloc e =>
  rw [ho] at hp;exact .inl (e84 h hg hn ho (j7.lift_some hp).1 hob)
 case box e x =>
  rw [ho] at hp;exact .inl (e9i h hg hn ho (j7.lift_some hp).1)
 case buildSlice ty len parts =>
  rw [ho] at hp;cases A;case dck ck om=>exact .inl (e8g h hg hn ho hp hob)
  all_goals exact .inl (d6q h hg hn ho hp hob)
 case makeSlice ty l c =>
  rw [ho] at hp;cases A;case dck ck om=>exact .inl (d7W h hg hn ho hp hob)
  all_goals exact .inl (e2L h hg hn ho (j7.lift_some hp).1 hob)
 case load ty x =>
  rw [ho] at hp;cases A;case drow r=>exact .inl (e3Z h hg hn ho hp hob)
  case prow r=>exact .inl (e1t h ho hp hob)
  case dtak r=>exact .inl (e6W h hg hn ho hp hob)
  all_goals exact .inl (e3V h ho hp hob)
 case store ty x y =>
  rw [ho] at hp;cases hd:ob.dst with
  | some d=>rw [hd] at hp;cases hp
  | none =>
   rw [hd] at hp;have:S7 cx.P Γ ι S grp ob out a w:=by
    cases A;case dst r ck om=>exact c6S h (grp:=grp) ho hd hp hob
    case dsc r ck om=>exact d98 h (grp:=grp) ho hd hp hob
    all_goals exact e7l h (grp:=grp) ho hd hp hob
   rw [<-hd];exact .inl this
 case makeMap ty r =>
  rw [ho] at hp;cases r with
  | none=>exact .inl (e6b h hg hn ho (j7.lift_some hp).1)
  | some r=>exact pure ho hp hob
 case lookup ty x ix ok =>
  rw [ho] at hp;cases ok with
  | false=>exact .inl (e2U h ho hp)
  | true=>exact pure ho hp hob
 case mapUpdate ty x ix y =>
  rw [ho] at hp;cases hd:ob.dst with
  | some d=>rw [hd] at hp;cases hp
  | none =>
   rw [hd] at hp;have:S7 cx.P Γ ι S grp ob out a w:=d5K h (grp:=grp) ho hd hp;rw [<-hd];exact .inl this
 case call c =>
  rw [ho] at hp;obtain ⟨callee,args,tys⟩:=c;simp only at hp;cases callee with
  | invoke x m=>exact pure ho hp hob
  | value fop =>
   simp only at hp;generalize hfe:s8 S.t fop=fv at hp;cases fv<;>try (cases hp;done)
   rename_i f;obtain ⟨h1,h2⟩:=e74 h hg hn ho hfe hp hob;exact .inr ⟨f,_,h1,h2⟩
  | builtin b =>
   cases b;case append =>
    generalize hargs:args.toList=al at hp;generalize htys:tys.toList=tl at hp;rcases al with _|⟨s,_|⟨x,_|⟨y,al⟩⟩⟩<;>rcases tl with _|⟨ty,_|⟨ty',_|⟨ty3,tl⟩⟩⟩<;>try exact pure ho hp hob
    have ha:args = #[s,x]:=by simpa using congrArg f1j hargs
    have hy:tys = #[ty,ty']:=by simpa using congrArg f1j htys
    subst ha;subst hy;simp only at hp;by_cases q:ty=ty'
    ·subst q;rw [if_pos rfl] at hp;cases A;case dck ck om=>exact .inl (e08 h hg hn ho hp hob)
     all_goals exact .inl (d7n (rt:=0) h hg hn ho hp hob)
    ·rw [if_neg q] at hp;cases hp
   case copy =>
    generalize hargs:args.toList=al at hp;generalize htys:tys.toList=tl at hp;rcases al with _|⟨s,_|⟨x,_|⟨y,al⟩⟩⟩<;>rcases tl with _|⟨ty,_|⟨ty',_|⟨ty3,tl⟩⟩⟩<;>try exact pure ho hp hob
    have ha:args = #[s,x]:=by simpa using congrArg f1j hargs
    have hy:tys = #[ty,ty']:=by simpa using congrArg f1j htys
    subst ha;subst hy;exact .inl (d42 h ho hp hob)
   all_goals exact pure ho hp hob
 all_goals
  rw [ho] at hp;exact pure ho hp hob
theorem c31{e:s6}:∀{us us':List ((Nat×Nat)×s6)} {p:Prop},b0v e us=some (us',p)->p->us'=us
 | [],_,_,h,_=>by cases h
 | [u],us',p,h,hp=>by
  unfold b0v at h;injection h with h;injection h with h1 h2;subst h1;subst h2;have:u.2=e:=hp;subst this;rfl
 | u::u2::us,us',p,h,hp=>by
  unfold b0v at h;split at h<;>try (cases h;done)
  rename_i us1 p1 h1;injection h with h;injection h with h2 h3;subst h2;subst h3;rw [c31 h1 hp]
theorem d6z{d:Option Bool}{o o':A9}(hd:c03 d o=some o')(hob:∀p∈o'.obl,p):(∀p∈o.obl,p)/\o'.new=o.new/\o'.upd=o.upd/\o'.v=o.v:=by
 unfold c03 at hd;split at hd
 ·split at hd<;>try (cases hd;done)
  rename_i d _ x hv;injection hd with hd;subst hd;have hx:x=d:=hob _ (by simp);exact ⟨fun p hp=>hob p (by simp [hp]),rfl,rfl,by simp [hv,hx]⟩
 ·injection hd with hd;subst hd;exact ⟨hob,rfl,rfl,rfl⟩
theorem d6a{v:Option V}{o o':A9}(hd:b8C v o=some o')(hob:∀p∈o'.obl,p):(∀p∈o.obl,p)/\o'.new=o.new/\o'.upd=o.upd/\o'.v=o.v:=by
 unfold b8C at hd;split at hd
 ·rename_i v;injection hd with hd;subst hd;have hx:o.v=v:=hob _ (by simp);exact ⟨fun p hp=>hob p (by simp [hp]),rfl,rfl,hx.symm⟩
 ·injection hd with hd;subst hd;exact ⟨hob,rfl,rfl,rfl⟩
theorem e7g{e:Option s6}{o o':A9}(hd:b6Q e o=some o')(hob:∀p∈o'.obl,p):(∀p∈o.obl,p)/\o'.new=o.new/\o'.upd=o.upd/\o'.v=o.v:=by
 unfold b6Q at hd;split at hd
 ·rename_i e;split at hd
  ·rename_i e0 hn;injection hd with hd;subst hd;have hx:e0=e:=hob _ (by simp);exact ⟨fun p hp=>hob p (by simp [hp]),by rw [hn,hx],rfl,rfl⟩
  ·cases hd
  ·split at hd<;>try (cases hd;done)
   rename_i us p h1;injection hd with hd;subst hd;have hx:p:=hob _ (by simp);exact ⟨fun p hp=>hob p (by simp [hp]),rfl,c31 h1 hx,rfl⟩
 ·injection hd with hd;subst hd;exact ⟨hob,rfl,rfl,rfl⟩
theorem d93{T:J6}{o o':A9}(hd:b9b T o=some o')(hob:∀p∈o'.obl,p):(∀p∈o.obl,p)/\o'.new=o.new/\o'.upd=o.upd/\o'.v=o.v:=by
 unfold b9b at hd;cases h1:b6Q T.e o with
 | none=>rw [h1] at hd;cases hd
 | some o1 =>
 rw [h1] at hd;simp only at hd;cases h2:b8C T.v o1 with
 | none=>rw [h2] at hd;cases hd
 | some o2 =>
 rw [h2] at hd;obtain ⟨a1,a2,a3,a4⟩:=d6z hd hob;obtain ⟨b1,b2,b3,b4⟩:=d6a h2 a1;obtain ⟨c1,c2,c3,c4⟩:=e7g h1 b1;exact ⟨c1,a2.trans (b2.trans c2),a3.trans (b3.trans c3),a4.trans (b4.trans c4)⟩
def a9X(cx:Cx)(grp:Nat)(ob:Oper)(t:List V)(A:J6):j7 A9:=j7.bind (opM cx grp ob t A.a) fun o=>j7.lift (b9b A o)
theorem d6b{S:St}{grp:Nat}{dst:Option Nat}{o o':A9}(h1:o'.new=o.new)(h2:o'.upd=o.upd)(h3:o'.v=o.v):S.apply grp dst o'=S.apply grp dst o:=by
 unfold St.apply;rw [h1,h2,h3]
theorem e8P(h:t7 Γ F ι S a w){grp:Nat}(hg:grp<S.h.length)(hn:¬S.D grp){ob:Oper}{A:J6}{out:A9}{lg:List (Nat×Nat)}(hp:a9X cx grp ob S.t A S.ent=some (out,lg))(hob:∀p∈out.obl,p):b8V cx.P Γ (S.apply grp ob.dst out) ob a w:=by
 obtain ⟨o,l1,l2,h1,h2,_⟩:=j7.bind_some hp;obtain ⟨h3,_⟩:=j7.lift_some h2;simp only at h3;obtain ⟨h4,h5,h6,h7⟩:=d93 h3 hob;rw [d6b h5 h6 h7];exact e3p h hg hn h1 h4
def a5V(ops:Array Oper)(o:Oper)(t:List V):Option Bool :=
 match o.guard with
 | none=>some true
 | some (j,want)=>match (ops[j]?).bind (·.dst) with
  | some d=>match t[d]? with
   | some (.b x)=>some (x==want)
   | some (.tup [])=>some false
   | _=>none
  | none=>none
theorem d1E{ops:Array Oper}{o:Oper}{b:Bool}{D:Nat->Prop}{t:List V}(ht:w8 (RV w F D ι) t a.tmps.toList)(h:a5V ops o t=some b):Region.wanted o (yielded ops a.tmps)=b:=by
 unfold a5V at h;unfold Region.wanted;split at h
 ·rename_i hg;rw [hg];injection h
 ·rename_i j want hg;rw [hg];simp only;cases hd:(ops[j]?).bind (·.dst) with
  | none=>rw [hd] at h;cases h
  | some d =>
   rw [hd] at h;simp only at h;split at h<;>try (cases h;done)
   rename_i x hx;injection h with h;obtain ⟨c,hc,hv⟩:=ht.get hx;obtain rfl:=hv.inv_b;have:yielded ops a.tmps j=some x:=by
    unfold yielded;simp only [hd];rw [Array.getElem?_toList] at hc;simp [hc]
   rw [this,<-h];cases x<;>cases want<;>rfl
   ·rename_i hx;injection h with h;obtain ⟨c,hc,hv⟩:=ht.get hx;have hcc:c=undef:=by
     cases hv with
     | one v c hv=>cases hv with|cell v c hv=>cases hv with|fv v c hv=>cases hv
     | tup cs ds hv=>cases hv;rfl
    subst hcc;have:yielded ops a.tmps j=none:=by
     unfold yielded;simp only [hd];rw [Array.getElem?_toList] at hc;simp [hc,undef]
    rw [this,<-h];rfl
end
structure W3 where
 rd:List (Nat×Nat)
 wr:List (Nat×Nat)
def W8(cx:Cx)(ops:Array Oper)(base:Nat)(A:Nat->J6)(i:Nat)(S:St):Option (St×List Prop×W3) :=
 match ops[i]? with
 | none=>none
 | some o=>match a5V ops o S.t with
  | some true=>match a9X cx (base+i) o S.t (A i) S.ent with
   | some (out,lg)=>some (S.apply (base+i) o.dst out,out.obl,⟨lg,out.upd.map (·.1)⟩)
   | none=>none
  | some false=>some ({S with t:=Q3 S.t o.dst (.tup [])},[],⟨[],[]⟩)
  | none=>none
section
variable {cx:Cx} {Γ:N1} {F:Nat->Prop} {ι:Nat->Nat->Value} {S S':St} {a:Act} {w:World} {ops:Array Oper} {base:Nat} {A:Nat->J6}
theorem d7a{grp:Nat}{dst:Option Nat}{out:A9}{g:Nat}(h:(S.apply grp dst out).D g):S.D g\/g=grp:=by
 unfold St.apply at h;simp only at h;split at h
 ·exact .inl ((Z5 S g _).1 h)
 ·rename_i new hnew;by_cases q:g=grp
  ·exact .inr q
  ·left
   obtain ⟨l,hl⟩:=h;simp only [St.lay,e90 (Ne.symm q)] at hl;exact (Z5 S g _).1 ⟨l,hl⟩
theorem d5c{grp:Nat}{dst:Option Nat}{out:A9}:(S.apply grp dst out).h.length=S.h.length:=by
 unfold St.apply;simp only;split
 ·exact St.upds_len S _
 ·simp [St.lay,St.upds_len]
theorem d2m{i:Nat}{ps:List Prop}{ft:W3}(h:W8 cx ops base A i S=some (S',ps,ft)):(∀g,S'.D g->S.D g\/g=base+i)/\S'.h.length=S.h.length:=by
 unfold W8 at h;split at h<;>try (cases h;done)
 split at h<;>try (cases h;done)
 ·split at h<;>try (cases h;done)
  injection h with h;injection h with h1 h2;subst h1;exact ⟨fun g x=>d7a x,d5c⟩
 ·injection h with h;injection h with h1 h2;subst h1;exact ⟨fun g x=>.inl x,rfl⟩
theorem c7P{Q:Exit->Act->World->Prop}{K:Act->World->Prop}{i:Nat}{ps:List Prop}{ft:W3}(h:t7 Γ F ι S a w)(hg:base+i<S.h.length)(hn:¬S.D (base+i))(hs:W8 cx ops base A i S=some (S',ps,ft))(hob:∀p∈ps,p)(hK:∀a' w' F' ι',t7 Γ F' ι' S' a' w'->K a' w'):wpOp cx.P ops Q i K a w:=by
 unfold W8 at hs;unfold wpOp;split at hs<;>try (cases hs;done)
 rename_i o ho;rw [ho];simp only;split at hs<;>try (cases hs;done)
 ·rename_i hw;have hwant:=d1E h.tmps hw;rw [hwant];simp only [if_true];split at hs<;>try (cases hs;done)
  rename_i out lg hop;injection hs with hs;injection hs with h1 h2;injection h2 with h2 h3;subst h1;subst h2;left
  unfold Oper.wp;rcases e8P h hg hn hop hob with ⟨nx,c,w',F',ι',hr,hnx,hrel⟩|⟨f,args,hr,hcalls⟩
  ·rw [hr];rcases hnx with rfl|⟨rfl,rfl⟩
   ·exact hK _ _ _ _ hrel
   ·exact hK _ _ _ _ hrel
  ·rw [hr];refine hcalls.mono ?_;rintro e w' ⟨c,F',ι',rfl,hrel⟩
   exact hK _ _ _ _ hrel
 ·rename_i hw;have hwant:=d1E h.tmps hw;rw [hwant];simp only [f0L,if_false];injection hs with hs;injection hs with h1 h2;subst h1;exact hK _ _ _ _ (h.put o.dst (.tup [] [] .nil))
def a0E(cx:Cx)(ops:Array Oper)(base:Nat)(A:Nat->J6):List Nat->St->Option (St×List (List Prop×W3))
 | [],S=>some (S,[])
 | i::l,S=>match W8 cx ops base A i S with
  | some (S1,r)=>match a0E cx ops base A l S1 with
   | some (S2,rs)=>some (S2,r::rs)
   | none=>none
  | none=>none
theorem b0B{i:Nat}{l:List Nat}{rs:List (List Prop×W3)}(h:a0E cx ops base A (i::l) S=some (S',rs)):∃S1 r rs',W8 cx ops base A i S=some (S1,r)/\a0E cx ops base A l S1=some (S',rs')/\rs=r::rs':=by
 unfold a0E at h;split at h<;>try (cases h;done)
 rename_i S1 r h1;split at h<;>try (cases h;done)
 rename_i S2 rs' h2;injection h with h;injection h with h3 h4;subst h3;subst h4;exact ⟨S1,r,rs',h1,h2,rfl⟩
theorem c7C{Q:Exit->Act->World->Prop}:∀{l:List Nat} {S:St} {F:Nat->Prop} {ι:Nat->Nat->Value} {a:Act} {w:World} {rs:List (List Prop×W3)},t7 Γ F ι S a w->l.Nodup->(∀i∈l,base+i<S.h.length/\¬S.D (base+i))->a0E cx ops base A l S=some (S',rs)->(∀r∈rs,∀p∈r.1,p)->
  (∀a' w' F' ι',t7 Γ F' ι' S' a' w'->Q .normal a' w')->wpOps cx.P ops Q l a w
 | [],S,F,ι,a,w,rs,h,_,_,hr,_,hQ=>by
  unfold a0E at hr;injection hr with hr;injection hr with h1 h2;subst h1;exact hQ _ _ _ _ h
 | i::l,S,F,ι,a,w,rs,h,hn,hfree,hr,hob,hQ=>by
  obtain ⟨S1,r,rs',h1,h2,rfl⟩:=b0B hr;rw [wpOps_cons];have hn':=f0P.1 hn;obtain ⟨hD,hl⟩:=d2m (ps:=r.1) (ft:=r.2) h1;refine c7P h (hfree i (by simp)).1 (hfree i (by simp)).2 (ps:=r.1) (ft:=r.2) h1 (hob r (by simp)) fun a' w' F' ι' hrel => ?_
  refine c7C hrel hn'.2 (fun j hj => ?_) h2 (fun r' hr'=>hob r' (by simp [hr'])) hQ;refine ⟨by rw [hl];exact (hfree j (by simp [hj])).1,fun x => ?_⟩;rcases hD _ x with y|y
  ·exact (hfree j (by simp [hj])).2 y
  ·have:i=j:=by omega
   exact hn'.1 (this▸hj)
end
def z0{α:Type}(m:j7 α):Prop := ∀(H H':Hp) r lg,m H=some (r,lg)->(∀id∈lg,H' id.1 id.2=H id.1 id.2)->m H'=some (r,lg)
namespace z0
variable {α β:Type}
theorem pure(a:α):z0 (j7.pure a):=fun _ _ _ _ h _=>h
theorem no:z0 (j7.no:j7 α):=fun _ _ _ _ h _=>h
theorem lift(o:Option α):z0 (j7.lift o):=by
 intro H H' r lg h _;unfold j7.lift at h ⊢;exact h
theorem rd(g j:Nat):z0 (j7.rd g j):=by
 intro H H' r lg h hH;obtain ⟨h1,h2⟩:=j7.rd_some h;simp only at h1 h2;subst h2;have:=hH (g,j) (by simp);unfold j7.rd;simp only at this;rw [this,h1]
theorem bind{m:j7 α}{f:α->j7 β}(hm:z0 m)(hf:∀a,z0 (f a)):z0 (j7.bind m f):=by
 intro H H' r lg h hH;obtain ⟨a,l,l',h1,h2,h3⟩:=j7.bind_some h;simp only at h2 h3;subst h3;unfold j7.bind;rw [hm H H' a l h1 (fun id hid=>hH id (List.mem_append.2 (.inl hid)))];simp only;rw [hf a H H' r l' h2 (fun id hid=>hH id (List.mem_append.2 (.inr hid)))]
theorem ite{c:Prop}[Decidable c]{m n:j7 α}(hm:z0 m)(hn:z0 n):z0 (if c then m else n):=by
 split<;>assumption
end z0
theorem e1j(ck:Option Nat)(v:V):z0 (fzP ck v):=by
 unfold fzP;cases v<;>try exact z0.no
 case own g j sz lo n =>
  refine .bind (.rd g j) fun e => ?_
  cases e<;>first|exact z0.no|exact .ite (.pure _) .no
 case nil=>cases ck<;>exact .pure _
 all_goals exact .pure _
theorem b9z:∀(vs:List V) (ck:List (Option Nat)),z0 (b12 ck vs)
 | [],ck=>by cases ck<;>exact .pure _
 | v::vs,ck=>.bind (e1j _ _) fun x=>.bind (b9z vs _) fun y=>.pure _
theorem e6w(cx:Cx)(ty:Nat)(x:V)(A:N4):z0 (b0G cx ty x A):=by
 unfold b0G;cases cx.T ty with
 | none=>exact .no
 | some ti =>
  cases x<;>try exact z0.no
  case ptr g j off =>
   refine .bind (.rd g j) fun e => ?_
   cases e<;>try exact z0.no
   case var e cs=>simp only;cases Q8 ti (cs.drop off)<;>first|exact .no|exact .pure _
   case arr e sz n rows=>exact .ite (.pure _) .no
  case eptr g j sz idx off =>
   refine .bind (.rd g j) fun e => ?_
   cases A<;>try exact z0.no
   case row r =>
    simp only;cases Q8 ti (r.drop off) with
    | none=>exact .no
    | some v=>cases e<;>first|exact z0.no|exact .ite (.pure _) .no
  case fptr cs=>simp only;cases Q8 ti cs<;>first|exact .no|exact .pure _
theorem e1A(cx:Cx)(ty:Nat)(x y:V)(A:N4):z0 (b1U cx ty x y A):=by
 unfold b1U;cases cx.T ty with
 | none=>exact .no
 | some ti =>
  cases y.cells with
  | none=>exact .no
  | some vs =>
   cases x<;>try exact z0.no
   case ptr g j off =>
    refine .bind (.rd g j) fun e => ?_
    cases e<;>first|exact z0.no|exact .ite (.pure _) .no
   case eptr g j sz idx off =>
    refine .bind (.rd g j) fun e => ?_
    cases A<;>try exact z0.no
    case rowck r ck =>
     refine .bind (b9z _ _) fun f => ?_
     cases e<;>first|exact z0.no|exact .ite (.pure _) .no
theorem d1L(pt:Bool)(x:V):z0 (b0i pt x):=by
 unfold b0i;cases x<;>try first|exact z0.no|exact z0.pure _
 case own g j sz lo n =>
  refine .bind (.rd g j) fun e => ?_
  cases e<;>first|exact z0.no|exact .ite (.pure _) .no
theorem d6Z(pt:Bool)(cx:Cx)(grp ty:Nat)(s x:V):z0 (a8J pt cx grp ty s x):=by
 unfold a8J;cases cx.T ty with
 | none=>exact .no
 | some ti =>
  simp only;cases ti.sl with
  | none=>exact .no
  | some e =>
   simp only;cases cx.T e with
   | none=>exact .no
   | some ei =>
    refine .bind (d1L _ x) fun q=>.ite ?_ .no
    cases s<;>try first|exact z0.no|exact z0.pure _
    case own g j sz lo n =>
     cases lo with
     | succ k=>exact .no
     | zero =>
      refine .bind (.rd g j) fun e => ?_
      cases e<;>first|exact z0.no|exact .ite (.pure _) .no
theorem d5s(cx:Cx)(ty:Nat)(s x:V):z0 (b0A cx ty s x):=by
 unfold b0A;cases cx.T ty with
 | none=>exact .no
 | some ti =>
  simp only;cases ti.sl with
  | none=>exact .no
  | some e =>
   simp only;cases cx.T e with
   | none=>exact .no
   | some ei =>
    refine .bind (d1L _ x) fun q => ?_
    cases s<;>try exact z0.no
    case own g j sz lo n =>
     cases lo with
     | succ k=>exact .no
     | zero =>
      refine .bind (.rd g j) fun e => ?_
      cases e<;>first|exact z0.no|exact .ite (.pure _) .no
theorem c7L(ck:List (Option Nat)):∀ps:List (Nat×V),z0 (a96 ck ps)
 | []=>.pure _
 | (i,v)::ps=>by
  unfold a96;cases v.cells with
  | none=>exact .no
  | some cs=>exact .bind (b9z _ _) fun x=>.bind (c7L ck ps) fun y=>.pure _
theorem e5r(cx:Cx)(grp ty len:Nat)(parts:List (Nat×V))(A:N4):z0 (b24 cx grp ty len parts A):=by
 unfold b24;cases cx.T ty with
 | none=>exact .no
 | some ti =>
  simp only;cases ti.sl with
  | none=>exact .no
  | some e =>
   simp only;cases cx.T e with
   | none=>exact .no
   | some ei =>
    cases A<;>try exact z0.no
    case ck ck =>
     refine .bind (c7L _ _) fun q => ?_
     cases a5K ei.size (e9L len ei.zero) q.1 with
     | none=>exact .no
     | some rows=>exact .ite (.pure _) .no
theorem d1f(ck om:Option Nat)(v:V):z0 (Q6 ck om v):=by
 unfold Q6;cases om with
 | some e =>
  refine .ite (.pure _) ?_;cases v<;>try first|exact z0.no|exact z0.pure _
  case own g j sz lo n =>
   cases lo with
   | succ k=>exact .no
   | zero =>
    refine .bind (.rd g j) fun e => ?_
    cases e<;>first|exact z0.no|exact .ite (.pure _) .no|(rename_i o _ _ _ _;cases o<;>first|exact z0.no|exact .ite (.pure _) .no)
 | none =>
  cases v<;>try first|exact z0.no|exact z0.pure _
  case own g j sz lo n =>
   refine .bind (.rd g j) fun e => ?_
   cases e<;>first|exact z0.no|exact .ite (.pure _) .no|(rename_i o _ _ _ _;cases o<;>first|exact z0.no|exact .ite (.pure _) .no)
  case nil=>cases ck<;>exact .pure _
theorem a8O:∀(vs:List V) (ck om:List (Option Nat)),z0 (a1F ck om vs)
 | [],ck,om=>by cases ck<;>cases om<;>exact .pure _
 | v::vs,ck,om=>.bind (d1f _ _ _) fun x=>.bind (a8O vs _ _) fun y=>.pure _
theorem e6U(m:PM)(v:V):z0 (a0D m v):=by
 unfold a0D;cases m with
 | val ck om =>
  cases v<;>try first|exact z0.no|exact d1f _ _ _
  case agg cs=>exact .bind (a8O _ _ _) fun x=>.pure _
 | ptr ck om =>
  cases v<;>try exact z0.no
  case ptr g j off =>
   cases off with
   | succ k=>exact .no
   | zero =>
    refine .bind (.rd g j) fun e => ?_
    cases e<;>try exact z0.no
    case var e cs=>exact .bind (a8O _ _ _) fun x=>.pure _
 | row =>
  cases v<;>try exact z0.no
  case own g j sz lo n =>
   cases lo with
   | succ k=>exact .no
   | zero =>
    refine .bind (.rd g j) fun e => ?_
    cases e<;>first|exact z0.no|exact .ite (.pure _) .no|(rename_i o _ _ _ _;cases o<;>first|exact z0.no|exact .ite (.pure _) .no)
 | part =>
  cases v<;>try exact z0.no
  case own g j sz lo n =>
   refine .bind (.rd g j) fun e => ?_
   cases e<;>first|exact z0.no|exact .ite (.pure _) .no|(rename_i o _ _ _ _;cases o<;>first|exact z0.no|exact .ite (.pure _) .no)
theorem c7F:∀(vs:List V) (ms:List PM),z0 (a1q ms vs)
 | [],ms=>by cases ms<;>exact .pure _
 | v::vs,[]=>.no
 | v::vs,m::ms=>.bind (e6U m v) fun x=>.bind (c7F vs ms) fun y=>.pure _
theorem b85:∀ids:List (Nat×Nat),z0 (a4O ids)
 | []=>.pure _
 | (g,j)::ids=>by
  unfold a4O;refine .bind (.rd g j) fun e => ?_
  cases e<;>try exact z0.no
  case row t sz n rows=>exact .bind (b85 ids) fun us=>.pure _
  case deep o t sz n rows =>
   cases o
   ·exact .bind (b85 ids) fun us=>.pure _
   ·exact .no
theorem c4l(grp:Nat)(args:List V)(ms:List PM)(fr:Bool)(res:V)(outs:List (Option V))(p:List V->Prop):z0 (a75 grp args ms fr res outs p):=by
 unfold a75;refine .bind (c7F _ _) fun r=>.bind (b85 _) fun fz => ?_
 simp only;cases O9 grp (G8 grp 0 res).2.length ms args outs with
 | none=>exact .no
 | some ue=>exact .ite (.pure _) .no
theorem e7G(P:Program)(grp f:Nat)(args:List V)(A:N4):z0 (b0Y P grp f args A):=by
 unfold b0Y;cases A<;>try exact z0.no
 case call ms fr res outs=>exact c4l _ _ _ _ _ _ _
 case callr k q ms fr res outs =>
  simp only;split
  ·split
   ·exact .bind (c4l _ _ _ _ _ _ _) fun o=>.pure _
   ·exact .no
  ·exact .no
theorem c6p(cx:Cx)(ty:Nat)(x y:V)(r:List V)(ck om:List (Option Nat)):z0 (a9i cx ty x y r ck om):=by
 unfold a9i;cases cx.T ty with
 | none=>exact .no
 | some ti =>
  cases y.cells with
  | none=>exact .no
  | some vs =>
   cases x<;>try exact z0.no
   case eptr g j sz idx off =>
    refine .bind (.rd g j) fun e=>.bind (a8O _ _ _) fun f => ?_
    cases e<;>try exact z0.no
    exact .ite (.pure _) .no
theorem e3T(cx:Cx)(grp ty:Nat)(x:V)(r:List V):z0 (b0O cx grp ty x r):=by
 unfold b0O;cases cx.T ty with
 | none=>exact .no
 | some ti =>
  cases x<;>try exact z0.no
  case eptr g j sz idx off =>
   refine .bind (.rd g j) fun e => ?_
   cases e<;>try exact z0.no
   simp only;refine .ite ?_ .no;cases Q8 ti (J7 grp 0 ((r.drop off).take (if ti.agg=true then ti.size else 1))).1 with
   | none=>exact .no
   | some v=>exact .pure _
theorem d6v(cx:Cx)(grp ty:Nat)(x:V)(r:List V):z0 (b2W cx grp ty x r):=by
 unfold b2W;cases cx.T ty with
 | none=>exact .no
 | some ti =>
  cases x<;>try exact z0.no
  case eptr g j sz idx off =>
   refine .bind (.rd g j) fun e => ?_
   cases e<;>try exact z0.no
   simp only;refine .ite ?_ .no;cases Q8 ti (J7 grp 0 ((r.drop off).take (if ti.agg=true then ti.size else 1))).1 with
   | none=>exact .no
   | some v=>exact .pure _
theorem d9B(cx:Cx)(ty:Nat)(x y:V)(r:List V)(ck om:List (Option Nat)):z0 (b1F cx ty x y r ck om):=by
 unfold b1F;refine .bind (c6p _ _ _ _ _ _ _) fun o => ?_
 split
 ·exact .bind (.rd _ _) fun _=>.pure _
 ·exact .no
theorem e8c(cx:Cx)(ty:Nat)(x:V)(r:List V):z0 (b1N cx ty x r):=by
 unfold b1N;cases cx.T ty with
 | none=>exact .no
 | some ti =>
  cases x<;>try exact z0.no
  case eptr g j sz idx off =>
   refine .bind (.rd g j) fun e => ?_
   cases e<;>try exact z0.no
   simp only;refine .ite ?_ .no;cases Q8 ti ((r.drop off).take (if ti.agg=true then ti.size else 1)) with
   | none=>exact .no
   | some v=>exact .pure _
theorem d9t(cx:Cx)(grp ty:Nat)(l c:V)(ck om:List (Option Nat)):z0 (b0X cx grp ty l c ck om):=by
 unfold b0X;cases cx.T ty with
 | none=>exact .no
 | some ti =>
  simp only;cases ti.sl with
  | none=>exact .no
  | some e =>
   simp only;cases cx.T e with
   | none=>exact .no
   | some ei =>
    cases l<;>try exact z0.no
    cases c<;>try exact z0.no
    exact .bind (a8O _ _ _) fun f=>.ite (.pure _) .no
theorem d61(cx:Cx)(grp ty len:Nat)(parts:List (Nat×V))(ck om:List (Option Nat)):z0 (b15 cx grp ty len parts ck om):=by
 unfold b15;cases cx.T ty with
 | none=>exact .no
 | some ti =>
  simp only;cases ti.sl with
  | none=>exact .no
  | some e =>
   simp only;cases cx.T e with
   | none=>exact .no
   | some ei =>
    simp only;split
    ·split
     ·exact .bind (a8O _ _ _) fun f=>.ite (.pure _) .no
     ·exact .no
    ·exact .ite (.pure _) .no
    ·exact .no
theorem e4e(cx:Cx)(grp ty:Nat)(s x:V):z0 (b2n cx grp ty s x):=by
 unfold b2n;cases cx.T ty with
 | none=>exact .no
 | some ti =>
  simp only;cases ti.sl with
  | none=>exact .no
  | some e =>
   simp only;cases cx.T e with
   | none=>exact .no
   | some ei =>
    simp only;split
    ·refine .bind (.rd _ _) fun e2 => ?_
     split
     ·refine .ite ?_ .no;split
      ·exact .pure _
      ·refine .bind (.rd _ _) fun e1 => ?_
       split
       ·exact .ite (.pure _) .no
       ·exact .no
      ·exact .no
     ·exact .no
    ·exact .no
theorem d4C(cx:Cx)(ty:Nat)(x ix:V):z0 (b1V cx ty x ix):=by
 unfold b1V;cases cx.M ty with
 | none=>exact .no
 | some q =>
  obtain ⟨kt,m,z⟩:=q;cases x<;>try exact z0.no
  cases ix<;>try exact z0.no
  rename_i g j ks;simp only;cases a1T ks with
  | none=>exact .no
  | some xs =>
   refine .bind (.rd g j) fun e => ?_
   cases e<;>try exact z0.no
   exact .ite (.pure _) .no
theorem e6x(cx:Cx)(ty:Nat)(x ix y:V):z0 (b2h cx ty x ix y):=by
 unfold b2h;cases cx.M ty with
 | none=>exact .no
 | some q =>
  obtain ⟨kt,m,z⟩:=q;cases x<;>try exact z0.no
  cases ix<;>try exact z0.no
  rename_i g j ks;simp only;cases a1T ks with
  | none=>exact .no
  | some xs =>
   refine .bind (.rd g j) fun e => ?_
   cases e<;>try exact z0.no
   exact .ite (.pure _) .no
theorem d3P(cx:Cx)(grp:Nat)(ob:Oper)(t:List V)(A:N4):z0 (opM cx grp ob t A):=by
 unfold opM;cases ob.op<;>try exact z0.lift _
 case buildSlice ty len parts=>cases A<;>first|exact d61 _ _ _ _ _ _ _|exact e5r _ _ _ _ _ _
 case makeSlice ty l c=>cases A<;>first|exact d9t _ _ _ _ _ _ _|exact z0.lift _
 case load ty x=>cases A<;>first|exact e3T _ _ _ _ _|exact d6v _ _ _ _ _|exact e8c _ _ _ _|exact e6w _ _ _ _
 case store ty x y =>
  cases ob.dst
  ·cases A<;>first|exact c6p _ _ _ _ _ _ _|exact d9B _ _ _ _ _ _ _|exact e1A _ _ _ _ _
  ·exact .no
 case makeMap ty r=>cases r<;>exact z0.lift _
 case lookup ty x ix ok=>cases ok<;>first|exact d4C _ _ _ _|exact z0.lift _
 case mapUpdate ty x ix y =>
  cases ob.dst
  ·exact e6x _ _ _ _ _
  ·exact .no
 case call c =>
  obtain ⟨callee,args,tys⟩:=c;simp only;split
  ·refine .ite ?_ .no;cases A<;>first|exact e4e _ _ _ _ _|exact d6Z _ _ _ _ _ _
  ·exact d5s _ _ _ _
  ·cases s8 t _<;>first|exact e7G _ _ _ _ _|exact z0.no
  ·exact .lift _
theorem e43(cx:Cx)(grp:Nat)(ob:Oper)(t:List V)(A:J6):z0 (a9X cx grp ob t A):=.bind (d3P _ _ _ _ _) fun o=>.lift _
theorem c3Y{t t':List V}:∀{xs:List Operand},(∀x∈xs,s8 t' x=s8 t x)->xs.map (s8 t')=xs.map (s8 t)
 | [],_=>rfl
 | x::xs,h=>by simp only [f0e];rw [h x (by simp),c3Y fun y hy=>h y (by simp [hy])]
theorem c2L{t t':List V}:∀{ps:List (Nat×Operand)},(∀x∈ps.map (·.2),s8 t' x=s8 t x)->(ps.map fun (i,x)=>(i,s8 t' x))=(ps.map fun (i,x)=>(i,s8 t x))
 | [],_=>rfl
 | p::ps,h=>by
  simp only [f0e];rw [h p.2 (by simp),c2L fun y hy=>h y (by simp [hy])]
theorem c3Q{t t':List V}{o:Option Operand}(h:∀x∈o.toList,s8 t' x=s8 t x):o.map (s8 t')=o.map (s8 t):=by
 cases o with
 | none=>rfl
 | some x=>simp only [f0J];rw [h x (by simp)]
theorem e8n{cx:Cx}{op:Op}{t t':List V}{A:N4}(h:∀x∈op.operands.toList,s8 t' x=s8 t x):R5 cx op t' A=R5 cx op t A:=by
 cases op<;>try rfl
 case makeFunc fn first captured=>cases fn<;>rfl
 case move x=>simp only [R5];rw [h x (by simp [Op.operands])]
 case assign x=>simp only [R5];rw [h x (by simp [Op.operands])]
 case pick c x y=>simp only [R5];rw [h c (by simp [Op.operands]),h x (by simp [Op.operands]),h y (by simp [Op.operands])]
 case nilCheck x=>simp only [R5];rw [h x (by simp [Op.operands])]
 case binOp o ty x y ty'=>simp only [R5];rw [h x (by simp [Op.operands]),h y (by simp [Op.operands])]
 case unOp o ty x=>simp only [R5];rw [h x (by simp [Op.operands])]
 case convert s d x=>simp only [R5];rw [h x (by simp [Op.operands])]
 case extract x k=>simp only [R5];rw [h x (by simp [Op.operands])]
 case field ty x f=>simp only [R5];rw [h x (by simp [Op.operands])]
 case fieldAddr ty x f=>simp only [R5];rw [h x (by simp [Op.operands])]
 case build ty parts=>simp only [R5];rw [c2L (by simpa [Op.operands] using h)]
 case indexAddr ty x y=>simp only [R5];rw [h x (by simp [Op.operands]),h y (by simp [Op.operands])]
 case index ty x y=>simp only [R5];rw [h x (by simp [Op.operands]),h y (by simp [Op.operands])]
 case slice ty x lo hi mx =>
  cases mx with
  | some m=>rfl
  | none =>
   simp only [R5];rw [h x (by simp [Op.operands]),c3Q (o:=lo) (fun y hy=>h y (by simp [Op.operands] at hy ⊢;simp [hy])),c3Q (o:=hi) (fun y hy=>h y (by simp [Op.operands] at hy ⊢;simp [hy]))]
 case call c =>
  obtain ⟨callee,args,tys⟩:=c;simp only [R5];cases callee with
  | value x=>rfl
  | invoke x m=>rfl
  | builtin b =>
   have ha:∀x∈args.toList,s8 t' x=s8 t x:=fun x hx=>h x (by simpa [Op.operands,Call.operands] using hx)
   cases b<;>try rfl
   all_goals
    generalize args.toList=al at ha;generalize tys.toList=tl;rcases al with _|⟨s,_|⟨x,_|⟨y,al⟩⟩⟩<;>rcases tl with _|⟨ty,_|⟨ty',tl⟩⟩<;>try rfl
    all_goals simp only [ha s (by simp)]
    all_goals try simp only [ha x (by simp)]
theorem e5L{cx:Cx}{grp:Nat}{ob:Oper}{t t':List V}{A:N4}(h:∀x∈ob.op.operands.toList,s8 t' x=s8 t x):opM cx grp ob t' A=opM cx grp ob t A:=by
 have hp:=e8n (cx:=cx) (A:=A) h;unfold opM;cases ho:ob.op<;>rw [ho] at h hp<;>simp only [hp]
 case box e x=>rw [h x (by simp [Op.operands])]
 case buildSlice ty len parts=>rw [c2L (by simpa [Op.operands] using h)]
 case makeSlice ty l c=>rw [h l (by simp [Op.operands]),h c (by simp [Op.operands])]
 case load ty x=>rw [h x (by simp [Op.operands])]
 case store ty x y=>rw [h x (by simp [Op.operands]),h y (by simp [Op.operands])]
 case makeMap ty r=>cases r<;>simp only [hp]
 case lookup ty x ix ok =>
  have h1:=h x (by simp [Op.operands]);have h2:=h ix (by simp [Op.operands]);cases ok<;>simp only [hp,h1,h2]
 case mapUpdate ty x ix y=>rw [h x (by simp [Op.operands]),h ix (by simp [Op.operands]),h y (by simp [Op.operands])]
 case call c =>
  obtain ⟨callee,args,tys⟩:=c;cases callee with
  | invoke x m=>rfl
  | value fop =>
   have h1:s8 t' fop=s8 t fop:=h fop (by simp [Op.operands,Call.operands]);have h2:args.toList.map (s8 t')=args.toList.map (s8 t):=c3Y fun x hx=>h x (by simp [Op.operands,Call.operands] at hx ⊢;simp [hx])
   simp only [h1,h2]
  | builtin b =>
   have ha:∀x∈args.toList,s8 t' x=s8 t x:=fun x hx=>h x (by simpa [Op.operands,Call.operands] using hx)
   cases b<;>try rfl
   all_goals
    generalize args.toList=al at ha;generalize tys.toList=tl;rcases al with _|⟨s,_|⟨x,_|⟨y,al⟩⟩⟩<;>rcases tl with _|⟨ty,_|⟨ty',_|⟨ty3,tl⟩⟩⟩<;>try rfl
    all_goals simp only [ha s (by simp),ha x (by simp)]
theorem c3L{t:List V}{dst:Option Nat}{v:V}{x:Operand}(h:∀d,dst=some d->x ≠ .tmp d):s8 (Q3 t dst v) x=s8 t x:=by
 cases dst with
 | none=>rfl
 | some d =>
  cases x with
  | tmp k =>
   have:d≠k:=fun q=>h d rfl (by rw [q])
   simp [s8,Q3,e90 this]
  | _=>rfl
theorem d7T{S:St}{g j g' j':Nat}{e e':s6}(h:¬(g=g'/\j=j')):(S.setE g j e).setE g' j' e'=(S.setE g' j' e').setE g j e:=by
 by_cases q:g=g'
 ·subst q;have hj:j≠j':=fun z=>h ⟨rfl,z⟩
  cases hx:S.h[g]? with
  | none=>unfold St.setE;simp [hx]
  | some o=>cases o with
   | none=>unfold St.setE;simp [hx]
   | some l =>
    have hlt:=(e9P.1 hx).1;rw [a2i hx,a2i hx,a2i (l:=l.set j e) (by simp [hlt]),a2i (l:=l.set j' e') (by simp [hlt])];simp only [List.set_set];rw [List.set_comm _ _ hj]
 ·unfold St.setE;cases hx:S.h[g]? with
  | none =>
   cases hy:S.h[g']? with
   | none=>simp [hx,hy]
   | some o=>cases o with
    | none=>simp [hx,hy]
    | some l=>simp [hx,hy,e90 (Ne.symm q)]
  | some o=>cases o with
   | none =>
    cases hy:S.h[g']? with
    | none=>simp [hx,hy]
    | some o=>cases o with
     | none=>simp [hx,hy]
     | some l=>simp [hx,hy,e90 (Ne.symm q)]
   | some l =>
    cases hy:S.h[g']? with
    | none=>simp [hx,hy,e90 q]
    | some o=>cases o with
     | none=>simp [hx,hy,e90 q]
     | some l'=>simp [hx,hy,e90 q,e90 (Ne.symm q),List.set_comm _ _ q]
theorem d1O{g j:Nat}{e:s6}:∀{us:List N5} {S:St},(∀u∈us,¬(g=u.1.1/\j=u.1.2))->(S.setE g j e).upds us=(S.upds us).setE g j e
 | [],_,_=>rfl
 | ((g',j'),e')::us,S,h=>by
  simp only [St.upds];rw [d7T (h ((g',j'),e') (by simp)),d1O fun u hu=>h u (by simp [hu])]
theorem b1g:∀{us vs:List N5} {S:St},(∀u∈us,∀v∈vs,u.1≠v.1)->(S.upds us).upds vs=(S.upds vs).upds us
 | [],_,_,_=>rfl
 | ((g,j),e)::us,vs,S,h=>by
  simp only [St.upds];rw [b1g fun u hu=>h u (by simp [hu]),d1O fun v hv q=>h ((g,j),e) (by simp) v hv (Prod.ext q.1 q.2)]
theorem d5M{S:St}{g g':Nat}{n n':List s6}(h:g≠g'):(S.lay g n).lay g' n'=(S.lay g' n').lay g n:=by
 simp [St.lay,List.set_comm _ _ h]
theorem d9q{t:List V}{d d':Option Nat}{v v':V}(h:∀k,d=some k->d'≠some k):Q3 (Q3 t d v) d' v'=Q3 (Q3 t d' v') d v:=by
 cases d with
 | none=>rfl
 | some k=>cases d' with
  | none=>rfl
  | some k' =>
   have:k≠k':=fun q=>h k rfl (by rw [q])
   simp [Q3,List.set_comm _ _ this]
def a3q(S:St)(t:List V):St:={S with t:=t}
def hp(S:St)(grp:Nat)(o:A9):St:=match o.new with
 | none=>S.upds o.upd
 | some new=>(S.upds o.upd).lay grp new
theorem b9f(S:St)(grp:Nat)(dst:Option Nat)(o:A9):S.apply grp dst o=a3q (hp S grp o) (Q3 S.t dst o.v):=by
 unfold St.apply hp a3q;cases o.new with
 | none=>simp only [St.upds_t]
 | some new=>simp only [St.lay,St.upds_t]
theorem e5c(S:St)(t:List V)(g j:Nat)(e:s6):(a3q S t).setE g j e=a3q (S.setE g j e) t:=by
 unfold a3q St.setE;simp only;split<;>rfl
theorem b9X(t:List V):∀(us:List N5) (S:St),(a3q S t).upds us=a3q (S.upds us) t
 | [],_=>rfl
 | ((g,j),e)::us,S=>by simp only [St.upds];rw [e5c,b9X]
theorem d7g(S:St)(t:List V)(grp:Nat)(o:A9):hp (a3q S t) grp o=a3q (hp S grp o) t:=by
 unfold hp;cases o.new with
 | none=>simp only [b9X]
 | some new=>simp only [b9X];rfl
theorem e5n{S:St}{g g':Nat}{o o':A9}(hg:g≠g')(h1:∀u∈o.upd,∀v∈o'.upd,u.1≠v.1)(h2:∀u∈o.upd,u.1.1≠g')(h3:∀u∈o'.upd,u.1.1≠g):hp (hp S g o) g' o'=hp (hp S g' o') g o:=by
 unfold hp;cases o.new with
 | none=>cases o'.new with
  | none=>simp only;exact b1g h1
  | some n'=>simp only;rw [<-a8K o.upd _ h2,b1g h1]
 | some n=>cases o'.new with
  | none=>simp only;rw [<-a8K o'.upd _ h3,b1g h1]
  | some n' =>
   simp only;rw [<-a8K o'.upd _ h3,<-a8K o.upd _ h2,b1g h1,d5M hg]
theorem e2C{S:St}{grp:Nat}{o:A9}{g j:Nat}(h1:g≠grp)(h2:∀u∈o.upd,u.1≠(g,j)):(hp S grp o).ent g j=S.ent g j:=by
 have:(S.upds o.upd).ent g j=S.ent g j:=by
  refine b4k ?_;unfold a9e;rw [List.all_eq_true];intro u hu;have:=h2 u hu;simp only [f0G,Bool.and_eq_false_iff,beq_eq_false_iff_ne];by_cases q:g=u.1.1
  ·right
   intro z;exact this (Prod.ext q.symm z.symm)
  ·exact .inl q
 unfold hp;cases o.new with
 | none=>exact this
 | some new=>simp only;rw [a7h h1];exact this
section
variable {cx:Cx} {ops:Array Oper} {base:Nat} {A:Nat->J6}
theorem c7n{i:Nat}{S S':St}{ps:List Prop}{ft:W3}(h:W8 cx ops base A i S=some (S',ps,ft)):∃o out,ops[i]?=some o/\S'=S.apply (base+i) o.dst out/\ft.wr=out.upd.map (·.1)/\
  ∀T:St,(∀x∈o.op.operands.toList,s8 T.t x=s8 S.t x)->a5V ops o T.t=a5V ops o S.t->(∀id∈ft.rd,T.ent id.1 id.2=S.ent id.1 id.2)->W8 cx ops base A i T=some (T.apply (base+i) o.dst out,ps,ft):=by
 unfold W8 at h;split at h<;>try (cases h;done)
 rename_i o ho;split at h<;>try (cases h;done)
 ·rename_i hw;split at h<;>try (cases h;done)
  rename_i out lg hop;injection h with h;injection h with h1 h2;injection h2 with h2 h3;subst h1;subst h2;subst h3;refine ⟨o,out,ho,rfl,rfl,?_⟩;intro T hx hwT hent;have hst:a9X cx (base+i) o T.t (A i)=a9X cx (base+i) o S.t (A i):=by
   unfold a9X;rw [e5L hx]
  have:=e43 cx (base+i) o S.t (A i) S.ent T.ent out lg hop hent;unfold W8;rw [ho];simp only [hwT,hw,hst,this]
 ·rename_i hw;injection h with h;injection h with h1 h2;injection h2 with h2 h3;subst h1;subst h2;subst h3;refine ⟨o,{v:=.tup []},ho,rfl,rfl,?_⟩;intro T hx hwT hent;unfold W8;rw [ho];simp only [hwT,hw];rfl
structure Ind(ops:Array Oper)(base:Nat)(x i:Nat)(f1 f2:W3):Prop where
 ne:x≠i
 apart:∀o1 o2,ops[x]?=some o1->ops[i]?=some o2->o1.apart ops o2=true
 w1:∀id∈f1.wr,id ∉ f2.rd/\id ∉ f2.wr
 w2:∀id∈f2.wr,id ∉ f1.rd
 g1:∀id∈f2.rd++f2.wr,id.1≠base+x
 g2:∀id∈f1.rd++f1.wr,id.1≠base+i
theorem c9I{o:Oper}{x:Operand}(hx:x∈o.op.operands.toList){d:Nat}(hd:d ∉ o.looksAt ops):x ≠ .tmp d:=by
 intro q;subst q;apply hd;unfold Oper.looksAt;exact List.mem_append.2 (.inl (List.mem_filterMap.2 ⟨_,hx,rfl⟩))
theorem c4u{o:Oper}{t:List V}{dst:Option Nat}{v:V}(hd:∀d,dst=some d->d ∉ o.looksAt ops):a5V ops o (Q3 t dst v)=a5V ops o t:=by
 unfold a5V;split
 ·rfl
 ·rename_i j want hg;cases hj:(ops[j]?).bind (·.dst) with
  | none=>rfl
  | some d =>
   simp only;cases dst with
   | none=>rfl
   | some k =>
    have hk:k≠d:=by
     intro q;subst q;apply hd k rfl;unfold Oper.looksAt;rw [hg];exact List.mem_append.2 (.inr (by simp [hj]))
    simp only [Q3,e90 hk]
theorem b4t{S:St}{grp:Nat}{dst:Option Nat}{o:A9}:(S.apply grp dst o).t=Q3 S.t dst o.v:=by rw [b9f];rfl
theorem d2T{S:St}{grp:Nat}{dst:Option Nat}{o:A9}{g j:Nat}(h1:g≠grp)(h2:(g,j) ∉ o.upd.map (·.1)):(S.apply grp dst o).ent g j=S.ent g j:=by
 rw [b9f];show (hp S grp o).ent g j=_
 exact e2C h1 fun u hu q=>h2 (List.mem_map.2 ⟨u,hu,q⟩)
theorem e0j{x i:Nat}{S S1 S2:St}{p1 p2:List Prop}{f1 f2:W3}(hx:W8 cx ops base A x S=some (S1,p1,f1))(hi:W8 cx ops base A i S1=some (S2,p2,f2))(h:Ind ops base x i f1 f2) :
  ∃S1',W8 cx ops base A i S=some (S1',p2,f2)/\W8 cx ops base A x S1'=some (S2,p1,f1):=by
 obtain ⟨o1,out1,ho1,rfl,hw1,hr1⟩:=c7n hx;obtain ⟨o2,out2,ho2,rfl,hw2,hr2⟩:=c7n hi;obtain ⟨a1,a2,a3⟩:=Oper.apart_spec (h.apart o1 o2 ho1 ho2);have e1:=hr2 S (fun z hz=>by rw [b4t,c3L fun d hd=>c9I (ops:=ops) hz (a1 d hd)]) (by rw [b4t,c4u a1]) (fun id hid=>by
  refine (d2T (h.g1 id (List.mem_append.2 (.inl hid))) ?_).symm;rw [<-hw1];exact fun q=>(h.w1 id q).1 hid)
 refine ⟨_,e1,?_⟩;have e2:=hr1 (S.apply (base+i) o2.dst out2) (fun z hz=>by rw [b4t,c3L fun d hd=>c9I (ops:=ops) hz (a3 d hd)]) (by rw [b4t,c4u a3]) (fun id hid=>by
  refine d2T (h.g2 id (List.mem_append.2 (.inl hid))) ?_;rw [<-hw2];exact fun q=>h.w2 id q hid)
 rw [e2];congr 2
 simp only [b9f,d7g];have hh:hp (hp S (base+x) out1) (base+i) out2=hp (hp S (base+i) out2) (base+x) out1:=by
  refine e5n (fun q=>h.ne (by omega)) ?_ ?_ ?_
  ·intro u hu v hv q;have m1:u.1∈f1.wr:=by rw [hw1];exact List.mem_map.2 ⟨u,hu,rfl⟩
   have m2:v.1∈f2.wr:=by rw [hw2];exact List.mem_map.2 ⟨v,hv,rfl⟩
   exact (h.w1 _ m1).2 (q▸m2)
  ·intro u hu;exact h.g2 _ (List.mem_append.2 (.inr (by rw [hw1];exact List.mem_map.2 ⟨u,hu,rfl⟩)))
  ·intro u hu;exact h.g1 _ (List.mem_append.2 (.inr (by rw [hw2];exact List.mem_map.2 ⟨u,hu,rfl⟩)))
 rw [hh];unfold a3q;simp only;rw [d9q (fun k hk q=>a2 k hk q)]
abbrev Rc:=Nat->List Prop×W3
theorem c52{rc:Rc}{i:Nat}:∀{l m:List Nat} {S S':St},(∀x∈l,Ind ops base x i (rc x).2 (rc i).2)->a0E cx ops base A (l++i::m) S=some (S',(l++i::m).map rc)->a0E cx ops base A (i::(l++m)) S=some (S',(i::(l++m)).map rc)
 | [],m,S,S',_,h=>h
 | x::l,m,S,S',hind,h=>by
  obtain ⟨S1,r,rs,h1,h2,h3⟩:=b0B h;simp only [f1q,f0e] at h3;injection h3 with h3 h4;subst h3;subst h4;have h5:=c52 (fun y hy=>hind y (by simp [hy])) h2;obtain ⟨S2,r2,rs2,h6,h7,h8⟩:=b0B h5;simp only [f0e] at h8;injection h8 with h8 h9;subst h8;subst h9;obtain ⟨S1',e1,e2⟩:=e0j (p1:=(rc x).1) (f1:=(rc x).2) (p2:=(rc i).1) (f2:=(rc i).2) h1 h6 (hind x (by simp));have e2':W8 cx ops base A x S1'=some (S2,rc x):=e2;have e1':W8 cx ops base A i S=some (S1',rc i):=e1;simp only [f1q,a0E,e1',e2',h7,f0e]
end
def a2v(ops:Array Oper)(i:Nat):List Nat :=
 match ops[i]? with
 | some o=>(o.after.toList.filter (Region.binds .any)).map (·.on)
 | none=>[]
def a3S(ops:Array Oper):Nat->List (List Nat)
 | 0=>[]
 | k+1=>let L:=a3S ops k;L++[(a2v ops k).flatMap fun e=>e::L.getD e []]
def a7j(ops:Array Oper)(i:Nat):List Nat:=(a3S ops (i+1)).getD i []
theorem a7L(ops:Array Oper):∀k,(a3S ops k).length=k
 | 0=>rfl
 | k+1=>by simp [a3S,a7L ops k]
theorem c1T(ops:Array Oper)(i:Nat):∀k,i<k->(a3S ops k).getD i []=a7j ops i
 | k+1,h=>by
  by_cases q:i=k
  ·subst q;rfl
  ·have:i<k:=by omega
   rw [<-c1T ops i k this];simp only [a3S,e9X];rw [e94 (by rw [a7L];exact this)]
theorem e9f(ops:Array Oper)(i:Nat):a7j ops i=(a2v ops i).flatMap fun e=>e::(a3S ops i).getD e []:=by
 unfold a7j;simp only [a3S,e9X];rw [e9Z (by rw [a7L];omega),a7L];simp
theorem c9A{ops:Array Oper}{Y2:Array Bool}{i:Nat}(h:i∈Region.ready .any ops Y2):i<ops.size/\Y2.getD i true=false/\∀e∈a2v ops i,Y2.getD e false=true:=by
 unfold Region.ready at h;obtain ⟨h1,h2⟩:=List.mem_filter.1 h;have hlt:=f0H.1 h1;simp only [e9N,f0G] at h2;refine ⟨hlt,h2.1,?_⟩;intro e he;unfold a2v at he;rw [Array.getElem?_eq_getElem hlt] at he h2;simp only [List.mem_map,List.mem_filter] at he;obtain ⟨ed,⟨hm,hb⟩,rfl⟩:=he;have:=h2.2;simp only [f0J,f0R,Array.all_eq_true_iff_forall_mem] at this;have:=this ed (by simpa using hm);simpa [hb] using this
theorem e7o{ops:Array Oper}{Y2:Array Bool}{i:Nat}(hlt:i<ops.size)(hl:Y2.getD i true=false)(he:∀e∈a2v ops i,Y2.getD e false=true):i∈Region.ready .any ops Y2:=by
 unfold Region.ready;refine List.mem_filter.2 ⟨f0H.2 hlt,?_⟩;rw [Array.getElem?_eq_getElem hlt];simp only [hl,e98,f0J,f0R,e93,Array.all_eq_true_iff_forall_mem];intro ed hm;by_cases hb:Region.binds .any ed=true
 ·have:ed.on∈a2v ops i:=by
   unfold a2v;rw [Array.getElem?_eq_getElem hlt];exact List.mem_map.2 ⟨ed,List.mem_filter.2 ⟨by simpa using hm,hb⟩,rfl⟩
  simp [he _ this]
 ·simp [hb]
section
variable {cx:Cx} {Γ:N1} {ops:Array Oper} {base:Nat} {A:Nat->J6} {Q:Exit->Act->World->Prop} {S':St} {rc:Rc}
theorem e58(c7N:∀i,i<ops.size->∀e∈a2v ops i,e<i)(hind:∀x i,x<i->i<ops.size->x ∉ a7j ops i->Ind ops base x i (rc x).2 (rc i).2)(hob:∀i,i<ops.size->∀p∈(rc i).1,p)(hQ:∀a' w' F' ι',t7 Γ F' ι' S' a' w'->Q .normal a' w'):∀(fuel:Nat) (R:List Nat) (Y2:Array Bool) (S:St) (F:Nat->Prop) (ι:Nat->Nat->Value) (a:Act) (w:World),
  R.length=fuel->Y2.size=ops.size->R.Pairwise (· < ·)->(∀i,i<ops.size->(Y2.getD i true=false↔i∈R))->(∀i∈R,i<ops.size)->(∀i,i<ops.size->i ∉ R->∀x∈a7j ops i,x ∉ R)->
  t7 Γ F ι S a w->(∀i∈R,base+i<S.h.length/\¬S.D (base+i))->a0E cx ops base A R S=some (S',R.map rc)->wpAny cx.P .any ops Q fuel Y2 a w:=by
 intro fuel;induction fuel with
 | zero =>
  intro R Y2 S F ι a w hR hsz hpw hlist hlt hdown hrel hfree hrun;have:R=[]:=e9V hR;subst this;unfold a0E at hrun;injection hrun with hrun;injection hrun with h1 h2;subst h1;refine ⟨?_,hQ _ _ _ _ hrel⟩;rw [List.eq_nil_iff_forall_not_mem];intro i hi;obtain ⟨h1,h2,_⟩:=c9A hi;have:=(hlist i h1).1 h2;simp at this
 | succ fuel ih =>
  intro R Y2 S F ι a w hR hsz hpw hlist hlt hdown hrel hfree hrun;refine ⟨fun e1q => ?_,fun i hi => ?_⟩
  ·exfalso
   cases R with
   | nil=>simp at hR
   | cons r R =>
    have hr:=hlt r (by simp);have hrd:r∈Region.ready .any ops Y2:=by
     refine e7o hr ((hlist r hr).2 (by simp)) ?_;intro e he;have hlt':=c7N r hr e he;have hen:e ∉ r::R:=by
      intro q;rcases e9R.1 q with q|q
      ·omega
      ·have:=(f0T.1 hpw).1 e q;omega
     have:=mt (hlist e (by omega)).1 hen;have hes:e<Y2.size:=by omega
     simp only [Array.getD_eq_getD_getElem?,Array.getElem?_eq_getElem hes,f0R] at this ⊢;simpa using this
    rw [e1q] at hrd;simp at hrd
  ·obtain ⟨hi1,hi2,hi3⟩:=c9A hi;have hiR:=(hlist i hi1).1 hi2;obtain ⟨A1,B1,hAB⟩:=List.append_of_mem hiR;have hpw':=hpw;rw [hAB] at hpw';obtain ⟨hpA,hpB,hpAB⟩:=f06.1 hpw';have hcl:∀x∈a7j ops i,x ∉ R:=by
    intro x hx;rw [e9f] at hx;obtain ⟨e,he,hx⟩:=List.mem_flatMap.1 hx;have hel:=c7N i hi1 e he;have heR:e ∉ R:=by
     intro q;have h1:=(hlist e (by omega)).2 q;have h2:=hi3 e he;have hes:e<Y2.size:=by omega
     simp only [Array.getD_eq_getD_getElem?,Array.getElem?_eq_getElem hes,f0R] at h1 h2;rw [h1] at h2;cases h2
    rcases e9R.1 hx with rfl|hx
    ·exact heR
    ·rw [c1T ops e i hel] at hx;exact hdown e (by omega) heR x hx
   have hfront:=c52 (cx:=cx) (A:=A) (rc:=rc) (i:=i) (l:=A1) (m:=B1) (S:=S) (S':=S') (fun x hx=>by
    have hxR:x∈R:=by rw [hAB];simp [hx]
    exact hind x i (hpAB x hx i (by simp)) hi1 (fun q=>hcl x q hxR)) (by rw [<-hAB];exact hrun)
   obtain ⟨S1,r,rs,h1,h2,h3⟩:=b0B hfront;simp only [f0e] at h3;injection h3 with h3 h4;subst h3;subst h4;obtain ⟨hD,hl⟩:=d2m (ps:=(rc i).1) (ft:=(rc i).2) h1;refine c7P hrel (hfree i hiR).1 (hfree i hiR).2 (ps:=(rc i).1) (ft:=(rc i).2) h1 (hob i hi1) fun a' w' F' ι' hrel' => ?_
   have hsub:∀j,j∈A1++B1↔(j∈R/\j≠i):=by
    intro j;rw [hAB];simp only [List.mem_append,e9R];constructor
    ·intro hj;refine ⟨by rcases hj with q|q<;>simp [q],?_⟩;rintro rfl
     rcases hj with q|q
     ·have:=hpAB j q j (by simp);omega
     ·have:=(f0T.1 hpB).1 j q;omega
    ·rintro ⟨q|rfl|q,hne⟩
     ·exact .inl q
     ·exact absurd rfl hne
     ·exact .inr q
   refine ih (A1++B1) _ S1 F' ι' a' w' ?_ (by simp [hsz]) ?_ ?_ ?_ ?_ hrel' ?_ h2
   ·rw [hAB] at hR;simp at hR ⊢;omega
   ·refine f06.2 ⟨hpA,(f0T.1 hpB).2,fun x hx y hy=>hpAB x hx y (by simp [hy])⟩
   ·intro j hj;rw [hsub];have hjs:j<Y2.size:=by omega
    simp only [Array.getD_eq_getD_getElem?];by_cases q:j=i
    ·subst q;simp [hjs]
    ·rw [Array.getElem?_setIfInBounds_ne (Ne.symm q),<-hlist j hj,Array.getD_eq_getD_getElem?];simp [q]
   ·intro j hj;exact hlt j ((hsub j).1 hj).1
   ·intro j hj hjn x hx hxm;have hxR:=((hsub x).1 hxm).1;by_cases q:j=i
    ·subst q;exact hcl x hx hxR
    ·exact hdown j hj (fun z=>hjn ((hsub j).2 ⟨z,q⟩)) x hx hxR
   ·intro j hj;have hjR:=((hsub j).1 hj)
    refine ⟨by rw [hl];exact (hfree j hjR.1).1,fun x => ?_⟩;rcases hD _ x with y|y
    ·exact (hfree j hjR.1).2 y
    ·exact hjR.2 (by omega)
end
def b6i(l:List Nat)(x:Nat):Bool:=l.any fun y=>y==x
theorem e77{l:List Nat}{x:Nat}:b6i l x=true↔x∈l:=by
 unfold b6i;rw [f1b];constructor
 ·rintro ⟨y,hy,h⟩
  simp at h;exact h▸hy
 ·intro h;exact ⟨x,h,by simp⟩
def dnN:List Nat->List Nat
 | []=>[]
 | x::xs=>if b6i (dnN xs) x then dnN xs else x::dnN xs
theorem c1U{x:Nat}:∀{l:List Nat},x∈dnN l->x∈l
 | y::l,h=>by
  unfold dnN at h;split at h
  ·exact e9R.2 (.inr (c1U h))
  ·rcases e9R.1 h with rfl|h
   ·simp
   ·exact e9R.2 (.inr (c1U h))
def a7E(ops:Array Oper):Nat->List (List Nat)
 | 0=>[]
 | k+1=>let L:=a7E ops k;L++[dnN ((a2v ops k).flatMap fun e=>e::L.getD e [])]
theorem b5q(ops:Array Oper):∀k,(a7E ops k).length=k
 | 0=>rfl
 | k+1=>by simp [a7E,b5q ops k]
theorem c0m(ops:Array Oper):∀k i,∀x∈(a7E ops k).getD i [],x∈(a3S ops k).getD i []
 | 0,i,x,h=>by simp [a7E] at h
 | k+1,i,x,h=>by
  simp only [a7E,a3S,e9X] at h ⊢;by_cases q:i<k
  ·rw [e94 (by rw [b5q];exact q)] at h;rw [e94 (by rw [a7L];exact q)];have:=c0m ops k i x (by rw [e9X];exact h);rwa [e9X] at this
  ·rw [e9Z (by rw [b5q];omega),b5q] at h;rw [e9Z (by rw [a7L];omega),a7L];by_cases q':i=k
   ·subst q';simp only [Nat.sub_self,f0B,f0R] at h ⊢;obtain ⟨e,he,hx⟩:=List.mem_flatMap.1 (c1U h);refine List.mem_flatMap.2 ⟨e,he,?_⟩;rcases e9R.1 hx with rfl|hx
    ·simp
    ·have:=c0m ops i e x (by rw [e9X];exact hx);rw [e9X] at this;exact e9R.2 (.inr this)
   ·have:i-k=(i-k-1)+1:=by omega
    rw [this] at h;simp at h
def c0B(ops:Array Oper)(base x i:Nat)(f1 f2:W3):Bool :=
  (match ops[x]?,ops[i]? with
   | some o1,some o2=>o1.apart ops o2
   | _,_=>false) &&
  f1.wr.all (fun id => !a1E f2.rd id && !a1E f2.wr id)&&f2.wr.all (fun id => !a1E f1.rd id) &&
  f2.rd.all (fun id => !(id.1==base+x))&&f2.wr.all (fun id => !(id.1==base+x)) &&
  f1.rd.all (fun id => !(id.1==base+i))&&f1.wr.all (fun id => !(id.1==base+i))
theorem b6j{l:List (Nat×Nat)}{x:Nat×Nat}(h:(!a1E l x)=true):x ∉ l:=by
 intro q;rw [a6y.2 q] at h;cases h
theorem e5u{ops:Array Oper}{base x i:Nat}{f1 f2:W3}(hne:x<i)(h:c0B ops base x i f1 f2=true):Ind ops base x i f1 f2:=by
 unfold c0B at h;simp only [e9N] at h;obtain ⟨⟨⟨⟨⟨⟨h1,h2⟩,h3⟩,h4⟩,h5⟩,h6⟩,h7⟩:=h;refine ⟨by omega,?_,?_,?_,?_,?_⟩
 ·intro o1 o2 e1 e2;rw [e1,e2] at h1;exact h1
 ·intro id hid;have:=List.all_eq_true.1 h2 id hid;simp only [e9N] at this;exact ⟨b6j this.1,b6j this.2⟩
 ·intro id hid;exact b6j (List.all_eq_true.1 h3 id hid)
 ·intro id hid;rcases List.mem_append.1 hid with q|q
  ·have:=List.all_eq_true.1 h4 id q;simpa using this
  ·have:=List.all_eq_true.1 h5 id q;simpa using this
 ·intro id hid;rcases List.mem_append.1 hid with q|q
  ·have:=List.all_eq_true.1 h6 id q;simpa using this
  ·have:=List.all_eq_true.1 h7 id q;simpa using this
def c4F(ops:Array Oper)(base:Nat)(L:List (List Nat))(fs:List W3):Bool :=
 (e9U ops.size).all fun i =>
  (a2v ops i).all (fun e=>Nat.blt e i) &&
  (e9U i).all fun x=>b6i (L.getD i []) x||c0B ops base x i (fs.getD x ⟨[],[]⟩) (fs.getD i ⟨[],[]⟩)
def b86(A:List (Nat×J6))(i:Nat):J6 :=
 match A with
 | []=>{}
 | (j,x)::A=>if j==i then x else b86 A i
def b4G:List (List Prop×W3)->List Prop
 | []=>[]
 | r::rs=>r.1++b4G rs
theorem c51{rs:List (List Prop×W3)}(h:∀p∈b4G rs,p):∀r∈rs,∀p∈r.1,p:=by
 induction rs with
 | nil=>intro r hr;cases hr
 | cons r rs ih =>
  intro r' hr p hp;rcases e9R.1 hr with rfl|hr
  ·exact h p (List.mem_append.2 (.inl hp))
  ·exact ih (fun p hp=>h p (List.mem_append.2 (.inr hp))) r' hr p hp
def a3k:Nat->List (Option (List s6))
 | 0=>[]
 | n+1=>none::a3k n
theorem c8e:∀(n i:Nat) (l:List s6),(a3k n)[i]?≠some (some l)
 | 0,i,l=>by simp [a3k]
 | n+1,0,l=>by simp [a3k]
 | n+1,i+1,l=>by simpa [a3k] using c8e n i l
theorem c4p:∀n,(a3k n).length=n
 | 0=>rfl
 | n+1=>by simp [a3k,c4p n]
def St.more(S:St)(n:Nat):St:={S with h:=S.h++a3k n}
theorem b8v{S:St}{n g:Nat}{l:List s6}:(S.more n).h[g]?=some (some l)↔S.h[g]?=some (some l):=by
 unfold St.more;simp only;by_cases q:g<S.h.length
 ·rw [e94 q]
 ·rw [e9Z (by omega)];constructor
  ·intro h;exact absurd h (c8e _ _ _)
  ·intro h;have:=(e9P.1 h).1;omega
theorem a9G{S:St}{n g:Nat}:(S.more n).D g↔S.D g:=by
 unfold St.D;constructor
 ·rintro ⟨l,h⟩
  exact ⟨l,b8v.1 h⟩
 ·rintro ⟨l,h⟩
  exact ⟨l,b8v.2 h⟩
theorem b3f{S:St}{n g j:Nat}:(S.more n).ent g j=S.ent g j:=by
 have key:∀e,(S.more n).ent g j=some e↔S.ent g j=some e:=by
  intro e;constructor
  ·intro h;obtain ⟨l,hl⟩:=St.D_of_ent h;rw [a1H hl] at h;rw [a1H (b8v.1 hl)];exact h
  ·intro h;obtain ⟨l,hl⟩:=St.D_of_ent h;rw [a1H hl] at h;rw [a1H (b8v.2 hl)];exact h
 cases h:S.ent g j with
 | some e=>exact (key e).2 h
 | none =>
  cases h':(S.more n).ent g j with
  | none=>rfl
  | some e=>rw [(key e).1 h'] at h;cases h
theorem t7.more{Γ:N1}{F:Nat->Prop}{ι:Nat->Nat->Value}{S:St}{a:Act}{w:World}(h:t7 Γ F ι S a w)(n:Nat):t7 Γ F ι (S.more n) a w :=
  { F0:=h.F0,F1:=h.F1,F2:=h.F2,kept:=h.kept
    tmps:=h.tmps.imp fun _ _ x=>x.mono (fun _ _ _=>rfl) (fun _ y=>y) (fun g y=>a9G.2 y) (fun _ _ _=>rfl)
    ents:=fun g j e he=>(h.ents g j e (b3f▸he)).mono (fun _ _ _=>rfl) (fun _ y=>y) (fun g y=>a9G.2 y) (fun _ _ _=>rfl) (fun _ _ _=>rfl)
    sep:=fun g j e k he=>h.sep g j e k (b3f▸he)
    inj:=fun g j e g' j' e' k he he'=>h.inj g j e g' j' e' k (b3f▸he) (b3f▸he')
    defers:=h.defers
    pins:=fun j c hc=>⟨a9G.2 (h.pins j c hc).1,(h.pins j c hc).2⟩}
def b8X(cx:Cx)(ops:Array Oper)(draw:Bool)(A:List (Nat×J6))(S:St):Option (St×List Prop) :=
 match a0E cx ops S.h.length (b86 A) (e9U ops.size) (S.more ops.size) with
 | none=>none
 | some (S',rs)=>if draw then (if c4F ops S.h.length (a7E ops ops.size) (rs.map (·.2)) then some (S',b4G rs) else none) else some (S',b4G rs)
section
variable {cx:Cx} {Γ:N1} {F:Nat->Prop} {ι:Nat->Nat->Value} {S S':St} {a:Act} {w:World} {ops:Array Oper} {A:List (Nat×J6)}
theorem d1a{base:Nat}{B:Nat->J6}:∀{l:List Nat} {S S':St} {rs:List (List Prop×W3)},a0E cx ops base B l S=some (S',rs)->rs.length=l.length
 | [],S,S',rs,h=>by
  unfold a0E at h;injection h with h;injection h with h1 h2;subst h2;rfl
 | i::l,S,S',rs,h=>by
  obtain ⟨S1,r,rs',h1,h2,rfl⟩:=b0B h;simp [d1a h2]
theorem d7j{α:Type}(d:α):∀{rs:List α} {n:Nat},rs.length=n->rs=(e9U n).map fun i=>rs.getD i d:=by
 intro rs n h;apply List.ext_getElem
 ·simp [h]
 ·intro i h1 h2;simp [e9X,h1]
theorem d5Y{draw:Bool}{id:Nat}{ps:List Prop}{Q:Exit->Act->World->Prop}(h:t7 Γ F ι S a w)(hr:b8X cx ops draw A S=some (S',ps))(hob:∀p∈ps,p)(hQ:∀a' w' F' ι',t7 Γ F' ι' S' a' w'->Q .normal a' w'):(Code.region id ops draw).wp cx.P Q a w:=by
 unfold b8X at hr;split at hr<;>try (cases hr;done)
 rename_i S1 rs hrun;have hfree:∀i∈e9U ops.size,S.h.length+i<(S.more ops.size).h.length/\¬(S.more ops.size).D (S.h.length+i):=by
  intro i hi;refine ⟨by simp [St.more,c4p,f0H.1 hi],fun q => ?_⟩;obtain ⟨l,hl⟩:=a9G.1 q;have:=(e9P.1 hl).1;omega
 cases draw with
 | false =>
  simp only [f0L,if_false] at hr;injection hr with hr;injection hr with h1 h2;subst h1;subst h2;exact wp_region (c7C (h.more ops.size) List.nodup_range hfree hrun (c51 hob) hQ)
 | true =>
  simp only [if_true] at hr;split at hr<;>try (cases hr;done)
  rename_i hap;injection hr with hr;injection hr with h1 h2;subst h1;subst h2;have hw:t7 Γ F ι (S.more ops.size) a {w with drawn:=w.drawn+1}:=(h.more ops.size).world ⟨rfl,rfl,rfl⟩ (f0d _) (fun _ _=>rfl);have hlen:=d1a hrun;rw [List.length_range] at hlen;have hrs:=d7j (([],⟨[],[]⟩):List Prop×W3) hlen;unfold c4F at hap;rw [List.all_eq_true] at hap;have hap':∀i,i<ops.size->(∀e∈a2v ops i,e<i)/\∀x,x<i->x ∉ a7j ops i->Ind ops S.h.length x i ((rs.getD x ([],⟨[],[]⟩)).2) ((rs.getD i ([],⟨[],[]⟩)).2):=by
   intro i hi;have:=hap i (f0H.2 hi);simp only [e9N] at this;refine ⟨fun e he => ?_,fun x hx hc => ?_⟩
   ·have:=List.all_eq_true.1 this.1 e he;rwa [Nat.blt_eq] at this
   ·have h2:=List.all_eq_true.1 this.2 x (f0H.2 hx);rcases Bool.or_eq_true_iff.1 h2 with q|q
    ·exfalso
     apply hc;have:=c0m ops ops.size i x (e77.1 q);rwa [c1T ops i ops.size hi] at this
    ·have:=e5u hx q;have hm:∀j,j<rs.length->(rs.map (·.2)).getD j ⟨[],[]⟩=(rs.getD j ([],⟨[],[]⟩)).2:=by
      intro j hj;simp [e9X,hj]
     rw [hm x (by omega),hm i (by omega)] at this;exact this
  refine wp_region_any cx.mixed ?_;have hrange:∀i,i<ops.size->rs.getD i ([],⟨[],[]⟩)∈rs:=by
   intro i hi;have:i<rs.length:=by omega
   simp [e9X,this]
  refine e58 (rc:=fun i=>rs.getD i ([],⟨[],[]⟩)) (base:=S.h.length) (A:=b86 A) (fun i hi=>(hap' i hi).1) (fun x i hx hi hc=>(hap' i hi).2 x hx hc) (fun i hi p hp=>c51 hob _ (hrange i hi) p hp) hQ
   ops.size (e9U ops.size) _ _ F ι a _ (by simp) (by simp) ?_ ?_ ?_ ?_ hw hfree ?_
  ·exact List.pairwise_lt_range
  ·intro i hi;simp [f0H,hi,Array.getD_eq_getD_getElem?]
  ·intro i hi;exact f0H.1 hi
  ·intro i hi hn;exact absurd (f0H.2 hi) hn
  ·rw [<-hrs];exact hrun
end
def mvM(t:List V):List Item->Option (List Item)
 | .code .skip::k=>some k
 | .inBlock _::k=>some k
 | .code (.seq x y)::k=>some (.code x :: .code y::k)
 | .code (.cond c x y)::k=>match s8 t c with
  | .b true=>some (.code x::k)
  | .b false=>some (.code y::k)
  | _=>none
 | .code (.block id c)::k=>some (.code c :: .inBlock id::k)
 | .code (.loop c)::k=>some (.code c :: .inLoop c::k)
 | .inLoop c::k=>some (.code c :: .inLoop c::k)
 | .code (.exit id)::k=>exitTo id k
 | _=>none
abbrev Q4:=List (List (Nat×J6))
def goM(cx:Cx):Nat->List Item->St->Q4->Option (List Item×St×List Prop)
 | 0,_,_,_=>none
 | n+1,k,S,sc =>
  match k with
  | .code (.region id ops draw)::k'=>match sc with
   | []=>some (k,S,[])
   | A::sc'=>match b8X cx ops draw A S with
    | some (S1,ps)=>match goM cx n k' S1 sc' with
     | some (k2,S2,qs)=>some (k2,S2,ps++qs)
     | none=>none
    | none=>none
  | k=>match mvM S.t k with
   | some k1=>goM cx n k1 S sc
   | none=>match sc with
    | []=>some (k,S,[])
    | _::_=>none
section
variable {cx:Cx} {Γ:N1} {F:Nat->Prop} {ι:Nat->Nat->Value} {S S':St} {a:Act} {w:World} {b:Frame} {cs:List Frame} {k k':List Item}
theorem e8Y(h:t7 Γ F ι S a w)(hm:mvM S.t k=some k'):step cx.P (lone (b.at a k) cs w)=.next (lone (b.at a k') cs w):=by
 unfold mvM at hm;split at hm
 ·injection hm with hm;subst hm;exact step_skip
 ·injection hm with hm;subst hm;exact step_inBlock
 ·injection hm with hm;subst hm;exact step_seq
 ·rename_i c x y k0;have hc:=C9 h.tmps c;split at hm<;>try (cases hm;done)
  ·rename_i hx;injection hm with hm;subst hm;rw [hx] at hc;have:=step_cond (P:=cx.P) (b:=b) (k:=k0) (cs:=cs) (w:=w) (x:=x) (y:=y) hc.inv_b;simpa using this
  ·rename_i hx;injection hm with hm;subst hm;rw [hx] at hc;have:=step_cond (P:=cx.P) (b:=b) (k:=k0) (cs:=cs) (w:=w) (x:=x) (y:=y) hc.inv_b;simpa using this
 ·injection hm with hm;subst hm;exact step_block
 ·injection hm with hm;subst hm;exact step_loop
 ·injection hm with hm;subst hm;exact step_inLoop
 ·exact step_exit hm
 ·cases hm
theorem d8x:∀{n:Nat} {k:List Item} {S:St} {F:Nat->Prop} {ι:Nat->Nat->Value} {a:Act} {w:World} {sc:Q4} {ps:List Prop},t7 Γ F ι S a w->goM cx n k S sc=some (k',S',ps)->(∀p∈ps,p)->
  ∃a' w' F' ι',Steps cx.P (lone (b.at a k) cs w) (lone (b.at a' k') cs w')/\t7 Γ F' ι' S' a' w':=by
 intro n;induction n with
 | zero=>intro k S F ι a w sc ps h hg hob;cases hg
 | succ n ih =>
  intro k S F ι a w sc ps h hg hob;unfold goM at hg;split at hg
  ·rename_i id ops draw k0;split at hg
   ·injection hg with hg;injection hg with h1 h2;injection h2 with h2 h3;subst h1;subst h2;exact ⟨a,w,F,ι,.refl _ _,h⟩
   ·rename_i A sc';split at hg<;>try (cases hg;done)
    rename_i S1 qs hr;split at hg<;>try (cases hg;done)
    rename_i k2 S2 rs hg2;injection hg with hg;injection hg with h1 h2;injection h2 with h2 h3;subst h1;subst h2;subst h3;have hwp:=d5Y (cx:=cx) (draw:=draw) (id:=id) (Q:=fun e a' w'=>e=.normal/\∃F' ι',t7 Γ F' ι' S1 a' w') h hr (fun p hp=>hob p (List.mem_append.2 (.inl hp)))
     (fun a' w' F' ι' hrel=>⟨rfl,F',ι',hrel⟩)
    obtain ⟨e,a1,w1,⟨he,F1,ι1,h1⟩,harr⟩:=hwp b k0 cs;subst he;obtain ⟨a2,w2,F2,ι2,hs,h2⟩:=ih h1 hg2 (fun p hp=>hob p (List.mem_append.2 (.inr hp)));exact ⟨a2,w2,F2,ι2,Steps.trans harr hs,h2⟩
  ·split at hg
   ·rename_i k1 hm;obtain ⟨a2,w2,F2,ι2,hs,h2⟩:=ih h hg hob;exact ⟨a2,w2,F2,ι2,.head (e8Y h hm) hs,h2⟩
   ·split at hg<;>try (cases hg;done)
    injection hg with hg;injection hg with h1 h2;injection h2 with h2 h3;subst h1;subst h2;exact ⟨a,w,F,ι,.refl _ _,h⟩
end
structure N0 where
 f:Nat
 fn:Func
 rms:List PM
 oms:List (Option (Nat×PM))
def c4S(w:World)(F:Nat->Prop)(fp:List Nat)(cargs:List Value)(res:V)(outs:List (Option V))(e:Ending)(w':World):Prop :=
 ∃ c F' fr fo,e=.returned c/\a3F (· ∈ fp) w w'/\(∀k,F k->F' k)/\(∀k,F' k->(F k\/k∈fp\/w.heap.size<=k)/\k<w'.heap.size)/\
   BR w' F' res c fr/\BO w' F' outs cargs fo/\(fr++fo).Nodup/\∀k∈fr++fo,¬F' k/\(k∈fp\/w.heap.size<=k)/\k<w'.heap.size
def PM.isVal:PM->Bool
 | .val .. => true
 | _=>false
def a6v(bs:List Value):List (Option Nat)->Nat->List Value->Prop
 | [],_,[]=>True
 | none::om,j,d::ds=>d.oneCell'=true/\a6v bs om j ds
 | some _::om,j,d::ds=>bs[j]?=some d/\a6v bs om (j+1) ds
 | _,_,_=>False
inductive a1b:List (Option (Nat×PM))->List Value->List Value->Prop
 | nil (bs):a1b [] [] bs
 | skip (oms c cs bs) (t:a1b oms cs bs):a1b (none::oms) (c::cs) bs
 | pin (j m oms c cs bs) (hm:m.isVal=false) (h:bs[j]?=some c) (t:a1b oms cs bs):a1b (some (j,m)::oms) (c::cs) bs
 | agg (j ck om oms ds cs bs) (h:a6v bs om j ds) (t:a1b oms cs bs):a1b (some (j,.val ck om)::oms) (.agg ds.toArray::cs) bs
def I6(cx:Cx)(X:N0)(res:V)(outs:List (Option V))(k:List Item)(S:St):Prop :=
 ∀(w0:World) (F0:Nat->Prop) (fp:List Nat) (cargs bs:List Value),a1b X.oms cargs bs->(∀k,F0 k->k<w0.heap.size)->
 ∀(F:Nat->Prop) (ι:Nat->Nat->Value) (a:Act) (w:World) (b:Frame) (cs:List Frame),t7 ⟨w0,F0,(· ∈ fp),bs⟩ F ι S a w->b.fn=X.f->b.kind=.normal->
  ∃e w' fr,c4S w0 F0 fp cargs res outs e w'/\Comes cx.P (lone (b.at a k) cs w) (lone fr cs w') e/\fr.fn=X.f/\fr.leaving cx.P w' e
theorem I6.go{cx:Cx}{X:N0}{res:V}{outs:List (Option V)}{k k':List Item}{S S':St}{n:Nat}{sc:Q4}{ps:List Prop}(hg:goM cx n k S sc=some (k',S',ps))(hob:∀p∈ps,p)(h:I6 cx X res outs k' S'):I6 cx X res outs k S:=by
 intro w0 F0 fp cargs bs hp hF0 F ι a w b cs hrel hb1 hb2;obtain ⟨a',w',F',ι',hs,hrel'⟩:=d8x (b:=b) (cs:=cs) hrel hg hob;obtain ⟨e,w2,fr,h1,h2,h3,h4⟩:=h w0 F0 fp cargs bs hp hF0 F' ι' a' w' b cs hrel' hb1 hb2;exact ⟨e,w2,fr,h1,.of_steps hs h2,h3,h4⟩
def c1x(cx:Cx)(t:List V)(r:ResultVar):j7 V :=
 match r with
 | .tmp k=>j7.pure (t.getD k .bot)
 | .cell a ty=>match cx.T ty with
  | some ti=>match t.getD a .bot with
   | .ptr g j off=>j7.bind (j7.rd g j) fun e=>match e with
    | .var _ cs=>match Q8 ti (cs.drop off) with
     | some v=>j7.pure v
     | none=>j7.no
    | _=>j7.no
   | _=>j7.no
  | none=>j7.no
def c0M(cx:Cx)(t:List V):List ResultVar->j7 (List V)
 | []=>j7.pure []
 | r::rs=>j7.bind (c1x cx t r) fun v=>j7.bind (c0M cx t rs) fun vs=>j7.pure (v::vs)
def b36:List (Option Nat)->Nat->j7 (List V)
 | [],_=>j7.pure []
 | none::om,j=>j7.bind (b36 om j) fun vs=>j7.pure (.bot::vs)
 | some _::om,j=>j7.bind (j7.rd 0 j) fun e=>j7.bind (b36 om (j+1)) fun vs=>match e with
  | .row _ sz n _=>j7.pure (.own 0 j sz 0 n::vs)
  | .deep false _ sz n _=>j7.pure (.own 0 j sz 0 n::vs)
  | _=>j7.no
def a8h:List (Option (Nat×PM))->j7 (List V×List PM)
 | []=>j7.pure ([],[])
 | none::os=>a8h os
 | some (j,.val ck om)::os=>j7.bind (b36 om j) fun cs=>j7.bind (a8h os) fun x=>j7.pure (.agg cs::x.1,.val ck om::x.2)
 | some (j,m)::os=>j7.bind (j7.rd 0 j) fun e=>match m,e with
  | .ptr _ _,.var _ _=>j7.bind (a8h os) fun x=>j7.pure (.ptr 0 j 0::x.1,m::x.2)
  | .row,.row _ sz n _=>j7.bind (a8h os) fun x=>j7.pure (.own 0 j sz 0 n::x.1,m::x.2)
  | .row,.deep false _ sz n _=>j7.bind (a8h os) fun x=>j7.pure (.own 0 j sz 0 n::x.1,m::x.2)
  | _,_=>j7.no
def b7C:List V->V
 | [v]=>v
 | vs=>.tup vs
def a7K:List (Option (Nat×PM))->List V->List (Option V)
 | [],_=>[]
 | none::os,vs=>none::a7K os vs
 | some _::os,v::vs=>some v::a7K os vs
 | some _::os,[]=>none::a7K os []
def c0F(cx:Cx)(X:N0)(t:List V):j7 (AR (List V)×Nat) :=
 j7.bind (c0M cx t X.fn.results.toList) fun rv=>j7.bind (a8h X.oms) fun ov=>j7.bind (a1q (X.rms++ov.2) (rv++ov.1)) fun r =>
  if a2q r.ks&&r.ls.all (fun id => !a1E r.ks id)&&Nat.beq rv.length X.rms.length then j7.pure (r,rv.length) else j7.no
def c1B(cx:Cx)(X:N0)(k:List Item)(S:St):Option (V×List (Option V)×List Prop) :=
 match k with
 | .code .ret::_|[]=>match c0F cx X S.t S.ent with
  | some ((r,n),_)=>some (b7C (r.v.take n),a7K X.oms (r.v.drop n),r.obl)
  | none=>none
 | _=>none
section
variable {cx:Cx} {Γ:N1} {F:Nat->Prop} {ι:Nat->Nat->Value} {S S':St} {a:Act} {w:World} {b:Frame} {cs:List Frame} {k k':List Item}
theorem d3t(h:t7 Γ F ι S a w)(k:Nat):RV w F S.D ι (S.t.getD k .bot) (a.tmps.getD k undef):=C9 h.tmps (.tmp k)
def b71(P:Program)(tmps:Array Value)(w:World)(r:ResultVar)(c:Value):Prop :=
  ((match r with
    | .tmp t=>pure (tmps.getD t undef)
    | .cell a t=>do loadVar t (<-asAddr (tmps.getD a undef))):Sem Value).run P w=.ok c w
theorem e29(h:t7 Γ F ι S a w){r:ResultVar}{v:V}{lg:List (Nat×Nat)}(hr:c1x cx S.t r S.ent=some (v,lg)):∃c,b71 cx.P a.tmps w r c/\RV w F S.D ι v c:=by
 unfold c1x at hr;cases r with
 | tmp k =>
  have:=j7.pure_some hr;injection this with this h9;subst this;exact ⟨_,rfl,d3t h k⟩
 | cell ad ty =>
  simp only at hr;cases hti:cx.T ty with
  | none=>rw [hti] at hr;cases hr
  | some ti =>
  rw [hti] at hr;obtain ⟨i,d,z,htf⟩:=cx.tf hti;have hx:=d3t h ad;generalize S.t.getD ad .bot=xv at hr hx;cases xv<;>try (cases hr;done)
  case ptr g j off =>
   obtain ⟨hD,b,hι,hc⟩:=hx.inv_ptr;obtain ⟨e,l1,l2,hrd,hp',hl12⟩:=j7.bind_some hr;clear hr;have he:=(j7.rd_some hrd).1;simp only at he;have hre:=h.ents g j e he;split at hp'<;>try (cases hp';done)
   ·rename_i e0 cs;obtain ⟨g0,cur,h1,hg,hcs⟩:=hre;rw [hι] at h1;injection h1 with h1;injection h1 with h1;injection h1 with h1;subst h1;cases hrv:Q8 ti (cs.drop off) with
    | none=>rw [hrv] at hp';cases hp'
    | some v' =>
    rw [hrv] at hp';have:=j7.pure_some hp';injection this with this h9;subst this;obtain ⟨c,hrd',hvc⟩:=a5S (hcs.drop off) hrv;refine ⟨c,?_,hvc⟩;unfold b71;simp only [hc,asAddr];have:=d0p htf (a5Y hg off) hrd';simpa [Sem.run_bind] using this
theorem c8n(h:t7 Γ F ι S a w):∀{rs:List ResultVar} {vs:List V} {lg:List (Nat×Nat)},c0M cx S.t rs S.ent=some (vs,lg)->∃cs,w8 (b71 cx.P a.tmps w) rs cs/\w8 (RV w F S.D ι) vs cs
 | [],vs,lg,hr=>by
  have:=j7.pure_some hr;injection this with this h9;subst this;exact ⟨[],.nil,.nil⟩
 | r::rs,vs,lg,hr=>by
  obtain ⟨v,l1,l2,h1,h2,_⟩:=j7.bind_some hr;obtain ⟨vs',l3,l4,h3,h4,_⟩:=j7.bind_some h2;have:=j7.pure_some h4;injection this with this h9;subst this;obtain ⟨c,e1,e2⟩:=e29 h h1;obtain ⟨cs,e3,e4⟩:=c8n h h3;exact ⟨c::cs,.cons e1 e3,.cons e2 e4⟩
def b1k:List Value->Value
 | [c]=>c
 | cs=>.tuple cs.toArray
theorem d3n{P:Program}{w:World}{α:Type}{f:α->Sem Value}:∀{l:List α} {cs:List Value},w8 (fun r c=>(f r).run P w=.ok c w) l cs->(l.mapM f).run P w=.ok cs w
 | _,_,.nil=>by simp [Sem.run]
 | _,_,.cons h t=>by
  rw [List.mapM_cons];have:=d3n t;simp [Sem.run_bind,h,this]
theorem e3N{P:Program}{fn:Func}{tmps:Array Value}{w:World}{cs:List Value}(h:w8 (b71 P tmps w) fn.results.toList cs):(results fn tmps).run P w=.ok (b1k cs) w:=by
 unfold results;have hm:=d3n (f:=fun r:ResultVar=>match r with
  | .tmp t=>pure (tmps.getD t undef)
  | .cell a t=>do loadVar t (<-asAddr (tmps.getD a undef))) (h.imp fun r c x=>x)
 have he:fn.results=fn.results.toList.toArray:=by simp
 rw [he,List.mapM_toArray];have hp:(if hh:cs.toArray.size=1 then cs.toArray[0] else Value.tuple cs.toArray)=b1k cs:=by
  rcases cs with _|⟨c,_|⟨c',cs⟩⟩
  ·rfl
  ·rfl
  ·have:¬(c::c'::cs).toArray.size=1:=by simp
   rw [dif_neg this];rfl
 simp only [map_eq_pure_bind,Sem.run_bind,bind_assoc,pure_bind];refine (congrArg (fun r=>Result.andThen r _) hm).trans ?_;simp only [Result.andThen];rw [<-hp];rfl
theorem c2r(h:t7 Γ F ι S a w):∀{om:List (Option Nat)} {j:Nat} {ds:List Value} {vs:List V} {lg:List (Nat×Nat)},a6v Γ.pins om j ds->b36 om j S.ent=some (vs,lg)->w8 (RC w F S.D ι) vs ds
 | [],j,[],vs,lg,_,hr=>by
  have:=j7.pure_some hr;injection this with h1 h2;subst h1;exact .nil
 | none::om,j,d::ds,vs,lg,hc,hr=>by
  obtain ⟨xs,l1,l2,h1,h2,_⟩:=j7.bind_some hr;have:=j7.pure_some h2;injection this with h3 h4;subst h3;exact .cons (.fv _ _ (.bot _ hc.1)) (c2r h hc.2 h1)
 | some _::om,j,d::ds,vs,lg,hc,hr=>by
  obtain ⟨e,l1,l2,hrd,hp,_⟩:=j7.bind_some hr;have he:=(j7.rd_some hrd).1;simp only at he;have hD:=St.D_of_ent he;have hι:=(h.pins j d hc.1).2;have hre:=h.ents 0 j e he;obtain ⟨xs,l3,l4,h1,h2,_⟩:=j7.bind_some hp;have ht:=c2r h hc.2 h1;split at h2<;>try (cases h2;done)
  ·have:=j7.pure_some h2;injection this with h3 h4;subst h3;refine .cons ?_ ht;have:=RC.whole hD rfl hre;rwa [hι] at this
  ·have:=j7.pure_some h2;injection this with h3 h4;subst h3;refine .cons ?_ ht;obtain ⟨flat,fs,ho,_⟩:=hre;have:=RC.wholeO (F:=F) (D:=S.D) hD rfl ho;rwa [hι] at this
 | [],_,_::_,_,_,hc,_=>hc.elim
 | none::_,_,[],_,_,hc,_=>hc.elim
 | some _::_,_,[],_,_,hc,_=>hc.elim
theorem a98(h:t7 Γ F ι S a w):∀{oms:List (Option (Nat×PM))} {cargs:List Value} {vs:List V} {ms:List PM} {lg:List (Nat×Nat)},a1b oms cargs Γ.pins->a8h oms S.ent=some ((vs,ms),lg)->∃cs,w8 (RV w F S.D ι) vs cs/\
  ∀{F1:Nat->Prop} {us:List V} {f:List Nat},BS w F1 us cs f->BO w F1 (a7K oms us) cargs f
 | [],_,vs,ms,lg,.nil _,hr=>by
  have:=j7.pure_some hr;injection this with h1 h2;injection h1 with h1 h3;subst h1;exact ⟨[],.nil,fun hb=>by cases hb;exact .nil⟩
 | none::oms,_,vs,ms,lg,.skip _ c cs _ t,hr=>by
  obtain ⟨cs',e1,e2⟩:=a98 h t hr;exact ⟨cs',e1,fun {F1 us f} hb=>.skip _ _ _ _ (e2 hb)⟩
 | some (j,.val ck om)::oms,_,vs,ms,lg,.agg _ _ _ _ ds cs _ hc t,hr=>by
  obtain ⟨xs,l1,l2,hxs,hp,_⟩:=j7.bind_some hr;obtain ⟨x,l3,l4,h1,h2,_⟩:=j7.bind_some hp;have:=j7.pure_some h2;injection this with h3 h4;injection h3 with h3 h5;subst h3;obtain ⟨cs',e1,e2⟩:=a98 h t h1;refine ⟨.agg ds.toArray::cs',.cons (.one _ _ (.agg _ _ (c2r h hc hxs))) e1,?_⟩;intro F1 us f hb;cases hb with
  | cons v c f vs cs fs h t=>exact .cons _ _ _ _ _ _ h (e2 t)
 | some (j,.val ck om)::oms,_,vs,ms,lg,.pin _ _ _ c cs _ hm hc t,hr=>by cases hm
 | some (j,.part)::oms,_,vs,ms,lg,.pin _ _ _ c cs _ hm hc t,hr=>by
  obtain ⟨e,l1,l2,hrd,hp,_⟩:=j7.bind_some hr;cases e<;>cases hp
 | some (j,.ptr ck om)::oms,_,vs,ms,lg,.pin _ _ _ c cs _ hm hc t,hr=>by
  obtain ⟨e,l1,l2,hrd,hp,_⟩:=j7.bind_some hr;have he:=(j7.rd_some hrd).1;simp only at he;have hD:=St.D_of_ent he;have hι:=(h.pins j c hc).2;have hre:=h.ents 0 j e he;cases e<;>try (cases hp;done)
  obtain ⟨x,l3,l4,h1,h2,_⟩:=j7.bind_some hp;have:=j7.pure_some h2;injection this with h3 h4;injection h3 with h3 h5;subst h3;obtain ⟨cs',e1,e2⟩:=a98 h t h1;obtain ⟨g,cur,q1,q2,q3⟩:=hre;refine ⟨c::cs',.cons (.one _ _ (.cell _ _ ?_)) e1,?_⟩
  ·rw [<-hι,q1];exact .ptr 0 j 0 g hD q1
  ·intro F1 us f hb;cases hb with
   | cons v c f vs cs fs h t=>exact .cons _ _ _ _ _ _ h (e2 t)
 | some (j,.row)::oms,_,vs,ms,lg,.pin _ _ _ c cs _ hm hc t,hr=>by
  obtain ⟨e,l1,l2,hrd,hp,_⟩:=j7.bind_some hr;have he:=(j7.rd_some hrd).1;simp only at he;have hD:=St.D_of_ent he;have hι:=(h.pins j c hc).2;have hre:=h.ents 0 j e he;cases e<;>try (cases hp;done)
  case row =>
   obtain ⟨x,l3,l4,h1,h2,_⟩:=j7.bind_some hp;have:=j7.pure_some h2;injection this with h3 h4;injection h3 with h3 h5;subst h3;obtain ⟨cs',e1,e2⟩:=a98 h t h1;refine ⟨c::cs',.cons (.one _ _ (.cell _ _ ?_)) e1,?_⟩
   ·have:=RC.whole hD rfl hre;rwa [hι] at this
   ·intro F1 us f hb;cases hb with
    | cons v c f vs cs fs h t=>exact .cons _ _ _ _ _ _ h (e2 t)
  case deep o _ _ _ _ =>
   cases o<;>try (cases hp;done)
   obtain ⟨x,l3,l4,h1,h2,_⟩:=j7.bind_some hp;have:=j7.pure_some h2;injection this with h3 h4;injection h3 with h3 h5;subst h3;obtain ⟨cs',e1,e2⟩:=a98 h t h1;obtain ⟨flat,fs,ho,_⟩:=hre;refine ⟨c::cs',.cons (.one _ _ (.cell _ _ ?_)) e1,?_⟩
   ·have:=RC.wholeO (F:=F) (D:=S.D) hD rfl ho;rwa [hι] at this
   ·intro F1 us f hb;cases hb with
    | cons v c f vs cs fs h t=>exact .cons _ _ _ _ _ _ h (e2 t)
theorem w8.app{α β:Type}{R:α->β->Prop}:∀{B0 bs cs ds},w8 R B0 bs->w8 R cs ds->w8 R (B0++cs) (bs++ds)
 | _,_,_,_,.nil,k=>k
 | _,_,_,_,.cons hx t,k=>.cons hx (t.app k)
theorem BS.split:∀{c1 c2:List Value} {vs:List V} {f:List Nat},BS w F vs (c1++c2) f->∃f1 f2,f=f1++f2/\BS w F (vs.take c1.length) c1 f1/\BS w F (vs.drop c1.length) c2 f2
 | [],c2,vs,f,h=>⟨[],f,rfl,by simpa using .nil,by simpa using h⟩
 | c::c1,c2,_,_,.cons v _ f vs _ fs h t=>by
  obtain ⟨f1,f2,rfl,h1,h2⟩:=BS.split t;exact ⟨f++f1,f2,by simp,.cons _ _ _ _ _ _ h h1,h2⟩
theorem BS.pack{vs:List V}{cs:List Value}{f:List Nat}(h:BS w F vs cs f):BR w F (b7C vs) (b1k cs) f:=by
 cases h with
 | nil=>exact .tup _ _ _ .nil
 | cons v c f vs cs fs h t =>
  cases t with
  | nil=>rw [f0m];exact .one _ _ _ h
  | cons v' c' f' vs' cs' fs' h' t'=>exact .tup _ _ _ (.cons _ _ _ _ _ _ h (.cons _ _ _ _ _ _ h' t'))
theorem I6.ret{X:N0}{res:V}{outs:List (Option V)}{ps:List Prop}(hf:cx.P.funcs[X.f]?=some X.fn)(hr:c1B cx X k S=some (res,outs,ps))(hob:∀p∈ps,p):I6 cx X res outs k S:=by
 obtain ⟨r,n,lg,hR,rfl,rfl,rfl,hk⟩:∃r n lg,c0F cx X S.t S.ent=some ((r,n),lg)/\b7C (r.v.take n)=res/\a7K X.oms (r.v.drop n)=outs/\r.obl=ps/\(k=[]\/∃k',k=.code .ret::k'):=by
  unfold c1B at hr;split at hr<;>try (cases hr;done)
  all_goals
   split at hr<;>try (cases hr;done)
   rename_i r n lg hR;injection hr with hr;injection hr with h1 h2;injection h2 with h2 h3;first|exact ⟨r,n,lg,hR,h1,h2,h3,.inr ⟨_,rfl⟩⟩|exact ⟨r,n,lg,hR,h1,h2,h3,.inl rfl⟩
 intro w0 F0 fp cargs bs hp hF0 F ι a w b cs h hb1 hb2;unfold c0F at hR;obtain ⟨rv,l1,l2,g1,g2,_⟩:=j7.bind_some hR;obtain ⟨⟨ov,om⟩,l3,l4,g3,g4,_⟩:=j7.bind_some g2;obtain ⟨r',l5,l6,g5,g6,_⟩:=j7.bind_some g4;simp only at g6;split at g6<;>try (cases g6;done)
 rename_i hchk;have:=j7.pure_some g6;injection this with e1 e2;injection e1 with e1 e3;subst e1;subst e3;simp only [e9N] at hchk;obtain ⟨⟨hnk,hls⟩,hlen⟩:=hchk;have hnk':=a4S hnk;have hdis:∀id∈r.ls,id ∉ r.ks:=fun id hid=>b6j (List.all_eq_true.1 hls id hid)
 obtain ⟨rcs,q1,q2⟩:=c8n h g1;obtain ⟨ocs,q3,q4⟩:=a98 h hp g3;let F1:Nat->Prop:=fun k=>F k\/∃id∈r.ls,∃e,S.ent id.1 id.2=some e/\EB w e (ι id.1 id.2) k
 obtain ⟨fpx,hbs,hfps,hhk,hhl⟩:=c6K (F1:=F1) h (fun k x=>.inl x) (q2.app q3) g5 hob (fun id hid e k he hk=>.inr ⟨id,hid,e,he,hk⟩);obtain ⟨f1,f2,hf12,b1,b2⟩:=hbs.split;have hl2:rcs.length=rv.length:=q2.length.symm;rw [hl2] at b1 b2;have hfpn:=L1.nodup h hfps hnk';have hF1lt:∀k,F1 k->k<w.heap.size:=by
  rintro k (x|⟨id,hid,e,he,hb⟩)
  ·exact h.F1 k x
  ·obtain ⟨e',he',hl'⟩:=hhl id hid;have:e=e':=by rw [he] at he';injection he'
   subst this;exact h.lt he hl' hb
 have hfin:c4S w0 F0 fp cargs (b7C (r.v.take rv.length)) (a7K X.oms (r.v.drop rv.length)) (.returned (b1k rcs)) w:=by
  refine ⟨b1k rcs,F1,f1,f2,rfl,h.kept,fun k x=>.inl (h.F0 k x),?_,b1.pack,q4 b2,?_,?_⟩
  ·rintro k x
   refine ⟨?_,hF1lt k x⟩;rcases x with x|⟨id,hid,e,he,hb⟩
   ·exact h.F2 k x
   ·obtain ⟨e',he',hl'⟩:=hhl id hid;have:e=e':=by rw [he] at he';injection he'
    subst this;exact .inr (h.sep _ _ _ k he hl' hb).2
  ·rw [<-hf12];exact hfpn
  ·intro k hk;rw [<-hf12] at hk;obtain ⟨id,hid,e,he,hl,hb⟩:=hfps.mem hk;obtain ⟨z1,z2⟩:=h.sep _ _ e k he hl hb;refine ⟨?_,z2,h.lt he hl hb⟩;rintro (x|⟨id',hid',e0,he0,hb'⟩)
   ·exact z1 x
   ·obtain ⟨e',he',hl'⟩:=hhl id' hid';have:e0=e':=by rw [he0] at he';injection he'
    subst this;obtain ⟨y1,y2⟩:=h.inj _ _ e _ _ _ k he he' hl hl' hb hb';have:id=id':=Prod.ext y1 y2;exact hdis id' hid' (this▸hid)
 have hres:=e3N (P:=cx.P) q1;rcases hk with rfl|⟨k',rfl⟩
 ·exact ⟨_,w,_,hfin,.one step_end,hb1,rfl,h.defers,hb2,X.fn,by show cx.P.funcs[b.fn]?=_;rw [hb1];exact hf,hres⟩
 ·exact ⟨_,w,_,hfin,.one step_ret,hb1,rfl,h.defers,hb2,X.fn,by show cx.P.funcs[b.fn]?=_;rw [hb1];exact hf,hres⟩
end
inductive Loc where
 | tmp (t:Nat)
 | sub (t i:Nat)
 | cell (g j i:Nat)
def St.get(S:St):Loc->Option V
 | .tmp t=>S.t[t]?
 | .sub t i=>match S.t[t]? with
  | some (.agg cs)=>cs[i]?
  | _=>none
 | .cell g j i=>match S.ent g j with
  | some (.var _ cs)=>cs[i]?
  | _=>none
def St.put(S:St)(l:Loc)(v:V):St :=
 match l with
 | .tmp t=>{S with t:=S.t.set t v}
 | .sub t i=>match S.t[t]? with
  | some (.agg cs)=>{S with t:=S.t.set t (.agg (cs.set i v))}
  | _=>S
 | .cell g j i=>match S.ent g j with
  | some (.var e cs)=>S.setE g j (.var e (cs.set i v))
  | _=>S
inductive Fix where
 | own (l:Loc) (e sz:Nat)
 | frz (l:Loc) (ck:Option Nat)
 | is (l:Loc) (v:V)
 | ent (g j:Nat) (e:s6)
 | plug (g j idx off:Nat) (r:List V) (e:Nat)
 | shut (g j n:Nat) (rows:List (List V))
 | ownD (l:Loc) (e sz:Nat)
 | kill (g j:Nat)
def V.isCell:V->Bool
 | .agg _ | .tup _ | .bot=>false
 | _=>true
def a6q(f:Fix)(S:St):Option (St×List Prop) :=
 match f with
 | .own l e sz=>match S.get l with
  | some .nil=>some (((S.more 1).lay S.h.length [.row e sz 0 []]).put l (.own S.h.length 0 sz 0 0),[])
  | _=>none
 | .frz l ck=>match S.get l with
  | some v=>if v.isCell then match fzP ck v S.ent with
   | some ((v',us,ps),_)=>some ((S.upds us).put l v',ps)
   | none=>none else none
  | none=>none
 | .is l v'=>match S.get l with
  | some v=>if v.isCell then some (S.put l v',[v=v']) else none
  | none=>none
 | .ent g j e'=>match S.ent g j with
  | some e=>some (S.setE g j e',[e=e'])
  | none=>none
 | .plug g j idx off r e=>match S.ent g j,r[off]? with
  | some (.deep o t sz n rows),some (.own g' j' sz' lo n')=>match Q6 none (some e) (.own g' j' sz' lo n') S.ent with
   | some (f,_)=>if off+1<=sz/\a2q f.ks/\a1E f.ks (g,j)=false then some (S.upds (E6 f.ks++[((g,j),.deep o t sz n (rows.set idx (A0 r off [f.v])))]),(rows[idx]?=some r)::f.obl) else none
   | none=>none
  | _,_=>none
 | .kill g j=>match S.ent g j with
  | some _=>some (S.setE g j .dead,[])
  | none=>none
 | .shut g j n' rows'=>match S.ent g j with
  | some (.deep o t sz n rows)=>some (S.setE g j (.deep false t sz n' rows'),[rows=rows',G7 rows',n=n'])
  | _=>none
 | .ownD l e sz=>match S.get l with
  | some .nil=>some (((S.more 1).lay S.h.length [.deep false e sz 0 []]).put l (.own S.h.length 0 sz 0 0),[])
  | _=>none
def b3j:List Fix->St->Option (St×List Prop)
 | [],S=>some (S,[])
 | f::fs,S=>match a6q f S with
  | some (S1,ps)=>match b3j fs S1 with
   | some (S2,qs)=>some (S2,ps++qs)
   | none=>none
  | none=>none
section
variable {cx:Cx} {Γ:N1} {F:Nat->Prop} {ι:Nat->Nat->Value} {S S':St} {a:Act} {w:World}
theorem RV.isCell{D:Nat->Prop}{v:V}{c:Value}(h:RV w F D ι v c)(hv:v.isCell=true):RC w F D ι v c:=by
 cases h with
 | one v c h =>
  cases h with
  | cell v c h=>exact h
  | agg cs ds h=>cases hv
 | tup cs ds h=>cases hv
 | any c=>cases hv
theorem t7.withT(h:t7 Γ F ι S a w){t:List V}(ht:w8 (RV w F S.D ι) t a.tmps.toList):t7 Γ F ι {S with t:=t} a w :=
 {F0:=h.F0,F1:=h.F1,F2:=h.F2,kept:=h.kept,tmps:=ht,ents:=h.ents,sep:=h.sep,inj:=h.inj,defers:=h.defers,pins:=h.pins}
theorem w8.set_left{α β:Type}{R:α->β->Prop}{B0:List α}{bs:List β}(h:w8 R B0 bs){i:Nat}{x y:α}(hx:B0[i]?=some x)(hy:∀b,R x b->R y b):w8 R (B0.set i y) bs:=by
 obtain ⟨b,hb,hr⟩:=h.get hx;have:=h.set i (hy b hr);rwa [Y6 hb] at this
theorem t7.putL(h:t7 Γ F ι S a w){l:Loc}{v v':V}(hg:S.get l=some v)(hc:v.isCell=true)(hr:∀c,RC w F S.D ι v c->RC w F S.D ι v' c):t7 Γ F ι (S.put l v') a w:=by
 cases l with
 | tmp t =>
  exact h.withT (h.tmps.set_left hg fun c hv=>.one _ _ (.cell _ _ (hr c (hv.isCell hc))))
 | sub t i =>
  unfold St.get at hg;unfold St.put;simp only at hg ⊢;split at hg<;>try (cases hg;done)
  rename_i cs hcs;try rw [hcs]
  refine h.withT (h.tmps.set_left hcs fun c hv => ?_);cases hv with
  | one v c hv =>
   cases hv with
   | cell v c hv=>cases hv with|fv v c hv=>cases hv
   | agg cs ds hv=>exact .one _ _ (.agg _ _ (hv.set_left hg hr))
 | cell g j i =>
  unfold St.get at hg;unfold St.put;simp only at hg ⊢;split at hg<;>try (cases hg;done)
  rename_i e cs hcs;try rw [hcs]
  try simp only
  refine h.write hcs rfl ⟨rfl,rfl,rfl⟩ rfl (fun _ _=>rfl) (fun _ => ?_) (fun _ hk=>hk);obtain ⟨g0,cur,h1,h2,h3⟩:=h.ents g j _ hcs;exact ⟨g0,cur,h1,h2,(h3.set_left hg hr).imp fun _ _ x=>x.mono (fun _ _ _=>rfl) (fun _ y=>y) (fun k y=>P5.2 y) (fun _ _ _=>rfl)⟩
theorem c7U{grp:Nat}{new:List s6}{l:Loc}{v:V}(h:S.get l=some v)(hn:¬S.D grp):(S.lay grp new).get l=some v:=by
 cases l with
 | tmp t=>exact h
 | sub t i=>exact h
 | cell g j i =>
  unfold St.get at h ⊢;simp only at h ⊢;split at h<;>try (cases h;done)
  rename_i e cs hcs;have:g≠grp:=fun q=>hn (q▸St.D_of_ent hcs)
  rw [a7h this,hcs];exact h
theorem c9O{n:Nat}{l:Loc}{v:V}(h:S.get l=some v):(S.more n).get l=some v:=by
 cases l with
 | tmp t=>exact h
 | sub t i=>exact h
 | cell g j i =>
  unfold St.get at h ⊢;simp only at h ⊢;rw [b3f];exact h
theorem e4v{e:Nat}{v:V}{H:Hp}{f:AR V}{lg:List (Nat×Nat)}(h:Q6 none (some e) v H=some (f,lg)):f.ls=[]:=by
 unfold Q6 at h;simp only at h;split at h
 ·have:=j7.pure_some h;injection this with h1 h2;rw [h1]
 cases v<;>try (cases h;done)
 case nil =>
  have:=j7.pure_some h;injection this with h1 h2;rw [h1]
 case own g j sz lo n =>
  cases lo with
  | succ q=>cases h
  | zero =>
   simp only at h;obtain ⟨en,l1,l2,hrd,hp,_⟩:=j7.bind_some h;cases en<;>try (cases hp;done)
   case row =>
    simp only at hp;split at hp<;>try (cases hp;done)
    have:=j7.pure_some hp;injection this with h1 h2;rw [h1]
   case deep o _ _ _ _ =>
    cases o<;>try (cases hp;done)
    simp only at hp;split at hp<;>try (cases hp;done)
    have:=j7.pure_some hp;injection this with h1 h2;rw [h1]
theorem e2o{g j idx off e:Nat}{r:List V}{ps:List Prop}(h:t7 Γ F ι S a w)(hf:a6q (.plug g j idx off r e) S=some (S',ps))(hob:∀p∈ps,p):t7 Γ F ι S' a w:=by
 unfold a6q at hf;simp only at hf;split at hf<;>try (cases hf;done)
 rename_i o t sz n rows g' j' sz' lo n' he hv;split at hf<;>try (cases hf;done)
 rename_i f lg hm;split at hf<;>try (cases hf;done)
 rename_i hcond;injection hf with hf;injection hf with h1 h2;subst h1;subst h2;obtain ⟨hoff,hks,hgj⟩:=hcond;have hr:rows[idx]?=some r:=hob _ (by simp);obtain ⟨flat,fs,hor,hkl,hrn,hl,hnd,hnr⟩:=h.ents g j _ he;have hidx:=(e9P.1 hr).1;have hpos:idx*sz+sz<=n*sz:=by rw [<-f0C];exact e95 _ (by omega)
 have hle:idx*sz+off+1<=rows.flatten.length:=by rw [a3E hl,hrn];omega
 have hmid:(rows.flatten.drop (idx*sz+off)).take 1=[.own g' j' sz' lo n']:=by
  have:(rows.flatten.drop (idx*sz+off)).take 1=(r.drop off).take 1:=by
   rw [<-b3l hl hr,List.drop_take,List.take_take,f1a];congr 1
   omega
  rw [this];obtain ⟨hlt,hv'⟩:=e9P.1 hv;rw [e97 hlt,hv'];rfl
 obtain ⟨fa,fm,fb,rfl,ka,km,kb⟩:=hkl.cut hle;rw [hmid] at km;obtain ⟨c,hc,hkc⟩:∃c,(flat.drop (idx*sz+off)).take 1=[c]/\RC w F S.D ι (.own g' j' sz' lo n') c:=by
  generalize (flat.drop (idx*sz+off)).take 1=cs at km;cases km with
  | cons v c f vs cs fs h t =>
   cases t;refine ⟨c,rfl,?_⟩;cases h with
   | rc h=>exact h
   | bc _ h=>cases h with
    | fv _ _ h=>exact .fv _ _ h
 obtain ⟨fp,hb,hfps,_⟩:=b9a (F1:=F) h (fun _ x=>x) hkc hm (fun p hp=>hob p (e9R.2 (.inr hp))) (by rw [e4v hm];intro id hid;cases hid);have hbl:BL w F [f.v] [c] fp:=by
  have:=BL.cons _ _ _ _ _ _ hb .nil;simpa using this
 refine h.dput he hr (by simpa using hoff) hbl hfps (a4S hks) (fun q=>by rw [a6y.2 q] at hgj;cases hgj) ⟨rfl,rfl,rfl⟩ rfl (fun _ _=>rfl) ?_;intro flat2 ho2;have:=a9m ho2 hor (fun _ _=>rfl);subst this;have e1:A0 flat2 (idx*sz+off) [c]=flat2:=by
  unfold A0;rw [<-hc,e9Y];have hl1:((flat2.drop (idx*sz+off)).take 1).length=1:=by rw [hc];rfl
  rw [hl1];have e2:∀k:Nat,flat2.take k++((flat2.drop k).take 1++flat2.drop (k+1))=flat2:=fun k=>by
   rw [<-f1a,f0s,f0s]
  exact e2 _
 rw [e1];exact ho2
theorem e4V{g j n':Nat}{rows':List (List V)}{ps:List Prop}(h:t7 Γ F ι S a w)(hf:a6q (.shut g j n' rows') S=some (S',ps))(hob:∀p∈ps,p):t7 Γ F ι S' a w:=by
 unfold a6q at hf;simp only at hf;split at hf<;>try (cases hf;done)
 rename_i o t sz n rows he;injection hf with hf;injection hf with h1 h2;subst h1;subst h2;have hrr:rows=rows':=hob _ (by simp);have hnr:G7 rows':=hob _ (by simp);have hnn:n=n':=hob _ (by simp);subst hrr;subst hnn;refine h.write he rfl ⟨rfl,rfl,rfl⟩ rfl (fun _ _=>rfl) (fun _ => ?_) (fun k hk=>hk);obtain ⟨flat,fs,q1,q2,q3,q4,q5,q6⟩:=h.ents g j _ he;exact ⟨flat,fs,q1,q2.mono (fun _ _ _=>rfl) (fun _ x=>x) (fun k x=>P5.2 x) (fun _ _ _=>rfl) (fun _ _=>rfl),q3,q4,q5,fun _=>hnr⟩
theorem e6L{f:Fix}{ps:List Prop}(h:t7 Γ F ι S a w)(hf:a6q f S=some (S',ps))(hob:∀p∈ps,p):∃F' ι',t7 Γ F' ι' S' a w:=by
 unfold a6q at hf;split at hf
 ·rename_i l e sz;split at hf<;>try (cases hf;done)
  rename_i hg;injection hf with hf;injection hf with hf hf2;subst hf;have hn:¬(S.more 1).D S.h.length:=fun q=>by
   obtain ⟨x,hx⟩:=a9G.1 q;have:=(e9P.1 hx).1;omega
  have hlen:S.h.length<(S.more 1).h.length:=by simp [St.more,a3k]
  have hor:OR w F e sz (.slice none 0 0) 0 []:=⟨[],⟨by simp,.inl ⟨rfl,rfl⟩⟩,.nil,rfl,by simp⟩
  have hno:∀(j:Nat) (e':s6) (k:Nat),([.row e sz 0 []]:List s6)[j]?=some e'->EB w e' (L3 ι S.h.length (.slice none 0 0) S.h.length j) k->False:=by
   intro j e' k he hk;rw [O1] at hk;cases j with
   | zero =>
    simp at he;subst he;cases hk
   | succ j=>simp at he
  have h1:=(h.more 1).lay hlen hn (new:=[.row e sz 0 []]) (ι':=L3 ι S.h.length (.slice none 0 0)) (fun g j q=>a9d q)
   (fun j e' he=>by
    cases j with
    | zero =>
     simp at he;subst he;rw [O1];exact hor
    | succ j=>simp at he)
   (fun j e' k he hl hk=>(hno j e' k he hk).elim)
   (fun j e' j' e'' k he he' hl hl' hk hk'=>(hno j e' k he hk).elim)
   (fun j e' g' j' e'' k he he' hl hl' hk=>(hno j e' k he hk).elim)
  refine ⟨F,_,h1.putL (c7U (c9O hg) hn) rfl fun c hc => ?_⟩;have hcn:c=.slice none 0 0:=by
   cases hc with
   | fv v c hc=>cases hc;rfl
  subst hcn;exact RC.whole (a0A hlen) O1 hor
 ·rename_i l ck;split at hf<;>try (cases hf;done)
  rename_i v hg;split at hf<;>try (cases hf;done)
  rename_i hcell;split at hf<;>try (cases hf;done)
  rename_i v' us fps lg hz;injection hf with hf;injection hf with hf hf2;subst hf;subst hf2;have hfr:∀c,RC w F S.D ι v c->∃F',(∀k,F k->F' k)/\t7 Γ F' ι (S.upds us) a w/\Frz S (S.upds us)/\FV w F' v' c:=fun c hc=>b16 h (Frz.refl S) hc hz hob
  have hat:∃c,RC w F S.D ι v c:=by
   cases l with
   | tmp t =>
    obtain ⟨c,_,hv⟩:=h.tmps.get hg;exact ⟨c,hv.isCell hcell⟩
   | sub t i =>
    unfold St.get at hg;simp only at hg;split at hg<;>try (cases hg;done)
    rename_i cs hcs;obtain ⟨c,_,hv⟩:=h.tmps.get hcs;cases hv with
    | one v c hv =>
     cases hv with
     | cell v c hv=>cases hv with|fv v c hv=>cases hv
     | agg cs ds hv =>
      obtain ⟨c,_,hv⟩:=hv.get hg;exact ⟨c,hv⟩
   | cell g j i =>
    unfold St.get at hg;simp only at hg;split at hg<;>try (cases hg;done)
    rename_i e cs hcs;obtain ⟨g0,cur,h1,h2,h3⟩:=h.ents g j _ hcs;obtain ⟨c,_,hv⟩:=h3.get hg;exact ⟨c,hv⟩
  obtain ⟨c0,hc0⟩:=hat;obtain ⟨F',hF,hrel,hfz,hfv⟩:=hfr c0 hc0;clear hfr hfv;cases l with
  | tmp t =>
   obtain ⟨c,hct,hv⟩:=h.tmps.get hg;obtain ⟨F',hF,hrel,hfz,hfv⟩:=b16 h (Frz.refl S) (hv.isCell hcell) hz hob;refine ⟨F',ι,?_⟩;have ht:(S.upds us).t=S.t:=hfz.2.2.1;show t7 Γ F' ι {S.upds us with t:=(S.upds us).t.set t v'} a w
   refine hrel.withT ?_;have:=hrel.tmps.set t (b:=c) (.one _ _ (.cell _ _ (.fv _ _ hfv)));rwa [Y6 hct] at this
  | sub t i =>
   unfold St.get at hg;simp only at hg;split at hg<;>try (cases hg;done)
   rename_i cs hcs;obtain ⟨c,hct,hv⟩:=h.tmps.get hcs;cases hv with
   | one v c hv =>
    cases hv with
    | cell v c hv=>cases hv with|fv v c hv=>cases hv
    | agg cs ds hv =>
     obtain ⟨c,hci,hvi⟩:=hv.get hg;obtain ⟨F',hF,hrel,hfz,hfv⟩:=b16 h (Frz.refl S) hvi hz hob;refine ⟨F',ι,?_⟩;have ht:(S.upds us).t=S.t:=hfz.2.2.1;unfold St.put;simp only [ht,hcs];have h2:=hrel.tmps;rw [ht] at h2;have:=hrel.withT (t:=S.t.set t (.agg (cs.set i v'))) ?_
     ·exact this
     ·have hagg:=h2.get hcs;obtain ⟨c',hct',hv'⟩:=hagg;rw [hct] at hct';injection hct' with hct';have hv2:w8 (RC w F' (S.upds us).D ι) cs ds:=by
       refine hv.imp fun _ _ x=>x.mono (fun _ _ _=>rfl) hF (fun k y=>(Z5 S k us).2 y) (fun _ _ _=>rfl)
      have hset:=hv2.set i (b:=c) (.fv _ _ hfv);rw [Y6 hci] at hset;have:=h2.set t (b:=.agg ds.toArray) (.one _ _ (.agg _ _ hset));rwa [Y6 hct] at this
  | cell g j i =>
   unfold St.get at hg;simp only at hg;split at hg<;>try (cases hg;done)
   rename_i e cs hcs;obtain ⟨g0,cur,q1,q2,q3⟩:=h.ents g j _ hcs;obtain ⟨c,hci,hvi⟩:=q3.get hg;obtain ⟨F',hF,hrel,hfz,hfv⟩:=b16 h (Frz.refl S) hvi hz hob;refine ⟨F',ι,?_⟩;have hcs':(S.upds us).ent g j=some (.var e cs):=by
    rcases hfz.2.2.2 _ _ _ hcs with q|⟨e',sz,n,rows,q,_⟩
    ·exact q
    ·cases q
   unfold St.put;simp only [hcs'];refine hrel.write hcs' rfl ⟨rfl,rfl,rfl⟩ rfl (fun _ _=>rfl) (fun _ => ?_) (fun _ hk=>hk);have hset:=(q3.imp fun _ _ x=>RC.mono (D':=((S.upds us).setE g j (.var e (cs.set i v'))).D) (F':=F') (w':=w) (ι':=ι) (fun _ _ _=>rfl) hF (fun k y=>P5.2 ((Z5 S k us).2 y)) (fun _ _ _=>rfl) x).set i (b:=c) (.fv _ _ hfv);rw [Y6 hci] at hset;exact ⟨g0,cur,q1,q2,hset⟩
 ·rename_i l v';split at hf<;>try (cases hf;done)
  rename_i v hg;split at hf<;>try (cases hf;done)
  rename_i hcell;injection hf with hf;injection hf with hf hf2;subst hf;subst hf2;have:v=v':=hob _ (by simp);subst this;exact ⟨F,ι,h.putL hg hcell fun _ x=>x⟩
 ·rename_i g j e';split at hf<;>try (cases hf;done)
  rename_i e he;injection hf with hf;injection hf with hf hf2;subst hf;subst hf2;have:e=e':=hob _ (by simp);subst this;have hset:S.setE g j e=S:=by
   obtain ⟨l,hl⟩:=St.D_of_ent he;rw [a2i hl];rw [a1H hl] at he;rw [Y6 he,Y6 hl]
  rw [hset];exact ⟨F,ι,h⟩
 ·rename_i g j idx off r e;exact ⟨F,ι,e2o (g:=g) (j:=j) (idx:=idx) (off:=off) (r:=r) (e:=e) h hf hob⟩
 ·rename_i g j;split at hf<;>try (cases hf;done)
  rename_i e he;injection hf with hf;injection hf with hf hf2;subst hf;exact ⟨F,ι,h.kill he⟩
 ·rename_i g j n' rows';exact ⟨F,ι,e4V (g:=g) (j:=j) (n':=n') (rows':=rows') h hf hob⟩
 ·rename_i l e sz;split at hf<;>try (cases hf;done)
  rename_i hg;injection hf with hf;injection hf with hf hf2;subst hf;have hn:¬(S.more 1).D S.h.length:=fun q=>by
   obtain ⟨x,hx⟩:=a9G.1 q;have:=(e9P.1 hx).1;omega
  have hlen:S.h.length<(S.more 1).h.length:=by simp [St.more,a3k]
  have hor:OR w F e sz (.slice none 0 0) 0 []:=⟨[],⟨by simp,.inl ⟨rfl,rfl⟩⟩,.nil,rfl,by simp⟩
  have hno:∀(j:Nat) (e':s6) (k:Nat),([.deep false e sz 0 []]:List s6)[j]?=some e'->EB w e' (L3 ι S.h.length (.slice none 0 0) S.h.length j) k->False:=by
   intro j e' k he hk;rw [O1] at hk;cases j with
   | zero =>
    simp at he;subst he;have:=(EB.deep_iff (F:=F) (D:=S.D) (ι:=ι) (flat:=[]) (fs:=[]) ⟨by simp,.inl ⟨rfl,rfl⟩⟩ .nil).1 hk;simp [D2,A8] at this
   | succ j=>simp at he
  have h1:=(h.more 1).lay hlen hn (new:=[.deep false e sz 0 []]) (ι':=L3 ι S.h.length (.slice none 0 0)) (fun g j q=>a9d q)
   (fun j e' he=>by
    cases j with
    | zero =>
     simp at he;subst he;rw [O1];exact ⟨[],[],⟨by simp,.inl ⟨rfl,rfl⟩⟩,.nil,rfl,by simp,by simp [D2,A8],fun _=>by simp [G7]⟩
    | succ j=>simp at he)
   (fun j e' k he hl hk=>(hno j e' k he hk).elim)
   (fun j e' j' e'' k he he' hl hl' hk hk'=>(hno j e' k he hk).elim)
   (fun j e' g' j' e'' k he he' hl hl' hk=>(hno j e' k he hk).elim)
  refine ⟨F,_,h1.putL (c7U (c9O hg) hn) rfl fun c hc => ?_⟩;have hcn:c=.slice none 0 0:=by
   cases hc with
   | fv v c hc=>cases hc;rfl
  subst hcn;exact RC.whole (a0A hlen) O1 hor
theorem d6l(fs:List Fix):∀{S:St} {F:Nat->Prop} {ι:Nat->Nat->Value} {ps:List Prop},t7 Γ F ι S a w->b3j fs S=some (S',ps)->(∀p∈ps,p)->∃F' ι',t7 Γ F' ι' S' a w:=by
 induction fs with
 | nil =>
  intro S F ι ps h hf hob;injection hf with hf;injection hf with hf hf2;subst hf;exact ⟨F,ι,h⟩
 | cons f fs ih =>
  intro S F ι ps h hf hob;unfold b3j at hf;cases h1:a6q f S with
  | none=>rw [h1] at hf;cases hf
  | some x1 =>
  obtain ⟨S1,ps1⟩:=x1;rw [h1] at hf;simp only at hf;cases h2:b3j fs S1 with
  | none=>rw [h2] at hf;cases hf
  | some x2 =>
  obtain ⟨S2,ps2⟩:=x2;rw [h2] at hf;simp only at hf;injection hf with hf;injection hf with hf hf2;subst hf;subst hf2;obtain ⟨F1,ι1,h3⟩:=e6L h h1 (fun p hp=>hob p (List.mem_append.2 (.inl hp)));exact ih h3 h2 (fun p hp=>hob p (List.mem_append.2 (.inr hp)))
end
def a8f:List (Nat×Nat)->Nat×Nat->Nat->Option Nat
 | [],_,_=>none
 | y::l,x,i=>if y.1==x.1&&y.2==x.2 then some i else a8f l x (i+1)
def a9f(gs:List (Nat×Nat))(g j:Nat):Option (Nat×Nat) :=
 match a8f gs (g,j) 1 with
 | some i=>some (i,0)
 | none=>match g with
  | 0=>some (0,j)
  | _+1=>none
def U5(gs:List (Nat×Nat))(v:V):V :=
 match v with
 | .own g j sz lo n=>match a9f gs g j with
  | some (g',j')=>.own g' j' sz lo n
  | none=>.bot
 | .ptr g j off=>match a9f gs g j with
  | some (g',j')=>.ptr g' j' off
  | none=>.bot
 | .eptr g j sz idx off=>match a9f gs g j with
  | some (g',j')=>.eptr g' j' sz idx off
  | none=>.bot
 | .fptr _=>.bot
 | .mp g j=>match a9f gs g j with
  | some (g',j')=>.mp g' j'
  | none=>.bot
 | v=>v
def b10(gs:List (Nat×Nat))(v:V):V :=
 match v with
 | .agg cs=>.agg (cs.map (U5 gs))
 | v=>U5 gs v
def c0S(gs:List (Nat×Nat))(v:V):V :=
 match v with
 | .tup cs=>.tup (cs.map (b10 gs))
 | v=>b10 gs v
def a6P(gs:List (Nat×Nat))(e:s6):s6 :=
 match e with
 | .var e cs=>.var e (cs.map (U5 gs))
 | .deep true _ _ _ _=>.dead
 | e=>e
def a7J(gs:List (Nat×Nat)):Nat->List Nat->List V->List V
 | _,_,[]=>[]
 | i,[],_::vs=>.bot::a7J gs (i+1) [] vs
 | i,k::ks,v::vs=>if Nat.beq k i then c0S gs v::a7J gs (i+1) ks vs else .bot::a7J gs (i+1) (k::ks) vs
def a79(S:St)(gs0:List (Nat×Nat)):List (Nat×Nat)->List (Option (List s6))
 | []=>[]
 | id::gs=>some [match S.ent id.1 id.2 with
  | some e=>a6P gs0 e
  | none=>.dead]::a79 S gs0 gs
def a9K(gs:List (Nat×Nat)):Nat->List s6->List s6
 | _,[]=>[]
 | j,e::es=>(match a8f gs (0,j) 1 with
  | some _=>.dead
  | none=>a6P gs e)::a9K gs (j+1) es
def a0W(keep:List Nat)(gs:List (Nat×Nat))(S:St):Option St :=
 if a2q gs then
  some {t:=a7J gs 0 keep S.t,h:=(match S.h with
   | some l::_=>some (a9K gs 0 l)
   | _=>none)::a79 S gs gs}
 else none
section
variable {cx:Cx} {Γ:N1} {F:Nat->Prop} {ι:Nat->Nat->Value} {S S':St} {a:Act} {w:World} {keep:List Nat}
theorem c86:∀{l:List (Nat×Nat)} {x:Nat×Nat} {i k:Nat},a8f l x i=some k->i<=k/\l[k-i]?=some x
 | [],x,i,k,h=>by cases h
 | y::l,x,i,k,h=>by
  unfold a8f at h;split at h
  ·rename_i q;injection h with h;subst h;simp at q;have:y=x:=Prod.ext q.1 q.2;exact ⟨f0d _,by simp [this]⟩
  ·obtain ⟨h1,h2⟩:=c86 h;refine ⟨by omega,?_⟩;have:k-i=(k-(i+1))+1:=by omega
   rw [this];simpa using h2
def a3Z(ι:Nat->Nat->Value)(gs:List (Nat×Nat))(g j:Nat):Value :=
 match g with
 | 0=>ι 0 j
 | g+1=>match gs[g]? with
  | some id=>ι id.1 id.2
  | none=>.nilFunc
theorem c2h{gs0:List (Nat×Nat)}:∀{gs:List (Nat×Nat)} {i:Nat} {id:Nat×Nat},gs[i]?=some id->(a79 S gs0 gs)[i]?=some (some [match S.ent id.1 id.2 with
  | some e=>a6P gs0 e
  | none=>.dead])
 | id'::gs,0,id,h=>by simp at h;subst h;simp [a79]
 | id'::gs,i+1,id,h=>by simp at h;simp [a79,c2h h]
theorem d2l{gs0:List (Nat×Nat)}:∀{gs:List (Nat×Nat)},(a79 S gs0 gs).length=gs.length
 | []=>rfl
 | _::gs=>by simp [a79,d2l]
theorem d10{gs:List (Nat×Nat)}(hp:a0W keep gs S=some S')(hD:S.D 0):S'.D 0:=by
 unfold a0W at hp;split at hp<;>try (cases hp;done)
 injection hp with hp;subst hp;obtain ⟨l,hl⟩:=hD;have:∃t,S.h=some l::t:=by
  cases hh:S.h with
  | nil=>rw [hh] at hl;simp at hl
  | cons x t=>rw [hh] at hl;simp at hl;exact ⟨t,by rw [hl]⟩
 obtain ⟨t,ht⟩:=this;rw [ht];exact ⟨_,rfl⟩
theorem b27{gs:List (Nat×Nat)}(hp:a0W keep gs S=some S'){g j g' j':Nat}(hn:a9f gs g j=some (g',j'))(hD:S.D g):S'.D g'/\a3Z ι gs g' j'=ι g j:=by
 unfold a9f at hn;split at hn
 ·rename_i i hi;injection hn with hn;injection hn with h1 h2;subst h1;subst h2;unfold a0W at hp;split at hp<;>try (cases hp;done)
  injection hp with hp;subst hp;obtain ⟨h3,h4⟩:=c86 hi;obtain ⟨m,rfl⟩:∃m,i=m+1:=⟨i-1,by omega⟩
  simp only [Nat.add_sub_cancel] at h4;refine ⟨⟨_,(f0I).trans (c2h h4)⟩,?_⟩;simp [a3Z,h4]
 ·split at hn<;>try (cases hn;done)
  injection hn with hn;injection hn with h1 h2;subst h1;subst h2;exact ⟨d10 hp hD,rfl⟩
theorem c6G:∀{l:List (Nat×Nat)} {x:Nat×Nat} {i:Nat},a8f l x i=none->x ∉ l
 | [],x,i,_=>by simp
 | y::l,x,i,h=>by
  unfold a8f at h;split at h
  ·cases h
  ·rename_i q;intro hx;rcases e9R.1 hx with rfl|hx
   ·simp at q
   ·exact c6G h hx
theorem c36{gs:List (Nat×Nat)}:∀{l:List s6} {i j:Nat} {e:s6},(a9K gs i l)[j]?=some e->e=.dead\/∃e0,l[j]?=some e0/\e=a6P gs e0/\(0,i+j) ∉ gs
 | [],i,j,e,h=>by simp [a9K] at h
 | e1::l,i,0,e,h=>by
  simp only [a9K,f0B] at h;injection h with h;split at h
  ·exact .inl h.symm
  ·rename_i hq;exact .inr ⟨e1,rfl,h.symm,by simpa using c6G hq⟩
 | e1::l,i,j+1,e,h=>by
  simp only [a9K,f0I] at h;rcases c36 h with h1|⟨e0,h1,h2,h3⟩
  ·exact .inl h1
  ·exact .inr ⟨e0,by simpa using h1,h2,by rw [show i+(j+1)=i+1+j by omega];exact h3⟩
theorem RC.ren{gs:List (Nat×Nat)}(hp:a0W keep gs S=some S'){v:V}{c:Value}(h:RC w F S.D ι v c):RC w F S'.D (a3Z ι gs) (U5 gs v) c:=by
 cases h with
 | fv v c h =>
  have:U5 gs v=v:=by cases h<;>rfl
  rw [this];exact .fv _ _ h
 | own g j sz lo n b nn cap hD hι hlo hb0 hb1 =>
  unfold U5;simp only;split
  ·rename_i g' j' hn;obtain ⟨h1,h2⟩:=b27 (ι:=ι) hp hn hD;exact .own g' j' sz lo n b nn cap h1 (h2.trans hι) hlo hb0 hb1
  ·exact .fv _ _ (.bot _ rfl)
 | own0 g j sz lo b cap hD hlo =>
  unfold U5;simp only;split
  ·rename_i g' j' hn;obtain ⟨h1,h2⟩:=b27 (ι:=ι) hp hn hD;exact .own0 g' j' sz lo b cap h1 hlo
  ·exact .fv _ _ (.bot _ rfl)
 | ptr g j off A8 hD hι =>
  unfold U5;simp only;split
  ·rename_i g' j' hn;obtain ⟨h1,h2⟩:=b27 (ι:=ι) hp hn hD;exact .ptr g' j' off A8 h1 (h2.trans hι)
  ·exact .fv _ _ (.bot _ rfl)
 | eptr g j sz idx off b hD hι =>
  unfold U5;simp only;split
  ·rename_i g' j' hn;obtain ⟨h1,h2⟩:=b27 (ι:=ι) hp hn hD;exact .eptr g' j' sz idx off b h1 (by rw [h2];exact hι)
  ·exact .fv _ _ (.bot _ rfl)
 | fptr cs g o ds hF h hs=>exact .fv _ _ (.bot _ rfl)
 | mp g j A8 hD hι =>
  unfold U5;simp only;split
  ·rename_i g' j' hn;obtain ⟨h1,h2⟩:=b27 (ι:=ι) hp hn hD;exact .mp g' j' A8 h1 (h2.trans hι)
  ·exact .fv _ _ (.bot _ rfl)
theorem w8.maps{α α' β:Type}{R:α->β->Prop}{R':α'->β->Prop}(f:α->α')(hf:∀x y,R x y->R' (f x) y):∀{B0 bs},w8 R B0 bs->w8 R' (B0.map f) bs
 | _,_,.nil=>.nil
 | _,_,.cons h t=>.cons (hf _ _ h) (t.maps f hf)
theorem RA.ren{gs:List (Nat×Nat)}(hp:a0W keep gs S=some S'){v:V}{c:Value}(h:RA w F S.D ι v c):RA w F S'.D (a3Z ι gs) (b10 gs v) c:=by
 cases h with
 | cell v c h =>
  have:b10 gs v=U5 gs v:=by
   cases h with
   | fv v c h=>cases h<;>rfl
   | _=>rfl
  rw [this];exact .cell _ _ (h.ren hp)
 | agg cs ds h=>exact .agg _ _ (h.maps _ fun _ _ x=>x.ren hp)
theorem RV.ren{gs:List (Nat×Nat)}(hp:a0W keep gs S=some S'){v:V}{c:Value}(h:RV w F S.D ι v c):RV w F S'.D (a3Z ι gs) (c0S gs v) c:=by
 cases h with
 | one v c h =>
  have:c0S gs v=b10 gs v:=by
   cases h with
   | cell v c h =>
    cases h with
    | fv v c h=>cases h<;>rfl
    | _=>rfl
   | agg cs ds h=>rfl
  rw [this];exact .one _ _ (h.ren hp)
 | tup cs ds h=>exact .tup _ _ (h.maps _ fun _ _ x=>x.ren hp)
 | any c=>exact .any c
theorem b4f{gs:List (Nat×Nat)}(hp:a0W keep gs S=some S'):∀{vs:List V} {cs:List Value},w8 (RV w F S.D ι) vs cs->∀(i:Nat) (ks:List Nat),w8 (RV w F S'.D (a3Z ι gs)) (a7J gs i ks vs) cs
 | _,_,.nil,i,ks=>by cases ks<;>exact .nil
 | _,_,.cons h t,i,[]=>.cons (.any _) (b4f hp t _ _)
 | _,_,.cons h t,i,k::ks=>by
  unfold a7J;split
  ·exact .cons (h.ren hp) (b4f hp t _ _)
  ·exact .cons (.any _) (b4f hp t _ _)
theorem b5g{gs:List (Nat×Nat)}(hp:a0W keep gs S=some S'){g j:Nat}{e:s6}(he:S'.ent g j=some e):e=.dead\/∃g0 j0 e0,S.ent g0 j0=some e0/\e=a6P gs e0/\a3Z ι gs g j=ι g0 j0/\((g=0/\g0=0/\j=j0/\(0,j) ∉ gs)\/(∃i,g=i+1/\j=0/\gs[i]?=some (g0,j0))):=by
 unfold a0W at hp;split at hp<;>try (cases hp;done)
 injection hp with hp;subst hp;cases g with
 | zero =>
  unfold St.ent at he;simp only [f0B] at he;split at he<;>try (cases he;done)
  rename_i l hl;injection hl with hl;split at hl<;>try (cases hl;done)
  rename_i l0 t hh;injection hl with hl;subst hl;rcases c36 he with h1|⟨e0,h1,h2,h3⟩
  ·exact .inl h1
  ·exact .inr ⟨0,j,e0,by unfold St.ent;rw [hh];exact h1,h2,rfl,.inl ⟨rfl,rfl,rfl,by simpa using h3⟩⟩
 | succ i =>
  unfold St.ent at he;simp only [f0I] at he;split at he<;>try (cases he;done)
  rename_i l hl;have hlt:i<gs.length:=by
   have:=(e9P.1 hl).1;rwa [d2l] at this
  have hgi:gs[i]?=some gs[i]:=e9K hlt;generalize gs[i]=id at hgi;rw [c2h hgi] at hl;injection hl with hl;injection hl with hl;subst hl;cases j with
  | succ j=>simp at he
  | zero =>
   simp only [f0B] at he;injection he with he;cases hx:S.ent id.1 id.2 with
   | none=>rw [hx] at he;exact .inl he.symm
   | some e0 =>
    rw [hx] at he;exact .inr ⟨id.1,id.2,e0,hx,he.symm,by simp [a3Z,hgi],.inr ⟨i,rfl,rfl,hgi⟩⟩
theorem e8e{α:Type}{l:List α}(h:l.Nodup){i j:Nat}{x:α}(hi:l[i]?=some x)(hj:l[j]?=some x):i=j:=by
 obtain ⟨h1,h2⟩:=e9P.1 hi;obtain ⟨h3,h4⟩:=e9P.1 hj;exact (List.getElem_inj h).1 (h2.trans h4.symm)
theorem d4K{gs:List (Nat×Nat)}(h:t7 Γ F ι S a w)(hp:a0W keep gs S=some S'):∃ι',t7 Γ F ι' S' a w:=by
  have hnd:gs.Nodup:=by
    unfold a0W at hp;split at hp<;>try (cases hp;done)
    rename_i hchk;exact a4S hchk
  have hlive:∀e:s6,(a6P gs e).live=true->e.live=true/\∀c k,EB w (a6P gs e) c k->EB w e c k:=by
    intro e he;cases e with
    | deep o e sz n rows =>
      cases o with
      | true=>cases he
      | false=>exact ⟨rfl,fun _ _ hk=>hk⟩
    | _=>exact ⟨he,fun _ _ hk=>hk⟩
  have ht:S'.t=a7J gs 0 keep S.t:=by
    unfold a0W at hp;split at hp<;>try (cases hp;done)
    injection hp with hp;subst hp;rfl
  refine ⟨a3Z ι gs,?_⟩;exact
    { F0:=h.F0,F1:=h.F1,F2:=h.F2,kept:=h.kept
      tmps:=by rw [ht];exact b4f hp h.tmps 0 keep
      ents:=fun g j e he=>by
        rcases b5g (ι:=ι) hp he with rfl|⟨g0,j0,e0,h0,rfl,h2,_⟩
        · trivial
        · rw [h2];have hr:=h.ents _ _ _ h0;cases e0 with
          | var e cs =>
            obtain ⟨g1,cur,q1,q2,q3⟩:=hr;exact ⟨g1,cur,q1,q2,q3.maps _ fun _ _ x=>x.ren hp⟩
          | dead=>exact hr
          | arr e sz n rows=>exact hr
          | row e sz n rows=>exact hr
          | frz sz n rows=>exact hr
          | map t m es=>exact hr
          | deep o e sz n rows =>
            cases o with
            | true=>trivial
            | false =>
              obtain ⟨flat,fs,q1,q2,q3,q4,q5,q6⟩:=hr;exact ⟨flat,fs,q1,(q2.blOf (q6 rfl).flat).kl,q3,q4,q5,q6⟩
      sep:=fun g j e k he hl hk=>by
        rcases b5g (ι:=ι) hp he with rfl|⟨g0,j0,e0,h0,rfl,h2,_⟩
        · cases hl
        · rw [h2] at hk;exact h.sep _ _ _ k h0 (hlive _ hl).1 ((hlive _ hl).2 _ _ hk)
      inj:=fun g1 j1 e1 g2 j2 e2 k he1 he2 hl1 hl2 hk1 hk2=>by
        rcases b5g (ι:=ι) hp he1 with rfl|⟨x1,y1,z1,a1,rfl,b1,c1⟩
        · cases hl1
        rcases b5g (ι:=ι) hp he2 with rfl|⟨x2,y2,z2,a2,rfl,b2,c2⟩
        · cases hl2
        rw [b1] at hk1;rw [b2] at hk2;obtain ⟨q1,q2⟩:=h.inj _ _ _ _ _ _ k a1 a2 (hlive _ hl1).1 (hlive _ hl2).1 ((hlive _ hl1).2 _ _ hk1) ((hlive _ hl2).2 _ _ hk2);rcases c1 with ⟨u1,u2,u3,u4⟩|⟨i1,u1,u2,u3⟩<;>rcases c2 with ⟨v1,v2,v3,v4⟩|⟨i2,v1,v2,v3⟩
        · exact ⟨by omega,by omega⟩
        · refine absurd (e9W v3) ?_;rw [<-q1,<-q2,u2,<-u3];exact u4
        · refine absurd (e9W u3) ?_;rw [q1,q2,v2,<-v3];exact v4
        · rw [q1,q2] at u3;have:=e8e hnd u3 v3;exact ⟨by omega,by omega⟩
      defers:=h.defers
      pins:=fun j c hc=>by
        obtain ⟨h1,h2⟩:=h.pins j c hc;exact ⟨d10 hp h1,h2⟩}
end
def a97(cx:Cx)(k:List Item)(S:St)(sc:Q4)(fs:List Fix)(keep:List Nat)(gs:List (Nat×Nat)):Option (List Item×St×List Prop) :=
 match goM cx 4000 k S sc with
 | some (k1,S1,ps)=>match b3j fs S1 with
  | some (S2,qs)=>match a0W keep gs S2 with
   | some S3=>some (k1,S3,ps++qs)
   | none=>none
  | none=>none
 | none=>none
theorem I6.seg0{cx:Cx}{X:N0}{res:V}{outs:List (Option V)}{k k':List Item}{S S':St}{sc:Q4}{fs:List Fix}{keep:List Nat}{gs:List (Nat×Nat)}{ps:List Prop}(hg:a97 cx k S sc fs keep gs=some (k',S',ps))(hob:∀p∈ps,p)(h:I6 cx X res outs k' S'):I6 cx X res outs k S:=by
 unfold a97 at hg;split at hg<;>try (cases hg;done)
 rename_i k1 S1 ps' h1;split at hg<;>try (cases hg;done)
 rename_i S2 qs h2;split at hg<;>try (cases hg;done)
 rename_i S3 h3;injection hg with hg;injection hg with e1 e2;injection e2 with e2 e3;subst e1;subst e2;subst e3;refine I6.go h1 (fun p hp=>hob p (List.mem_append.2 (.inl hp))) ?_;intro w0 F0 fp cargs bs hp hF0 F ι a w b cs hrel hb1 hb2;obtain ⟨F',ι',hrel'⟩:=d6l fs hrel h2 (fun p hp=>hob p (List.mem_append.2 (.inr hp)));obtain ⟨ι2,hrel2⟩:=d4K hrel' h3;exact h w0 F0 fp cargs bs hp hF0 F' ι2 a w b cs hrel2 hb1 hb2
def a9J(cx:Cx)(X:N0)(k:List Item)(S:St)(sc:Q4):Option (V×List (Option V)×List Prop) :=
 match goM cx 4000 k S sc with
 | some (k1,S1,ps)=>match c1B cx X k1 S1 with
  | some (res,outs,qs)=>some (res,outs,ps++qs)
  | none=>none
 | none=>none
theorem I6.fin0{cx:Cx}{X:N0}{res:V}{outs:List (Option V)}{k:List Item}{S:St}{sc:Q4}{ps:List Prop}(hf:cx.P.funcs[X.f]?=some X.fn)(hg:a9J cx X k S sc=some (res,outs,ps))(hob:∀p∈ps,p):I6 cx X res outs k S:=by
 unfold a9J at hg;split at hg<;>try (cases hg;done)
 rename_i k1 S1 ps' h1;split at hg<;>try (cases hg;done)
 rename_i r o qs h2;injection hg with hg;injection hg with e1 e2;injection e2 with e2 e3;subst e1;subst e2;subst e3;exact I6.go h1 (fun p hp=>hob p (List.mem_append.2 (.inl hp))) (I6.ret hf h2 fun p hp=>hob p (List.mem_append.2 (.inr hp)))
def N8:List Prop->Prop
 | []=>True
 | p::ps=>p/\N8 ps
theorem N8.mem:∀{ps:List Prop},N8 ps->∀p∈ps,p
 | _::_,h,p,hp=>by
  rcases e9R.1 hp with rfl|hp
  ·exact h.1
  ·exact N8.mem h.2 p hp
theorem N8.nil:N8 []:=trivial
theorem I6.seg{cx:Cx}{X:N0}{res:V}{outs:List (Option V)}{k k':List Item}{S S':St}(sc:Q4)(fs:List Fix)(keep:List Nat)(gs:List (Nat×Nat))(ps:List Prop)(hob:N8 ps)(h:I6 cx X res outs k' S')(hg:a97 cx k S sc fs keep gs=some (k',S',ps)):I6 cx X res outs k S :=
 I6.seg0 hg hob.mem h
theorem I6.fin{cx:Cx}{X:N0}{res:V}{outs:List (Option V)}{k:List Item}{S:St}(hf:cx.P.funcs[X.f]?=some X.fn)(sc:Q4)(ps:List Prop)(hob:N8 ps)(hg:a9J cx X k S sc=some (res,outs,ps)):I6 cx X res outs k S :=
 I6.fin0 hf hg hob.mem
def a5i:V->Bool
 | .osl .. | .dsl .. | .optr .. => true
 | _=>false
def a08:List (Option Nat)->List V->Bool
 | [],[]=>true
 | none::om,.osl .. :: _=>false
 | none::om,.dsl .. :: _=>false
 | none::om,_::vs=>a08 om vs
 | some _::om,.osl .. :: vs=>a08 om vs
 | some _::om,.dsl .. :: vs=>a08 om vs
 | _,_=>false
def c7M:PM->V->Bool
 | .val _ om,.agg vs=>a08 om vs
 | .val ..,_=>false
 | .part,_=>false
 | _,v=>a5i v
def a3Q:Nat->List (Option (Nat×PM))->List V->Bool
 | _,[],[]=>true
 | j,none::os,v::vs=>a3Q (j+(I8 0 j v).2.length) os vs
 | j,some (j',m)::os,v::vs=>Nat.beq j' j&&c7M m v&&a3Q (j+(I8 0 j v).2.length) os vs
 | _,_,_=>false
def b7d:Nat->List V
 | 0=>[]
 | n+1=>.bot::b7d n
def a9D(X:N0)(args:List V):St :=
 let x:=W2 0 0 args
 {t:=x.1++b7d (X.fn.ntmps-args.length),h:=[some x.2]}
section
variable {w:World} {F:Nat->Prop}
theorem e5S{v:V}{c:Value}{f:List Nat}(h:BA w F v c f)(j:Nat):∃bs:List Value,bs.length=(I8 0 j v).2.length/\G4 w (I8 0 j v).2 bs f/\(a5i v=true->bs.head?=some c)/\
  ∀(D:Nat->Prop) (ι:Nat->Nat->Value),D 0->At ι 0 j bs->f.Nodup->RA w F D ι (I8 0 j v).1 c/\Lie w F D ι (I8 0 j v).2 bs:=by
 by_cases ho:a5i v=true
 ·cases h with
  | cell v c f h =>
   cases h with
   | fv v c h=>cases h<;>cases ho
   | osl e sz n rows c h =>
    refine ⟨[c],rfl,.one fun k hk=>P6.2 hk,fun _=>rfl,fun D ι hD hat _=>⟨.cell _ _ (RC.whole hD (hat 0 c rfl) h),?_⟩⟩;intro k e' b he hb;cases k with
    | zero =>
     simp [I8,H9] at he hb;subst he;subst hb;exact h
    | succ k=>simp [I8,H9] at he
   | dsl e sz n rows c flat fs h1 h2 h3 h4 =>
    obtain ⟨bs,q1,q2,q3⟩:=b4V (grp:=0) (BC.dsl e sz n rows c flat fs h1 h2 h3 h4) j;refine ⟨[c],rfl,.one fun k hk=>(EB.deep_iff (D:=fun _=>True) (ι:=fun _ _=>.nilFunc) h1 h2.kl).1 hk,fun _=>rfl,fun D ι hD hat hnd=>⟨.cell _ _ (RC.wholeO hD (hat 0 c rfl) h1),?_⟩⟩;intro k e' b he hb;cases k with
    | zero =>
     simp [I8,H9] at he hb;subst he;subst hb;exact ⟨flat,fs,h1,h2.kl,h3,h4,hnd,fun _=>G7.of_flat h2.noRef⟩
    | succ k=>simp [I8,H9] at he
  | agg cs ds f h=>cases ho
  | optr e cs g cur f hg h =>
   obtain ⟨bs,h1,h2,h3⟩:=a6O (grp:=0) h (j+1);refine ⟨.pointer (some ⟨g,0,none⟩)::bs,by simp [I8,h1],?_,fun _=>rfl,fun D ι hD hat hnd => ?_⟩
   ·exact G4.cons (w:=w) (e:=.var e (J7 0 (j+1) cs).1) (b:=.pointer (some ⟨g,0,none⟩)) (f1:=[g]) (fun k hk=>by
     have hk:A8 (.pointer (some ⟨g,0,none⟩))=some k:=hk;simp [A8] at hk;simp [hk]) h2
   have hat':At ι 0 (j+1) bs:=fun k b hb=>by
    have:=hat (k+1) b (by simpa using hb);rw [<-this];congr 1;omega
   obtain ⟨x,y⟩:=h3 D ι hD hat' (f0P.1 hnd).2;refine ⟨.cell _ _ (.ptr 0 j 0 g hD (hat 0 _ rfl)),?_⟩;intro k e' b he hb;cases k with
   | zero =>
    simp [I8] at he hb;subst he;subst hb;exact ⟨g,cur,rfl,hg,x⟩
   | succ k=>exact y k e' b (by simpa [I8] using he) (by simpa using hb)
 ·obtain ⟨bs,h1,h2,h3⟩:=c0Y (grp:=0) h j;exact ⟨bs,h1,h2,fun q=>absurd q ho,h3⟩
theorem c1K{pre b1 b2:List Value}:∀{om:List (Option Nat)} {j:Nat} {ds:List Value},a6v (pre++b1) om j ds->a6v (pre++(b1++b2)) om j ds
 | [],_,[],_=>trivial
 | none::om,j,d::ds,h=>⟨h.1,c1K h.2⟩
 | some _::om,j,d::ds,h=>by
  refine ⟨?_,c1K h.2⟩;have h1:=h.1;rw [<-e9Y,e94 (e9P.1 h1).1];exact h1
 | [],_,_::_,h=>h.elim
 | none::_,_,[],h=>h.elim
 | some _::_,_,[],h=>h.elim
theorem c6J:∀{vs:List V} {cs:List Value} {f:List Nat},BL w F vs cs f->∀j,∃bs:List Value,bs.length=(J7 0 j vs).2.length/\G4 w (J7 0 j vs).2 bs f/\
    (∀(om:List (Option Nat)) (pre:List Value),pre.length=j->a08 om vs=true->a6v (pre++bs) om j cs)/\
    ∀(D:Nat->Prop) (ι:Nat->Nat->Value),D 0->At ι 0 j bs->f.Nodup->w8 (RC w F D ι) (J7 0 j vs).1 cs/\Lie w F D ι (J7 0 j vs).2 bs
  | _,_,_,.nil,j=>⟨[],rfl,.nil,fun om pre _ h=>by cases om with|nil=>trivial|cons o om=>cases o<;>simp [a08] at h,fun D ι hD hat _=>⟨.nil,fun k e b he=>by simp [J7] at he⟩⟩
  | _,_,_,.cons v c f vs cs fs h t,j=>by
    have hone:=h.one;have hb:∃b1:List Value,b1.length=(H9 0 j v).2.length/\G4 w (H9 0 j v).2 b1 f/\(a5i v=true->b1=[c])/\(a5i v=false->b1=[])/\∀(D:Nat->Prop) (ι:Nat->Nat->Value),D 0->At ι 0 j b1->f.Nodup->RC w F D ι (H9 0 j v).1 c/\Lie w F D ι (H9 0 j v).2 b1:=by
      cases h with
      | fv v c h =>
        obtain ⟨b1,q1,q2,q3⟩:=b4V (grp:=0) (BC.fv (w:=w) v c h) j;have hv:(H9 0 j v).2=[]/\a5i v=false:=by cases h<;>exact ⟨rfl,rfl⟩
        have:b1=[]:=e9V (by rw [q1,hv.1];rfl);exact ⟨b1,q1,q2,fun q=>by (rw [hv.2] at q;cases q),fun _=>this,q3⟩
      | osl e sz n rows c h =>
        refine ⟨[c],rfl,.one fun k hk=>P6.2 hk,fun _=>rfl,(fun q=>by cases q),fun D ι hD hat _=>⟨RC.whole hD (hat 0 c rfl) h,?_⟩⟩;intro k e' b he hb;cases k with
        | zero =>
          simp [H9] at he hb;subst he;subst hb;exact h
        | succ k=>simp [H9] at he
      | dsl e sz n rows c flat fs h1 h2 h3 h4 =>
        refine ⟨[c],rfl,.one fun k hk=>(EB.deep_iff (D:=fun _=>True) (ι:=fun _ _=>.nilFunc) h1 h2.kl).1 hk,fun _=>rfl,(fun q=>by cases q),fun D ι hD hat hnd=>⟨RC.wholeO hD (hat 0 c rfl) h1,?_⟩⟩;intro k e' b he hb;cases k with
        | zero =>
          simp [H9] at he hb;subst he;subst hb;exact ⟨flat,fs,h1,h2.kl,h3,h4,hnd,fun _=>G7.of_flat h2.noRef⟩
        | succ k=>simp [H9] at he
    obtain ⟨b1,hl1,hf1,hi1,hi0,h1⟩:=hb;obtain ⟨b2,hl2,hf2,hp2,h2⟩:=c6J t (j+(H9 0 j v).2.length);refine ⟨b1++b2,by simp [J7,hl1,hl2],hf1.append hf2 hl1,?_,fun D ι hD hat hnd => ?_⟩
    · intro om pre hpre hok;have hnext:∀om,a08 om vs=true->a6v (pre++(b1++b2)) om (j+(H9 0 j v).2.length) cs:=by
        intro om hok;have:=hp2 om (pre++b1) (by simp [hpre,hl1]) hok;rwa [e9Y] at this
      cases om with
      | nil=>simp [a08] at hok
      | cons o om =>
        by_cases hv:a5i v=true
        · obtain rfl:=hi1 hv;have hlen:(H9 0 j v).2.length=1:=by rw [<-hl1];rfl
          rw [hlen] at hnext;cases o with
          | none => cases v<;>first|(cases hv;done)|(simp [a08] at hok;done)|skip
                    cases h;rename_i h;cases h
          | some e =>
            refine ⟨?_,hnext om ?_⟩
            · rw [e9Z (by omega)];simp [hpre]
            · cases v<;>first|(cases hv;done)|(simpa [a08] using hok)|(simp [a08] at hok;done)
        · have hv:a5i v=false:=by simpa using hv
          obtain rfl:=hi0 hv;have hlen:(H9 0 j v).2.length=0:=by rw [<-hl1];rfl
          rw [hlen] at hnext;cases o with
          | none =>
            refine ⟨hone,hnext om ?_⟩;cases v<;>first|(cases hv;done)|(simpa [a08] using hok)
          | some e=>cases v<;>first|(cases hv;done)|(simp [a08] at hok;done)
    · rw [e9S] at hnd;obtain ⟨x1,y1⟩:=h1 D ι hD hat.left hnd.1;obtain ⟨x2,y2⟩:=h2 D ι hD (by rw [<-hl1];exact hat.right) hnd.2.1;exact ⟨.cons x1 x2,y1.append y2 hl1.symm⟩
theorem d3L{v:V}{c:Value}{f:List Nat}(h:BA w F v c f)(j:Nat):∃bs:List Value,bs.length=(I8 0 j v).2.length/\G4 w (I8 0 j v).2 bs f/\
  (∀(m:PM) (oms:List (Option (Nat×PM))) (cs pre b2:List Value),pre.length=j->c7M m v=true->a1b oms cs (pre++(bs++b2))->a1b (some (j,m)::oms) (c::cs) (pre++(bs++b2)))/\
  ∀(D:Nat->Prop) (ι:Nat->Nat->Value),D 0->At ι 0 j bs->f.Nodup->RA w F D ι (I8 0 j v).1 c/\Lie w F D ι (I8 0 j v).2 bs:=by
 by_cases hv:∃cs,v=.agg cs
 ·obtain ⟨cs,rfl⟩:=hv;cases h with
  | cell v c f h=>cases h with|fv v c h=>cases h
  | agg cs ds f h =>
   obtain ⟨bs,h1,h2,hp,h3⟩:=c6J h j;refine ⟨bs,h1,h2,?_,fun D ι hD hat hnd=>⟨.agg _ _ (h3 D ι hD hat hnd).1,(h3 D ι hD hat hnd).2⟩⟩;intro m oms cs' pre b2 hpre hm t;cases m with
   | val ck om=>exact .agg _ _ _ _ _ _ _ (c1K (hp om pre hpre hm)) t
   | ptr ck om=>cases hm
   | row=>cases hm
   | part=>cases hm
 ·obtain ⟨bs,h1,h2,hh,h3⟩:=e5S h j;refine ⟨bs,h1,h2,?_,h3⟩;intro m oms cs' pre b2 hpre hm t;cases m with
  | val ck om=>cases v<;>first|exact absurd ⟨_,rfl⟩ hv|cases hm
  | part=>cases hm
  | ptr ck om =>
   refine .pin _ _ _ _ _ _ rfl ?_ t;have:=hh hm;cases bs with
   | nil=>cases this
   | cons b b1 =>
    injection this with this;subst this;rw [e9Z (by omega)];simp [hpre]
  | row =>
   refine .pin _ _ _ _ _ _ rfl ?_ t;have:=hh hm;cases bs with
   | nil=>cases this
   | cons b b1 =>
    injection this with this;subst this;rw [e9Z (by omega)];simp [hpre]
theorem d4y{vs:List V}{cs:List Value}{f:List Nat}(h:BS w F vs cs f):∀j,∃bs:List Value,bs.length=(W2 0 j vs).2.length/\G4 w (W2 0 j vs).2 bs f/\
  (∀(oms:List (Option (Nat×PM))) (pre:List Value),pre.length=j->a3Q j oms vs=true->a1b oms cs (pre++bs))/\
  ∀(D:Nat->Prop) (ι:Nat->Nat->Value),D 0->At ι 0 j bs->f.Nodup->w8 (RA w F D ι) (W2 0 j vs).1 cs/\Lie w F D ι (W2 0 j vs).2 bs:=by
 induction h with
 | nil =>
  refine fun j=>⟨[],rfl,.nil,fun oms pre _ hp => ?_,fun D ι hD hat _=>⟨.nil,fun k e b he=>by simp [W2] at he⟩⟩
  cases oms with
  | nil=>exact .nil _
  | cons o oms=>cases o<;>simp [a3Q] at hp
 | cons v c f vs cs fs h t ih =>
  intro j;obtain ⟨b1,hl1,hf1,hh1,h1⟩:=d3L h j;obtain ⟨b2,hl2,hf2,hp2,h2⟩:=ih (j+(I8 0 j v).2.length);refine ⟨b1++b2,by simp [W2,hl1,hl2],hf1.append hf2 hl1,?_,fun D ι hD hat hnd => ?_⟩
  ·intro oms pre hpre hp;cases oms with
   | nil=>simp [a3Q] at hp
   | cons o oms =>
    have hnext:∀oms,a3Q (j+(I8 0 j v).2.length) oms vs=true->a1b oms cs (pre++(b1++b2)):=by
     intro oms hp;have:=hp2 oms (pre++b1) (by simp [hpre,hl1]) hp;rwa [e9Y] at this
    cases o with
    | none=>exact .skip _ _ _ _ (hnext oms (by simpa [a3Q] using hp))
    | some q =>
     obtain ⟨j',m⟩:=q;simp only [a3Q,e9N] at hp;obtain ⟨⟨e1,e2⟩,e3⟩:=hp;have hj:j'=j:=f0k e1;subst hj;exact hh1 m oms cs pre b2 hpre e2 (hnext oms e3)
  ·rw [e9S] at hnd;obtain ⟨x1,y1⟩:=h1 D ι hD hat.left hnd.1;obtain ⟨x2,y2⟩:=h2 D ι hD (by rw [<-hl1];exact hat.right) hnd.2.1;exact ⟨.cons x1 x2,y1.append y2 hl1.symm⟩
theorem c87{D:Nat->Prop}{ι:Nat->Nat->Value}:∀n,w8 (RV w F D ι) (b7d n) (e9L n undef)
 | 0=>.nil
 | n+1=>.cons (.any _) (c87 n)
theorem BS.len{vs:List V}{cs:List Value}{f:List Nat}(h:BS w F vs cs f):vs.length=cs.length:=by
 induction h with
 | nil=>rfl
 | cons _ _ _ _ _ _ _ _ ih=>simp [ih]
end
theorem X7.of{cx:Cx}{X:N0}{args:List V}{res:V}{outs:List (Option V)}{c:Code}(hf:cx.P.funcs[X.f]?=some X.fn)(hb:X.fn.body=some c) (hn:(X.fn.name == "runtime.NumGoroutine")=false) (ho:a3Q 0 X.oms args=true)
    (h:I6 cx X res outs [.code c] (a9D X args)):X7 cx.P X.f args res outs:=by
  refine ⟨⟨X.fn,hf,hn,by rw [hb];rfl⟩,?_⟩;intro w F cargs fp hbs hfpn hfp hF;obtain ⟨bs,hl,hbf,hpin,hlie⟩:=d4y hbs 0;have hpin':=hpin X.oms [] rfl ho;rw [f0r] at hpin';obtain ⟨hargs,hents⟩:=hlie (a9D X args).D (a4g (fun _ _=>.nilFunc) 0 bs) ⟨_,rfl⟩ (fun k b hb=>by rw [f0v];exact a4F hb) hfpn;have hent:∀g j e,(a9D X args).ent g j=some e->g=0/\(W2 0 0 args).2[j]?=some e:=by
    intro g j e he;unfold St.ent a9D at he;cases g with
    | zero=>exact ⟨rfl,he⟩
    | succ g=>simp at he
  have hget:∀j e,(W2 0 0 args).2[j]?=some e->∃b,bs[j]?=some b/\a4g (fun _ _=>.nilFunc) 0 bs 0 j=b:=by
    intro j e he;have hj:j<bs.length:=by rw [hl];exact (e9P.1 he).1
    exact ⟨bs[j],e9K hj,a4F (e9K hj)⟩
  have hrel:t7 ⟨w,F,(· ∈ fp),bs⟩ F (a4g (fun _ _=>.nilFunc) 0 bs) (a9D X args) {tmps:=cargs.toArray++Array.replicate (X.fn.ntmps-cargs.toArray.size) undef,defers:=[]} w :=
    { F0:=fun _ x=>x,F1:=hF,F2:=fun _ x=>.inl x,kept:=.refl _ _
      tmps:=by
        show w8 _ ((W2 0 0 args).1++b7d (X.fn.ntmps-args.length)) _
        simp only [Array.toList_append,Array.toList_replicate,f1h];rw [hbs.len];exact (hargs.imp fun _ _ x=>RV.one _ _ x).app (c87 _)
      ents:=fun g j e he=>by
        obtain ⟨rfl,he⟩:=hent g j e he;obtain ⟨b,hb,hv⟩:=hget j e he;rw [hv];exact hents j e b he hb
      sep:=fun g j e k he hl' hk=>by
        obtain ⟨rfl,he⟩:=hent g j e he;obtain ⟨b,hb,hv⟩:=hget j e he;rw [hv] at hk;have:=hbf.mem he hb hk;exact ⟨(hfp k this).1,.inl this⟩
      inj:=fun g j e g' j' e' k he he' hl1 hl2 hk hk'=>by
        obtain ⟨rfl,he⟩:=hent g j e he;obtain ⟨rfl,he'⟩:=hent g' j' e' he';obtain ⟨b,hb,hv⟩:=hget j e he;obtain ⟨b',hb',hv'⟩:=hget j' e' he';rw [hv] at hk;rw [hv'] at hk';exact ⟨rfl,hbf.inj hfpn he hb hk he' hb' hk'⟩
      defers:=rfl
      pins:=fun j c hc=>⟨⟨_,rfl⟩,a4F hc⟩}
  intro cs;let b:Frame:={ (default:Frame) with fn:=X.f,kind:=.normal}
  have henter:Frame.enter cx.P X.f cargs.toArray .normal =
      b.at {tmps:=cargs.toArray++Array.replicate (X.fn.ntmps-cargs.toArray.size) undef,defers:=[]} [.code c]:=by
    simp [Frame.enter,Frame.at,hf,hb,b]
  obtain ⟨e,w',fr,h1,h2,h3,h4⟩:=h w F fp cargs bs hpin' hF F _ _ w b cs hrel rfl rfl;rw [<-henter] at h2;exact ⟨e,w',fr,h1,h2,h3,h4⟩
inductive l8 (R S B:Type) where
 | ret (r:R)
 | brk (b:B)
 | nxt (s:S)
inductive l9 (R B:Type) where
 | ret (r:R)
 | brk (b:B)
def a0r{R S B:Type}(body:S->Option (l8 R S B)):Nat->S->Option (l9 R B)
 | 0,_=>none
 | n+1,s=>match body s with
  | some (.ret r)=>some (.ret r)
  | some (.brk s)=>some (.brk s)
  | some (.nxt s)=>a0r body n s
  | none=>none
open Classical in
def p8{R S B:Type}(body:S->Option (l8 R S B))(s:S):Option (l9 R B) :=
 if h:∃n r,a0r body n s=some r then some h.choose_spec.choose else none
theorem c0u{R S B:Type}{body:S->Option (l8 R S B)}:∀{n:Nat} {s:S} {r:l9 R B},a0r body n s=some r->∀m,n<=m->a0r body m s=some r
 | 0,s,r,h,_,_=>by cases h
 | n+1,s,r,h,0,hm=>by omega
 | n+1,s,r,h,m+1,hm=>by
  unfold a0r at h ⊢;cases hb:body s with
  | none=>rw [hb] at h;cases h
  | some st =>
   rw [hb] at h;cases st with
   | ret x=>exact h
   | brk x=>exact h
   | nxt x=>exact c0u h m (by omega)
theorem b9U{R S B:Type}{body:S->Option (l8 R S B)}{s:S}{r:l9 R B}:p8 body s=some r ↔ ∃n,a0r body n s=some r:=by
 unfold p8;constructor
 ·intro h;split at h
  ·rename_i hx;injection h with h;exact ⟨_,h▸hx.choose_spec.choose_spec⟩
  ·cases h
 ·rintro ⟨n,h⟩
  have hx:∃n r,a0r body n s=some r:=⟨n,r,h⟩
  rw [dif_pos hx];have h1:=hx.choose_spec.choose_spec;have h2:=c0u h1 _ (Nat.le_max_left _ n);have h3:=c0u h _ (Nat.le_max_right hx.choose n);rw [h2] at h3;exact h3
theorem c2E{R S B:Type}(body:S->Option (l8 R S B))(s:S):p8 body s=match body s with
  | some (.ret r)=>some (.ret r)
  | some (.brk s)=>some (.brk s)
  | some (.nxt s)=>p8 body s
  | none=>none:=by
 apply Option.ext;intro r;rw [b9U];cases hb:body s with
 | none =>
  constructor
  ·rintro ⟨n,h⟩
   cases n with
   | zero=>cases h
   | succ n=>unfold a0r at h;rw [hb] at h;cases h
  ·intro h;cases h
 | some st =>
  cases st with
  | ret x =>
   constructor
   ·rintro ⟨n,h⟩
    cases n with
    | zero=>cases h
    | succ n=>unfold a0r at h;rw [hb] at h;exact h
   ·intro h;exact ⟨1,by unfold a0r;rw [hb];exact h⟩
  | brk x =>
   constructor
   ·rintro ⟨n,h⟩
    cases n with
    | zero=>cases h
    | succ n=>unfold a0r at h;rw [hb] at h;exact h
   ·intro h;exact ⟨1,by unfold a0r;rw [hb];exact h⟩
  | nxt x =>
   simp only;rw [b9U];constructor
   ·rintro ⟨n,h⟩
    cases n with
    | zero=>cases h
    | succ n=>unfold a0r at h;rw [hb] at h;exact ⟨n,h⟩
   ·rintro ⟨n,h⟩
    exact ⟨n+1,by unfold a0r;rw [hb];exact h⟩
def a8T{R S B:Type}(r:l9 R B)(I:S->Prop):l8 R S B->Prop
 | .ret x=>r=.ret x
 | .brk s=>r=.brk s
 | .nxt s=>I s
theorem e1K{R S B:Type}{body:S->Option (l8 R S B)}{I:S->Prop}{s:S}{r:l9 R B}(h:p8 body s=some r)(step:∀s st,body s=some st->a8T r I st->I s):I s:=by
 obtain ⟨n,h1⟩:=b9U.1 h;clear h;have h:=h1;clear h1;induction n generalizing s with
 | zero=>cases h
 | succ n ih =>
  unfold a0r at h;cases hb:body s with
  | none=>rw [hb] at h;cases h
  | some st =>
   rw [hb] at h;refine step s st hb ?_;cases st with
   | ret x=>injection h with h;exact h.symm
   | brk x=>injection h with h;exact h.symm
   | nxt x=>exact ih h
def l9.go{R B β:Type}(x:l9 R B)(kr:R->Option β)(ks:B->Option β):Option β :=
 match x with
 | .ret r=>kr r
 | .brk s=>ks s
def JC{B J:Type}(I:J->Prop)(r:B):l9 B J->Prop
 | .ret v=>some v=some r
 | .brk j=>I j
def idx{α:Type}(l:List α)(i:Int):Option α:=if 0<=i then l[i.toNat]? else none
def t5{β:Type}(p:Prop)[Decidable p](k:Option β):Option β:=if p then k else none
theorem b4E{α:Type}{l:List α}{i:Int}{x:α}(h:idx l i=some x):0<=i/\i<l.length/\l[i.toNat]?=some x:=by
 unfold idx at h;split at h
 ·rename_i hi;refine ⟨hi,?_,h⟩;have:=(e9P.1 h).1;omega
 ·cases h
section
variable {G:Prop} {α β R S:Type}
theorem A6{m:Option α}{f:α->Option β}{r:β}(h:m.bind f=some r)(k:∀x,m=some x->f x=some r->G):G:=by
 cases m with
 | none=>cases h
 | some x=>exact k x rfl h
theorem t6{p:Prop}[Decidable p]{a:Option β}{r:β}(h:t5 p a=some r)(k:p->a=some r->G):G:=by
 unfold t5 at h;split at h
 ·rename_i hp;exact k hp h
 ·cases h
theorem e2F{B:Type}{I:S->Prop}{r:l9 R B}{x:R}{st:l8 R S B}(h:some (l8.ret x)=some st)(hc:a8T r I st)(k:r=.ret x->G):G:=by
 injection h with h;subst h;exact k hc
theorem e8K{B:Type}{I:S->Prop}{r:l9 R B}{x:B}{st:l8 R S B}(h:some (l8.brk x)=some st)(hc:a8T r I st)(k:r=.brk x->G):G:=by
 injection h with h;subst h;exact k hc
theorem d8M{B:Type}{I:S->Prop}{r:l9 R B}{x:S}{st:l8 R S B}(h:some (l8.nxt x)=some st)(hc:a8T r I st)(k:I x->G):G:=by
 injection h with h;subst h;exact k hc
theorem d5E{B:Type}{I:S->Prop}{r:l9 R B}{x:R}{st:l8 R S B}(h:some (l8.ret x)=some st)(hc:a8T r I st):r=.ret x:=e2F h hc id
theorem B2{B J:Type}{T:Option (l9 B J)}{K:J->Option B}{r:B}{I:J->Prop}(h:(T.bind fun x=>x.go some K)=some r)(rest:∀j,K j=some r->I j)(d9A:∀x,T=some x->JC I r x->G):G:=by
 cases T with
 | none=>cases h
 | some x =>
  refine d9A x rfl ?_;cases x with
  | ret v=>exact h
  | brk j=>exact rest j h
theorem B7{B J:Type}{I:J->Prop}{r v:B}{x:l9 B J}(h:some (l9.ret v)=some x)(hc:JC I r x)(k:some v=some r->G):G:=by
 injection h with h;subst h;exact k hc
theorem e9e{B J:Type}{I:J->Prop}{r v:B}{x:l9 B J}(h:some (l9.ret v)=some x)(hc:JC I r x):some v=some r:=B7 h hc id
theorem o8{B J:Type}{I:J->Prop}{r:B}{x:l9 B J}{j:J}(h:some (l9.brk j)=some x)(hc:JC I r x)(k:I j->G):G:=by
 injection h with h;subst h;exact k hc
theorem d72{B:Type}{body:S->Option (l8 R S B)}{s:S}{kr:R->Option β}{ks:B->Option β}{r:β}(h:((p8 body s).bind fun x=>x.go kr ks)=some r)(k:∀x,p8 body s=some x->(∀v,x=.ret v->kr v=some r)->(∀b,x=.brk b->ks b=some r)->G):G:=by
 cases hl:p8 body s with
 | none=>rw [hl] at h;cases h
 | some x =>
  rw [hl] at h;refine k x hl ?_ ?_
  ·intro v hv;subst hv;exact h
  ·intro b hb;subst hb;exact h
end
theorem I6.is{cx:Cx}{X:N0}{res b3C:V}{outs b22:List (Option V)}{k:List Item}{S:St}(h:I6 cx X b3C b22 k S)(h1:res=b3C)(h2:outs=b22):I6 cx X res outs k S:=by
 subst h1;subst h2;exact h
def vi(n:Int):V:=.i .i64 n
def bs:Nat->List V->List V
 | 0,l=>l
 | n+1,l=>.bot::bs n l
def l7{α:Type}(sz:Nat)(enc:α->List V)(l:List α):V:=.sl sz l.length (l.map enc)
def u7{α:Type}(e sz:Nat)(enc:α->List V)(l:List α):V:=.osl e sz l.length (l.map enc)
def m5{α:Type}(e sz:Nat)(enc:α->List V)(l:List α):s6:=.row e sz l.length (l.map enc)
def b1s{α:Type}(sz:Nat)(enc:α->List V)(l:List α):s6:=.frz sz l.length (l.map enc)
section
variable {α:Type} {enc:α->List V} {l:List α} {i:Int} {x:α}
theorem T0(h:idx l i=some x):(l.map enc)[i.toNat]?=some (enc x):=by
 rw [f0z,(b4E h).2.2];rfl
theorem b13(h:idx l i=some x):(l.map enc)[0+i.toNat]?=some (enc x):=by
 rw [f0v];exact T0 h
theorem N2(h:idx l i=some x):0<=i:=(b4E h).1
theorem b2O(h:idx l i=some x):i<(l.length:Nat):=(b4E h).2.1
theorem e6I{e sz:Nat}{y:α}{cs:List V}(h:cs=enc y):s6.row e sz (l.length+1) (l.map enc++[cs])=m5 e sz enc (l++[y]):=by
 subst h;simp [m5]
theorem c0q{e sz:Nat}{l':List α}{n:Nat}{rows:List (List V)}(h1:n=l'.length)(h2:rows=l'.map enc):s6.row e sz (l.length+n) (l.map enc++rows)=m5 e sz enc (l++l'):=by
 subst h1;subst h2;simp [m5]
theorem d7B{e sz:Nat}{k:Nat}{y:α}{cs:List V}(h:cs=enc y):s6.row e sz l.length ((l.map enc).set (0+k) cs)=m5 e sz enc (l.set k y):=by
 subst h;simp [m5,List.map_set]
theorem d1x{sz:Nat}{a b:Nat}(ha:a<=b)(hb:b<=l.length):V.sl sz (b-a) (((l.map enc).drop a).take (b-a))=l7 sz enc ((l.drop a).take (b-a)):=by
 have:min (b-a) (l.length-a)=b-a:=by omega
 simp [l7,List.map_take,List.map_drop,this]
end
def e9g(f:Func):Code:=match f.body with
 | some c=>c
 | none=>.skip
def a3g:Nat->Nat->List Bool->List Item->List Item
 | 0,_,_,k=>k
 | f+1,n,cs,k=>match k with
  | .code (.region id ops dr)::k'=>match n with
   | 0=>.code (.region id ops dr)::k'
   | n+1=>a3g f n cs k'
  | .code .skip::k'=>a3g f n cs k'
  | .inBlock _::k'=>a3g f n cs k'
  | .code (.seq x y)::k'=>a3g f n cs (.code x :: .code y::k')
  | .code (.cond o x y)::k'=>match cs with
   | c::cs=>a3g f n cs (.code (bif c then x else y)::k')
   | []=>.code (.cond o x y)::k'
  | .code (.block id c)::k'=>a3g f n cs (.code c :: .inBlock id::k')
  | .code (.loop c)::k'=>a3g f n cs (.code c :: .inLoop c::k')
  | .inLoop c::k'=>a3g f n cs (.code c :: .inLoop c::k')
  | .code (.exit id)::k'=>match exitTo id k' with
   | some k2=>a3g f n cs k2
   | none=>.code (.exit id)::k'
  | k=>k
def td(i:Nat)(d:Bool):Nat×J6:=(i,{d:=some d})
def tr(i:Nat)(cs:List V):Nat×J6:=(i,{a:=.row cs})
def m8(n:Int):Int:=IntKind.wrap .i64 n
section
variable {α:Type} {enc:α->List V} {l l':List α} {n:Nat} {x y:α} {cs:List V} {e sz:Nat}
theorem e1Y(h:cs=enc x):s6.row e sz n (e9L n cs)=m5 e sz enc (e9L n x):=by
 subst h;simp [m5]
theorem a1M(h:l.length=n):s6.row e sz n (l.map enc)=m5 e sz enc l:=by
 subst h;rfl
theorem a60{k:Nat}(h:cs=enc y):s6.arr e sz n ((l.map enc).set k cs)=.arr e sz n ((l.set k y).map enc):=by
 subst h;simp [List.map_set]
def B8(e sz:Nat)(enc:α->List V)(l:List α):s6:=.deep false e sz l.length (l.map enc)
def a9c(e sz:Nat)(enc:α->List V)(l:List α):V:=.dsl e sz l.length (l.map enc)
theorem a0q{k:Nat}(h:cs=enc y):(l.map enc).set (0+k) cs=(l.set k y).map enc:=by
 subst h;simp [List.map_set]
theorem a7p{rows:List (List V)}(h:rows=l.map enc)(hn:∀x,∀v∈enc x,v.isRef=false):G7 rows:=h▸G7.map hn l
theorem a7b{rows:List (List V)}{n:Nat}(h:rows=l.map enc)(hl:n=l.length):s6.deep false e sz n rows=B8 e sz enc l:=by
 subst h;subst hl;rfl
theorem c1m(h:cs=enc y):s6.deep false e sz (l.length+1) (l.map enc++[cs])=B8 e sz enc (l++[y]):=by
 subst h;simp [B8]
theorem b8J{L l1:List α}{lo n:Nat}(h:lo+n<=L.length):s6.row e sz (l1.length+n) (l1.map enc++((L.map enc).drop lo).take n)=m5 e sz enc (l1++(L.drop lo).take n):=by
 have:((L.drop lo).take n).length=n:=by simp;omega
 simp [m5,List.map_take,List.map_drop];omega
theorem c1F{L l1:List α}{lo n g:Nat}(h:lo+n<=L.length):V.own g 0 sz 0 (l1.length+n)=V.own g 0 sz 0 (l1++(L.drop lo).take n).length:=by
 congr 1
 simp;omega
theorem U2{rows X:List (List V)}{k:Nat}{c c':List V}(h:rows.set k c'=X):(rows.set k c).set k c'=X:=by rw [List.set_set];exact h
theorem a06{rows:List (List V)}{k:Nat}(h:k<rows.length):(rows.set k cs)[k]?=some cs:=by simp [h]
theorem a3W{rows:List (List V)}{k j:Nat}(h:k<rows.length):k<(rows.set j cs).length:=by simpa using h
theorem a1n{i:Int}(h:idx l i=some y):0+i.toNat<(l.map enc).length:=by
 have:=(b2O h)
 have:=(N2 h)
 rw [f0D];omega
theorem c2O{i:Int}{f:α->V}(hf:∀x,enc x=[f x])(h:idx l i=some y):(l.map enc).flatten[i.toNat]?=some (f y):=by
 have e:(l.map enc).flatten=l.map f:=by
  induction l with
  | nil=>rfl
  | cons x l ih =>
   have ih':(l.map enc).flatten=l.map f:=by
    clear ih h;induction l with
    | nil=>rfl
    | cons x l ih=>simp [hf,ih]
   simp [hf,ih']
 rw [e,f0z];unfold idx at h;split at h
 ·rw [h];rfl
 ·cases h
theorem b1X{hi:Int}(h:0<=hi/\hi<=(l.length:Nat)):V.sl sz (hi.toNat-0) (((l.map enc).drop 0).take (hi.toNat-0))=l7 sz enc ((l.drop 0).take (hi.toNat-0)) :=
 d1x (by omega) (by omega)
theorem b5O{lo:Int}(h:0<=lo/\lo<=(l.length:Nat)):V.sl sz (l.length-lo.toNat) (((l.map enc).drop lo.toNat).take (l.length-lo.toNat))=l7 sz enc ((l.drop lo.toNat).take (l.length-lo.toNat)) :=
 d1x (by omega) (by omega)
end
def c2v:Nat->List (Option V)
 | 0=>[]
 | n+1=>none::c2v n
theorem P8:∀n,a25 (c2v n)
 | 0=>fun v h=>by cases h
 | n+1=>fun v h=>by
  rcases e9R.1 h with q|q
  ·cases q
  ·exact P8 n v q
section
variable {P:Program} {d:Nat} {xs ys:Array Value} {f:Field} {fs:List Field} {a b:Value} {r s:Bool} {w:World}
theorem b1v:(Op.eqFields d xs ys []).run P w=.ok true w:=by simp [Op.eqFields]
theorem a04 (hn:(f.name == "_")=false) (ha:(part f.type xs f.offset).run P w=.ok a w) (hb:(part f.type ys f.offset).run P w=.ok b w) (he:(Op.equalIn d f.type a b).run P w=.ok r w) (hr:(Op.eqFields d xs ys fs).run P w=.ok s w):(Op.eqFields d xs ys (f::fs)).run P w=.ok (r&&s) w:=by
 have hn':f.name ≠ "_" := by simpa using hn
 rw [Op.eqFields];simp only [if_pos hn',Sem.run_bind,ha,hb,he,Result.andThen_ok];cases r
 ·simp
 ·simpa using hr
theorem b3g{t:TypeId}{fs:Array Field}(hu:P.underlying t=some (.struct fs))(hp:P.stoodInHeld t=false)(h:(Op.eqFields d xs ys fs.toList).run P w=.ok r w):(Op.equalIn (d+1) t (.agg xs) (.agg ys)).run P w=.ok r w:=by
 have hf:P.fieldsOf t=fs:=by simp [Program.fieldsOf,hu]
 rw [run_equalIn_struct (P:=P) w d t xs ys (by rw [hf];exact hu) hp,hf];exact h
theorem a1t{t:TypeId}{k:IntKind}{m n:Int}(h:P.underlying t=some (.int k)):(Op.equalIn (d+1) t (.int .i64 m) (.int .i64 n)).run P w=.ok (m==n) w:=run_equalIn_int w d t .i64 k m n h
end
structure Pt(cx:Cx)(X:N0)(res:V)(outs:List (Option V))(k:List Item)(S:St)(sc:Q4)(ps:List Prop):Prop where
 f:N8 ps->I6 cx X res outs k S
def c9u{α:Type}:List α->List α->List α
 | [],b=>b
 | a::l,b=>c9u l (a::b)
def scO:Q4->Q4->Q4
 | [],b=>b
 | r::l,b=>scO l (c9u r []::b)
def psO:List Prop->List Prop->List Prop
 | [],b=>b
 | p::l,b=>psO l (p::b)
theorem b9u{ps:List Prop}:∀{qs:List Prop},N8 ps->N8 qs->N8 (psO ps qs):=by
 induction ps with
 | nil=>exact fun _ h=>h
 | cons p ps ih=>exact fun h h'=>ih h.2 ⟨h.1,h'⟩
def a4e{α β:Type}(m:Option α)(f:α->Option β)(g:Option β):Option β :=
 match m with
 | some x=>f x
 | none=>g
def dt(t:Nat×J6)(d:Bool):Nat×J6:=(t.1,{t.2 with d:=some d})
section
variable {cx:Cx} {X:N0} {res:V} {outs:List (Option V)} {k:List Item} {S:St} {sc:Q4} {ps:List Prop} {r:List (Nat×J6)} {α β:Type} {v:β}
theorem P0(h:Pt cx X res outs k S [] []):I6 cx X res outs k S:=h.f N8.nil
theorem rg(h:Pt cx X res outs k S ([]::sc) ps):Pt cx X res outs k S sc ps:=⟨h.f⟩
theorem n6(h:Pt cx X res outs k S ([]::[]::sc) ps):Pt cx X res outs k S sc ps:=⟨h.f⟩
theorem M5(h:Pt cx X res outs k S ([]::[]::[]::sc) ps):Pt cx X res outs k S sc ps:=⟨h.f⟩
theorem rg4(h:Pt cx X res outs k S ([]::[]::[]::[]::sc) ps):Pt cx X res outs k S sc ps:=⟨h.f⟩
theorem tl(t:Nat×J6)(h:Pt cx X res outs k S ((t::r)::sc) ps):Pt cx X res outs k S (r::sc) ps:=⟨h.f⟩
theorem ob{p:Prop}(q:p)(h:Pt cx X res outs k S sc (p::ps)):Pt cx X res outs k S sc ps:=⟨fun a=>h.f ⟨q,a⟩⟩
theorem om(p:Prop)(q:p)(h:Pt cx X res outs k S sc (p::ps)):Pt cx X res outs k S sc ps:=ob q h
theorem cdT(t:Nat×J6){e:Bool}{a b:Option β}(h:cond e a b=some v)(k1:e=true->a=some v->Pt cx X res outs k S ((dt t true::r)::sc) ((e=true)::ps))(k2:e=false->b=some v->Pt cx X res outs k S ((dt t false::r)::sc) ((e=false)::ps)):Pt cx X res outs k S (r::sc) ps:=by
 cases e with
 | true=>exact ob rfl (tl _ (k1 rfl h))
 | false=>exact ob rfl (tl _ (k2 rfl h))
theorem j5(i:Nat){e:Bool}{a b:Option β}(h:cond e a b=some v)(k1:a=some v->Pt cx X res outs k S ((td i true::r)::sc) ((e=true)::ps))(k2:b=some v->Pt cx X res outs k S ((td i false::r)::sc) ((e=false)::ps)):Pt cx X res outs k S (r::sc) ps:=by
 cases e with
 | true=>exact ob rfl (tl _ (k1 h))
 | false=>exact ob rfl (tl _ (k2 h))
theorem cb(t:Nat->Bool->α->Nat×J6){m:Option α}{p:α->Prop}(ok:∀x,m=some x->p x)(i:Nat)(fr:Bool){f:α->Option β}(h:m.bind f=some v)(g:∀x,f x=some v->Pt cx X res outs k S ((t i fr x::r)::sc) (p x::ps)):Pt cx X res outs k S (r::sc) ps :=
 A6 h fun x hx h=>ob (ok x hx) (tl _ (g x h))
theorem cbA(t:Nat->Bool->α->Nat×J6){m:Option α}{p:α->Prop}(ok:∀x,m=some x->p x)(i:Nat)(fr:Bool){f:α->Option β}{e:Option β}(h:a4e m f e=some v)(g:∀x,f x=some v->Pt cx X res outs k S ((t i fr x::r)::sc) (p x::ps))(g2:e=some v->Pt cx X res outs k S (r::sc) ps):Pt cx X res outs k S (r::sc) ps:=by
 cases m with
 | none=>exact g2 h
 | some x=>exact ob (ok x rfl) (tl _ (g x h))
theorem cbE(t:Nat->Bool->α->Nat×J6){m:Option α}{p:α->Prop}(ok:∀x,m=some x->p x){f:α->Option β}(h:m.bind f=some v)(g:∀x,p x->f x=some v->Pt cx X res outs k S sc ps):Pt cx X res outs k S sc ps :=
 A6 h fun x hx h=>g x (ok x hx) h
section
variable {enc:α->List V} {l l':List α} {I:Int} {x y z:α}
theorem w9(enc:α->List V)(i:Nat){f:α->Option β}(h:(idx l I).bind f=some v)(g:∀y,idx l I=some y->f y=some v->Pt cx X res outs k S ((tr i (enc y)::r)::sc) (((l.map enc)[I.toNat]?=some (enc y))::(I<((l.length:Nat):Int))::((0:Int)<=I)::ps)):Pt cx X res outs k S (r::sc) ps :=
 A6 h fun y hy h=>ob (N2 hy) (ob (b2O hy) (ob (T0 hy) (tl _ (g y hy h))))
theorem L7(enc:α->List V)(i:Nat)(hy:idx l I=some y)(g:Pt cx X res outs k S ((tr i (enc y)::r)::sc) (((l.map enc)[I.toNat]?=some (enc y))::(I<((l.length:Nat):Int))::((0:Int)<=I)::ps)):Pt cx X res outs k S (r::sc) ps :=
 ob (N2 hy) (ob (b2O hy) (ob (T0 hy) (tl _ g)))
theorem B4(hy:idx l I=some y)(g:Pt cx X res outs k S sc ((I<((l.length:Nat):Int))::((0:Int)<=I)::ps)):Pt cx X res outs k S sc ps:=ob (N2 hy) (ob (b2O hy) g)
theorem H8(enc:α->List V)(i:Nat)(hy:idx l I=some y)(g:Pt cx X res outs k S ((tr i (enc y)::r)::sc) (((l.map enc)[0+I.toNat]?=some (enc y))::ps)):Pt cx X res outs k S (r::sc) ps :=
 ob (b13 hy) (tl _ g)
theorem O6(e sz:Nat)(enc:α->List V)(i:Nat)(ck:List (Option Nat))(y:α)(hz:idx l I=some z)(g:Pt cx X res outs k S (((i,{a:=.rowck (enc z) ck,e:=some (m5 e sz enc (l.set I.toNat y))})::r)::sc) (((l.map enc)[0+I.toNat]?=some (enc z))::(s6.row e sz l.length ((l.map enc).set (0+I.toNat) (enc y))=m5 e sz enc (l.set I.toNat y))::ps)):Pt cx X res outs k S (r::sc) ps :=
 ob (d7B rfl) (ob (b13 hz) (tl _ g))
theorem U1(i w t sz b:Nat)(enc:α->List V)(z:α)(T:TI)(a:N4){N:Int}(e1:0<=N/\N*((b:Nat):Int)<=140737488355328)(hb:0<b)(hl:T.zero.length=sz)(g:Pt cx X res outs k S (((i,{a:=a,e:=some (m5 t sz enc (e9L N.toNat z)),v:=some (.own w 0 sz 0 (e9L N.toNat z).length)})::r)::sc)
   ((T.zero.length=sz)::(N*((b:Nat):Int)<=140737488355328/\0<b)::(N=N)::((0:Int)<=N)::(s6.row t sz N.toNat (e9L N.toNat (enc z))=m5 t sz enc (e9L N.toNat z))::(V.own w 0 sz 0 N.toNat=.own w 0 sz 0 (e9L N.toNat z).length)::ps)):Pt cx X res outs k S (r::sc) ps :=
 ob (by simp) (ob (e1Y rfl) (ob e1.1 (ob rfl (ob ⟨e1.2,hb⟩ (ob hl (tl _ g))))))
theorem F7(i w t sz b:Nat)(enc:α->List V)(l:List α)(x:α)(h:(l.length+1)*b<=140737488355328)(g:Pt cx X res outs k S (((i,{v:=some (.own w 0 sz 0 (l++[x]).length),e:=some (m5 t sz enc (l++[x]))})::r)::sc)
   (((l.length+1)*b<=140737488355328)::(l.length=l.length)::(s6.row t sz (l.length+1) (l.map enc++[enc x])=m5 t sz enc (l++[x]))::(V.own w 0 sz 0 (l.length+1)=.own w 0 sz 0 (l++[x]).length)::ps)):Pt cx X res outs k S (r::sc) ps :=
 ob (by simp) (ob (e6I rfl) (ob rfl (ob h (tl _ g))))
theorem apL(i w t sz b:Nat)(enc:α->List V)(l l':List α)(h:(l.length+l'.length)*b<=140737488355328)(g:Pt cx X res outs k S (((i,{v:=some (.own w 0 sz 0 (l++l').length),e:=some (m5 t sz enc (l++l'))})::r)::sc)
   (((l.length+l'.length)*b<=140737488355328)::(l.length=l.length)::(s6.row t sz (l.length+l'.length) (l.map enc++l'.map enc)=m5 t sz enc (l++l'))::(V.own w 0 sz 0 (l.length+l'.length)=.own w 0 sz 0 (l++l').length)::ps)):Pt cx X res outs k S (r::sc) ps :=
 ob (by simp) (ob (c0q rfl rfl) (ob rfl (ob h (tl _ g))))
end
theorem sg(fs:List Fix)(keep:List Nat)(gs:List (Nat×Nat)){k':List Item}{S':St}(h:I6 cx X res outs k' S')(hg:a97 cx k S (scO sc []) fs keep gs=some (k',S',psO ps []):=by kernel_rfl):Pt cx X res outs k S sc ps :=
 ⟨fun a=>I6.seg _ fs keep gs _ (b9u a N8.nil) h hg⟩
def reT:List (Nat×V)->St->St×List Prop
 | [],S=>(S,[])
 | (i,v)::l,S=>match S.t[i]? with
  | some u=>match reT l {S with t:=S.t.set i v} with
   | (S',ps)=>(S',(u=v)::ps)
  | none=>reT l S
theorem c0D:∀{l:List (Nat×V)} {S:St},N8 (reT l S).2->(reT l S).1=S
 | [],_,_=>rfl
 | (i,v)::l,S,h=>by
  unfold reT at h ⊢;split at h
  ·rename_i u hu;have h1:u=v:=h.1;have h2:=c0D (l:=l) h.2;simp only;rw [h2,<-h1,Y6 hu]
  ·exact c0D h
theorem N8.split:∀{ps qs:List Prop},N8 (ps++qs)->N8 ps/\N8 qs
 | [],_,h=>⟨trivial,h⟩
 | _::_,_,h=>⟨⟨h.1,(N8.split h.2).1⟩,(N8.split h.2).2⟩
def c0R(cx:Cx)(k:List Item)(S:St)(sc:Q4)(fs:List Fix)(keep:List Nat)(gs:List (Nat×Nat))(ts:List (Nat×V)):Option (List Item×St×List Prop) :=
 match a97 cx k S sc fs keep gs with
 | some (k',S',ps)=>some (k',(reT ts S').1,ps++(reT ts S').2)
 | none=>none
theorem sgT(fs:List Fix)(keep:List Nat)(gs:List (Nat×Nat))(ts:List (Nat×V)){k':List Item}{S':St}(h:I6 cx X res outs k' S')(hg:c0R cx k S (scO sc []) fs keep gs ts=some (k',S',psO ps []):=by kernel_rfl):Pt cx X res outs k S sc ps:=by
 refine ⟨fun a => ?_⟩;unfold c0R at hg;split at hg<;>try (cases hg;done)
 rename_i k1 S1 ps1 h1;injection hg with hg;injection hg with e1 e2;injection e2 with e2 e3;have ha:=b9u a N8.nil;rw [<-e3] at ha;obtain ⟨a1,a2⟩:=N8.split ha;rw [<-e2,<-e1,c0D a2] at h;exact I6.seg _ fs keep gs _ a1 h h1
theorem a7R{α:Type}{enc:α->List V}{gs:List (Nat×Nat)}(h:∀x,(enc x).map (U5 gs)=enc x):∀l:List α,((l.map enc).flatten.map (U5 gs))=(l.map enc).flatten
 | []=>rfl
 | x::l=>by
  simp only [f0e,f0a,f0V,h,a7R h l]
theorem fn0{b3C:V}{b22:List (Option V)}(hf:cx.P.funcs[X.f]?=some X.fn)(h:res=b3C/\outs=b22)(hg:a9J cx X k S (scO sc [])=some (b3C,b22,psO ps []):=by kernel_rfl):Pt cx X res outs k S sc ps :=
 ⟨fun a=>(I6.fin hf _ _ (b9u a N8.nil) hg).is h.1 h.2⟩
end
def H7(n:Int):Prop := -9223372036854775808<=n/\n<=9223372036854775807
def z7{α:Type}(bytes:Nat)(ok:α->Prop)(l:List α):Prop:=l.length*bytes<=140737488351232/\∀x∈l,ok x
def okT{α:Type}(x:α):Prop:=True
def Old(w:World)(k:Nat):Prop:=k<w.heap.size
def b0f(P:Program){α:Type}(t:TypeId)(enc:α->List V)(ok:α->Prop):Prop :=
 ∀{H:Type} (ec:TypeId×Value->H) (w:World) (fuel:Nat) (cs:List Value) (x:DataW H×List MemPlace),DataW.trod ec P w 0 (fun _=>true) true fuel t cs=some x->(x.1.weights P t).all (·<=reachBytes)=true->
  ∃y,FL w (Old w) (enc y) cs/\ok y
section
variable {P:Program} {α:Type} {t e:TypeId} {enc:α->List V} {ok:α->Prop}
def a5R(n:Int):Prop:=0<=n/\n<=255
theorem e3G(ht:P.underlying t=some (.int .u8)):b0f P t (fun n:Int=>[.i .u8 n]) a5R:=by
 intro H ec w fuel cs x h _;obtain ⟨n,rfl,rfl,hw⟩:=DataW.trod_int ht h;refine ⟨n,.cons _ _ _ _ (.i _ _) .nil,?_⟩;simp only [Lit.wf,e9N,decide_eq_true_eq] at hw;exact hw
theorem c41{H:Type}{P:Program}{e:TypeId}{p:Nat->Bool}:∀{ds:List (DataW H)},(DataW.weightsAll P e ds).all p=true->∀d∈ds,(d.weights P e).all p=true
 | [],_,d,hd=>by cases hd
 | d0::ds,h,d,hd=>by
  rw [DataW.weightsAll,List.all_append,e9N] at h;rcases e9R.1 hd with rfl|hd
  ·exact h.1
  ·exact c41 h.2 d hd
theorem FL.flat{w:World}{F:Nat->Prop}(vs:Nat->List V)(cs:Nat->List Value):∀n,(∀i,i<n->FL w F (vs i) (cs i))->FL w F ((e9U n).flatMap vs) ((e9U n).flatMap cs)
 | 0,_=>.nil
 | n+1,h=>by
  rw [List.range_succ,List.flatMap_append,List.flatMap_append];refine FL.append (FL.flat vs cs n fun i hi=>h i (by omega)) ?_;simpa using h n (by omega)
theorem b4T{sz:Nat}(cs:Nat->List Value):∀n,(∀i,i<n->(cs i).length=sz)->∀i,i<n->∀j,j<sz->((e9U n).flatMap cs)[i*sz+j]?=(cs i)[j]?/\((e9U n).flatMap cs).length=n*sz
 | 0,_,i,hi,_,_=>by omega
 | n+1,h,i,hi,j,hj=>by
  have hl:((e9U n).flatMap cs).length=n*sz:=by
   cases n with
   | zero=>simp
   | succ m=>exact (b4T cs (m+1) (fun i hi=>h i (by omega)) 0 (by omega) j hj).2
  rw [List.range_succ,List.flatMap_append];simp only [List.flatMap_cons,List.flatMap_nil,f0m];constructor
  ·by_cases hin:i<n
   ·have:i*sz+j<n*sz:=by
     have:(i+1)*sz<=n*sz:=e95 _ hin;rw [Nat.add_mul] at this;omega
    rw [e94 (by omega)];exact (b4T cs n (fun i hi=>h i (by omega)) i hin j hj).1
   ·have:i=n:=by omega
    subst this;rw [e9Z (by omega),hl];congr 1
    omega
  ·rw [e9T,hl,h n (by omega),Nat.add_mul,Nat.one_mul]
theorem e20{β:Type}{n:Nat}{p:Nat->β->Prop}(d:β)(h:∀i,i<n->∃x,p i x):∃f:Nat->β,∀i,i<n->p i (f i):=by
 classical
 refine ⟨fun i=>if hi:i<n then (h i hi).choose else d,fun i hi => ?_⟩;simp only [dif_pos hi];exact (h i hi).choose_spec
theorem d58{sz bytes:Nat}(ht:P.underlying t=some (.slice e))(he:b0f P e enc ok)(hsz:P.cellsOf e=sz)(h0:0<sz)(hb:P.bytesOf e=bytes)(hl:∀y,(enc y).length=sz):b0f P t (fun l:List α=>[l7 sz enc l]) (z7 bytes ok):=by
 intro H ec w fuel cs x h hw;rcases DataW.trod_slice ht h with ⟨rfl,rfl⟩|⟨a,len,cap,elems,rest,n,_,rfl,rfl,hbs,hlc,hcm,hlen,hel,hsp,hns⟩
 ·exact ⟨[],.cons _ _ _ _ (.sl0 sz none 0) .nil,by simp,by simp⟩
 simp only [DataW.weights,ht,List.all_cons,List.all_append,e9N,decide_eq_true_eq,f0D] at hw;obtain ⟨hw0,hw1,hw2⟩:=hw;have hrest:rest.length=cap-len:=by
  cases hs:(fun _:Nat=>true) a.block with
  | true=>exact (hsp rfl).1
  | false=>cases hs
 have hlen2:len*bytes<=140737488351232:=by
  rw [hb] at hw0;have:len*bytes<=(elems.length+rest.length)*bytes:=e95 _ (by omega);have h2:reachBytes=140737488351232:=rfl;omega
 cases Nat.eq_zero_or_pos len with
 | inl hz =>
  subst hz;exact ⟨[],.cons _ _ _ _ (.sl0 sz _ cap) .nil,by simp,by simp⟩
 | inr hpos =>
  have key:∀i,i<len->∃cy:List Value×α,w.cells? 0 (a.add (i*sz)) sz=some cy.1/\FL w (Old w) (enc cy.2) cy.1/\ok cy.2:=by
   intro i hi;have h1:=hel i hi;have hi':i<elems.length:=by omega
   rw [e9K hi',hsz] at h1;obtain ⟨ci,h2,h3⟩:=Option.bind_eq_some_iff.1 h1;obtain ⟨y,h4,h5⟩:=he ec w n ci _ h3 (c41 hw1 _ (List.mem_map.2 ⟨_,e9M hi',rfl⟩));exact ⟨(ci,y),h2,h4,h5⟩
  obtain ⟨cy0,_⟩:=key 0 hpos;obtain ⟨f,hf⟩:=e20 cy0 key;have hcl:∀i,i<len->(f i).1.length=sz:=fun i hi=>(World.cells?_some (hf i hi).1).2.1
  have hspot:a.spot=none:=by
   have:=(World.cells?_some (hf 0 hpos).1).2.2 0 h0;rw [e9K (by rw [hcl 0 hpos];exact h0)] at this;have:=World.cell?_spot this;simpa [Addr.add] using this
  have hold:Old w a.block:=by
   have:=(World.cells?_some (hf 0 hpos).1).2.2 0 h0;rw [e9K (by rw [hcl 0 hpos];exact h0)] at this;unfold World.cell? at this;unfold Old;split at this
   ·rename_i c _ _ hh;simpa [Addr.add] using (Array.getElem?_eq_some_iff.1 hh).1
   ·cases this
  refine ⟨(e9U len).map fun i=>(f i).2,?_,?_,?_⟩
  ·have haddr:a=⟨a.block,a.off,none⟩:=by cases a;simp_all
   rw [show (Value.slice (some a) len cap)=.slice (some ⟨a.block,a.off,none⟩) len cap from by rw [<-haddr]];refine .cons _ _ _ _ ?_ .nil;unfold l7;rw [f0D,List.length_range];refine .sl sz len _ _ _ cap ((e9U len).flatMap fun i=>(f i).1) hold ?_ ?_ ?_ hlc ?_
   ·have:=FL.flat (w:=w) (F:=Old w) (fun i=>enc (f i).2) (fun i=>(f i).1) len fun i hi=>(hf i hi).2.1
    rw [f1k,<-List.flatMap_def];exact this
   ·simp
   ·intro r hr;rw [f1k] at hr;obtain ⟨i,_,rfl⟩:=List.mem_map.1 hr;exact hl _
   ·intro j u hu;have hlf:=(b4T (fun i=>(f i).1) len hcl 0 hpos 0 h0).2;have hj:j<len*sz:=by
     have:=(e9P.1 hu).1;omega
    have hq:j / sz<len:=Nat.div_lt_of_lt_mul (by rw [Nat.mul_comm];exact hj);have hr:j % sz<sz:=Nat.mod_lt _ h0;have hjs:j=j / sz*sz+j % sz:=by rw [Nat.mul_comm];exact (Nat.div_add_mod j sz).symm
    have hget:=(b4T (fun i=>(f i).1) len hcl _ hq _ hr).1;rw [<-hjs,hu] at hget;have hcell:=(World.cells?_some (hf _ hq).1).2.2 _ hr;rw [<-hget] at hcell;rw [<-hcell];have hadd:(a.add (j / sz*sz)).add (j % sz)=a.add j:=by
     rw [show (a.add (j / sz*sz)).add (j % sz)=a.add (j / sz*sz+j % sz) from Go.Deep.add_add a _ _,<-hjs]
    rw [hadd];congr 1
    unfold Addr.add;split
    ·rename_i h;subst h;exact haddr.symm
    ·rfl
  ·simpa using hlen2
  ·intro y hy;obtain ⟨i,hi,rfl⟩:=List.mem_map.1 hy;exact (hf i (by simpa using hi)).2.2
section
variable {α':Type} {H:Type} {ec:TypeId×Value->H} {w:World} {base:Nat} {r:Reach} {v:Value} {d:DataW H} {p:List MemPlace}
theorem BA.of1{F:Nat->Prop}{x:V}{c:Value}(h:FL w F [x] [c]):BA w F x c []:=by
 cases h with
 | cons _ _ _ _ h _=>exact .cell _ _ _ (.fv _ _ h)
theorem e67{f:α->V}(ht:P.underlying t=some (.slice e))(ho:b0f P t (fun y=>[f y]) ok)(hv:Value.okWide P w r base t v)(h:DataW.Trod ec P w 0 (fun _=>true) true t v d p)(hw:(d.weights P t).all (·<=reachBytes)=true):∃y,BA w (Old w) (f y) v []/\ok y:=by
 obtain ⟨a,l,c,rfl⟩:=WideShapes.okWide_slice ht hv;obtain ⟨fuel,hf⟩:=h;obtain ⟨y,h1,h2⟩:=ho ec w fuel _ _ hf hw;exact ⟨y,BA.of1 h1,h2⟩
end
theorem e2n{f:FuncId}{args:List V}{outs:List (Option V)}{vs:List Value}{W:World}(h:X7 P f args (.b true) outs)(hb:BS W (Old W) args vs []) :
  Calls P f vs.toArray W fun e W'=>e=.returned (.bool true)/\RowKit.Below W.heap.size W W':=by
 refine (h.2 W (Old W) vs [] hb List.nodup_nil (by simp) (fun k hk=>hk)).mono ?_;rintro e W' ⟨c,F',fr,fo,rfl,hk,_,_,hr,_,_,_⟩
 refine ⟨?_,hk.os,hk.tape,hk.output,hk.size,fun k hk'=>hk.block k hk' (by simp)⟩;cases hr with
 | one _ _ _ h =>
  cases h with
  | cell _ _ _ h =>
   cases h with
   | fv _ _ h=>cases h;rfl
end
abbrev LOV:=List (Option V)
abbrev KS:=List Item×St
def FK(cx:Cx)(X:N0)(res:V)(outs:LOV)(s:KS):Prop:=I6 cx X res outs s.1 s.2
structure LC(cx:Cx)(X:N0){R P E:Type}(fR:R->V)(fO:R->LOV)(SE:E->KS)(S:P->KS) where
 res:V
 outs:LOV
 x:l9 R E
 hb:∀s:E,x=.brk s->FK cx X res outs (SE s)
 hr:∀v:R,x=.ret v->res=fR v/\outs=fO v
 st:l8 R P E
 hc:a8T x (fun s=>FK cx X res outs (S s)) st
section
variable {cx:Cx} {X:N0} {R P E J:Type} {fR:R->V} {fO:R->LOV} {SE:E->KS} {SP:P->KS} {G:Prop} {α β:Type}
abbrev LB(cx:Cx)(X:N0)(fR:R->V)(fO:R->LOV)(SE:E->KS)(SP:P->KS)(b:P->Option (l8 R P E)):Prop := ∀(c:LC cx X fR fO SE SP) (s:P),b s=some c.st->FK cx X c.res c.outs (SP s)
abbrev NL(c:LC cx X fR fO SE SP)(S:J->KS)(f:J->Option (l8 R P E)):Prop := ∀s,f s=some c.st->FK cx X c.res c.outs (S s)
theorem LC.nx(c:LC cx X fR fO SE SP){s:P}(h:some (l8.nxt s)=some c.st)(g:FK cx X c.res c.outs (SP s)->G):G:=d8M h c.hc g
theorem LC.bk(c:LC cx X fR fO SE SP){s:E}(h:some (l8.brk s)=some c.st)(g:FK cx X c.res c.outs (SE s)->G):G:=e8K h c.hc fun e=>g (c.hb _ e)
theorem LC.rt(c:LC cx X fR fO SE SP){r:R}(h:some (l8.ret r)=some c.st):c.res=fR r/\c.outs=fO r:=c.hr _ (d5E h c.hc)
variable {res:V} {outs:LOV} {k:List Item} {S:St} {sc:Q4} {ps:List Prop} {r:List (Nat×J6)} {v:β} {s:KS}
theorem PK(h:Pt cx X res outs s.1 s.2 [] []):FK cx X res outs s:=h.f N8.nil
theorem sk(fs:List Fix)(keep:List Nat)(gs:List (Nat×Nat))(h:FK cx X res outs s)(hg:a97 cx k S (scO sc []) fs keep gs=some (s.1,s.2,psO ps []):=by kernel_rfl):Pt cx X res outs k S sc ps:=sg fs keep gs h hg
theorem skT(fs:List Fix)(keep:List Nat)(gs:List (Nat×Nat))(ts:List (Nat×V))(h:FK cx X res outs s)(hg:c0R cx k S (scO sc []) fs keep gs ts=some (s.1,s.2,psO ps []):=by kernel_rfl):Pt cx X res outs k S sc ps:=sgT fs keep gs ts h hg
theorem lp{b:P->Option (l8 R P E)}(B:LB cx X fR fO SE SP b){c6g:P}{g1:R->Option β}{g2:E->Option β}(h:((p8 b c6g).bind fun x=>x.go g1 g2)=some v)(h1:∀r,g1 r=some v->res=fR r/\outs=fO r)(h2:∀s,g2 s=some v->FK cx X res outs (SE s))(hs:FK cx X res outs (SP c6g)->Pt cx X res outs k S sc ps):Pt cx X res outs k S sc ps :=
 d72 h fun x hl hr hb=>hs (e1K (I:=fun s=>FK cx X res outs (SP s)) hl fun s st h hc=>B ⟨res,outs,x,fun s e=>h2 s (hb s e),fun v e=>h1 v (hr v e),st,hc⟩ s h)
theorem s7{α:Type}(a:List α)(h:Pt cx X res outs k S sc ((a.length=a.length)::ps)):Pt cx X res outs k S sc ps:=ob rfl h
theorem C2{α β:Type}(a:List α)(b:List β)(h:Pt cx X res outs k S sc ((b.length=b.length)::(a.length=a.length)::ps)):Pt cx X res outs k S sc ps:=ob rfl (ob rfl h)
theorem W0{α β γ:Type}(a:List α)(b:List β)(c:List γ)(h:Pt cx X res outs k S sc ((c.length=c.length)::(b.length=b.length)::(a.length=a.length)::ps)):Pt cx X res outs k S sc ps:=ob rfl (ob rfl (ob rfl h))
theorem G0{α β γ δ:Type}(a:List α)(b:List β)(c:List γ)(d:List δ)(h:Pt cx X res outs k S sc ((d.length=d.length)::(c.length=c.length)::(b.length=b.length)::(a.length=a.length)::ps)):Pt cx X res outs k S sc ps:=ob rfl (ob rfl (ob rfl (ob rfl h)))
theorem B6(α:Type)(h:Pt cx X res outs k S sc ((0=([]:List α).length)::ps)):Pt cx X res outs k S sc ps:=ob rfl h
theorem E5{α:Type}(x:α)(h:Pt cx X res outs k S sc ((1=[x].length)::ps)):Pt cx X res outs k S sc ps:=ob rfl h
theorem tk(i:Nat)(c:List (Option Nat))(h:Pt cx X res outs k S (((i,{a:=.ck c})::r)::sc) ps):Pt cx X res outs k S (r::sc) ps:=tl _ h
theorem oa(g j sz:Nat){α:Type}(a b:List α)(h:Pt cx X res outs k S sc ((V.own g j sz 0 (a.length+b.length)=.own g j sz 0 (a++b).length)::ps)):Pt cx X res outs k S sc ps:=ob (congrArg (V.own g j sz 0) e9T.symm) h
theorem oz(e sz:Nat){α:Type}(f:α->List V)(a b:List α)(h:Pt cx X res outs k S sc ((s6.row e sz (a.length+b.length) (a.map f++b.map f)=m5 e sz f (a++b))::ps)):Pt cx X res outs k S sc ps:=ob (c0q rfl rfl) h
end
def eI(x:Int):List V:=[vi x]
def J0(x:Int):List V:=[.i .u8 x]
def eB(x:Bool):List V:=[.b x]
structure q8 where
 d8:Int
 Seq:Int
def Z1(x:q8):List V:=[vi x.d8,vi x.Seq]
structure p9 where
 i6:Int
 j4:Int
def u5(x:p9):List V:=[vi x.i6,vi x.j4]
structure n9 where
 i6:Int
 f0:Int
def u6(x:n9):List V:=[vi x.i6,vi x.f0]
structure n5 where
 b5:List p9
 b6:List n9
 f0:Int
 Code:Int
def P3(x:n5):List V:=[l7 2 u5 x.b5,l7 2 u6 x.b6,vi x.f0,vi x.Code]
structure m4 where
 i8:Bool
 a5:q8
 b8:n5
def t0(x:m4):List V:=[.b x.i8,vi x.a5.d8,vi x.a5.Seq,l7 2 u5 x.b8.b5,l7 2 u6 x.b8.b6,vi x.b8.f0,vi x.b8.Code]
structure m7 where
 a7:Int
 i0:m4
def p6(x:m7):List V:=[vi x.a7,.b x.i0.i8,vi x.i0.a5.d8,vi x.i0.a5.Seq,l7 2 u5 x.i0.b8.b5,l7 2 u6 x.i0.b8.b6,vi x.i0.b8.f0,vi x.i0.b8.Code]
structure x6 where
 g8:Int
 a6:List m7
def Y5(x:x6):List V:=[vi x.g8,l7 8 p6 x.a6]
structure o9 where
 a8:Int
 A:Int
 B:Int
 N:Int
def z6(x:o9):List V:=[vi x.a8,vi x.A,vi x.B,vi x.N]
structure j6 where
 Id:Int
 Acc:x6
 a0:List m4
 Seq:Int
 d6:Int
 a7:Int
 c8:List Bool
 g9:List m7
 c9:m4
 a6:List Bool
 i7:Bool
 i5:List o9
 b7:m4
 d9:List m4
def A2(x:j6):List V:=[vi x.Id,vi x.Acc.g8,l7 8 p6 x.Acc.a6,l7 7 t0 x.a0,vi x.Seq,vi x.d6,vi x.a7,l7 1 eB x.c8,l7 8 p6 x.g9,.b x.c9.i8,vi x.c9.a5.d8,vi x.c9.a5.Seq,l7 2 u5 x.c9.b8.b5,l7 2 u6 x.c9.b8.b6,vi x.c9.b8.f0,vi x.c9.b8.Code,l7 1 eB x.a6,.b x.i7,l7 4 z6 x.i5,.b x.b7.i8,vi x.b7.a5.d8,vi x.b7.a5.Seq,l7 2 u5 x.b7.b8.b5,l7 2 u6 x.b7.b8.b6,vi x.b7.b8.f0,vi x.b7.b8.Code,l7 7 t0 x.d9]
structure j8 where
 a8:Int
 c8:Int
 To:Int
 a7:Int
 g7:Int
 i0:m4
 a6:List m7
def s5(x:j8):List V:=[vi x.a8,vi x.c8,vi x.To,vi x.a7,vi x.g7,.b x.i0.i8,vi x.i0.a5.d8,vi x.i0.a5.Seq,l7 2 u5 x.i0.b8.b5,l7 2 u6 x.i0.b8.b6,vi x.i0.b8.f0,vi x.i0.b8.Code,l7 8 p6 x.a6]
structure v5 where
 a5:q8
 i5:List o9
def A7(x:v5):List V:=[vi x.a5.d8,vi x.a5.Seq,l7 4 z6 x.i5]
structure m9 where
 Node:Int
 a5:q8
 Code:Int
 f0:Int
def x7(x:m9):List V:=[vi x.Node,vi x.a5.d8,vi x.a5.Seq,vi x.Code,vi x.f0]
structure m6 where
 a9:List j6
 b9:List j8
 d7:List v5
 Told:List m9
def a0h(x:m6):List V:=[l7 27 A2 x.a9,l7 13 s5 x.b9,l7 3 A7 x.d7,l7 5 x7 x.Told]
structure p7 where
 a8:Int
 A:Int
 i5:List o9
def G1(x:p7):List V:=[vi x.a8,vi x.A,l7 4 z6 x.i5]
structure s9 where
 b:List Int
 p:Int
def W5(x:s9):List V:=[l7 1 J0 x.b,vi x.p]
structure q9 where
 j4:Int
 f0:Int
def z5(x:q9):List V:=[vi x.j4,vi x.f0]
structure r9 where
 a5:q8
 Code:Int
 f0:Int
def B3(x:r9):List V:=[vi x.a5.d8,vi x.a5.Seq,vi x.Code,vi x.f0]
structure v6 where
 At:Int
 i4:List q9
 i9:List r9
def a7O(x:v6):List V:=[vi x.At,l7 2 z5 x.i4,l7 4 B3 x.i9]
structure n7 where
 n:j6
 out:List j8
 told:List m9
def c4w(x:n7):List V:=[vi x.n.Id,vi x.n.Acc.g8,l7 8 p6 x.n.Acc.a6,l7 7 t0 x.n.a0,vi x.n.Seq,vi x.n.d6,vi x.n.a7,l7 1 eB x.n.c8,l7 8 p6 x.n.g9,.b x.n.c9.i8,vi x.n.c9.a5.d8,vi x.n.c9.a5.Seq,l7 2 u5 x.n.c9.b8.b5,l7 2 u6 x.n.c9.b8.b6,vi x.n.c9.b8.f0,vi x.n.c9.b8.Code,l7 1 eB x.n.a6,.b x.n.i7,l7 4 z6 x.n.i5,.b x.n.b7.i8,vi x.n.b7.a5.d8,vi x.n.b7.a5.Seq,l7 2 u5 x.n.b7.b8.b5,l7 2 u6 x.n.b7.b8.b6,vi x.n.b7.b8.f0,vi x.n.b7.b8.Code,l7 7 t0 x.n.d9,l7 13 s5 x.out,l7 5 x7 x.told]
def x9(x:j6):List V:=[vi x.Id,vi x.Acc.g8,u7 152 8 p6 x.Acc.a6,u7 43 7 t0 x.a0,vi x.Seq,vi x.d6,vi x.a7,u7 4 1 eB x.c8,l7 8 p6 x.g9,.b x.c9.i8,vi x.c9.a5.d8,vi x.c9.a5.Seq,l7 2 u5 x.c9.b8.b5,l7 2 u6 x.c9.b8.b6,vi x.c9.b8.f0,vi x.c9.b8.Code,u7 4 1 eB x.a6,.b x.i7,l7 4 z6 x.i5,.b x.b7.i8,vi x.b7.a5.d8,vi x.b7.a5.Seq,l7 2 u5 x.b7.b8.b5,l7 2 u6 x.b7.b8.b6,vi x.b7.b8.f0,vi x.b7.b8.Code,u7 43 7 t0 x.d9]
theorem a5x(x:j6):∀v∈x9 x,v.isRef=false:=by simp [x9,V.isRef,vi,l7,u7,a9c]
theorem b23(x:j6):a1A (x9 x)=A2 x:=by simp [x9,A2,a1A,a69,vi,l7,u7,a9c]
def a0d(x:m7):List V:=[vi x.a7,.b x.i0.i8,vi x.i0.a5.d8,vi x.i0.a5.Seq,u7 86 2 u5 x.i0.b8.b5,u7 89 2 u6 x.i0.b8.b6,vi x.i0.b8.f0,vi x.i0.b8.Code]
theorem d6w(x:m7):a1A (a0d x)=p6 x:=by simp [a0d,p6,a1A,a69,vi,l7,u7,a9c]
def d8f(x_:j6):List V:=[vi x_.Id,vi x_.Acc.g8,l7 8 p6 x_.Acc.a6,u7 43 7 t0 x_.a0,vi x_.Seq,vi x_.d6,vi x_.a7,u7 4 1 eB x_.c8,l7 8 p6 x_.g9,.b x_.c9.i8,vi x_.c9.a5.d8,vi x_.c9.a5.Seq,l7 2 u5 x_.c9.b8.b5,l7 2 u6 x_.c9.b8.b6,vi x_.c9.b8.f0,vi x_.c9.b8.Code,u7 4 1 eB x_.a6,.b x_.i7,l7 4 z6 x_.i5,.b x_.b7.i8,vi x_.b7.a5.d8,vi x_.b7.a5.Seq,l7 2 u5 x_.b7.b8.b5,l7 2 u6 x_.b7.b8.b6,vi x_.b7.b8.f0,vi x_.b7.b8.Code,u7 43 7 t0 x_.d9]
def a6U(x_:m6):List V:=[u7 65 27 A2 x_.a9,u7 76 13 s5 x_.b9,u7 78 3 A7 x_.d7,u7 72 5 x7 x_.Told]
def F9(x_:j6):List V:=[vi x_.Id,vi x_.Acc.g8,u7 152 8 p6 x_.Acc.a6,u7 43 7 t0 x_.a0,vi x_.Seq,vi x_.d6,vi x_.a7,u7 4 1 eB x_.c8,l7 8 p6 x_.g9,.b x_.c9.i8,vi x_.c9.a5.d8,vi x_.c9.a5.Seq,l7 2 u5 x_.c9.b8.b5,l7 2 u6 x_.c9.b8.b6,vi x_.c9.b8.f0,vi x_.c9.b8.Code,u7 4 1 eB x_.a6,.b x_.i7,l7 4 z6 x_.i5,.b x_.b7.i8,vi x_.b7.a5.d8,vi x_.b7.a5.Seq,l7 2 u5 x_.b7.b8.b5,l7 2 u6 x_.b7.b8.b6,vi x_.b7.b8.f0,vi x_.b7.b8.Code,u7 43 7 t0 x_.d9]
def R7(x_:m6):List V:=[a9c 65 27 x9 x_.a9,u7 76 13 s5 x_.b9,u7 78 3 A7 x_.d7,u7 72 5 x7 x_.Told]
def a5w(x_:n5):List V:=[u7 86 2 u5 x_.b5,u7 89 2 u6 x_.b6,vi x_.f0,vi x_.Code]
def e6C(x_:m4):List V:=[.b x_.i8,vi x_.a5.d8,vi x_.a5.Seq,u7 86 2 u5 x_.b8.b5,u7 89 2 u6 x_.b8.b6,vi x_.b8.f0,vi x_.b8.Code]
def c5z(x_:m7):List V:=[vi x_.a7,.b x_.i0.i8,vi x_.i0.a5.d8,vi x_.i0.a5.Seq,l7 2 u5 x_.i0.b8.b5,l7 2 u6 x_.i0.b8.b6,vi x_.i0.b8.f0,vi x_.i0.b8.Code]
def a7S(x_:j6):List V:=[vi x_.Id,vi x_.Acc.g8,.own 0 0 8 0 x_.Acc.a6.length,.own 0 1 7 0 x_.a0.length,vi x_.Seq,vi x_.d6,vi x_.a7,.own 0 2 1 0 x_.c8.length,l7 8 p6 x_.g9,.b x_.c9.i8,vi x_.c9.a5.d8,vi x_.c9.a5.Seq,l7 2 u5 x_.c9.b8.b5,l7 2 u6 x_.c9.b8.b6,vi x_.c9.b8.f0,vi x_.c9.b8.Code,.own 0 3 1 0 x_.a6.length,.b x_.i7,l7 4 z6 x_.i5,.b x_.b7.i8,vi x_.b7.a5.d8,vi x_.b7.a5.Seq,l7 2 u5 x_.b7.b8.b5,l7 2 u6 x_.b7.b8.b6,vi x_.b7.b8.f0,vi x_.b7.b8.Code,.own 0 4 7 0 x_.d9.length]
def a7P(x_:j6):List V:=[vi x_.Id,vi x_.Acc.g8,l7 8 p6 x_.Acc.a6,l7 7 t0 x_.a0,vi x_.Seq,vi x_.d6,vi x_.a7,l7 1 eB x_.c8,l7 8 p6 x_.g9,.b x_.c9.i8,vi x_.c9.a5.d8,vi x_.c9.a5.Seq,l7 2 u5 x_.c9.b8.b5,l7 2 u6 x_.c9.b8.b6,vi x_.c9.b8.f0,vi x_.c9.b8.Code,l7 1 eB x_.a6,.b x_.i7,l7 4 z6 x_.i5,.b x_.b7.i8,vi x_.b7.a5.d8,vi x_.b7.a5.Seq,l7 2 u5 x_.b7.b8.b5,l7 2 u6 x_.b7.b8.b6,vi x_.b7.b8.f0,vi x_.b7.b8.Code,l7 7 t0 x_.d9]
def a38(x_:j8):List V:=[vi x_.a8,vi x_.c8,vi x_.To,vi x_.a7,vi x_.g7,.b x_.i0.i8,vi x_.i0.a5.d8,vi x_.i0.a5.Seq,l7 2 u5 x_.i0.b8.b5,l7 2 u6 x_.i0.b8.b6,vi x_.i0.b8.f0,vi x_.i0.b8.Code,l7 8 p6 x_.a6]
def a4D(x_:m4):List V:=[.b x_.i8,vi x_.a5.d8,vi x_.a5.Seq,l7 2 u5 x_.b8.b5,l7 2 u6 x_.b8.b6,vi x_.b8.f0,vi x_.b8.Code]
def b0z(x_:v6):List V:=[vi x_.At,u7 95 2 z5 x_.i4,l7 4 B3 x_.i9]
def d6p(x_:j6):List V:=[.bot,.bot,u7 152 8 p6 x_.Acc.a6,u7 43 7 t0 x_.a0,.bot,.bot,.bot,u7 4 1 eB x_.c8,.bot,.bot,.bot,.bot,.bot,.bot,.bot,.bot,u7 4 1 eB x_.a6,.bot,.bot,.bot,.bot,.bot,.bot,.bot,.bot,.bot,u7 43 7 t0 x_.d9]
def d9W(x_:j6):List V:=[vi x_.Id,vi x_.Acc.g8,.own 3 0 8 0 x_.Acc.a6.length,.own 4 0 7 0 x_.a0.length,vi x_.Seq,vi x_.d6,vi x_.a7,.own 5 0 1 0 x_.c8.length,l7 8 p6 x_.g9,.b x_.c9.i8,vi x_.c9.a5.d8,vi x_.c9.a5.Seq,l7 2 u5 x_.c9.b8.b5,l7 2 u6 x_.c9.b8.b6,vi x_.c9.b8.f0,vi x_.c9.b8.Code,.own 6 0 1 0 x_.a6.length,.b x_.i7,l7 4 z6 x_.i5,.b x_.b7.i8,vi x_.b7.a5.d8,vi x_.b7.a5.Seq,l7 2 u5 x_.b7.b8.b5,l7 2 u6 x_.b7.b8.b6,vi x_.b7.b8.f0,vi x_.b7.b8.Code,.own 7 0 7 0 x_.d9.length]
def b7U(x_:n7):List V:=[vi x_.n.Id,vi x_.n.Acc.g8,l7 8 p6 x_.n.Acc.a6,u7 43 7 t0 x_.n.a0,vi x_.n.Seq,vi x_.n.d6,vi x_.n.a7,u7 4 1 eB x_.n.c8,l7 8 p6 x_.n.g9,.b x_.n.c9.i8,vi x_.n.c9.a5.d8,vi x_.n.c9.a5.Seq,l7 2 u5 x_.n.c9.b8.b5,l7 2 u6 x_.n.c9.b8.b6,vi x_.n.c9.b8.f0,vi x_.n.c9.b8.Code,u7 4 1 eB x_.n.a6,.b x_.n.i7,l7 4 z6 x_.n.i5,.b x_.n.b7.i8,vi x_.n.b7.a5.d8,vi x_.n.b7.a5.Seq,l7 2 u5 x_.n.b7.b8.b5,l7 2 u6 x_.n.b7.b8.b6,vi x_.n.b7.b8.f0,vi x_.n.b7.b8.Code,u7 43 7 t0 x_.n.d9,u7 76 13 s5 x_.out,u7 72 5 x7 x_.told]
def b2r(x_:v6):List V:=[vi x_.At,u7 95 2 z5 x_.i4,u7 166 4 B3 x_.i9]
def c0b(x_:n7):List V:=[vi x_.n.Id,vi x_.n.Acc.g8,l7 8 p6 x_.n.Acc.a6,.own 0 1 7 0 x_.n.a0.length,vi x_.n.Seq,vi x_.n.d6,vi x_.n.a7,.own 0 2 1 0 x_.n.c8.length,l7 8 p6 x_.n.g9,.b x_.n.c9.i8,vi x_.n.c9.a5.d8,vi x_.n.c9.a5.Seq,l7 2 u5 x_.n.c9.b8.b5,l7 2 u6 x_.n.c9.b8.b6,vi x_.n.c9.b8.f0,vi x_.n.c9.b8.Code,.own 0 3 1 0 x_.n.a6.length,.b x_.n.i7,l7 4 z6 x_.n.i5,.b x_.n.b7.i8,vi x_.n.b7.a5.d8,vi x_.n.b7.a5.Seq,l7 2 u5 x_.n.b7.b8.b5,l7 2 u6 x_.n.b7.b8.b6,vi x_.n.b7.b8.f0,vi x_.n.b7.b8.Code,l7 7 t0 x_.n.d9,.own 0 4 13 0 x_.out.length,.own 0 5 5 0 x_.told.length]
def K8(x_:n7):List V:=[vi x_.n.Id,vi x_.n.Acc.g8,l7 8 p6 x_.n.Acc.a6,u7 43 7 t0 x_.n.a0,vi x_.n.Seq,vi x_.n.d6,vi x_.n.a7,u7 4 1 eB x_.n.c8,l7 8 p6 x_.n.g9,.b x_.n.c9.i8,vi x_.n.c9.a5.d8,vi x_.n.c9.a5.Seq,l7 2 u5 x_.n.c9.b8.b5,l7 2 u6 x_.n.c9.b8.b6,vi x_.n.c9.b8.f0,vi x_.n.c9.b8.Code,u7 4 1 eB x_.n.a6,.b x_.n.i7,l7 4 z6 x_.n.i5,.b x_.n.b7.i8,vi x_.n.b7.a5.d8,vi x_.n.b7.a5.Seq,l7 2 u5 x_.n.b7.b8.b5,l7 2 u6 x_.n.b7.b8.b6,vi x_.n.b7.b8.f0,vi x_.n.b7.b8.Code,l7 7 t0 x_.n.d9,u7 76 13 s5 x_.out,u7 72 5 x7 x_.told]
def b1q(x_:n7):List V:=[vi x_.n.Id,vi x_.n.Acc.g8,l7 8 p6 x_.n.Acc.a6,.own 1 0 7 0 x_.n.a0.length,vi x_.n.Seq,vi x_.n.d6,vi x_.n.a7,.own 2 0 1 0 x_.n.c8.length,l7 8 p6 x_.n.g9,.b x_.n.c9.i8,vi x_.n.c9.a5.d8,vi x_.n.c9.a5.Seq,l7 2 u5 x_.n.c9.b8.b5,l7 2 u6 x_.n.c9.b8.b6,vi x_.n.c9.b8.f0,vi x_.n.c9.b8.Code,.own 3 0 1 0 x_.n.a6.length,.b x_.n.i7,l7 4 z6 x_.n.i5,.b x_.n.b7.i8,vi x_.n.b7.a5.d8,vi x_.n.b7.a5.Seq,l7 2 u5 x_.n.b7.b8.b5,l7 2 u6 x_.n.b7.b8.b6,vi x_.n.b7.b8.f0,vi x_.n.b7.b8.Code,l7 7 t0 x_.n.d9,.own 4 0 13 0 x_.out.length,.own 5 0 5 0 x_.told.length]
def e5T(x_:n7):List V:=[vi x_.n.Id,vi x_.n.Acc.g8,l7 8 p6 x_.n.Acc.a6,.own 6 0 7 0 x_.n.a0.length,vi x_.n.Seq,vi x_.n.d6,vi x_.n.a7,.own 5 0 1 0 x_.n.c8.length,l7 8 p6 x_.n.g9,.b x_.n.c9.i8,vi x_.n.c9.a5.d8,vi x_.n.c9.a5.Seq,l7 2 u5 x_.n.c9.b8.b5,l7 2 u6 x_.n.c9.b8.b6,vi x_.n.c9.b8.f0,vi x_.n.c9.b8.Code,.own 4 0 1 0 x_.n.a6.length,.b x_.n.i7,l7 4 z6 x_.n.i5,.b x_.n.b7.i8,vi x_.n.b7.a5.d8,vi x_.n.b7.a5.Seq,l7 2 u5 x_.n.b7.b8.b5,l7 2 u6 x_.n.b7.b8.b6,vi x_.n.b7.b8.f0,vi x_.n.b7.b8.Code,l7 7 t0 x_.n.d9,.own 3 0 13 0 x_.out.length,.own 2 0 5 0 x_.told.length]
def b2j(x_:n7):List V:=[vi x_.n.Id,vi x_.n.Acc.g8,l7 8 p6 x_.n.Acc.a6,.own 3 0 7 0 x_.n.a0.length,vi x_.n.Seq,vi x_.n.d6,vi x_.n.a7,.own 4 0 1 0 x_.n.c8.length,l7 8 p6 x_.n.g9,.b x_.n.c9.i8,vi x_.n.c9.a5.d8,vi x_.n.c9.a5.Seq,l7 2 u5 x_.n.c9.b8.b5,l7 2 u6 x_.n.c9.b8.b6,vi x_.n.c9.b8.f0,vi x_.n.c9.b8.Code,.own 5 0 1 0 x_.n.a6.length,.b x_.n.i7,l7 4 z6 x_.n.i5,.b x_.n.b7.i8,vi x_.n.b7.a5.d8,vi x_.n.b7.a5.Seq,l7 2 u5 x_.n.b7.b8.b5,l7 2 u6 x_.n.b7.b8.b6,vi x_.n.b7.b8.f0,vi x_.n.b7.b8.Code,l7 7 t0 x_.n.d9,.own 6 0 13 0 x_.out.length,.own 7 0 5 0 x_.told.length]
def d08(x_:n7):List V:=[vi x_.n.Id,vi x_.n.Acc.g8,l7 8 p6 x_.n.Acc.a6,.own 1 0 7 0 x_.n.a0.length,vi x_.n.Seq,vi x_.n.d6,vi x_.n.a7,.own 0 2 1 0 x_.n.c8.length,l7 8 p6 x_.n.g9,.b x_.n.c9.i8,vi x_.n.c9.a5.d8,vi x_.n.c9.a5.Seq,l7 2 u5 x_.n.c9.b8.b5,l7 2 u6 x_.n.c9.b8.b6,vi x_.n.c9.b8.f0,vi x_.n.c9.b8.Code,.own 2 0 1 0 x_.n.a6.length,.b x_.n.i7,l7 4 z6 x_.n.i5,.b x_.n.b7.i8,vi x_.n.b7.a5.d8,vi x_.n.b7.a5.Seq,l7 2 u5 x_.n.b7.b8.b5,l7 2 u6 x_.n.b7.b8.b6,vi x_.n.b7.b8.f0,vi x_.n.b7.b8.Code,l7 7 t0 x_.n.d9,.own 0 4 13 0 x_.out.length,.own 0 5 5 0 x_.told.length]
def d7q(x_:n7):List V:=[vi x_.n.Id,vi x_.n.Acc.g8,l7 8 p6 x_.n.Acc.a6,.own 1 0 7 0 x_.n.a0.length,vi x_.n.Seq,vi x_.n.d6,vi x_.n.a7,.own 0 2 1 0 x_.n.c8.length,l7 8 p6 x_.n.g9,.b x_.n.c9.i8,vi x_.n.c9.a5.d8,vi x_.n.c9.a5.Seq,l7 2 u5 x_.n.c9.b8.b5,l7 2 u6 x_.n.c9.b8.b6,vi x_.n.c9.b8.f0,vi x_.n.c9.b8.Code,.own 2 0 1 0 x_.n.a6.length,.b x_.n.i7,l7 4 z6 x_.n.i5,.b x_.n.b7.i8,vi x_.n.b7.a5.d8,vi x_.n.b7.a5.Seq,l7 2 u5 x_.n.b7.b8.b5,l7 2 u6 x_.n.b7.b8.b6,vi x_.n.b7.b8.f0,vi x_.n.b7.b8.Code,l7 7 t0 x_.n.d9,.own 0 4 13 0 x_.out.length,.own 3 0 5 0 x_.told.length]
def d78(x_:n7):List V:=[vi x_.n.Id,vi x_.n.Acc.g8,l7 8 p6 x_.n.Acc.a6,.own 4 0 7 0 x_.n.a0.length,vi x_.n.Seq,vi x_.n.d6,vi x_.n.a7,.own 5 0 1 0 x_.n.c8.length,l7 8 p6 x_.n.g9,.b x_.n.c9.i8,vi x_.n.c9.a5.d8,vi x_.n.c9.a5.Seq,l7 2 u5 x_.n.c9.b8.b5,l7 2 u6 x_.n.c9.b8.b6,vi x_.n.c9.b8.f0,vi x_.n.c9.b8.Code,.own 6 0 1 0 x_.n.a6.length,.b x_.n.i7,l7 4 z6 x_.n.i5,.b x_.n.b7.i8,vi x_.n.b7.a5.d8,vi x_.n.b7.a5.Seq,l7 2 u5 x_.n.b7.b8.b5,l7 2 u6 x_.n.b7.b8.b6,vi x_.n.b7.b8.f0,vi x_.n.b7.b8.Code,l7 7 t0 x_.n.d9,.own 7 0 13 0 x_.out.length,.own 8 0 5 0 x_.told.length]
def a71(x_:j6):List s6:=[m5 152 8 p6 x_.Acc.a6,m5 43 7 t0 x_.a0,m5 4 1 eB x_.c8,m5 4 1 eB x_.a6,m5 43 7 t0 x_.d9]
def d8i(x_:j6):List (Option (List s6)):=[some [m5 152 8 p6 x_.Acc.a6],some [m5 43 7 t0 x_.a0],some [m5 4 1 eB x_.c8],some [m5 4 1 eB x_.a6],some [m5 43 7 t0 x_.d9]]
def c1D(x_:n7):List s6:=[m5 43 7 t0 x_.n.a0,m5 4 1 eB x_.n.c8,m5 4 1 eB x_.n.a6,m5 76 13 s5 x_.out,m5 72 5 x7 x_.told]
def a22(x_:n7):List (Option (List s6)):=[some [m5 43 7 t0 x_.n.a0],some [m5 4 1 eB x_.n.c8],some [m5 4 1 eB x_.n.a6],some [m5 76 13 s5 x_.out],some [m5 72 5 x7 x_.told]]
def e5o(x_:n7):List (Option (List s6)):=[some [m5 72 5 x7 x_.told],some [m5 76 13 s5 x_.out],some [m5 4 1 eB x_.n.a6],some [m5 4 1 eB x_.n.c8],some [m5 43 7 t0 x_.n.a0]]
def d0Q(x_:n7):List s6:=[m5 76 13 s5 x_.out,m5 72 5 x7 x_.told]
def c8m(x_:n7):List (Option (List s6)):=[some [m5 43 7 t0 x_.n.a0],some [m5 4 1 eB x_.n.a6]]
def d8e(x_:n7):List (Option (List s6)):=[some [m5 43 7 t0 x_.n.a0],some [m5 4 1 eB x_.n.a6],some [m5 72 5 x7 x_.told]]
def om1:List (Option Nat):=[none,none,none,some 43,none,none,none,some 4,none,none,none,none,none,none,none,none,some 4,none,none,none,none,none,none,none,none,none,some 43]
def om2:List (Option Nat):=[some 65,some 76,some 78,some 72]
def F8:List (Option Nat):=[none,none,some 152,some 43,none,none,none,some 4,none,none,none,none,none,none,none,none,some 4,none,none,none,none,none,none,none,none,none,some 43]
def Q2:List (Option Nat):=[some 1000065,some 76,some 78,some 72]
def om5:List (Option Nat):=[some 86,some 89,none,none]
def om6:List (Option Nat):=[none,none,none,some 86,some 89,none,none]
def om7:List (Option Nat):=[none,none,none,some 43,none,none,none,some 4,none,none,none,none,none,none,none,none,some 4,none,none,none,none,none,none,none,none,none,some 43,some 76,some 72]
def L4:List (Option Nat):=[none,none,none,some 43,none,none,none,some 4,none,none,none,none,none,none,none,none,some 4,none,none,none,none,none,none,none,none,none,none,some 76,some 72]
def E4:List (Option Nat):=[some 27,some 13,some 3,some 5]
def N6:List (Option Nat):=[some 2,some 2,none,none]
def J9:List (Option Nat):=[none,none,none,some 2,some 2,none,none]
def A3:List (Option Nat):=[none,none,some 8,some 7,none,none,none,some 1,some 8,none,none,none,some 2,some 2,none,none,some 1,none,some 4,none,none,none,some 2,some 2,none,none,some 7]
def B5:List (Option Nat):=[none,none,none,none,none,none,none,none,some 2,some 2,none,none,some 8]
def T5:List (Option Nat):=[none,none,none,none,some 2,some 2,none,none]
def H6:List (Option Nat):=[none,none,some 8,some 7,none,none,none,some 1,some 8,none,none,none,some 2,some 2,none,none,some 1,none,some 4,none,none,none,some 2,some 2,none,none,some 7,some 13,some 5]
theorem d1c(d:Nat)(w:World)(x0 x1 y0 y1:Int):(Op.equalIn (d+2) 37 (.agg #[.int .i64 x0,.int .i64 x1]) (.agg #[.int .i64 y0,.int .i64 y1])).run Tryz.prog w=.ok ((x0==y0)&&((x1==y1)&&true)) w:=by
 refine b3g Tryz.underlying37 Tryz.stoodInHeld37 ?_;refine a04 (by rfl) (by first|(go_simp;done)|(go_simp;rfl)) (by first|(go_simp;done)|(go_simp;rfl)) (a1t Tryz.underlying3) ?_;refine a04 (by rfl) (by first|(go_simp;done)|(go_simp;rfl)) (by first|(go_simp;done)|(go_simp;rfl)) (a1t Tryz.underlying3) ?_;exact b1v
theorem e7S(xs ys:List Int)(w:World)(hx:xs.length=2)(hy:ys.length=2):(Op.equal 37 (.agg (xs.map (Value.int .i64)).toArray) (.agg (ys.map (Value.int .i64)).toArray)).run Tryz.prog w=.ok (xs==ys) w:=by
 match xs,ys,hx,hy with
 | [x0,x1],[y0,y1],_,_ =>
  have h:=d1c 9998 w x0 x1 y0 y1;have e:((x0==y0)&&((x1==y1)&&true))=([x0,x1]==([y0,y1]:List Int)):=by simp [f1m]
  rw [e] at h;exact h
theorem e6E(d:Nat)(w:World)(x0 x1 x2 x3 x4 y0 y1 y2 y3 y4:Int):(Op.equalIn (d+3) 72 (.agg #[.int .i64 x0,.int .i64 x1,.int .i64 x2,.int .i64 x3,.int .i64 x4]) (.agg #[.int .i64 y0,.int .i64 y1,.int .i64 y2,.int .i64 y3,.int .i64 y4])).run Tryz.prog w=.ok ((x0==y0)&&(((x1==y1)&&((x2==y2)&&true))&&((x3==y3)&&((x4==y4)&&true)))) w:=by
 refine b3g Tryz.underlying72 Tryz.stoodInHeld72 ?_;refine a04 (by rfl) (by first|(go_simp;done)|(go_simp;rfl)) (by first|(go_simp;done)|(go_simp;rfl)) (a1t Tryz.underlying3) ?_;refine a04 (by rfl) (by first|(go_simp;done)|(go_simp;rfl)) (by first|(go_simp;done)|(go_simp;rfl)) (d1c (d+0) w x1 x2 y1 y2) ?_;refine a04 (by rfl) (by first|(go_simp;done)|(go_simp;rfl)) (by first|(go_simp;done)|(go_simp;rfl)) (a1t Tryz.underlying3) ?_;refine a04 (by rfl) (by first|(go_simp;done)|(go_simp;rfl)) (by first|(go_simp;done)|(go_simp;rfl)) (a1t Tryz.underlying3) ?_;exact b1v
theorem d7d(xs ys:List Int)(w:World)(hx:xs.length=5)(hy:ys.length=5):(Op.equal 72 (.agg (xs.map (Value.int .i64)).toArray) (.agg (ys.map (Value.int .i64)).toArray)).run Tryz.prog w=.ok (xs==ys) w:=by
 match xs,ys,hx,hy with
 | [x0,x1,x2,x3,x4],[y0,y1,y2,y3,y4],_,_ =>
  have h:=e6E 9997 w x0 x1 x2 x3 x4 y0 y1 y2 y3 y4;have e:((x0==y0)&&(((x1==y1)&&((x2==y2)&&true))&&((x3==y3)&&((x4==y4)&&true))))=([x0,x1,x2,x3,x4]==([y0,y1,y2,y3,y4]:List Int)):=by simp [f1m]
  rw [e] at h;exact h
theorem d4b(d:Nat)(w:World)(x0 x1 x2 x3 y0 y1 y2 y3:Int):(Op.equalIn (d+2) 83 (.agg #[.int .i64 x0,.int .i64 x1,.int .i64 x2,.int .i64 x3]) (.agg #[.int .i64 y0,.int .i64 y1,.int .i64 y2,.int .i64 y3])).run Tryz.prog w=.ok ((x0==y0)&&((x1==y1)&&((x2==y2)&&((x3==y3)&&true)))) w:=by
 refine b3g Tryz.underlying83 Tryz.stoodInHeld83 ?_;refine a04 (by rfl) (by first|(go_simp;done)|(go_simp;rfl)) (by first|(go_simp;done)|(go_simp;rfl)) (a1t Tryz.underlying3) ?_;refine a04 (by rfl) (by first|(go_simp;done)|(go_simp;rfl)) (by first|(go_simp;done)|(go_simp;rfl)) (a1t Tryz.underlying3) ?_;refine a04 (by rfl) (by first|(go_simp;done)|(go_simp;rfl)) (by first|(go_simp;done)|(go_simp;rfl)) (a1t Tryz.underlying3) ?_;refine a04 (by rfl) (by first|(go_simp;done)|(go_simp;rfl)) (by first|(go_simp;done)|(go_simp;rfl)) (a1t Tryz.underlying3) ?_;exact b1v
theorem e6O(xs ys:List Int)(w:World)(hx:xs.length=4)(hy:ys.length=4):(Op.equal 83 (.agg (xs.map (Value.int .i64)).toArray) (.agg (ys.map (Value.int .i64)).toArray)).run Tryz.prog w=.ok (xs==ys) w:=by
 match xs,ys,hx,hy with
 | [x0,x1,x2,x3],[y0,y1,y2,y3],_,_ =>
  have h:=d4b 9998 w x0 x1 x2 x3 y0 y1 y2 y3;have e:((x0==y0)&&((x1==y1)&&((x2==y2)&&((x3==y3)&&true))))=([x0,x1,x2,x3]==([y0,y1,y2,y3]:List Int)):=by simp [f1m]
  rw [e] at h;exact h
theorem e0m(d:Nat)(w:World)(x0 x1 y0 y1:Int):(Op.equalIn (d+2) 86 (.agg #[.int .i64 x0,.int .i64 x1]) (.agg #[.int .i64 y0,.int .i64 y1])).run Tryz.prog w=.ok ((x0==y0)&&((x1==y1)&&true)) w:=by
 refine b3g Tryz.underlying86 Tryz.stoodInHeld86 ?_;refine a04 (by rfl) (by first|(go_simp;done)|(go_simp;rfl)) (by first|(go_simp;done)|(go_simp;rfl)) (a1t Tryz.underlying3) ?_;refine a04 (by rfl) (by first|(go_simp;done)|(go_simp;rfl)) (by first|(go_simp;done)|(go_simp;rfl)) (a1t Tryz.underlying3) ?_;exact b1v
theorem e3S(xs ys:List Int)(w:World)(hx:xs.length=2)(hy:ys.length=2):(Op.equal 86 (.agg (xs.map (Value.int .i64)).toArray) (.agg (ys.map (Value.int .i64)).toArray)).run Tryz.prog w=.ok (xs==ys) w:=by
 match xs,ys,hx,hy with
 | [x0,x1],[y0,y1],_,_ =>
  have h:=e0m 9998 w x0 x1 y0 y1;have e:((x0==y0)&&((x1==y1)&&true))=([x0,x1]==([y0,y1]:List Int)):=by simp [f1m]
  rw [e] at h;exact h
theorem d5m(d:Nat)(w:World)(x0 x1 y0 y1:Int):(Op.equalIn (d+2) 89 (.agg #[.int .i64 x0,.int .i64 x1]) (.agg #[.int .i64 y0,.int .i64 y1])).run Tryz.prog w=.ok ((x0==y0)&&((x1==y1)&&true)) w:=by
 refine b3g Tryz.underlying89 Tryz.stoodInHeld89 ?_;refine a04 (by rfl) (by first|(go_simp;done)|(go_simp;rfl)) (by first|(go_simp;done)|(go_simp;rfl)) (a1t Tryz.underlying3) ?_;refine a04 (by rfl) (by first|(go_simp;done)|(go_simp;rfl)) (by first|(go_simp;done)|(go_simp;rfl)) (a1t Tryz.underlying3) ?_;exact b1v
theorem e8C(xs ys:List Int)(w:World)(hx:xs.length=2)(hy:ys.length=2):(Op.equal 89 (.agg (xs.map (Value.int .i64)).toArray) (.agg (ys.map (Value.int .i64)).toArray)).run Tryz.prog w=.ok (xs==ys) w:=by
 match xs,ys,hx,hy with
 | [x0,x1],[y0,y1],_,_ =>
  have h:=d5m 9998 w x0 x1 y0 y1;have e:((x0==y0)&&((x1==y1)&&true))=([x0,x1]==([y0,y1]:List Int)):=by simp [f1m]
  rw [e] at h;exact h
def ti3:TI:={size:=1,bytes:=8,agg:=false,zero:=[vi 0],sl:=none,arr:=none,ik:=some .i64,fs:=none,str:=false,ptr:=none,bl:=false}
def ti4:TI:={size:=1,bytes:=1,agg:=false,zero:=[.b false],sl:=none,arr:=none,ik:=none,fs:=none,str:=false,ptr:=none,bl:=true}
def ti5:TI:={size:=1,bytes:=1,agg:=false,zero:=[.i .u8 0],sl:=none,arr:=none,ik:=some .u8,fs:=none,str:=false,ptr:=none,bl:=false}
def c4v:TI:={size:=1,bytes:=24,agg:=false,zero:=[.nil],sl:=some 5,arr:=none,ik:=none,fs:=none,str:=false,ptr:=none,bl:=false}
def c9B:TI:={size:=1,bytes:=24,agg:=false,zero:=[.nil],sl:=some 65,arr:=none,ik:=none,fs:=none,str:=false,ptr:=none,bl:=false}
def c7i:TI:={size:=1,bytes:=24,agg:=false,zero:=[.nil],sl:=some 76,arr:=none,ik:=none,fs:=none,str:=false,ptr:=none,bl:=false}
def c4P:TI:={size:=1,bytes:=24,agg:=false,zero:=[.nil],sl:=some 78,arr:=none,ik:=none,fs:=none,str:=false,ptr:=none,bl:=false}
def c33:TI:={size:=1,bytes:=24,agg:=false,zero:=[.nil],sl:=some 72,arr:=none,ik:=none,fs:=none,str:=false,ptr:=none,bl:=false}
def c6s:TI:={size:=4,bytes:=96,agg:=true,zero:=[.nil,.nil,.nil,.nil],sl:=none,arr:=none,ik:=none,fs:=some [(0,23),(1,24),(2,25),(3,26)],str:=false,ptr:=none,bl:=false}
def c7v:TI:={size:=1,bytes:=24,agg:=false,zero:=[.nil],sl:=some 58,arr:=none,ik:=none,fs:=none,str:=false,ptr:=none,bl:=false}
def c8F:TI:={size:=1,bytes:=24,agg:=false,zero:=[.nil],sl:=some 43,arr:=none,ik:=none,fs:=none,str:=false,ptr:=none,bl:=false}
def c79:TI:={size:=2,bytes:=16,agg:=true,zero:=[vi 0,vi 0],sl:=none,arr:=none,ik:=none,fs:=some [(0,3),(1,3)],str:=false,ptr:=none,bl:=false}
def d2s:TI:={size:=1,bytes:=24,agg:=false,zero:=[.nil],sl:=some 86,arr:=none,ik:=none,fs:=none,str:=false,ptr:=none,bl:=false}
def c4C:TI:={size:=1,bytes:=24,agg:=false,zero:=[.nil],sl:=some 89,arr:=none,ik:=none,fs:=none,str:=false,ptr:=none,bl:=false}
def d0f:TI:={size:=4,bytes:=64,agg:=true,zero:=[.nil,.nil,vi 0,vi 0],sl:=none,arr:=none,ik:=none,fs:=some [(0,38),(1,39),(2,3),(3,3)],str:=false,ptr:=none,bl:=false}
def c0a:TI:={size:=7,bytes:=88,agg:=true,zero:=[.b false,vi 0,vi 0,.nil,.nil,vi 0,vi 0],sl:=none,arr:=none,ik:=none,fs:=some [(0,4),(1,37),(3,41)],str:=false,ptr:=none,bl:=false}
def c7T:TI:={size:=1,bytes:=24,agg:=false,zero:=[.nil],sl:=some 83,arr:=none,ik:=none,fs:=none,str:=false,ptr:=none,bl:=false}
def d2U:TI:={size:=1,bytes:=24,agg:=false,zero:=[.nil],sl:=some 95,arr:=none,ik:=none,fs:=none,str:=false,ptr:=none,bl:=false}
def c5b:TI:={size:=1,bytes:=24,agg:=false,zero:=[.nil],sl:=some 166,arr:=none,ik:=none,fs:=none,str:=false,ptr:=none,bl:=false}
def c4d:TI:={size:=3,bytes:=56,agg:=true,zero:=[vi 0,.nil,.nil],sl:=none,arr:=none,ik:=none,fs:=some [(0,3),(1,49),(2,50)],str:=false,ptr:=none,bl:=false}
def d04:TI:={size:=3,bytes:=40,agg:=true,zero:=[vi 0,vi 0,.nil],sl:=none,arr:=none,ik:=none,fs:=some [(0,3),(1,3),(2,44)],str:=false,ptr:=none,bl:=false}
def c6E:TI:={size:=1,bytes:=24,agg:=false,zero:=[.nil],sl:=some 152,arr:=none,ik:=none,fs:=none,str:=false,ptr:=none,bl:=false}
def c6H:TI:={size:=2,bytes:=32,agg:=true,zero:=[vi 0,.nil],sl:=none,arr:=none,ik:=none,fs:=some [(0,3),(1,60)],str:=false,ptr:=none,bl:=false}
def c9m:TI:={size:=1,bytes:=24,agg:=false,zero:=[.nil],sl:=some 4,arr:=none,ik:=none,fs:=none,str:=false,ptr:=none,bl:=false}
def c3c:TI:={size:=27,bytes:=392,agg:=true,zero:=[vi 0,vi 0,.nil,.nil,vi 0,vi 0,vi 0,.nil,.nil,.b false,vi 0,vi 0,.nil,.nil,vi 0,vi 0,.nil,.b false,.nil,.b false,vi 0,vi 0,.nil,.nil,vi 0,vi 0,.nil],sl:=none,arr:=none,ik:=none,fs:=some [(0,3),(1,62),(3,34),(4,3),(5,3),(6,3),(7,63),(8,60),(9,43),(16,63),(17,4),(18,44),(19,43),(26,34)],str:=false,ptr:=none,bl:=false}
def c1a:TI:={size:=5,bytes:=40,agg:=true,zero:=[vi 0,vi 0,vi 0,vi 0,vi 0],sl:=none,arr:=none,ik:=none,fs:=some [(0,3),(1,37),(3,3),(4,3)],str:=false,ptr:=none,bl:=false}
def b8R:TI:={size:=13,bytes:=152,agg:=true,zero:=[vi 0,vi 0,vi 0,vi 0,vi 0,.b false,vi 0,vi 0,.nil,.nil,vi 0,vi 0,.nil],sl:=none,arr:=none,ik:=none,fs:=some [(0,3),(1,3),(2,3),(3,3),(4,3),(5,43),(12,60)],str:=false,ptr:=none,bl:=false}
def c3y:TI:={size:=3,bytes:=40,agg:=true,zero:=[vi 0,vi 0,.nil],sl:=none,arr:=none,ik:=none,fs:=some [(0,37),(2,44)],str:=false,ptr:=none,bl:=false}
def b9R:TI:={size:=4,bytes:=32,agg:=true,zero:=[vi 0,vi 0,vi 0,vi 0],sl:=none,arr:=none,ik:=none,fs:=some [(0,3),(1,3),(2,3),(3,3)],str:=false,ptr:=none,bl:=false}
def c2Z:TI:={size:=2,bytes:=16,agg:=true,zero:=[vi 0,vi 0],sl:=none,arr:=none,ik:=none,fs:=some [(0,3),(1,3)],str:=false,ptr:=none,bl:=false}
def c07:TI:={size:=2,bytes:=16,agg:=true,zero:=[vi 0,vi 0],sl:=none,arr:=none,ik:=none,fs:=some [(0,3),(1,3)],str:=false,ptr:=none,bl:=false}
def d0M:TI:={size:=4,bytes:=32,agg:=true,zero:=[vi 0,vi 0,vi 0,vi 0],sl:=none,arr:=some (4,3),ik:=none,fs:=none,str:=false,ptr:=none,bl:=false}
def b3u:TI:={size:=2,bytes:=16,agg:=true,zero:=[vi 0,vi 0],sl:=none,arr:=none,ik:=none,fs:=some [(0,3),(1,3)],str:=false,ptr:=none,bl:=false}
def c7X:TI:={size:=1,bytes:=24,agg:=false,zero:=[.nil],sl:=some 3,arr:=none,ik:=none,fs:=none,str:=false,ptr:=none,bl:=false}
def c81:TI:={size:=2,bytes:=32,agg:=true,zero:=[.nil,vi 0],sl:=none,arr:=none,ik:=none,fs:=some [(0,22),(1,3)],str:=false,ptr:=none,bl:=false}
def b3B:TI:={size:=8,bytes:=96,agg:=true,zero:=[vi 0,.b false,vi 0,vi 0,.nil,.nil,vi 0,vi 0],sl:=none,arr:=none,ik:=none,fs:=some [(0,3),(1,43)],str:=false,ptr:=none,bl:=false}
def c1u:TI:={size:=4,bytes:=32,agg:=true,zero:=[vi 0,vi 0,vi 0,vi 0],sl:=none,arr:=none,ik:=none,fs:=some [(0,37),(2,3),(3,3)],str:=false,ptr:=none,bl:=false}
def c9V:TI:={size:=29,bytes:=440,agg:=true,zero:=[vi 0,vi 0,.nil,.nil,vi 0,vi 0,vi 0,.nil,.nil,.b false,vi 0,vi 0,.nil,.nil,vi 0,vi 0,.nil,.b false,.nil,.b false,vi 0,vi 0,.nil,.nil,vi 0,vi 0,.nil,.nil,.nil],sl:=none,arr:=none,ik:=none,fs:=some [(0,65),(27,24),(28,26)],str:=false,ptr:=none,bl:=false}
def d3e:TI:={size:=4,bytes:=4,agg:=true,zero:=[.b false,.b false,.b false,.b false],sl:=none,arr:=some (4,4),ik:=none,fs:=none,str:=false,ptr:=none,bl:=false}
def b96:List (Nat×TI):=[(3,ti3),(4,ti4),(5,ti5),(22,c4v),(23,c9B),(24,c7i),(25,c4P),(26,c33),(28,c6s),(31,c7v),(34,c8F),(37,c79),(38,d2s),(39,c4C),(41,d0f),(43,c0a),(44,c7T),(49,d2U),(50,c5b),(52,c4d),(58,d04),(60,c6E),(62,c6H),(63,c9m),(65,c3c),(72,c1a),(76,b8R),(78,c3y),(83,b9R),(86,c2Z),(89,c07),(92,d0M),(95,b3u),(100,c7X),(119,c81),(152,b3B),(166,c1u),(175,c9V),(187,d3e)]
def b5N:List (Nat×TI)->Nat->Option TI
 | [],_=>none
 | (k,x)::l,t=>if Nat.beq k t then some x else b5N l t
theorem e6P{l:List (Nat×TI)}{t:Nat}{x:TI}(h:b5N l t=some x):(t,x)∈l:=by
 induction l with
 | nil=>cases h
 | cons p l ih =>
  obtain ⟨k,y⟩:=p;unfold b5N at h;split at h
  ·rename_i hk;have:k=t:=f0k hk;injection h with h;subst this;subst h;simp
  ·exact e9R.2 (.inr (ih h))
theorem e41:E8 Tryz.prog 3=some ti3:=by kernel_rfl
theorem e2Q:E8 Tryz.prog 4=some ti4:=by kernel_rfl
theorem d8g:E8 Tryz.prog 5=some ti5:=by kernel_rfl
theorem e68:E8 Tryz.prog 22=some c4v:=by kernel_rfl
theorem e0G:E8 Tryz.prog 23=some c9B:=by kernel_rfl
theorem e6y:E8 Tryz.prog 24=some c7i:=by kernel_rfl
theorem d5B:E8 Tryz.prog 25=some c4P:=by kernel_rfl
theorem d77:E8 Tryz.prog 26=some c33:=by kernel_rfl
theorem e1M:E8 Tryz.prog 28=some c6s:=by kernel_rfl
theorem d30:E8 Tryz.prog 31=some c7v:=by kernel_rfl
theorem e2e:E8 Tryz.prog 34=some c8F:=by kernel_rfl
theorem e3A:E8 Tryz.prog 37=some c79:=by kernel_rfl
theorem e0H:E8 Tryz.prog 38=some d2s:=by kernel_rfl
theorem d8b:E8 Tryz.prog 39=some c4C:=by kernel_rfl
theorem e2l:E8 Tryz.prog 41=some d0f:=by kernel_rfl
theorem d8K:E8 Tryz.prog 43=some c0a:=by kernel_rfl
theorem d8D:E8 Tryz.prog 44=some c7T:=by kernel_rfl
theorem d9b:E8 Tryz.prog 49=some d2U:=by kernel_rfl
theorem e3k:E8 Tryz.prog 50=some c5b:=by kernel_rfl
theorem e66:E8 Tryz.prog 52=some c4d:=by kernel_rfl
theorem e7z:E8 Tryz.prog 58=some d04:=by kernel_rfl
theorem d7h:E8 Tryz.prog 60=some c6E:=by kernel_rfl
theorem d8h:E8 Tryz.prog 62=some c6H:=by kernel_rfl
theorem d6i:E8 Tryz.prog 63=some c9m:=by kernel_rfl
theorem e88:E8 Tryz.prog 65=some c3c:=by kernel_rfl
theorem d6r:E8 Tryz.prog 72=some c1a:=by kernel_rfl
theorem e0q:E8 Tryz.prog 76=some b8R:=by kernel_rfl
theorem d5F:E8 Tryz.prog 78=some c3y:=by kernel_rfl
theorem d4Q:E8 Tryz.prog 83=some b9R:=by kernel_rfl
theorem e5j:E8 Tryz.prog 86=some c2Z:=by kernel_rfl
theorem e9h:E8 Tryz.prog 89=some c07:=by kernel_rfl
theorem d9s:E8 Tryz.prog 92=some d0M:=by kernel_rfl
theorem e35:E8 Tryz.prog 95=some b3u:=by kernel_rfl
theorem d4H:E8 Tryz.prog 100=some c7X:=by kernel_rfl
theorem e3C:E8 Tryz.prog 119=some c81:=by kernel_rfl
theorem d5N:E8 Tryz.prog 152=some b3B:=by kernel_rfl
theorem e0o:E8 Tryz.prog 166=some c1u:=by kernel_rfl
theorem e0l:E8 Tryz.prog 175=some c9V:=by kernel_rfl
theorem e5M:E8 Tryz.prog 187=some d3e:=by kernel_rfl
theorem e7a:∀p∈b96,E8 Tryz.prog p.1=some p.2:=by
 intro p hp;simp only [b96,e9R,List.not_mem_nil,or_false] at hp;rcases hp with rfl|rfl|rfl|rfl|rfl|rfl|rfl|rfl|rfl|rfl|rfl|rfl|rfl|rfl|rfl|rfl|rfl|rfl|rfl|rfl|rfl|rfl|rfl|rfl|rfl|rfl|rfl|rfl|rfl|rfl|rfl|rfl|rfl|rfl|rfl|rfl|rfl|rfl|rfl
 ·exact e41
 ·exact e2Q
 ·exact d8g
 ·exact e68
 ·exact e0G
 ·exact e6y
 ·exact d5B
 ·exact d77
 ·exact e1M
 ·exact d30
 ·exact e2e
 ·exact e3A
 ·exact e0H
 ·exact d8b
 ·exact e2l
 ·exact d8K
 ·exact d8D
 ·exact d9b
 ·exact e3k
 ·exact e66
 ·exact e7z
 ·exact d7h
 ·exact d8h
 ·exact d6i
 ·exact e88
 ·exact d6r
 ·exact e0q
 ·exact d5F
 ·exact d4Q
 ·exact e5j
 ·exact e9h
 ·exact d9s
 ·exact e35
 ·exact d4H
 ·exact e3C
 ·exact d5N
 ·exact e0o
 ·exact e0l
 ·exact e5M
def b2e(t:Nat):Option Nat:=if Nat.beq t 37 then some 2 else if Nat.beq t 72 then some 5 else if Nat.beq t 83 then some 4 else if Nat.beq t 86 then some 2 else if Nat.beq t 89 then some 2 else  none
theorem e1Z(t m:Nat)(h:b2e t=some m)(xs ys:List Int)(w:World)(hx:xs.length=m)(hy:ys.length=m):(Op.equal t (.agg (xs.map (Value.int .i64)).toArray) (.agg (ys.map (Value.int .i64)).toArray)).run Tryz.prog w=.ok (xs==ys) w:=by
 unfold b2e at h;split at h
 ·rename_i hk;have hm:2=m:=f0K h;rw [f0k hk];exact e7S xs ys w (hx.trans hm.symm) (hy.trans hm.symm)
 split at h
 ·rename_i hk;have hm:5=m:=f0K h;rw [f0k hk];exact d7d xs ys w (hx.trans hm.symm) (hy.trans hm.symm)
 split at h
 ·rename_i hk;have hm:4=m:=f0K h;rw [f0k hk];exact e6O xs ys w (hx.trans hm.symm) (hy.trans hm.symm)
 split at h
 ·rename_i hk;have hm:2=m:=f0K h;rw [f0k hk];exact e3S xs ys w (hx.trans hm.symm) (hy.trans hm.symm)
 split at h
 ·rename_i hk;have hm:2=m:=f0K h;rw [f0k hk];exact e8C xs ys w (hx.trans hm.symm) (hy.trans hm.symm)
 cases h
theorem e0K(t m:Nat)(h:b2e t=some m):Tryz.prog.eqGuardType Tryz.prog.depth t=false:=by
 unfold b2e at h;split at h
 ·rename_i hk;have hm:2=m:=f0K h;rw [f0k hk];exact Tryz.eqGuardType37
 split at h
 ·rename_i hk;have hm:5=m:=f0K h;rw [f0k hk];exact Tryz.eqGuardType72
 split at h
 ·rename_i hk;have hm:4=m:=f0K h;rw [f0k hk];exact Tryz.eqGuardType83
 split at h
 ·rename_i hk;have hm:2=m:=f0K h;rw [f0k hk];exact Tryz.eqGuardType86
 split at h
 ·rename_i hk;have hm:2=m:=f0K h;rw [f0k hk];exact Tryz.eqGuardType89
 cases h
theorem e4Q:Tryz.prog.follows .mixedOrders=true:=by kernel_rfl
def cx:Cx where
 P:=Tryz.prog
 mixed:=e4Q
 T:=b5N b96
 hT:=fun t ti h=>e7a (t,ti) (e6P h)
 E:=b2e
 hE:=e1Z
 hG:=e0K
 M:=fun _=>none
 hM:=fun _ _ _ _ h=>nomatch h
structure FS(α:Type) where
 f:Nat
 fn:Func
 m:List PM
 o:List (Option (Nat×PM))
 ms:List PM
 R:α->V
 O:α->LOV
 h:cx.P.funcs[f]?=some fn
def FS.X{α:Type}(q:FS α):N0:=⟨q.f,q.fn,q.m,q.o⟩
def FS.c{α:Type}(q:FS α):Code:=e9g q.fn
def FS.t{α:Type}(q:FS α)(i:Nat)(fr:Bool)(r:α):Nat×J6:=(i,{a:=.call q.ms fr (q.R r) (q.O r)})
def FS.k{α:Type}(q:FS α)(i:Nat)(l:List Bool):List Item:=a3g 2000 i l [.code q.c]
def noK:Unit->KS:=fun _=>([],⟨[],[]⟩)
section
variable {α β J P E:Type}
abbrev OK(q:FS α)(args:List V)(m:Option α):Prop := ∀r,m=some r->X7 cx.P q.f args (q.R r) (q.O r)
abbrev NG(q:FS α)(r:α)(S:J->KS)(f:J->Option β)(v:β):Prop := ∀s,f s=some v->FK cx q.X (q.R r) (q.O r) (S s)
abbrev NF(q:FS α)(r:α)(S:J->KS)(f:J->Option α):Prop:=NG q r S f r
abbrev I5(q:FS α)(SE:E->KS)(S:P->KS):=LC cx q.X q.R q.O SE S
abbrev LQ(q:FS α)(SE:E->KS)(S:P->KS)(b:P->Option (l8 α P E)):Prop:=LB cx q.X q.R q.O SE S b
theorem n8(q:FS α){args:List V}{m:Option α}(h:∀r,m=some r->Pt cx q.X (q.R r) (q.O r) [.code q.c] (a9D q.X args) [] [])(hb:q.X.fn.body=some q.c:=by kernel_rfl) (hn:(q.X.fn.name == "runtime.NumGoroutine")=false:=by kernel_rfl) (ho:a3Q 0 q.X.oms args=true:=by kernel_rfl):OK q args m :=
 fun r hm=>X7.of (X:=q.X) q.h hb hn ho (P0 (h r hm))
theorem FS.rt(q:FS α){x y:α}(h:some x=some y):q.R y=q.R x/\q.O y=q.O x:=by
 injection h with h;subst h;exact ⟨rfl,rfl⟩
variable {X:N0} {res:V} {outs:LOV} {k:List Item} {S:St} {sc:Q4} {ps:List Prop} {t:List (Nat×J6)} {v:β}
theorem fE{q:FS α}{x y:α}(h:some x=some y)(hg:a9J cx q.X k S (scO sc [])=some (q.R x,q.O x,psO ps []):=by kernel_rfl):Pt cx q.X (q.R y) (q.O y) k S sc ps:=fn0 q.h (q.rt h) hg
theorem fL{q:FS α}{SE:E->KS}{SP:P->KS}(c:I5 q SE SP){x:α}(h:some (l8.ret x)=some c.st)(hg:a9J cx q.X k S (scO sc [])=some (q.R x,q.O x,psO ps []):=by kernel_rfl):Pt cx q.X c.res c.outs k S sc ps:=fn0 q.h (c.rt h) hg
theorem j9(q:FS α){m:Option α}{p:α->Prop}(ok:∀x,m=some x->p x)(i:Nat){f:α->Option β}(h:m.bind f=some v)(g:∀x,f x=some v->Pt cx X res outs k S ((q.t i false x::t)::sc) (p x::ps)):Pt cx X res outs k S (t::sc) ps:=cb q.t ok i false h g
theorem cbS(q:FS α){m:Option α}{p:α->Prop}(ok:∀x,m=some x->p x)(i:Nat){f:α->Option β}(a:∀x,M3 (q.R x))(b:∀x,a25 (q.O x))(h:m.bind f=some v)(g:∀x,f x=some v->Pt cx X res outs k S ((q.t i true x::t)::sc) ((M3 (q.R x)/\a25 (q.O x))::p x::ps)):Pt cx X res outs k S (t::sc) ps :=
 cb q.t ok i true h fun x h=>ob ⟨a x,b x⟩ (g x h)
theorem S0(q:FS α){m:Option α}{p:α->Prop}(ok:∀x,m=some x->p x)(i n:Nat){f:α->Option β}(h:m.bind f=some v)(g:∀x,f x=some v->Pt cx X res outs k S ((q.t i true x::t)::sc) ((M3 (q.R x)/\a25 (q.O x))::p x::ps))(a:∀x,M3 (q.R x):=by exact fun _=>rfl)(b:∀x,q.O x=c2v n:=by exact fun _=>rfl):Pt cx X res outs k S (t::sc) ps:=cbS q ok i a (fun x=>b x▸P8 n) h g
theorem osc(q:FS α)(x:α)(a:M3 (q.R x))(b:a25 (q.O x))(h:Pt cx X res outs k S sc ((M3 (q.R x)/\a25 (q.O x))::ps)):Pt cx X res outs k S sc ps:=ob ⟨a,b⟩ h
end
theorem C1{X:N0}{res:V}{outs:LOV}{k:List Item}{S:St}{sc:Q4}{ps:List Prop}(x:n7)(h:Pt cx X res outs k S sc ((x.told.length=x.told.length)::(x.out.length=x.out.length)::(x.n.a6.length=x.n.a6.length)::(x.n.c8.length=x.n.c8.length)::(x.n.a0.length=x.n.a0.length)::ps)):Pt cx X res outs k S sc ps:=ob rfl (ob rfl (ob rfl (ob rfl (ob rfl (h)))))
theorem I3{X:N0}{res:V}{outs:LOV}{k:List Item}{S:St}{sc:Q4}{ps:List Prop}(x:j6)(h:Pt cx X res outs k S sc ((x.d9.length=x.d9.length)::(x.a6.length=x.a6.length)::(x.c8.length=x.c8.length)::(x.a0.length=x.a0.length)::ps)):Pt cx X res outs k S sc ps:=ob rfl (ob rfl (ob rfl (ob rfl (h))))
theorem z9{X:N0}{res:V}{outs:LOV}{k:List Item}{S:St}{sc:Q4}{ps:List Prop}(x:j6)(h:Pt cx X res outs k S sc ((x.d9.length=x.d9.length)::(x.a6.length=x.a6.length)::(x.c8.length=x.c8.length)::(x.a0.length=x.a0.length)::(x.Acc.a6.length=x.Acc.a6.length)::ps)):Pt cx X res outs k S sc ps:=ob rfl (ob rfl (ob rfl (ob rfl (ob rfl (h)))))
theorem olR{X:N0}{res:V}{outs:LOV}{k:List Item}{S:St}{sc:Q4}{ps:List Prop}(x:n5)(h:Pt cx X res outs k S sc ((x.b6.length=x.b6.length)::(x.b5.length=x.b5.length)::ps)):Pt cx X res outs k S sc ps:=ob rfl (ob rfl (h))
theorem A5{X:N0}{res:V}{outs:LOV}{k:List Item}{S:St}{sc:Q4}{ps:List Prop}(x:m6)(h:Pt cx X res outs k S sc ((x.Told.length=x.Told.length)::(x.d7.length=x.d7.length)::(x.b9.length=x.b9.length)::(x.a9.length=x.a9.length)::ps)):Pt cx X res outs k S sc ps:=ob rfl (ob rfl (ob rfl (ob rfl (h))))
def a6a(x_:j6):List V:=[vi x_.Id,vi x_.Acc.g8,u7 152 8 p6 x_.Acc.a6,u7 43 7 t0 x_.a0,vi x_.Seq,vi x_.d6,vi x_.a7,u7 4 1 eB x_.c8,l7 8 p6 x_.g9,.b x_.c9.i8,vi x_.c9.a5.d8,vi x_.c9.a5.Seq,l7 2 u5 x_.c9.b8.b5,l7 2 u6 x_.c9.b8.b6,vi x_.c9.b8.f0,vi x_.c9.b8.Code,u7 4 1 eB x_.a6,.b x_.i7,l7 4 z6 x_.i5,.b x_.b7.i8,vi x_.b7.a5.d8,vi x_.b7.a5.Seq,l7 2 u5 x_.b7.b8.b5,l7 2 u6 x_.b7.b8.b6,vi x_.b7.b8.f0,vi x_.b7.b8.Code,u7 43 7 t0 x_.d9]
def a88(x_:j6):List V:=[u7 43 7 t0 x_.a0,vi x_.Seq,vi x_.d6,vi x_.a7,u7 4 1 eB x_.c8,l7 8 p6 x_.g9,.b x_.c9.i8,vi x_.c9.a5.d8,vi x_.c9.a5.Seq,l7 2 u5 x_.c9.b8.b5,l7 2 u6 x_.c9.b8.b6,vi x_.c9.b8.f0,vi x_.c9.b8.Code,u7 4 1 eB x_.a6,.b x_.i7,l7 4 z6 x_.i5,.b x_.b7.i8,vi x_.b7.a5.d8,vi x_.b7.a5.Seq,l7 2 u5 x_.b7.b8.b5,l7 2 u6 x_.b7.b8.b6,vi x_.b7.b8.f0,vi x_.b7.b8.Code,u7 43 7 t0 x_.d9]
def a48(x_:j6):List V:=[l7 8 p6 x_.g9,.b x_.c9.i8,vi x_.c9.a5.d8,vi x_.c9.a5.Seq,l7 2 u5 x_.c9.b8.b5,l7 2 u6 x_.c9.b8.b6,vi x_.c9.b8.f0,vi x_.c9.b8.Code]
def a3C(x_:j6):List V:=[.b x_.i7,l7 4 z6 x_.i5,.b x_.b7.i8,vi x_.b7.a5.d8,vi x_.b7.a5.Seq,l7 2 u5 x_.b7.b8.b5,l7 2 u6 x_.b7.b8.b6,vi x_.b7.b8.f0,vi x_.b7.b8.Code]
def a0m(x_:n5):List V:=[l7 2 u5 x_.b5,l7 2 u6 x_.b6,vi x_.f0,vi x_.Code]
def I0(x_:m6):List V:=[l7 27 A2 x_.a9,l7 13 s5 x_.b9,l7 3 A7 x_.d7,l7 5 x7 x_.Told]
def C3:FS (Bool):=⟨38,Tryz.f38,[.val [] []],[none,none,none],[.val [] [],.val [] [],.val [] []],fun r=>.b r,fun _=>[none,none,none],Tryz.func38⟩
def C5(n:Int)(low:Int)(high:Int):Option Bool :=
 (bif decide (n>=low) then some (decide (n<=high)) else some false)
theorem D8{n low high}:OK C3 [vi n,vi low,vi high] (C5 n low high) :=
 n8 _ fun r h=>n6<|j5 3 h (fun h=>fE h) (fun h=>fE h)
def d3v:FS (j6):=⟨18,Tryz.f18,[.val A3 []],[none],[.val [] []],fun r=>.agg (A2 r),fun _=>[none],Tryz.func18⟩
def b6e(id:Int):Option j6 :=
 ((C5 id 0 2).bind fun in_=>(bif (!in_) then some (j6.mk 0 (x6.mk 0 []) [] 0 0 0 [] [] (m4.mk false (q8.mk 0 0) (n5.mk [] [] 0 0)) [] false [] (m4.mk false (q8.mk 0 0) (n5.mk [] [] 0 0)) []) else some (j6.mk id (x6.mk 0 []) [] 0 0 0 [] [] (m4.mk false (q8.mk 0 0) (n5.mk [] [] 0 0)) [] false [] (m4.mk false (q8.mk 0 0) (n5.mk [] [] 0 0)) [])))
theorem e6T{id}:OK d3v [vi id] (b6e id) :=
 n8 _ fun r h=>n6<|j9 C3 D8 1 h fun in_ h=>j5 2 h (fun h=>rg<|fE h) (fun h=>rg<|fE h)
def c5c:FS (List j6):=⟨45,Tryz.f45,[.val [some 27] [some 65]],[none],[.val [some 27] []],fun r=>u7 65 27 A2 r,fun _=>[none],Tryz.func45⟩
def b9x(list:List j6):Option (List j6) :=
 (bif ((list.length:Int)==0) then some [] else (t5 (0<=(list.length:Int)/\(list.length:Int)*392<=140737488355328) ((t5 (list.length=(e9L (list.length:Int).toNat (j6.mk 0 (x6.mk 0 []) [] 0 0 0 [] [] (m4.mk false (q8.mk 0 0) (n5.mk [] [] 0 0)) [] false [] (m4.mk false (q8.mk 0 0) (n5.mk [] [] 0 0)) [])).length) (some list)))))
theorem e9t{list}:OK c5c [l7 27 A2 list] (b9x list) :=
 n8 _ fun r h=>n6<|j5 2 h (fun h=>rg<|fE h) (fun h=>rg<|t6 h fun e1 h=>U1 2 7 65 27 392 A2 (j6.mk 0 (x6.mk 0 []) [] 0 0 0 [] [] (m4.mk false (q8.mk 0 0) (n5.mk [] [] 0 0)) [] false [] (m4.mk false (q8.mk 0 0) (n5.mk [] [] 0 0)) []) c3c (.ck A3) e1 (by decide) (by rfl)<|rg<|t6 h fun e2 h=>om (s6.row 65 27 (e9L (list.length:Int).toNat (j6.mk 0 (x6.mk 0 []) [] 0 0 0 [] [] (m4.mk false (q8.mk 0 0) (n5.mk [] [] 0 0)) [] false [] (m4.mk false (q8.mk 0 0) (n5.mk [] [] 0 0)) [])).length (list.map A2)=m5 65 27 A2 list) (a1M e2)<|s7 (e9L (list.length:Int).toNat (j6.mk 0 (x6.mk 0 []) [] 0 0 0 [] [] (m4.mk false (q8.mk 0 0) (n5.mk [] [] 0 0)) [] false [] (m4.mk false (q8.mk 0 0) (n5.mk [] [] 0 0)) []))<|ob e2<|tl (2,{e:=some (m5 65 27 A2 list)})<|rg<|om ((e9L (list.length:Int).toNat (j6.mk 0 (x6.mk 0 []) [] 0 0 0 [] [] (m4.mk false (q8.mk 0 0) (n5.mk [] [] 0 0)) [] false [] (m4.mk false (q8.mk 0 0) (n5.mk [] [] 0 0)) [])).length=list.length) (by simp)<|fE h)
def d3C:FS (List j8):=⟨87,Tryz.f87,[.val [some 13] [some 76]],[none],[.val [some 13] []],fun r=>u7 76 13 s5 r,fun _=>[none],Tryz.func87⟩
def c0A(list:List j8):Option (List j8) :=
 (bif ((list.length:Int)==0) then some [] else (t5 (0<=(list.length:Int)/\(list.length:Int)*152<=140737488355328) ((t5 (list.length=(e9L (list.length:Int).toNat (j8.mk 0 0 0 0 0 (m4.mk false (q8.mk 0 0) (n5.mk [] [] 0 0)) [])).length) (some list)))))
theorem e8W{list}:OK d3C [l7 13 s5 list] (c0A list) :=
 n8 _ fun r h=>n6<|j5 2 h (fun h=>rg<|fE h) (fun h=>rg<|t6 h fun e1 h=>U1 2 7 76 13 152 s5 (j8.mk 0 0 0 0 0 (m4.mk false (q8.mk 0 0) (n5.mk [] [] 0 0)) []) b8R (.ck B5) e1 (by decide) (by rfl)<|rg<|t6 h fun e2 h=>om (s6.row 76 13 (e9L (list.length:Int).toNat (j8.mk 0 0 0 0 0 (m4.mk false (q8.mk 0 0) (n5.mk [] [] 0 0)) [])).length (list.map s5)=m5 76 13 s5 list) (a1M e2)<|s7 (e9L (list.length:Int).toNat (j8.mk 0 0 0 0 0 (m4.mk false (q8.mk 0 0) (n5.mk [] [] 0 0)) []))<|ob e2<|tl (2,{e:=some (m5 76 13 s5 list)})<|rg<|om ((e9L (list.length:Int).toNat (j8.mk 0 0 0 0 0 (m4.mk false (q8.mk 0 0) (n5.mk [] [] 0 0)) [])).length=list.length) (by simp)<|fE h)
def a1Y:FS (List p9):=⟨37,Tryz.f37,[.val [some 2] [some 86]],[none],[.val [some 2] []],fun r=>u7 86 2 u5 r,fun _=>[none],Tryz.func37⟩
def a2M(list:List p9):Option (List p9) :=
 (bif ((list.length:Int)==0) then some [] else (t5 (0<=(list.length:Int)/\(list.length:Int)*16<=140737488355328) ((t5 (list.length=(e9L (list.length:Int).toNat (p9.mk 0 0)).length) (some list)))))
theorem b0p{list}:OK a1Y [l7 2 u5 list] (a2M list) :=
 n8 _ fun r h=>n6<|j5 2 h (fun h=>rg<|fE h) (fun h=>rg<|t6 h fun e1 h=>U1 2 7 86 2 16 u5 (p9.mk 0 0) c2Z (.none) e1 (by decide) (by rfl)<|rg<|t6 h fun e2 h=>om (s6.row 86 2 (e9L (list.length:Int).toNat (p9.mk 0 0)).length (list.map u5)=m5 86 2 u5 list) (a1M e2)<|s7 (e9L (list.length:Int).toNat (p9.mk 0 0))<|ob e2<|tl (2,{e:=some (m5 86 2 u5 list)})<|rg<|om ((e9L (list.length:Int).toNat (p9.mk 0 0)).length=list.length) (by simp)<|fE h)
def b5P:FS (List n9):=⟨39,Tryz.f39,[.val [some 2] [some 89]],[none],[.val [some 2] []],fun r=>u7 89 2 u6 r,fun _=>[none],Tryz.func39⟩
def a6L(list:List n9):Option (List n9) :=
 (bif ((list.length:Int)==0) then some [] else (t5 (0<=(list.length:Int)/\(list.length:Int)*16<=140737488355328) ((t5 (list.length=(e9L (list.length:Int).toNat (n9.mk 0 0)).length) (some list)))))
theorem d1n{list}:OK b5P [l7 2 u6 list] (a6L list) :=
 n8 _ fun r h=>n6<|j5 2 h (fun h=>rg<|fE h) (fun h=>rg<|t6 h fun e1 h=>U1 2 7 89 2 16 u6 (n9.mk 0 0) c07 (.none) e1 (by decide) (by rfl)<|rg<|t6 h fun e2 h=>om (s6.row 89 2 (e9L (list.length:Int).toNat (n9.mk 0 0)).length (list.map u6)=m5 89 2 u6 list) (a1M e2)<|s7 (e9L (list.length:Int).toNat (n9.mk 0 0))<|ob e2<|tl (2,{e:=some (m5 89 2 u6 list)})<|rg<|om ((e9L (list.length:Int).toNat (n9.mk 0 0)).length=list.length) (by simp)<|fE h)
def c3K:FS (n5):=⟨123,Tryz.f123,[.val N6 []],[none],[.val N6 []],fun r=>.agg (P3 r),fun _=>[none],Tryz.func123⟩
def b9Z(r_:n5):Option n5 :=
 ((a2M r_.b5).bind fun read=>((a6L r_.b6).bind fun put=>some (n5.mk read put r_.f0 r_.Code)))
theorem e3R{r_}:OK c3K [.agg (P3 r_)] (b9Z r_) :=
 n8 _ fun r h=>n6<|j9 a1Y b0p 2 h fun read h=>j9 b5P d1n 5 h fun put h=>C2 read put<|fE h
def a8G:FS (m4):=⟨79,Tryz.f79,[.val J9 []],[none],[.val J9 []],fun r=>.agg (t0 r),fun _=>[none],Tryz.func79⟩
def a54(e_:m4):Option m4 :=
 ((b9Z e_.b8).bind fun d0y=>some (m4.mk e_.i8 e_.a5 d0y))
theorem b0W{e_}:OK a8G [.agg (t0 e_)] (a54 e_) :=
 n8 _ fun r h=>n6<|j9 c3K e3R 6 h fun d0y h=>fE h
def d02:FS (List m7):=⟨136,Tryz.f136,[.val [some 8] [some 152]],[none],[.val [some 8] []],fun r=>u7 152 8 p6 r,fun _=>[none],Tryz.func136⟩
def c24(list:List m7):Option (List m7) :=
 (bif ((list.length:Int)==0) then some [] else (t5 (0<=(list.length:Int)/\(list.length:Int)*96<=140737488355328) ((t5 (list.length=(e9L (list.length:Int).toNat (m7.mk 0 (m4.mk false (q8.mk 0 0) (n5.mk [] [] 0 0)))).length) (some list)))))
theorem d8j{list}:OK d02 [l7 8 p6 list] (c24 list) :=
 n8 _ fun r h=>n6<|j5 2 h (fun h=>rg<|fE h) (fun h=>rg<|t6 h fun e1 h=>U1 2 7 152 8 96 p6 (m7.mk 0 (m4.mk false (q8.mk 0 0) (n5.mk [] [] 0 0))) b3B (.ck T5) e1 (by decide) (by rfl)<|rg<|t6 h fun e2 h=>om (s6.row 152 8 (e9L (list.length:Int).toNat (m7.mk 0 (m4.mk false (q8.mk 0 0) (n5.mk [] [] 0 0)))).length (list.map p6)=m5 152 8 p6 list) (a1M e2)<|s7 (e9L (list.length:Int).toNat (m7.mk 0 (m4.mk false (q8.mk 0 0) (n5.mk [] [] 0 0))))<|ob e2<|tl (2,{e:=some (m5 152 8 p6 list)})<|rg<|om ((e9L (list.length:Int).toNat (m7.mk 0 (m4.mk false (q8.mk 0 0) (n5.mk [] [] 0 0)))).length=list.length) (by simp)<|fE h)
def a3X:FS (List m7):=⟨91,Tryz.f91,[.val [some 8] [some 152]],[none],[.val [some 8] []],fun r=>u7 152 8 p6 r,fun _=>[none],Tryz.func91⟩
def c5E:(List m7)->KS:=fun out1=>⟨a3X.k 4 [false],(bs 3 (.own 1 0 8 0 out1.length::(bs 20 []))),[some [],some [m5 152 8 p6 out1]]⟩
def c8N(out1:List m7):Option (List m7) :=
 some out1
theorem e8I(r):NF a3X r c5E (fun s=>c8N s):=fun out1 h=>PK<|rg<|s7 out1<|fE h
def d6e(vote:List m7):((List m7)×Int)->KS:=fun (out,v9)=>⟨a3X.k 3 [],(bs 3 (.own 1 0 8 0 out.length::(bs 4 (vi (vote.length:Int)::(vi v9::(bs 14 [])))))),[some [],some [m5 152 8 p6 out]]⟩
def b5l(vote:List m7)(out:List m7)(v9:Int):Option (l8 (List m7) ((List m7)×Int) (List m7)) :=
 (bif decide (v9<(vote.length:Int)) then ((idx out v9).bind fun R0=>((a54 R0.i0).bind fun X9=>some (l8.nxt (out.set v9.toNat (m7.mk R0.a7 X9),m8 (v9+1))))) else some (l8.brk out))
theorem d5h(vote):LQ a3X c5E (d6e vote) (fun s=>b5l vote s.1 s.2):=fun lc (out,v9) h=>PK<|rg<|j5 0 h (fun h=>n6<|A6 h fun R0 a29 h=>B4 a29<|H8 p6 6 a29<|j9 a8G b0W 7 h fun X9 h=>B4 a29<|O6 152 8 p6 10 J9 (m7.mk R0.a7 X9) a29<|rg<|(lc.nx h fun hI=>om ((.own 1 0 8 0 out.length:V)=.own 1 0 8 0 (out.set v9.toNat (m7.mk R0.a7 X9)).length) (by simp)<|sk [.is (.tmp 3) (.own 1 0 8 0 (out.set v9.toNat (m7.mk R0.a7 X9)).length)] [3,8,9] [(1,0)] hI)) (fun h=>(lc.bk h fun hI=>sk [] [3] [(1,0)] hI))
def a8m(list:List m7):Option (List m7) :=
 ((c24 list).bind fun vote=>((p8 (fun s:(List m7)×Int=>b5l vote s.1 s.2) (vote,0)).bind fun x=>x.go (fun r=>some r) fun s=>c8N s))
theorem b5z{list}:OK a3X [l7 8 p6 list] (a8m list) :=
 n8 _ fun r h=>n6<|j9 d02 d8j 1 h fun vote h=>rg<|lp (d5h vote) h (fun _ h=>a3X.rt h) (e8I r) fun hI=>sk [] [3,8,9] [(3,0)] hI
def c3N:FS (j8):=⟨88,Tryz.f88,[.val B5 []],[none],[.val B5 []],fun r=>.agg (s5 r),fun _=>[none],Tryz.func88⟩
def b4H(m:j8):Option j8 :=
 ((a54 m.i0).bind fun X9=>((a8m m.a6).bind fun a0n=>some (j8.mk m.a8 m.c8 m.To m.a7 m.g7 X9 a0n)))
theorem e3J{m}:OK c3N [.agg (s5 m)] (b4H m) :=
 n8 _ fun r h=>M5<|j9 a8G b0W 2 h fun X9 h=>rg<|j9 a3X b5z 2 h fun a0n h=>rg<|s7 a0n<|fE h
def a6m:FS (List j8):=⟨46,Tryz.f46,[.val [some 13] [some 76]],[none],[.val [some 13] []],fun r=>u7 76 13 s5 r,fun _=>[none],Tryz.func46⟩
def c5N:(List j8)->KS:=fun out1=>⟨a6m.k 4 [false],(bs 3 (.own 1 0 13 0 out1.length::(bs 18 []))),[some [],some [m5 76 13 s5 out1]]⟩
def c69(out1:List j8):Option (List j8) :=
 some out1
theorem d5S(r):NF a6m r c5N (fun s=>c69 s):=fun out1 h=>PK<|rg<|s7 out1<|fE h
def e6S(msg:List j8):((List j8)×Int)->KS:=fun (out,v9)=>⟨a6m.k 3 [],(bs 3 (.own 1 0 13 0 out.length::(bs 4 (vi (msg.length:Int)::(vi v9::(bs 12 [])))))),[some [],some [m5 76 13 s5 out]]⟩
def b7t(msg:List j8)(out:List j8)(v9:Int):Option (l8 (List j8) ((List j8)×Int) (List j8)) :=
 (bif decide (v9<(msg.length:Int)) then ((idx out v9).bind fun b3q=>((b4H b3q).bind fun b08=>some (l8.nxt (out.set v9.toNat b08,m8 (v9+1))))) else some (l8.brk out))
theorem e8Z(msg):LQ a6m c5N (e6S msg) (fun s=>b7t msg s.1 s.2):=fun lc (out,v9) h=>PK<|rg<|j5 0 h (fun h=>n6<|A6 h fun b3q b3o h=>B4 b3o<|H8 s5 5 b3o<|j9 c3N e3J 6 h fun b08 h=>B4 b3o<|O6 76 13 s5 8 B5 b08 b3o<|rg<|(lc.nx h fun hI=>om ((.own 1 0 13 0 out.length:V)=.own 1 0 13 0 (out.set v9.toNat b08).length) (by simp)<|sk [.is (.tmp 3) (.own 1 0 13 0 (out.set v9.toNat b08).length)] [3,8,9] [(1,0)] hI)) (fun h=>(lc.bk h fun hI=>sk [] [3] [(1,0)] hI))
def b2q(list:List j8):Option (List j8) :=
 ((c0A list).bind fun msg=>((p8 (fun s:(List j8)×Int=>b7t msg s.1 s.2) (msg,0)).bind fun x=>x.go (fun r=>some r) fun s=>c69 s))
theorem c9E{list}:OK a6m [l7 13 s5 list] (b2q list) :=
 n8 _ fun r h=>n6<|j9 d3C e8W 1 h fun msg h=>rg<|lp (e8Z msg) h (fun _ h=>a6m.rt h) (d5S r) fun hI=>sk [] [3,8,9] [(3,0)] hI
def d3r:FS (List v5):=⟨47,Tryz.f47,[.val [some 3] [some 78]],[none],[.val [some 3] []],fun r=>u7 78 3 A7 r,fun _=>[none],Tryz.func47⟩
def c19(list:List v5):Option (List v5) :=
 (bif ((list.length:Int)==0) then some [] else (t5 (0<=(list.length:Int)/\(list.length:Int)*40<=140737488355328) ((t5 (list.length=(e9L (list.length:Int).toNat (v5.mk (q8.mk 0 0) [])).length) (some list)))))
theorem e2B{list}:OK d3r [l7 3 A7 list] (c19 list) :=
 n8 _ fun r h=>n6<|j5 2 h (fun h=>rg<|fE h) (fun h=>rg<|t6 h fun e1 h=>U1 2 7 78 3 40 A7 (v5.mk (q8.mk 0 0) []) c3y (.ck [none,none,some 4]) e1 (by decide) (by rfl)<|rg<|t6 h fun e2 h=>om (s6.row 78 3 (e9L (list.length:Int).toNat (v5.mk (q8.mk 0 0) [])).length (list.map A7)=m5 78 3 A7 list) (a1M e2)<|s7 (e9L (list.length:Int).toNat (v5.mk (q8.mk 0 0) []))<|ob e2<|tl (2,{e:=some (m5 78 3 A7 list)})<|rg<|om ((e9L (list.length:Int).toNat (v5.mk (q8.mk 0 0) [])).length=list.length) (by simp)<|fE h)
def c2g:FS (List m9):=⟨48,Tryz.f48,[.val [some 5] [some 72]],[none],[.val [some 5] []],fun r=>u7 72 5 x7 r,fun _=>[none],Tryz.func48⟩
def b6G(list:List m9):Option (List m9) :=
 (bif ((list.length:Int)==0) then some [] else (t5 (0<=(list.length:Int)/\(list.length:Int)*40<=140737488355328) ((t5 (list.length=(e9L (list.length:Int).toNat (m9.mk 0 (q8.mk 0 0) 0 0)).length) (some list)))))
theorem c9k{list}:OK c2g [l7 5 x7 list] (b6G list) :=
 n8 _ fun r h=>n6<|j5 2 h (fun h=>rg<|fE h) (fun h=>rg<|t6 h fun e1 h=>U1 2 7 72 5 40 x7 (m9.mk 0 (q8.mk 0 0) 0 0) c1a (.none) e1 (by decide) (by rfl)<|rg<|t6 h fun e2 h=>om (s6.row 72 5 (e9L (list.length:Int).toNat (m9.mk 0 (q8.mk 0 0) 0 0)).length (list.map x7)=m5 72 5 x7 list) (a1M e2)<|s7 (e9L (list.length:Int).toNat (m9.mk 0 (q8.mk 0 0) 0 0))<|ob e2<|tl (2,{e:=some (m5 72 5 x7 list)})<|rg<|om ((e9L (list.length:Int).toNat (m9.mk 0 (q8.mk 0 0) 0 0)).length=list.length) (by simp)<|fE h)
def a8u:FS (x6):=⟨89,Tryz.f89,[.val [none,some 8] [none,some 152]],[none],[.val [none,some 8] []],fun r=>.agg [vi r.g8,u7 152 8 p6 r.a6],fun _=>[none],Tryz.func89⟩
def a4x(a:x6):Option x6 :=
 ((a8m a.a6).bind fun a0n=>some (x6.mk a.g8 a0n))
theorem b0m{a}:OK a8u [.agg (Y5 a)] (a4x a) :=
 n8 _ fun r h=>n6<|j9 a3X b5z 4 h fun a0n h=>s7 a0n<|fE h
def c5X:FS (List m4):=⟨78,Tryz.f78,[.val [some 7] [some 43]],[none],[.val [some 7] []],fun r=>u7 43 7 t0 r,fun _=>[none],Tryz.func78⟩
def b7K(list:List m4):Option (List m4) :=
 (bif ((list.length:Int)==0) then some [] else (t5 (0<=(list.length:Int)/\(list.length:Int)*88<=140737488355328) ((t5 (list.length=(e9L (list.length:Int).toNat (m4.mk false (q8.mk 0 0) (n5.mk [] [] 0 0))).length) (some list)))))
theorem d82{list}:OK c5X [l7 7 t0 list] (b7K list) :=
 n8 _ fun r h=>n6<|j5 2 h (fun h=>rg<|fE h) (fun h=>rg<|t6 h fun e1 h=>U1 2 7 43 7 88 t0 (m4.mk false (q8.mk 0 0) (n5.mk [] [] 0 0)) c0a (.ck J9) e1 (by decide) (by rfl)<|rg<|t6 h fun e2 h=>om (s6.row 43 7 (e9L (list.length:Int).toNat (m4.mk false (q8.mk 0 0) (n5.mk [] [] 0 0))).length (list.map t0)=m5 43 7 t0 list) (a1M e2)<|s7 (e9L (list.length:Int).toNat (m4.mk false (q8.mk 0 0) (n5.mk [] [] 0 0)))<|ob e2<|tl (2,{e:=some (m5 43 7 t0 list)})<|rg<|om ((e9L (list.length:Int).toNat (m4.mk false (q8.mk 0 0) (n5.mk [] [] 0 0))).length=list.length) (by simp)<|fE h)
def a4h:FS (List m4):=⟨29,Tryz.f29,[.val [some 7] [some 43]],[none],[.val [some 7] []],fun r=>u7 43 7 t0 r,fun _=>[none],Tryz.func29⟩
def c65:(List m4)->KS:=fun out1=>⟨a4h.k 4 [false],(bs 3 (.own 1 0 7 0 out1.length::(bs 18 []))),[some [],some [m5 43 7 t0 out1]]⟩
def d01(out1:List m4):Option (List m4) :=
 some out1
theorem e1E(r):NF a4h r c65 (fun s=>d01 s):=fun out1 h=>PK<|rg<|s7 out1<|fE h
def d4j(entry:List m4):((List m4)×Int)->KS:=fun (out,v9)=>⟨a4h.k 3 [],(bs 3 (.own 1 0 7 0 out.length::(bs 4 (vi (entry.length:Int)::(vi v9::(bs 12 [])))))),[some [],some [m5 43 7 t0 out]]⟩
def b2y(entry:List m4)(out:List m4)(v9:Int):Option (l8 (List m4) ((List m4)×Int) (List m4)) :=
 (bif decide (v9<(entry.length:Int)) then ((idx out v9).bind fun a53=>((a54 a53).bind fun X9=>some (l8.nxt (out.set v9.toNat X9,m8 (v9+1))))) else some (l8.brk out))
theorem e8x(entry):LQ a4h c65 (d4j entry) (fun s=>b2y entry s.1 s.2):=fun lc (out,v9) h=>PK<|rg<|j5 0 h (fun h=>n6<|A6 h fun a53 a8D h=>B4 a8D<|H8 t0 5 a8D<|j9 a8G b0W 6 h fun X9 h=>B4 a8D<|O6 43 7 t0 8 J9 X9 a8D<|rg<|(lc.nx h fun hI=>om ((.own 1 0 7 0 out.length:V)=.own 1 0 7 0 (out.set v9.toNat X9).length) (by simp)<|sk [.is (.tmp 3) (.own 1 0 7 0 (out.set v9.toNat X9).length)] [3,8,9] [(1,0)] hI)) (fun h=>(lc.bk h fun hI=>sk [] [3] [(1,0)] hI))
def a9a(list:List m4):Option (List m4) :=
 ((b7K list).bind fun entry=>((p8 (fun s:(List m4)×Int=>b2y entry s.1 s.2) (entry,0)).bind fun x=>x.go (fun r=>some r) fun s=>d01 s))
theorem c1N{list}:OK a4h [l7 7 t0 list] (a9a list) :=
 n8 _ fun r h=>n6<|j9 c5X d82 1 h fun entry h=>rg<|lp (e8x entry) h (fun _ h=>a4h.rt h) (e1E r) fun hI=>sk [] [3,8,9] [(3,0)] hI
def b88:FS (List Bool):=⟨90,Tryz.f90,[.val [some 1] [some 4]],[none],[.val [some 1] []],fun r=>u7 4 1 eB r,fun _=>[none],Tryz.func90⟩
def b7O(list:List Bool):Option (List Bool) :=
 (bif ((list.length:Int)==0) then some [] else (t5 (0<=(list.length:Int)/\(list.length:Int)*1<=140737488355328) ((t5 (list.length=(e9L (list.length:Int).toNat false).length) (some list)))))
theorem c53{list}:OK b88 [l7 1 eB list] (b7O list) :=
 n8 _ fun r h=>n6<|j5 2 h (fun h=>rg<|fE h) (fun h=>rg<|t6 h fun e1 h=>U1 2 7 4 1 1 eB false ti4 (.none) e1 (by decide) (by rfl)<|rg<|t6 h fun e2 h=>om (s6.row 4 1 (e9L (list.length:Int).toNat false).length (list.map eB)=m5 4 1 eB list) (a1M e2)<|s7 (e9L (list.length:Int).toNat false)<|ob e2<|tl (2,{e:=some (m5 4 1 eB list)})<|rg<|om ((e9L (list.length:Int).toNat false).length=list.length) (by simp)<|fE h)
def b8l:FS (List o9):=⟨30,Tryz.f30,[.val [some 4] [some 83]],[none],[.val [some 4] []],fun r=>u7 83 4 z6 r,fun _=>[none],Tryz.func30⟩
def a8q(list:List o9):Option (List o9) :=
 (bif ((list.length:Int)==0) then some [] else (t5 (0<=(list.length:Int)/\(list.length:Int)*32<=140737488355328) ((t5 (list.length=(e9L (list.length:Int).toNat (o9.mk 0 0 0 0)).length) (some list)))))
theorem c2R{list}:OK b8l [l7 4 z6 list] (a8q list) :=
 n8 _ fun r h=>n6<|j5 2 h (fun h=>rg<|fE h) (fun h=>rg<|t6 h fun e1 h=>U1 2 7 83 4 32 z6 (o9.mk 0 0 0 0) b9R (.none) e1 (by decide) (by rfl)<|rg<|t6 h fun e2 h=>om (s6.row 83 4 (e9L (list.length:Int).toNat (o9.mk 0 0 0 0)).length (list.map z6)=m5 83 4 z6 list) (a1M e2)<|s7 (e9L (list.length:Int).toNat (o9.mk 0 0 0 0))<|ob e2<|tl (2,{e:=some (m5 83 4 z6 list)})<|rg<|om ((e9L (list.length:Int).toNat (o9.mk 0 0 0 0)).length=list.length) (by simp)<|fE h)
def b2k:FS (j6):=⟨49,Tryz.f49,[.val A3 om1],[none],[.val A3 []],fun r=>.agg (d8f r),fun _=>[none],Tryz.func49⟩
def a7C(n:j6):Option j6 :=
 ((a4x n.Acc).bind fun O8=>((a9a n.a0).bind fun a61=>((b7O n.c8).bind fun bool=>((a8m n.g9).bind fun a0n=>((a54 n.c9).bind fun X9=>((b7O n.a6).bind fun a95=>((a8q n.i5).bind fun ins=>((a54 n.b7).bind fun c6v=>((a9a n.d9).bind fun c22=>some (j6.mk n.Id O8 a61 n.Seq n.d6 n.a7 bool a0n X9 a95 n.i7 ins c6v c22))))))))))
theorem b38{n}:OK b2k [.agg (A2 n)] (a7C n) :=
 n8 _ fun r h=>M5<|j9 a8u b0m 2 h fun O8 h=>rg<|j9 a4h c1N 2 h fun a61 h=>rg<|j9 b88 c53 2 h fun bool h=>rg<|j9 a3X b5z 2 h fun a0n h=>rg<|j9 a8G b0W 2 h fun X9 h=>rg<|j9 b88 c53 2 h fun a95 h=>rg<|j9 b8l c2R 2 h fun ins h=>rg<|j9 a8G b0W 2 h fun c6v h=>rg<|j9 a4h c1N 2 h fun c22 h=>rg<|G0 O8.a6 a61 bool a0n<|W0 a95 ins c22<|fE h
def V9:FS (m6):=⟨16,Tryz.f16,[.val E4 om2],[none],[.val E4 []],fun r=>.agg (a6U r),fun _=>[none],Tryz.func16⟩
def c9W(msgsCopy:List j8)(asked:List v5)(told:List m9):(List j6)->KS:=fun Nodes1=>⟨V9.k 4 [false],(bs 2 (.ptr 1 0 0::(.ptr 2 0 0::(bs 52 [])))),[some [],some [.var 28 [.nil,.nil,.nil,.nil]],some [.var 28 [.own 3 0 27 0 Nodes1.length,.own 4 0 13 0 msgsCopy.length,.own 5 0 3 0 asked.length,.own 6 0 5 0 told.length]],some [m5 65 27 A2 Nodes1],some [m5 76 13 s5 msgsCopy],some [m5 78 3 A7 asked],some [m5 72 5 x7 told]]⟩
def c3Z(msgsCopy:List j8)(told:List m9)(Nodes1:List j6):(List v5)->KS:=fun Asked1=>⟨V9.k 6 [false,false],(bs 2 (.ptr 1 0 0::(.ptr 2 0 0::(bs 52 [])))),[some [],some [.var 28 [.nil,.nil,.nil,.nil]],some [.var 28 [.own 3 0 27 0 Nodes1.length,.own 4 0 13 0 msgsCopy.length,.own 5 0 3 0 Asked1.length,.own 6 0 5 0 told.length]],some [m5 65 27 A2 Nodes1],some [m5 76 13 s5 msgsCopy],some [m5 78 3 A7 Asked1],some [m5 72 5 x7 told]]⟩
def c5q(msgsCopy:List j8)(told:List m9)(Nodes1:List j6)(Asked1:List v5):Option m6 :=
 some (m6.mk Nodes1 msgsCopy Asked1 told)
theorem d6B(msgsCopy told Nodes1)(r):NF V9 r (c3Z msgsCopy told Nodes1) (fun s=>c5q msgsCopy told Nodes1 s):=fun Asked1 h=>PK<|rg<|G0 Nodes1 msgsCopy Asked1 told<|fE h
def e5C(msgsCopy:List j8)(asked:List v5)(told:List m9)(Nodes1:List j6):((List v5)×Int)->KS:=fun (d7,v39)=>⟨V9.k 5 [false],(bs 2 (.ptr 1 0 0::(.ptr 2 0 0::(bs 34 (vi (asked.length:Int)::(vi v39::(bs 16 []))))))),[some [],some [.var 28 [.nil,.nil,.nil,.nil]],some [.var 28 [.own 3 0 27 0 Nodes1.length,.own 4 0 13 0 msgsCopy.length,.own 5 0 3 0 d7.length,.own 6 0 5 0 told.length]],some [m5 65 27 A2 Nodes1],some [m5 76 13 s5 msgsCopy],some [m5 78 3 A7 d7],some [m5 72 5 x7 told]]⟩
def b5m(asked:List v5)(d7:List v5)(v39:Int):Option (l8 m6 ((List v5)×Int) (List v5)) :=
 (bif decide (v39<(asked.length:Int)) then ((idx d7 v39).bind fun a2B=>((a8q a2B.i5).bind fun ins=>some (l8.nxt (d7.set v39.toNat (v5.mk a2B.a5 ins),m8 (v39+1))))) else some (l8.brk d7))
theorem e8z(msgsCopy asked told Nodes1):LQ V9 (c3Z msgsCopy told Nodes1) (e5C msgsCopy asked told Nodes1) (fun s=>b5m asked s.1 s.2):=fun lc (d7,v39) h=>PK<|rg<|j5 0 h (fun h=>n6<|A6 h fun a2B a8y h=>B4 a8y<|H8 A7 8 a8y<|j9 b8l c2R 9 h fun ins h=>B4 a8y<|O6 78 3 A7 12 [some 4] (v5.mk a2B.a5 ins) a8y<|s7 ins<|rg<|(lc.nx h fun hI=>om ((.own 5 0 3 0 d7.length:V)=.own 5 0 3 0 (d7.set v39.toNat (v5.mk a2B.a5 ins)).length) (by simp)<|sk [.is (.cell 2 0 2) (.own 5 0 3 0 (d7.set v39.toNat (v5.mk a2B.a5 ins)).length)] [2,3,38,39] [(1,0),(2,0),(3,0),(4,0),(5,0),(6,0)] hI)) (fun h=>(lc.bk h fun hI=>sk [] [2,3] [(1,0),(2,0),(3,0),(4,0),(5,0),(6,0)] hI))
def b83(msgsCopy:List j8)(asked:List v5)(told:List m9)(Nodes1:List j6):Option m6 :=
 ((p8 (fun s:(List v5)×Int=>b5m asked s.1 s.2) (asked,0)).bind fun x=>x.go (fun r=>some r) fun s=>c5q msgsCopy told Nodes1 s)
theorem d9v(msgsCopy asked told)(r):NF V9 r (c9W msgsCopy asked told) (fun s=>b83 msgsCopy asked told s):=fun Nodes1 h=>PK<|rg<|lp (e8z msgsCopy asked told Nodes1) h (fun _ h=>V9.rt h) (d6B msgsCopy told Nodes1 r) fun hI=>sk [] [2,3,38,39] [(1,0),(2,0),(3,0),(4,0),(5,0),(6,0)] hI
def e5H(node:List j6)(msgsCopy:List j8)(asked:List v5)(told:List m9):((List j6)×Int)->KS:=fun (a9,v22)=>⟨V9.k 3 [],(bs 2 (.ptr 1 0 0::(.ptr 2 0 0::(bs 17 (vi (node.length:Int)::(vi v22::(bs 33 []))))))),[some [],some [.var 28 [.nil,.nil,.nil,.nil]],some [.var 28 [.own 3 0 27 0 a9.length,.own 4 0 13 0 msgsCopy.length,.own 5 0 3 0 asked.length,.own 6 0 5 0 told.length]],some [m5 65 27 A2 a9],some [m5 76 13 s5 msgsCopy],some [m5 78 3 A7 asked],some [m5 72 5 x7 told]]⟩
def b4s(node:List j6)(a9:List j6)(v22:Int):Option (l8 m6 ((List j6)×Int) (List j6)) :=
 (bif decide (v22<(node.length:Int)) then ((idx a9 v22).bind fun a2U=>((a7C a2U).bind fun V6=>some (l8.nxt (a9.set v22.toNat V6,m8 (v22+1))))) else some (l8.brk a9))
theorem d70(node msgsCopy asked told):LQ V9 (c9W msgsCopy asked told) (e5H node msgsCopy asked told) (fun s=>b4s node s.1 s.2):=fun lc (a9,v22) h=>PK<|rg<|j5 0 h (fun h=>n6<|A6 h fun a2U a40 h=>B4 a40<|H8 A2 7 a40<|j9 b2k b38 8 h fun V6 h=>B4 a40<|O6 65 27 A2 10 A3 V6 a40<|I3 V6<|rg<|(lc.nx h fun hI=>om ((.own 3 0 27 0 a9.length:V)=.own 3 0 27 0 (a9.set v22.toNat V6).length) (by simp)<|sk [.is (.cell 2 0 0) (.own 3 0 27 0 (a9.set v22.toNat V6).length)] [2,3,21,22] [(1,0),(2,0),(3,0),(4,0),(5,0),(6,0)] hI)) (fun h=>(lc.bk h fun hI=>sk [] [2,3] [(1,0),(2,0),(3,0),(4,0),(5,0),(6,0)] hI))
def a1g(w:m6):Option m6 :=
 ((b9x w.a9).bind fun node=>((b2q w.b9).bind fun msgsCopy=>((c19 w.d7).bind fun asked=>((b6G w.Told).bind fun told=>((p8 (fun s:(List j6)×Int=>b4s node s.1 s.2) (node,0)).bind fun x=>x.go (fun r=>some r) fun s=>b83 msgsCopy asked told s)))))
theorem a6W{w}:OK V9 [.agg (a0h w)] (a1g w) :=
 n8 _ fun r h=>n6<|j9 c5c e9t 2 h fun node h=>j9 a6m c9E 5 h fun msgsCopy h=>j9 d3r e2B 8 h fun asked h=>j9 c2g c9k 11 h fun told h=>rg<|lp (d70 node msgsCopy asked told) h (fun _ h=>V9.rt h) (d9v msgsCopy asked told r) fun hI=>sk [] [2,3,21,22] [(2,0),(16,0),(5,0),(8,0),(11,0),(14,0)] hI
def a6V:FS (m6):=⟨5,Tryz.f5,[.val E4 []],[],[],fun r=>.agg (a0h r),fun _=>[],Tryz.func5⟩
def c4I:(List j6)->KS:=fun Nodes1=>⟨a6V.k 4 [false],(.ptr 1 0 0::(.ptr 2 0 0::(bs 15 []))),[some [],some [.var 28 [.nil,.nil,.nil,.nil]],some [.var 28 [.own 3 0 27 0 Nodes1.length,.nil,.nil,.nil]],some [m5 65 27 A2 Nodes1]]⟩
def c9v(Nodes1:List j6):Option m6 :=
 ((a1g (m6.mk Nodes1 [] [] [])).bind fun G2=>some G2)
theorem e0M(r):NF a6V r c4I (fun s=>c9v s):=fun Nodes1 h=>PK<|rg<|j9 V9 a6W 1 h fun G2 h=>s7 Nodes1<|A5 G2<|fE h
def e4R:((List j6)×Int)->KS:=fun (a9,id)=>⟨a6V.k 3 [],(.ptr 1 0 0::(.ptr 2 0 0::(vi id::(bs 14 [])))),[some [],some [.var 28 [.nil,.nil,.nil,.nil]],some [.var 28 [.own 3 0 27 0 a9.length,.nil,.nil,.nil]],some [m5 65 27 A2 a9]]⟩
def a9F(a9:List j6)(id:Int):Option (l8 m6 ((List j6)×Int) (List j6)) :=
 (bif decide (id<3) then ((b6e id).bind fun V4=>(t5 ((a9.length+1)*392<=140737488355328) (some (l8.nxt (a9++[V4],m8 (id+1)))))) else some (l8.brk a9))
theorem d4S:LQ a6V c4I e4R (fun s=>a9F s.1 s.2):=fun lc (a9,id) h=>PK<|rg<|j5 1 h (fun h=>rg<|j9 d3v e6T 3 h fun V4 h=>tk 4 A3<|t6 h fun e1 h=>F7 5 11 65 27 392 A2 a9 V4 e1<|E5 V4<|rg<|(lc.nx h fun hI=>sk [] [0,1,2] [(1,0),(2,0),(11,0)] hI)) (fun h=>(lc.bk h fun hI=>sk [] [0,1] [(1,0),(2,0),(3,0)] hI))
def b5M:Option m6 :=
 ((p8 (fun s:(List j6)×Int=>a9F s.1 s.2) ([],0)).bind fun x=>x.go (fun r=>some r) fun s=>c9v s)
theorem e4a:OK a6V [] b5M :=
 n8 _ fun r h=>M5<|lp (d4S) h (fun _ h=>a6V.rt h) (e0M r) fun hI=>sk [.own (.cell 3 0 0) 65 27] [0,1,2] [(1,0),(3,0),(6,0)] hI
def b3P:FS (s9):=⟨20,Tryz.f20,[.ptr [some 1,none] []],[none],[.val [some 1] []],fun r=>.optr 119 (W5 r),fun _=>[none],Tryz.func20⟩
end
end Go.Proofs.YtaffmjifackfgaaGreat
