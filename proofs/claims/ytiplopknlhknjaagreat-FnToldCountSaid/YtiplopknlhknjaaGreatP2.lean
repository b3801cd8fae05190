/- Abstract values and states of the program, functions of the program and what their calls come to, and what follows from it: part 2 of the text that the law leans on; long names are written short. -/
import Derived.Test.YtiplopknlhknjaaGreatP1
import Derived.WideKeyRuns
import Derived.Below
import Derived.Carry
import Derived.ChangeArms
import Derived.Deep.Slices
import Derived.WideShapes
import Derived.Test.YtiplopknlhknjaaGreatProg
set_option linter.unusedVariables false
set_option linter.unusedSimpArgs false
set_option linter.unnecessarySimpa false
namespace Go.Proofs.YtiplopknlhknjaaGreat
open Go
open Option renaming bind_some → e8C, map_some → e9w, getD_some → e9D, map_eq_some_iff → e9K
open List renaming getElem?_eq_getElem → e8D, replicate → e8E, getElem_mem → e8F, getElem?_eq_some_iff → e8I, mem_singleton → e8J, mem_cons → e8K, nodup_append → e8L, range → e8M, eq_nil_of_length_eq_zero → e8N, length_append → e8O, mem_of_getElem? → e8P, getD_eq_getElem?_getD → e8Q, append_assoc → e8R, drop_eq_nil_of_le → e8S, getElem?_append_right → e8T, getElem?_set_ne → e8U, drop_eq_getElem_cons → e8X, getElem?_append_left → e8Y, flatten_cons → e8Z, length_take → e83, map_cons → e84, take_length → e85, take_of_length_le → e86, take_succ_eq_append_getElem → e87, getElem?_eq_none → e88, append_nil → e9b, take_append_of_le_length → e9c, pairwise_iff_getElem → e9d, take_zero → e9e, mem_replicate → e9f, nil_append → e9g, mem_of_mem_drop → e9i, mem_of_mem_take → e9j, length_cons → e9l, mem_flatten → e9m, take_append_drop → e9n, getElem?_map → e9o, any_eq_false → e9p, length_map → e9r, getElem_of_mem → e9s, mem_range → e9u, getElem?_set_self → e9v, nodup_cons → e9x, length_singleton → e9z, findIdx?_eq_some_iff_getElem → e9C, drop_zero → e9F, pairwise_cons → e9G, map_append → e9H, getElem?_cons_succ → e9I, length_set → e9N, sublist_append_right → e9P, getElem?_of_mem → e9Q, pairwise_append → e9R, mem_take_iff_getElem → e9S, Perm → e9U, drop_drop → e9V, any_eq_true → e9W, take_succ_cons → e9X, replicate_succ → e9Y, getElem?_cons_zero → e9Z, getElem?_take → e90, foldl_cons → e91, length_nil → e92, drop_append_of_le_length → e93, size_toArray → e94, all_eq_false → e95, toArray → e96, map_map → e97, Sublist → e98, set_getElem_self → f0a, cons_append → f0c, mem_cons_of_mem → f0e, flatten_append → f0f, foldl_nil → f0g
open Bool renaming and_eq_true → e8G, not_true → e8H, true_and → e8V, not_false → e8W, false_or → e9a, not_eq_true' → e9t, false_eq_true → e9A, and_true → e9B, or_eq_false_iff → e9T, and_assoc → e99, true_or → f0b
open Nat renaming mul_le_mul_right → e80, eq_of_beq_eq_true → e89, le_refl → e9h, zero_add → e9k, succ_mul → e9q, lt_of_lt_of_le → e9E, le_mul_of_pos_right → e9J, zero_le → e9L, add_zero → e9M, le_succ_of_le → e9O
open Int renaming tmod → e81, toNat_natCast → e82, tdiv → f0d
open Option.some renaming inj → e9y
noncomputable section
section
variable {cx:Cx} {Γ:M1} {F:Nat->Prop} {ι:Nat->Nat->Value} {S:St} {a:Act} {w:World}
theorem t0.writeX(h:t0 Γ F ι S a w){g j:Nat}{e e':r9}(he:S.ent g j=some e)(hl:e.live=true){w':World}(hk:w'.os=w.os/\w'.tape=w.tape/\w'.output=w.output)(hsz:w'.heap.size=w.heap.size)(hb:∀k,¬EB w e (ι g j) k->w'.heap[k]?=w.heap[k]?)(hn:G2 w w' F->RE w' F (S.setE g j e').D ι e' (ι g j)){X:List Nat}(hX:∀k∈X,¬F k/\(Γ.own k\/Γ.w0.heap.size<=k)/\∀g' j' e'',S.ent g' j'=some e''->e''.live=true->¬EB w e'' (ι g' j') k)(hin:∀k,EB w' e' (ι g j) k->EB w e (ι g j) k\/k∈X):t0 Γ F ι (S.setE g j e') a w':=by
  have hs:G2 w w' F:=a0I fun k hF=>hb k fun q=>(h.sep g j e k he hl q).1 hF
  have hD:∀k,S.D k->(S.setE g j e').D k:=fun k x=>O1.2 x
  have hoth:∀g' j' e'',S.ent g' j'=some e''->e''.live=true->¬(g'=g/\j'=j)->∀k,EB w e'' (ι g' j') k->w'.heap[k]?=w.heap[k]?:=fun g' j' e'' he'' hl'' q k a1i=>hb k fun q'=>q (h.inj g' j' e'' g j e k he'' he hl'' hl a1i q')
  have hone:∀g2 j2 e2 k,S.ent g2 j2=some e2->e2.live=true->¬(g2=g/\j2=j)->EB w' e' (ι g j) k->EB w' e2 (ι g2 j2) k->False:=by
    intro g2 j2 e2 k h2 l2 q2 k1 k2;have k2':=(h.ents g2 j2 e2 h2).back (hoth g2 j2 e2 h2 l2 q2) k2;rcases hin k k1 with x|x
    · exact q2 (h.inj g2 j2 e2 g j e k h2 he l2 hl k2' x)
    · exact (hX k x).2.2 g2 j2 e2 h2 l2 k2'
  exact
    { F0:=h.F0
      F1:=fun k hF=>hsz▸h.F1 k hF
      F2:=h.F2
      kept:=⟨hk.1.trans h.kept.os,hk.2.1.trans h.kept.tape,hk.2.2.trans h.kept.output,hsz▸h.kept.size,fun k hk' hno=>by
        rw [hb k fun q => ?_]
        · exact h.kept.block k hk' hno
        · rcases (h.sep g j e k he hl q).2 with x|x
          · exact hno x
          · omega⟩
      tmps:=by rw [a69];exact h.tmps.imp fun _ _ x=>x.mono hs (fun _ y=>y) hD (fun _ _ _=>rfl)
      ents:=fun g' j' e'' he''=>by
        rw [N6 he] at he'';split at he''
        · rename_i q;obtain ⟨rfl,rfl⟩:=q;injection he'' with he'';subst he'';exact hn hs
        · rename_i q;exact (h.ents g' j' e'' he'').mono hs (fun _ y=>y) hD (fun _ _ _=>rfl) fun k hl'' a1i=>hoth g' j' e'' he'' hl'' q k a1i
      sep:=fun g' j' e'' k he'' hl'' a1i=>by
        rw [N6 he] at he'';split at he''
        · rename_i q;obtain ⟨rfl,rfl⟩:=q;injection he'' with he'';subst he'';rcases hin k a1i with x|x
          · exact h.sep g' j' e k he hl x
          · exact ⟨(hX k x).1,(hX k x).2.1⟩
        · rename_i q;exact h.sep g' j' e'' k he'' hl'' ((h.ents g' j' e'' he'').back (hoth g' j' e'' he'' hl'' q) a1i)
      inj:=fun g1 j1 e1 g2 j2 e2 k h1 h2 l1 l2 k1 k2=>by
        rw [N6 he] at h1 h2;split at h1<;>split at h2
        · rename_i q1 q2;exact ⟨q1.1.trans q2.1.symm,q1.2.trans q2.2.symm⟩
        · rename_i q1 q2;obtain ⟨rfl,rfl⟩:=q1;injection h1 with h1;subst h1;exact (hone g2 j2 e2 k h2 l2 q2 k1 k2).elim
        · rename_i q1 q2;obtain ⟨rfl,rfl⟩:=q2;injection h2 with h2;subst h2;exact (hone g1 j1 e1 k h1 l1 q1 k2 k1).elim
        · rename_i q1 q2;exact h.inj g1 j1 e1 g2 j2 e2 k h1 h2 l1 l2 ((h.ents g1 j1 e1 h1).back (hoth g1 j1 e1 h1 l1 q1) k1) ((h.ents g2 j2 e2 h2).back (hoth g2 j2 e2 h2 l2 q2) k2)
      defers:=h.defers
      pins:=fun j c hc=>⟨hD _ (h.pins j c hc).1,(h.pins j c hc).2⟩}
theorem G1.splice{rows:List (List V)}(h:G1 rows){idx off:Nat}{r vs:List V}(hr:rows[idx]?=some r)(hv:∀v∈vs,v.isRef=false):G1 (rows.set idx (z6 r off vs)):=by
 intro q hq v hm;rcases List.mem_or_eq_of_mem_set hq with hq|rfl
 ·exact h q hq v hm
 ·unfold z6 at hm;have hrr:=h r (e8P hr);rcases List.mem_append.1 hm with hm|hm
  ·rcases List.mem_append.1 hm with hm|hm
   ·exact hrr v (e9j hm)
   ·exact hv v hm
  ·exact hrr v (e9i hm)
theorem t0.dput(h:t0 Γ F ι S a w){g j t sz n:Nat}{o:Bool}{rows:List (List V)}(he:S.ent g j=some (.deep o t sz n rows)){idx off:Nat}{r vs:List V}{ds:List Value}{fp:List Nat}{ks:List (Nat×Nat)}(hr:rows[idx]?=some r)(hoff:off+vs.length<=sz)(hbl:BL w F vs ds fp)(hfps:K1 S w ι ks fp)(hks:ks.Nodup)(hgj:(g,j) ∉ ks){w':World}(hw:w'.os=w.os/\w'.tape=w.tape/\w'.output=w.output)(hsz:w'.heap.size=w.heap.size)(hb:∀k,A6 (ι g j)≠some k->w'.heap[k]?=w.heap[k]?)(hnew:∀flat,w.ownsRow 0 t sz (ι g j) n flat->w'.ownsRow 0 t sz (ι g j) n (z6 flat (idx*sz+off) ds)) :
  t0 Γ F ι (S.upds (D9 ks++[((g,j),.deep o t sz n (rows.set idx (z6 r off vs)))])) a w':=by
 obtain ⟨flat,fs,hor,hkl,hn,hl,hnd,hnr⟩:=h.ents g j _ he;have h1:=h.killAll ks fun id hid=>by
  obtain ⟨e,he,_⟩:=hfps.live id hid;exact ⟨e,he⟩
 have he1:(S.upds (D9 ks)).ent g j=some (.deep o t sz n rows):=by rw [c8p hgj];exact he
 have hidx:=(e8I.1 hr).1;have hpos:idx*sz+sz<=n*sz:=by rw [<-e9q];exact e80 _ (by omega)
 obtain ⟨fa,fm,fb,rfl,hrow,_⟩:=hkl.splice (k:=idx*sz+off) hbl.kl (by rw [a3l hl,hn];omega);rw [<-a7d hl hr hoff] at hrow;have hfpx:∀k∈fp,¬F k/\(Γ.own k\/Γ.w0.heap.size<=k)/\k ∉ C3 (ι g j)++(fa++(fm++fb))/\∀g' j' e'',(S.upds (D9 ks)).ent g' j'=some e''->e''.live=true->¬EB w e'' (ι g' j') k:=by
  intro k hk;obtain ⟨id,hid,e',he',hl',hb'⟩:=hfps.mem hk;obtain ⟨z1,z2⟩:=h.sep _ _ e' k he' hl' hb';refine ⟨z1,z2,?_,?_⟩
  ·intro q;obtain ⟨y1,y2⟩:=h.inj _ _ _ _ _ _ k he he' rfl hl' ((EB.deep_iff hor hkl).2 q) hb';exact hgj (by rw [show (g,j)=id from Prod.ext y1 y2];exact hid)
  ·intro g' j' e'' he'' hl'' hb'';rcases a84 _ he'' with ⟨_,rfl⟩|⟨q1,q2⟩
   ·cases hl''
   ·obtain ⟨y1,y2⟩:=h.inj _ _ _ _ _ _ k q2 he' hl'' hl' hb'' hb';exact q1 (by rw [show (g',j')=id from Prod.ext y1 y2];exact hid)
 have hnd2:(C3 (ι g j)++(fa++fb)).Nodup:=by
  refine List.Nodup.sublist ?_ hnd;exact e98.append_left (e98.append_left (e9P _ _) _) _
 have hnd':(C3 (ι g j)++(fa++(fp++fb))).Nodup:=by
  refine (a7M (a7M (e9U.refl (fp++fb)))).nodup_iff.2 ?_;refine e8L.2 ⟨K1.nodup h hfps hks,hnd2,?_⟩;intro k hk k' hk' hkk;subst hkk;refine (hfpx k hk).2.2.1 ?_;simp only [List.mem_append] at hk' ⊢;rcases hk' with q|q|q<;>simp [q]
 have hre:G2 w w' F->RE w' F ((S.upds (D9 ks)).setE g j (.deep o t sz n (rows.set idx (z6 r off vs)))).D ι (.deep o t sz n (rows.set idx (z6 r off vs))) (ι g j):=by
  intro hs;refine ⟨_,_,hnew flat hor,hrow.mono hs (fun _ x=>x) (fun k x=>O1.2 ((Y8 S k _).2 x)) (fun _ _ _=>rfl) ?_,by simpa using hn,?_,hnd',fun q=>(hnr q).splice hr hbl.noRef⟩
  ·intro k hk;refine hb k fun q => ?_
   exact (e8L.1 hnd').2.2 k (O5.2 q) k hk rfl
  ·intro q hq;rcases List.mem_or_eq_of_mem_set hq with hq|rfl
   ·exact hl q hq
   ·have:=hl r (e8P hr);rw [a1Y _ _ _ (by omega)];exact this
 rw [St.upds_append];refine h1.writeX he1 rfl hw hsz (fun k hk=>hb k fun q=>hk (EB.top q)) hre (X:=fp) (fun k hk=>⟨(hfpx k hk).1,(hfpx k hk).2.1,(hfpx k hk).2.2.2⟩) ?_;intro k hk;have hs:G2 w w' F:=a0I fun k hF=>hb k fun q=>(h.sep g j _ k he rfl (EB.top q)).1 hF
 obtain ⟨flat2,fs2,ho2,hkl2,_⟩:=hre hs;have hk2:=(EB.deep_iff ho2 hkl2).1 hk;have hkl3:=hrow.mono (w':=w') hs (fun _ x=>x) (fun k x=>x) (fun _ _ _=>rfl) (fun k hk=>hb k fun q=>(e8L.1 hnd').2.2 k (O5.2 q) k hk rfl);have hfl:=a8N ho2 (hnew flat hor) (fun _ _=>rfl);subst hfl;rw [hkl2.det hkl3 (fun _ _=>rfl)] at hk2;simp only [List.mem_append] at hk2;rw [EB.deep_iff hor hkl];simp only [List.mem_append];rcases hk2 with q|q|q|q<;>simp [q]
def a8L(cx:Cx)(ty:Nat)(x y:V)(r:List V)(ck om:List (Option Nat)):j6 A5 :=
 match cx.T ty,y.cells with
 | some ti,some vs=>match x with
  | .eptr g j sz idx off=>j6.bind (j6.rd g j) fun e=>j6.bind (a1h ck om vs) fun f=>match e with
   | .deep o t sz' n rows=>if sz'=sz/\vs.length=ti.size/\off+vs.length<=sz/\f.ls.isEmpty/\a2i f.ks/\a03 f.ks (g,j)=false then
     j6.pure {v:=.bot,upd:=D9 f.ks++[((g,j),.deep o t sz n (rows.set idx (z6 r off f.v)))],obl:=(rows[idx]?=some r)::f.obl}
    else j6.no
   | _=>j6.no
  | _=>j6.no
 | _,_=>j6.no
theorem BL.len{F:Nat->Prop}:∀{vs:List V} {cs:List Value} {f:List Nat},BL w F vs cs f->vs.length=cs.length
 | _,_,_,.nil=>rfl
 | _,_,_,.cons _ _ _ _ _ _ _ t=>by simp [BL.len t]
theorem d2b(h:t0 Γ F ι S a w){grp:Nat}{ob:Oper}{ty:Nat}{x y:Operand}{r:List V}{ck om:List (Option Nat)}(ho:ob.op=.store ty x y)(hd:ob.dst=none){out:A5}{lg:List (Nat×Nat)}(hp:a8L cx ty (s5 S.t x) (s5 S.t y) r ck om S.ent=some (out,lg))(hob:∀p∈out.obl,p):R2 cx.P Γ ι S grp ob out a w:=by
 have hx:=C1 h.tmps x;have hy:=C1 h.tmps y;unfold a8L at hp;cases hti:cx.T ty with
 | none=>rw [hti] at hp;cases hp
 | some ti =>
 cases hvs:(s5 S.t y).cells with
 | none=>rw [hti,hvs] at hp;cases hp
 | some vs =>
 rw [hti,hvs] at hp;simp only at hp;obtain ⟨i,d,z,htf⟩:=cx.tf hti;have hcells:=hy.cells hvs;have hone:=hcells.all_one;have hclen:vs.length=(a.eval y).cells.size:=by simpa using hcells.length
 generalize s5 S.t x=xv at hp hx;cases xv<;>try (cases hp;done)
 case eptr g j sz idx off =>
  obtain ⟨hD,b,hι,hc⟩:=hx.inv_eptr;obtain ⟨e,l1,l2,hrd,hp',hl12⟩:=j6.bind_some hp;clear hp;have he:=(j6.rd_some hrd).1;simp only at he;obtain ⟨f,l3,l4,hf,hp'',hl34⟩:=j6.bind_some hp';clear hp';cases e<;>try (cases hp'';done)
  rename_i o t sz' n rows;simp only at hp'';split at hp''<;>try (cases hp'';done)
  rename_i hcond;obtain ⟨rfl,hc1,hc2,hc3,hc4,hc5⟩:=hcond;have:=j6.pure_some hp'';injection this with h2 h3;subst h2;have hr:rows[idx]?=some r:=hob _ (e8K.2 (.inl rfl));have hls:f.ls=[]:=List.isEmpty_iff.1 hc3;obtain ⟨fp,hbl,hfps,hh⟩:=b2D (F1:=F) h (fun _ x=>x) hcells hf (fun p hp=>hob p (e8K.2 (.inr hp))) (by rw [hls];intro id hid;cases hid);obtain ⟨flat0,fs0,hor0,hkl0,hn0,hl0,_⟩:=h.ents g j _ he;have hidx:=(e8I.1 hr).1;have hvl:f.v.length=vs.length:=by rw [hbl.len,hclen];simp
  rcases hor0.2 with ⟨hv,h0⟩|⟨g0,cap,cur,hv,hbg,hg,hnc,hcm,hcs,ht⟩
  ·omega
  ·have hb:b=g0:=by rw [hv] at hι;simp [A6] at hι;omega
   subst hb;have hcl:n*sz'<=cur.size:=by rw [hcs];exact e80 _ hnc
   have hpos:idx*sz'+sz'<=n*sz':=by rw [<-e9q];exact e80 _ (by omega)
   have hrun:=b7G (P:=cx.P) ho htf hc hg (by omega) (by omega) hone;refine ⟨_,undef,_,F,ι,hrun,.inr ⟨rfl,rfl⟩,?_⟩;rw [hd,a9W,b2k];refine h.dput he hr (by omega) hbl hfps (a3F hc4) (fun q=>by rw [a5n.2 q] at hc5;cases hc5) ⟨rfl,rfl,rfl⟩ (b1r _ _ _) (fun k hk=>setRow_other w b k _ fun q=>hk (by rw [hι,q])) ?_;intro flat hor;have hfl:=a8N hor hor0 (fun _ _=>rfl);subst hfl;have hflat:flat.length=n*sz':=hor.1;refine ⟨?_,.inr ⟨b,cap,_,hv,hbg,setRow_heap w b cur _ t (0,0) hg,hnc,hcm,?_,?_⟩⟩
   ·rw [a1Y _ _ _ (by simp;omega)];exact hor.1
   ·rw [e94,a1Y _ _ _ (by simp;omega)];simpa using hcs
   ·rw [<-ht];exact b8V _ _ _ _ (by simp;omega) (by simpa using hcl)
theorem b8l{t sz n:Nat}{rows:List (List V)}{c:Value}{flat:List Value}{b idx off m:Nat}{r:List V}(ho:w.ownsRow 0 t sz c n flat)(hn:rows.length=n)(hl:∀r∈rows,r.length=sz)(hb:A6 c=some b)(hr:rows[idx]?=some r)(hoff:off+m<=sz) :
  L9 w b (idx*sz+off) ((flat.drop (idx*sz+off)).take m)/\((rows.flatten.drop (idx*sz+off)).take m=(r.drop off).take m)/\idx*sz+off+m<=rows.flatten.length:=by
 have hidx:=(e8I.1 hr).1;have hpos:idx*sz+sz<=n*sz:=by rw [<-e9q];exact e80 _ (by omega)
 refine ⟨?_,?_,by rw [a3l hl,hn];omega⟩
 ·rcases ho.2 with ⟨hv,h0⟩|⟨g0,cap,cur,hv,_,hg,hnc,hcm,hcs,ht⟩
  ·rw [hv] at hb;cases hb
  ·rw [hv] at hb;simp [A6] at hb;subst hb;have hseg:L9 w g0 0 flat:=by
    rw [<-ht];have:=(a5i hg 0).take (n*sz);simpa using this
   have:=(hseg.drop (idx*sz+off)).take m;simpa using this
 ·rw [<-b1I hl hr,List.drop_take,List.take_take,e9V];congr 1
  omega
def b0o(cx:Cx)(grp ty:Nat)(x:V)(r:List V):j6 A5 :=
 match cx.T ty with
 | none=>j6.no
 | some ti=>match x with
  | .eptr g j sz idx off=>j6.bind (j6.rd g j) fun e=>match e with
   | .deep _ t sz' n rows =>
    let m:=if ti.agg then ti.size else 1
    let y:=J0 grp 0 ((r.drop off).take m);if sz'=sz/\off+m<=sz/\((r.drop off).take m).all (fun v => !v.isRef) then
     match Q3 ti y.1 with
     | some v=>j6.pure {v:=v,new:=some y.2,upd:=[((g,j),.deep true t sz n (rows.set idx (z6 r off y.1)))],obl:=[rows[idx]?=some r]}
     | none=>j6.no
    else j6.no
   | _=>j6.no
  | _=>j6.no
theorem KL.toBL{w:World}{F D:Nat->Prop}{ι:Nat->Nat->Value}{vs:List V}{cs:List Value}{f:List Nat}(h:KL w F D ι vs cs f)(hv:vs.all (fun v => !v.isRef)=true):BL w F vs cs f:=by
 refine h.blOf fun v hm => ?_
 have:=List.all_eq_true.1 hv v hm;simpa using this
theorem c6R(grp:Nat):∀(vs:List V) (j:Nat),(J0 grp j vs).1.length=vs.length
 | [],_=>rfl
 | v::vs,j=>by simp [J0,c6R grp vs]
theorem e70{S:St}{g j:Nat}{e e':r9}:(S.setE g j e).setE g j e'=S.setE g j e':=by
 cases hx:S.h[g]? with
 | none=>unfold St.setE;simp [hx]
 | some o=>cases o with
  | none=>unfold St.setE;simp [hx]
  | some l =>
   have hlt:=(e8I.1 hx).1;rw [a2n hx,a2n hx,a2n (l:=l.set j e) (by simp [hlt])];simp only [List.set_set]
set_option maxHeartbeats 800000 in
theorem d35(h:t0 Γ F ι S a w){grp:Nat}(hg:grp<S.h.length)(hn:¬S.D grp){ob:Oper}{ty:Nat}{x:Operand}{r:List V}(ho:ob.op=.load ty x){out:A5}{lg:List (Nat×Nat)}(hp:b0o cx grp ty (s5 S.t x) r S.ent=some (out,lg))(hob:∀p∈out.obl,p):R2 cx.P Γ ι S grp ob out a w:=by
 have hx:=C1 h.tmps x;unfold b0o at hp;cases hti:cx.T ty with
 | none=>rw [hti] at hp;cases hp
 | some ti =>
 rw [hti] at hp;obtain ⟨i,d,z,htf⟩:=cx.tf hti;generalize s5 S.t x=xv at hp hx;cases xv<;>try (cases hp;done)
 case eptr g j sz idx off =>
  obtain ⟨hD,b,hι,hc⟩:=hx.inv_eptr;obtain ⟨e,l1,l2,hrd,hp',hl12⟩:=j6.bind_some hp;clear hp;have he:=(j6.rd_some hrd).1;simp only at he;cases e<;>try (cases hp';done)
  rename_i o t sz' n rows;simp only at hp';obtain ⟨m,hm⟩:∃m,(if ti.agg=true then ti.size else 1)=m:=⟨_,rfl⟩
  rw [hm] at hp';split at hp'<;>try (cases hp';done)
  rename_i hcond;obtain ⟨rfl,hc1,hc2⟩:=hcond;obtain ⟨y,hy⟩:∃y,J0 grp 0 ((r.drop off).take m)=y:=⟨_,rfl⟩
  rw [hy] at hp';cases hrv:Q3 ti y.1 with
  | none=>rw [hrv] at hp';cases hp'
  | some v =>
  rw [hrv] at hp';have:=j6.pure_some hp';injection this with h2 h3;subst h2;have hr:rows[idx]?=some r:=hob _ (by simp);obtain ⟨flat,fs,hor,hkl,hrn,hl,hnd,hnr⟩:=h.ents g j _ he;obtain ⟨hseg,hmid,hle⟩:=b8l hor hrn hl hι hr hc1;have hrl:=hl r (e8P hr);have hml:((r.drop off).take m).length=m:=by simp;omega
  have hgg:g≠grp:=fun q=>hn (q▸hD)
  obtain ⟨k,hk⟩:∃k,idx*sz'+off=k:=⟨_,rfl⟩
  rw [hk] at hseg hmid hle;obtain ⟨fa,fm,fb,rfl,ka,km,kb⟩:=hkl.cut (k:=k) (m:=m) hle;rw [hmid] at km;have hbl:=km.toBL hc2;have hds:(flat.drop k).take m=((flat.drop k).take m):=rfl;have hflen:flat.length=rows.flatten.length:=hkl.len.symm;have hspl:∀us:List V,us.length=m->(rows.set idx (z6 r off us)).flatten=rows.flatten.take k++(us++rows.flatten.drop (k+m)):=by
   intro us hus;rw [a7d hl hr (by omega),hk];unfold z6;rw [hus,e8R]
  have hfs:flat=flat.take k++((flat.drop k).take m++flat.drop (k+m)):=by
   rw [<-e9V,e9n,e9n]
  have hrl':∀us:List V,us.length=m->∀q∈rows.set idx (z6 r off us),q.length=sz':=by
   intro us hus q hq;rcases List.mem_or_eq_of_mem_set hq with hq|rfl
   ·exact hl q hq
   ·rw [a1Y _ _ _ (by omega)];exact hrl
  have hnd2:(C3 (ι g j)++(fa++fb)).Nodup:=List.Nodup.sublist (e98.append_left (e98.append_left (e9P _ _) _) _) hnd;have hndm:fm.Nodup:=(e8L.1 (e8L.1 (e8L.1 hnd).2.1).2.1).1;have hdm:∀k∈fm,k ∉ C3 (ι g j)++(fa++fb):=by
   intro q hq hq';have hp:=(a7M (C:=C3 (ι g j)) (a7M (C:=fa) (e9U.refl (fm++fb)))).nodup_iff.1 hnd;exact (e8L.1 hp).2.2 q hq q hq' rfl
  obtain ⟨us0,hus0⟩:∃us:List V,us=((r.drop off).take m).map fun _=>V.bot:=⟨_,rfl⟩
  have hus0l:us0.length=m:=by rw [hus0,e9r,hml]
  have kl0:∀{D':Nat->Prop} {ι':Nat->Nat->Value},(∀k,S.D k->D' k)->(∀g j,S.D g->ι' g j=ι g j)->∀{us:List V},us.length=m->KL w F D' ι' us ((flat.drop k).take m) []->KL w F D' ι' (rows.set idx (z6 r off us)).flatten flat (fa++([]++fb)):=by
   intro D' ι' h1 h2 us hus hku;rw [hspl us hus,hfs];have l1:(flat.take k).length=k:=by simp;omega
   have e1:(flat.take k++((flat.drop k).take m++flat.drop (k+m)))=flat:=hfs.symm;exact (ka.mono (fun _ _ _=>rfl) (fun _ x=>x) h1 h2 (fun _ _=>rfl)).app (hku.app (kb.mono (fun _ _ _=>rfl) (fun _ x=>x) h1 h2 (fun _ _=>rfl)))
  have hmem0:∀q,q∈C3 (ι g j)++(fa++([]++fb))->q∈C3 (ι g j)++(fa++(fm++fb)):=by
   intro q hq;simp only [List.mem_append,List.not_mem_nil,false_or] at hq ⊢;rcases hq with x|x|x<;>simp [x]
  have rel1:t0 Γ F ι (S.setE g j (.deep true t sz' n (rows.set idx (z6 r off us0)))) a w:=by
   have k1:=kl0 (D':=S.D) (ι':=ι) (fun _ x=>x) (fun _ _ _=>rfl) hus0l (hus0▸km.bots);refine h.write he rfl ⟨rfl,rfl,rfl⟩ rfl (fun _ _=>rfl) (fun _ => ?_) ?_
   ·exact ⟨flat,_,hor,k1.mono (fun _ _ _=>rfl) (fun _ x=>x) (fun k x=>O1.2 x) (fun _ _ _=>rfl) (fun _ _=>rfl),by simpa using hrn,hrl' _ hus0l,by simpa using hnd2,fun q=>by cases q⟩
   ·intro q hq;exact (EB.deep_iff hor hkl).2 (hmem0 q ((EB.deep_iff hor k1).1 hq))
  have he1:(S.setE g j (.deep true t sz' n (rows.set idx (z6 r off us0)))).ent g j=some (.deep true t sz' n (rows.set idx (z6 r off us0))):=by rw [N6 he];simp
  obtain ⟨bs,hbsl,hhas,hth⟩:=a6E (grp:=grp) hbl 0;rw [hy] at hbsl hhas hth;obtain ⟨ι',hι'⟩:∃ι',ι'=a4p ι grp bs:=⟨_,rfl⟩
  have hne:∀g j,g≠grp->ι' g j=ι g j:=fun g j q=>by rw [hι'];exact b9I q
  have hlenS:grp<(S.setE g j (.deep true t sz' n (rows.set idx (z6 r off us0)))).h.length:=by rw [a9u];exact hg
  have hnD:¬(S.setE g j (.deep true t sz' n (rows.set idx (z6 r off us0)))).D grp:=fun q=>hn (O1.1 q)
  have hDg:=Z3 (S:=S.setE g j (.deep true t sz' n (rows.set idx (z6 r off us0)))) (new:=y.2) hlenS;obtain ⟨hrc,hlie⟩:=hth ((S.setE g j (.deep true t sz' n (rows.set idx (z6 r off us0)))).lay grp y.2).D ι' hDg (fun q c hq=>by rw [hι',e9k];exact a4s hq) hndm;have hvb:∀(q:Nat) (e:r9),y.2[q]?=some e->bs[q]?=some (ι' grp q):=by
   intro q e hq;have hlt:q<bs.length:=by rw [hbsl];exact (e8I.1 hq).1
   have hv:ι' grp q=bs[q]:=by rw [hι'];exact a4s (e8D hlt)
   rw [hv];exact e8D hlt
  have hmB:∀k∈fm,EB w (.deep o t sz' n rows) (ι g j) k:=fun k hk=>(EB.deep_iff hor hkl).2 (by simp [hk])
  have k1:=kl0 (D':=S.D) (ι':=ι) (fun _ x=>x) (fun _ _ _=>rfl) hus0l (hus0▸km.bots);have rel2:=rel1.lay hlenS hnD (new:=y.2) (ι':=ι') hne (fun q e he=>hlie q e _ he (hvb q e he))
   (fun q e k he hl hk=>h.sep _ _ _ k ‹S.ent g j=some (.deep o t sz' n rows)› rfl (hmB k (hhas.mem he (hvb q e he) hk)))
   (fun q e q' e' k he he' hl hl' hk hk'=>hhas.inj hndm he (hvb q e he) hk he' (hvb q' e' he') hk')
   (fun q e g' j' e' k he0 he' hl hl' hk hk'=>by
    have hkm:=hhas.mem he0 (hvb q e he0) hk;rw [N6 he] at he';split at he'
    ·rename_i qq;obtain ⟨rfl,rfl⟩:=qq;injection he' with he';subst he';exact hdm k hkm (by simpa using (EB.deep_iff hor k1).1 hk')
    ·rename_i qq;exact qq (h.inj _ _ _ _ _ _ k he' he hl' rfl hk' (hmB k hkm)))
  have he2:((S.setE g j (.deep true t sz' n (rows.set idx (z6 r off us0)))).lay grp y.2).ent g j=some (.deep true t sz' n (rows.set idx (z6 r off us0))):=by rw [a6D hgg];exact he1
  have hyl:y.1.length=m:=by rw [<-hy,c6R,hml]
  have hor':w.ownsRow 0 t sz' (ι' g j) n flat:=by rw [hne g j hgg];exact hor
  have hDD:∀k,S.D k->((S.setE g j (.deep true t sz' n (rows.set idx (z6 r off us0)))).lay grp y.2).D k:=fun k x=>b3x (O1.2 x)
  have hιD:∀g' j',S.D g'->ι' g' j'=ι g' j':=fun g' j' x=>hne g' j' fun q=>hn (q▸x)
  have k2:=kl0 (D':=((S.setE g j (.deep true t sz' n (rows.set idx (z6 r off us0)))).lay grp y.2).D) (ι':=ι') hDD hιD hyl (KL.ofRC hrc);have k1':=kl0 (D':=((S.setE g j (.deep true t sz' n (rows.set idx (z6 r off us0)))).lay grp y.2).D) (ι':=ι') hDD hιD hus0l (hus0▸km.bots.mono (fun _ _ _=>rfl) (fun _ x=>x) hDD hιD (fun _ _=>rfl));have rel3:=rel2.write he2 rfl (e':=.deep true t sz' n (rows.set idx (z6 r off y.1))) ⟨rfl,rfl,rfl⟩ rfl (fun _ _=>rfl)
   (fun _=>⟨flat,_,hor',k2.mono (fun _ _ _=>rfl) (fun _ x=>x) (fun k x=>O1.2 x) (fun _ _ _=>rfl) (fun _ _=>rfl),by simpa using hrn,hrl' _ hyl,by rw [hne g j hgg];simpa using hnd2,fun q=>by cases q⟩)
   (fun q hq=>(EB.deep_iff hor' k1').2 ((EB.deep_iff hor' k2).1 hq))
  obtain ⟨c,hrd',hvc⟩:=a50 hrc hrv;refine ⟨_,c,w,F,ι',a5x ho htf (by rw [hc,hk]) hseg hrd',.inl rfl,?_⟩;have hput:=rel3.put ob.dst (hvc.mono (fun _ _ _=>rfl) (fun _ x=>x) (fun k x=>O1.2 x) (fun _ _ _=>rfl));rw [<-c64 hgg,e70] at hput;exact hput
def V.plainO:V->Bool
 | .own .. => true
 | v=>v.plain
theorem KL.plainO{w:World}{F D:Nat->Prop}{ι:Nat->Nat->Value}:∀{vs:List V} {cs:List Value} {f:List Nat},KL w F D ι vs cs f->vs.all V.plainO=true->u7 (RC w F D ι) vs cs
 | _,_,_,.nil,_=>.nil
 | _,_,_,.cons v c f vs cs fs h t,hp=>by
  simp only [List.all_cons,e8G] at hp;refine .cons ?_ (KL.plainO t hp.2);have hv:=hp.1;cases h with
  | rc h=>exact h
  | bc _ h=>cases h with
   | fv v c h=>exact .fv _ _ h
   | _=>cases hv
def b2F(cx:Cx)(ty:Nat)(x:V)(r:List V):j6 A5 :=
 match cx.T ty with
 | none=>j6.no
 | some ti=>match x with
  | .eptr g j sz idx off=>j6.bind (j6.rd g j) fun e=>match e with
   | .deep _ t sz' n rows =>
    let m:=if ti.agg then ti.size else 1
    if sz'=sz/\off+m<=sz/\((r.drop off).take m).all V.plainO then
     match Q3 ti ((r.drop off).take m) with
     | some v=>j6.pure {v:=v,obl:=[rows[idx]?=some r]}
     | none=>j6.no
    else j6.no
   | _=>j6.no
  | _=>j6.no
theorem d4H(h:t0 Γ F ι S a w){grp:Nat}{ob:Oper}{ty:Nat}{x:Operand}{r:List V}(ho:ob.op=.load ty x){out:A5}{lg:List (Nat×Nat)}(hp:b2F cx ty (s5 S.t x) r S.ent=some (out,lg))(hob:∀p∈out.obl,p):R2 cx.P Γ ι S grp ob out a w:=by
 have hx:=C1 h.tmps x;unfold b2F at hp;cases hti:cx.T ty with
 | none=>rw [hti] at hp;cases hp
 | some ti =>
 rw [hti] at hp;obtain ⟨i,d,z,htf⟩:=cx.tf hti;generalize s5 S.t x=xv at hp hx;cases xv<;>try (cases hp;done)
 case eptr g j sz idx off =>
  obtain ⟨hD,b,hι,hc⟩:=hx.inv_eptr;obtain ⟨e,l1,l2,hrd,hp',hl12⟩:=j6.bind_some hp;clear hp;have he:=(j6.rd_some hrd).1;simp only at he;cases e<;>try (cases hp';done)
  rename_i o t sz' n rows;simp only at hp';obtain ⟨m,hm⟩:∃m,(if ti.agg=true then ti.size else 1)=m:=⟨_,rfl⟩
  rw [hm] at hp';split at hp'<;>try (cases hp';done)
  rename_i hcond;obtain ⟨rfl,hc1,hc2⟩:=hcond;cases hrv:Q3 ti ((r.drop off).take m) with
  | none=>rw [hrv] at hp';cases hp'
  | some v =>
  rw [hrv] at hp';have:=j6.pure_some hp';injection this with h2 h3;subst h2;have hr:rows[idx]?=some r:=hob _ (by simp);obtain ⟨flat,fs,hor,hkl,hrn,hl,hnd,hnr⟩:=h.ents g j _ he;obtain ⟨hseg,hmid,hle⟩:=b8l hor hrn hl hι hr hc1;obtain ⟨fa,fm,fb,rfl,ka,km,kb⟩:=hkl.cut hle;rw [hmid] at km;obtain ⟨c,hrd',hvc⟩:=a50 (D:=S.D) (ι:=ι) (km.plainO hc2) hrv;exact ⟨_,c,w,F,ι,a5x ho htf hc hseg hrd',.inl rfl,by rw [a5Z];exact h.put ob.dst hvc⟩
def b2S(cx:Cx)(grp ty:Nat)(l c:V)(ck om:List (Option Nat)):j6 A5 :=
 match cx.T ty with
 | some ti=>match ti.sl with
  | some e=>match cx.T e with
   | some ei=>match l,c with
    | .i _ n,.i _ n'=>j6.bind (a1h ck om ei.zero) fun f =>
     if f.ks.isEmpty/\f.ls.isEmpty then
      j6.pure {v:=.own grp 0 ei.size 0 n.toNat,new:=some [.deep false e ei.size n.toNat (e8E n.toNat f.v)],obl:=[0<=n,n'=n,n*ei.bytes<=140737488355328/\0<ei.bytes,ei.zero.length=ei.size]++f.obl}
     else j6.no
    | _,_=>j6.no
   | none=>j6.no
  | none=>j6.no
 | none=>j6.no
theorem BL.replicate{w:World}{F D:Nat->Prop}{ι:Nat->Nat->Value}{vs:List V}{cs:List Value}(h:KL w F D ι vs cs []):∀n,KL w F D ι (e8E n vs).flatten (e8E n cs).flatten []
 | 0=>.nil
 | n+1=>by
  rw [e9Y,e9Y,e8Z,e8Z];exact h.app (BL.replicate h n)
theorem e07(h:t0 Γ F ι S a w){grp:Nat}(hg:grp<S.h.length)(hn:¬S.D grp){ob:Oper}{ty:Nat}{l c:Operand}(ho:ob.op=.makeSlice ty l c){ck om:List (Option Nat)}{out:A5}{lg:List (Nat×Nat)}(hp:b2S cx grp ty (s5 S.t l) (s5 S.t c) ck om S.ent=some (out,lg))(hob:∀p∈out.obl,p):R2 cx.P Γ ι S grp ob out a w:=by
 have hl:=C1 h.tmps l;have hc:=C1 h.tmps c;unfold b2S at hp;cases hti:cx.T ty with
 | none=>rw [hti] at hp;cases hp
 | some ti =>
 rw [hti] at hp;simp only at hp;cases hs:ti.sl with
 | none=>rw [hs] at hp;cases hp
 | some e =>
 rw [hs] at hp;simp only at hp;cases hei:cx.T e with
 | none=>rw [hei] at hp;cases hp
 | some ei =>
 rw [hei] at hp;simp only at hp;generalize s5 S.t l=lv at hp hl;generalize s5 S.t c=cv at hp hc;cases lv<;>try (cases hp;done)
 cases cv<;>try (cases hp;done)
 rename_i k n k' n';simp only at hp;obtain ⟨f,l1,l2,hf,hp',_⟩:=j6.bind_some hp;clear hp;split at hp'<;>try (cases hp';done)
 rename_i hcond;have:=j6.pure_some hp';injection this with h3 h4;subst h3;have p1:0<=n:=hob _ (by simp);have p2:n'=n:=hob _ (by simp);have p3:n*ei.bytes<=140737488355328/\0<ei.bytes:=hob _ (by simp);have p4:ei.zero.length=ei.size:=hob _ (by simp);have p5:∀p∈f.obl,p:=fun p hp=>hob p (List.mem_append.2 (.inr hp))
 subst p2;obtain ⟨m,rfl⟩:=Int.eq_ofNat_of_zero_le p1;obtain ⟨i,d,z,htf⟩:=cx.tf hti;obtain ⟨i',d',z',hef⟩:=cx.tf hei;obtain rfl:=htf.isSl hs;have hzs:z'.cells.size=ei.size:=by rw [<-p4,<-hef.zeros];simp
 have hb1:m*ei.bytes<=140737488355328:=by
  have:=p3.1;rw [<-Int.natCast_mul] at this;omega
 have hb2:m<=140737488355328:=Nat.le_trans (e9J _ p3.2) hb1;obtain ⟨w',hr,hown,hgr⟩:=run_make_full (P:=cx.P) w 0 ty e i' z' ei.size htf.und hef.info hef.zero hef.size k k' m (by rw [hef.bytes,Nat.mul_comm];omega) (by unfold maxLen;omega) (e9L _);have hrun:(execOp a.eval ob).run cx.P w=.ok (.value (.slice (some ⟨w.heap.size,0,none⟩) m m)) w':=by
  simp [execOp,ho,hl.inv_i,hc.inv_i,hr]
 have hz:u7 (RC w F S.D ι) ei.zero z'.cells.toList:=by
  rw [<-hef.zeros];exact (FL.ofCells (w:=w) (F:=F) _ hef.one).all2.imp fun _ _ x=>.fv _ _ x
 obtain ⟨fp,hbl,hfps,hh⟩:=b2D (F1:=F) h (fun _ x=>x) hz hf p5 (by rw [List.isEmpty_iff.1 hcond.2];intro id hid;cases hid);have hfp:fp=[]:=by
  rw [List.isEmpty_iff.1 hcond.1] at hfps;cases hfps;rfl
 subst hfp;have hs':G2 w w' F:=a0I fun g hg=>hgr.block g (h.F1 g hg) (by simp)
 have hbl':BL w' F f.v z'.cells.toList []:=hbl.mono hs' (fun _ x=>x) (fun k hk=>by cases hk);have hrowl:∀r∈e8E m f.v,r.length=ei.size:=fun r hr=>by
  rw [(e9f.1 hr).2,hbl.len];simpa using hzs
 have hkl:∀{D:Nat->Prop} {ι:Nat->Nat->Value},KL w' F D ι (e8E m f.v).flatten (e8E m z'.cells.toList).flatten []:=BL.replicate hbl'.kl m
 have hown':=hown;rw [<-hzs,b6c,hzs] at hown';have hor:RE w' F (S.lay grp [.deep false e ei.size m (e8E m f.v)]).D (J3 ι grp (.slice (some ⟨w.heap.size,0,none⟩) m m)) (.deep false e ei.size m (e8E m f.v)) (.slice (some ⟨w.heap.size,0,none⟩) m m) :=
  ⟨_,[],hown',hkl,by simp,hrowl,by simp [C3,A6],fun _=>G1.of_flat fun v hv=>by
   obtain ⟨q,hq,hv⟩:=e9m.1 hv;rw [(e9f.1 hq).2] at hv;exact hbl.noRef v hv⟩
 have hrel:=h.new1 hg hn hgr (ent:=.deep false e ei.size m (e8E m f.v)) (c0:=.slice (some ⟨w.heap.size,0,none⟩) m m) (by
  intro q hq;have:=(EB.deep_iff (D:=fun _=>True) (ι:=fun _ _=>.nilFunc) hown' hkl).1 hq;simp [C3,A6] at this;omega) hor
 refine ⟨_,_,_,F,J3 ι grp (.slice (some ⟨w.heap.size,0,none⟩) m m),hrun,.inl rfl,?_⟩;exact hrel.put ob.dst (.cell (RC.wholeO (Z3 hg) N1 hown'))
end
def a6e:List (List Int×V)->List Int->V->V
 | [],_,z=>z
 | p::es,k,z=>if k==p.1 then p.2 else a6e es k z
def a3b:List (List Int×V)->List Int->V->List (List Int×V)
 | [],k,v=>[(k,v)]
 | p::es,k,v=>if k==p.1 then (p.1,v)::es else p::a3b es k v
def Y9:List (List Int×V)->List Int->Nat->Option (Nat×Value)
 | [],_,_=>none
 | p::es,k,i=>if k==p.1 then some (i,p.2.conc) else Y9 es k (i+1)
theorem c34{P:Program}{w:World}{r:Nat}{es:Array MapEntry}{clock:Nat}(o:Obj)(hb:w.heap[r]?=some (.map es clock)):(setObj r o).run P w=.ok () {w with heap:=w.heap.setIfInBounds r o}:=by
 simp [setObj,Sem.run,hb]
theorem d1a{w:World}{r:Nat}{o o':Obj}(hb:w.heap[r]?=some o):(w.heap.setIfInBounds r o')[r]?=some o'/\∀r',r'≠r->(w.heap.setIfInBounds r o')[r']?=w.heap[r']?:=by
 have hlt:=(Array.getElem?_eq_some_iff.1 hb).1;exact ⟨by simp [hlt],fun r' q=>by rw [Array.getElem?_setIfInBounds_ne (Ne.symm q)]⟩
theorem d1b(z:V)(k:List Int):∀(es:List (List Int×V)) (i:Nat),(a6e es k z).conc=match Y9 es k i with
  | some (_,v)=>v
  | none=>z.conc
 | [],_=>rfl
 | p::es,i=>by
  unfold a6e Y9;split
  ·rfl
  ·exact d1b z k es (i+1)
theorem RV.simple{w:World}{F D:Nat->Prop}{ι:Nat->Nat->Value}{v:V}{c:Value}(h:RV w F D ι v c)(hv:v.simple=true):c=v.conc:=by
 cases h with
 | one v c h =>
  cases h with
  | cell v c h =>
   cases h with
   | fv v c h=>cases h<;>first|rfl|(cases hv;done)
   | _=>cases hv
  | agg cs ds h=>cases hv
 | tup cs ds h=>cases hv
 | any c=>cases hv
section
variable {P:Program} {kt m:Nat} {w:World}
theorem c0I(hE:∀(xs ys:List Int) (w:World),xs.length=m->ys.length=m->(Op.equal kt (kv xs) (kv ys)).run P w=.ok (xs==ys) w){k:List Int}(hk:k.length=m):∀(es:List (List Int×V)) (l:List MapEntry) (i:Nat),l.map (fun e=>(e.key,e.val))=es.map (fun p=>(kv p.1,p.2.conc))->(∀p∈es,p.1.length=m)->(Instr.findAsking kt (kv k) l i).run P w=.ok (Y9 es k i) w
 | [],[],i,_,_=>by simp [Instr.findAsking,Y9]
 | [],_::_,_,h,_=>by cases h
 | _::_,[],_,h,_=>by cases h
 | p::es,e::l,i,h,hl=>by
  simp only [e84,List.cons.injEq,Prod.mk.injEq] at h;obtain ⟨⟨h1,h2⟩,h3⟩:=h;unfold Instr.findAsking;rw [h1];simp only [Sem.run_bind,hE k p.1 w hk (hl p (by simp)),Result.andThen_ok];unfold Y9;by_cases q:(k==p.1)=true
  ·rw [if_pos q,if_pos q,h2];rfl
  ·rw [if_neg q,if_neg q];exact c0I hE hk es l (i+1) h3 fun p hp=>hl p (by simp [hp])
theorem e3s:∀(n:Nat) (xs:List Int),Instr.sameBits (n+2) (kv xs) (kv xs)=true:=by
 intro n xs;unfold kv Instr.sameBits;simp only [e94,beq_self_eq_true,e8V];induction xs with
 | nil=>rfl
 | cons x xs ih =>
  simp only [e84,List.zip_cons_cons,List.all_cons,e8G];exact ⟨by simp [Instr.sameBits],by simpa using ih⟩
theorem c3Z{k:List Int}{j:Nat}{v:Value}:∀{es:List (List Int×V)} {i:Nat},Y9 es k i=some (j,v)->i<=j
 | [],_,h=>by cases h
 | p::es,i,h=>by
  unfold Y9 at h;split at h
  ·injection h with h;injection h with h;omega
  ·have:=c3Z h;omega
theorem c3H{k:List Int}{x:V}{v:Value}:∀{es:List (List Int×V)} {l:List MapEntry} {i j:Nat},l.map (fun e=>(e.key,e.val))=es.map (fun p=>(kv p.1,p.2.conc))->Y9 es k i=some (j,v)->
  (∃e,l[j-i]?=some e/\e.key=kv k)/\((l.modify (j-i) fun e=>{e with key:=kv k,val:=x.conc}).map (fun e=>(e.key,e.val))=(a3b es k x).map (fun p=>(kv p.1,p.2.conc)))
 | [],_,_,_,_,h=>by cases h
 | _::_,[],_,_,h,_=>by cases h
 | p::es,e::l,i,j,h,hf=>by
  simp only [e84,List.cons.injEq,Prod.mk.injEq] at h;obtain ⟨⟨h1,h2⟩,h3⟩:=h;unfold Y9 at hf;unfold a3b;split at hf
  ·rename_i q;injection hf with hf;injection hf with hf1 hf2;subst hf1;have:k=p.1:=by simpa using q
   rw [Nat.sub_self,if_pos q];exact ⟨⟨e,rfl,by rw [h1,this]⟩,by simp [List.modify_cons,h3,this]⟩
  ·rename_i q;rw [if_neg q];have hge:=c3Z hf;obtain ⟨⟨e',h4,h5⟩,h6⟩:=c3H (x:=x) h3 hf;obtain ⟨d,hd⟩:∃d,j-i=d+1:=⟨j-i-1,by omega⟩
   have hd':j-(i+1)=d:=by omega
   rw [hd'] at h4 h6;rw [hd];refine ⟨⟨e',by simpa using h4,h5⟩,?_⟩;rw [List.modify_succ_cons];simp only [e84,h1,h2,h6]
theorem c3l{k:List Int}{x:V}:∀{es:List (List Int×V)} {i:Nat},Y9 es k i=none->a3b es k x=es++[(k,x)]
 | [],_,_=>rfl
 | p::es,i,h=>by
  unfold Y9 at h;unfold a3b;split at h
  ·cases h
  ·rename_i q;rw [if_neg q,c3l h];rfl
theorem c3V{k:List Int}{x:V}{p:List Int×V->Prop}:∀{es:List (List Int×V)},(∀q∈es,p q)->(∀q∈es,p (q.1,x))->p (k,x)->∀q∈a3b es k x,p q
 | [],_,_,h3,q,hq=>by
  simp only [a3b,e8J] at hq;subst hq;exact h3
 | e::es,h1,h2,h3,q,hq=>by
  unfold a3b at hq;split at hq
  ·rcases e8K.1 hq with rfl|hq
   ·exact h2 e (by simp)
   ·exact h1 q (by simp [hq])
  ·rcases e8K.1 hq with rfl|hq
   ·exact h1 _ (by simp)
   ·exact c3V (fun q hq=>h1 q (by simp [hq])) (fun q hq=>h2 q (by simp [hq])) h3 q hq
end
section
variable {cx:Cx} {Γ:M1} {F:Nat->Prop} {ι:Nat->Nat->Value} {S S':St} {a:Act} {w:World}
theorem RV.inv_mp{D:Nat->Prop}{g j:Nat}{c:Value}(h:RV w F D ι (.mp g j) c):D g/\∃b,ι g j=.map (some b)/\c=.map (some b):=by
 cases h with
 | one v c h=>cases h with
  | cell v c h=>cases h with
   | fv v c h=>cases h
   | mp g j b h1 h2=>exact ⟨h1,b,h2,rfl⟩
def c0q(cx:Cx)(grp ty:Nat):Option A5 :=
 match cx.M ty with
 | some (_,m,_)=>some {v:=.mp grp 0,new:=some [.map ty m []]}
 | none=>none
theorem d30(h:t0 Γ F ι S a w){grp:Nat}(hg:grp<S.h.length)(hn:¬S.D grp){ob:Oper}{ty:Nat}(ho:ob.op=.makeMap ty none){out:A5}(hp:c0q cx grp ty=some out):R2 cx.P Γ ι S grp ob out a w:=by
 unfold c0q at hp;split at hp<;>try (cases hp;done)
 injection hp with hp;subst hp;rename_i kt m z hM;have hrun:(execOp a.eval ob).run cx.P w=.ok (.value (.map (some w.heap.size))) (w.alloc (.map #[] 0)):=by
  simp only [execOp,ho,Option.map_none];rfl
 have hrel:=h.new1 hg hn (a4m w (.map #[] 0)) (ent:=.map ty m []) (c0:=.map (some w.heap.size))
  (by intro k hk;simp [EB,A6] at hk;omega) ⟨w.heap.size,#[],0,rfl,a6f w _,rfl,fun p hp=>by cases hp⟩
 refine ⟨_,_,_,F,J3 ι grp (.map (some w.heap.size)),hrun,.inl rfl,?_⟩;exact hrel.put ob.dst (.cell (.mp grp 0 w.heap.size (Z3 hg) N1))
def b1n(cx:Cx)(ty:Nat)(x ix:V):j6 A5 :=
 match cx.M ty with
 | none=>j6.no
 | some (kt,m,z)=>match x,ix with
  | .mp g j,.agg ks=>match a1t ks with
   | some xs=>j6.bind (j6.rd g j) fun e=>match e with
    | .map t' m' es=>if m'=m/\xs.length=m then j6.pure {v:=a6e es xs z} else j6.no
    | _=>j6.no
   | none=>j6.no
  | _,_=>j6.no
theorem c5p{xs:List Int}{z:V}(hz:z.simple=true):∀{es:List (List Int×V)},(∀p∈es,p.2.simple=true)->(a6e es xs z).simple=true
 | [],_=>hz
 | p::es,h=>by
  unfold a6e;split
  ·exact h p (by simp)
  ·exact c5p hz fun p hp=>h p (by simp [hp])
theorem e8s(h:t0 Γ F ι S a w){grp:Nat}{ob:Oper}{ty:Nat}{x ix:Operand}(ho:ob.op=.lookup ty x ix false){out:A5}{lg:List (Nat×Nat)}(hp:b1n cx ty (s5 S.t x) (s5 S.t ix) S.ent=some (out,lg)):R2 cx.P Γ ι S grp ob out a w:=by
 have hx:=C1 h.tmps x;have hi:=C1 h.tmps ix;unfold b1n at hp;cases hM:cx.M ty with
 | none=>rw [hM] at hp;cases hp
 | some q =>
 obtain ⟨kt,m,z⟩:=q;rw [hM] at hp;simp only at hp;generalize s5 S.t x=xv at hp hx;generalize s5 S.t ix=iv at hp hi;cases xv<;>try (cases hp;done)
 cases iv<;>try (cases hp;done)
 rename_i g j ks;simp only at hp;cases hks:a1t ks with
 | none=>rw [hks] at hp;cases hp
 | some xs =>
 rw [hks] at hp;obtain ⟨e,l1,l2,hrd,hp',hl12⟩:=j6.bind_some hp;clear hp;have he:=(j6.rd_some hrd).1;simp only at he hp';cases e<;>try (cases hp';done)
 rename_i t' m' es;simp only at hp';split at hp'<;>try (cases hp';done)
 rename_i hcond;obtain ⟨rfl,hlen⟩:=hcond;have:=j6.pure_some hp';injection this with h2 h3;subst h2;obtain ⟨hD,b,hι,hc⟩:=hx.inv_mp;obtain ⟨ds,hds,hall⟩:=hi.inv_agg;have hints:=b4f hall hks;subst hints;obtain ⟨b',arr,clock,hb,hheap,hes,hok⟩:=h.ents g j _ he;rw [hι] at hb;injection hb with hb;injection hb with hb;subst hb;obtain ⟨vt,hu,hE,hwide,hz,hzs,hck⟩:=cx.hM ty kt m' z hM;have hck':∀em,(Instr.checkKey em 10000 kt (kv xs)).run cx.P w=.ok () w:=fun em=>hck em xs w hlen
 have hfind:(Instr.findKey kt (kv xs) arr.toList).run cx.P w=.ok (Y9 es xs 0) w:=by
  rw [run_findKey_eq w (by unfold c1P at hwide;exact hwide)];exact c0I (fun xs ys w h1 h2=>cx.hE kt m' hE xs ys w h1 h2) hlen es arr.toList 0 hes fun p hp=>(hok p hp).1
 have hrun:(execOp a.eval ob).run cx.P w=.ok (.value (a6e es xs z).conc) w:=by
  rw [d1b z xs es 0];simp only [execOp,ho,hc,hds,Instr.lookup,Sem.run_bind,run_underlying hu,Result.andThen_ok,run_getObj_map w b arr clock hheap];rw [show (Value.agg (xs.map (Value.int .i64)).toArray)=kv xs from rfl];simp only [Sem.run_pure,Sem.run_bind,hck',Result.andThen_ok,hfind];cases Y9 es xs 0 with
  | none=>simp [hz,Sem.run_bind]
  | some q=>simp
 have hs:=c5p (xs:=xs) hzs fun p hp=>(hok p hp).2
 refine ⟨_,_,w,F,ι,hrun,.inl rfl,?_⟩;rw [a5Z];exact h.put ob.dst (.fv (FV.conc hs))
def b2l(cx:Cx)(ty:Nat)(x ix y:V):j6 A5 :=
 match cx.M ty with
 | none=>j6.no
 | some (kt,m,z)=>match x,ix with
  | .mp g j,.agg ks=>match a1t ks with
   | some xs=>j6.bind (j6.rd g j) fun e=>match e with
    | .map t' m' es=>if m'=m/\xs.length=m/\y.simple=true then j6.pure {v:=.bot,upd:=[((g,j),.map t' m (a3b es xs y))]} else j6.no
    | _=>j6.no
   | none=>j6.no
  | _,_=>j6.no
theorem d8g(h:t0 Γ F ι S a w){grp:Nat}{ob:Oper}{ty:Nat}{x ix y:Operand}(ho:ob.op=.mapUpdate ty x ix y)(hd:ob.dst=none){out:A5}{lg:List (Nat×Nat)}(hp:b2l cx ty (s5 S.t x) (s5 S.t ix) (s5 S.t y) S.ent=some (out,lg)):R2 cx.P Γ ι S grp ob out a w:=by
 have hx:=C1 h.tmps x;have hi:=C1 h.tmps ix;have hy:=C1 h.tmps y;unfold b2l at hp;cases hM:cx.M ty with
 | none=>rw [hM] at hp;cases hp
 | some q =>
 obtain ⟨kt,m,z⟩:=q;rw [hM] at hp;simp only at hp;generalize s5 S.t x=xv at hp hx;generalize s5 S.t ix=iv at hp hi;generalize s5 S.t y=yv at hp hy;cases xv<;>try (cases hp;done)
 cases iv<;>try (cases hp;done)
 rename_i g j ks;simp only at hp;cases hks:a1t ks with
 | none=>rw [hks] at hp;cases hp
 | some xs =>
 rw [hks] at hp;obtain ⟨e,l1,l2,hrd,hp',hl12⟩:=j6.bind_some hp;clear hp;have he:=(j6.rd_some hrd).1;simp only at he hp';cases e<;>try (cases hp';done)
 rename_i t' m' es;simp only at hp';split at hp'<;>try (cases hp';done)
 rename_i hcond;obtain ⟨rfl,hlen,hys⟩:=hcond;have:=j6.pure_some hp';injection this with h2 h3;subst h2;obtain ⟨hD,b,hι,hc⟩:=hx.inv_mp;obtain ⟨ds,hds,hall⟩:=hi.inv_agg;have hints:=b4f hall hks;subst hints;have hyc:=hy.simple hys;obtain ⟨b',arr,clock,hb,hheap,hes,hok⟩:=h.ents g j _ he;rw [hι] at hb;injection hb with hb;injection hb with hb;subst hb;obtain ⟨vt,hu,hE,hwide,hz,hzs,hck⟩:=cx.hM ty kt m' z hM;have hck':∀em,(Instr.checkKey em 10000 kt (kv xs)).run cx.P w=.ok () w:=fun em=>hck em xs w hlen
 have hfind:(Instr.findKey kt (kv xs) arr.toList).run cx.P w=.ok (Y9 es xs 0) w:=by
  rw [run_findKey_eq w (by unfold c1P at hwide;exact hwide)];exact c0I (fun xs ys w h1 h2=>cx.hE kt m' hE xs ys w h1 h2) hlen es arr.toList 0 hes fun p hp=>(hok p hp).1
 have hlt:b<w.heap.size:=(Array.getElem?_eq_some_iff.1 hheap).1;obtain ⟨arr',clock',hrun,hes'⟩:∃arr' clock',(execOp a.eval ob).run cx.P w=.ok .skip {w with heap:=w.heap.setIfInBounds b (.map arr' clock')}/\arr'.toList.map (fun e=>(e.key,e.val))=(a3b es xs yv).map (fun p=>(kv p.1,p.2.conc)):=by
  have e0:(Value.agg (xs.map (Value.int .i64)).toArray)=kv xs:=rfl;cases hf:Y9 es xs 0 with
  | none =>
   refine ⟨arr.push {key:=kv xs,val:=yv.conc,born:=clock},clock+1,?_,?_⟩
   ·simp only [execOp,ho,hc,hds,hyc,Instr.mapUpdate,Sem.run_bind,run_underlying hu,Result.andThen_ok,run_getObj_map w b arr clock hheap];rw [e0];simp only [Sem.run_pure,Sem.run_bind,hck',Result.andThen_ok,hfind,hf,c34 _ hheap]
   ·rw [c3l hf];simp [hes]
  | some q =>
   obtain ⟨i,v⟩:=q;obtain ⟨⟨e,he1,he2⟩,he3⟩:=c3H (x:=yv) hes hf;rw [Nat.sub_zero] at he1 he3;have hkey:((arr[i]?).map (·.key)).getD (kv xs)=kv xs:=by
    have:arr[i]?=some e:=by simpa using he1
    rw [this];exact he2
   refine ⟨arr.modify i fun e=>{e with key:=kv xs,val:=yv.conc},clock,?_,?_⟩
   ·simp only [execOp,ho,hc,hds,hyc,Instr.mapUpdate,Sem.run_bind,run_underlying hu,Result.andThen_ok,run_getObj_map w b arr clock hheap];rw [e0];simp only [Sem.run_pure,Sem.run_bind,hck',Result.andThen_ok,hfind,hf,hkey,Instr.keyThatStays,e3s 9998,if_true,c34 _ hheap]
   ·rw [Array.toList_modify];exact he3
 refine ⟨_,undef,_,F,ι,hrun,.inr ⟨rfl,rfl⟩,?_⟩;rw [hd,a9W,b2k];have hsz:(w.heap.setIfInBounds b (.map arr' clock')).size=w.heap.size:=by simp
 refine h.write he rfl ⟨rfl,rfl,rfl⟩ hsz (fun k hk => ?_) (fun _ => ?_) (fun k hk=>hk)
 ·refine (d1a hheap).2 k fun q=>hk ?_
  rw [q,hι];rfl
 ·exact ⟨b,arr',clock',hι,(d1a hheap).1,hes',c3V hok (fun q hq=>⟨(hok q hq).1,hys⟩) ⟨hlen,hys⟩⟩
end
section
variable {cx:Cx} {Γ:M1} {F:Nat->Prop} {ι:Nat->Nat->Value} {S S':St} {a:Act} {w:World}
theorem t0.killsR:∀{ks:List (Nat×Nat)} {S:St},t0 Γ F ι S a w->(∀id∈ks,∃e,S.ent id.1 id.2=some e)->t0 Γ F ι (S.upds (D9 ks)) a w
 | [],S,h,_=>h
 | id::ks,S,h,hk=>by
  obtain ⟨e,he⟩:=hk id (by simp);refine t0.killsR (S:=S.setE id.1 id.2 .dead) (h.kill he) fun id' hid => ?_
  obtain ⟨e',he'⟩:=hk id' (by simp [hid]);rw [N6 he];split
  ·exact ⟨_,rfl⟩
  ·exact ⟨e',he'⟩
theorem G1.flatB{rows:List (List V)}(h:G1 rows):rows.flatten.all (fun v => !v.isRef)=true:=by
 rw [List.all_eq_true];intro v hv;obtain ⟨r,hr,hv⟩:=e9m.1 hv;rw [h r hr v hv];rfl
theorem t0.layDeep(h:t0 Γ F ι S a w){grp:Nat}(hgl:grp<S.h.length)(hn:¬S.D grp){X:Option Nat}{w':World}(hgr:w.grownBy w' X)(hX:∀k,X=some k->¬F k/\(Γ.own k\/Γ.w0.heap.size<=k)/\∀g j e,S.ent g j=some e->e.live=true->¬EB w e (ι g j) k){e sz n:Nat}{rows:List (List V)}{sv:Value}{flat:List Value}{fs:List Nat}(hown:w'.ownsRow 0 e sz sv n flat)(hbl:BL w F rows.flatten flat fs)(hlen:rows.length=n)(hl:∀r∈rows,r.length=sz)(hsv:∀k,A6 sv=some k->X=some k\/w.heap.size<=k)(hfs:∀k∈fs,¬F k/\(Γ.own k\/Γ.w0.heap.size<=k)/\(∀g j e,S.ent g j=some e->e.live=true->¬EB w e (ι g j) k)/\X≠some k)(hnd:fs.Nodup) :
  t0 Γ F (J3 ι grp sv) (S.lay grp [.deep false e sz n rows]) a w'/\RC w' F (S.lay grp [.deep false e sz n rows]).D (J3 ι grp sv) (.own grp 0 sz 0 n) sv:=by
 have hs:G2 w w' F:=a0I fun g hF=>hgr.block g (h.F1 g hF) fun q=>(hX g q.symm).1 hF
 have hlt:=hbl.lt;have hbl':BL w' F rows.flatten flat fs:=hbl.mono hs (fun _ x=>x) fun k hk=>hgr.block k (hlt k hk) fun q=>(hfs k hk).2.2.2 q.symm
 have hkl:∀{D:Nat->Prop} {ι:Nat->Nat->Value},KL w' F D ι rows.flatten flat fs:=hbl'.kl
 have hEB:∀k,EB w' (.deep false e sz n rows) sv k->(X=some k\/w.heap.size<=k)\/k∈fs:=by
  intro k hk;rcases List.mem_append.1 ((EB.deep_iff (D:=fun _=>True) (ι:=fun _ _=>.nilFunc) hown hkl).1 hk) with q|q
  ·exact .inl (hsv k (O5.1 q))
  ·exact .inr q
 have h':=h.world2 hgr hX;have hback:∀{g' j' e' k},S.ent g' j'=some e'->e'.live=true->EB w' e' (ι g' j') k->EB w e' (ι g' j') k:=fun he' hl' hk' =>
  (h.ents _ _ _ he').back (fun k q=>hgr.block k (h.lt he' hl' q) fun z=>(hX k z.symm).2.2 _ _ _ he' hl' q) hk'
 refine ⟨h'.lay hgl hn (fun g j q=>a8D q) ?_ ?_ ?_ ?_,RC.wholeO (Z3 hgl) N1 hown⟩
 ·intro j e1 he;cases j with
  | succ j=>simp at he
  | zero =>
   simp at he;subst he;rw [N1];refine ⟨flat,fs,hown,hkl,hlen,hl,e8L.2 ⟨c0z sv,hnd,?_⟩,fun _=>G1.of_flat hbl.noRef⟩;intro k hk k' hk' hkk;subst hkk;rcases hsv k (O5.1 hk) with q|q
   ·exact (hfs k hk').2.2.2 q
   ·have:=hlt k hk';omega
 ·intro j e1 k he hl1 hk;rw [N1] at hk;cases j with
  | succ j=>simp at he
  | zero =>
   simp at he;subst he;rcases hEB k hk with (q|q)|q
   ·exact ⟨(hX k q).1,(hX k q).2.1⟩
   ·refine ⟨fun hF => ?_,.inr (Nat.le_trans h.kept.size q)⟩;have:=h.F1 k hF;omega
   ·exact ⟨(hfs k q).1,(hfs k q).2.1⟩
 ·intro j e1 j' e1' k he he' _ _ _ _;cases j<;>cases j'<;>simp_all
 ·intro j e1 g' j' e' k he he' _ hl' hk hk';rw [N1] at hk;cases j with
  | succ j=>simp at he
  | zero =>
   simp at he;subst he;have hk2:=hback he' hl' hk';rcases hEB k hk with (q|q)|q
   ·exact (hX k q).2.2 g' j' e' he' hl' hk2
   ·have:=h.lt he' hl' hk2;omega
   ·exact (hfs k q).2.2.1 g' j' e' he' hl' hk2
def a8F:V->V
 | .osl .. | .dsl .. => .bot
 | v=>v
theorem KL.holes:∀{vs:List V} {cs:List Value} {f:List Nat} {D:Nat->Prop} {ι:Nat->Nat->Value},KL w F D ι vs cs f->vs.all (fun v => !v.isRef)=true->KL w F D ι (vs.map a8F) cs []
 | _,_,_,_,_,.nil,_=>.nil
 | _,_,_,D,ι,.cons v c f vs cs fs h t,hv=>by
  simp only [List.all_cons,e8G] at hv;have h1:KC w F D ι (a8F v) c []:=by
   have hone:=h.one;cases h with
   | rc h =>
    have:a8F v=v:=by
     cases h with
     | fv v c h=>cases h<;>rfl
     | _=>rfl
    rw [this];exact .rc _ _ h
   | bc _ h=>cases h with
    | fv _ _ h =>
     have:a8F v=v:=by cases h<;>rfl
     rw [this];exact .rc _ _ (.fv _ _ h)
    | _=>exact .rc _ _ (.fv _ _ (.bot _ hone))
  exact .cons _ _ [] _ _ [] h1 (KL.holes t hv.2)
def b14(cx:Cx)(grp ty:Nat)(x:V)(r:List V):j6 A5 :=
 match cx.T ty with
 | none=>j6.no
 | some ti=>match x with
  | .eptr g j sz idx off=>j6.bind (j6.rd g j) fun e=>match e with
   | .deep _ t sz' n rows =>
    let m:=if ti.agg then ti.size else 1
    let y:=J0 grp 0 ((r.drop off).take m);if sz'=sz/\off+m<=sz/\((r.drop off).take m).all (fun v => !v.isRef) then
     match Q3 ti y.1 with
     | some v=>j6.pure {v:=v,new:=some y.2,upd:=[((g,j),.deep true t sz n (rows.set idx (z6 r off (((r.drop off).take m).map a8F))))],obl:=[rows[idx]?=some r]}
     | none=>j6.no
    else j6.no
   | _=>j6.no
  | _=>j6.no
set_option maxHeartbeats 800000 in
theorem d5O(h:t0 Γ F ι S a w){grp:Nat}(hg:grp<S.h.length)(hn:¬S.D grp){ob:Oper}{ty:Nat}{x:Operand}{r:List V}(ho:ob.op=.load ty x){out:A5}{lg:List (Nat×Nat)}(hp:b14 cx grp ty (s5 S.t x) r S.ent=some (out,lg))(hob:∀p∈out.obl,p):R2 cx.P Γ ι S grp ob out a w:=by
 have hx:=C1 h.tmps x;unfold b14 at hp;cases hti:cx.T ty with
 | none=>rw [hti] at hp;cases hp
 | some ti =>
 rw [hti] at hp;obtain ⟨i,d,z,htf⟩:=cx.tf hti;generalize s5 S.t x=xv at hp hx;cases xv<;>try (cases hp;done)
 case eptr g j sz idx off =>
  obtain ⟨hD,b,hι,hc⟩:=hx.inv_eptr;obtain ⟨e,l1,l2,hrd,hp',hl12⟩:=j6.bind_some hp;clear hp;have he:=(j6.rd_some hrd).1;simp only at he;cases e<;>try (cases hp';done)
  rename_i o t sz' n rows;simp only at hp';obtain ⟨m,hm⟩:∃m,(if ti.agg=true then ti.size else 1)=m:=⟨_,rfl⟩
  rw [hm] at hp';split at hp'<;>try (cases hp';done)
  rename_i hcond;obtain ⟨rfl,hc1,hc2⟩:=hcond;obtain ⟨y,hy⟩:∃y,J0 grp 0 ((r.drop off).take m)=y:=⟨_,rfl⟩
  rw [hy] at hp';cases hrv:Q3 ti y.1 with
  | none=>rw [hrv] at hp';cases hp'
  | some v =>
  rw [hrv] at hp';have:=j6.pure_some hp';injection this with h2 h3;subst h2;have hr:rows[idx]?=some r:=hob _ (by simp);obtain ⟨flat,fs,hor,hkl,hrn,hl,hnd,hnr⟩:=h.ents g j _ he;obtain ⟨hseg,hmid,hle⟩:=b8l hor hrn hl hι hr hc1;have hrl:=hl r (e8P hr);have hml:((r.drop off).take m).length=m:=by simp;omega
  have hgg:g≠grp:=fun q=>hn (q▸hD)
  obtain ⟨k,hk⟩:∃k,idx*sz'+off=k:=⟨_,rfl⟩
  rw [hk] at hseg hmid hle;obtain ⟨fa,fm,fb,rfl,ka,km,kb⟩:=hkl.cut (k:=k) (m:=m) hle;rw [hmid] at km;have hbl:=km.toBL hc2;have hds:(flat.drop k).take m=((flat.drop k).take m):=rfl;have hflen:flat.length=rows.flatten.length:=hkl.len.symm;have hspl:∀us:List V,us.length=m->(rows.set idx (z6 r off us)).flatten=rows.flatten.take k++(us++rows.flatten.drop (k+m)):=by
   intro us hus;rw [a7d hl hr (by omega),hk];unfold z6;rw [hus,e8R]
  have hfs:flat=flat.take k++((flat.drop k).take m++flat.drop (k+m)):=by
   rw [<-e9V,e9n,e9n]
  have hrl':∀us:List V,us.length=m->∀q∈rows.set idx (z6 r off us),q.length=sz':=by
   intro us hus q hq;rcases List.mem_or_eq_of_mem_set hq with hq|rfl
   ·exact hl q hq
   ·rw [a1Y _ _ _ (by omega)];exact hrl
  have hnd2:(C3 (ι g j)++(fa++fb)).Nodup:=List.Nodup.sublist (e98.append_left (e98.append_left (e9P _ _) _) _) hnd;have hndm:fm.Nodup:=(e8L.1 (e8L.1 (e8L.1 hnd).2.1).2.1).1;have hdm:∀k∈fm,k ∉ C3 (ι g j)++(fa++fb):=by
   intro q hq hq';have hp:=(a7M (C:=C3 (ι g j)) (a7M (C:=fa) (e9U.refl (fm++fb)))).nodup_iff.1 hnd;exact (e8L.1 hp).2.2 q hq q hq' rfl
  obtain ⟨us0,hus0⟩:∃us:List V,us=((r.drop off).take m).map a8F:=⟨_,rfl⟩
  have hus0l:us0.length=m:=by rw [hus0,e9r,hml]
  have kl0:∀{D':Nat->Prop} {ι':Nat->Nat->Value},(∀k,S.D k->D' k)->(∀g j,S.D g->ι' g j=ι g j)->∀{us:List V},us.length=m->KL w F D' ι' us ((flat.drop k).take m) []->KL w F D' ι' (rows.set idx (z6 r off us)).flatten flat (fa++([]++fb)):=by
   intro D' ι' h1 h2 us hus hku;rw [hspl us hus,hfs];have l1:(flat.take k).length=k:=by simp;omega
   have e1:(flat.take k++((flat.drop k).take m++flat.drop (k+m)))=flat:=hfs.symm;exact (ka.mono (fun _ _ _=>rfl) (fun _ x=>x) h1 h2 (fun _ _=>rfl)).app (hku.app (kb.mono (fun _ _ _=>rfl) (fun _ x=>x) h1 h2 (fun _ _=>rfl)))
  have hmem0:∀q,q∈C3 (ι g j)++(fa++([]++fb))->q∈C3 (ι g j)++(fa++(fm++fb)):=by
   intro q hq;simp only [List.mem_append,List.not_mem_nil,false_or] at hq ⊢;rcases hq with x|x|x<;>simp [x]
  have rel1:t0 Γ F ι (S.setE g j (.deep true t sz' n (rows.set idx (z6 r off us0)))) a w:=by
   have k1:=kl0 (D':=S.D) (ι':=ι) (fun _ x=>x) (fun _ _ _=>rfl) hus0l (hus0▸km.holes hc2);refine h.write he rfl ⟨rfl,rfl,rfl⟩ rfl (fun _ _=>rfl) (fun _ => ?_) ?_
   ·exact ⟨flat,_,hor,k1.mono (fun _ _ _=>rfl) (fun _ x=>x) (fun k x=>O1.2 x) (fun _ _ _=>rfl) (fun _ _=>rfl),by simpa using hrn,hrl' _ hus0l,by simpa using hnd2,fun q=>by cases q⟩
   ·intro q hq;exact (EB.deep_iff hor hkl).2 (hmem0 q ((EB.deep_iff hor k1).1 hq))
  have he1:(S.setE g j (.deep true t sz' n (rows.set idx (z6 r off us0)))).ent g j=some (.deep true t sz' n (rows.set idx (z6 r off us0))):=by rw [N6 he];simp
  obtain ⟨bs,hbsl,hhas,hth⟩:=a6E (grp:=grp) hbl 0;rw [hy] at hbsl hhas hth;obtain ⟨ι',hι'⟩:∃ι',ι'=a4p ι grp bs:=⟨_,rfl⟩
  have hne:∀g j,g≠grp->ι' g j=ι g j:=fun g j q=>by rw [hι'];exact b9I q
  have hlenS:grp<(S.setE g j (.deep true t sz' n (rows.set idx (z6 r off us0)))).h.length:=by rw [a9u];exact hg
  have hnD:¬(S.setE g j (.deep true t sz' n (rows.set idx (z6 r off us0)))).D grp:=fun q=>hn (O1.1 q)
  have hDg:=Z3 (S:=S.setE g j (.deep true t sz' n (rows.set idx (z6 r off us0)))) (new:=y.2) hlenS;obtain ⟨hrc,hlie⟩:=hth ((S.setE g j (.deep true t sz' n (rows.set idx (z6 r off us0)))).lay grp y.2).D ι' hDg (fun q c hq=>by rw [hι',e9k];exact a4s hq) hndm;have hvb:∀(q:Nat) (e:r9),y.2[q]?=some e->bs[q]?=some (ι' grp q):=by
   intro q e hq;have hlt:q<bs.length:=by rw [hbsl];exact (e8I.1 hq).1
   have hv:ι' grp q=bs[q]:=by rw [hι'];exact a4s (e8D hlt)
   rw [hv];exact e8D hlt
  have hmB:∀k∈fm,EB w (.deep o t sz' n rows) (ι g j) k:=fun k hk=>(EB.deep_iff hor hkl).2 (by simp [hk])
  have k1:=kl0 (D':=S.D) (ι':=ι) (fun _ x=>x) (fun _ _ _=>rfl) hus0l (hus0▸km.holes hc2);have rel2:=rel1.lay hlenS hnD (new:=y.2) (ι':=ι') hne (fun q e he=>hlie q e _ he (hvb q e he))
   (fun q e k he hl hk=>h.sep _ _ _ k ‹S.ent g j=some (.deep o t sz' n rows)› rfl (hmB k (hhas.mem he (hvb q e he) hk)))
   (fun q e q' e' k he he' hl hl' hk hk'=>hhas.inj hndm he (hvb q e he) hk he' (hvb q' e' he') hk')
   (fun q e g' j' e' k he0 he' hl hl' hk hk'=>by
    have hkm:=hhas.mem he0 (hvb q e he0) hk;rw [N6 he] at he';split at he'
    ·rename_i qq;obtain ⟨rfl,rfl⟩:=qq;injection he' with he';subst he';exact hdm k hkm (by simpa using (EB.deep_iff hor k1).1 hk')
    ·rename_i qq;exact qq (h.inj _ _ _ _ _ _ k he' he hl' rfl hk' (hmB k hkm)))
  have he2:((S.setE g j (.deep true t sz' n (rows.set idx (z6 r off us0)))).lay grp y.2).ent g j=some (.deep true t sz' n (rows.set idx (z6 r off us0))):=by rw [a6D hgg];exact he1
  obtain ⟨c,hrd',hvc⟩:=a50 hrc hrv;refine ⟨_,c,w,F,ι',a5x ho htf (by rw [hc,hk]) hseg hrd',.inl rfl,?_⟩;have hput:=rel2.put ob.dst hvc;rw [hus0] at hput;exact hput
theorem t0.shut(h:t0 Γ F ι S a w){g j t sz n:Nat}{o:Bool}{rows:List (List V)}(he:S.ent g j=some (.deep o t sz n rows))(hn:G1 rows):t0 Γ F ι (S.setE g j (.deep false t sz n rows)) a w:=by
 refine h.write he rfl ⟨rfl,rfl,rfl⟩ rfl (fun _ _=>rfl) (fun _ => ?_) (fun k hk=>hk);obtain ⟨flat,fs,q1,q2,q3,q4,q5,q6⟩:=h.ents g j _ he;exact ⟨flat,fs,q1,q2.mono (fun _ _ _=>rfl) (fun _ x=>x) (fun k x=>O1.2 x) (fun _ _ _=>rfl) (fun _ _=>rfl),q3,q4,q5,fun _=>hn⟩
theorem c2h{g j:Nat}:∀{us:List M2} {S:St} {e:r9},S.ent g j=some e->∃e',(S.upds us).ent g j=some e'
 | [],_,e,h=>⟨e,h⟩
 | ((g',j'),e')::us,S,e,h=>by
  cases hx:S.ent g' j' with
  | none =>
   have:(S.setE g' j' e').ent g j=some e:=by
    by_cases q:g=g'/\j=j'
    ·rw [q.1,q.2,hx] at h;cases h
    ·rw [a5e q];exact h
   exact c2h (us:=us) (S:=S.setE g' j' e') this
  | some e0 =>
   have:∃e1,(S.setE g' j' e').ent g j=some e1:=by
    rw [N6 hx];split
    ·exact ⟨_,rfl⟩
    ·exact ⟨e,h⟩
   obtain ⟨e1,h1⟩:=this;exact c2h (us:=us) (S:=S.setE g' j' e') h1
def b2U(cx:Cx)(ty:Nat)(x y:V)(r:List V)(ck om:List (Option Nat)):j6 A5 :=
 j6.bind (a8L cx ty x y r ck om) fun o=>match o.new,o.upd.reverse with
  | none,((g,j),.deep b t sz n rows)::us=>j6.bind (j6.rd g j) fun _=>j6.pure {v:=o.v,upd:=o.upd++[((g,j),.deep false t sz n rows)],obl:=G1 rows::o.obl}
  | _,_=>j6.no
theorem e55{S:St}{g j:Nat}{e:r9}{t:List V}:({S with t:=t}:St).setE g j e={S.setE g j e with t:=t}:=by
 unfold St.setE;cases S.h[g]? with
 | none=>rfl
 | some o=>cases o<;>rfl
theorem e6E(h:t0 Γ F ι S a w){grp:Nat}{ob:Oper}{ty:Nat}{x y:Operand}{r:List V}{ck om:List (Option Nat)}(ho:ob.op=.store ty x y)(hd:ob.dst=none){out:A5}{lg:List (Nat×Nat)}(hp:b2U cx ty (s5 S.t x) (s5 S.t y) r ck om S.ent=some (out,lg))(hob:∀p∈out.obl,p):R2 cx.P Γ ι S grp ob out a w:=by
 unfold b2U at hp;obtain ⟨o,l1,l2,hd1,hp',_⟩:=j6.bind_some hp;clear hp;simp only at hp';cases hnew:o.new with
 | some _=>rw [hnew] at hp';cases hp'
 | none =>
 rw [hnew] at hp';cases hrev:o.upd.reverse with
 | nil=>rw [hrev] at hp';cases hp'
 | cons u us =>
 rw [hrev] at hp';obtain ⟨⟨g,j⟩,e⟩:=u;cases e<;>try (cases hp';done)
 rename_i b t sz n rows;simp only at hp';obtain ⟨e0,l3,l4,hrd,hp'',_⟩:=j6.bind_some hp';have he0:=(j6.rd_some hrd).1;simp only at he0;have:=j6.pure_some hp'';injection this with h2 h3;subst h2;have hnr:G1 rows:=hob _ (by simp);obtain ⟨nx,c,w',F',ι',hrun,hnx,hrel⟩:=d2b h (grp:=grp) ho hd hd1 (fun p hp=>hob p (by simp [hp]));refine ⟨nx,c,w',F',ι',hrun,hnx,?_⟩;have hu:o.upd=us.reverse++[((g,j),.deep b t sz n rows)]:=by
  have:=congrArg List.reverse hrev;simpa using this
 have happ:S.apply grp ob.dst o={S.upds o.upd with t:=P5 S.t ob.dst o.v}:=by
  unfold St.apply;rw [hnew];simp only [St.upds_t]
 rw [happ] at hrel;have hent:({S.upds o.upd with t:=P5 S.t ob.dst o.v}:St).ent g j=some (.deep b t sz n rows):=by
  show (S.upds o.upd).ent g j=_
  rw [hu,St.upds_append];obtain ⟨e1,he1⟩:=c2h (us:=us.reverse) he0;show ((S.upds us.reverse).setE g j _).ent g j=_
  rw [N6 he1];simp
 have hs:=hrel.shut hent hnr;rw [e55] at hs;unfold St.apply;simp only [St.upds_append,St.upds_t];exact hs
def b0L(cx:Cx)(grp ty len:Nat)(parts:List (Nat×V))(ck om:List (Option Nat)):j6 A5 :=
 match cx.T ty with
 | some ti=>match ti.sl with
  | some e=>match cx.T e with
   | some ei=>match parts with
    | [(0,x)]=>match x.cells with
     | some cs=>j6.bind (a1h ck om cs) fun f =>
      if len=1/\cs.length=ei.size/\ei.zero.length=ei.size/\0<ei.size/\ei.size<=16777216/\a2i f.ks=true/\f.ls.isEmpty=true then
       j6.pure {v:=.own grp 0 ei.size 0 1,new:=some [.deep false e ei.size 1 [f.v]],upd:=D9 f.ks,obl:=f.obl}
      else j6.no
     | none=>j6.no
    | [] =>
     if len=0/\ei.zero.length=ei.size/\0<ei.size/\ei.size<=16777216 then
      j6.pure {v:=.own grp 0 ei.size 0 0,new:=some [.deep false e ei.size 0 []]}
     else j6.no
    | _=>j6.no
   | none=>j6.no
  | none=>j6.no
 | none=>j6.no
theorem d7m{u:Value}{ds:Array Value}{sz:Nat}(hu:u.cells.size=sz)(hd:ds.size=sz):∃es:Array Value,Instr.fill (fun i=>some (i*sz,sz)) ds [(0,u)]=some es/\es.toList=u.cells.toList:=by
 have hout:=b8m u.cells.toList 0 (0*sz) ds (by simp only [Array.length_toList];omega);refine ⟨u.cells.toList.zipIdx.foldl (fun (cs:Array Value) (x:Value×Nat)=>cs.setIfInBounds (0*sz+x.2) x.1) ds,?_,?_⟩
 ·have hcond':(u.cells.size≠sz||0*sz+u.cells.size>ds.size)=false:=by
   simp [hu];omega
  simp only [Instr.fill,hcond'];simp only [e9A,if_false];congr 1
  rw [<-Array.foldl_toList,Array.toList_zipIdx]
 ·rw [hout,Nat.zero_mul,e9M,d0C];simp only [Array.length_toList];omega
theorem e04(h:t0 Γ F ι S a w){grp:Nat}(hg:grp<S.h.length)(hn:¬S.D grp){ob:Oper}{ty len:Nat}{parts:Array (Nat×Operand)}{ck om:List (Option Nat)}(ho:ob.op=.buildSlice ty len parts){out:A5}{lg:List (Nat×Nat)}(hp:b0L cx grp ty len (parts.toList.map fun (i,x)=>(i,s5 S.t x)) ck om S.ent=some (out,lg))(hob:∀p∈out.obl,p):R2 cx.P Γ ι S grp ob out a w:=by
 unfold b0L at hp;cases hti:cx.T ty with
 | none=>rw [hti] at hp;cases hp
 | some ti =>
 rw [hti] at hp;simp only at hp;cases hsl:ti.sl with
 | none=>rw [hsl] at hp;cases hp
 | some e =>
 rw [hsl] at hp;simp only at hp;cases hei:cx.T e with
 | none=>rw [hei] at hp;cases hp
 | some ei =>
 rw [hei] at hp;simp only at hp;have hrel:=c0f h.tmps parts.toList;generalize hpl:(parts.toList.map fun (i,x)=>(i,s5 S.t x))=pl at hp hrel;generalize hql:(parts.toList.map fun (i,x)=>(i,a.eval x))=ql at hrel;cases hrel with
 | nil =>
  simp only at hp;split at hp<;>try (cases hp;done)
  rename_i hcond;obtain ⟨rfl,hc2,hc3,hc4⟩:=hcond;have:=j6.pure_some hp;injection this with h3 h4;subst h3;obtain ⟨ti',d,z,htf⟩:=cx.tf hti;obtain ⟨ti2,d',z',hef⟩:=cx.tf hei;obtain rfl:=htf.isSl hsl;have hmd:(madeCells z'.cells (0*ei.size)) = #[]:=by simp [madeCells]
  have hrun:(execOp a.eval ob).run cx.P w=.ok (.value (.slice (some ⟨w.heap.size,0,none⟩) 0 0)) (w.alloc (.cells #[] e)):=by
   have:=b9G (w:=w) (len:=0) htf rfl hef (by omega) (qs:=parts.map fun (i,x)=>(i,a.eval x)) (es := #[]) (by rw [Array.toList_map,hql,hmd];rfl);simp [execOp,ho,this]
  have hgr:=a4m w (.cells #[] e);have hown:(w.alloc (.cells #[] e)).ownsRow 0 e ei.size (.slice (some ⟨w.heap.size,0,none⟩) 0 0) 0 [] :=
   ⟨by simp,.inr ⟨w.heap.size,0,#[],rfl,e9L _,a6f w _,e9h _,by simp,by simp,by simp⟩⟩
  obtain ⟨r1,r2⟩:=h.layDeep hg hn hgr (fun k q=>by cases q) (rows:=[]) (sv:=.slice (some ⟨w.heap.size,0,none⟩) 0 0) hown (show BL w F [].flatten [] [] from .nil) rfl (by simp) (by intro k hk;simp [A6] at hk;exact .inr (by omega)) (by simp) .nil;exact ⟨_,_,_,F,J3 ι grp (.slice (some ⟨w.heap.size,0,none⟩) 0 0),hrun,.inl rfl,r1.put ob.dst (.cell r2)⟩
 | @cons p q pl ql hpq ht =>
 obtain ⟨i,x⟩:=p;obtain ⟨i',u⟩:=q;obtain ⟨hii,hxu⟩:=hpq;simp only at hii hxu;subst hii;cases ht with
 | cons _ _=>cases i<;>cases hp
 | nil =>
 cases i with
 | succ i=>cases hp
 | zero =>
 simp only at hp;cases hcs:x.cells with
 | none=>rw [hcs] at hp;cases hp
 | some cs =>
 rw [hcs] at hp;obtain ⟨f,l1,l2,hf,hp',_⟩:=j6.bind_some hp;clear hp;split at hp'<;>try (cases hp';done)
 rename_i hcond;obtain ⟨rfl,hc1,hc2,hc3,hc4,hc5,hc6⟩:=hcond;have:=j6.pure_some hp';injection this with h3 h4;subst h3;obtain ⟨ti',d,z,htf⟩:=cx.tf hti;obtain ⟨ti2,d',z',hef⟩:=cx.tf hei;obtain rfl:=htf.isSl hsl;have hrc:=hxu.cells hcs;obtain ⟨fp,hbl,hfps,hh⟩:=b2D (F1:=F) h (fun _ x=>x) hrc hf hob (by rw [List.isEmpty_iff.1 hc6];intro id hid;cases hid);have hul:u.cells.size=ei.size:=by rw [<-hc1,hrc.length];simp
 have hzs:z'.cells.size=ei.size:=by rw [<-hc2,<-hef.zeros];simp
 have hmd:(madeCells z'.cells (1*ei.size)).size=ei.size:=by simp [madeCells]
 obtain ⟨es,hfill,hes⟩:=d7m (u:=u) (ds:=madeCells z'.cells (1*ei.size)) hul hmd;have hel:es.size=1*ei.size:=by
  have:=congrArg List.length hes;simp only [Array.length_toList] at this;omega
 have hrun:(execOp a.eval ob).run cx.P w=.ok (.value (.slice (some ⟨w.heap.size,0,none⟩) 1 1)) (w.alloc (.cells es e)):=by
  have:=b9G (w:=w) (len:=1) htf rfl hef (by omega) (qs:=parts.map fun (i,x)=>(i,a.eval x)) (es:=es) (by rw [Array.toList_map,hql];exact hfill);simp [execOp,ho,this]
 have hgr:=a4m w (.cells es e);have hown:(w.alloc (.cells es e)).ownsRow 0 e ei.size (.slice (some ⟨w.heap.size,0,none⟩) 1 1) 1 u.cells.toList:=by
  refine ⟨by simp only [Array.length_toList];omega,.inr ⟨w.heap.size,1,es,rfl,e9L _,a6f w _,e9h _,by unfold maxLen;omega,hel,?_⟩⟩;rw [hes,e86 (by simp only [Array.length_toList];omega)]
 have hkl:=h.killsR (fun id hid=>(hfps.live id hid).imp fun _ x=>x.1);have hnd:=K1.nodup h hfps (a3F hc5);have hgk:grp<(S.upds (D9 f.ks)).h.length:=by rw [St.upds_len];exact hg
 have hnk:¬(S.upds (D9 f.ks)).D grp:=fun q=>hn ((Y8 S grp _).1 q)
 obtain ⟨r1,r2⟩:=hkl.layDeep hgk hnk hgr (fun k q=>by cases q) (rows:=[f.v]) (sv:=.slice (some ⟨w.heap.size,0,none⟩) 1 1) hown (by simpa using hbl) rfl (by
   intro r hr;rw [e8J.1 hr,hbl.len];simp only [Array.length_toList];exact hul) (by intro k hk;simp [A6] at hk;exact .inr (by omega)) (by
   intro k hk;obtain ⟨id,hid,e1,he1,hl1,hk1⟩:=hfps.mem hk;obtain ⟨x1,x2⟩:=h.sep _ _ _ k he1 hl1 hk1;refine ⟨x1,x2,?_,by simp⟩;intro g' j' e' he' hl' hk';rcases a84 _ he' with ⟨_,rfl⟩|⟨hni,he2⟩
   ·cases hl'
   ·obtain ⟨y1,y2⟩:=h.inj _ _ _ _ _ _ k he2 he1 hl' hl1 hk' hk1;exact hni (by rw [y1,y2];exact hid)) hnd
 exact ⟨_,_,_,F,J3 ι grp (.slice (some ⟨w.heap.size,0,none⟩) 1 1),hrun,.inl rfl,r1.put ob.dst (.cell r2)⟩
def b1O(cx:Cx)(grp ty:Nat)(s x:V):j6 A5 :=
 match cx.T ty with
 | some ti=>match ti.sl with
  | some e=>match cx.T e with
   | some ei=>match x with
    | .own g2 j2 sz2 0 m=>j6.bind (j6.rd g2 j2) fun e2=>match e2 with
     | .deep false t2 sz2' m' rows2 =>
      if t2=e/\sz2=ei.size/\sz2'=ei.size/\0<ei.size/\0<ei.bytes/\ei.zero.length=ei.size/\0<m' then
       match s with
       | .nil=>j6.pure {v:=.own grp 0 ei.size 0 m',new:=some [.deep false e ei.size m' rows2],upd:=D9 [(g2,j2)],obl:=[m=m',m'*ei.bytes<=140737488355328]}
       | .own g j sz 0 n=>j6.bind (j6.rd g j) fun e1=>match e1 with
        | .deep false t sz' n' rows =>
         if t=e/\sz=ei.size/\sz'=ei.size/\a2i [(g,j),(g2,j2)]=true then
          j6.pure {v:=.own grp 0 ei.size 0 (n'+m'),new:=some [.deep false e ei.size (n'+m') (rows++rows2)],upd:=D9 [(g,j),(g2,j2)],obl:=[n=n',(n'+m')*ei.bytes<=140737488355328,m=m']}
         else j6.no
        | _=>j6.no
       | _=>j6.no
      else j6.no
     | _=>j6.no
    | _=>j6.no
   | none=>j6.no
  | none=>j6.no
 | none=>j6.no
theorem c01{g j sz n e sz':Nat}{c:Value}{flat:List Value}(hs:RV w F S.D ι (.own g j sz 0 n) c)(hown:w.ownsRow 0 e sz' (ι g j) n flat):c=ι g j:=by
 obtain ⟨hD,⟨b,nn,cap,hι,hlo,hb0,hb1,hc⟩|⟨hl0',_⟩⟩:=hs.inv_own;case inr=>omega
 rcases hown.2 with ⟨hv,hz⟩|⟨g0,cap0,cur,hv,_⟩
 ·rw [hι] at hv;injection hv with e1 e2 e3;subst e1;subst e2;subst e3;subst hz;rw [hc,hι];simp
 ·rw [hι] at hv;injection hv with e1 e2 e3;subst e1;subst e2;subst e3;rw [hc,hι];by_cases q:cap=0
  ·simp [q]
  ·simp [q,Addr.add]
theorem c4R{P:Program}{ty e:Nat}{ti ei:TI}{i i':TypeInfo}{d d':TypeDesc}{z z':Value}(htf:TF P ty ti i d z)(hd:d=.slice e)(hef:TF P e ei i' d' z')(h0:0<ei.size)(hb0:0<ei.bytes)(hzl:ei.zero.length=ei.size){sv sv2:Value}{n m:Nat}{flat flat2:List Value}(hown:w.ownsRow 0 e ei.size sv n flat)(hown2:w.ownsRow 0 e ei.size sv2 m flat2)(hm:0<m)(hone:∀u∈flat2,u.oneCell'=true)(hb:(n+m)*ei.bytes<=140737488355328)(rt:Nat) :
  ∃v' w',(Builtin.append_ #[ty,ty] rt #[sv,sv2]).run P w=.ok v' w'/\w'.ownsRow 0 e ei.size v' (n+m) (flat++flat2)/\w.grownBy w' sv.ownBlock/\(v'.ownBlock=sv.ownBlock\/v'.ownBlock=some w.heap.size):=by
 subst hd;have hzs:z'.cells.size=ei.size:=by rw [<-hzl,<-hef.zeros];simp
 have hm63:n+m<=maxLen:=by
  have:n+m<=140737488355328:=Nat.le_trans (e9J _ hb0) hb;unfold maxLen;omega
 rcases hown2.2 with ⟨_,q⟩|⟨g2,cap2,cur2,rfl,_,hg2,hnc2,_,hcs2,ht2⟩
 ·omega
 ·have hseg:L9 w g2 0 flat2:=by
   rw [<-ht2];have:=(a5i hg2 0).take (m*ei.size);simpa using this
  obtain ⟨v',w',h1,h2,h3,_,h5⟩:=run_append_own_at (P:=P) w 0 ty rt e i' z' ei.size ei.bytes htf.und hef.info hef.zero hef.size hef.bytes hzs h0 sv n flat hown ⟨g2,0,none⟩ m cap2 flat2 hown2.1 (by
   intro j u hu;rw [a2k];exact hseg j u hu) hone hm63 hb (e9L _)
  exact ⟨v',w',h1,h2,h3,h5⟩
theorem BL.ones:∀{vs:List V} {cs:List Value} {f:List Nat},BL w F vs cs f->∀u∈cs,u.oneCell'=true
 | _,_,_,.cons v c f vs cs fs h t,u,hu=>by
  rcases e8K.1 hu with rfl|hu
  ·exact h.one
  ·exact BL.ones t u hu
theorem BL.app:∀{vs vs':List V} {cs cs':List Value} {f f':List Nat},BL w F vs cs f->BL w F vs' cs' f'->BL w F (vs++vs') (cs++cs') (f++f')
 | _,_,_,_,_,_,.nil,k=>k
 | _,_,_,_,_,_,.cons v c f vs cs fs h t,k=>by
  rw [e8R];exact .cons v c f _ _ _ h (BL.app t k)
theorem d9n(h:t0 Γ F ι S a w){grp:Nat}(hg:grp<S.h.length)(hn:¬S.D grp){ob:Oper}{ty:Nat}{s x:Operand}(ho:ob.op=.call {callee:=.builtin .append,args := #[s,x],argTypes := #[ty,ty]}){out:A5}{lg:List (Nat×Nat)}(hp:b1O cx grp ty (s5 S.t s) (s5 S.t x) S.ent=some (out,lg))(hob:∀p∈out.obl,p):R2 cx.P Γ ι S grp ob out a w:=by
 have hs:=C1 h.tmps s;have hx:=C1 h.tmps x;unfold b1O at hp;cases hti:cx.T ty with
 | none=>rw [hti] at hp;cases hp
 | some ti =>
 rw [hti] at hp;simp only at hp;cases hsl:ti.sl with
 | none=>rw [hsl] at hp;cases hp
 | some e =>
 rw [hsl] at hp;simp only at hp;cases hei:cx.T e with
 | none=>rw [hei] at hp;cases hp
 | some ei =>
 rw [hei] at hp;simp only at hp;obtain ⟨i,d,z,htf⟩:=cx.tf hti;obtain ⟨i',d',z',hef⟩:=cx.tf hei;have hd:=htf.isSl hsl;generalize s5 S.t s=sv at hp hs;generalize s5 S.t x=xv at hp hx;cases xv<;>try (cases hp;done)
 rename_i g2 j2 sz2 lo2 m;cases lo2 with
 | succ q=>cases hp
 | zero =>
 simp only at hp;obtain ⟨e2,l1,l2,hrd2,hp',_⟩:=j6.bind_some hp;clear hp;have he2:=(j6.rd_some hrd2).1;simp only at he2;cases e2<;>try (cases hp';done)
 rename_i o2 t2 sz2' m' rows2;cases o2 with
 | true=>cases hp'
 | false =>
 simp only at hp';split at hp'<;>try (cases hp';done)
 rename_i hcond;obtain ⟨rfl,rfl,rfl,hc3,hc4,hc5,hc6⟩:=hcond;obtain ⟨flat2,fs2,hown2,hkl2,hlen2,hl2,hnd2,hnr2⟩:=h.ents g2 j2 _ he2;have hbl2:=hkl2.toBL (hnr2 rfl).flatB;have hin2:∀k∈C3 (ι g2 j2)++fs2,EB w (.deep false t2 ei.size m' rows2) (ι g2 j2) k:=fun k hk=>(EB.deep_iff hown2 hkl2).2 hk
 cases sv<;>try (cases hp';done)
 case nil =>
  have:=j6.pure_some hp';injection this with h3 h4;subst h3;obtain hcs:=hs.inv_nil;have hmm:m=m':=hob _ (by simp);subst hmm;have hb:m*ei.bytes<=140737488355328:=hob _ (by simp);obtain ⟨v',w',hr,hown,hgr,hat⟩:=c4R htf hd hef hc3 hc4 hc5 (World.ownsRow_nil w 0 t2 ei.size) hown2 hc6 hbl2.ones (by simpa using hb) ob.type;have hxc:=c01 hx hown2;have hrun:(execOp a.eval ob).run cx.P w=.ok (.value v') w':=by
   simp [execOp,ho,resolve,invoke,builtin,hcs,hxc,hr]
  have hkl:=h.killsR (ks:=[(g2,j2)]) (fun id hid=>by rw [e8J.1 hid];exact ⟨_,he2⟩);have hgk:grp<(S.upds (D9 [(g2,j2)])).h.length:=by rw [St.upds_len];exact hg
  have hnk:¬(S.upds (D9 [(g2,j2)])).D grp:=fun q=>hn ((Y8 S grp _).1 q)
  simp only [e9k,e9g] at hown;obtain ⟨r1,r2⟩:=hkl.layDeep hgk hnk hgr (fun k q=>by cases q) hown hbl2 hlen2 hl2 (by
   intro k hk;rw [<-a8y hown] at hk;rcases hat with q|q
   ·rw [q] at hk;cases hk
   ·rw [q] at hk;injection hk with hk;exact .inr (by omega)) (by
   intro k hk;have hk1:=hin2 k (List.mem_append.2 (.inr hk));obtain ⟨x1,x2⟩:=h.sep _ _ _ k he2 rfl hk1;refine ⟨x1,x2,?_,by intro q;cases q⟩;intro g' j' e' he' hl' hk';rcases a84 _ he' with ⟨_,rfl⟩|⟨hni,he3⟩
   ·cases hl'
   ·obtain ⟨y1,y2⟩:=h.inj _ _ _ _ _ _ k he3 he2 hl' rfl hk' hk1;exact hni (by rw [y1,y2];simp)) (e8L.1 hnd2).2.1
  exact ⟨_,_,_,F,J3 ι grp v',hrun,.inl rfl,r1.put ob.dst (.cell r2)⟩
 case own g j sz lo n =>
  cases lo with
  | succ q=>cases hp'
  | zero =>
  simp only at hp';obtain ⟨e1,l3,l4,hrd1,hp'',_⟩:=j6.bind_some hp';clear hp';have he1:=(j6.rd_some hrd1).1;simp only at he1;cases e1<;>try (cases hp'';done)
  rename_i o1 t1 sz1 n' rows;cases o1 with
  | true=>cases hp''
  | false =>
  simp only at hp'';split at hp''<;>try (cases hp'';done)
  rename_i hcond;obtain ⟨rfl,rfl,rfl,hnod⟩:=hcond;have:=j6.pure_some hp'';injection this with h3 h4;subst h3;have hnn:n=n':=hob _ (by simp);subst hnn;have hb:(n+m')*ei.bytes<=140737488355328:=hob _ (by simp);have hmm:m=m':=hob _ (by simp);subst hmm;obtain ⟨flat1,fs1,hown1,hkl1,hlen1,hl1,hnd1,hnr1⟩:=h.ents g j _ he1;have hbl1:=hkl1.toBL (hnr1 rfl).flatB;have hin1:∀k∈C3 (ι g j)++fs1,EB w (.deep false t1 ei.size n rows) (ι g j) k:=fun k hk=>(EB.deep_iff hown1 hkl1).2 hk
  have hne:¬(g=g2/\j=j2):=by
   have:=a3F hnod;rw [e9x] at this;intro q;exact this.1 (by rw [q.1,q.2];simp)
  obtain ⟨v',w',hr,hown,hgr,hat⟩:=c4R htf hd hef hc3 hc4 hc5 hown1 hown2 hc6 hbl2.ones hb ob.type;have hxc:=c01 hx hown2;have hsc:=c01 hs hown1;have hrun:(execOp a.eval ob).run cx.P w=.ok (.value v') w':=by
   simp [execOp,ho,resolve,invoke,builtin,hsc,hxc,hr]
  have hkl:=h.killsR (ks:=[(g,j),(g2,j2)]) (fun id hid=>by
   rcases e8K.1 hid with rfl|hid
   ·exact ⟨_,he1⟩
   ·rw [e8J.1 hid];exact ⟨_,he2⟩)
  have hgk:grp<(S.upds (D9 [(g,j),(g2,j2)])).h.length:=by rw [St.upds_len];exact hg
  have hnk:¬(S.upds (D9 [(g,j),(g2,j2)])).D grp:=fun q=>hn ((Y8 S grp _).1 q)
  have hob1:∀k,(ι g j).ownBlock=some k->k∈C3 (ι g j):=fun k hk=>O5.2 (by rw [<-a8y hown1];exact hk)
  have free1:∀k∈C3 (ι g j)++fs1,∀g' j' e',(S.upds (D9 [(g,j),(g2,j2)])).ent g' j'=some e'->e'.live=true->¬EB w e' (ι g' j') k:=by
   intro k hk g' j' e' he' hl' hk';rcases a84 _ he' with ⟨_,rfl⟩|⟨hni,he3⟩
   ·cases hl'
   ·obtain ⟨y1,y2⟩:=h.inj _ _ _ _ _ _ k he3 he1 hl' rfl hk' (hin1 k hk);exact hni (by rw [y1,y2];simp)
  have free2:∀k∈C3 (ι g2 j2)++fs2,∀g' j' e',(S.upds (D9 [(g,j),(g2,j2)])).ent g' j'=some e'->e'.live=true->¬EB w e' (ι g' j') k:=by
   intro k hk g' j' e' he' hl' hk';rcases a84 _ he' with ⟨_,rfl⟩|⟨hni,he3⟩
   ·cases hl'
   ·obtain ⟨y1,y2⟩:=h.inj _ _ _ _ _ _ k he3 he2 hl' rfl hk' (hin2 k hk);exact hni (by rw [y1,y2];simp)
  have hdis:∀k,k∈C3 (ι g j)++fs1->k∈C3 (ι g2 j2)++fs2->False:=by
   intro k q1 q2;obtain ⟨y1,y2⟩:=h.inj _ _ _ _ _ _ k he1 he2 rfl rfl (hin1 k q1) (hin2 k q2);exact hne ⟨y1,y2⟩
  obtain ⟨r1,r2⟩:=hkl.layDeep hgk hnk hgr (fun k q=>by
   have hk:k∈C3 (ι g j)++fs1:=List.mem_append.2 (.inl (hob1 k q));obtain ⟨x1,x2⟩:=h.sep _ _ _ k he1 rfl (hin1 k hk);exact ⟨x1,x2,free1 k hk⟩) (rows:=rows++rows2) hown (by rw [f0f];exact hbl1.app hbl2) (by rw [e8O,hlen1,hlen2]) (by
   intro r hr';rcases List.mem_append.1 hr' with q|q
   ·exact hl1 r q
   ·exact hl2 r q) (by
   intro k hk;rw [<-a8y hown] at hk;rcases hat with q|q
   ·rw [q] at hk;exact .inl hk
   ·rw [q] at hk;injection hk with hk;exact .inr (by omega)) (by
   intro k hk;rcases List.mem_append.1 hk with q|q
   ·have hk1:k∈C3 (ι g j)++fs1:=List.mem_append.2 (.inr q);obtain ⟨x1,x2⟩:=h.sep _ _ _ k he1 rfl (hin1 k hk1);exact ⟨x1,x2,free1 k hk1,fun z=>(e8L.1 hnd1).2.2 k (hob1 k z) k q rfl⟩
   ·have hk2:k∈C3 (ι g2 j2)++fs2:=List.mem_append.2 (.inr q);obtain ⟨x1,x2⟩:=h.sep _ _ _ k he2 rfl (hin2 k hk2);exact ⟨x1,x2,free2 k hk2,fun z=>hdis k (List.mem_append.2 (.inl (hob1 k z))) hk2⟩) (by
   rw [e8L];exact ⟨(e8L.1 hnd1).2.1,(e8L.1 hnd2).2.1,fun k q k' q' z=>by
    subst z;exact hdis k (List.mem_append.2 (.inr q)) (List.mem_append.2 (.inr q'))⟩)
  exact ⟨_,_,_,F,J3 ι grp v',hrun,.inl rfl,r1.put ob.dst (.cell r2)⟩
end
structure I7 where
 a:L8:=.none
 d:Option Bool:=none
 v:Option V:=none
 e:Option r9:=none
def b8f(d:Option Bool)(o:A5):Option A5 :=
 match d with
 | some d=>match o.v with
  | .b x=>some {o with v:=.b d,obl:=(x=d)::o.obl}
  | _=>none
 | none=>some o
def b7k(v:Option V)(o:A5):Option A5 :=
 match v with
 | some v=>some {o with v:=v,obl:=(o.v=v)::o.obl}
 | none=>some o
def b0y(e:r9):List ((Nat×Nat)×r9)->Option (List ((Nat×Nat)×r9)×Prop)
 | []=>none
 | [u]=>some ([(u.1,e)],u.2=e)
 | u::us=>match b0y e us with
  | some (us',p)=>some (u::us',p)
  | none=>none
def b7c(e:Option r9)(o:A5):Option A5 :=
 match e with
 | some e=>match o.new with
  | some [e0]=>some {o with new:=some [e],obl:=(e0=e)::o.obl}
  | some _=>none
  | none=>match b0y e o.upd with
   | some (us,p)=>some {o with upd:=us,obl:=p::o.obl}
   | none=>none
 | none=>some o
def b8u(T:I7)(o:A5):Option A5 :=
 match b7c T.e o with
 | some o1=>match b7k T.v o1 with
  | some o2=>b8f T.d o2
  | none=>none
 | none=>none
def opM(cx:Cx)(grp:Nat)(ob:Oper)(t:List V)(A:L8):j6 A5 :=
 match ob.op with
 | .alloc e=>j6.lift (c0N cx grp e)
 | .box e x=>j6.lift (c1W cx grp e (s5 t x))
 | .buildSlice ty len parts=>match A with
  | .dck ck om=>b0L cx grp ty len (parts.toList.map fun (i,x)=>(i,s5 t x)) ck om
  | A=>a92 cx grp ty len (parts.toList.map fun (i,x)=>(i,s5 t x)) A
 | .makeSlice ty l c=>match A with
  | .dck ck om=>b2S cx grp ty (s5 t l) (s5 t c) ck om
  | A=>j6.lift (c2Z cx grp ty (s5 t l) (s5 t c) (e2L A))
 | .load ty x=>match A with
  | .drow r=>b0o cx grp ty (s5 t x) r
  | .prow r=>b2F cx ty (s5 t x) r
  | .dtak r=>b14 cx grp ty (s5 t x) r
  | A=>b0l cx ty (s5 t x) A
 | .store ty x y=>match ob.dst with
  | none=>match A with
   | .dst r ck om=>a8L cx ty (s5 t x) (s5 t y) r ck om
   | .dsc r ck om=>b2U cx ty (s5 t x) (s5 t y) r ck om
   | A=>b0m cx ty (s5 t x) (s5 t y) A
  | some _=>j6.no
 | .makeMap ty none=>j6.lift (c0q cx grp ty)
 | .lookup ty x ix false=>b1n cx ty (s5 t x) (s5 t ix)
 | .mapUpdate ty x ix y=>match ob.dst with
  | none=>b2l cx ty (s5 t x) (s5 t ix) (s5 t y)
  | some _=>j6.no
 | .call c=>match c.callee,c.args.toList,c.argTypes.toList with
  | .builtin .append,[s,x],[ty,ty']=>if ty=ty' then (match A with
   | .dck _ _=>b1O cx grp ty (s5 t s) (s5 t x)
   | .part=>a8Q true cx grp ty (s5 t s) (s5 t x)
   | _=>a8Q false cx grp ty (s5 t s) (s5 t x)) else j6.no
  | .builtin .copy,[s,x],[ty,_]=>b0D cx ty (s5 t s) (s5 t x)
  | .value fop,args,_=>match s5 t fop with
   | .fn f=>b0I cx.P grp f (args.map (s5 t)) A
   | _=>j6.no
  | _,_,_=>j6.lift ((Q5 cx ob.op t A).map fun q=>{v:=q.1,obl:=q.2})
 | _=>j6.lift ((Q5 cx ob.op t A).map fun q=>{v:=q.1,obl:=q.2})
section
variable {cx:Cx} {Γ:M1} {F:Nat->Prop} {ι:Nat->Nat->Value} {S:St} {a:Act} {w:World}
def b8s(P:Program)(Γ:M1)(S':St)(ob:Oper)(a:Act)(w:World):Prop :=
 (∃nx c w' F' ι',(execOp a.eval ob).run P w=.ok nx w'/\(nx=.value c\/(nx=.skip/\c=undef))/\t0 Γ F' ι' S' (a.put ob.dst c) w')\/
 (∃f args,(execOp a.eval ob).run P w=.ok (.enter f args) w/\Calls P f args w fun e w' => ∃c F' ι',e=.returned c/\t0 Γ F' ι' S' (a.put ob.dst c) w')
theorem d6M(h:t0 Γ F ι S a w){grp:Nat}(hg:grp<S.h.length)(hn:¬S.D grp){ob:Oper}{A:L8}{out:A5}{lg:List (Nat×Nat)}(hp:opM cx grp ob S.t A S.ent=some (out,lg))(hob:∀p∈out.obl,p):b8s cx.P Γ (S.apply grp ob.dst out) ob a w:=by
 have pure:∀{op:Op} {out:A5} {lg},ob.op=op->j6.lift ((Q5 cx op S.t A).map fun q=>({v:=q.1,obl:=q.2}:A5)) S.ent=some (out,lg)->(∀p∈out.obl,p)->b8s cx.P Γ (S.apply grp ob.dst out) ob a w:=by
  intro op out lg hop hp hob;subst hop;obtain ⟨h1,_⟩:=j6.lift_some hp;obtain ⟨q,hq,he⟩:=e9K.1 h1;simp only at he;subst he;obtain ⟨c,hr,hv⟩:=e1T h.tmps hq hob;exact .inl ⟨_,c,w,F,ι,hr,.inl rfl,by rw [a5Z];exact h.put ob.dst hv⟩
 unfold opM at hp;cases ho:ob.op;case alloc e =>
  rw [ho] at hp;exact .inl (d8i h hg hn ho (j6.lift_some hp).1 hob)
 case box e x =>
  rw [ho] at hp;exact .inl (d4R h hg hn ho (j6.lift_some hp).1)
 case buildSlice ty len parts =>
  rw [ho] at hp;cases A;case dck ck om=>exact .inl (e04 h hg hn ho hp hob)
  all_goals exact .inl (d4o h hg hn ho hp hob)
 case makeSlice ty l c =>
  rw [ho] at hp;cases A;case dck ck om=>exact .inl (e07 h hg hn ho hp hob)
  all_goals exact .inl (d3y h hg hn ho (j6.lift_some hp).1 hob)
 case load ty x =>
  rw [ho] at hp;cases A;case drow r=>exact .inl (d35 h hg hn ho hp hob)
  case prow r=>exact .inl (d4H h ho hp hob)
  case dtak r=>exact .inl (d5O h hg hn ho hp hob)
  all_goals exact .inl (d7J h ho hp hob)
 case store ty x y =>
  rw [ho] at hp;cases hd:ob.dst with
  | some d=>rw [hd] at hp;cases hp
  | none =>
   rw [hd] at hp;have:R2 cx.P Γ ι S grp ob out a w:=by
    cases A;case dst r ck om=>exact d2b h (grp:=grp) ho hd hp hob
    case dsc r ck om=>exact e6E h (grp:=grp) ho hd hp hob
    all_goals exact e37 h (grp:=grp) ho hd hp hob
   rw [<-hd];exact .inl this
 case makeMap ty r =>
  rw [ho] at hp;cases r with
  | none=>exact .inl (d30 h hg hn ho (j6.lift_some hp).1)
  | some r=>exact pure ho hp hob
 case lookup ty x ix ok =>
  rw [ho] at hp;cases ok with
  | false=>exact .inl (e8s h ho hp)
  | true=>exact pure ho hp hob
 case mapUpdate ty x ix y =>
  rw [ho] at hp;cases hd:ob.dst with
  | some d=>rw [hd] at hp;cases hp
  | none =>
   rw [hd] at hp;have:R2 cx.P Γ ι S grp ob out a w:=d8g h (grp:=grp) ho hd hp;rw [<-hd];exact .inl this
 case call c =>
  rw [ho] at hp;obtain ⟨callee,args,tys⟩:=c;simp only at hp;cases callee with
  | invoke x m=>exact pure ho hp hob
  | value fop =>
   simp only at hp;generalize hfe:s5 S.t fop=fv at hp;cases fv<;>try (cases hp;done)
   rename_i f;obtain ⟨h1,h2⟩:=d5u h hg hn ho hfe hp hob;exact .inr ⟨f,_,h1,h2⟩
  | builtin b =>
   cases b;case append =>
    generalize hargs:args.toList=al at hp;generalize htys:tys.toList=tl at hp;rcases al with _|⟨s,_|⟨x,_|⟨y,al⟩⟩⟩<;>rcases tl with _|⟨ty,_|⟨ty',_|⟨ty3,tl⟩⟩⟩<;>try exact pure ho hp hob
    have ha:args = #[s,x]:=by simpa using congrArg e96 hargs
    have hy:tys = #[ty,ty']:=by simpa using congrArg e96 htys
    subst ha;subst hy;simp only at hp;by_cases q:ty=ty'
    ·subst q;rw [if_pos rfl] at hp;cases A;case dck ck om=>exact .inl (d9n h hg hn ho hp hob)
     all_goals exact .inl (d7B (rt:=0) h hg hn ho hp hob)
    ·rw [if_neg q] at hp;cases hp
   case copy =>
    generalize hargs:args.toList=al at hp;generalize htys:tys.toList=tl at hp;rcases al with _|⟨s,_|⟨x,_|⟨y,al⟩⟩⟩<;>rcases tl with _|⟨ty,_|⟨ty',_|⟨ty3,tl⟩⟩⟩<;>try exact pure ho hp hob
    have ha:args = #[s,x]:=by simpa using congrArg e96 hargs
    have hy:tys = #[ty,ty']:=by simpa using congrArg e96 htys
    subst ha;subst hy;exact .inl (d4F h ho hp hob)
   all_goals exact pure ho hp hob
 all_goals
  rw [ho] at hp;exact pure ho hp hob
theorem c8R{e:r9}:∀{us us':List ((Nat×Nat)×r9)} {p:Prop},b0y e us=some (us',p)->p->us'=us
 | [],_,_,h,_=>by cases h
 | [u],us',p,h,hp=>by
  unfold b0y at h;injection h with h;injection h with h1 h2;subst h1;subst h2;have:u.2=e:=hp;subst this;rfl
 | u::u2::us,us',p,h,hp=>by
  unfold b0y at h;split at h<;>try (cases h;done)
  rename_i us1 p1 h1;injection h with h;injection h with h2 h3;subst h2;subst h3;rw [c8R h1 hp]
theorem e79{d:Option Bool}{o o':A5}(hd:b8f d o=some o')(hob:∀p∈o'.obl,p):(∀p∈o.obl,p)/\o'.new=o.new/\o'.upd=o.upd/\o'.v=o.v:=by
 unfold b8f at hd;split at hd
 ·split at hd<;>try (cases hd;done)
  rename_i d _ x hv;injection hd with hd;subst hd;have hx:x=d:=hob _ (by simp);exact ⟨fun p hp=>hob p (by simp [hp]),rfl,rfl,by simp [hv,hx]⟩
 ·injection hd with hd;subst hd;exact ⟨hob,rfl,rfl,rfl⟩
theorem e5F{v:Option V}{o o':A5}(hd:b7k v o=some o')(hob:∀p∈o'.obl,p):(∀p∈o.obl,p)/\o'.new=o.new/\o'.upd=o.upd/\o'.v=o.v:=by
 unfold b7k at hd;split at hd
 ·rename_i v;injection hd with hd;subst hd;have hx:o.v=v:=hob _ (by simp);exact ⟨fun p hp=>hob p (by simp [hp]),rfl,rfl,hx.symm⟩
 ·injection hd with hd;subst hd;exact ⟨hob,rfl,rfl,rfl⟩
theorem e7p{e:Option r9}{o o':A5}(hd:b7c e o=some o')(hob:∀p∈o'.obl,p):(∀p∈o.obl,p)/\o'.new=o.new/\o'.upd=o.upd/\o'.v=o.v:=by
 unfold b7c at hd;split at hd
 ·rename_i e;split at hd
  ·rename_i e0 hn;injection hd with hd;subst hd;have hx:e0=e:=hob _ (by simp);exact ⟨fun p hp=>hob p (by simp [hp]),by rw [hn,hx],rfl,rfl⟩
  ·cases hd
  ·split at hd<;>try (cases hd;done)
   rename_i us p h1;injection hd with hd;subst hd;have hx:p:=hob _ (by simp);exact ⟨fun p hp=>hob p (by simp [hp]),rfl,c8R h1 hx,rfl⟩
 ·injection hd with hd;subst hd;exact ⟨hob,rfl,rfl,rfl⟩
theorem e4c{T:I7}{o o':A5}(hd:b8u T o=some o')(hob:∀p∈o'.obl,p):(∀p∈o.obl,p)/\o'.new=o.new/\o'.upd=o.upd/\o'.v=o.v:=by
 unfold b8u at hd;cases h1:b7c T.e o with
 | none=>rw [h1] at hd;cases hd
 | some o1 =>
 rw [h1] at hd;simp only at hd;cases h2:b7k T.v o1 with
 | none=>rw [h2] at hd;cases hd
 | some o2 =>
 rw [h2] at hd;obtain ⟨a1,a2,a3,a4⟩:=e79 hd hob;obtain ⟨b1,b2,b3,b4⟩:=e5F h2 a1;obtain ⟨c1,c2,c3,c4⟩:=e7p h1 b1;exact ⟨c1,a2.trans (b2.trans c2),a3.trans (b3.trans c3),a4.trans (b4.trans c4)⟩
def a81(cx:Cx)(grp:Nat)(ob:Oper)(t:List V)(A:I7):j6 A5:=j6.bind (opM cx grp ob t A.a) fun o=>j6.lift (b8u A o)
theorem d9Q{S:St}{grp:Nat}{dst:Option Nat}{o o':A5}(h1:o'.new=o.new)(h2:o'.upd=o.upd)(h3:o'.v=o.v):S.apply grp dst o'=S.apply grp dst o:=by
 unfold St.apply;rw [h1,h2,h3]
theorem e2K(h:t0 Γ F ι S a w){grp:Nat}(hg:grp<S.h.length)(hn:¬S.D grp){ob:Oper}{A:I7}{out:A5}{lg:List (Nat×Nat)}(hp:a81 cx grp ob S.t A S.ent=some (out,lg))(hob:∀p∈out.obl,p):b8s cx.P Γ (S.apply grp ob.dst out) ob a w:=by
 obtain ⟨o,l1,l2,h1,h2,_⟩:=j6.bind_some hp;obtain ⟨h3,_⟩:=j6.lift_some h2;simp only at h3;obtain ⟨h4,h5,h6,h7⟩:=e4c h3 hob;rw [d9Q h5 h6 h7];exact d6M h hg hn h1 h4
def a5b(ops:Array Oper)(o:Oper)(t:List V):Option Bool :=
 match o.guard with
 | none=>some true
 | some (j,want)=>match (ops[j]?).bind (·.dst) with
  | some d=>match t[d]? with
   | some (.b x)=>some (x==want)
   | some (.tup [])=>some false
   | _=>none
  | none=>none
theorem c9I{ops:Array Oper}{o:Oper}{b:Bool}{D:Nat->Prop}{t:List V}(ht:u7 (RV w F D ι) t a.tmps.toList)(h:a5b ops o t=some b):Region.wanted o (yielded ops a.tmps)=b:=by
 unfold a5b at h;unfold Region.wanted;split at h
 ·rename_i hg;rw [hg];injection h
 ·rename_i j want hg;rw [hg];simp only;cases hd:(ops[j]?).bind (·.dst) with
  | none=>rw [hd] at h;cases h
  | some d =>
   rw [hd] at h;simp only at h;split at h<;>try (cases h;done)
   rename_i x hx;injection h with h;obtain ⟨c,hc,hv⟩:=ht.get hx;obtain rfl:=hv.inv_b;have:yielded ops a.tmps j=some x:=by
    unfold yielded;simp only [hd];rw [Array.getElem?_toList] at hc;simp [hc]
   rw [this,<-h];cases x<;>cases want<;>rfl
   ·rename_i hx;injection h with h;obtain ⟨c,hc,hv⟩:=ht.get hx;have hcc:c=undef:=by
     cases hv with
     | one v c hv=>cases hv with|cell v c hv=>cases hv with|fv v c hv=>cases hv
     | tup cs ds hv=>cases hv;rfl
    subst hcc;have:yielded ops a.tmps j=none:=by
     unfold yielded;simp only [hd];rw [Array.getElem?_toList] at hc;simp [hc,undef]
    rw [this,<-h];rfl
end
structure W0 where
 rd:List (Nat×Nat)
 wr:List (Nat×Nat)
def X0(cx:Cx)(ops:Array Oper)(base:Nat)(A:Nat->I7)(i:Nat)(S:St):Option (St×List Prop×W0) :=
 match ops[i]? with
 | none=>none
 | some o=>match a5b ops o S.t with
  | some true=>match a81 cx (base+i) o S.t (A i) S.ent with
   | some (out,lg)=>some (S.apply (base+i) o.dst out,out.obl,⟨lg,out.upd.map (·.1)⟩)
   | none=>none
  | some false=>some ({S with t:=P5 S.t o.dst (.tup [])},[],⟨[],[]⟩)
  | none=>none
section
variable {cx:Cx} {Γ:M1} {F:Nat->Prop} {ι:Nat->Nat->Value} {S S':St} {a:Act} {w:World} {ops:Array Oper} {base:Nat} {A:Nat->I7}
theorem e5i{grp:Nat}{dst:Option Nat}{out:A5}{g:Nat}(h:(S.apply grp dst out).D g):S.D g\/g=grp:=by
 unfold St.apply at h;simp only at h;split at h
 ·exact .inl ((Y8 S g _).1 h)
 ·rename_i new hnew;by_cases q:g=grp
  ·exact .inr q
  ·left
   obtain ⟨l,hl⟩:=h;simp only [St.lay,e8U (Ne.symm q)] at hl;exact (Y8 S g _).1 ⟨l,hl⟩
theorem e4g{grp:Nat}{dst:Option Nat}{out:A5}:(S.apply grp dst out).h.length=S.h.length:=by
 unfold St.apply;simp only;split
 ·exact St.upds_len S _
 ·simp [St.lay,St.upds_len]
theorem d1R{i:Nat}{ps:List Prop}{ft:W0}(h:X0 cx ops base A i S=some (S',ps,ft)):(∀g,S'.D g->S.D g\/g=base+i)/\S'.h.length=S.h.length:=by
 unfold X0 at h;split at h<;>try (cases h;done)
 split at h<;>try (cases h;done)
 ·split at h<;>try (cases h;done)
  injection h with h;injection h with h1 h2;subst h1;exact ⟨fun g x=>e5i x,e4g⟩
 ·injection h with h;injection h with h1 h2;subst h1;exact ⟨fun g x=>.inl x,rfl⟩
theorem c6S{Q:Exit->Act->World->Prop}{K:Act->World->Prop}{i:Nat}{ps:List Prop}{ft:W0}(h:t0 Γ F ι S a w)(hg:base+i<S.h.length)(hn:¬S.D (base+i))(hs:X0 cx ops base A i S=some (S',ps,ft))(hob:∀p∈ps,p)(hK:∀a' w' F' ι',t0 Γ F' ι' S' a' w'->K a' w'):wpOp cx.P ops Q i K a w:=by
 unfold X0 at hs;unfold wpOp;split at hs<;>try (cases hs;done)
 rename_i o ho;rw [ho];simp only;split at hs<;>try (cases hs;done)
 ·rename_i hw;have hwant:=c9I h.tmps hw;rw [hwant];simp only [if_true];split at hs<;>try (cases hs;done)
  rename_i out lg hop;injection hs with hs;injection hs with h1 h2;injection h2 with h2 h3;subst h1;subst h2;left
  unfold Oper.wp;rcases e2K h hg hn hop hob with ⟨nx,c,w',F',ι',hr,hnx,hrel⟩|⟨f,args,hr,hcalls⟩
  ·rw [hr];rcases hnx with rfl|⟨rfl,rfl⟩
   ·exact hK _ _ _ _ hrel
   ·exact hK _ _ _ _ hrel
  ·rw [hr];refine hcalls.mono ?_;rintro e w' ⟨c,F',ι',rfl,hrel⟩
   exact hK _ _ _ _ hrel
 ·rename_i hw;have hwant:=c9I h.tmps hw;rw [hwant];simp only [e9A,if_false];injection hs with hs;injection hs with h1 h2;subst h1;exact hK _ _ _ _ (h.put o.dst (.tup [] [] .nil))
def a0s(cx:Cx)(ops:Array Oper)(base:Nat)(A:Nat->I7):List Nat->St->Option (St×List (List Prop×W0))
 | [],S=>some (S,[])
 | i::l,S=>match X0 cx ops base A i S with
  | some (S1,r)=>match a0s cx ops base A l S1 with
   | some (S2,rs)=>some (S2,r::rs)
   | none=>none
  | none=>none
theorem a98{i:Nat}{l:List Nat}{rs:List (List Prop×W0)}(h:a0s cx ops base A (i::l) S=some (S',rs)):∃S1 r rs',X0 cx ops base A i S=some (S1,r)/\a0s cx ops base A l S1=some (S',rs')/\rs=r::rs':=by
 unfold a0s at h;split at h<;>try (cases h;done)
 rename_i S1 r h1;split at h<;>try (cases h;done)
 rename_i S2 rs' h2;injection h with h;injection h with h3 h4;subst h3;subst h4;exact ⟨S1,r,rs',h1,h2,rfl⟩
theorem d0Y{Q:Exit->Act->World->Prop}:∀{l:List Nat} {S:St} {F:Nat->Prop} {ι:Nat->Nat->Value} {a:Act} {w:World} {rs:List (List Prop×W0)},t0 Γ F ι S a w->l.Nodup->(∀i∈l,base+i<S.h.length/\¬S.D (base+i))->a0s cx ops base A l S=some (S',rs)->(∀r∈rs,∀p∈r.1,p)->
  (∀a' w' F' ι',t0 Γ F' ι' S' a' w'->Q .normal a' w')->wpOps cx.P ops Q l a w
 | [],S,F,ι,a,w,rs,h,_,_,hr,_,hQ=>by
  unfold a0s at hr;injection hr with hr;injection hr with h1 h2;subst h1;exact hQ _ _ _ _ h
 | i::l,S,F,ι,a,w,rs,h,hn,hfree,hr,hob,hQ=>by
  obtain ⟨S1,r,rs',h1,h2,rfl⟩:=a98 hr;rw [wpOps_cons];have hn':=e9x.1 hn;obtain ⟨hD,hl⟩:=d1R (ps:=r.1) (ft:=r.2) h1;refine c6S h (hfree i (by simp)).1 (hfree i (by simp)).2 (ps:=r.1) (ft:=r.2) h1 (hob r (by simp)) fun a' w' F' ι' hrel => ?_
  refine d0Y hrel hn'.2 (fun j hj => ?_) h2 (fun r' hr'=>hob r' (by simp [hr'])) hQ;refine ⟨by rw [hl];exact (hfree j (by simp [hj])).1,fun x => ?_⟩;rcases hD _ x with y|y
  ·exact (hfree j (by simp [hj])).2 y
  ·have:i=j:=by omega
   exact hn'.1 (this▸hj)
end
def x7{α:Type}(m:j6 α):Prop := ∀(H H':Hp) r lg,m H=some (r,lg)->(∀id∈lg,H' id.1 id.2=H id.1 id.2)->m H'=some (r,lg)
namespace x7
variable {α β:Type}
theorem pure(a:α):x7 (j6.pure a):=fun _ _ _ _ h _=>h
theorem no:x7 (j6.no:j6 α):=fun _ _ _ _ h _=>h
theorem lift(o:Option α):x7 (j6.lift o):=by
 intro H H' r lg h _;unfold j6.lift at h ⊢;exact h
theorem rd(g j:Nat):x7 (j6.rd g j):=by
 intro H H' r lg h hH;obtain ⟨h1,h2⟩:=j6.rd_some h;simp only at h1 h2;subst h2;have:=hH (g,j) (by simp);unfold j6.rd;simp only at this;rw [this,h1]
theorem bind{m:j6 α}{f:α->j6 β}(hm:x7 m)(hf:∀a,x7 (f a)):x7 (j6.bind m f):=by
 intro H H' r lg h hH;obtain ⟨a,l,l',h1,h2,h3⟩:=j6.bind_some h;simp only at h2 h3;subst h3;unfold j6.bind;rw [hm H H' a l h1 (fun id hid=>hH id (List.mem_append.2 (.inl hid)))];simp only;rw [hf a H H' r l' h2 (fun id hid=>hH id (List.mem_append.2 (.inr hid)))]
theorem ite{c:Prop}[Decidable c]{m n:j6 α}(hm:x7 m)(hn:x7 n):x7 (if c then m else n):=by
 split<;>assumption
end x7
theorem d9U(ck:Option Nat)(v:V):x7 (fzP ck v):=by
 unfold fzP;cases v<;>try exact x7.no
 case own g j sz lo n =>
  refine .bind (.rd g j) fun e => ?_
  cases e<;>first|exact x7.no|exact .ite (.pure _) .no
 case nil=>cases ck<;>exact .pure _
 all_goals exact .pure _
theorem b89:∀(vs:List V) (ck:List (Option Nat)),x7 (b2p ck vs)
 | [],ck=>by cases ck<;>exact .pure _
 | v::vs,ck=>.bind (d9U _ _) fun x=>.bind (b89 vs _) fun y=>.pure _
theorem e0S(cx:Cx)(ty:Nat)(x:V)(A:L8):x7 (b0l cx ty x A):=by
 unfold b0l;cases cx.T ty with
 | none=>exact .no
 | some ti =>
  cases x<;>try exact x7.no
  case ptr g j off =>
   refine .bind (.rd g j) fun e => ?_
   cases e<;>try exact x7.no
   case var e cs=>simp only;cases Q3 ti (cs.drop off)<;>first|exact .no|exact .pure _
   case arr e sz n rows=>exact .ite (.pure _) .no
  case eptr g j sz idx off =>
   refine .bind (.rd g j) fun e => ?_
   cases A<;>try exact x7.no
   case row r =>
    simp only;cases Q3 ti (r.drop off) with
    | none=>exact .no
    | some v=>cases e<;>first|exact x7.no|exact .ite (.pure _) .no
  case fptr cs=>simp only;cases Q3 ti cs<;>first|exact .no|exact .pure _
theorem d60(cx:Cx)(ty:Nat)(x y:V)(A:L8):x7 (b0m cx ty x y A):=by
 unfold b0m;cases cx.T ty with
 | none=>exact .no
 | some ti =>
  cases y.cells with
  | none=>exact .no
  | some vs =>
   cases x<;>try exact x7.no
   case ptr g j off =>
    refine .bind (.rd g j) fun e => ?_
    cases e<;>first|exact x7.no|exact .ite (.pure _) .no
   case eptr g j sz idx off =>
    refine .bind (.rd g j) fun e => ?_
    cases A<;>try exact x7.no
    case rowck r ck =>
     refine .bind (b89 _ _) fun f => ?_
     cases e<;>first|exact x7.no|exact .ite (.pure _) .no
theorem d2g(pt:Bool)(x:V):x7 (a86 pt x):=by
 unfold a86;cases x<;>try first|exact x7.no|exact x7.pure _
 case own g j sz lo n =>
  refine .bind (.rd g j) fun e => ?_
  cases e<;>first|exact x7.no|exact .ite (.pure _) .no
theorem e3B(pt:Bool)(cx:Cx)(grp ty:Nat)(s x:V):x7 (a8Q pt cx grp ty s x):=by
 unfold a8Q;cases cx.T ty with
 | none=>exact .no
 | some ti =>
  simp only;cases ti.sl with
  | none=>exact .no
  | some e =>
   simp only;cases cx.T e with
   | none=>exact .no
   | some ei =>
    refine .bind (d2g _ x) fun q=>.ite ?_ .no
    cases s<;>try first|exact x7.no|exact x7.pure _
    case own g j sz lo n =>
     cases lo with
     | succ k=>exact .no
     | zero =>
      refine .bind (.rd g j) fun e => ?_
      cases e<;>first|exact x7.no|exact .ite (.pure _) .no
theorem d8O(cx:Cx)(ty:Nat)(s x:V):x7 (b0D cx ty s x):=by
 unfold b0D;cases cx.T ty with
 | none=>exact .no
 | some ti =>
  simp only;cases ti.sl with
  | none=>exact .no
  | some e =>
   simp only;cases cx.T e with
   | none=>exact .no
   | some ei =>
    refine .bind (d2g _ x) fun q => ?_
    cases s<;>try exact x7.no
    case own g j sz lo n =>
     cases lo with
     | succ k=>exact .no
     | zero =>
      refine .bind (.rd g j) fun e => ?_
      cases e<;>first|exact x7.no|exact .ite (.pure _) .no
theorem d0f(ck:List (Option Nat)):∀ps:List (Nat×V),x7 (a9j ck ps)
 | []=>.pure _
 | (i,v)::ps=>by
  unfold a9j;cases v.cells with
  | none=>exact .no
  | some cs=>exact .bind (b89 _ _) fun x=>.bind (d0f ck ps) fun y=>.pure _
theorem e3a(cx:Cx)(grp ty len:Nat)(parts:List (Nat×V))(A:L8):x7 (a92 cx grp ty len parts A):=by
 unfold a92;cases cx.T ty with
 | none=>exact .no
 | some ti =>
  simp only;cases ti.sl with
  | none=>exact .no
  | some e =>
   simp only;cases cx.T e with
   | none=>exact .no
   | some ei =>
    cases A<;>try exact x7.no
    case ck ck =>
     refine .bind (d0f _ _) fun q => ?_
     cases a43 ei.size (e8E len ei.zero) q.1 with
     | none=>exact .no
     | some rows=>exact .ite (.pure _) .no
theorem d0T(ck om:Option Nat)(v:V):x7 (O9 ck om v):=by
 unfold O9;cases om with
 | some e =>
  refine .ite (.pure _) ?_;cases v<;>try first|exact x7.no|exact x7.pure _
  case own g j sz lo n =>
   cases lo with
   | succ k=>exact .no
   | zero =>
    refine .bind (.rd g j) fun e => ?_
    cases e<;>first|exact x7.no|exact .ite (.pure _) .no|(rename_i o _ _ _ _;cases o<;>first|exact x7.no|exact .ite (.pure _) .no)
 | none =>
  cases v<;>try first|exact x7.no|exact x7.pure _
  case own g j sz lo n =>
   refine .bind (.rd g j) fun e => ?_
   cases e<;>first|exact x7.no|exact .ite (.pure _) .no|(rename_i o _ _ _ _;cases o<;>first|exact x7.no|exact .ite (.pure _) .no)
  case nil=>cases ck<;>exact .pure _
theorem a9s:∀(vs:List V) (ck om:List (Option Nat)),x7 (a1h ck om vs)
 | [],ck,om=>by cases ck<;>cases om<;>exact .pure _
 | v::vs,ck,om=>.bind (d0T _ _ _) fun x=>.bind (a9s vs _ _) fun y=>.pure _
theorem d5Y(m:PM)(v:V):x7 (a0t m v):=by
 unfold a0t;cases m with
 | val ck om =>
  cases v<;>try first|exact x7.no|exact d0T _ _ _
  case agg cs=>exact .bind (a9s _ _ _) fun x=>.pure _
 | ptr ck om =>
  cases v<;>try exact x7.no
  case ptr g j off =>
   cases off with
   | succ k=>exact .no
   | zero =>
    refine .bind (.rd g j) fun e => ?_
    cases e<;>try exact x7.no
    case var e cs=>exact .bind (a9s _ _ _) fun x=>.pure _
 | row =>
  cases v<;>try exact x7.no
  case own g j sz lo n =>
   cases lo with
   | succ k=>exact .no
   | zero =>
    refine .bind (.rd g j) fun e => ?_
    cases e<;>first|exact x7.no|exact .ite (.pure _) .no|(rename_i o _ _ _ _;cases o<;>first|exact x7.no|exact .ite (.pure _) .no)
 | part =>
  cases v<;>try exact x7.no
  case own g j sz lo n =>
   refine .bind (.rd g j) fun e => ?_
   cases e<;>first|exact x7.no|exact .ite (.pure _) .no|(rename_i o _ _ _ _;cases o<;>first|exact x7.no|exact .ite (.pure _) .no)
theorem c3C:∀(vs:List V) (ms:List PM),x7 (a02 ms vs)
 | [],ms=>by cases ms<;>exact .pure _
 | v::vs,[]=>.no
 | v::vs,m::ms=>.bind (d5Y m v) fun x=>.bind (c3C vs ms) fun y=>.pure _
theorem b8I:∀ids:List (Nat×Nat),x7 (a4v ids)
 | []=>.pure _
 | (g,j)::ids=>by
  unfold a4v;refine .bind (.rd g j) fun e => ?_
  cases e<;>try exact x7.no
  case row t sz n rows=>exact .bind (b8I ids) fun us=>.pure _
  case deep o t sz n rows =>
   cases o
   ·exact .bind (b8I ids) fun us=>.pure _
   ·exact .no
theorem c7Z(grp:Nat)(args:List V)(ms:List PM)(fr:Bool)(res:V)(outs:List (Option V))(p:List V->Prop):x7 (a7I grp args ms fr res outs p):=by
 unfold a7I;refine .bind (c3C _ _) fun r=>.bind (b8I _) fun fz => ?_
 simp only;cases O8 grp (G0 grp 0 res).2.length ms args outs with
 | none=>exact .no
 | some ue=>exact .ite (.pure _) .no
theorem d3l(P:Program)(grp f:Nat)(args:List V)(A:L8):x7 (b0I P grp f args A):=by
 unfold b0I;cases A<;>try exact x7.no
 case call ms fr res outs=>exact c7Z _ _ _ _ _ _ _
 case callr k q ms fr res outs =>
  simp only;split
  ·split
   ·exact .bind (c7Z _ _ _ _ _ _ _) fun o=>.pure _
   ·exact .no
  ·exact .no
theorem d1k(cx:Cx)(ty:Nat)(x y:V)(r:List V)(ck om:List (Option Nat)):x7 (a8L cx ty x y r ck om):=by
 unfold a8L;cases cx.T ty with
 | none=>exact .no
 | some ti =>
  cases y.cells with
  | none=>exact .no
  | some vs =>
   cases x<;>try exact x7.no
   case eptr g j sz idx off =>
    refine .bind (.rd g j) fun e=>.bind (a9s _ _ _) fun f => ?_
    cases e<;>try exact x7.no
    exact .ite (.pure _) .no
theorem d2J(cx:Cx)(grp ty:Nat)(x:V)(r:List V):x7 (b0o cx grp ty x r):=by
 unfold b0o;cases cx.T ty with
 | none=>exact .no
 | some ti =>
  cases x<;>try exact x7.no
  case eptr g j sz idx off =>
   refine .bind (.rd g j) fun e => ?_
   cases e<;>try exact x7.no
   simp only;refine .ite ?_ .no;cases Q3 ti (J0 grp 0 ((r.drop off).take (if ti.agg=true then ti.size else 1))).1 with
   | none=>exact .no
   | some v=>exact .pure _
theorem d3w(cx:Cx)(grp ty:Nat)(x:V)(r:List V):x7 (b14 cx grp ty x r):=by
 unfold b14;cases cx.T ty with
 | none=>exact .no
 | some ti =>
  cases x<;>try exact x7.no
  case eptr g j sz idx off =>
   refine .bind (.rd g j) fun e => ?_
   cases e<;>try exact x7.no
   simp only;refine .ite ?_ .no;cases Q3 ti (J0 grp 0 ((r.drop off).take (if ti.agg=true then ti.size else 1))).1 with
   | none=>exact .no
   | some v=>exact .pure _
theorem d3A(cx:Cx)(ty:Nat)(x y:V)(r:List V)(ck om:List (Option Nat)):x7 (b2U cx ty x y r ck om):=by
 unfold b2U;refine .bind (d1k _ _ _ _ _ _ _) fun o => ?_
 split
 ·exact .bind (.rd _ _) fun _=>.pure _
 ·exact .no
theorem e3G(cx:Cx)(ty:Nat)(x:V)(r:List V):x7 (b2F cx ty x r):=by
 unfold b2F;cases cx.T ty with
 | none=>exact .no
 | some ti =>
  cases x<;>try exact x7.no
  case eptr g j sz idx off =>
   refine .bind (.rd g j) fun e => ?_
   cases e<;>try exact x7.no
   simp only;refine .ite ?_ .no;cases Q3 ti ((r.drop off).take (if ti.agg=true then ti.size else 1)) with
   | none=>exact .no
   | some v=>exact .pure _
theorem e7n(cx:Cx)(grp ty:Nat)(l c:V)(ck om:List (Option Nat)):x7 (b2S cx grp ty l c ck om):=by
 unfold b2S;cases cx.T ty with
 | none=>exact .no
 | some ti =>
  simp only;cases ti.sl with
  | none=>exact .no
  | some e =>
   simp only;cases cx.T e with
   | none=>exact .no
   | some ei =>
    cases l<;>try exact x7.no
    cases c<;>try exact x7.no
    exact .bind (a9s _ _ _) fun f=>.ite (.pure _) .no
theorem e34(cx:Cx)(grp ty len:Nat)(parts:List (Nat×V))(ck om:List (Option Nat)):x7 (b0L cx grp ty len parts ck om):=by
 unfold b0L;cases cx.T ty with
 | none=>exact .no
 | some ti =>
  simp only;cases ti.sl with
  | none=>exact .no
  | some e =>
   simp only;cases cx.T e with
   | none=>exact .no
   | some ei =>
    simp only;split
    ·split
     ·exact .bind (a9s _ _ _) fun f=>.ite (.pure _) .no
     ·exact .no
    ·exact .ite (.pure _) .no
    ·exact .no
theorem d9J(cx:Cx)(grp ty:Nat)(s x:V):x7 (b1O cx grp ty s x):=by
 unfold b1O;cases cx.T ty with
 | none=>exact .no
 | some ti =>
  simp only;cases ti.sl with
  | none=>exact .no
  | some e =>
   simp only;cases cx.T e with
   | none=>exact .no
   | some ei =>
    simp only;split
    ·refine .bind (.rd _ _) fun e2 => ?_
     split
     ·refine .ite ?_ .no;split
      ·exact .pure _
      ·refine .bind (.rd _ _) fun e1 => ?_
       split
       ·exact .ite (.pure _) .no
       ·exact .no
      ·exact .no
     ·exact .no
    ·exact .no
theorem e3V(cx:Cx)(ty:Nat)(x ix:V):x7 (b1n cx ty x ix):=by
 unfold b1n;cases cx.M ty with
 | none=>exact .no
 | some q =>
  obtain ⟨kt,m,z⟩:=q;cases x<;>try exact x7.no
  cases ix<;>try exact x7.no
  rename_i g j ks;simp only;cases a1t ks with
  | none=>exact .no
  | some xs =>
   refine .bind (.rd g j) fun e => ?_
   cases e<;>try exact x7.no
   exact .ite (.pure _) .no
theorem d8L(cx:Cx)(ty:Nat)(x ix y:V):x7 (b2l cx ty x ix y):=by
 unfold b2l;cases cx.M ty with
 | none=>exact .no
 | some q =>
  obtain ⟨kt,m,z⟩:=q;cases x<;>try exact x7.no
  cases ix<;>try exact x7.no
  rename_i g j ks;simp only;cases a1t ks with
  | none=>exact .no
  | some xs =>
   refine .bind (.rd g j) fun e => ?_
   cases e<;>try exact x7.no
   exact .ite (.pure _) .no
theorem e2s(cx:Cx)(grp:Nat)(ob:Oper)(t:List V)(A:L8):x7 (opM cx grp ob t A):=by
 unfold opM;cases ob.op<;>try exact x7.lift _
 case buildSlice ty len parts=>cases A<;>first|exact e34 _ _ _ _ _ _ _|exact e3a _ _ _ _ _ _
 case makeSlice ty l c=>cases A<;>first|exact e7n _ _ _ _ _ _ _|exact x7.lift _
 case load ty x=>cases A<;>first|exact d2J _ _ _ _ _|exact d3w _ _ _ _ _|exact e3G _ _ _ _|exact e0S _ _ _ _
 case store ty x y =>
  cases ob.dst
  ·cases A<;>first|exact d1k _ _ _ _ _ _ _|exact d3A _ _ _ _ _ _ _|exact d60 _ _ _ _ _
  ·exact .no
 case makeMap ty r=>cases r<;>exact x7.lift _
 case lookup ty x ix ok=>cases ok<;>first|exact e3V _ _ _ _|exact x7.lift _
 case mapUpdate ty x ix y =>
  cases ob.dst
  ·exact d8L _ _ _ _ _
  ·exact .no
 case call c =>
  obtain ⟨callee,args,tys⟩:=c;simp only;split
  ·refine .ite ?_ .no;cases A<;>first|exact d9J _ _ _ _ _|exact e3B _ _ _ _ _ _
  ·exact d8O _ _ _ _
  ·cases s5 t _<;>first|exact d3l _ _ _ _ _|exact x7.no
  ·exact .lift _
theorem e39(cx:Cx)(grp:Nat)(ob:Oper)(t:List V)(A:I7):x7 (a81 cx grp ob t A):=.bind (e2s _ _ _ _ _) fun o=>.lift _
theorem c8B{t t':List V}:∀{xs:List Operand},(∀x∈xs,s5 t' x=s5 t x)->xs.map (s5 t')=xs.map (s5 t)
 | [],_=>rfl
 | x::xs,h=>by simp only [e84];rw [h x (by simp),c8B fun y hy=>h y (by simp [hy])]
theorem b9K{t t':List V}:∀{ps:List (Nat×Operand)},(∀x∈ps.map (·.2),s5 t' x=s5 t x)->(ps.map fun (i,x)=>(i,s5 t' x))=(ps.map fun (i,x)=>(i,s5 t x))
 | [],_=>rfl
 | p::ps,h=>by
  simp only [e84];rw [h p.2 (by simp),b9K fun y hy=>h y (by simp [hy])]
theorem c6w{t t':List V}{o:Option Operand}(h:∀x∈o.toList,s5 t' x=s5 t x):o.map (s5 t')=o.map (s5 t):=by
 cases o with
 | none=>rfl
 | some x=>simp only [e9w];rw [h x (by simp)]
theorem d4v{cx:Cx}{op:Op}{t t':List V}{A:L8}(h:∀x∈op.operands.toList,s5 t' x=s5 t x):Q5 cx op t' A=Q5 cx op t A:=by
 cases op<;>try rfl
 case makeFunc fn first captured=>cases fn<;>rfl
 case move x=>simp only [Q5];rw [h x (by simp [Op.operands])]
 case assign x=>simp only [Q5];rw [h x (by simp [Op.operands])]
 case pick c x y=>simp only [Q5];rw [h c (by simp [Op.operands]),h x (by simp [Op.operands]),h y (by simp [Op.operands])]
 case nilCheck x=>simp only [Q5];rw [h x (by simp [Op.operands])]
 case binOp o ty x y ty'=>simp only [Q5];rw [h x (by simp [Op.operands]),h y (by simp [Op.operands])]
 case unOp o ty x=>simp only [Q5];rw [h x (by simp [Op.operands])]
 case convert s d x=>simp only [Q5];rw [h x (by simp [Op.operands])]
 case extract x k=>simp only [Q5];rw [h x (by simp [Op.operands])]
 case field ty x f=>simp only [Q5];rw [h x (by simp [Op.operands])]
 case fieldAddr ty x f=>simp only [Q5];rw [h x (by simp [Op.operands])]
 case build ty parts=>simp only [Q5];rw [b9K (by simpa [Op.operands] using h)]
 case indexAddr ty x y=>simp only [Q5];rw [h x (by simp [Op.operands]),h y (by simp [Op.operands])]
 case index ty x y=>simp only [Q5];rw [h x (by simp [Op.operands]),h y (by simp [Op.operands])]
 case slice ty x lo hi mx =>
  cases mx with
  | some m=>rfl
  | none =>
   simp only [Q5];rw [h x (by simp [Op.operands]),c6w (o:=lo) (fun y hy=>h y (by simp [Op.operands] at hy ⊢;simp [hy])),c6w (o:=hi) (fun y hy=>h y (by simp [Op.operands] at hy ⊢;simp [hy]))]
 case call c =>
  obtain ⟨callee,args,tys⟩:=c;simp only [Q5];cases callee with
  | value x=>rfl
  | invoke x m=>rfl
  | builtin b =>
   have ha:∀x∈args.toList,s5 t' x=s5 t x:=fun x hx=>h x (by simpa [Op.operands,Call.operands] using hx)
   cases b<;>try rfl
   all_goals
    generalize args.toList=al at ha;generalize tys.toList=tl;rcases al with _|⟨s,_|⟨x,_|⟨y,al⟩⟩⟩<;>rcases tl with _|⟨ty,_|⟨ty',tl⟩⟩<;>try rfl
    all_goals simp only [ha s (by simp)]
    all_goals try simp only [ha x (by simp)]
theorem e67{cx:Cx}{grp:Nat}{ob:Oper}{t t':List V}{A:L8}(h:∀x∈ob.op.operands.toList,s5 t' x=s5 t x):opM cx grp ob t' A=opM cx grp ob t A:=by
 have hp:=d4v (cx:=cx) (A:=A) h;unfold opM;cases ho:ob.op<;>rw [ho] at h hp<;>simp only [hp]
 case box e x=>rw [h x (by simp [Op.operands])]
 case buildSlice ty len parts=>rw [b9K (by simpa [Op.operands] using h)]
 case makeSlice ty l c=>rw [h l (by simp [Op.operands]),h c (by simp [Op.operands])]
 case load ty x=>rw [h x (by simp [Op.operands])]
 case store ty x y=>rw [h x (by simp [Op.operands]),h y (by simp [Op.operands])]
 case makeMap ty r=>cases r<;>simp only [hp]
 case lookup ty x ix ok =>
  have h1:=h x (by simp [Op.operands]);have h2:=h ix (by simp [Op.operands]);cases ok<;>simp only [hp,h1,h2]
 case mapUpdate ty x ix y=>rw [h x (by simp [Op.operands]),h ix (by simp [Op.operands]),h y (by simp [Op.operands])]
 case call c =>
  obtain ⟨callee,args,tys⟩:=c;cases callee with
  | invoke x m=>rfl
  | value fop =>
   have h1:s5 t' fop=s5 t fop:=h fop (by simp [Op.operands,Call.operands]);have h2:args.toList.map (s5 t')=args.toList.map (s5 t):=c8B fun x hx=>h x (by simp [Op.operands,Call.operands] at hx ⊢;simp [hx])
   simp only [h1,h2]
  | builtin b =>
   have ha:∀x∈args.toList,s5 t' x=s5 t x:=fun x hx=>h x (by simpa [Op.operands,Call.operands] using hx)
   cases b<;>try rfl
   all_goals
    generalize args.toList=al at ha;generalize tys.toList=tl;rcases al with _|⟨s,_|⟨x,_|⟨y,al⟩⟩⟩<;>rcases tl with _|⟨ty,_|⟨ty',_|⟨ty3,tl⟩⟩⟩<;>try rfl
    all_goals simp only [ha s (by simp),ha x (by simp)]
theorem c63{t:List V}{dst:Option Nat}{v:V}{x:Operand}(h:∀d,dst=some d->x ≠ .tmp d):s5 (P5 t dst v) x=s5 t x:=by
 cases dst with
 | none=>rfl
 | some d =>
  cases x with
  | tmp k =>
   have:d≠k:=fun q=>h d rfl (by rw [q])
   simp [s5,P5,e8U this]
  | _=>rfl
theorem e0a{S:St}{g j g' j':Nat}{e e':r9}(h:¬(g=g'/\j=j')):(S.setE g j e).setE g' j' e'=(S.setE g' j' e').setE g j e:=by
 by_cases q:g=g'
 ·subst q;have hj:j≠j':=fun z=>h ⟨rfl,z⟩
  cases hx:S.h[g]? with
  | none=>unfold St.setE;simp [hx]
  | some o=>cases o with
   | none=>unfold St.setE;simp [hx]
   | some l =>
    have hlt:=(e8I.1 hx).1;rw [a2n hx,a2n hx,a2n (l:=l.set j e) (by simp [hlt]),a2n (l:=l.set j' e') (by simp [hlt])];simp only [List.set_set];rw [List.set_comm _ _ hj]
 ·unfold St.setE;cases hx:S.h[g]? with
  | none =>
   cases hy:S.h[g']? with
   | none=>simp [hx,hy]
   | some o=>cases o with
    | none=>simp [hx,hy]
    | some l=>simp [hx,hy,e8U (Ne.symm q)]
  | some o=>cases o with
   | none =>
    cases hy:S.h[g']? with
    | none=>simp [hx,hy]
    | some o=>cases o with
     | none=>simp [hx,hy]
     | some l=>simp [hx,hy,e8U (Ne.symm q)]
   | some l =>
    cases hy:S.h[g']? with
    | none=>simp [hx,hy,e8U q]
    | some o=>cases o with
     | none=>simp [hx,hy,e8U q]
     | some l'=>simp [hx,hy,e8U q,e8U (Ne.symm q),List.set_comm _ _ q]
theorem c95{g j:Nat}{e:r9}:∀{us:List M2} {S:St},(∀u∈us,¬(g=u.1.1/\j=u.1.2))->(S.setE g j e).upds us=(S.upds us).setE g j e
 | [],_,_=>rfl
 | ((g',j'),e')::us,S,h=>by
  simp only [St.upds];rw [e0a (h ((g',j'),e') (by simp)),c95 fun u hu=>h u (by simp [hu])]
theorem b1z:∀{us vs:List M2} {S:St},(∀u∈us,∀v∈vs,u.1≠v.1)->(S.upds us).upds vs=(S.upds vs).upds us
 | [],_,_,_=>rfl
 | ((g,j),e)::us,vs,S,h=>by
  simp only [St.upds];rw [b1z fun u hu=>h u (by simp [hu]),c95 fun v hv q=>h ((g,j),e) (by simp) v hv (Prod.ext q.1 q.2)]
theorem d7G{S:St}{g g':Nat}{n n':List r9}(h:g≠g'):(S.lay g n).lay g' n'=(S.lay g' n').lay g n:=by
 simp [St.lay,List.set_comm _ _ h]
theorem d7h{t:List V}{d d':Option Nat}{v v':V}(h:∀k,d=some k->d'≠some k):P5 (P5 t d v) d' v'=P5 (P5 t d' v') d v:=by
 cases d with
 | none=>rfl
 | some k=>cases d' with
  | none=>rfl
  | some k' =>
   have:k≠k':=fun q=>h k rfl (by rw [q])
   simp [P5,List.set_comm _ _ this]
def a2K(S:St)(t:List V):St:={S with t:=t}
def hp(S:St)(grp:Nat)(o:A5):St:=match o.new with
 | none=>S.upds o.upd
 | some new=>(S.upds o.upd).lay grp new
theorem b9m(S:St)(grp:Nat)(dst:Option Nat)(o:A5):S.apply grp dst o=a2K (hp S grp o) (P5 S.t dst o.v):=by
 unfold St.apply hp a2K;cases o.new with
 | none=>simp only [St.upds_t]
 | some new=>simp only [St.lay,St.upds_t]
theorem d5M(S:St)(t:List V)(g j:Nat)(e:r9):(a2K S t).setE g j e=a2K (S.setE g j e) t:=by
 unfold a2K St.setE;simp only;split<;>rfl
theorem c04(t:List V):∀(us:List M2) (S:St),(a2K S t).upds us=a2K (S.upds us) t
 | [],_=>rfl
 | ((g,j),e)::us,S=>by simp only [St.upds];rw [d5M,c04]
theorem d2L(S:St)(t:List V)(grp:Nat)(o:A5):hp (a2K S t) grp o=a2K (hp S grp o) t:=by
 unfold hp;cases o.new with
 | none=>simp only [c04]
 | some new=>simp only [c04];rfl
theorem d7a{S:St}{g g':Nat}{o o':A5}(hg:g≠g')(h1:∀u∈o.upd,∀v∈o'.upd,u.1≠v.1)(h2:∀u∈o.upd,u.1.1≠g')(h3:∀u∈o'.upd,u.1.1≠g):hp (hp S g o) g' o'=hp (hp S g' o') g o:=by
 unfold hp;cases o.new with
 | none=>cases o'.new with
  | none=>simp only;exact b1z h1
  | some n'=>simp only;rw [<-a9y o.upd _ h2,b1z h1]
 | some n=>cases o'.new with
  | none=>simp only;rw [<-a9y o'.upd _ h3,b1z h1]
  | some n' =>
   simp only;rw [<-a9y o'.upd _ h3,<-a9y o.upd _ h2,b1z h1,d7G hg]
theorem d5G{S:St}{grp:Nat}{o:A5}{g j:Nat}(h1:g≠grp)(h2:∀u∈o.upd,u.1≠(g,j)):(hp S grp o).ent g j=S.ent g j:=by
 have:(S.upds o.upd).ent g j=S.ent g j:=by
  refine b7I ?_;unfold a89;rw [List.all_eq_true];intro u hu;have:=h2 u hu;simp only [e9t,Bool.and_eq_false_iff,beq_eq_false_iff_ne];by_cases q:g=u.1.1
  ·right
   intro z;exact this (Prod.ext q.symm z.symm)
  ·exact .inl q
 unfold hp;cases o.new with
 | none=>exact this
 | some new=>simp only;rw [a6D h1];exact this
section
variable {cx:Cx} {ops:Array Oper} {base:Nat} {A:Nat->I7}
theorem c5n{i:Nat}{S S':St}{ps:List Prop}{ft:W0}(h:X0 cx ops base A i S=some (S',ps,ft)):∃o out,ops[i]?=some o/\S'=S.apply (base+i) o.dst out/\ft.wr=out.upd.map (·.1)/\
  ∀T:St,(∀x∈o.op.operands.toList,s5 T.t x=s5 S.t x)->a5b ops o T.t=a5b ops o S.t->(∀id∈ft.rd,T.ent id.1 id.2=S.ent id.1 id.2)->X0 cx ops base A i T=some (T.apply (base+i) o.dst out,ps,ft):=by
 unfold X0 at h;split at h<;>try (cases h;done)
 rename_i o ho;split at h<;>try (cases h;done)
 ·rename_i hw;split at h<;>try (cases h;done)
  rename_i out lg hop;injection h with h;injection h with h1 h2;injection h2 with h2 h3;subst h1;subst h2;subst h3;refine ⟨o,out,ho,rfl,rfl,?_⟩;intro T hx hwT hent;have hst:a81 cx (base+i) o T.t (A i)=a81 cx (base+i) o S.t (A i):=by
   unfold a81;rw [e67 hx]
  have:=e39 cx (base+i) o S.t (A i) S.ent T.ent out lg hop hent;unfold X0;rw [ho];simp only [hwT,hw,hst,this]
 ·rename_i hw;injection h with h;injection h with h1 h2;injection h2 with h2 h3;subst h1;subst h2;subst h3;refine ⟨o,{v:=.tup []},ho,rfl,rfl,?_⟩;intro T hx hwT hent;unfold X0;rw [ho];simp only [hwT,hw];rfl
structure Ind(ops:Array Oper)(base:Nat)(x i:Nat)(f1 f2:W0):Prop where
 ne:x≠i
 apart:∀o1 o2,ops[x]?=some o1->ops[i]?=some o2->o1.apart ops o2=true
 w1:∀id∈f1.wr,id ∉ f2.rd/\id ∉ f2.wr
 w2:∀id∈f2.wr,id ∉ f1.rd
 g1:∀id∈f2.rd++f2.wr,id.1≠base+x
 g2:∀id∈f1.rd++f1.wr,id.1≠base+i
theorem c4m{o:Oper}{x:Operand}(hx:x∈o.op.operands.toList){d:Nat}(hd:d ∉ o.looksAt ops):x ≠ .tmp d:=by
 intro q;subst q;apply hd;unfold Oper.looksAt;exact List.mem_append.2 (.inl (List.mem_filterMap.2 ⟨_,hx,rfl⟩))
theorem c7z{o:Oper}{t:List V}{dst:Option Nat}{v:V}(hd:∀d,dst=some d->d ∉ o.looksAt ops):a5b ops o (P5 t dst v)=a5b ops o t:=by
 unfold a5b;split
 ·rfl
 ·rename_i j want hg;cases hj:(ops[j]?).bind (·.dst) with
  | none=>rfl
  | some d =>
   simp only;cases dst with
   | none=>rfl
   | some k =>
    have hk:k≠d:=by
     intro q;subst q;apply hd k rfl;unfold Oper.looksAt;rw [hg];exact List.mem_append.2 (.inr (by simp [hj]))
    simp only [P5,e8U hk]
theorem b3R{S:St}{grp:Nat}{dst:Option Nat}{o:A5}:(S.apply grp dst o).t=P5 S.t dst o.v:=by rw [b9m];rfl
theorem c4y{S:St}{grp:Nat}{dst:Option Nat}{o:A5}{g j:Nat}(h1:g≠grp)(h2:(g,j) ∉ o.upd.map (·.1)):(S.apply grp dst o).ent g j=S.ent g j:=by
 rw [b9m];show (hp S grp o).ent g j=_
 exact d5G h1 fun u hu q=>h2 (List.mem_map.2 ⟨u,hu,q⟩)
theorem e76{x i:Nat}{S S1 S2:St}{p1 p2:List Prop}{f1 f2:W0}(hx:X0 cx ops base A x S=some (S1,p1,f1))(hi:X0 cx ops base A i S1=some (S2,p2,f2))(h:Ind ops base x i f1 f2) :
  ∃S1',X0 cx ops base A i S=some (S1',p2,f2)/\X0 cx ops base A x S1'=some (S2,p1,f1):=by
 obtain ⟨o1,out1,ho1,rfl,hw1,hr1⟩:=c5n hx;obtain ⟨o2,out2,ho2,rfl,hw2,hr2⟩:=c5n hi;obtain ⟨a1,a2,a3⟩:=Oper.apart_spec (h.apart o1 o2 ho1 ho2);have e1:=hr2 S (fun z hz=>by rw [b3R,c63 fun d hd=>c4m (ops:=ops) hz (a1 d hd)]) (by rw [b3R,c7z a1]) (fun id hid=>by
  refine (c4y (h.g1 id (List.mem_append.2 (.inl hid))) ?_).symm;rw [<-hw1];exact fun q=>(h.w1 id q).1 hid)
 refine ⟨_,e1,?_⟩;have e2:=hr1 (S.apply (base+i) o2.dst out2) (fun z hz=>by rw [b3R,c63 fun d hd=>c4m (ops:=ops) hz (a3 d hd)]) (by rw [b3R,c7z a3]) (fun id hid=>by
  refine c4y (h.g2 id (List.mem_append.2 (.inl hid))) ?_;rw [<-hw2];exact fun q=>h.w2 id q hid)
 rw [e2];congr 2
 simp only [b9m,d2L];have hh:hp (hp S (base+x) out1) (base+i) out2=hp (hp S (base+i) out2) (base+x) out1:=by
  refine d7a (fun q=>h.ne (by omega)) ?_ ?_ ?_
  ·intro u hu v hv q;have m1:u.1∈f1.wr:=by rw [hw1];exact List.mem_map.2 ⟨u,hu,rfl⟩
   have m2:v.1∈f2.wr:=by rw [hw2];exact List.mem_map.2 ⟨v,hv,rfl⟩
   exact (h.w1 _ m1).2 (q▸m2)
  ·intro u hu;exact h.g2 _ (List.mem_append.2 (.inr (by rw [hw1];exact List.mem_map.2 ⟨u,hu,rfl⟩)))
  ·intro u hu;exact h.g1 _ (List.mem_append.2 (.inr (by rw [hw2];exact List.mem_map.2 ⟨u,hu,rfl⟩)))
 rw [hh];unfold a2K;simp only;rw [d7h (fun k hk q=>a2 k hk q)]
abbrev Rc:=Nat->List Prop×W0
theorem c4a{rc:Rc}{i:Nat}:∀{l m:List Nat} {S S':St},(∀x∈l,Ind ops base x i (rc x).2 (rc i).2)->a0s cx ops base A (l++i::m) S=some (S',(l++i::m).map rc)->a0s cx ops base A (i::(l++m)) S=some (S',(i::(l++m)).map rc)
 | [],m,S,S',_,h=>h
 | x::l,m,S,S',hind,h=>by
  obtain ⟨S1,r,rs,h1,h2,h3⟩:=a98 h;simp only [f0c,e84] at h3;injection h3 with h3 h4;subst h3;subst h4;have h5:=c4a (fun y hy=>hind y (by simp [hy])) h2;obtain ⟨S2,r2,rs2,h6,h7,h8⟩:=a98 h5;simp only [e84] at h8;injection h8 with h8 h9;subst h8;subst h9;obtain ⟨S1',e1,e2⟩:=e76 (p1:=(rc x).1) (f1:=(rc x).2) (p2:=(rc i).1) (f2:=(rc i).2) h1 h6 (hind x (by simp));have e2':X0 cx ops base A x S1'=some (S2,rc x):=e2;have e1':X0 cx ops base A i S=some (S1',rc i):=e1;simp only [f0c,a0s,e1',e2',h7,e84]
end
def a11(ops:Array Oper)(i:Nat):List Nat :=
 match ops[i]? with
 | some o=>(o.after.toList.filter (Region.binds .any)).map (·.on)
 | none=>[]
def a2J(ops:Array Oper):Nat->List (List Nat)
 | 0=>[]
 | k+1=>let L:=a2J ops k;L++[(a11 ops k).flatMap fun e=>e::L.getD e []]
def a6R(ops:Array Oper)(i:Nat):List Nat:=(a2J ops (i+1)).getD i []
theorem a7r(ops:Array Oper):∀k,(a2J ops k).length=k
 | 0=>rfl
 | k+1=>by simp [a2J,a7r ops k]
theorem b8N(ops:Array Oper)(i:Nat):∀k,i<k->(a2J ops k).getD i []=a6R ops i
 | k+1,h=>by
  by_cases q:i=k
  ·subst q;rfl
  ·have:i<k:=by omega
   rw [<-b8N ops i k this];simp only [a2J,e8Q];rw [e8Y (by rw [a7r];exact this)]
theorem e3t(ops:Array Oper)(i:Nat):a6R ops i=(a11 ops i).flatMap fun e=>e::(a2J ops i).getD e []:=by
 unfold a6R;simp only [a2J,e8Q];rw [e8T (by rw [a7r];omega),a7r];simp
theorem c4t{ops:Array Oper}{W6:Array Bool}{i:Nat}(h:i∈Region.ready .any ops W6):i<ops.size/\W6.getD i true=false/\∀e∈a11 ops i,W6.getD e false=true:=by
 unfold Region.ready at h;obtain ⟨h1,h2⟩:=List.mem_filter.1 h;have hlt:=e9u.1 h1;simp only [e8G,e9t] at h2;refine ⟨hlt,h2.1,?_⟩;intro e he;unfold a11 at he;rw [Array.getElem?_eq_getElem hlt] at he h2;simp only [List.mem_map,List.mem_filter] at he;obtain ⟨ed,⟨hm,hb⟩,rfl⟩:=he;have:=h2.2;simp only [e9w,e9D,Array.all_eq_true_iff_forall_mem] at this;have:=this ed (by simpa using hm);simpa [hb] using this
theorem d8W{ops:Array Oper}{W6:Array Bool}{i:Nat}(hlt:i<ops.size)(hl:W6.getD i true=false)(he:∀e∈a11 ops i,W6.getD e false=true):i∈Region.ready .any ops W6:=by
 unfold Region.ready;refine List.mem_filter.2 ⟨e9u.2 hlt,?_⟩;rw [Array.getElem?_eq_getElem hlt];simp only [hl,e8W,e9w,e9D,e8V,Array.all_eq_true_iff_forall_mem];intro ed hm;by_cases hb:Region.binds .any ed=true
 ·have:ed.on∈a11 ops i:=by
   unfold a11;rw [Array.getElem?_eq_getElem hlt];exact List.mem_map.2 ⟨ed,List.mem_filter.2 ⟨by simpa using hm,hb⟩,rfl⟩
  simp [he _ this]
 ·simp [hb]
section
variable {cx:Cx} {Γ:M1} {ops:Array Oper} {base:Nat} {A:Nat->I7} {Q:Exit->Act->World->Prop} {S':St} {rc:Rc}
theorem d3x(c37:∀i,i<ops.size->∀e∈a11 ops i,e<i)(hind:∀x i,x<i->i<ops.size->x ∉ a6R ops i->Ind ops base x i (rc x).2 (rc i).2)(hob:∀i,i<ops.size->∀p∈(rc i).1,p)(hQ:∀a' w' F' ι',t0 Γ F' ι' S' a' w'->Q .normal a' w'):∀(fuel:Nat) (R:List Nat) (W6:Array Bool) (S:St) (F:Nat->Prop) (ι:Nat->Nat->Value) (a:Act) (w:World),
  R.length=fuel->W6.size=ops.size->R.Pairwise (· < ·)->(∀i,i<ops.size->(W6.getD i true=false↔i∈R))->(∀i∈R,i<ops.size)->(∀i,i<ops.size->i ∉ R->∀x∈a6R ops i,x ∉ R)->
  t0 Γ F ι S a w->(∀i∈R,base+i<S.h.length/\¬S.D (base+i))->a0s cx ops base A R S=some (S',R.map rc)->wpAny cx.P .any ops Q fuel W6 a w:=by
 intro fuel;induction fuel with
 | zero =>
  intro R W6 S F ι a w hR hsz hpw hlist hlt hdown hrel hfree hrun;have:R=[]:=e8N hR;subst this;unfold a0s at hrun;injection hrun with hrun;injection hrun with h1 h2;subst h1;refine ⟨?_,hQ _ _ _ _ hrel⟩;rw [List.eq_nil_iff_forall_not_mem];intro i hi;obtain ⟨h1,h2,_⟩:=c4t hi;have:=(hlist i h1).1 h2;simp at this
 | succ fuel ih =>
  intro R W6 S F ι a w hR hsz hpw hlist hlt hdown hrel hfree hrun;refine ⟨fun e0V => ?_,fun i hi => ?_⟩
  ·exfalso
   cases R with
   | nil=>simp at hR
   | cons r R =>
    have hr:=hlt r (by simp);have hrd:r∈Region.ready .any ops W6:=by
     refine d8W hr ((hlist r hr).2 (by simp)) ?_;intro e he;have hlt':=c37 r hr e he;have hen:e ∉ r::R:=by
      intro q;rcases e8K.1 q with q|q
      ·omega
      ·have:=(e9G.1 hpw).1 e q;omega
     have:=mt (hlist e (by omega)).1 hen;have hes:e<W6.size:=by omega
     simp only [Array.getD_eq_getD_getElem?,Array.getElem?_eq_getElem hes,e9D] at this ⊢;simpa using this
    rw [e0V] at hrd;simp at hrd
  ·obtain ⟨hi1,hi2,hi3⟩:=c4t hi;have hiR:=(hlist i hi1).1 hi2;obtain ⟨A1,B1,hAB⟩:=List.append_of_mem hiR;have hpw':=hpw;rw [hAB] at hpw';obtain ⟨hpA,hpB,hpAB⟩:=e9R.1 hpw';have hcl:∀x∈a6R ops i,x ∉ R:=by
    intro x hx;rw [e3t] at hx;obtain ⟨e,he,hx⟩:=List.mem_flatMap.1 hx;have hel:=c37 i hi1 e he;have heR:e ∉ R:=by
     intro q;have h1:=(hlist e (by omega)).2 q;have h2:=hi3 e he;have hes:e<W6.size:=by omega
     simp only [Array.getD_eq_getD_getElem?,Array.getElem?_eq_getElem hes,e9D] at h1 h2;rw [h1] at h2;cases h2
    rcases e8K.1 hx with rfl|hx
    ·exact heR
    ·rw [b8N ops e i hel] at hx;exact hdown e (by omega) heR x hx
   have hfront:=c4a (cx:=cx) (A:=A) (rc:=rc) (i:=i) (l:=A1) (m:=B1) (S:=S) (S':=S') (fun x hx=>by
    have hxR:x∈R:=by rw [hAB];simp [hx]
    exact hind x i (hpAB x hx i (by simp)) hi1 (fun q=>hcl x q hxR)) (by rw [<-hAB];exact hrun)
   obtain ⟨S1,r,rs,h1,h2,h3⟩:=a98 hfront;simp only [e84] at h3;injection h3 with h3 h4;subst h3;subst h4;obtain ⟨hD,hl⟩:=d1R (ps:=(rc i).1) (ft:=(rc i).2) h1;refine c6S hrel (hfree i hiR).1 (hfree i hiR).2 (ps:=(rc i).1) (ft:=(rc i).2) h1 (hob i hi1) fun a' w' F' ι' hrel' => ?_
   have hsub:∀j,j∈A1++B1↔(j∈R/\j≠i):=by
    intro j;rw [hAB];simp only [List.mem_append,e8K];constructor
    ·intro hj;refine ⟨by rcases hj with q|q<;>simp [q],?_⟩;rintro rfl
     rcases hj with q|q
     ·have:=hpAB j q j (by simp);omega
     ·have:=(e9G.1 hpB).1 j q;omega
    ·rintro ⟨q|rfl|q,hne⟩
     ·exact .inl q
     ·exact absurd rfl hne
     ·exact .inr q
   refine ih (A1++B1) _ S1 F' ι' a' w' ?_ (by simp [hsz]) ?_ ?_ ?_ ?_ hrel' ?_ h2
   ·rw [hAB] at hR;simp at hR ⊢;omega
   ·refine e9R.2 ⟨hpA,(e9G.1 hpB).2,fun x hx y hy=>hpAB x hx y (by simp [hy])⟩
   ·intro j hj;rw [hsub];have hjs:j<W6.size:=by omega
    simp only [Array.getD_eq_getD_getElem?];by_cases q:j=i
    ·subst q;simp [hjs]
    ·rw [Array.getElem?_setIfInBounds_ne (Ne.symm q),<-hlist j hj,Array.getD_eq_getD_getElem?];simp [q]
   ·intro j hj;exact hlt j ((hsub j).1 hj).1
   ·intro j hj hjn x hx hxm;have hxR:=((hsub x).1 hxm).1;by_cases q:j=i
    ·subst q;exact hcl x hx hxR
    ·exact hdown j hj (fun z=>hjn ((hsub j).2 ⟨z,q⟩)) x hx hxR
   ·intro j hj;have hjR:=((hsub j).1 hj)
    refine ⟨by rw [hl];exact (hfree j hjR.1).1,fun x => ?_⟩;rcases hD _ x with y|y
    ·exact (hfree j hjR.1).2 y
    ·exact hjR.2 (by omega)
end
def b6M(l:List Nat)(x:Nat):Bool:=l.any fun y=>y==x
theorem d6Z{l:List Nat}{x:Nat}:b6M l x=true↔x∈l:=by
 unfold b6M;rw [e9W];constructor
 ·rintro ⟨y,hy,h⟩
  simp at h;exact h▸hy
 ·intro h;exact ⟨x,h,by simp⟩
def dnN:List Nat->List Nat
 | []=>[]
 | x::xs=>if b6M (dnN xs) x then dnN xs else x::dnN xs
theorem c0t{x:Nat}:∀{l:List Nat},x∈dnN l->x∈l
 | y::l,h=>by
  unfold dnN at h;split at h
  ·exact e8K.2 (.inr (c0t h))
  ·rcases e8K.1 h with rfl|h
   ·simp
   ·exact e8K.2 (.inr (c0t h))
def a7S(ops:Array Oper):Nat->List (List Nat)
 | 0=>[]
 | k+1=>let L:=a7S ops k;L++[dnN ((a11 ops k).flatMap fun e=>e::L.getD e [])]
theorem b6X(ops:Array Oper):∀k,(a7S ops k).length=k
 | 0=>rfl
 | k+1=>by simp [a7S,b6X ops k]
theorem c1h(ops:Array Oper):∀k i,∀x∈(a7S ops k).getD i [],x∈(a2J ops k).getD i []
 | 0,i,x,h=>by simp [a7S] at h
 | k+1,i,x,h=>by
  simp only [a7S,a2J,e8Q] at h ⊢;by_cases q:i<k
  ·rw [e8Y (by rw [b6X];exact q)] at h;rw [e8Y (by rw [a7r];exact q)];have:=c1h ops k i x (by rw [e8Q];exact h);rwa [e8Q] at this
  ·rw [e8T (by rw [b6X];omega),b6X] at h;rw [e8T (by rw [a7r];omega),a7r];by_cases q':i=k
   ·subst q';simp only [Nat.sub_self,e9Z,e9D] at h ⊢;obtain ⟨e,he,hx⟩:=List.mem_flatMap.1 (c0t h);refine List.mem_flatMap.2 ⟨e,he,?_⟩;rcases e8K.1 hx with rfl|hx
    ·simp
    ·have:=c1h ops i e x (by rw [e8Q];exact hx);rw [e8Q] at this;exact e8K.2 (.inr this)
   ·have:i-k=(i-k-1)+1:=by omega
    rw [this] at h;simp at h
def c0d(ops:Array Oper)(base x i:Nat)(f1 f2:W0):Bool :=
  (match ops[x]?,ops[i]? with
   | some o1,some o2=>o1.apart ops o2
   | _,_=>false) &&
  f1.wr.all (fun id => !a03 f2.rd id && !a03 f2.wr id)&&f2.wr.all (fun id => !a03 f1.rd id) &&
  f2.rd.all (fun id => !(id.1==base+x))&&f2.wr.all (fun id => !(id.1==base+x)) &&
  f1.rd.all (fun id => !(id.1==base+i))&&f1.wr.all (fun id => !(id.1==base+i))
theorem b7Z{l:List (Nat×Nat)}{x:Nat×Nat}(h:(!a03 l x)=true):x ∉ l:=by
 intro q;rw [a5n.2 q] at h;cases h
theorem e6N{ops:Array Oper}{base x i:Nat}{f1 f2:W0}(hne:x<i)(h:c0d ops base x i f1 f2=true):Ind ops base x i f1 f2:=by
 unfold c0d at h;simp only [e8G] at h;obtain ⟨⟨⟨⟨⟨⟨h1,h2⟩,h3⟩,h4⟩,h5⟩,h6⟩,h7⟩:=h;refine ⟨by omega,?_,?_,?_,?_,?_⟩
 ·intro o1 o2 e1 e2;rw [e1,e2] at h1;exact h1
 ·intro id hid;have:=List.all_eq_true.1 h2 id hid;simp only [e8G] at this;exact ⟨b7Z this.1,b7Z this.2⟩
 ·intro id hid;exact b7Z (List.all_eq_true.1 h3 id hid)
 ·intro id hid;rcases List.mem_append.1 hid with q|q
  ·have:=List.all_eq_true.1 h4 id q;simpa using this
  ·have:=List.all_eq_true.1 h5 id q;simpa using this
 ·intro id hid;rcases List.mem_append.1 hid with q|q
  ·have:=List.all_eq_true.1 h6 id q;simpa using this
  ·have:=List.all_eq_true.1 h7 id q;simpa using this
def d0d(ops:Array Oper)(base:Nat)(L:List (List Nat))(fs:List W0):Bool :=
 (e8M ops.size).all fun i =>
  (a11 ops i).all (fun e=>Nat.blt e i) &&
  (e8M i).all fun x=>b6M (L.getD i []) x||c0d ops base x i (fs.getD x ⟨[],[]⟩) (fs.getD i ⟨[],[]⟩)
def c2n(A:List (Nat×I7))(i:Nat):I7 :=
 match A with
 | []=>{}
 | (j,x)::A=>if j==i then x else c2n A i
def b3S:List (List Prop×W0)->List Prop
 | []=>[]
 | r::rs=>r.1++b3S rs
theorem c3A{rs:List (List Prop×W0)}(h:∀p∈b3S rs,p):∀r∈rs,∀p∈r.1,p:=by
 induction rs with
 | nil=>intro r hr;cases hr
 | cons r rs ih =>
  intro r' hr p hp;rcases e8K.1 hr with rfl|hr
  ·exact h p (List.mem_append.2 (.inl hp))
  ·exact ih (fun p hp=>h p (List.mem_append.2 (.inr hp))) r' hr p hp
def a2U:Nat->List (Option (List r9))
 | 0=>[]
 | n+1=>none::a2U n
theorem c7D:∀(n i:Nat) (l:List r9),(a2U n)[i]?≠some (some l)
 | 0,i,l=>by simp [a2U]
 | n+1,0,l=>by simp [a2U]
 | n+1,i+1,l=>by simpa [a2U] using c7D n i l
theorem c26:∀n,(a2U n).length=n
 | 0=>rfl
 | n+1=>by simp [a2U,c26 n]
def St.more(S:St)(n:Nat):St:={S with h:=S.h++a2U n}
theorem b7g{S:St}{n g:Nat}{l:List r9}:(S.more n).h[g]?=some (some l)↔S.h[g]?=some (some l):=by
 unfold St.more;simp only;by_cases q:g<S.h.length
 ·rw [e8Y q]
 ·rw [e8T (by omega)];constructor
  ·intro h;exact absurd h (c7D _ _ _)
  ·intro h;have:=(e8I.1 h).1;omega
theorem a9d{S:St}{n g:Nat}:(S.more n).D g↔S.D g:=by
 unfold St.D;constructor
 ·rintro ⟨l,h⟩
  exact ⟨l,b7g.1 h⟩
 ·rintro ⟨l,h⟩
  exact ⟨l,b7g.2 h⟩
theorem b1m{S:St}{n g j:Nat}:(S.more n).ent g j=S.ent g j:=by
 have key:∀e,(S.more n).ent g j=some e↔S.ent g j=some e:=by
  intro e;constructor
  ·intro h;obtain ⟨l,hl⟩:=St.D_of_ent h;rw [a0Z hl] at h;rw [a0Z (b7g.1 hl)];exact h
  ·intro h;obtain ⟨l,hl⟩:=St.D_of_ent h;rw [a0Z hl] at h;rw [a0Z (b7g.2 hl)];exact h
 cases h:S.ent g j with
 | some e=>exact (key e).2 h
 | none =>
  cases h':(S.more n).ent g j with
  | none=>rfl
  | some e=>rw [(key e).1 h'] at h;cases h
theorem t0.more{Γ:M1}{F:Nat->Prop}{ι:Nat->Nat->Value}{S:St}{a:Act}{w:World}(h:t0 Γ F ι S a w)(n:Nat):t0 Γ F ι (S.more n) a w :=
  { F0:=h.F0,F1:=h.F1,F2:=h.F2,kept:=h.kept
    tmps:=h.tmps.imp fun _ _ x=>x.mono (fun _ _ _=>rfl) (fun _ y=>y) (fun g y=>a9d.2 y) (fun _ _ _=>rfl)
    ents:=fun g j e he=>(h.ents g j e (b1m▸he)).mono (fun _ _ _=>rfl) (fun _ y=>y) (fun g y=>a9d.2 y) (fun _ _ _=>rfl) (fun _ _ _=>rfl)
    sep:=fun g j e k he=>h.sep g j e k (b1m▸he)
    inj:=fun g j e g' j' e' k he he'=>h.inj g j e g' j' e' k (b1m▸he) (b1m▸he')
    defers:=h.defers
    pins:=fun j c hc=>⟨a9d.2 (h.pins j c hc).1,(h.pins j c hc).2⟩}
def b9J(cx:Cx)(ops:Array Oper)(draw:Bool)(A:List (Nat×I7))(S:St):Option (St×List Prop) :=
 match a0s cx ops S.h.length (c2n A) (e8M ops.size) (S.more ops.size) with
 | none=>none
 | some (S',rs)=>if draw then (if d0d ops S.h.length (a7S ops ops.size) (rs.map (·.2)) then some (S',b3S rs) else none) else some (S',b3S rs)
section
variable {cx:Cx} {Γ:M1} {F:Nat->Prop} {ι:Nat->Nat->Value} {S S':St} {a:Act} {w:World} {ops:Array Oper} {A:List (Nat×I7)}
theorem c5K{base:Nat}{B:Nat->I7}:∀{l:List Nat} {S S':St} {rs:List (List Prop×W0)},a0s cx ops base B l S=some (S',rs)->rs.length=l.length
 | [],S,S',rs,h=>by
  unfold a0s at h;injection h with h;injection h with h1 h2;subst h2;rfl
 | i::l,S,S',rs,h=>by
  obtain ⟨S1,r,rs',h1,h2,rfl⟩:=a98 h;simp [c5K h2]
theorem d2N{α:Type}(d:α):∀{rs:List α} {n:Nat},rs.length=n->rs=(e8M n).map fun i=>rs.getD i d:=by
 intro rs n h;apply List.ext_getElem
 ·simp [h]
 ·intro i h1 h2;simp [e8Q,h1]
theorem e7q{draw:Bool}{id:Nat}{ps:List Prop}{Q:Exit->Act->World->Prop}(h:t0 Γ F ι S a w)(hr:b9J cx ops draw A S=some (S',ps))(hob:∀p∈ps,p)(hQ:∀a' w' F' ι',t0 Γ F' ι' S' a' w'->Q .normal a' w'):(Code.region id ops draw).wp cx.P Q a w:=by
 unfold b9J at hr;split at hr<;>try (cases hr;done)
 rename_i S1 rs hrun;have hfree:∀i∈e8M ops.size,S.h.length+i<(S.more ops.size).h.length/\¬(S.more ops.size).D (S.h.length+i):=by
  intro i hi;refine ⟨by simp [St.more,c26,e9u.1 hi],fun q => ?_⟩;obtain ⟨l,hl⟩:=a9d.1 q;have:=(e8I.1 hl).1;omega
 cases draw with
 | false =>
  simp only [e9A,if_false] at hr;injection hr with hr;injection hr with h1 h2;subst h1;subst h2;exact wp_region (d0Y (h.more ops.size) List.nodup_range hfree hrun (c3A hob) hQ)
 | true =>
  simp only [if_true] at hr;split at hr<;>try (cases hr;done)
  rename_i hap;injection hr with hr;injection hr with h1 h2;subst h1;subst h2;have hw:t0 Γ F ι (S.more ops.size) a {w with drawn:=w.drawn+1}:=(h.more ops.size).world ⟨rfl,rfl,rfl⟩ (e9h _) (fun _ _=>rfl);have hlen:=c5K hrun;rw [List.length_range] at hlen;have hrs:=d2N (([],⟨[],[]⟩):List Prop×W0) hlen;unfold d0d at hap;rw [List.all_eq_true] at hap;have hap':∀i,i<ops.size->(∀e∈a11 ops i,e<i)/\∀x,x<i->x ∉ a6R ops i->Ind ops S.h.length x i ((rs.getD x ([],⟨[],[]⟩)).2) ((rs.getD i ([],⟨[],[]⟩)).2):=by
   intro i hi;have:=hap i (e9u.2 hi);simp only [e8G] at this;refine ⟨fun e he => ?_,fun x hx hc => ?_⟩
   ·have:=List.all_eq_true.1 this.1 e he;rwa [Nat.blt_eq] at this
   ·have h2:=List.all_eq_true.1 this.2 x (e9u.2 hx);rcases Bool.or_eq_true_iff.1 h2 with q|q
    ·exfalso
     apply hc;have:=c1h ops ops.size i x (d6Z.1 q);rwa [b8N ops i ops.size hi] at this
    ·have:=e6N hx q;have hm:∀j,j<rs.length->(rs.map (·.2)).getD j ⟨[],[]⟩=(rs.getD j ([],⟨[],[]⟩)).2:=by
      intro j hj;simp [e8Q,hj]
     rw [hm x (by omega),hm i (by omega)] at this;exact this
  refine wp_region_any cx.mixed ?_;have hrange:∀i,i<ops.size->rs.getD i ([],⟨[],[]⟩)∈rs:=by
   intro i hi;have:i<rs.length:=by omega
   simp [e8Q,this]
  refine d3x (rc:=fun i=>rs.getD i ([],⟨[],[]⟩)) (base:=S.h.length) (A:=c2n A) (fun i hi=>(hap' i hi).1) (fun x i hx hi hc=>(hap' i hi).2 x hx hc) (fun i hi p hp=>c3A hob _ (hrange i hi) p hp) hQ
   ops.size (e8M ops.size) _ _ F ι a _ (by simp) (by simp) ?_ ?_ ?_ ?_ hw hfree ?_
  ·exact List.pairwise_lt_range
  ·intro i hi;simp [e9u,hi,Array.getD_eq_getD_getElem?]
  ·intro i hi;exact e9u.1 hi
  ·intro i hi hn;exact absurd (e9u.2 hi) hn
  ·rw [<-hrs];exact hrun
end
def mvM(t:List V):List Item->Option (List Item)
 | .code .skip::k=>some k
 | .inBlock _::k=>some k
 | .code (.seq x y)::k=>some (.code x :: .code y::k)
 | .code (.cond c x y)::k=>match s5 t c with
  | .b true=>some (.code x::k)
  | .b false=>some (.code y::k)
  | _=>none
 | .code (.block id c)::k=>some (.code c :: .inBlock id::k)
 | .code (.loop c)::k=>some (.code c :: .inLoop c::k)
 | .inLoop c::k=>some (.code c :: .inLoop c::k)
 | .code (.exit id)::k=>exitTo id k
 | _=>none
abbrev P3:=List (List (Nat×I7))
def goM(cx:Cx):Nat->List Item->St->P3->Option (List Item×St×List Prop)
 | 0,_,_,_=>none
 | n+1,k,S,sc =>
  match k with
  | .code (.region id ops draw)::k'=>match sc with
   | []=>some (k,S,[])
   | A::sc'=>match b9J cx ops draw A S with
    | some (S1,ps)=>match goM cx n k' S1 sc' with
     | some (k2,S2,qs)=>some (k2,S2,ps++qs)
     | none=>none
    | none=>none
  | k=>match mvM S.t k with
   | some k1=>goM cx n k1 S sc
   | none=>match sc with
    | []=>some (k,S,[])
    | _::_=>none
section
variable {cx:Cx} {Γ:M1} {F:Nat->Prop} {ι:Nat->Nat->Value} {S S':St} {a:Act} {w:World} {b:Frame} {cs:List Frame} {k k':List Item}
theorem e62(h:t0 Γ F ι S a w)(hm:mvM S.t k=some k'):step cx.P (lone (b.at a k) cs w)=.next (lone (b.at a k') cs w):=by
 unfold mvM at hm;split at hm
 ·injection hm with hm;subst hm;exact step_skip
 ·injection hm with hm;subst hm;exact step_inBlock
 ·injection hm with hm;subst hm;exact step_seq
 ·rename_i c x y k0;have hc:=C1 h.tmps c;split at hm<;>try (cases hm;done)
  ·rename_i hx;injection hm with hm;subst hm;rw [hx] at hc;have:=step_cond (P:=cx.P) (b:=b) (k:=k0) (cs:=cs) (w:=w) (x:=x) (y:=y) hc.inv_b;simpa using this
  ·rename_i hx;injection hm with hm;subst hm;rw [hx] at hc;have:=step_cond (P:=cx.P) (b:=b) (k:=k0) (cs:=cs) (w:=w) (x:=x) (y:=y) hc.inv_b;simpa using this
 ·injection hm with hm;subst hm;exact step_block
 ·injection hm with hm;subst hm;exact step_loop
 ·injection hm with hm;subst hm;exact step_inLoop
 ·exact step_exit hm
 ·cases hm
theorem e6m:∀{n:Nat} {k:List Item} {S:St} {F:Nat->Prop} {ι:Nat->Nat->Value} {a:Act} {w:World} {sc:P3} {ps:List Prop},t0 Γ F ι S a w->goM cx n k S sc=some (k',S',ps)->(∀p∈ps,p)->
  ∃a' w' F' ι',Steps cx.P (lone (b.at a k) cs w) (lone (b.at a' k') cs w')/\t0 Γ F' ι' S' a' w':=by
 intro n;induction n with
 | zero=>intro k S F ι a w sc ps h hg hob;cases hg
 | succ n ih =>
  intro k S F ι a w sc ps h hg hob;unfold goM at hg;split at hg
  ·rename_i id ops draw k0;split at hg
   ·injection hg with hg;injection hg with h1 h2;injection h2 with h2 h3;subst h1;subst h2;exact ⟨a,w,F,ι,.refl _ _,h⟩
   ·rename_i A sc';split at hg<;>try (cases hg;done)
    rename_i S1 qs hr;split at hg<;>try (cases hg;done)
    rename_i k2 S2 rs hg2;injection hg with hg;injection hg with h1 h2;injection h2 with h2 h3;subst h1;subst h2;subst h3;have hwp:=e7q (cx:=cx) (draw:=draw) (id:=id) (Q:=fun e a' w'=>e=.normal/\∃F' ι',t0 Γ F' ι' S1 a' w') h hr (fun p hp=>hob p (List.mem_append.2 (.inl hp)))
     (fun a' w' F' ι' hrel=>⟨rfl,F',ι',hrel⟩)
    obtain ⟨e,a1,w1,⟨he,F1,ι1,h1⟩,harr⟩:=hwp b k0 cs;subst he;obtain ⟨a2,w2,F2,ι2,hs,h2⟩:=ih h1 hg2 (fun p hp=>hob p (List.mem_append.2 (.inr hp)));exact ⟨a2,w2,F2,ι2,Steps.trans harr hs,h2⟩
  ·split at hg
   ·rename_i k1 hm;obtain ⟨a2,w2,F2,ι2,hs,h2⟩:=ih h hg hob;exact ⟨a2,w2,F2,ι2,.head (e62 h hm) hs,h2⟩
   ·split at hg<;>try (cases hg;done)
    injection hg with hg;injection hg with h1 h2;injection h2 with h2 h3;subst h1;subst h2;exact ⟨a,w,F,ι,.refl _ _,h⟩
end
structure M0 where
 f:Nat
 fn:Func
 rms:List PM
 oms:List (Option (Nat×PM))
def d0Q(w:World)(F:Nat->Prop)(fp:List Nat)(cargs:List Value)(res:V)(outs:List (Option V))(e:Ending)(w':World):Prop :=
 ∃ c F' fr fo,e=.returned c/\a25 (· ∈ fp) w w'/\(∀k,F k->F' k)/\(∀k,F' k->(F k\/k∈fp\/w.heap.size<=k)/\k<w'.heap.size)/\
   BR w' F' res c fr/\BO w' F' outs cargs fo/\(fr++fo).Nodup/\∀k∈fr++fo,¬F' k/\(k∈fp\/w.heap.size<=k)/\k<w'.heap.size
def PM.isVal:PM->Bool
 | .val .. => true
 | _=>false
def a5N(bs:List Value):List (Option Nat)->Nat->List Value->Prop
 | [],_,[]=>True
 | none::om,j,d::ds=>d.oneCell'=true/\a5N bs om j ds
 | some _::om,j,d::ds=>bs[j]?=some d/\a5N bs om (j+1) ds
 | _,_,_=>False
inductive a0R:List (Option (Nat×PM))->List Value->List Value->Prop
 | nil (bs):a0R [] [] bs
 | skip (oms c cs bs) (t:a0R oms cs bs):a0R (none::oms) (c::cs) bs
 | pin (j m oms c cs bs) (hm:m.isVal=false) (h:bs[j]?=some c) (t:a0R oms cs bs):a0R (some (j,m)::oms) (c::cs) bs
 | agg (j ck om oms ds cs bs) (h:a5N bs om j ds) (t:a0R oms cs bs):a0R (some (j,.val ck om)::oms) (.agg ds.toArray::cs) bs
def I1(cx:Cx)(X:M0)(res:V)(outs:List (Option V))(k:List Item)(S:St):Prop :=
 ∀(w0:World) (F0:Nat->Prop) (fp:List Nat) (cargs bs:List Value),a0R X.oms cargs bs->(∀k,F0 k->k<w0.heap.size)->
 ∀(F:Nat->Prop) (ι:Nat->Nat->Value) (a:Act) (w:World) (b:Frame) (cs:List Frame),t0 ⟨w0,F0,(· ∈ fp),bs⟩ F ι S a w->b.fn=X.f->b.kind=.normal->
  ∃e w' fr,d0Q w0 F0 fp cargs res outs e w'/\Comes cx.P (lone (b.at a k) cs w) (lone fr cs w') e/\fr.fn=X.f/\fr.leaving cx.P w' e
theorem I1.go{cx:Cx}{X:M0}{res:V}{outs:List (Option V)}{k k':List Item}{S S':St}{n:Nat}{sc:P3}{ps:List Prop}(hg:goM cx n k S sc=some (k',S',ps))(hob:∀p∈ps,p)(h:I1 cx X res outs k' S'):I1 cx X res outs k S:=by
 intro w0 F0 fp cargs bs hp hF0 F ι a w b cs hrel hb1 hb2;obtain ⟨a',w',F',ι',hs,hrel'⟩:=e6m (b:=b) (cs:=cs) hrel hg hob;obtain ⟨e,w2,fr,h1,h2,h3,h4⟩:=h w0 F0 fp cargs bs hp hF0 F' ι' a' w' b cs hrel' hb1 hb2;exact ⟨e,w2,fr,h1,.of_steps hs h2,h3,h4⟩
def b93(cx:Cx)(t:List V)(r:ResultVar):j6 V :=
 match r with
 | .tmp k=>j6.pure (t.getD k .bot)
 | .cell a ty=>match cx.T ty with
  | some ti=>match t.getD a .bot with
   | .ptr g j off=>j6.bind (j6.rd g j) fun e=>match e with
    | .var _ cs=>match Q3 ti (cs.drop off) with
     | some v=>j6.pure v
     | none=>j6.no
    | _=>j6.no
   | _=>j6.no
  | none=>j6.no
def b76(cx:Cx)(t:List V):List ResultVar->j6 (List V)
 | []=>j6.pure []
 | r::rs=>j6.bind (b93 cx t r) fun v=>j6.bind (b76 cx t rs) fun vs=>j6.pure (v::vs)
def b7W:List (Option Nat)->Nat->j6 (List V)
 | [],_=>j6.pure []
 | none::om,j=>j6.bind (b7W om j) fun vs=>j6.pure (.bot::vs)
 | some _::om,j=>j6.bind (j6.rd 0 j) fun e=>j6.bind (b7W om (j+1)) fun vs=>match e with
  | .row _ sz n _=>j6.pure (.own 0 j sz 0 n::vs)
  | .deep false _ sz n _=>j6.pure (.own 0 j sz 0 n::vs)
  | _=>j6.no
def a7a:List (Option (Nat×PM))->j6 (List V×List PM)
 | []=>j6.pure ([],[])
 | none::os=>a7a os
 | some (j,.val ck om)::os=>j6.bind (b7W om j) fun cs=>j6.bind (a7a os) fun x=>j6.pure (.agg cs::x.1,.val ck om::x.2)
 | some (j,m)::os=>j6.bind (j6.rd 0 j) fun e=>match m,e with
  | .ptr _ _,.var _ _=>j6.bind (a7a os) fun x=>j6.pure (.ptr 0 j 0::x.1,m::x.2)
  | .row,.row _ sz n _=>j6.bind (a7a os) fun x=>j6.pure (.own 0 j sz 0 n::x.1,m::x.2)
  | .row,.deep false _ sz n _=>j6.bind (a7a os) fun x=>j6.pure (.own 0 j sz 0 n::x.1,m::x.2)
  | _,_=>j6.no
def b6q:List V->V
 | [v]=>v
 | vs=>.tup vs
def a6d:List (Option (Nat×PM))->List V->List (Option V)
 | [],_=>[]
 | none::os,vs=>none::a6d os vs
 | some _::os,v::vs=>some v::a6d os vs
 | some _::os,[]=>none::a6d os []
def b96(cx:Cx)(X:M0)(t:List V):j6 (AR (List V)×Nat) :=
 j6.bind (b76 cx t X.fn.results.toList) fun rv=>j6.bind (a7a X.oms) fun ov=>j6.bind (a02 (X.rms++ov.2) (rv++ov.1)) fun r =>
  if a2i r.ks&&r.ls.all (fun id => !a03 r.ks id)&&Nat.beq rv.length X.rms.length then j6.pure (r,rv.length) else j6.no
def c2L(cx:Cx)(X:M0)(k:List Item)(S:St):Option (V×List (Option V)×List Prop) :=
 match k with
 | .code .ret::_|[]=>match b96 cx X S.t S.ent with
  | some ((r,n),_)=>some (b6q (r.v.take n),a6d X.oms (r.v.drop n),r.obl)
  | none=>none
 | _=>none
section
variable {cx:Cx} {Γ:M1} {F:Nat->Prop} {ι:Nat->Nat->Value} {S S':St} {a:Act} {w:World} {b:Frame} {cs:List Frame} {k k':List Item}
theorem d0a(h:t0 Γ F ι S a w)(k:Nat):RV w F S.D ι (S.t.getD k .bot) (a.tmps.getD k undef):=C1 h.tmps (.tmp k)
def b4s(P:Program)(tmps:Array Value)(w:World)(r:ResultVar)(c:Value):Prop :=
  ((match r with
    | .tmp t=>pure (tmps.getD t undef)
    | .cell a t=>do loadVar t (<-asAddr (tmps.getD a undef))):Sem Value).run P w=.ok c w
theorem e1w(h:t0 Γ F ι S a w){r:ResultVar}{v:V}{lg:List (Nat×Nat)}(hr:b93 cx S.t r S.ent=some (v,lg)):∃c,b4s cx.P a.tmps w r c/\RV w F S.D ι v c:=by
 unfold b93 at hr;cases r with
 | tmp k =>
  have:=j6.pure_some hr;injection this with this h9;subst this;exact ⟨_,rfl,d0a h k⟩
 | cell ad ty =>
  simp only at hr;cases hti:cx.T ty with
  | none=>rw [hti] at hr;cases hr
  | some ti =>
  rw [hti] at hr;obtain ⟨i,d,z,htf⟩:=cx.tf hti;have hx:=d0a h ad;generalize S.t.getD ad .bot=xv at hr hx;cases xv<;>try (cases hr;done)
  case ptr g j off =>
   obtain ⟨hD,b,hι,hc⟩:=hx.inv_ptr;obtain ⟨e,l1,l2,hrd,hp',hl12⟩:=j6.bind_some hr;clear hr;have he:=(j6.rd_some hrd).1;simp only at he;have hre:=h.ents g j e he;split at hp'<;>try (cases hp';done)
   ·rename_i e0 cs;obtain ⟨g0,cur,h1,hg,hcs⟩:=hre;rw [hι] at h1;injection h1 with h1;injection h1 with h1;injection h1 with h1;subst h1;cases hrv:Q3 ti (cs.drop off) with
    | none=>rw [hrv] at hp';cases hp'
    | some v' =>
    rw [hrv] at hp';have:=j6.pure_some hp';injection this with this h9;subst this;obtain ⟨c,hrd',hvc⟩:=a50 (hcs.drop off) hrv;refine ⟨c,?_,hvc⟩;unfold b4s;simp only [hc,asAddr];have:=c33 htf (a5i hg off) hrd';simpa [Sem.run_bind] using this
theorem d09(h:t0 Γ F ι S a w):∀{rs:List ResultVar} {vs:List V} {lg:List (Nat×Nat)},b76 cx S.t rs S.ent=some (vs,lg)->∃cs,u7 (b4s cx.P a.tmps w) rs cs/\u7 (RV w F S.D ι) vs cs
 | [],vs,lg,hr=>by
  have:=j6.pure_some hr;injection this with this h9;subst this;exact ⟨[],.nil,.nil⟩
 | r::rs,vs,lg,hr=>by
  obtain ⟨v,l1,l2,h1,h2,_⟩:=j6.bind_some hr;obtain ⟨vs',l3,l4,h3,h4,_⟩:=j6.bind_some h2;have:=j6.pure_some h4;injection this with this h9;subst this;obtain ⟨c,e1,e2⟩:=e1w h h1;obtain ⟨cs,e3,e4⟩:=d09 h h3;exact ⟨c::cs,.cons e1 e3,.cons e2 e4⟩
def b2R:List Value->Value
 | [c]=>c
 | cs=>.tuple cs.toArray
theorem d0b{P:Program}{w:World}{α:Type}{f:α->Sem Value}:∀{l:List α} {cs:List Value},u7 (fun r c=>(f r).run P w=.ok c w) l cs->(l.mapM f).run P w=.ok cs w
 | _,_,.nil=>by simp [Sem.run]
 | _,_,.cons h t=>by
  rw [List.mapM_cons];have:=d0b t;simp [Sem.run_bind,h,this]
theorem d5e{P:Program}{fn:Func}{tmps:Array Value}{w:World}{cs:List Value}(h:u7 (b4s P tmps w) fn.results.toList cs):(results fn tmps).run P w=.ok (b2R cs) w:=by
 unfold results;have hm:=d0b (f:=fun r:ResultVar=>match r with
  | .tmp t=>pure (tmps.getD t undef)
  | .cell a t=>do loadVar t (<-asAddr (tmps.getD a undef))) (h.imp fun r c x=>x)
 have he:fn.results=fn.results.toList.toArray:=by simp
 rw [he,List.mapM_toArray];have hp:(if hh:cs.toArray.size=1 then cs.toArray[0] else Value.tuple cs.toArray)=b2R cs:=by
  rcases cs with _|⟨c,_|⟨c',cs⟩⟩
  ·rfl
  ·rfl
  ·have:¬(c::c'::cs).toArray.size=1:=by simp
   rw [dif_neg this];rfl
 simp only [map_eq_pure_bind,Sem.run_bind,bind_assoc,pure_bind];refine (congrArg (fun r=>Result.andThen r _) hm).trans ?_;simp only [Result.andThen];rw [<-hp];rfl
theorem b97(h:t0 Γ F ι S a w):∀{om:List (Option Nat)} {j:Nat} {ds:List Value} {vs:List V} {lg:List (Nat×Nat)},a5N Γ.pins om j ds->b7W om j S.ent=some (vs,lg)->u7 (RC w F S.D ι) vs ds
 | [],j,[],vs,lg,_,hr=>by
  have:=j6.pure_some hr;injection this with h1 h2;subst h1;exact .nil
 | none::om,j,d::ds,vs,lg,hc,hr=>by
  obtain ⟨xs,l1,l2,h1,h2,_⟩:=j6.bind_some hr;have:=j6.pure_some h2;injection this with h3 h4;subst h3;exact .cons (.fv _ _ (.bot _ hc.1)) (b97 h hc.2 h1)
 | some _::om,j,d::ds,vs,lg,hc,hr=>by
  obtain ⟨e,l1,l2,hrd,hp,_⟩:=j6.bind_some hr;have he:=(j6.rd_some hrd).1;simp only at he;have hD:=St.D_of_ent he;have hι:=(h.pins j d hc.1).2;have hre:=h.ents 0 j e he;obtain ⟨xs,l3,l4,h1,h2,_⟩:=j6.bind_some hp;have ht:=b97 h hc.2 h1;split at h2<;>try (cases h2;done)
  ·have:=j6.pure_some h2;injection this with h3 h4;subst h3;refine .cons ?_ ht;have:=RC.whole hD rfl hre;rwa [hι] at this
  ·have:=j6.pure_some h2;injection this with h3 h4;subst h3;refine .cons ?_ ht;obtain ⟨flat,fs,ho,_⟩:=hre;have:=RC.wholeO (F:=F) (D:=S.D) hD rfl ho;rwa [hι] at this
 | [],_,_::_,_,_,hc,_=>hc.elim
 | none::_,_,[],_,_,hc,_=>hc.elim
 | some _::_,_,[],_,_,hc,_=>hc.elim
theorem a8T(h:t0 Γ F ι S a w):∀{oms:List (Option (Nat×PM))} {cargs:List Value} {vs:List V} {ms:List PM} {lg:List (Nat×Nat)},a0R oms cargs Γ.pins->a7a oms S.ent=some ((vs,ms),lg)->∃cs,u7 (RV w F S.D ι) vs cs/\
  ∀{F1:Nat->Prop} {us:List V} {f:List Nat},BS w F1 us cs f->BO w F1 (a6d oms us) cargs f
 | [],_,vs,ms,lg,.nil _,hr=>by
  have:=j6.pure_some hr;injection this with h1 h2;injection h1 with h1 h3;subst h1;exact ⟨[],.nil,fun hb=>by cases hb;exact .nil⟩
 | none::oms,_,vs,ms,lg,.skip _ c cs _ t,hr=>by
  obtain ⟨cs',e1,e2⟩:=a8T h t hr;exact ⟨cs',e1,fun {F1 us f} hb=>.skip _ _ _ _ (e2 hb)⟩
 | some (j,.val ck om)::oms,_,vs,ms,lg,.agg _ _ _ _ ds cs _ hc t,hr=>by
  obtain ⟨xs,l1,l2,hxs,hp,_⟩:=j6.bind_some hr;obtain ⟨x,l3,l4,h1,h2,_⟩:=j6.bind_some hp;have:=j6.pure_some h2;injection this with h3 h4;injection h3 with h3 h5;subst h3;obtain ⟨cs',e1,e2⟩:=a8T h t h1;refine ⟨.agg ds.toArray::cs',.cons (.one _ _ (.agg _ _ (b97 h hc hxs))) e1,?_⟩;intro F1 us f hb;cases hb with
  | cons v c f vs cs fs h t=>exact .cons _ _ _ _ _ _ h (e2 t)
 | some (j,.val ck om)::oms,_,vs,ms,lg,.pin _ _ _ c cs _ hm hc t,hr=>by cases hm
 | some (j,.part)::oms,_,vs,ms,lg,.pin _ _ _ c cs _ hm hc t,hr=>by
  obtain ⟨e,l1,l2,hrd,hp,_⟩:=j6.bind_some hr;cases e<;>cases hp
 | some (j,.ptr ck om)::oms,_,vs,ms,lg,.pin _ _ _ c cs _ hm hc t,hr=>by
  obtain ⟨e,l1,l2,hrd,hp,_⟩:=j6.bind_some hr;have he:=(j6.rd_some hrd).1;simp only at he;have hD:=St.D_of_ent he;have hι:=(h.pins j c hc).2;have hre:=h.ents 0 j e he;cases e<;>try (cases hp;done)
  obtain ⟨x,l3,l4,h1,h2,_⟩:=j6.bind_some hp;have:=j6.pure_some h2;injection this with h3 h4;injection h3 with h3 h5;subst h3;obtain ⟨cs',e1,e2⟩:=a8T h t h1;obtain ⟨g,cur,q1,q2,q3⟩:=hre;refine ⟨c::cs',.cons (.one _ _ (.cell _ _ ?_)) e1,?_⟩
  ·rw [<-hι,q1];exact .ptr 0 j 0 g hD q1
  ·intro F1 us f hb;cases hb with
   | cons v c f vs cs fs h t=>exact .cons _ _ _ _ _ _ h (e2 t)
 | some (j,.row)::oms,_,vs,ms,lg,.pin _ _ _ c cs _ hm hc t,hr=>by
  obtain ⟨e,l1,l2,hrd,hp,_⟩:=j6.bind_some hr;have he:=(j6.rd_some hrd).1;simp only at he;have hD:=St.D_of_ent he;have hι:=(h.pins j c hc).2;have hre:=h.ents 0 j e he;cases e<;>try (cases hp;done)
  case row =>
   obtain ⟨x,l3,l4,h1,h2,_⟩:=j6.bind_some hp;have:=j6.pure_some h2;injection this with h3 h4;injection h3 with h3 h5;subst h3;obtain ⟨cs',e1,e2⟩:=a8T h t h1;refine ⟨c::cs',.cons (.one _ _ (.cell _ _ ?_)) e1,?_⟩
   ·have:=RC.whole hD rfl hre;rwa [hι] at this
   ·intro F1 us f hb;cases hb with
    | cons v c f vs cs fs h t=>exact .cons _ _ _ _ _ _ h (e2 t)
  case deep o _ _ _ _ =>
   cases o<;>try (cases hp;done)
   obtain ⟨x,l3,l4,h1,h2,_⟩:=j6.bind_some hp;have:=j6.pure_some h2;injection this with h3 h4;injection h3 with h3 h5;subst h3;obtain ⟨cs',e1,e2⟩:=a8T h t h1;obtain ⟨flat,fs,ho,_⟩:=hre;refine ⟨c::cs',.cons (.one _ _ (.cell _ _ ?_)) e1,?_⟩
   ·have:=RC.wholeO (F:=F) (D:=S.D) hD rfl ho;rwa [hι] at this
   ·intro F1 us f hb;cases hb with
    | cons v c f vs cs fs h t=>exact .cons _ _ _ _ _ _ h (e2 t)
theorem u7.app{α β:Type}{R:α->β->Prop}:∀{A7 bs cs ds},u7 R A7 bs->u7 R cs ds->u7 R (A7++cs) (bs++ds)
 | _,_,_,_,.nil,k=>k
 | _,_,_,_,.cons hx t,k=>.cons hx (t.app k)
theorem BS.split:∀{c1 c2:List Value} {vs:List V} {f:List Nat},BS w F vs (c1++c2) f->∃f1 f2,f=f1++f2/\BS w F (vs.take c1.length) c1 f1/\BS w F (vs.drop c1.length) c2 f2
 | [],c2,vs,f,h=>⟨[],f,rfl,by simpa using .nil,by simpa using h⟩
 | c::c1,c2,_,_,.cons v _ f vs _ fs h t=>by
  obtain ⟨f1,f2,rfl,h1,h2⟩:=BS.split t;exact ⟨f++f1,f2,by simp,.cons _ _ _ _ _ _ h h1,h2⟩
theorem BS.pack{vs:List V}{cs:List Value}{f:List Nat}(h:BS w F vs cs f):BR w F (b6q vs) (b2R cs) f:=by
 cases h with
 | nil=>exact .tup _ _ _ .nil
 | cons v c f vs cs fs h t =>
  cases t with
  | nil=>rw [e9b];exact .one _ _ _ h
  | cons v' c' f' vs' cs' fs' h' t'=>exact .tup _ _ _ (.cons _ _ _ _ _ _ h (.cons _ _ _ _ _ _ h' t'))
theorem I1.ret{X:M0}{res:V}{outs:List (Option V)}{ps:List Prop}(hf:cx.P.funcs[X.f]?=some X.fn)(hr:c2L cx X k S=some (res,outs,ps))(hob:∀p∈ps,p):I1 cx X res outs k S:=by
 obtain ⟨r,n,lg,hR,rfl,rfl,rfl,hk⟩:∃r n lg,b96 cx X S.t S.ent=some ((r,n),lg)/\b6q (r.v.take n)=res/\a6d X.oms (r.v.drop n)=outs/\r.obl=ps/\(k=[]\/∃k',k=.code .ret::k'):=by
  unfold c2L at hr;split at hr<;>try (cases hr;done)
  all_goals
   split at hr<;>try (cases hr;done)
   rename_i r n lg hR;injection hr with hr;injection hr with h1 h2;injection h2 with h2 h3;first|exact ⟨r,n,lg,hR,h1,h2,h3,.inr ⟨_,rfl⟩⟩|exact ⟨r,n,lg,hR,h1,h2,h3,.inl rfl⟩
 intro w0 F0 fp cargs bs hp hF0 F ι a w b cs h hb1 hb2;unfold b96 at hR;obtain ⟨rv,l1,l2,g1,g2,_⟩:=j6.bind_some hR;obtain ⟨⟨ov,om⟩,l3,l4,g3,g4,_⟩:=j6.bind_some g2;obtain ⟨r',l5,l6,g5,g6,_⟩:=j6.bind_some g4;simp only at g6;split at g6<;>try (cases g6;done)
 rename_i hchk;have:=j6.pure_some g6;injection this with e1 e2;injection e1 with e1 e3;subst e1;subst e3;simp only [e8G] at hchk;obtain ⟨⟨hnk,hls⟩,hlen⟩:=hchk;have hnk':=a3F hnk;have hdis:∀id∈r.ls,id ∉ r.ks:=fun id hid=>b7Z (List.all_eq_true.1 hls id hid)
 obtain ⟨rcs,q1,q2⟩:=d09 h g1;obtain ⟨ocs,q3,q4⟩:=a8T h hp g3;let F1:Nat->Prop:=fun k=>F k\/∃id∈r.ls,∃e,S.ent id.1 id.2=some e/\EB w e (ι id.1 id.2) k
 obtain ⟨fpx,hbs,hfps,hhk,hhl⟩:=c7n (F1:=F1) h (fun k x=>.inl x) (q2.app q3) g5 hob (fun id hid e k he hk=>.inr ⟨id,hid,e,he,hk⟩);obtain ⟨f1,f2,hf12,b1,b2⟩:=hbs.split;have hl2:rcs.length=rv.length:=q2.length.symm;rw [hl2] at b1 b2;have hfpn:=K1.nodup h hfps hnk';have hF1lt:∀k,F1 k->k<w.heap.size:=by
  rintro k (x|⟨id,hid,e,he,hb⟩)
  ·exact h.F1 k x
  ·obtain ⟨e',he',hl'⟩:=hhl id hid;have:e=e':=by rw [he] at he';injection he'
   subst this;exact h.lt he hl' hb
 have hfin:d0Q w0 F0 fp cargs (b6q (r.v.take rv.length)) (a6d X.oms (r.v.drop rv.length)) (.returned (b2R rcs)) w:=by
  refine ⟨b2R rcs,F1,f1,f2,rfl,h.kept,fun k x=>.inl (h.F0 k x),?_,b1.pack,q4 b2,?_,?_⟩
  ·rintro k x
   refine ⟨?_,hF1lt k x⟩;rcases x with x|⟨id,hid,e,he,hb⟩
   ·exact h.F2 k x
   ·obtain ⟨e',he',hl'⟩:=hhl id hid;have:e=e':=by rw [he] at he';injection he'
    subst this;exact .inr (h.sep _ _ _ k he hl' hb).2
  ·rw [<-hf12];exact hfpn
  ·intro k hk;rw [<-hf12] at hk;obtain ⟨id,hid,e,he,hl,hb⟩:=hfps.mem hk;obtain ⟨z1,z2⟩:=h.sep _ _ e k he hl hb;refine ⟨?_,z2,h.lt he hl hb⟩;rintro (x|⟨id',hid',e0,he0,hb'⟩)
   ·exact z1 x
   ·obtain ⟨e',he',hl'⟩:=hhl id' hid';have:e0=e':=by rw [he0] at he';injection he'
    subst this;obtain ⟨y1,y2⟩:=h.inj _ _ e _ _ _ k he he' hl hl' hb hb';have:id=id':=Prod.ext y1 y2;exact hdis id' hid' (this▸hid)
 have hres:=d5e (P:=cx.P) q1;rcases hk with rfl|⟨k',rfl⟩
 ·exact ⟨_,w,_,hfin,.one step_end,hb1,rfl,h.defers,hb2,X.fn,by show cx.P.funcs[b.fn]?=_;rw [hb1];exact hf,hres⟩
 ·exact ⟨_,w,_,hfin,.one step_ret,hb1,rfl,h.defers,hb2,X.fn,by show cx.P.funcs[b.fn]?=_;rw [hb1];exact hf,hres⟩
end
inductive Loc where
 | tmp (t:Nat)
 | sub (t i:Nat)
 | cell (g j i:Nat)
def St.get(S:St):Loc->Option V
 | .tmp t=>S.t[t]?
 | .sub t i=>match S.t[t]? with
  | some (.agg cs)=>cs[i]?
  | _=>none
 | .cell g j i=>match S.ent g j with
  | some (.var _ cs)=>cs[i]?
  | _=>none
def St.put(S:St)(l:Loc)(v:V):St :=
 match l with
 | .tmp t=>{S with t:=S.t.set t v}
 | .sub t i=>match S.t[t]? with
  | some (.agg cs)=>{S with t:=S.t.set t (.agg (cs.set i v))}
  | _=>S
 | .cell g j i=>match S.ent g j with
  | some (.var e cs)=>S.setE g j (.var e (cs.set i v))
  | _=>S
inductive Fix where
 | own (l:Loc) (e sz:Nat)
 | frz (l:Loc) (ck:Option Nat)
 | is (l:Loc) (v:V)
 | ent (g j:Nat) (e:r9)
 | plug (g j idx off:Nat) (r:List V) (e:Nat)
 | shut (g j n:Nat) (rows:List (List V))
 | ownD (l:Loc) (e sz:Nat)
 | kill (g j:Nat)
def V.isCell:V->Bool
 | .agg _ | .tup _ | .bot=>false
 | _=>true
def a5H(f:Fix)(S:St):Option (St×List Prop) :=
 match f with
 | .own l e sz=>match S.get l with
  | some .nil=>some (((S.more 1).lay S.h.length [.row e sz 0 []]).put l (.own S.h.length 0 sz 0 0),[])
  | _=>none
 | .frz l ck=>match S.get l with
  | some v=>if v.isCell then match fzP ck v S.ent with
   | some ((v',us,ps),_)=>some ((S.upds us).put l v',ps)
   | none=>none else none
  | none=>none
 | .is l v'=>match S.get l with
  | some v=>if v.isCell then some (S.put l v',[v=v']) else none
  | none=>none
 | .ent g j e'=>match S.ent g j with
  | some e=>some (S.setE g j e',[e=e'])
  | none=>none
 | .plug g j idx off r e=>match S.ent g j,r[off]? with
  | some (.deep o t sz n rows),some (.own g' j' sz' lo n')=>match O9 none (some e) (.own g' j' sz' lo n') S.ent with
   | some (f,_)=>if off+1<=sz/\a2i f.ks/\a03 f.ks (g,j)=false then some (S.upds (D9 f.ks++[((g,j),.deep o t sz n (rows.set idx (z6 r off [f.v])))]),(rows[idx]?=some r)::f.obl) else none
   | none=>none
  | _,_=>none
 | .kill g j=>match S.ent g j with
  | some _=>some (S.setE g j .dead,[])
  | none=>none
 | .shut g j n' rows'=>match S.ent g j with
  | some (.deep o t sz n rows)=>some (S.setE g j (.deep false t sz n' rows'),[rows=rows',G1 rows',n=n'])
  | _=>none
 | .ownD l e sz=>match S.get l with
  | some .nil=>some (((S.more 1).lay S.h.length [.deep false e sz 0 []]).put l (.own S.h.length 0 sz 0 0),[])
  | _=>none
def b1K:List Fix->St->Option (St×List Prop)
 | [],S=>some (S,[])
 | f::fs,S=>match a5H f S with
  | some (S1,ps)=>match b1K fs S1 with
   | some (S2,qs)=>some (S2,ps++qs)
   | none=>none
  | none=>none
section
variable {cx:Cx} {Γ:M1} {F:Nat->Prop} {ι:Nat->Nat->Value} {S S':St} {a:Act} {w:World}
theorem RV.isCell{D:Nat->Prop}{v:V}{c:Value}(h:RV w F D ι v c)(hv:v.isCell=true):RC w F D ι v c:=by
 cases h with
 | one v c h =>
  cases h with
  | cell v c h=>exact h
  | agg cs ds h=>cases hv
 | tup cs ds h=>cases hv
 | any c=>cases hv
theorem t0.withT(h:t0 Γ F ι S a w){t:List V}(ht:u7 (RV w F S.D ι) t a.tmps.toList):t0 Γ F ι {S with t:=t} a w :=
 {F0:=h.F0,F1:=h.F1,F2:=h.F2,kept:=h.kept,tmps:=ht,ents:=h.ents,sep:=h.sep,inj:=h.inj,defers:=h.defers,pins:=h.pins}
theorem u7.set_left{α β:Type}{R:α->β->Prop}{A7:List α}{bs:List β}(h:u7 R A7 bs){i:Nat}{x y:α}(hx:A7[i]?=some x)(hy:∀b,R x b->R y b):u7 R (A7.set i y) bs:=by
 obtain ⟨b,hb,hr⟩:=h.get hx;have:=h.set i (hy b hr);rwa [Y4 hb] at this
theorem t0.putL(h:t0 Γ F ι S a w){l:Loc}{v v':V}(hg:S.get l=some v)(hc:v.isCell=true)(hr:∀c,RC w F S.D ι v c->RC w F S.D ι v' c):t0 Γ F ι (S.put l v') a w:=by
 cases l with
 | tmp t =>
  exact h.withT (h.tmps.set_left hg fun c hv=>.one _ _ (.cell _ _ (hr c (hv.isCell hc))))
 | sub t i =>
  unfold St.get at hg;unfold St.put;simp only at hg ⊢;split at hg<;>try (cases hg;done)
  rename_i cs hcs;try rw [hcs]
  refine h.withT (h.tmps.set_left hcs fun c hv => ?_);cases hv with
  | one v c hv =>
   cases hv with
   | cell v c hv=>cases hv with|fv v c hv=>cases hv
   | agg cs ds hv=>exact .one _ _ (.agg _ _ (hv.set_left hg hr))
 | cell g j i =>
  unfold St.get at hg;unfold St.put;simp only at hg ⊢;split at hg<;>try (cases hg;done)
  rename_i e cs hcs;try rw [hcs]
  try simp only
  refine h.write hcs rfl ⟨rfl,rfl,rfl⟩ rfl (fun _ _=>rfl) (fun _ => ?_) (fun _ hk=>hk);obtain ⟨g0,cur,h1,h2,h3⟩:=h.ents g j _ hcs;exact ⟨g0,cur,h1,h2,(h3.set_left hg hr).imp fun _ _ x=>x.mono (fun _ _ _=>rfl) (fun _ y=>y) (fun k y=>O1.2 y) (fun _ _ _=>rfl)⟩
theorem d2q{grp:Nat}{new:List r9}{l:Loc}{v:V}(h:S.get l=some v)(hn:¬S.D grp):(S.lay grp new).get l=some v:=by
 cases l with
 | tmp t=>exact h
 | sub t i=>exact h
 | cell g j i =>
  unfold St.get at h ⊢;simp only at h ⊢;split at h<;>try (cases h;done)
  rename_i e cs hcs;have:g≠grp:=fun q=>hn (q▸St.D_of_ent hcs)
  rw [a6D this,hcs];exact h
theorem d1p{n:Nat}{l:Loc}{v:V}(h:S.get l=some v):(S.more n).get l=some v:=by
 cases l with
 | tmp t=>exact h
 | sub t i=>exact h
 | cell g j i =>
  unfold St.get at h ⊢;simp only at h ⊢;rw [b1m];exact h
theorem e0p{e:Nat}{v:V}{H:Hp}{f:AR V}{lg:List (Nat×Nat)}(h:O9 none (some e) v H=some (f,lg)):f.ls=[]:=by
 unfold O9 at h;simp only at h;split at h
 ·have:=j6.pure_some h;injection this with h1 h2;rw [h1]
 cases v<;>try (cases h;done)
 case nil =>
  have:=j6.pure_some h;injection this with h1 h2;rw [h1]
 case own g j sz lo n =>
  cases lo with
  | succ q=>cases h
  | zero =>
   simp only at h;obtain ⟨en,l1,l2,hrd,hp,_⟩:=j6.bind_some h;cases en<;>try (cases hp;done)
   case row =>
    simp only at hp;split at hp<;>try (cases hp;done)
    have:=j6.pure_some hp;injection this with h1 h2;rw [h1]
   case deep o _ _ _ _ =>
    cases o<;>try (cases hp;done)
    simp only at hp;split at hp<;>try (cases hp;done)
    have:=j6.pure_some hp;injection this with h1 h2;rw [h1]
theorem e5D{g j idx off e:Nat}{r:List V}{ps:List Prop}(h:t0 Γ F ι S a w)(hf:a5H (.plug g j idx off r e) S=some (S',ps))(hob:∀p∈ps,p):t0 Γ F ι S' a w:=by
 unfold a5H at hf;simp only at hf;split at hf<;>try (cases hf;done)
 rename_i o t sz n rows g' j' sz' lo n' he hv;split at hf<;>try (cases hf;done)
 rename_i f lg hm;split at hf<;>try (cases hf;done)
 rename_i hcond;injection hf with hf;injection hf with h1 h2;subst h1;subst h2;obtain ⟨hoff,hks,hgj⟩:=hcond;have hr:rows[idx]?=some r:=hob _ (by simp);obtain ⟨flat,fs,hor,hkl,hrn,hl,hnd,hnr⟩:=h.ents g j _ he;have hidx:=(e8I.1 hr).1;have hpos:idx*sz+sz<=n*sz:=by rw [<-e9q];exact e80 _ (by omega)
 have hle:idx*sz+off+1<=rows.flatten.length:=by rw [a3l hl,hrn];omega
 have hmid:(rows.flatten.drop (idx*sz+off)).take 1=[.own g' j' sz' lo n']:=by
  have:(rows.flatten.drop (idx*sz+off)).take 1=(r.drop off).take 1:=by
   rw [<-b1I hl hr,List.drop_take,List.take_take,e9V];congr 1
   omega
  rw [this];obtain ⟨hlt,hv'⟩:=e8I.1 hv;rw [e8X hlt,hv'];rfl
 obtain ⟨fa,fm,fb,rfl,ka,km,kb⟩:=hkl.cut hle;rw [hmid] at km;obtain ⟨c,hc,hkc⟩:∃c,(flat.drop (idx*sz+off)).take 1=[c]/\RC w F S.D ι (.own g' j' sz' lo n') c:=by
  generalize (flat.drop (idx*sz+off)).take 1=cs at km;cases km with
  | cons v c f vs cs fs h t =>
   cases t;refine ⟨c,rfl,?_⟩;cases h with
   | rc h=>exact h
   | bc _ h=>cases h with
    | fv _ _ h=>exact .fv _ _ h
 obtain ⟨fp,hb,hfps,_⟩:=c2f (F1:=F) h (fun _ x=>x) hkc hm (fun p hp=>hob p (e8K.2 (.inr hp))) (by rw [e0p hm];intro id hid;cases hid);have hbl:BL w F [f.v] [c] fp:=by
  have:=BL.cons _ _ _ _ _ _ hb .nil;simpa using this
 refine h.dput he hr (by simpa using hoff) hbl hfps (a3F hks) (fun q=>by rw [a5n.2 q] at hgj;cases hgj) ⟨rfl,rfl,rfl⟩ rfl (fun _ _=>rfl) ?_;intro flat2 ho2;have:=a8N ho2 hor (fun _ _=>rfl);subst this;have e1:z6 flat2 (idx*sz+off) [c]=flat2:=by
  unfold z6;rw [<-hc,e8R];have hl1:((flat2.drop (idx*sz+off)).take 1).length=1:=by rw [hc];rfl
  rw [hl1];have e2:∀k:Nat,flat2.take k++((flat2.drop k).take 1++flat2.drop (k+1))=flat2:=fun k=>by
   rw [<-e9V,e9n,e9n]
  exact e2 _
 rw [e1];exact ho2
theorem e4T{g j n':Nat}{rows':List (List V)}{ps:List Prop}(h:t0 Γ F ι S a w)(hf:a5H (.shut g j n' rows') S=some (S',ps))(hob:∀p∈ps,p):t0 Γ F ι S' a w:=by
 unfold a5H at hf;simp only at hf;split at hf<;>try (cases hf;done)
 rename_i o t sz n rows he;injection hf with hf;injection hf with h1 h2;subst h1;subst h2;have hrr:rows=rows':=hob _ (by simp);have hnr:G1 rows':=hob _ (by simp);have hnn:n=n':=hob _ (by simp);subst hrr;subst hnn;refine h.write he rfl ⟨rfl,rfl,rfl⟩ rfl (fun _ _=>rfl) (fun _ => ?_) (fun k hk=>hk);obtain ⟨flat,fs,q1,q2,q3,q4,q5,q6⟩:=h.ents g j _ he;exact ⟨flat,fs,q1,q2.mono (fun _ _ _=>rfl) (fun _ x=>x) (fun k x=>O1.2 x) (fun _ _ _=>rfl) (fun _ _=>rfl),q3,q4,q5,fun _=>hnr⟩
theorem e00{f:Fix}{ps:List Prop}(h:t0 Γ F ι S a w)(hf:a5H f S=some (S',ps))(hob:∀p∈ps,p):∃F' ι',t0 Γ F' ι' S' a w:=by
 unfold a5H at hf;split at hf
 ·rename_i l e sz;split at hf<;>try (cases hf;done)
  rename_i hg;injection hf with hf;injection hf with hf hf2;subst hf;have hn:¬(S.more 1).D S.h.length:=fun q=>by
   obtain ⟨x,hx⟩:=a9d.1 q;have:=(e8I.1 hx).1;omega
  have hlen:S.h.length<(S.more 1).h.length:=by simp [St.more,a2U]
  have hor:OR w F e sz (.slice none 0 0) 0 []:=⟨[],⟨by simp,.inl ⟨rfl,rfl⟩⟩,.nil,rfl,by simp⟩
  have hno:∀(j:Nat) (e':r9) (k:Nat),([.row e sz 0 []]:List r9)[j]?=some e'->EB w e' (J3 ι S.h.length (.slice none 0 0) S.h.length j) k->False:=by
   intro j e' k he hk;rw [N1] at hk;cases j with
   | zero =>
    simp at he;subst he;cases hk
   | succ j=>simp at he
  have h1:=(h.more 1).lay hlen hn (new:=[.row e sz 0 []]) (ι':=J3 ι S.h.length (.slice none 0 0)) (fun g j q=>a8D q)
   (fun j e' he=>by
    cases j with
    | zero =>
     simp at he;subst he;rw [N1];exact hor
    | succ j=>simp at he)
   (fun j e' k he hl hk=>(hno j e' k he hk).elim)
   (fun j e' j' e'' k he he' hl hl' hk hk'=>(hno j e' k he hk).elim)
   (fun j e' g' j' e'' k he he' hl hl' hk=>(hno j e' k he hk).elim)
  refine ⟨F,_,h1.putL (d2q (d1p hg) hn) rfl fun c hc => ?_⟩;have hcn:c=.slice none 0 0:=by
   cases hc with
   | fv v c hc=>cases hc;rfl
  subst hcn;exact RC.whole (Z3 hlen) N1 hor
 ·rename_i l ck;split at hf<;>try (cases hf;done)
  rename_i v hg;split at hf<;>try (cases hf;done)
  rename_i hcell;split at hf<;>try (cases hf;done)
  rename_i v' us fps lg hz;injection hf with hf;injection hf with hf hf2;subst hf;subst hf2;have hfr:∀c,RC w F S.D ι v c->∃F',(∀k,F k->F' k)/\t0 Γ F' ι (S.upds us) a w/\Frz S (S.upds us)/\FV w F' v' c:=fun c hc=>b17 h (Frz.refl S) hc hz hob
  have hat:∃c,RC w F S.D ι v c:=by
   cases l with
   | tmp t =>
    obtain ⟨c,_,hv⟩:=h.tmps.get hg;exact ⟨c,hv.isCell hcell⟩
   | sub t i =>
    unfold St.get at hg;simp only at hg;split at hg<;>try (cases hg;done)
    rename_i cs hcs;obtain ⟨c,_,hv⟩:=h.tmps.get hcs;cases hv with
    | one v c hv =>
     cases hv with
     | cell v c hv=>cases hv with|fv v c hv=>cases hv
     | agg cs ds hv =>
      obtain ⟨c,_,hv⟩:=hv.get hg;exact ⟨c,hv⟩
   | cell g j i =>
    unfold St.get at hg;simp only at hg;split at hg<;>try (cases hg;done)
    rename_i e cs hcs;obtain ⟨g0,cur,h1,h2,h3⟩:=h.ents g j _ hcs;obtain ⟨c,_,hv⟩:=h3.get hg;exact ⟨c,hv⟩
  obtain ⟨c0,hc0⟩:=hat;obtain ⟨F',hF,hrel,hfz,hfv⟩:=hfr c0 hc0;clear hfr hfv;cases l with
  | tmp t =>
   obtain ⟨c,hct,hv⟩:=h.tmps.get hg;obtain ⟨F',hF,hrel,hfz,hfv⟩:=b17 h (Frz.refl S) (hv.isCell hcell) hz hob;refine ⟨F',ι,?_⟩;have ht:(S.upds us).t=S.t:=hfz.2.2.1;show t0 Γ F' ι {S.upds us with t:=(S.upds us).t.set t v'} a w
   refine hrel.withT ?_;have:=hrel.tmps.set t (b:=c) (.one _ _ (.cell _ _ (.fv _ _ hfv)));rwa [Y4 hct] at this
  | sub t i =>
   unfold St.get at hg;simp only at hg;split at hg<;>try (cases hg;done)
   rename_i cs hcs;obtain ⟨c,hct,hv⟩:=h.tmps.get hcs;cases hv with
   | one v c hv =>
    cases hv with
    | cell v c hv=>cases hv with|fv v c hv=>cases hv
    | agg cs ds hv =>
     obtain ⟨c,hci,hvi⟩:=hv.get hg;obtain ⟨F',hF,hrel,hfz,hfv⟩:=b17 h (Frz.refl S) hvi hz hob;refine ⟨F',ι,?_⟩;have ht:(S.upds us).t=S.t:=hfz.2.2.1;unfold St.put;simp only [ht,hcs];have h2:=hrel.tmps;rw [ht] at h2;have:=hrel.withT (t:=S.t.set t (.agg (cs.set i v'))) ?_
     ·exact this
     ·have hagg:=h2.get hcs;obtain ⟨c',hct',hv'⟩:=hagg;rw [hct] at hct';injection hct' with hct';have hv2:u7 (RC w F' (S.upds us).D ι) cs ds:=by
       refine hv.imp fun _ _ x=>x.mono (fun _ _ _=>rfl) hF (fun k y=>(Y8 S k us).2 y) (fun _ _ _=>rfl)
      have hset:=hv2.set i (b:=c) (.fv _ _ hfv);rw [Y4 hci] at hset;have:=h2.set t (b:=.agg ds.toArray) (.one _ _ (.agg _ _ hset));rwa [Y4 hct] at this
  | cell g j i =>
   unfold St.get at hg;simp only at hg;split at hg<;>try (cases hg;done)
   rename_i e cs hcs;obtain ⟨g0,cur,q1,q2,q3⟩:=h.ents g j _ hcs;obtain ⟨c,hci,hvi⟩:=q3.get hg;obtain ⟨F',hF,hrel,hfz,hfv⟩:=b17 h (Frz.refl S) hvi hz hob;refine ⟨F',ι,?_⟩;have hcs':(S.upds us).ent g j=some (.var e cs):=by
    rcases hfz.2.2.2 _ _ _ hcs with q|⟨e',sz,n,rows,q,_⟩
    ·exact q
    ·cases q
   unfold St.put;simp only [hcs'];refine hrel.write hcs' rfl ⟨rfl,rfl,rfl⟩ rfl (fun _ _=>rfl) (fun _ => ?_) (fun _ hk=>hk);have hset:=(q3.imp fun _ _ x=>RC.mono (D':=((S.upds us).setE g j (.var e (cs.set i v'))).D) (F':=F') (w':=w) (ι':=ι) (fun _ _ _=>rfl) hF (fun k y=>O1.2 ((Y8 S k us).2 y)) (fun _ _ _=>rfl) x).set i (b:=c) (.fv _ _ hfv);rw [Y4 hci] at hset;exact ⟨g0,cur,q1,q2,hset⟩
 ·rename_i l v';split at hf<;>try (cases hf;done)
  rename_i v hg;split at hf<;>try (cases hf;done)
  rename_i hcell;injection hf with hf;injection hf with hf hf2;subst hf;subst hf2;have:v=v':=hob _ (by simp);subst this;exact ⟨F,ι,h.putL hg hcell fun _ x=>x⟩
 ·rename_i g j e';split at hf<;>try (cases hf;done)
  rename_i e he;injection hf with hf;injection hf with hf hf2;subst hf;subst hf2;have:e=e':=hob _ (by simp);subst this;have hset:S.setE g j e=S:=by
   obtain ⟨l,hl⟩:=St.D_of_ent he;rw [a2n hl];rw [a0Z hl] at he;rw [Y4 he,Y4 hl]
  rw [hset];exact ⟨F,ι,h⟩
 ·rename_i g j idx off r e;exact ⟨F,ι,e5D (g:=g) (j:=j) (idx:=idx) (off:=off) (r:=r) (e:=e) h hf hob⟩
 ·rename_i g j;split at hf<;>try (cases hf;done)
  rename_i e he;injection hf with hf;injection hf with hf hf2;subst hf;exact ⟨F,ι,h.kill he⟩
 ·rename_i g j n' rows';exact ⟨F,ι,e4T (g:=g) (j:=j) (n':=n') (rows':=rows') h hf hob⟩
 ·rename_i l e sz;split at hf<;>try (cases hf;done)
  rename_i hg;injection hf with hf;injection hf with hf hf2;subst hf;have hn:¬(S.more 1).D S.h.length:=fun q=>by
   obtain ⟨x,hx⟩:=a9d.1 q;have:=(e8I.1 hx).1;omega
  have hlen:S.h.length<(S.more 1).h.length:=by simp [St.more,a2U]
  have hor:OR w F e sz (.slice none 0 0) 0 []:=⟨[],⟨by simp,.inl ⟨rfl,rfl⟩⟩,.nil,rfl,by simp⟩
  have hno:∀(j:Nat) (e':r9) (k:Nat),([.deep false e sz 0 []]:List r9)[j]?=some e'->EB w e' (J3 ι S.h.length (.slice none 0 0) S.h.length j) k->False:=by
   intro j e' k he hk;rw [N1] at hk;cases j with
   | zero =>
    simp at he;subst he;have:=(EB.deep_iff (F:=F) (D:=S.D) (ι:=ι) (flat:=[]) (fs:=[]) ⟨by simp,.inl ⟨rfl,rfl⟩⟩ .nil).1 hk;simp [C3,A6] at this
   | succ j=>simp at he
  have h1:=(h.more 1).lay hlen hn (new:=[.deep false e sz 0 []]) (ι':=J3 ι S.h.length (.slice none 0 0)) (fun g j q=>a8D q)
   (fun j e' he=>by
    cases j with
    | zero =>
     simp at he;subst he;rw [N1];exact ⟨[],[],⟨by simp,.inl ⟨rfl,rfl⟩⟩,.nil,rfl,by simp,by simp [C3,A6],fun _=>by simp [G1]⟩
    | succ j=>simp at he)
   (fun j e' k he hl hk=>(hno j e' k he hk).elim)
   (fun j e' j' e'' k he he' hl hl' hk hk'=>(hno j e' k he hk).elim)
   (fun j e' g' j' e'' k he he' hl hl' hk=>(hno j e' k he hk).elim)
  refine ⟨F,_,h1.putL (d2q (d1p hg) hn) rfl fun c hc => ?_⟩;have hcn:c=.slice none 0 0:=by
   cases hc with
   | fv v c hc=>cases hc;rfl
  subst hcn;exact RC.whole (Z3 hlen) N1 hor
theorem d6x(fs:List Fix):∀{S:St} {F:Nat->Prop} {ι:Nat->Nat->Value} {ps:List Prop},t0 Γ F ι S a w->b1K fs S=some (S',ps)->(∀p∈ps,p)->∃F' ι',t0 Γ F' ι' S' a w:=by
 induction fs with
 | nil =>
  intro S F ι ps h hf hob;injection hf with hf;injection hf with hf hf2;subst hf;exact ⟨F,ι,h⟩
 | cons f fs ih =>
  intro S F ι ps h hf hob;unfold b1K at hf;cases h1:a5H f S with
  | none=>rw [h1] at hf;cases hf
  | some x1 =>
  obtain ⟨S1,ps1⟩:=x1;rw [h1] at hf;simp only at hf;cases h2:b1K fs S1 with
  | none=>rw [h2] at hf;cases hf
  | some x2 =>
  obtain ⟨S2,ps2⟩:=x2;rw [h2] at hf;simp only at hf;injection hf with hf;injection hf with hf hf2;subst hf;subst hf2;obtain ⟨F1,ι1,h3⟩:=e00 h h1 (fun p hp=>hob p (List.mem_append.2 (.inl hp)));exact ih h3 h2 (fun p hp=>hob p (List.mem_append.2 (.inr hp)))
end
def a7u:List (Nat×Nat)->Nat×Nat->Nat->Option Nat
 | [],_,_=>none
 | y::l,x,i=>if y.1==x.1&&y.2==x.2 then some i else a7u l x (i+1)
def a8c(gs:List (Nat×Nat))(g j:Nat):Option (Nat×Nat) :=
 match a7u gs (g,j) 1 with
 | some i=>some (i,0)
 | none=>match g with
  | 0=>some (0,j)
  | _+1=>none
def T2(gs:List (Nat×Nat))(v:V):V :=
 match v with
 | .own g j sz lo n=>match a8c gs g j with
  | some (g',j')=>.own g' j' sz lo n
  | none=>.bot
 | .ptr g j off=>match a8c gs g j with
  | some (g',j')=>.ptr g' j' off
  | none=>.bot
 | .eptr g j sz idx off=>match a8c gs g j with
  | some (g',j')=>.eptr g' j' sz idx off
  | none=>.bot
 | .fptr _=>.bot
 | .mp g j=>match a8c gs g j with
  | some (g',j')=>.mp g' j'
  | none=>.bot
 | v=>v
def b0C(gs:List (Nat×Nat))(v:V):V :=
 match v with
 | .agg cs=>.agg (cs.map (T2 gs))
 | v=>T2 gs v
def b9L(gs:List (Nat×Nat))(v:V):V :=
 match v with
 | .tup cs=>.tup (cs.map (b0C gs))
 | v=>b0C gs v
def a6o(gs:List (Nat×Nat))(e:r9):r9 :=
 match e with
 | .var e cs=>.var e (cs.map (T2 gs))
 | .deep true _ _ _ _=>.dead
 | e=>e
def a68(gs:List (Nat×Nat)):Nat->List Nat->List V->List V
 | _,_,[]=>[]
 | i,[],_::vs=>.bot::a68 gs (i+1) [] vs
 | i,k::ks,v::vs=>if Nat.beq k i then b9L gs v::a68 gs (i+1) ks vs else .bot::a68 gs (i+1) (k::ks) vs
def a6Z(S:St)(gs0:List (Nat×Nat)):List (Nat×Nat)->List (Option (List r9))
 | []=>[]
 | id::gs=>some [match S.ent id.1 id.2 with
  | some e=>a6o gs0 e
  | none=>.dead]::a6Z S gs0 gs
def a9b(gs:List (Nat×Nat)):Nat->List r9->List r9
 | _,[]=>[]
 | j,e::es=>(match a7u gs (0,j) 1 with
  | some _=>.dead
  | none=>a6o gs e)::a9b gs (j+1) es
def a0C(keep:List Nat)(gs:List (Nat×Nat))(S:St):Option St :=
 if a2i gs then
  some {t:=a68 gs 0 keep S.t,h:=(match S.h with
   | some l::_=>some (a9b gs 0 l)
   | _=>none)::a6Z S gs gs}
 else none
section
variable {cx:Cx} {Γ:M1} {F:Nat->Prop} {ι:Nat->Nat->Value} {S S':St} {a:Act} {w:World} {keep:List Nat}
theorem d0E:∀{l:List (Nat×Nat)} {x:Nat×Nat} {i k:Nat},a7u l x i=some k->i<=k/\l[k-i]?=some x
 | [],x,i,k,h=>by cases h
 | y::l,x,i,k,h=>by
  unfold a7u at h;split at h
  ·rename_i q;injection h with h;subst h;simp at q;have:y=x:=Prod.ext q.1 q.2;exact ⟨e9h _,by simp [this]⟩
  ·obtain ⟨h1,h2⟩:=d0E h;refine ⟨by omega,?_⟩;have:k-i=(k-(i+1))+1:=by omega
   rw [this];simpa using h2
def a37(ι:Nat->Nat->Value)(gs:List (Nat×Nat))(g j:Nat):Value :=
 match g with
 | 0=>ι 0 j
 | g+1=>match gs[g]? with
  | some id=>ι id.1 id.2
  | none=>.nilFunc
theorem c1i{gs0:List (Nat×Nat)}:∀{gs:List (Nat×Nat)} {i:Nat} {id:Nat×Nat},gs[i]?=some id->(a6Z S gs0 gs)[i]?=some (some [match S.ent id.1 id.2 with
  | some e=>a6o gs0 e
  | none=>.dead])
 | id'::gs,0,id,h=>by simp at h;subst h;simp [a6Z]
 | id'::gs,i+1,id,h=>by simp at h;simp [a6Z,c1i h]
theorem c60{gs0:List (Nat×Nat)}:∀{gs:List (Nat×Nat)},(a6Z S gs0 gs).length=gs.length
 | []=>rfl
 | _::gs=>by simp [a6Z,c60]
theorem c6k{gs:List (Nat×Nat)}(hp:a0C keep gs S=some S')(hD:S.D 0):S'.D 0:=by
 unfold a0C at hp;split at hp<;>try (cases hp;done)
 injection hp with hp;subst hp;obtain ⟨l,hl⟩:=hD;have:∃t,S.h=some l::t:=by
  cases hh:S.h with
  | nil=>rw [hh] at hl;simp at hl
  | cons x t=>rw [hh] at hl;simp at hl;exact ⟨t,by rw [hl]⟩
 obtain ⟨t,ht⟩:=this;rw [ht];exact ⟨_,rfl⟩
theorem b0F{gs:List (Nat×Nat)}(hp:a0C keep gs S=some S'){g j g' j':Nat}(hn:a8c gs g j=some (g',j'))(hD:S.D g):S'.D g'/\a37 ι gs g' j'=ι g j:=by
 unfold a8c at hn;split at hn
 ·rename_i i hi;injection hn with hn;injection hn with h1 h2;subst h1;subst h2;unfold a0C at hp;split at hp<;>try (cases hp;done)
  injection hp with hp;subst hp;obtain ⟨h3,h4⟩:=d0E hi;obtain ⟨m,rfl⟩:∃m,i=m+1:=⟨i-1,by omega⟩
  simp only [Nat.add_sub_cancel] at h4;refine ⟨⟨_,(e9I).trans (c1i h4)⟩,?_⟩;simp [a37,h4]
 ·split at hn<;>try (cases hn;done)
  injection hn with hn;injection hn with h1 h2;subst h1;subst h2;exact ⟨c6k hp hD,rfl⟩
theorem c5b:∀{l:List (Nat×Nat)} {x:Nat×Nat} {i:Nat},a7u l x i=none->x ∉ l
 | [],x,i,_=>by simp
 | y::l,x,i,h=>by
  unfold a7u at h;split at h
  ·cases h
  ·rename_i q;intro hx;rcases e8K.1 hx with rfl|hx
   ·simp at q
   ·exact c5b h hx
theorem d2t{gs:List (Nat×Nat)}:∀{l:List r9} {i j:Nat} {e:r9},(a9b gs i l)[j]?=some e->e=.dead\/∃e0,l[j]?=some e0/\e=a6o gs e0/\(0,i+j) ∉ gs
 | [],i,j,e,h=>by simp [a9b] at h
 | e1::l,i,0,e,h=>by
  simp only [a9b,e9Z] at h;injection h with h;split at h
  ·exact .inl h.symm
  ·rename_i hq;exact .inr ⟨e1,rfl,h.symm,by simpa using c5b hq⟩
 | e1::l,i,j+1,e,h=>by
  simp only [a9b,e9I] at h;rcases d2t h with h1|⟨e0,h1,h2,h3⟩
  ·exact .inl h1
  ·exact .inr ⟨e0,by simpa using h1,h2,by rw [show i+(j+1)=i+1+j by omega];exact h3⟩
theorem RC.ren{gs:List (Nat×Nat)}(hp:a0C keep gs S=some S'){v:V}{c:Value}(h:RC w F S.D ι v c):RC w F S'.D (a37 ι gs) (T2 gs v) c:=by
 cases h with
 | fv v c h =>
  have:T2 gs v=v:=by cases h<;>rfl
  rw [this];exact .fv _ _ h
 | own g j sz lo n b nn cap hD hι hlo hb0 hb1 =>
  unfold T2;simp only;split
  ·rename_i g' j' hn;obtain ⟨h1,h2⟩:=b0F (ι:=ι) hp hn hD;exact .own g' j' sz lo n b nn cap h1 (h2.trans hι) hlo hb0 hb1
  ·exact .fv _ _ (.bot _ rfl)
 | own0 g j sz lo b cap hD hlo =>
  unfold T2;simp only;split
  ·rename_i g' j' hn;obtain ⟨h1,h2⟩:=b0F (ι:=ι) hp hn hD;exact .own0 g' j' sz lo b cap h1 hlo
  ·exact .fv _ _ (.bot _ rfl)
 | ptr g j off A6 hD hι =>
  unfold T2;simp only;split
  ·rename_i g' j' hn;obtain ⟨h1,h2⟩:=b0F (ι:=ι) hp hn hD;exact .ptr g' j' off A6 h1 (h2.trans hι)
  ·exact .fv _ _ (.bot _ rfl)
 | eptr g j sz idx off b hD hι =>
  unfold T2;simp only;split
  ·rename_i g' j' hn;obtain ⟨h1,h2⟩:=b0F (ι:=ι) hp hn hD;exact .eptr g' j' sz idx off b h1 (by rw [h2];exact hι)
  ·exact .fv _ _ (.bot _ rfl)
 | fptr cs g o ds hF h hs=>exact .fv _ _ (.bot _ rfl)
 | mp g j A6 hD hι =>
  unfold T2;simp only;split
  ·rename_i g' j' hn;obtain ⟨h1,h2⟩:=b0F (ι:=ι) hp hn hD;exact .mp g' j' A6 h1 (h2.trans hι)
  ·exact .fv _ _ (.bot _ rfl)
theorem u7.maps{α α' β:Type}{R:α->β->Prop}{R':α'->β->Prop}(f:α->α')(hf:∀x y,R x y->R' (f x) y):∀{A7 bs},u7 R A7 bs->u7 R' (A7.map f) bs
 | _,_,.nil=>.nil
 | _,_,.cons h t=>.cons (hf _ _ h) (t.maps f hf)
theorem RA.ren{gs:List (Nat×Nat)}(hp:a0C keep gs S=some S'){v:V}{c:Value}(h:RA w F S.D ι v c):RA w F S'.D (a37 ι gs) (b0C gs v) c:=by
 cases h with
 | cell v c h =>
  have:b0C gs v=T2 gs v:=by
   cases h with
   | fv v c h=>cases h<;>rfl
   | _=>rfl
  rw [this];exact .cell _ _ (h.ren hp)
 | agg cs ds h=>exact .agg _ _ (h.maps _ fun _ _ x=>x.ren hp)
theorem RV.ren{gs:List (Nat×Nat)}(hp:a0C keep gs S=some S'){v:V}{c:Value}(h:RV w F S.D ι v c):RV w F S'.D (a37 ι gs) (b9L gs v) c:=by
 cases h with
 | one v c h =>
  have:b9L gs v=b0C gs v:=by
   cases h with
   | cell v c h =>
    cases h with
    | fv v c h=>cases h<;>rfl
    | _=>rfl
   | agg cs ds h=>rfl
  rw [this];exact .one _ _ (h.ren hp)
 | tup cs ds h=>exact .tup _ _ (h.maps _ fun _ _ x=>x.ren hp)
 | any c=>exact .any c
theorem b3i{gs:List (Nat×Nat)}(hp:a0C keep gs S=some S'):∀{vs:List V} {cs:List Value},u7 (RV w F S.D ι) vs cs->∀(i:Nat) (ks:List Nat),u7 (RV w F S'.D (a37 ι gs)) (a68 gs i ks vs) cs
 | _,_,.nil,i,ks=>by cases ks<;>exact .nil
 | _,_,.cons h t,i,[]=>.cons (.any _) (b3i hp t _ _)
 | _,_,.cons h t,i,k::ks=>by
  unfold a68;split
  ·exact .cons (h.ren hp) (b3i hp t _ _)
  ·exact .cons (.any _) (b3i hp t _ _)
theorem b6i{gs:List (Nat×Nat)}(hp:a0C keep gs S=some S'){g j:Nat}{e:r9}(he:S'.ent g j=some e):e=.dead\/∃g0 j0 e0,S.ent g0 j0=some e0/\e=a6o gs e0/\a37 ι gs g j=ι g0 j0/\((g=0/\g0=0/\j=j0/\(0,j) ∉ gs)\/(∃i,g=i+1/\j=0/\gs[i]?=some (g0,j0))):=by
 unfold a0C at hp;split at hp<;>try (cases hp;done)
 injection hp with hp;subst hp;cases g with
 | zero =>
  unfold St.ent at he;simp only [e9Z] at he;split at he<;>try (cases he;done)
  rename_i l hl;injection hl with hl;split at hl<;>try (cases hl;done)
  rename_i l0 t hh;injection hl with hl;subst hl;rcases d2t he with h1|⟨e0,h1,h2,h3⟩
  ·exact .inl h1
  ·exact .inr ⟨0,j,e0,by unfold St.ent;rw [hh];exact h1,h2,rfl,.inl ⟨rfl,rfl,rfl,by simpa using h3⟩⟩
 | succ i =>
  unfold St.ent at he;simp only [e9I] at he;split at he<;>try (cases he;done)
  rename_i l hl;have hlt:i<gs.length:=by
   have:=(e8I.1 hl).1;rwa [c60] at this
  have hgi:gs[i]?=some gs[i]:=e8D hlt;generalize gs[i]=id at hgi;rw [c1i hgi] at hl;injection hl with hl;injection hl with hl;subst hl;cases j with
  | succ j=>simp at he
  | zero =>
   simp only [e9Z] at he;injection he with he;cases hx:S.ent id.1 id.2 with
   | none=>rw [hx] at he;exact .inl he.symm
   | some e0 =>
    rw [hx] at he;exact .inr ⟨id.1,id.2,e0,hx,he.symm,by simp [a37,hgi],.inr ⟨i,rfl,rfl,hgi⟩⟩
theorem d3P{α:Type}{l:List α}(h:l.Nodup){i j:Nat}{x:α}(hi:l[i]?=some x)(hj:l[j]?=some x):i=j:=by
 obtain ⟨h1,h2⟩:=e8I.1 hi;obtain ⟨h3,h4⟩:=e8I.1 hj;exact (List.getElem_inj h).1 (h2.trans h4.symm)
theorem e69{gs:List (Nat×Nat)}(h:t0 Γ F ι S a w)(hp:a0C keep gs S=some S'):∃ι',t0 Γ F ι' S' a w:=by
  have hnd:gs.Nodup:=by
    unfold a0C at hp;split at hp<;>try (cases hp;done)
    rename_i hchk;exact a3F hchk
  have hlive:∀e:r9,(a6o gs e).live=true->e.live=true/\∀c k,EB w (a6o gs e) c k->EB w e c k:=by
    intro e he;cases e with
    | deep o e sz n rows =>
      cases o with
      | true=>cases he
      | false=>exact ⟨rfl,fun _ _ hk=>hk⟩
    | _=>exact ⟨he,fun _ _ hk=>hk⟩
  have ht:S'.t=a68 gs 0 keep S.t:=by
    unfold a0C at hp;split at hp<;>try (cases hp;done)
    injection hp with hp;subst hp;rfl
  refine ⟨a37 ι gs,?_⟩;exact
    { F0:=h.F0,F1:=h.F1,F2:=h.F2,kept:=h.kept
      tmps:=by rw [ht];exact b3i hp h.tmps 0 keep
      ents:=fun g j e he=>by
        rcases b6i (ι:=ι) hp he with rfl|⟨g0,j0,e0,h0,rfl,h2,_⟩
        · trivial
        · rw [h2];have hr:=h.ents _ _ _ h0;cases e0 with
          | var e cs =>
            obtain ⟨g1,cur,q1,q2,q3⟩:=hr;exact ⟨g1,cur,q1,q2,q3.maps _ fun _ _ x=>x.ren hp⟩
          | dead=>exact hr
          | arr e sz n rows=>exact hr
          | row e sz n rows=>exact hr
          | frz sz n rows=>exact hr
          | map t m es=>exact hr
          | deep o e sz n rows =>
            cases o with
            | true=>trivial
            | false =>
              obtain ⟨flat,fs,q1,q2,q3,q4,q5,q6⟩:=hr;exact ⟨flat,fs,q1,(q2.blOf (q6 rfl).flat).kl,q3,q4,q5,q6⟩
      sep:=fun g j e k he hl hk=>by
        rcases b6i (ι:=ι) hp he with rfl|⟨g0,j0,e0,h0,rfl,h2,_⟩
        · cases hl
        · rw [h2] at hk;exact h.sep _ _ _ k h0 (hlive _ hl).1 ((hlive _ hl).2 _ _ hk)
      inj:=fun g1 j1 e1 g2 j2 e2 k he1 he2 hl1 hl2 hk1 hk2=>by
        rcases b6i (ι:=ι) hp he1 with rfl|⟨x1,y1,z1,a1,rfl,b1,c1⟩
        · cases hl1
        rcases b6i (ι:=ι) hp he2 with rfl|⟨x2,y2,z2,a2,rfl,b2,c2⟩
        · cases hl2
        rw [b1] at hk1;rw [b2] at hk2;obtain ⟨q1,q2⟩:=h.inj _ _ _ _ _ _ k a1 a2 (hlive _ hl1).1 (hlive _ hl2).1 ((hlive _ hl1).2 _ _ hk1) ((hlive _ hl2).2 _ _ hk2);rcases c1 with ⟨u1,u2,u3,u4⟩|⟨i1,u1,u2,u3⟩<;>rcases c2 with ⟨v1,v2,v3,v4⟩|⟨i2,v1,v2,v3⟩
        · exact ⟨by omega,by omega⟩
        · refine absurd (e8P v3) ?_;rw [<-q1,<-q2,u2,<-u3];exact u4
        · refine absurd (e8P u3) ?_;rw [q1,q2,v2,<-v3];exact v4
        · rw [q1,q2] at u3;have:=d3P hnd u3 v3;exact ⟨by omega,by omega⟩
      defers:=h.defers
      pins:=fun j c hc=>by
        obtain ⟨h1,h2⟩:=h.pins j c hc;exact ⟨c6k hp h1,h2⟩}
end
def a9r(cx:Cx)(k:List Item)(S:St)(sc:P3)(fs:List Fix)(keep:List Nat)(gs:List (Nat×Nat)):Option (List Item×St×List Prop) :=
 match goM cx 4000 k S sc with
 | some (k1,S1,ps)=>match b1K fs S1 with
  | some (S2,qs)=>match a0C keep gs S2 with
   | some S3=>some (k1,S3,ps++qs)
   | none=>none
  | none=>none
 | none=>none
theorem I1.seg0{cx:Cx}{X:M0}{res:V}{outs:List (Option V)}{k k':List Item}{S S':St}{sc:P3}{fs:List Fix}{keep:List Nat}{gs:List (Nat×Nat)}{ps:List Prop}(hg:a9r cx k S sc fs keep gs=some (k',S',ps))(hob:∀p∈ps,p)(h:I1 cx X res outs k' S'):I1 cx X res outs k S:=by
 unfold a9r at hg;split at hg<;>try (cases hg;done)
 rename_i k1 S1 ps' h1;split at hg<;>try (cases hg;done)
 rename_i S2 qs h2;split at hg<;>try (cases hg;done)
 rename_i S3 h3;injection hg with hg;injection hg with e1 e2;injection e2 with e2 e3;subst e1;subst e2;subst e3;refine I1.go h1 (fun p hp=>hob p (List.mem_append.2 (.inl hp))) ?_;intro w0 F0 fp cargs bs hp hF0 F ι a w b cs hrel hb1 hb2;obtain ⟨F',ι',hrel'⟩:=d6x fs hrel h2 (fun p hp=>hob p (List.mem_append.2 (.inr hp)));obtain ⟨ι2,hrel2⟩:=e69 hrel' h3;exact h w0 F0 fp cargs bs hp hF0 F' ι2 a w b cs hrel2 hb1 hb2
def a9p(cx:Cx)(X:M0)(k:List Item)(S:St)(sc:P3):Option (V×List (Option V)×List Prop) :=
 match goM cx 4000 k S sc with
 | some (k1,S1,ps)=>match c2L cx X k1 S1 with
  | some (res,outs,qs)=>some (res,outs,ps++qs)
  | none=>none
 | none=>none
theorem I1.fin0{cx:Cx}{X:M0}{res:V}{outs:List (Option V)}{k:List Item}{S:St}{sc:P3}{ps:List Prop}(hf:cx.P.funcs[X.f]?=some X.fn)(hg:a9p cx X k S sc=some (res,outs,ps))(hob:∀p∈ps,p):I1 cx X res outs k S:=by
 unfold a9p at hg;split at hg<;>try (cases hg;done)
 rename_i k1 S1 ps' h1;split at hg<;>try (cases hg;done)
 rename_i r o qs h2;injection hg with hg;injection hg with e1 e2;injection e2 with e2 e3;subst e1;subst e2;subst e3;exact I1.go h1 (fun p hp=>hob p (List.mem_append.2 (.inl hp))) (I1.ret hf h2 fun p hp=>hob p (List.mem_append.2 (.inr hp)))
def M8:List Prop->Prop
 | []=>True
 | p::ps=>p/\M8 ps
theorem M8.mem:∀{ps:List Prop},M8 ps->∀p∈ps,p
 | _::_,h,p,hp=>by
  rcases e8K.1 hp with rfl|hp
  ·exact h.1
  ·exact M8.mem h.2 p hp
theorem M8.nil:M8 []:=trivial
theorem I1.seg{cx:Cx}{X:M0}{res:V}{outs:List (Option V)}{k k':List Item}{S S':St}(sc:P3)(fs:List Fix)(keep:List Nat)(gs:List (Nat×Nat))(ps:List Prop)(hob:M8 ps)(h:I1 cx X res outs k' S')(hg:a9r cx k S sc fs keep gs=some (k',S',ps)):I1 cx X res outs k S :=
 I1.seg0 hg hob.mem h
theorem I1.fin{cx:Cx}{X:M0}{res:V}{outs:List (Option V)}{k:List Item}{S:St}(hf:cx.P.funcs[X.f]?=some X.fn)(sc:P3)(ps:List Prop)(hob:M8 ps)(hg:a9p cx X k S sc=some (res,outs,ps)):I1 cx X res outs k S :=
 I1.fin0 hf hg hob.mem
def a53:V->Bool
 | .osl .. | .dsl .. | .optr .. => true
 | _=>false
def a1a:List (Option Nat)->List V->Bool
 | [],[]=>true
 | none::om,.osl .. :: _=>false
 | none::om,.dsl .. :: _=>false
 | none::om,_::vs=>a1a om vs
 | some _::om,.osl .. :: vs=>a1a om vs
 | some _::om,.dsl .. :: vs=>a1a om vs
 | _,_=>false
def d08:PM->V->Bool
 | .val _ om,.agg vs=>a1a om vs
 | .val ..,_=>false
 | .part,_=>false
 | _,v=>a53 v
def a26:Nat->List (Option (Nat×PM))->List V->Bool
 | _,[],[]=>true
 | j,none::os,v::vs=>a26 (j+(H5 0 j v).2.length) os vs
 | j,some (j',m)::os,v::vs=>Nat.beq j' j&&d08 m v&&a26 (j+(H5 0 j v).2.length) os vs
 | _,_,_=>false
def b4W:Nat->List V
 | 0=>[]
 | n+1=>.bot::b4W n
def a8E(X:M0)(args:List V):St :=
 let x:=U0 0 0 args
 {t:=x.1++b4W (X.fn.ntmps-args.length),h:=[some x.2]}
section
variable {w:World} {F:Nat->Prop}
theorem e4u{v:V}{c:Value}{f:List Nat}(h:BA w F v c f)(j:Nat):∃bs:List Value,bs.length=(H5 0 j v).2.length/\F8 w (H5 0 j v).2 bs f/\(a53 v=true->bs.head?=some c)/\
  ∀(D:Nat->Prop) (ι:Nat->Nat->Value),D 0->At ι 0 j bs->f.Nodup->RA w F D ι (H5 0 j v).1 c/\Lie w F D ι (H5 0 j v).2 bs:=by
 by_cases ho:a53 v=true
 ·cases h with
  | cell v c f h =>
   cases h with
   | fv v c h=>cases h<;>cases ho
   | osl e sz n rows c h =>
    refine ⟨[c],rfl,.one fun k hk=>O5.2 hk,fun _=>rfl,fun D ι hD hat _=>⟨.cell _ _ (RC.whole hD (hat 0 c rfl) h),?_⟩⟩;intro k e' b he hb;cases k with
    | zero =>
     simp [H5,H2] at he hb;subst he;subst hb;exact h
    | succ k=>simp [H5,H2] at he
   | dsl e sz n rows c flat fs h1 h2 h3 h4 =>
    obtain ⟨bs,q1,q2,q3⟩:=b7m (grp:=0) (BC.dsl e sz n rows c flat fs h1 h2 h3 h4) j;refine ⟨[c],rfl,.one fun k hk=>(EB.deep_iff (D:=fun _=>True) (ι:=fun _ _=>.nilFunc) h1 h2.kl).1 hk,fun _=>rfl,fun D ι hD hat hnd=>⟨.cell _ _ (RC.wholeO hD (hat 0 c rfl) h1),?_⟩⟩;intro k e' b he hb;cases k with
    | zero =>
     simp [H5,H2] at he hb;subst he;subst hb;exact ⟨flat,fs,h1,h2.kl,h3,h4,hnd,fun _=>G1.of_flat h2.noRef⟩
    | succ k=>simp [H5,H2] at he
  | agg cs ds f h=>cases ho
  | optr e cs g cur f hg h =>
   obtain ⟨bs,h1,h2,h3⟩:=a6E (grp:=0) h (j+1);refine ⟨.pointer (some ⟨g,0,none⟩)::bs,by simp [H5,h1],?_,fun _=>rfl,fun D ι hD hat hnd => ?_⟩
   ·exact F8.cons (w:=w) (e:=.var e (J0 0 (j+1) cs).1) (b:=.pointer (some ⟨g,0,none⟩)) (f1:=[g]) (fun k hk=>by
     have hk:A6 (.pointer (some ⟨g,0,none⟩))=some k:=hk;simp [A6] at hk;simp [hk]) h2
   have hat':At ι 0 (j+1) bs:=fun k b hb=>by
    have:=hat (k+1) b (by simpa using hb);rw [<-this];congr 1;omega
   obtain ⟨x,y⟩:=h3 D ι hD hat' (e9x.1 hnd).2;refine ⟨.cell _ _ (.ptr 0 j 0 g hD (hat 0 _ rfl)),?_⟩;intro k e' b he hb;cases k with
   | zero =>
    simp [H5] at he hb;subst he;subst hb;exact ⟨g,cur,rfl,hg,x⟩
   | succ k=>exact y k e' b (by simpa [H5] using he) (by simpa using hb)
 ·obtain ⟨bs,h1,h2,h3⟩:=c2a (grp:=0) h j;exact ⟨bs,h1,h2,fun q=>absurd q ho,h3⟩
theorem c2g{pre b1 b2:List Value}:∀{om:List (Option Nat)} {j:Nat} {ds:List Value},a5N (pre++b1) om j ds->a5N (pre++(b1++b2)) om j ds
 | [],_,[],_=>trivial
 | none::om,j,d::ds,h=>⟨h.1,c2g h.2⟩
 | some _::om,j,d::ds,h=>by
  refine ⟨?_,c2g h.2⟩;have h1:=h.1;rw [<-e8R,e8Y (e8I.1 h1).1];exact h1
 | [],_,_::_,h=>h.elim
 | none::_,_,[],h=>h.elim
 | some _::_,_,[],h=>h.elim
theorem d0l:∀{vs:List V} {cs:List Value} {f:List Nat},BL w F vs cs f->∀j,∃bs:List Value,bs.length=(J0 0 j vs).2.length/\F8 w (J0 0 j vs).2 bs f/\
    (∀(om:List (Option Nat)) (pre:List Value),pre.length=j->a1a om vs=true->a5N (pre++bs) om j cs)/\
    ∀(D:Nat->Prop) (ι:Nat->Nat->Value),D 0->At ι 0 j bs->f.Nodup->u7 (RC w F D ι) (J0 0 j vs).1 cs/\Lie w F D ι (J0 0 j vs).2 bs
  | _,_,_,.nil,j=>⟨[],rfl,.nil,fun om pre _ h=>by cases om with|nil=>trivial|cons o om=>cases o<;>simp [a1a] at h,fun D ι hD hat _=>⟨.nil,fun k e b he=>by simp [J0] at he⟩⟩
  | _,_,_,.cons v c f vs cs fs h t,j=>by
    have hone:=h.one;have hb:∃b1:List Value,b1.length=(H2 0 j v).2.length/\F8 w (H2 0 j v).2 b1 f/\(a53 v=true->b1=[c])/\(a53 v=false->b1=[])/\∀(D:Nat->Prop) (ι:Nat->Nat->Value),D 0->At ι 0 j b1->f.Nodup->RC w F D ι (H2 0 j v).1 c/\Lie w F D ι (H2 0 j v).2 b1:=by
      cases h with
      | fv v c h =>
        obtain ⟨b1,q1,q2,q3⟩:=b7m (grp:=0) (BC.fv (w:=w) v c h) j;have hv:(H2 0 j v).2=[]/\a53 v=false:=by cases h<;>exact ⟨rfl,rfl⟩
        have:b1=[]:=e8N (by rw [q1,hv.1];rfl);exact ⟨b1,q1,q2,fun q=>by (rw [hv.2] at q;cases q),fun _=>this,q3⟩
      | osl e sz n rows c h =>
        refine ⟨[c],rfl,.one fun k hk=>O5.2 hk,fun _=>rfl,(fun q=>by cases q),fun D ι hD hat _=>⟨RC.whole hD (hat 0 c rfl) h,?_⟩⟩;intro k e' b he hb;cases k with
        | zero =>
          simp [H2] at he hb;subst he;subst hb;exact h
        | succ k=>simp [H2] at he
      | dsl e sz n rows c flat fs h1 h2 h3 h4 =>
        refine ⟨[c],rfl,.one fun k hk=>(EB.deep_iff (D:=fun _=>True) (ι:=fun _ _=>.nilFunc) h1 h2.kl).1 hk,fun _=>rfl,(fun q=>by cases q),fun D ι hD hat hnd=>⟨RC.wholeO hD (hat 0 c rfl) h1,?_⟩⟩;intro k e' b he hb;cases k with
        | zero =>
          simp [H2] at he hb;subst he;subst hb;exact ⟨flat,fs,h1,h2.kl,h3,h4,hnd,fun _=>G1.of_flat h2.noRef⟩
        | succ k=>simp [H2] at he
    obtain ⟨b1,hl1,hf1,hi1,hi0,h1⟩:=hb;obtain ⟨b2,hl2,hf2,hp2,h2⟩:=d0l t (j+(H2 0 j v).2.length);refine ⟨b1++b2,by simp [J0,hl1,hl2],hf1.append hf2 hl1,?_,fun D ι hD hat hnd => ?_⟩
    · intro om pre hpre hok;have hnext:∀om,a1a om vs=true->a5N (pre++(b1++b2)) om (j+(H2 0 j v).2.length) cs:=by
        intro om hok;have:=hp2 om (pre++b1) (by simp [hpre,hl1]) hok;rwa [e8R] at this
      cases om with
      | nil=>simp [a1a] at hok
      | cons o om =>
        by_cases hv:a53 v=true
        · obtain rfl:=hi1 hv;have hlen:(H2 0 j v).2.length=1:=by rw [<-hl1];rfl
          rw [hlen] at hnext;cases o with
          | none => cases v<;>first|(cases hv;done)|(simp [a1a] at hok;done)|skip
                    cases h;rename_i h;cases h
          | some e =>
            refine ⟨?_,hnext om ?_⟩
            · rw [e8T (by omega)];simp [hpre]
            · cases v<;>first|(cases hv;done)|(simpa [a1a] using hok)|(simp [a1a] at hok;done)
        · have hv:a53 v=false:=by simpa using hv
          obtain rfl:=hi0 hv;have hlen:(H2 0 j v).2.length=0:=by rw [<-hl1];rfl
          rw [hlen] at hnext;cases o with
          | none =>
            refine ⟨hone,hnext om ?_⟩;cases v<;>first|(cases hv;done)|(simpa [a1a] using hok)
          | some e=>cases v<;>first|(cases hv;done)|(simp [a1a] at hok;done)
    · rw [e8L] at hnd;obtain ⟨x1,y1⟩:=h1 D ι hD hat.left hnd.1;obtain ⟨x2,y2⟩:=h2 D ι hD (by rw [<-hl1];exact hat.right) hnd.2.1;exact ⟨.cons x1 x2,y1.append y2 hl1.symm⟩
theorem e50{v:V}{c:Value}{f:List Nat}(h:BA w F v c f)(j:Nat):∃bs:List Value,bs.length=(H5 0 j v).2.length/\F8 w (H5 0 j v).2 bs f/\
  (∀(m:PM) (oms:List (Option (Nat×PM))) (cs pre b2:List Value),pre.length=j->d08 m v=true->a0R oms cs (pre++(bs++b2))->a0R (some (j,m)::oms) (c::cs) (pre++(bs++b2)))/\
  ∀(D:Nat->Prop) (ι:Nat->Nat->Value),D 0->At ι 0 j bs->f.Nodup->RA w F D ι (H5 0 j v).1 c/\Lie w F D ι (H5 0 j v).2 bs:=by
 by_cases hv:∃cs,v=.agg cs
 ·obtain ⟨cs,rfl⟩:=hv;cases h with
  | cell v c f h=>cases h with|fv v c h=>cases h
  | agg cs ds f h =>
   obtain ⟨bs,h1,h2,hp,h3⟩:=d0l h j;refine ⟨bs,h1,h2,?_,fun D ι hD hat hnd=>⟨.agg _ _ (h3 D ι hD hat hnd).1,(h3 D ι hD hat hnd).2⟩⟩;intro m oms cs' pre b2 hpre hm t;cases m with
   | val ck om=>exact .agg _ _ _ _ _ _ _ (c2g (hp om pre hpre hm)) t
   | ptr ck om=>cases hm
   | row=>cases hm
   | part=>cases hm
 ·obtain ⟨bs,h1,h2,hh,h3⟩:=e4u h j;refine ⟨bs,h1,h2,?_,h3⟩;intro m oms cs' pre b2 hpre hm t;cases m with
  | val ck om=>cases v<;>first|exact absurd ⟨_,rfl⟩ hv|cases hm
  | part=>cases hm
  | ptr ck om =>
   refine .pin _ _ _ _ _ _ rfl ?_ t;have:=hh hm;cases bs with
   | nil=>cases this
   | cons b b1 =>
    injection this with this;subst this;rw [e8T (by omega)];simp [hpre]
  | row =>
   refine .pin _ _ _ _ _ _ rfl ?_ t;have:=hh hm;cases bs with
   | nil=>cases this
   | cons b b1 =>
    injection this with this;subst this;rw [e8T (by omega)];simp [hpre]
theorem d8Y{vs:List V}{cs:List Value}{f:List Nat}(h:BS w F vs cs f):∀j,∃bs:List Value,bs.length=(U0 0 j vs).2.length/\F8 w (U0 0 j vs).2 bs f/\
  (∀(oms:List (Option (Nat×PM))) (pre:List Value),pre.length=j->a26 j oms vs=true->a0R oms cs (pre++bs))/\
  ∀(D:Nat->Prop) (ι:Nat->Nat->Value),D 0->At ι 0 j bs->f.Nodup->u7 (RA w F D ι) (U0 0 j vs).1 cs/\Lie w F D ι (U0 0 j vs).2 bs:=by
 induction h with
 | nil =>
  refine fun j=>⟨[],rfl,.nil,fun oms pre _ hp => ?_,fun D ι hD hat _=>⟨.nil,fun k e b he=>by simp [U0] at he⟩⟩
  cases oms with
  | nil=>exact .nil _
  | cons o oms=>cases o<;>simp [a26] at hp
 | cons v c f vs cs fs h t ih =>
  intro j;obtain ⟨b1,hl1,hf1,hh1,h1⟩:=e50 h j;obtain ⟨b2,hl2,hf2,hp2,h2⟩:=ih (j+(H5 0 j v).2.length);refine ⟨b1++b2,by simp [U0,hl1,hl2],hf1.append hf2 hl1,?_,fun D ι hD hat hnd => ?_⟩
  ·intro oms pre hpre hp;cases oms with
   | nil=>simp [a26] at hp
   | cons o oms =>
    have hnext:∀oms,a26 (j+(H5 0 j v).2.length) oms vs=true->a0R oms cs (pre++(b1++b2)):=by
     intro oms hp;have:=hp2 oms (pre++b1) (by simp [hpre,hl1]) hp;rwa [e8R] at this
    cases o with
    | none=>exact .skip _ _ _ _ (hnext oms (by simpa [a26] using hp))
    | some q =>
     obtain ⟨j',m⟩:=q;simp only [a26,e8G] at hp;obtain ⟨⟨e1,e2⟩,e3⟩:=hp;have hj:j'=j:=e89 e1;subst hj;exact hh1 m oms cs pre b2 hpre e2 (hnext oms e3)
  ·rw [e8L] at hnd;obtain ⟨x1,y1⟩:=h1 D ι hD hat.left hnd.1;obtain ⟨x2,y2⟩:=h2 D ι hD (by rw [<-hl1];exact hat.right) hnd.2.1;exact ⟨.cons x1 x2,y1.append y2 hl1.symm⟩
theorem c5r{D:Nat->Prop}{ι:Nat->Nat->Value}:∀n,u7 (RV w F D ι) (b4W n) (e8E n undef)
 | 0=>.nil
 | n+1=>.cons (.any _) (c5r n)
theorem BS.len{vs:List V}{cs:List Value}{f:List Nat}(h:BS w F vs cs f):vs.length=cs.length:=by
 induction h with
 | nil=>rfl
 | cons _ _ _ _ _ _ _ _ ih=>simp [ih]
end
theorem W4.of{cx:Cx}{X:M0}{args:List V}{res:V}{outs:List (Option V)}{c:Code}(hf:cx.P.funcs[X.f]?=some X.fn)(hb:X.fn.body=some c) (hn:(X.fn.name == "runtime.NumGoroutine")=false) (ho:a26 0 X.oms args=true)
    (h:I1 cx X res outs [.code c] (a8E X args)):W4 cx.P X.f args res outs:=by
  refine ⟨⟨X.fn,hf,hn,by rw [hb];rfl⟩,?_⟩;intro w F cargs fp hbs hfpn hfp hF;obtain ⟨bs,hl,hbf,hpin,hlie⟩:=d8Y hbs 0;have hpin':=hpin X.oms [] rfl ho;rw [e9g] at hpin';obtain ⟨hargs,hents⟩:=hlie (a8E X args).D (a4p (fun _ _=>.nilFunc) 0 bs) ⟨_,rfl⟩ (fun k b hb=>by rw [e9k];exact a4s hb) hfpn;have hent:∀g j e,(a8E X args).ent g j=some e->g=0/\(U0 0 0 args).2[j]?=some e:=by
    intro g j e he;unfold St.ent a8E at he;cases g with
    | zero=>exact ⟨rfl,he⟩
    | succ g=>simp at he
  have hget:∀j e,(U0 0 0 args).2[j]?=some e->∃b,bs[j]?=some b/\a4p (fun _ _=>.nilFunc) 0 bs 0 j=b:=by
    intro j e he;have hj:j<bs.length:=by rw [hl];exact (e8I.1 he).1
    exact ⟨bs[j],e8D hj,a4s (e8D hj)⟩
  have hrel:t0 ⟨w,F,(· ∈ fp),bs⟩ F (a4p (fun _ _=>.nilFunc) 0 bs) (a8E X args) {tmps:=cargs.toArray++Array.replicate (X.fn.ntmps-cargs.toArray.size) undef,defers:=[]} w :=
    { F0:=fun _ x=>x,F1:=hF,F2:=fun _ x=>.inl x,kept:=.refl _ _
      tmps:=by
        show u7 _ ((U0 0 0 args).1++b4W (X.fn.ntmps-args.length)) _
        simp only [Array.toList_append,Array.toList_replicate,e94];rw [hbs.len];exact (hargs.imp fun _ _ x=>RV.one _ _ x).app (c5r _)
      ents:=fun g j e he=>by
        obtain ⟨rfl,he⟩:=hent g j e he;obtain ⟨b,hb,hv⟩:=hget j e he;rw [hv];exact hents j e b he hb
      sep:=fun g j e k he hl' hk=>by
        obtain ⟨rfl,he⟩:=hent g j e he;obtain ⟨b,hb,hv⟩:=hget j e he;rw [hv] at hk;have:=hbf.mem he hb hk;exact ⟨(hfp k this).1,.inl this⟩
      inj:=fun g j e g' j' e' k he he' hl1 hl2 hk hk'=>by
        obtain ⟨rfl,he⟩:=hent g j e he;obtain ⟨rfl,he'⟩:=hent g' j' e' he';obtain ⟨b,hb,hv⟩:=hget j e he;obtain ⟨b',hb',hv'⟩:=hget j' e' he';rw [hv] at hk;rw [hv'] at hk';exact ⟨rfl,hbf.inj hfpn he hb hk he' hb' hk'⟩
      defers:=rfl
      pins:=fun j c hc=>⟨⟨_,rfl⟩,a4s hc⟩}
  intro cs;let b:Frame:={ (default:Frame) with fn:=X.f,kind:=.normal}
  have henter:Frame.enter cx.P X.f cargs.toArray .normal =
      b.at {tmps:=cargs.toArray++Array.replicate (X.fn.ntmps-cargs.toArray.size) undef,defers:=[]} [.code c]:=by
    simp [Frame.enter,Frame.at,hf,hb,b]
  obtain ⟨e,w',fr,h1,h2,h3,h4⟩:=h w F fp cargs bs hpin' hF F _ _ w b cs hrel rfl rfl;rw [<-henter] at h2;exact ⟨e,w',fr,h1,h2,h3,h4⟩
inductive l7 (R S B:Type) where
 | ret (r:R)
 | brk (b:B)
 | nxt (s:S)
inductive l8 (R B:Type) where
 | ret (r:R)
 | brk (b:B)
def a0h{R S B:Type}(body:S->Option (l7 R S B)):Nat->S->Option (l8 R B)
 | 0,_=>none
 | n+1,s=>match body s with
  | some (.ret r)=>some (.ret r)
  | some (.brk s)=>some (.brk s)
  | some (.nxt s)=>a0h body n s
  | none=>none
open Classical in
def o9{R S B:Type}(body:S->Option (l7 R S B))(s:S):Option (l8 R B) :=
 if h:∃n r,a0h body n s=some r then some h.choose_spec.choose else none
theorem b81{R S B:Type}{body:S->Option (l7 R S B)}:∀{n:Nat} {s:S} {r:l8 R B},a0h body n s=some r->∀m,n<=m->a0h body m s=some r
 | 0,s,r,h,_,_=>by cases h
 | n+1,s,r,h,0,hm=>by omega
 | n+1,s,r,h,m+1,hm=>by
  unfold a0h at h ⊢;cases hb:body s with
  | none=>rw [hb] at h;cases h
  | some st =>
   rw [hb] at h;cases st with
   | ret x=>exact h
   | brk x=>exact h
   | nxt x=>exact b81 h m (by omega)
theorem c1o{R S B:Type}{body:S->Option (l7 R S B)}{s:S}{r:l8 R B}:o9 body s=some r ↔ ∃n,a0h body n s=some r:=by
 unfold o9;constructor
 ·intro h;split at h
  ·rename_i hx;injection h with h;exact ⟨_,h▸hx.choose_spec.choose_spec⟩
  ·cases h
 ·rintro ⟨n,h⟩
  have hx:∃n r,a0h body n s=some r:=⟨n,r,h⟩
  rw [dif_pos hx];have h1:=hx.choose_spec.choose_spec;have h2:=b81 h1 _ (Nat.le_max_left _ n);have h3:=b81 h _ (Nat.le_max_right hx.choose n);rw [h2] at h3;exact h3
theorem b9g{R S B:Type}(body:S->Option (l7 R S B))(s:S):o9 body s=match body s with
  | some (.ret r)=>some (.ret r)
  | some (.brk s)=>some (.brk s)
  | some (.nxt s)=>o9 body s
  | none=>none:=by
 apply Option.ext;intro r;rw [c1o];cases hb:body s with
 | none =>
  constructor
  ·rintro ⟨n,h⟩
   cases n with
   | zero=>cases h
   | succ n=>unfold a0h at h;rw [hb] at h;cases h
  ·intro h;cases h
 | some st =>
  cases st with
  | ret x =>
   constructor
   ·rintro ⟨n,h⟩
    cases n with
    | zero=>cases h
    | succ n=>unfold a0h at h;rw [hb] at h;exact h
   ·intro h;exact ⟨1,by unfold a0h;rw [hb];exact h⟩
  | brk x =>
   constructor
   ·rintro ⟨n,h⟩
    cases n with
    | zero=>cases h
    | succ n=>unfold a0h at h;rw [hb] at h;exact h
   ·intro h;exact ⟨1,by unfold a0h;rw [hb];exact h⟩
  | nxt x =>
   simp only;rw [c1o];constructor
   ·rintro ⟨n,h⟩
    cases n with
    | zero=>cases h
    | succ n=>unfold a0h at h;rw [hb] at h;exact ⟨n,h⟩
   ·rintro ⟨n,h⟩
    exact ⟨n+1,by unfold a0h;rw [hb];exact h⟩
def a8C{R S B:Type}(r:l8 R B)(I:S->Prop):l7 R S B->Prop
 | .ret x=>r=.ret x
 | .brk s=>r=.brk s
 | .nxt s=>I s
theorem e2F{R S B:Type}{body:S->Option (l7 R S B)}{I:S->Prop}{s:S}{r:l8 R B}(h:o9 body s=some r)(step:∀s st,body s=some st->a8C r I st->I s):I s:=by
 obtain ⟨n,h1⟩:=c1o.1 h;clear h;have h:=h1;clear h1;induction n generalizing s with
 | zero=>cases h
 | succ n ih =>
  unfold a0h at h;cases hb:body s with
  | none=>rw [hb] at h;cases h
  | some st =>
   rw [hb] at h;refine step s st hb ?_;cases st with
   | ret x=>injection h with h;exact h.symm
   | brk x=>injection h with h;exact h.symm
   | nxt x=>exact ih h
def l8.go{R B β:Type}(x:l8 R B)(kr:R->Option β)(ks:B->Option β):Option β :=
 match x with
 | .ret r=>kr r
 | .brk s=>ks s
def JC{B J:Type}(I:J->Prop)(r:B):l8 B J->Prop
 | .ret v=>some v=some r
 | .brk j=>I j
def idx{α:Type}(l:List α)(i:Int):Option α:=if 0<=i then l[i.toNat]? else none
def s7{β:Type}(p:Prop)[Decidable p](k:Option β):Option β:=if p then k else none
theorem b5H{α:Type}{l:List α}{i:Int}{x:α}(h:idx l i=some x):0<=i/\i<l.length/\l[i.toNat]?=some x:=by
 unfold idx at h;split at h
 ·rename_i hi;refine ⟨hi,?_,h⟩;have:=(e8I.1 h).1;omega
 ·cases h
section
variable {G:Prop} {α β R S:Type}
theorem A4{m:Option α}{f:α->Option β}{r:β}(h:m.bind f=some r)(k:∀x,m=some x->f x=some r->G):G:=by
 cases m with
 | none=>cases h
 | some x=>exact k x rfl h
theorem s9{p:Prop}[Decidable p]{a:Option β}{r:β}(h:s7 p a=some r)(k:p->a=some r->G):G:=by
 unfold s7 at h;split at h
 ·rename_i hp;exact k hp h
 ·cases h
theorem d8s{B:Type}{I:S->Prop}{r:l8 R B}{x:R}{st:l7 R S B}(h:some (l7.ret x)=some st)(hc:a8C r I st)(k:r=.ret x->G):G:=by
 injection h with h;subst h;exact k hc
theorem d3n{B:Type}{I:S->Prop}{r:l8 R B}{x:B}{st:l7 R S B}(h:some (l7.brk x)=some st)(hc:a8C r I st)(k:r=.brk x->G):G:=by
 injection h with h;subst h;exact k hc
theorem d37{B:Type}{I:S->Prop}{r:l8 R B}{x:S}{st:l7 R S B}(h:some (l7.nxt x)=some st)(hc:a8C r I st)(k:I x->G):G:=by
 injection h with h;subst h;exact k hc
theorem d9M{B:Type}{I:S->Prop}{r:l8 R B}{x:R}{st:l7 R S B}(h:some (l7.ret x)=some st)(hc:a8C r I st):r=.ret x:=d8s h hc id
theorem B0{B J:Type}{T:Option (l8 B J)}{K:J->Option B}{r:B}{I:J->Prop}(h:(T.bind fun x=>x.go some K)=some r)(rest:∀j,K j=some r->I j)(d5X:∀x,T=some x->JC I r x->G):G:=by
 cases T with
 | none=>cases h
 | some x =>
  refine d5X x rfl ?_;cases x with
  | ret v=>exact h
  | brk j=>exact rest j h
theorem B4{B J:Type}{I:J->Prop}{r v:B}{x:l8 B J}(h:some (l8.ret v)=some x)(hc:JC I r x)(k:some v=some r->G):G:=by
 injection h with h;subst h;exact k hc
theorem d4g{B J:Type}{I:J->Prop}{r v:B}{x:l8 B J}(h:some (l8.ret v)=some x)(hc:JC I r x):some v=some r:=B4 h hc id
theorem o6{B J:Type}{I:J->Prop}{r:B}{x:l8 B J}{j:J}(h:some (l8.brk j)=some x)(hc:JC I r x)(k:I j->G):G:=by
 injection h with h;subst h;exact k hc
theorem d69{B:Type}{body:S->Option (l7 R S B)}{s:S}{kr:R->Option β}{ks:B->Option β}{r:β}(h:((o9 body s).bind fun x=>x.go kr ks)=some r)(k:∀x,o9 body s=some x->(∀v,x=.ret v->kr v=some r)->(∀b,x=.brk b->ks b=some r)->G):G:=by
 cases hl:o9 body s with
 | none=>rw [hl] at h;cases h
 | some x =>
  rw [hl] at h;refine k x hl ?_ ?_
  ·intro v hv;subst hv;exact h
  ·intro b hb;subst hb;exact h
end
theorem I1.is{cx:Cx}{X:M0}{res b2n:V}{outs b1G:List (Option V)}{k:List Item}{S:St}(h:I1 cx X b2n b1G k S)(h1:res=b2n)(h2:outs=b1G):I1 cx X res outs k S:=by
 subst h1;subst h2;exact h
def vi(n:Int):V:=.i .i64 n
def bs:Nat->List V->List V
 | 0,l=>l
 | n+1,l=>.bot::bs n l
def j9{α:Type}(sz:Nat)(enc:α->List V)(l:List α):V:=.sl sz l.length (l.map enc)
def t7{α:Type}(e sz:Nat)(enc:α->List V)(l:List α):V:=.osl e sz l.length (l.map enc)
def l9{α:Type}(e sz:Nat)(enc:α->List V)(l:List α):r9:=.row e sz l.length (l.map enc)
def b1P{α:Type}(sz:Nat)(enc:α->List V)(l:List α):r9:=.frz sz l.length (l.map enc)
section
variable {α:Type} {enc:α->List V} {l:List α} {i:Int} {x:α}
theorem R8(h:idx l i=some x):(l.map enc)[i.toNat]?=some (enc x):=by
 rw [e9o,(b5H h).2.2];rfl
theorem b0r(h:idx l i=some x):(l.map enc)[0+i.toNat]?=some (enc x):=by
 rw [e9k];exact R8 h
theorem M6(h:idx l i=some x):0<=i:=(b5H h).1
theorem b2X(h:idx l i=some x):i<(l.length:Nat):=(b5H h).2.1
theorem d4V{e sz:Nat}{y:α}{cs:List V}(h:cs=enc y):r9.row e sz (l.length+1) (l.map enc++[cs])=l9 e sz enc (l++[y]):=by
 subst h;simp [l9]
theorem b9a{e sz:Nat}{l':List α}{n:Nat}{rows:List (List V)}(h1:n=l'.length)(h2:rows=l'.map enc):r9.row e sz (l.length+n) (l.map enc++rows)=l9 e sz enc (l++l'):=by
 subst h1;subst h2;simp [l9]
theorem d41{e sz:Nat}{k:Nat}{y:α}{cs:List V}(h:cs=enc y):r9.row e sz l.length ((l.map enc).set (0+k) cs)=l9 e sz enc (l.set k y):=by
 subst h;simp [l9,List.map_set]
theorem d0N{sz:Nat}{a b:Nat}(ha:a<=b)(hb:b<=l.length):V.sl sz (b-a) (((l.map enc).drop a).take (b-a))=j9 sz enc ((l.drop a).take (b-a)):=by
 have:min (b-a) (l.length-a)=b-a:=by omega
 simp [j9,List.map_take,List.map_drop,this]
end
def e8p(f:Func):Code:=match f.body with
 | some c=>c
 | none=>.skip
def a20:Nat->Nat->List Bool->List Item->List Item
 | 0,_,_,k=>k
 | f+1,n,cs,k=>match k with
  | .code (.region id ops dr)::k'=>match n with
   | 0=>.code (.region id ops dr)::k'
   | n+1=>a20 f n cs k'
  | .code .skip::k'=>a20 f n cs k'
  | .inBlock _::k'=>a20 f n cs k'
  | .code (.seq x y)::k'=>a20 f n cs (.code x :: .code y::k')
  | .code (.cond o x y)::k'=>match cs with
   | c::cs=>a20 f n cs (.code (bif c then x else y)::k')
   | []=>.code (.cond o x y)::k'
  | .code (.block id c)::k'=>a20 f n cs (.code c :: .inBlock id::k')
  | .code (.loop c)::k'=>a20 f n cs (.code c :: .inLoop c::k')
  | .inLoop c::k'=>a20 f n cs (.code c :: .inLoop c::k')
  | .code (.exit id)::k'=>match exitTo id k' with
   | some k2=>a20 f n cs k2
   | none=>.code (.exit id)::k'
  | k=>k
def td(i:Nat)(d:Bool):Nat×I7:=(i,{d:=some d})
def tr(i:Nat)(cs:List V):Nat×I7:=(i,{a:=.row cs})
def m7(n:Int):Int:=IntKind.wrap .i64 n
section
variable {α:Type} {enc:α->List V} {l l':List α} {n:Nat} {x y:α} {cs:List V} {e sz:Nat}
theorem d7c(h:cs=enc x):r9.row e sz n (e8E n cs)=l9 e sz enc (e8E n x):=by
 subst h;simp [l9]
theorem a1M(h:l.length=n):r9.row e sz n (l.map enc)=l9 e sz enc l:=by
 subst h;rfl
theorem a6v{k:Nat}(h:cs=enc y):r9.arr e sz n ((l.map enc).set k cs)=.arr e sz n ((l.set k y).map enc):=by
 subst h;simp [List.map_set]
def B5(e sz:Nat)(enc:α->List V)(l:List α):r9:=.deep false e sz l.length (l.map enc)
def a9A(e sz:Nat)(enc:α->List V)(l:List α):V:=.dsl e sz l.length (l.map enc)
theorem Z5{k:Nat}(h:cs=enc y):(l.map enc).set (0+k) cs=(l.set k y).map enc:=by
 subst h;simp [List.map_set]
theorem a7G{rows:List (List V)}(h:rows=l.map enc)(hn:∀x,∀v∈enc x,v.isRef=false):G1 rows:=h▸G1.map hn l
theorem a6X{rows:List (List V)}{n:Nat}(h:rows=l.map enc)(hl:n=l.length):r9.deep false e sz n rows=B5 e sz enc l:=by
 subst h;subst hl;rfl
theorem c1x(h:cs=enc y):r9.deep false e sz (l.length+1) (l.map enc++[cs])=B5 e sz enc (l++[y]):=by
 subst h;simp [B5]
theorem c0E{L l1:List α}{lo n:Nat}(h:lo+n<=L.length):r9.row e sz (l1.length+n) (l1.map enc++((L.map enc).drop lo).take n)=l9 e sz enc (l1++(L.drop lo).take n):=by
 have:((L.drop lo).take n).length=n:=by simp;omega
 simp [l9,List.map_take,List.map_drop];omega
theorem c2Y{L l1:List α}{lo n g:Nat}(h:lo+n<=L.length):V.own g 0 sz 0 (l1.length+n)=V.own g 0 sz 0 (l1++(L.drop lo).take n).length:=by
 congr 1
 simp;omega
theorem T3{rows X:List (List V)}{k:Nat}{c c':List V}(h:rows.set k c'=X):(rows.set k c).set k c'=X:=by rw [List.set_set];exact h
theorem a08{rows:List (List V)}{k:Nat}(h:k<rows.length):(rows.set k cs)[k]?=some cs:=by simp [h]
theorem a2G{rows:List (List V)}{k j:Nat}(h:k<rows.length):k<(rows.set j cs).length:=by simpa using h
theorem a0V{i:Int}(h:idx l i=some y):0+i.toNat<(l.map enc).length:=by
 have:=(b2X h)
 have:=(M6 h)
 rw [e9r];omega
theorem c0Y{i:Int}{f:α->V}(hf:∀x,enc x=[f x])(h:idx l i=some y):(l.map enc).flatten[i.toNat]?=some (f y):=by
 have e:(l.map enc).flatten=l.map f:=by
  induction l with
  | nil=>rfl
  | cons x l ih =>
   have ih':(l.map enc).flatten=l.map f:=by
    clear ih h;induction l with
    | nil=>rfl
    | cons x l ih=>simp [hf,ih]
   simp [hf,ih']
 rw [e,e9o];unfold idx at h;split at h
 ·rw [h];rfl
 ·cases h
theorem b7o{hi:Int}(h:0<=hi/\hi<=(l.length:Nat)):V.sl sz (hi.toNat-0) (((l.map enc).drop 0).take (hi.toNat-0))=j9 sz enc ((l.drop 0).take (hi.toNat-0)) :=
 d0N (by omega) (by omega)
theorem b3Z{lo:Int}(h:0<=lo/\lo<=(l.length:Nat)):V.sl sz (l.length-lo.toNat) (((l.map enc).drop lo.toNat).take (l.length-lo.toNat))=j9 sz enc ((l.drop lo.toNat).take (l.length-lo.toNat)) :=
 d0N (by omega) (by omega)
end
def c2i:Nat->List (Option V)
 | 0=>[]
 | n+1=>none::c2i n
theorem P1:∀n,a3c (c2i n)
 | 0=>fun v h=>by cases h
 | n+1=>fun v h=>by
  rcases e8K.1 h with q|q
  ·cases q
  ·exact P1 n v q
section
variable {P:Program} {d:Nat} {xs ys:Array Value} {f:Field} {fs:List Field} {a b:Value} {r s:Bool} {w:World}
theorem b1Y:(Op.eqFields d xs ys []).run P w=.ok true w:=by simp [Op.eqFields]
theorem a0x (hn:(f.name == "_")=false) (ha:(part f.type xs f.offset).run P w=.ok a w) (hb:(part f.type ys f.offset).run P w=.ok b w) (he:(Op.equalIn d f.type a b).run P w=.ok r w) (hr:(Op.eqFields d xs ys fs).run P w=.ok s w):(Op.eqFields d xs ys (f::fs)).run P w=.ok (r&&s) w:=by
 have hn':f.name ≠ "_" := by simpa using hn
 rw [Op.eqFields];simp only [if_pos hn',Sem.run_bind,ha,hb,he,Result.andThen_ok];cases r
 ·simp
 ·simpa using hr
theorem b2L{t:TypeId}{fs:Array Field}(hu:P.underlying t=some (.struct fs))(hp:P.stoodInHeld t=false)(h:(Op.eqFields d xs ys fs.toList).run P w=.ok r w):(Op.equalIn (d+1) t (.agg xs) (.agg ys)).run P w=.ok r w:=by
 have hf:P.fieldsOf t=fs:=by simp [Program.fieldsOf,hu]
 rw [run_equalIn_struct (P:=P) w d t xs ys (by rw [hf];exact hu) hp,hf];exact h
theorem a0U{t:TypeId}{k:IntKind}{m n:Int}(h:P.underlying t=some (.int k)):(Op.equalIn (d+1) t (.int .i64 m) (.int .i64 n)).run P w=.ok (m==n) w:=run_equalIn_int w d t .i64 k m n h
end
structure Pt(cx:Cx)(X:M0)(res:V)(outs:List (Option V))(k:List Item)(S:St)(sc:P3)(ps:List Prop):Prop where
 f:M8 ps->I1 cx X res outs k S
def c6A{α:Type}:List α->List α->List α
 | [],b=>b
 | a::l,b=>c6A l (a::b)
def scO:P3->P3->P3
 | [],b=>b
 | r::l,b=>scO l (c6A r []::b)
def psO:List Prop->List Prop->List Prop
 | [],b=>b
 | p::l,b=>psO l (p::b)
theorem c1F{ps:List Prop}:∀{qs:List Prop},M8 ps->M8 qs->M8 (psO ps qs):=by
 induction ps with
 | nil=>exact fun _ h=>h
 | cons p ps ih=>exact fun h h'=>ih h.2 ⟨h.1,h'⟩
def a4u{α β:Type}(m:Option α)(f:α->Option β)(g:Option β):Option β :=
 match m with
 | some x=>f x
 | none=>g
def dt(t:Nat×I7)(d:Bool):Nat×I7:=(t.1,{t.2 with d:=some d})
section
variable {cx:Cx} {X:M0} {res:V} {outs:List (Option V)} {k:List Item} {S:St} {sc:P3} {ps:List Prop} {r:List (Nat×I7)} {α β:Type} {v:β}
theorem P0(h:Pt cx X res outs k S [] []):I1 cx X res outs k S:=h.f M8.nil
theorem rg(h:Pt cx X res outs k S ([]::sc) ps):Pt cx X res outs k S sc ps:=⟨h.f⟩
theorem n5(h:Pt cx X res outs k S ([]::[]::sc) ps):Pt cx X res outs k S sc ps:=⟨h.f⟩
theorem M3(h:Pt cx X res outs k S ([]::[]::[]::sc) ps):Pt cx X res outs k S sc ps:=⟨h.f⟩
theorem rg4(h:Pt cx X res outs k S ([]::[]::[]::[]::sc) ps):Pt cx X res outs k S sc ps:=⟨h.f⟩
theorem tl(t:Nat×I7)(h:Pt cx X res outs k S ((t::r)::sc) ps):Pt cx X res outs k S (r::sc) ps:=⟨h.f⟩
theorem ob{p:Prop}(q:p)(h:Pt cx X res outs k S sc (p::ps)):Pt cx X res outs k S sc ps:=⟨fun a=>h.f ⟨q,a⟩⟩
theorem om(p:Prop)(q:p)(h:Pt cx X res outs k S sc (p::ps)):Pt cx X res outs k S sc ps:=ob q h
theorem cdT(t:Nat×I7){e:Bool}{a b:Option β}(h:cond e a b=some v)(k1:e=true->a=some v->Pt cx X res outs k S ((dt t true::r)::sc) ((e=true)::ps))(k2:e=false->b=some v->Pt cx X res outs k S ((dt t false::r)::sc) ((e=false)::ps)):Pt cx X res outs k S (r::sc) ps:=by
 cases e with
 | true=>exact ob rfl (tl _ (k1 rfl h))
 | false=>exact ob rfl (tl _ (k2 rfl h))
theorem j4(i:Nat){e:Bool}{a b:Option β}(h:cond e a b=some v)(k1:a=some v->Pt cx X res outs k S ((td i true::r)::sc) ((e=true)::ps))(k2:b=some v->Pt cx X res outs k S ((td i false::r)::sc) ((e=false)::ps)):Pt cx X res outs k S (r::sc) ps:=by
 cases e with
 | true=>exact ob rfl (tl _ (k1 h))
 | false=>exact ob rfl (tl _ (k2 h))
theorem cb(t:Nat->Bool->α->Nat×I7){m:Option α}{p:α->Prop}(ok:∀x,m=some x->p x)(i:Nat)(fr:Bool){f:α->Option β}(h:m.bind f=some v)(g:∀x,f x=some v->Pt cx X res outs k S ((t i fr x::r)::sc) (p x::ps)):Pt cx X res outs k S (r::sc) ps :=
 A4 h fun x hx h=>ob (ok x hx) (tl _ (g x h))
theorem cbA(t:Nat->Bool->α->Nat×I7){m:Option α}{p:α->Prop}(ok:∀x,m=some x->p x)(i:Nat)(fr:Bool){f:α->Option β}{e:Option β}(h:a4u m f e=some v)(g:∀x,f x=some v->Pt cx X res outs k S ((t i fr x::r)::sc) (p x::ps))(g2:e=some v->Pt cx X res outs k S (r::sc) ps):Pt cx X res outs k S (r::sc) ps:=by
 cases m with
 | none=>exact g2 h
 | some x=>exact ob (ok x rfl) (tl _ (g x h))
theorem cbE(t:Nat->Bool->α->Nat×I7){m:Option α}{p:α->Prop}(ok:∀x,m=some x->p x){f:α->Option β}(h:m.bind f=some v)(g:∀x,p x->f x=some v->Pt cx X res outs k S sc ps):Pt cx X res outs k S sc ps :=
 A4 h fun x hx h=>g x (ok x hx) h
section
variable {enc:α->List V} {l l':List α} {I:Int} {x y z:α}
theorem v5(enc:α->List V)(i:Nat){f:α->Option β}(h:(idx l I).bind f=some v)(g:∀y,idx l I=some y->f y=some v->Pt cx X res outs k S ((tr i (enc y)::r)::sc) (((l.map enc)[I.toNat]?=some (enc y))::(I<((l.length:Nat):Int))::((0:Int)<=I)::ps)):Pt cx X res outs k S (r::sc) ps :=
 A4 h fun y hy h=>ob (M6 hy) (ob (b2X hy) (ob (R8 hy) (tl _ (g y hy h))))
theorem I5(enc:α->List V)(i:Nat)(hy:idx l I=some y)(g:Pt cx X res outs k S ((tr i (enc y)::r)::sc) (((l.map enc)[I.toNat]?=some (enc y))::(I<((l.length:Nat):Int))::((0:Int)<=I)::ps)):Pt cx X res outs k S (r::sc) ps :=
 ob (M6 hy) (ob (b2X hy) (ob (R8 hy) (tl _ g)))
theorem A9(hy:idx l I=some y)(g:Pt cx X res outs k S sc ((I<((l.length:Nat):Int))::((0:Int)<=I)::ps)):Pt cx X res outs k S sc ps:=ob (M6 hy) (ob (b2X hy) g)
theorem G7(enc:α->List V)(i:Nat)(hy:idx l I=some y)(g:Pt cx X res outs k S ((tr i (enc y)::r)::sc) (((l.map enc)[0+I.toNat]?=some (enc y))::ps)):Pt cx X res outs k S (r::sc) ps :=
 ob (b0r hy) (tl _ g)
theorem N8(e sz:Nat)(enc:α->List V)(i:Nat)(ck:List (Option Nat))(y:α)(hz:idx l I=some z)(g:Pt cx X res outs k S (((i,{a:=.rowck (enc z) ck,e:=some (l9 e sz enc (l.set I.toNat y))})::r)::sc) (((l.map enc)[0+I.toNat]?=some (enc z))::(r9.row e sz l.length ((l.map enc).set (0+I.toNat) (enc y))=l9 e sz enc (l.set I.toNat y))::ps)):Pt cx X res outs k S (r::sc) ps :=
 ob (d41 rfl) (ob (b0r hz) (tl _ g))
theorem S6(i w t sz b:Nat)(enc:α->List V)(z:α)(T:TI)(a:L8){N:Int}(e1:0<=N/\N*((b:Nat):Int)<=140737488355328)(hb:0<b)(hl:T.zero.length=sz)(g:Pt cx X res outs k S (((i,{a:=a,e:=some (l9 t sz enc (e8E N.toNat z)),v:=some (.own w 0 sz 0 (e8E N.toNat z).length)})::r)::sc)
   ((T.zero.length=sz)::(N*((b:Nat):Int)<=140737488355328/\0<b)::(N=N)::((0:Int)<=N)::(r9.row t sz N.toNat (e8E N.toNat (enc z))=l9 t sz enc (e8E N.toNat z))::(V.own w 0 sz 0 N.toNat=.own w 0 sz 0 (e8E N.toNat z).length)::ps)):Pt cx X res outs k S (r::sc) ps :=
 ob (by simp) (ob (d7c rfl) (ob e1.1 (ob rfl (ob ⟨e1.2,hb⟩ (ob hl (tl _ g))))))
theorem E8(i w t sz b:Nat)(enc:α->List V)(l:List α)(x:α)(h:(l.length+1)*b<=140737488355328)(g:Pt cx X res outs k S (((i,{v:=some (.own w 0 sz 0 (l++[x]).length),e:=some (l9 t sz enc (l++[x]))})::r)::sc)
   (((l.length+1)*b<=140737488355328)::(l.length=l.length)::(r9.row t sz (l.length+1) (l.map enc++[enc x])=l9 t sz enc (l++[x]))::(V.own w 0 sz 0 (l.length+1)=.own w 0 sz 0 (l++[x]).length)::ps)):Pt cx X res outs k S (r::sc) ps :=
 ob (by simp) (ob (d4V rfl) (ob rfl (ob h (tl _ g))))
theorem apL(i w t sz b:Nat)(enc:α->List V)(l l':List α)(h:(l.length+l'.length)*b<=140737488355328)(g:Pt cx X res outs k S (((i,{v:=some (.own w 0 sz 0 (l++l').length),e:=some (l9 t sz enc (l++l'))})::r)::sc)
   (((l.length+l'.length)*b<=140737488355328)::(l.length=l.length)::(r9.row t sz (l.length+l'.length) (l.map enc++l'.map enc)=l9 t sz enc (l++l'))::(V.own w 0 sz 0 (l.length+l'.length)=.own w 0 sz 0 (l++l').length)::ps)):Pt cx X res outs k S (r::sc) ps :=
 ob (by simp) (ob (b9a rfl rfl) (ob rfl (ob h (tl _ g))))
end
theorem sg(fs:List Fix)(keep:List Nat)(gs:List (Nat×Nat)){k':List Item}{S':St}(h:I1 cx X res outs k' S')(hg:a9r cx k S (scO sc []) fs keep gs=some (k',S',psO ps []):=by kernel_rfl):Pt cx X res outs k S sc ps :=
 ⟨fun a=>I1.seg _ fs keep gs _ (c1F a M8.nil) h hg⟩
def reT:List (Nat×V)->St->St×List Prop
 | [],S=>(S,[])
 | (i,v)::l,S=>match S.t[i]? with
  | some u=>match reT l {S with t:=S.t.set i v} with
   | (S',ps)=>(S',(u=v)::ps)
  | none=>reT l S
theorem c2O:∀{l:List (Nat×V)} {S:St},M8 (reT l S).2->(reT l S).1=S
 | [],_,_=>rfl
 | (i,v)::l,S,h=>by
  unfold reT at h ⊢;split at h
  ·rename_i u hu;have h1:u=v:=h.1;have h2:=c2O (l:=l) h.2;simp only;rw [h2,<-h1,Y4 hu]
  ·exact c2O h
theorem M8.split:∀{ps qs:List Prop},M8 (ps++qs)->M8 ps/\M8 qs
 | [],_,h=>⟨trivial,h⟩
 | _::_,_,h=>⟨⟨h.1,(M8.split h.2).1⟩,(M8.split h.2).2⟩
def b98(cx:Cx)(k:List Item)(S:St)(sc:P3)(fs:List Fix)(keep:List Nat)(gs:List (Nat×Nat))(ts:List (Nat×V)):Option (List Item×St×List Prop) :=
 match a9r cx k S sc fs keep gs with
 | some (k',S',ps)=>some (k',(reT ts S').1,ps++(reT ts S').2)
 | none=>none
theorem sgT(fs:List Fix)(keep:List Nat)(gs:List (Nat×Nat))(ts:List (Nat×V)){k':List Item}{S':St}(h:I1 cx X res outs k' S')(hg:b98 cx k S (scO sc []) fs keep gs ts=some (k',S',psO ps []):=by kernel_rfl):Pt cx X res outs k S sc ps:=by
 refine ⟨fun a => ?_⟩;unfold b98 at hg;split at hg<;>try (cases hg;done)
 rename_i k1 S1 ps1 h1;injection hg with hg;injection hg with e1 e2;injection e2 with e2 e3;have ha:=c1F a M8.nil;rw [<-e3] at ha;obtain ⟨a1,a2⟩:=M8.split ha;rw [<-e2,<-e1,c2O a2] at h;exact I1.seg _ fs keep gs _ a1 h h1
theorem a7j{α:Type}{enc:α->List V}{gs:List (Nat×Nat)}(h:∀x,(enc x).map (T2 gs)=enc x):∀l:List α,((l.map enc).flatten.map (T2 gs))=(l.map enc).flatten
 | []=>rfl
 | x::l=>by
  simp only [e84,e8Z,e9H,h,a7j h l]
theorem fn0{b2n:V}{b1G:List (Option V)}(hf:cx.P.funcs[X.f]?=some X.fn)(h:res=b2n/\outs=b1G)(hg:a9p cx X k S (scO sc [])=some (b2n,b1G,psO ps []):=by kernel_rfl):Pt cx X res outs k S sc ps :=
 ⟨fun a=>(I1.fin hf _ _ (c1F a M8.nil) hg).is h.1 h.2⟩
end
def G8(n:Int):Prop := -9223372036854775808<=n/\n<=9223372036854775807
def z7{α:Type}(bytes:Nat)(ok:α->Prop)(l:List α):Prop:=l.length*bytes<=140737488351232/\∀x∈l,ok x
def okT{α:Type}(x:α):Prop:=True
def Old(w:World)(k:Nat):Prop:=k<w.heap.size
def a9i(P:Program){α:Type}(t:TypeId)(enc:α->List V)(ok:α->Prop):Prop :=
 ∀{H:Type} (ec:TypeId×Value->H) (w:World) (fuel:Nat) (cs:List Value) (x:DataW H×List MemPlace),DataW.trod ec P w 0 (fun _=>true) true fuel t cs=some x->(x.1.weights P t).all (·<=reachBytes)=true->
  ∃y,FL w (Old w) (enc y) cs/\ok y
section
variable {P:Program} {α:Type} {t e:TypeId} {enc:α->List V} {ok:α->Prop}
def a5L(n:Int):Prop:=0<=n/\n<=255
theorem e71(ht:P.underlying t=some (.int .u8)):a9i P t (fun n:Int=>[.i .u8 n]) a5L:=by
 intro H ec w fuel cs x h _;obtain ⟨n,rfl,rfl,hw⟩:=DataW.trod_int ht h;refine ⟨n,.cons _ _ _ _ (.i _ _) .nil,?_⟩;simp only [Lit.wf,e8G,decide_eq_true_eq] at hw;exact hw
theorem c3b{H:Type}{P:Program}{e:TypeId}{p:Nat->Bool}:∀{ds:List (DataW H)},(DataW.weightsAll P e ds).all p=true->∀d∈ds,(d.weights P e).all p=true
 | [],_,d,hd=>by cases hd
 | d0::ds,h,d,hd=>by
  rw [DataW.weightsAll,List.all_append,e8G] at h;rcases e8K.1 hd with rfl|hd
  ·exact h.1
  ·exact c3b h.2 d hd
theorem FL.flat{w:World}{F:Nat->Prop}(vs:Nat->List V)(cs:Nat->List Value):∀n,(∀i,i<n->FL w F (vs i) (cs i))->FL w F ((e8M n).flatMap vs) ((e8M n).flatMap cs)
 | 0,_=>.nil
 | n+1,h=>by
  rw [List.range_succ,List.flatMap_append,List.flatMap_append];refine FL.append (FL.flat vs cs n fun i hi=>h i (by omega)) ?_;simpa using h n (by omega)
theorem b4N{sz:Nat}(cs:Nat->List Value):∀n,(∀i,i<n->(cs i).length=sz)->∀i,i<n->∀j,j<sz->((e8M n).flatMap cs)[i*sz+j]?=(cs i)[j]?/\((e8M n).flatMap cs).length=n*sz
 | 0,_,i,hi,_,_=>by omega
 | n+1,h,i,hi,j,hj=>by
  have hl:((e8M n).flatMap cs).length=n*sz:=by
   cases n with
   | zero=>simp
   | succ m=>exact (b4N cs (m+1) (fun i hi=>h i (by omega)) 0 (by omega) j hj).2
  rw [List.range_succ,List.flatMap_append];simp only [List.flatMap_cons,List.flatMap_nil,e9b];constructor
  ·by_cases hin:i<n
   ·have:i*sz+j<n*sz:=by
     have:(i+1)*sz<=n*sz:=e80 _ hin;rw [Nat.add_mul] at this;omega
    rw [e8Y (by omega)];exact (b4N cs n (fun i hi=>h i (by omega)) i hin j hj).1
   ·have:i=n:=by omega
    subst this;rw [e8T (by omega),hl];congr 1
    omega
  ·rw [e8O,hl,h n (by omega),Nat.add_mul,Nat.one_mul]
theorem e7u{β:Type}{n:Nat}{p:Nat->β->Prop}(d:β)(h:∀i,i<n->∃x,p i x):∃f:Nat->β,∀i,i<n->p i (f i):=by
 classical
 refine ⟨fun i=>if hi:i<n then (h i hi).choose else d,fun i hi => ?_⟩;simp only [dif_pos hi];exact (h i hi).choose_spec
theorem d5Z{sz bytes:Nat}(ht:P.underlying t=some (.slice e))(he:a9i P e enc ok)(hsz:P.cellsOf e=sz)(h0:0<sz)(hb:P.bytesOf e=bytes)(hl:∀y,(enc y).length=sz):a9i P t (fun l:List α=>[j9 sz enc l]) (z7 bytes ok):=by
 intro H ec w fuel cs x h hw;rcases DataW.trod_slice ht h with ⟨rfl,rfl⟩|⟨a,len,cap,elems,rest,n,_,rfl,rfl,hbs,hlc,hcm,hlen,hel,hsp,hns⟩
 ·exact ⟨[],.cons _ _ _ _ (.sl0 sz none 0) .nil,by simp,by simp⟩
 simp only [DataW.weights,ht,List.all_cons,List.all_append,e8G,decide_eq_true_eq,e9r] at hw;obtain ⟨hw0,hw1,hw2⟩:=hw;have hrest:rest.length=cap-len:=by
  cases hs:(fun _:Nat=>true) a.block with
  | true=>exact (hsp rfl).1
  | false=>cases hs
 have hlen2:len*bytes<=140737488351232:=by
  rw [hb] at hw0;have:len*bytes<=(elems.length+rest.length)*bytes:=e80 _ (by omega);have h2:reachBytes=140737488351232:=rfl;omega
 cases Nat.eq_zero_or_pos len with
 | inl hz =>
  subst hz;exact ⟨[],.cons _ _ _ _ (.sl0 sz _ cap) .nil,by simp,by simp⟩
 | inr hpos =>
  have key:∀i,i<len->∃cy:List Value×α,w.cells? 0 (a.add (i*sz)) sz=some cy.1/\FL w (Old w) (enc cy.2) cy.1/\ok cy.2:=by
   intro i hi;have h1:=hel i hi;have hi':i<elems.length:=by omega
   rw [e8D hi',hsz] at h1;obtain ⟨ci,h2,h3⟩:=Option.bind_eq_some_iff.1 h1;obtain ⟨y,h4,h5⟩:=he ec w n ci _ h3 (c3b hw1 _ (List.mem_map.2 ⟨_,e8F hi',rfl⟩));exact ⟨(ci,y),h2,h4,h5⟩
  obtain ⟨cy0,_⟩:=key 0 hpos;obtain ⟨f,hf⟩:=e7u cy0 key;have hcl:∀i,i<len->(f i).1.length=sz:=fun i hi=>(World.cells?_some (hf i hi).1).2.1
  have hspot:a.spot=none:=by
   have:=(World.cells?_some (hf 0 hpos).1).2.2 0 h0;rw [e8D (by rw [hcl 0 hpos];exact h0)] at this;have:=World.cell?_spot this;simpa [Addr.add] using this
  have hold:Old w a.block:=by
   have:=(World.cells?_some (hf 0 hpos).1).2.2 0 h0;rw [e8D (by rw [hcl 0 hpos];exact h0)] at this;unfold World.cell? at this;unfold Old;split at this
   ·rename_i c _ _ hh;simpa [Addr.add] using (Array.getElem?_eq_some_iff.1 hh).1
   ·cases this
  refine ⟨(e8M len).map fun i=>(f i).2,?_,?_,?_⟩
  ·have haddr:a=⟨a.block,a.off,none⟩:=by cases a;simp_all
   rw [show (Value.slice (some a) len cap)=.slice (some ⟨a.block,a.off,none⟩) len cap from by rw [<-haddr]];refine .cons _ _ _ _ ?_ .nil;unfold j9;rw [e9r,List.length_range];refine .sl sz len _ _ _ cap ((e8M len).flatMap fun i=>(f i).1) hold ?_ ?_ ?_ hlc ?_
   ·have:=FL.flat (w:=w) (F:=Old w) (fun i=>enc (f i).2) (fun i=>(f i).1) len fun i hi=>(hf i hi).2.1
    rw [e97,<-List.flatMap_def];exact this
   ·simp
   ·intro r hr;rw [e97] at hr;obtain ⟨i,_,rfl⟩:=List.mem_map.1 hr;exact hl _
   ·intro j u hu;have hlf:=(b4N (fun i=>(f i).1) len hcl 0 hpos 0 h0).2;have hj:j<len*sz:=by
     have:=(e8I.1 hu).1;omega
    have hq:j / sz<len:=Nat.div_lt_of_lt_mul (by rw [Nat.mul_comm];exact hj);have hr:j % sz<sz:=Nat.mod_lt _ h0;have hjs:j=j / sz*sz+j % sz:=by rw [Nat.mul_comm];exact (Nat.div_add_mod j sz).symm
    have hget:=(b4N (fun i=>(f i).1) len hcl _ hq _ hr).1;rw [<-hjs,hu] at hget;have hcell:=(World.cells?_some (hf _ hq).1).2.2 _ hr;rw [<-hget] at hcell;rw [<-hcell];have hadd:(a.add (j / sz*sz)).add (j % sz)=a.add j:=by
     rw [show (a.add (j / sz*sz)).add (j % sz)=a.add (j / sz*sz+j % sz) from Go.Deep.add_add a _ _,<-hjs]
    rw [hadd];congr 1
    unfold Addr.add;split
    ·rename_i h;subst h;exact haddr.symm
    ·rfl
  ·simpa using hlen2
  ·intro y hy;obtain ⟨i,hi,rfl⟩:=List.mem_map.1 hy;exact (hf i (by simpa using hi)).2.2
section
variable {α':Type} {H:Type} {ec:TypeId×Value->H} {w:World} {base:Nat} {r:Reach} {v:Value} {d:DataW H} {p:List MemPlace}
theorem BA.of1{F:Nat->Prop}{x:V}{c:Value}(h:FL w F [x] [c]):BA w F x c []:=by
 cases h with
 | cons _ _ _ _ h _=>exact .cell _ _ _ (.fv _ _ h)
theorem d9p{f:α->V}(ht:P.underlying t=some (.slice e))(ho:a9i P t (fun y=>[f y]) ok)(hv:Value.okWide P w r base t v)(h:DataW.Trod ec P w 0 (fun _=>true) true t v d p)(hw:(d.weights P t).all (·<=reachBytes)=true):∃y,BA w (Old w) (f y) v []/\ok y:=by
 obtain ⟨a,l,c,rfl⟩:=WideShapes.okWide_slice ht hv;obtain ⟨fuel,hf⟩:=h;obtain ⟨y,h1,h2⟩:=ho ec w fuel _ _ hf hw;exact ⟨y,BA.of1 h1,h2⟩
end
theorem e6R{f:FuncId}{args:List V}{outs:List (Option V)}{vs:List Value}{W:World}(h:W4 P f args (.b true) outs)(hb:BS W (Old W) args vs []) :
  Calls P f vs.toArray W fun e W'=>e=.returned (.bool true)/\RowKit.Below W.heap.size W W':=by
 refine (h.2 W (Old W) vs [] hb List.nodup_nil (by simp) (fun k hk=>hk)).mono ?_;rintro e W' ⟨c,F',fr,fo,rfl,hk,_,_,hr,_,_,_⟩
 refine ⟨?_,hk.os,hk.tape,hk.output,hk.size,fun k hk'=>hk.block k hk' (by simp)⟩;cases hr with
 | one _ _ _ h =>
  cases h with
  | cell _ _ _ h =>
   cases h with
   | fv _ _ h=>cases h;rfl
end
abbrev LOV:=List (Option V)
abbrev KS:=List Item×St
def FK(cx:Cx)(X:M0)(res:V)(outs:LOV)(s:KS):Prop:=I1 cx X res outs s.1 s.2
structure LC(cx:Cx)(X:M0){R P E:Type}(fR:R->V)(fO:R->LOV)(SE:E->KS)(S:P->KS) where
 res:V
 outs:LOV
 x:l8 R E
 hb:∀s:E,x=.brk s->FK cx X res outs (SE s)
 hr:∀v:R,x=.ret v->res=fR v/\outs=fO v
 st:l7 R P E
 hc:a8C x (fun s=>FK cx X res outs (S s)) st
section
variable {cx:Cx} {X:M0} {R P E J:Type} {fR:R->V} {fO:R->LOV} {SE:E->KS} {SP:P->KS} {G:Prop} {α β:Type}
abbrev LB(cx:Cx)(X:M0)(fR:R->V)(fO:R->LOV)(SE:E->KS)(SP:P->KS)(b:P->Option (l7 R P E)):Prop := ∀(c:LC cx X fR fO SE SP) (s:P),b s=some c.st->FK cx X c.res c.outs (SP s)
abbrev NL(c:LC cx X fR fO SE SP)(S:J->KS)(f:J->Option (l7 R P E)):Prop := ∀s,f s=some c.st->FK cx X c.res c.outs (S s)
theorem LC.nx(c:LC cx X fR fO SE SP){s:P}(h:some (l7.nxt s)=some c.st)(g:FK cx X c.res c.outs (SP s)->G):G:=d37 h c.hc g
theorem LC.bk(c:LC cx X fR fO SE SP){s:E}(h:some (l7.brk s)=some c.st)(g:FK cx X c.res c.outs (SE s)->G):G:=d3n h c.hc fun e=>g (c.hb _ e)
theorem LC.rt(c:LC cx X fR fO SE SP){r:R}(h:some (l7.ret r)=some c.st):c.res=fR r/\c.outs=fO r:=c.hr _ (d9M h c.hc)
variable {res:V} {outs:LOV} {k:List Item} {S:St} {sc:P3} {ps:List Prop} {r:List (Nat×I7)} {v:β} {s:KS}
theorem PK(h:Pt cx X res outs s.1 s.2 [] []):FK cx X res outs s:=h.f M8.nil
theorem sk(fs:List Fix)(keep:List Nat)(gs:List (Nat×Nat))(h:FK cx X res outs s)(hg:a9r cx k S (scO sc []) fs keep gs=some (s.1,s.2,psO ps []):=by kernel_rfl):Pt cx X res outs k S sc ps:=sg fs keep gs h hg
theorem skT(fs:List Fix)(keep:List Nat)(gs:List (Nat×Nat))(ts:List (Nat×V))(h:FK cx X res outs s)(hg:b98 cx k S (scO sc []) fs keep gs ts=some (s.1,s.2,psO ps []):=by kernel_rfl):Pt cx X res outs k S sc ps:=sgT fs keep gs ts h hg
theorem lp{b:P->Option (l7 R P E)}(B:LB cx X fR fO SE SP b){c4F:P}{g1:R->Option β}{g2:E->Option β}(h:((o9 b c4F).bind fun x=>x.go g1 g2)=some v)(h1:∀r,g1 r=some v->res=fR r/\outs=fO r)(h2:∀s,g2 s=some v->FK cx X res outs (SE s))(hs:FK cx X res outs (SP c4F)->Pt cx X res outs k S sc ps):Pt cx X res outs k S sc ps :=
 d69 h fun x hl hr hb=>hs (e2F (I:=fun s=>FK cx X res outs (SP s)) hl fun s st h hc=>B ⟨res,outs,x,fun s e=>h2 s (hb s e),fun v e=>h1 v (hr v e),st,hc⟩ s h)
theorem s4{α:Type}(a:List α)(h:Pt cx X res outs k S sc ((a.length=a.length)::ps)):Pt cx X res outs k S sc ps:=ob rfl h
theorem B8{α β:Type}(a:List α)(b:List β)(h:Pt cx X res outs k S sc ((b.length=b.length)::(a.length=a.length)::ps)):Pt cx X res outs k S sc ps:=ob rfl (ob rfl h)
theorem U5{α β γ:Type}(a:List α)(b:List β)(c:List γ)(h:Pt cx X res outs k S sc ((c.length=c.length)::(b.length=b.length)::(a.length=a.length)::ps)):Pt cx X res outs k S sc ps:=ob rfl (ob rfl (ob rfl h))
theorem E9{α β γ δ:Type}(a:List α)(b:List β)(c:List γ)(d:List δ)(h:Pt cx X res outs k S sc ((d.length=d.length)::(c.length=c.length)::(b.length=b.length)::(a.length=a.length)::ps)):Pt cx X res outs k S sc ps:=ob rfl (ob rfl (ob rfl (ob rfl h)))
theorem B3(α:Type)(h:Pt cx X res outs k S sc ((0=([]:List α).length)::ps)):Pt cx X res outs k S sc ps:=ob rfl h
theorem D8{α:Type}(x:α)(h:Pt cx X res outs k S sc ((1=[x].length)::ps)):Pt cx X res outs k S sc ps:=ob rfl h
theorem tk(i:Nat)(c:List (Option Nat))(h:Pt cx X res outs k S (((i,{a:=.ck c})::r)::sc) ps):Pt cx X res outs k S (r::sc) ps:=tl _ h
theorem oa(g j sz:Nat){α:Type}(a b:List α)(h:Pt cx X res outs k S sc ((V.own g j sz 0 (a.length+b.length)=.own g j sz 0 (a++b).length)::ps)):Pt cx X res outs k S sc ps:=ob (congrArg (V.own g j sz 0) e8O.symm) h
theorem oz(e sz:Nat){α:Type}(f:α->List V)(a b:List α)(h:Pt cx X res outs k S sc ((r9.row e sz (a.length+b.length) (a.map f++b.map f)=l9 e sz f (a++b))::ps)):Pt cx X res outs k S sc ps:=ob (b9a rfl rfl) h
end
def eI(x:Int):List V:=[vi x]
def H7(x:Int):List V:=[.i .u8 x]
def eB(x:Bool):List V:=[.b x]
structure p8 where
 d6:Int
 Seq:Int
def Y5(x:p8):List V:=[vi x.d6,vi x.Seq]
structure p7 where
 i6:Int
 j3:Int
def t8(x:p7):List V:=[vi x.i6,vi x.j3]
structure n8 where
 i6:Int
 f0:Int
def t9(x:n8):List V:=[vi x.i6,vi x.f0]
structure m9 where
 b5:List p7
 b7:List n8
 f0:Int
 Code:Int
def O6(x:m9):List V:=[j9 2 t8 x.b5,j9 2 t9 x.b7,vi x.f0,vi x.Code]
structure m4 where
 i8:Bool
 a0:p8
 b8:m9
def s8(x:m4):List V:=[.b x.i8,vi x.a0.d6,vi x.a0.Seq,j9 2 t8 x.b8.b5,j9 2 t9 x.b8.b7,vi x.b8.f0,vi x.b8.Code]
structure m6 where
 a8:Int
 i0:m4
def o7(x:m6):List V:=[vi x.a8,.b x.i0.i8,vi x.i0.a0.d6,vi x.i0.a0.Seq,j9 2 t8 x.i0.b8.b5,j9 2 t9 x.i0.b8.b7,vi x.i0.b8.f0,vi x.i0.b8.Code]
structure v6 where
 i4:Int
 a5:List m6
def W9(x:v6):List V:=[vi x.i4,j9 8 o7 x.a5]
structure o8 where
 a7:Int
 A:Int
 B:Int
 N:Int
def z0(x:o8):List V:=[vi x.a7,vi x.A,vi x.B,vi x.N]
structure j5 where
 Id:Int
 Acc:v6
 a6:List m4
 Seq:Int
 d9:Int
 a8:Int
 d7:List Bool
 g9:List m6
 c8:m4
 a5:List Bool
 i7:Bool
 i5:List o8
 b6:m4
 d8:List m4
def z9(x:j5):List V:=[vi x.Id,vi x.Acc.i4,j9 8 o7 x.Acc.a5,j9 7 s8 x.a6,vi x.Seq,vi x.d9,vi x.a8,j9 1 eB x.d7,j9 8 o7 x.g9,.b x.c8.i8,vi x.c8.a0.d6,vi x.c8.a0.Seq,j9 2 t8 x.c8.b8.b5,j9 2 t9 x.c8.b8.b7,vi x.c8.b8.f0,vi x.c8.b8.Code,j9 1 eB x.a5,.b x.i7,j9 4 z0 x.i5,.b x.b6.i8,vi x.b6.a0.d6,vi x.b6.a0.Seq,j9 2 t8 x.b6.b8.b5,j9 2 t9 x.b6.b8.b7,vi x.b6.b8.f0,vi x.b6.b8.Code,j9 7 s8 x.d8]
structure j7 where
 a7:Int
 d7:Int
 To:Int
 a8:Int
 g7:Int
 i0:m4
 a5:List m6
def p9(x:j7):List V:=[vi x.a7,vi x.d7,vi x.To,vi x.a8,vi x.g7,.b x.i0.i8,vi x.i0.a0.d6,vi x.i0.a0.Seq,j9 2 t8 x.i0.b8.b5,j9 2 t9 x.i0.b8.b7,vi x.i0.b8.f0,vi x.i0.b8.Code,j9 8 o7 x.a5]
structure u5 where
 a0:p8
 i5:List o8
def z8(x:u5):List V:=[vi x.a0.d6,vi x.a0.Seq,j9 4 z0 x.i5]
structure m8 where
 Node:Int
 a0:p8
 Code:Int
 f0:Int
def u9(x:m8):List V:=[vi x.Node,vi x.a0.d6,vi x.a0.Seq,vi x.Code,vi x.f0]
structure m5 where
 a9:List j5
 b9:List j7
 c9:List u5
 Told:List m8
def a0J(x:m5):List V:=[j9 27 z9 x.a9,j9 13 p9 x.b9,j9 3 z8 x.c9,j9 5 u9 x.Told]
structure p6 where
 a7:Int
 A:Int
 i5:List o8
def F6(x:p6):List V:=[vi x.a7,vi x.A,j9 4 z0 x.i5]
structure s6 where
 b:List Int
 p:Int
def W5(x:s6):List V:=[j9 1 H7 x.b,vi x.p]
structure q8 where
 j3:Int
 f0:Int
def x8(x:q8):List V:=[vi x.j3,vi x.f0]
structure q9 where
 a0:p8
 Code:Int
 f0:Int
def A8(x:q9):List V:=[vi x.a0.d6,vi x.a0.Seq,vi x.Code,vi x.f0]
structure u6 where
 At:Int
 g8:List q8
 i9:List q9
def a7g(x:u6):List V:=[vi x.At,j9 2 x8 x.g8,j9 4 A8 x.i9]
structure n6 where
 n:j5
 out:List j7
 told:List m8
def c7c(x:n6):List V:=[vi x.n.Id,vi x.n.Acc.i4,j9 8 o7 x.n.Acc.a5,j9 7 s8 x.n.a6,vi x.n.Seq,vi x.n.d9,vi x.n.a8,j9 1 eB x.n.d7,j9 8 o7 x.n.g9,.b x.n.c8.i8,vi x.n.c8.a0.d6,vi x.n.c8.a0.Seq,j9 2 t8 x.n.c8.b8.b5,j9 2 t9 x.n.c8.b8.b7,vi x.n.c8.b8.f0,vi x.n.c8.b8.Code,j9 1 eB x.n.a5,.b x.n.i7,j9 4 z0 x.n.i5,.b x.n.b6.i8,vi x.n.b6.a0.d6,vi x.n.b6.a0.Seq,j9 2 t8 x.n.b6.b8.b5,j9 2 t9 x.n.b6.b8.b7,vi x.n.b6.b8.f0,vi x.n.b6.b8.Code,j9 7 s8 x.n.d8,j9 13 p9 x.out,j9 5 u9 x.told]
def w9(x:j5):List V:=[vi x.Id,vi x.Acc.i4,t7 126 8 o7 x.Acc.a5,t7 51 7 s8 x.a6,vi x.Seq,vi x.d9,vi x.a8,t7 4 1 eB x.d7,j9 8 o7 x.g9,.b x.c8.i8,vi x.c8.a0.d6,vi x.c8.a0.Seq,j9 2 t8 x.c8.b8.b5,j9 2 t9 x.c8.b8.b7,vi x.c8.b8.f0,vi x.c8.b8.Code,t7 4 1 eB x.a5,.b x.i7,j9 4 z0 x.i5,.b x.b6.i8,vi x.b6.a0.d6,vi x.b6.a0.Seq,j9 2 t8 x.b6.b8.b5,j9 2 t9 x.b6.b8.b7,vi x.b6.b8.f0,vi x.b6.b8.Code,t7 51 7 s8 x.d8]
theorem a44(x:j5):∀v∈w9 x,v.isRef=false:=by simp [w9,V.isRef,vi,j9,t7,a9A]
theorem b2g(x:j5):a0Y (w9 x)=z9 x:=by simp [w9,z9,a0Y,a7n,vi,j9,t7,a9A]
def a0o(x:m6):List V:=[vi x.a8,.b x.i0.i8,vi x.i0.a0.d6,vi x.i0.a0.Seq,t7 155 2 t8 x.i0.b8.b5,t7 158 2 t9 x.i0.b8.b7,vi x.i0.b8.f0,vi x.i0.b8.Code]
theorem d6W(x:m6):a0Y (a0o x)=o7 x:=by simp [a0o,o7,a0Y,a7n,vi,j9,t7,a9A]
def e1B(x_:j5):List V:=[vi x_.Id,vi x_.Acc.i4,j9 8 o7 x_.Acc.a5,t7 51 7 s8 x_.a6,vi x_.Seq,vi x_.d9,vi x_.a8,t7 4 1 eB x_.d7,j9 8 o7 x_.g9,.b x_.c8.i8,vi x_.c8.a0.d6,vi x_.c8.a0.Seq,j9 2 t8 x_.c8.b8.b5,j9 2 t9 x_.c8.b8.b7,vi x_.c8.b8.f0,vi x_.c8.b8.Code,t7 4 1 eB x_.a5,.b x_.i7,j9 4 z0 x_.i5,.b x_.b6.i8,vi x_.b6.a0.d6,vi x_.b6.a0.Seq,j9 2 t8 x_.b6.b8.b5,j9 2 t9 x_.b6.b8.b7,vi x_.b6.b8.f0,vi x_.b6.b8.Code,t7 51 7 s8 x_.d8]
def a6u(x_:m5):List V:=[t7 53 27 z9 x_.a9,t7 68 13 p9 x_.b9,t7 70 3 z8 x_.c9,t7 40 5 u9 x_.Told]
def F5(x_:j5):List V:=[vi x_.Id,vi x_.Acc.i4,t7 126 8 o7 x_.Acc.a5,t7 51 7 s8 x_.a6,vi x_.Seq,vi x_.d9,vi x_.a8,t7 4 1 eB x_.d7,j9 8 o7 x_.g9,.b x_.c8.i8,vi x_.c8.a0.d6,vi x_.c8.a0.Seq,j9 2 t8 x_.c8.b8.b5,j9 2 t9 x_.c8.b8.b7,vi x_.c8.b8.f0,vi x_.c8.b8.Code,t7 4 1 eB x_.a5,.b x_.i7,j9 4 z0 x_.i5,.b x_.b6.i8,vi x_.b6.a0.d6,vi x_.b6.a0.Seq,j9 2 t8 x_.b6.b8.b5,j9 2 t9 x_.b6.b8.b7,vi x_.b6.b8.f0,vi x_.b6.b8.Code,t7 51 7 s8 x_.d8]
def P9(x_:m5):List V:=[a9A 53 27 w9 x_.a9,t7 68 13 p9 x_.b9,t7 70 3 z8 x_.c9,t7 40 5 u9 x_.Told]
def a5o(x_:m9):List V:=[t7 155 2 t8 x_.b5,t7 158 2 t9 x_.b7,vi x_.f0,vi x_.Code]
def e4m(x_:m4):List V:=[.b x_.i8,vi x_.a0.d6,vi x_.a0.Seq,t7 155 2 t8 x_.b8.b5,t7 158 2 t9 x_.b8.b7,vi x_.b8.f0,vi x_.b8.Code]
def c4h(x_:m6):List V:=[vi x_.a8,.b x_.i0.i8,vi x_.i0.a0.d6,vi x_.i0.a0.Seq,j9 2 t8 x_.i0.b8.b5,j9 2 t9 x_.i0.b8.b7,vi x_.i0.b8.f0,vi x_.i0.b8.Code]
def a6H(x_:j5):List V:=[vi x_.Id,vi x_.Acc.i4,.own 0 0 8 0 x_.Acc.a5.length,.own 0 1 7 0 x_.a6.length,vi x_.Seq,vi x_.d9,vi x_.a8,.own 0 2 1 0 x_.d7.length,j9 8 o7 x_.g9,.b x_.c8.i8,vi x_.c8.a0.d6,vi x_.c8.a0.Seq,j9 2 t8 x_.c8.b8.b5,j9 2 t9 x_.c8.b8.b7,vi x_.c8.b8.f0,vi x_.c8.b8.Code,.own 0 3 1 0 x_.a5.length,.b x_.i7,j9 4 z0 x_.i5,.b x_.b6.i8,vi x_.b6.a0.d6,vi x_.b6.a0.Seq,j9 2 t8 x_.b6.b8.b5,j9 2 t9 x_.b6.b8.b7,vi x_.b6.b8.f0,vi x_.b6.b8.Code,.own 0 4 7 0 x_.d8.length]
def a6O(x_:j5):List V:=[vi x_.Id,vi x_.Acc.i4,j9 8 o7 x_.Acc.a5,j9 7 s8 x_.a6,vi x_.Seq,vi x_.d9,vi x_.a8,j9 1 eB x_.d7,j9 8 o7 x_.g9,.b x_.c8.i8,vi x_.c8.a0.d6,vi x_.c8.a0.Seq,j9 2 t8 x_.c8.b8.b5,j9 2 t9 x_.c8.b8.b7,vi x_.c8.b8.f0,vi x_.c8.b8.Code,j9 1 eB x_.a5,.b x_.i7,j9 4 z0 x_.i5,.b x_.b6.i8,vi x_.b6.a0.d6,vi x_.b6.a0.Seq,j9 2 t8 x_.b6.b8.b5,j9 2 t9 x_.b6.b8.b7,vi x_.b6.b8.f0,vi x_.b6.b8.Code,j9 7 s8 x_.d8]
def a3K(x_:j7):List V:=[vi x_.a7,vi x_.d7,vi x_.To,vi x_.a8,vi x_.g7,.b x_.i0.i8,vi x_.i0.a0.d6,vi x_.i0.a0.Seq,j9 2 t8 x_.i0.b8.b5,j9 2 t9 x_.i0.b8.b7,vi x_.i0.b8.f0,vi x_.i0.b8.Code,j9 8 o7 x_.a5]
def a3x(x_:m4):List V:=[.b x_.i8,vi x_.a0.d6,vi x_.a0.Seq,j9 2 t8 x_.b8.b5,j9 2 t9 x_.b8.b7,vi x_.b8.f0,vi x_.b8.Code]
def a9U(x_:u6):List V:=[vi x_.At,t7 172 2 x8 x_.g8,j9 4 A8 x_.i9]
def d7s(x_:j5):List V:=[.bot,.bot,t7 126 8 o7 x_.Acc.a5,t7 51 7 s8 x_.a6,.bot,.bot,.bot,t7 4 1 eB x_.d7,.bot,.bot,.bot,.bot,.bot,.bot,.bot,.bot,t7 4 1 eB x_.a5,.bot,.bot,.bot,.bot,.bot,.bot,.bot,.bot,.bot,t7 51 7 s8 x_.d8]
def e09(x_:j5):List V:=[vi x_.Id,vi x_.Acc.i4,.own 3 0 8 0 x_.Acc.a5.length,.own 4 0 7 0 x_.a6.length,vi x_.Seq,vi x_.d9,vi x_.a8,.own 5 0 1 0 x_.d7.length,j9 8 o7 x_.g9,.b x_.c8.i8,vi x_.c8.a0.d6,vi x_.c8.a0.Seq,j9 2 t8 x_.c8.b8.b5,j9 2 t9 x_.c8.b8.b7,vi x_.c8.b8.f0,vi x_.c8.b8.Code,.own 6 0 1 0 x_.a5.length,.b x_.i7,j9 4 z0 x_.i5,.b x_.b6.i8,vi x_.b6.a0.d6,vi x_.b6.a0.Seq,j9 2 t8 x_.b6.b8.b5,j9 2 t9 x_.b6.b8.b7,vi x_.b6.b8.f0,vi x_.b6.b8.Code,.own 7 0 7 0 x_.d8.length]
def b6n(x_:n6):List V:=[vi x_.n.Id,vi x_.n.Acc.i4,j9 8 o7 x_.n.Acc.a5,t7 51 7 s8 x_.n.a6,vi x_.n.Seq,vi x_.n.d9,vi x_.n.a8,t7 4 1 eB x_.n.d7,j9 8 o7 x_.n.g9,.b x_.n.c8.i8,vi x_.n.c8.a0.d6,vi x_.n.c8.a0.Seq,j9 2 t8 x_.n.c8.b8.b5,j9 2 t9 x_.n.c8.b8.b7,vi x_.n.c8.b8.f0,vi x_.n.c8.b8.Code,t7 4 1 eB x_.n.a5,.b x_.n.i7,j9 4 z0 x_.n.i5,.b x_.n.b6.i8,vi x_.n.b6.a0.d6,vi x_.n.b6.a0.Seq,j9 2 t8 x_.n.b6.b8.b5,j9 2 t9 x_.n.b6.b8.b7,vi x_.n.b6.b8.f0,vi x_.n.b6.b8.Code,t7 51 7 s8 x_.n.d8,t7 68 13 p9 x_.out,t7 40 5 u9 x_.told]
def b1N(x_:u6):List V:=[vi x_.At,t7 172 2 x8 x_.g8,t7 202 4 A8 x_.i9]
def b8W(x_:n6):List V:=[vi x_.n.Id,vi x_.n.Acc.i4,j9 8 o7 x_.n.Acc.a5,.own 0 1 7 0 x_.n.a6.length,vi x_.n.Seq,vi x_.n.d9,vi x_.n.a8,.own 0 2 1 0 x_.n.d7.length,j9 8 o7 x_.n.g9,.b x_.n.c8.i8,vi x_.n.c8.a0.d6,vi x_.n.c8.a0.Seq,j9 2 t8 x_.n.c8.b8.b5,j9 2 t9 x_.n.c8.b8.b7,vi x_.n.c8.b8.f0,vi x_.n.c8.b8.Code,.own 0 3 1 0 x_.n.a5.length,.b x_.n.i7,j9 4 z0 x_.n.i5,.b x_.n.b6.i8,vi x_.n.b6.a0.d6,vi x_.n.b6.a0.Seq,j9 2 t8 x_.n.b6.b8.b5,j9 2 t9 x_.n.b6.b8.b7,vi x_.n.b6.b8.f0,vi x_.n.b6.b8.Code,j9 7 s8 x_.n.d8,.own 0 4 13 0 x_.out.length,.own 0 5 5 0 x_.told.length]
def J5(x_:n6):List V:=[vi x_.n.Id,vi x_.n.Acc.i4,j9 8 o7 x_.n.Acc.a5,t7 51 7 s8 x_.n.a6,vi x_.n.Seq,vi x_.n.d9,vi x_.n.a8,t7 4 1 eB x_.n.d7,j9 8 o7 x_.n.g9,.b x_.n.c8.i8,vi x_.n.c8.a0.d6,vi x_.n.c8.a0.Seq,j9 2 t8 x_.n.c8.b8.b5,j9 2 t9 x_.n.c8.b8.b7,vi x_.n.c8.b8.f0,vi x_.n.c8.b8.Code,t7 4 1 eB x_.n.a5,.b x_.n.i7,j9 4 z0 x_.n.i5,.b x_.n.b6.i8,vi x_.n.b6.a0.d6,vi x_.n.b6.a0.Seq,j9 2 t8 x_.n.b6.b8.b5,j9 2 t9 x_.n.b6.b8.b7,vi x_.n.b6.b8.f0,vi x_.n.b6.b8.Code,j9 7 s8 x_.n.d8,t7 68 13 p9 x_.out,t7 40 5 u9 x_.told]
def b1A(x_:n6):List V:=[vi x_.n.Id,vi x_.n.Acc.i4,j9 8 o7 x_.n.Acc.a5,.own 1 0 7 0 x_.n.a6.length,vi x_.n.Seq,vi x_.n.d9,vi x_.n.a8,.own 2 0 1 0 x_.n.d7.length,j9 8 o7 x_.n.g9,.b x_.n.c8.i8,vi x_.n.c8.a0.d6,vi x_.n.c8.a0.Seq,j9 2 t8 x_.n.c8.b8.b5,j9 2 t9 x_.n.c8.b8.b7,vi x_.n.c8.b8.f0,vi x_.n.c8.b8.Code,.own 3 0 1 0 x_.n.a5.length,.b x_.n.i7,j9 4 z0 x_.n.i5,.b x_.n.b6.i8,vi x_.n.b6.a0.d6,vi x_.n.b6.a0.Seq,j9 2 t8 x_.n.b6.b8.b5,j9 2 t9 x_.n.b6.b8.b7,vi x_.n.b6.b8.f0,vi x_.n.b6.b8.Code,j9 7 s8 x_.n.d8,.own 4 0 13 0 x_.out.length,.own 5 0 5 0 x_.told.length]
def d8H(x_:n6):List V:=[vi x_.n.Id,vi x_.n.Acc.i4,j9 8 o7 x_.n.Acc.a5,.own 6 0 7 0 x_.n.a6.length,vi x_.n.Seq,vi x_.n.d9,vi x_.n.a8,.own 5 0 1 0 x_.n.d7.length,j9 8 o7 x_.n.g9,.b x_.n.c8.i8,vi x_.n.c8.a0.d6,vi x_.n.c8.a0.Seq,j9 2 t8 x_.n.c8.b8.b5,j9 2 t9 x_.n.c8.b8.b7,vi x_.n.c8.b8.f0,vi x_.n.c8.b8.Code,.own 4 0 1 0 x_.n.a5.length,.b x_.n.i7,j9 4 z0 x_.n.i5,.b x_.n.b6.i8,vi x_.n.b6.a0.d6,vi x_.n.b6.a0.Seq,j9 2 t8 x_.n.b6.b8.b5,j9 2 t9 x_.n.b6.b8.b7,vi x_.n.b6.b8.f0,vi x_.n.b6.b8.Code,j9 7 s8 x_.n.d8,.own 3 0 13 0 x_.out.length,.own 2 0 5 0 x_.told.length]
def b1u(x_:n6):List V:=[vi x_.n.Id,vi x_.n.Acc.i4,j9 8 o7 x_.n.Acc.a5,.own 3 0 7 0 x_.n.a6.length,vi x_.n.Seq,vi x_.n.d9,vi x_.n.a8,.own 4 0 1 0 x_.n.d7.length,j9 8 o7 x_.n.g9,.b x_.n.c8.i8,vi x_.n.c8.a0.d6,vi x_.n.c8.a0.Seq,j9 2 t8 x_.n.c8.b8.b5,j9 2 t9 x_.n.c8.b8.b7,vi x_.n.c8.b8.f0,vi x_.n.c8.b8.Code,.own 5 0 1 0 x_.n.a5.length,.b x_.n.i7,j9 4 z0 x_.n.i5,.b x_.n.b6.i8,vi x_.n.b6.a0.d6,vi x_.n.b6.a0.Seq,j9 2 t8 x_.n.b6.b8.b5,j9 2 t9 x_.n.b6.b8.b7,vi x_.n.b6.b8.f0,vi x_.n.b6.b8.Code,j9 7 s8 x_.n.d8,.own 6 0 13 0 x_.out.length,.own 7 0 5 0 x_.told.length]
def c7V(x_:n6):List V:=[vi x_.n.Id,vi x_.n.Acc.i4,j9 8 o7 x_.n.Acc.a5,.own 1 0 7 0 x_.n.a6.length,vi x_.n.Seq,vi x_.n.d9,vi x_.n.a8,.own 0 2 1 0 x_.n.d7.length,j9 8 o7 x_.n.g9,.b x_.n.c8.i8,vi x_.n.c8.a0.d6,vi x_.n.c8.a0.Seq,j9 2 t8 x_.n.c8.b8.b5,j9 2 t9 x_.n.c8.b8.b7,vi x_.n.c8.b8.f0,vi x_.n.c8.b8.Code,.own 2 0 1 0 x_.n.a5.length,.b x_.n.i7,j9 4 z0 x_.n.i5,.b x_.n.b6.i8,vi x_.n.b6.a0.d6,vi x_.n.b6.a0.Seq,j9 2 t8 x_.n.b6.b8.b5,j9 2 t9 x_.n.b6.b8.b7,vi x_.n.b6.b8.f0,vi x_.n.b6.b8.Code,j9 7 s8 x_.n.d8,.own 0 4 13 0 x_.out.length,.own 0 5 5 0 x_.told.length]
def d9D(x_:n6):List V:=[vi x_.n.Id,vi x_.n.Acc.i4,j9 8 o7 x_.n.Acc.a5,.own 1 0 7 0 x_.n.a6.length,vi x_.n.Seq,vi x_.n.d9,vi x_.n.a8,.own 0 2 1 0 x_.n.d7.length,j9 8 o7 x_.n.g9,.b x_.n.c8.i8,vi x_.n.c8.a0.d6,vi x_.n.c8.a0.Seq,j9 2 t8 x_.n.c8.b8.b5,j9 2 t9 x_.n.c8.b8.b7,vi x_.n.c8.b8.f0,vi x_.n.c8.b8.Code,.own 2 0 1 0 x_.n.a5.length,.b x_.n.i7,j9 4 z0 x_.n.i5,.b x_.n.b6.i8,vi x_.n.b6.a0.d6,vi x_.n.b6.a0.Seq,j9 2 t8 x_.n.b6.b8.b5,j9 2 t9 x_.n.b6.b8.b7,vi x_.n.b6.b8.f0,vi x_.n.b6.b8.Code,j9 7 s8 x_.n.d8,.own 0 4 13 0 x_.out.length,.own 3 0 5 0 x_.told.length]
def e56(x_:n6):List V:=[vi x_.n.Id,vi x_.n.Acc.i4,j9 8 o7 x_.n.Acc.a5,.own 4 0 7 0 x_.n.a6.length,vi x_.n.Seq,vi x_.n.d9,vi x_.n.a8,.own 5 0 1 0 x_.n.d7.length,j9 8 o7 x_.n.g9,.b x_.n.c8.i8,vi x_.n.c8.a0.d6,vi x_.n.c8.a0.Seq,j9 2 t8 x_.n.c8.b8.b5,j9 2 t9 x_.n.c8.b8.b7,vi x_.n.c8.b8.f0,vi x_.n.c8.b8.Code,.own 6 0 1 0 x_.n.a5.length,.b x_.n.i7,j9 4 z0 x_.n.i5,.b x_.n.b6.i8,vi x_.n.b6.a0.d6,vi x_.n.b6.a0.Seq,j9 2 t8 x_.n.b6.b8.b5,j9 2 t9 x_.n.b6.b8.b7,vi x_.n.b6.b8.f0,vi x_.n.b6.b8.Code,j9 7 s8 x_.n.d8,.own 7 0 13 0 x_.out.length,.own 8 0 5 0 x_.told.length]
def a7y(x_:j5):List r9:=[l9 126 8 o7 x_.Acc.a5,l9 51 7 s8 x_.a6,l9 4 1 eB x_.d7,l9 4 1 eB x_.a5,l9 51 7 s8 x_.d8]
def e5y(x_:j5):List (Option (List r9)):=[some [l9 126 8 o7 x_.Acc.a5],some [l9 51 7 s8 x_.a6],some [l9 4 1 eB x_.d7],some [l9 4 1 eB x_.a5],some [l9 51 7 s8 x_.d8]]
def c1c(x_:n6):List r9:=[l9 51 7 s8 x_.n.a6,l9 4 1 eB x_.n.d7,l9 4 1 eB x_.n.a5,l9 68 13 p9 x_.out,l9 40 5 u9 x_.told]
def a1R(x_:n6):List (Option (List r9)):=[some [l9 51 7 s8 x_.n.a6],some [l9 4 1 eB x_.n.d7],some [l9 4 1 eB x_.n.a5],some [l9 68 13 p9 x_.out],some [l9 40 5 u9 x_.told]]
def e4M(x_:n6):List (Option (List r9)):=[some [l9 40 5 u9 x_.told],some [l9 68 13 p9 x_.out],some [l9 4 1 eB x_.n.a5],some [l9 4 1 eB x_.n.d7],some [l9 51 7 s8 x_.n.a6]]
def c7R(x_:n6):List r9:=[l9 68 13 p9 x_.out,l9 40 5 u9 x_.told]
def d1o(x_:n6):List (Option (List r9)):=[some [l9 51 7 s8 x_.n.a6],some [l9 4 1 eB x_.n.a5]]
def e1k(x_:n6):List (Option (List r9)):=[some [l9 51 7 s8 x_.n.a6],some [l9 4 1 eB x_.n.a5],some [l9 40 5 u9 x_.told]]
def om1:List (Option Nat):=[none,none,none,some 51,none,none,none,some 4,none,none,none,none,none,none,none,none,some 4,none,none,none,none,none,none,none,none,none,some 51]
def om2:List (Option Nat):=[some 53,some 68,some 70,some 40]
def E7:List (Option Nat):=[none,none,some 126,some 51,none,none,none,some 4,none,none,none,none,none,none,none,none,some 4,none,none,none,none,none,none,none,none,none,some 51]
def Q2:List (Option Nat):=[some 1000053,some 68,some 70,some 40]
def om5:List (Option Nat):=[some 155,some 158,none,none]
def om6:List (Option Nat):=[none,none,none,some 155,some 158,none,none]
def om7:List (Option Nat):=[none,none,none,some 51,none,none,none,some 4,none,none,none,none,none,none,none,none,some 4,none,none,none,none,none,none,none,none,none,some 51,some 68,some 40]
def J2:List (Option Nat):=[none,none,none,some 51,none,none,none,some 4,none,none,none,none,none,none,none,none,some 4,none,none,none,none,none,none,none,none,none,none,some 68,some 40]
def E2:List (Option Nat):=[some 27,some 13,some 3,some 5]
def M7:List (Option Nat):=[some 2,some 2,none,none]
def I4:List (Option Nat):=[none,none,none,some 2,some 2,none,none]
def A0:List (Option Nat):=[none,none,some 8,some 7,none,none,none,some 1,some 8,none,none,none,some 2,some 2,none,none,some 1,none,some 4,none,none,none,some 2,some 2,none,none,some 7]
def B2:List (Option Nat):=[none,none,none,none,none,none,none,none,some 2,some 2,none,none,some 8]
def S7:List (Option Nat):=[none,none,none,none,some 2,some 2,none,none]
def G5:List (Option Nat):=[none,none,some 8,some 7,none,none,none,some 1,some 8,none,none,none,some 2,some 2,none,none,some 1,none,some 4,none,none,none,some 2,some 2,none,none,some 7,some 13,some 5]
theorem c6L(d:Nat)(w:World)(x0 x1 y0 y1:Int):(Op.equalIn (d+2) 38 (.agg #[.int .i64 x0,.int .i64 x1]) (.agg #[.int .i64 y0,.int .i64 y1])).run Tryz.prog w=.ok ((x0==y0)&&((x1==y1)&&true)) w:=by
 refine b2L Tryz.underlying38 Tryz.stoodInHeld38 ?_;refine a0x (by rfl) (by first|(go_simp;done)|(go_simp;rfl)) (by first|(go_simp;done)|(go_simp;rfl)) (a0U Tryz.underlying3) ?_;refine a0x (by rfl) (by first|(go_simp;done)|(go_simp;rfl)) (by first|(go_simp;done)|(go_simp;rfl)) (a0U Tryz.underlying3) ?_;exact b1Y
theorem d9f(xs ys:List Int)(w:World)(hx:xs.length=2)(hy:ys.length=2):(Op.equal 38 (.agg (xs.map (Value.int .i64)).toArray) (.agg (ys.map (Value.int .i64)).toArray)).run Tryz.prog w=.ok (xs==ys) w:=by
 match xs,ys,hx,hy with
 | [x0,x1],[y0,y1],_,_ =>
  have h:=c6L 9998 w x0 x1 y0 y1;have e:((x0==y0)&&((x1==y1)&&true))=([x0,x1]==([y0,y1]:List Int)):=by simp [e99]
  rw [e] at h;exact h
theorem e6F(d:Nat)(w:World)(x0 x1 x2 x3 x4 y0 y1 y2 y3 y4:Int):(Op.equalIn (d+3) 40 (.agg #[.int .i64 x0,.int .i64 x1,.int .i64 x2,.int .i64 x3,.int .i64 x4]) (.agg #[.int .i64 y0,.int .i64 y1,.int .i64 y2,.int .i64 y3,.int .i64 y4])).run Tryz.prog w=.ok ((x0==y0)&&(((x1==y1)&&((x2==y2)&&true))&&((x3==y3)&&((x4==y4)&&true)))) w:=by
 refine b2L Tryz.underlying40 Tryz.stoodInHeld40 ?_;refine a0x (by rfl) (by first|(go_simp;done)|(go_simp;rfl)) (by first|(go_simp;done)|(go_simp;rfl)) (a0U Tryz.underlying3) ?_;refine a0x (by rfl) (by first|(go_simp;done)|(go_simp;rfl)) (by first|(go_simp;done)|(go_simp;rfl)) (c6L (d+0) w x1 x2 y1 y2) ?_;refine a0x (by rfl) (by first|(go_simp;done)|(go_simp;rfl)) (by first|(go_simp;done)|(go_simp;rfl)) (a0U Tryz.underlying3) ?_;refine a0x (by rfl) (by first|(go_simp;done)|(go_simp;rfl)) (by first|(go_simp;done)|(go_simp;rfl)) (a0U Tryz.underlying3) ?_;exact b1Y
theorem d3V(xs ys:List Int)(w:World)(hx:xs.length=5)(hy:ys.length=5):(Op.equal 40 (.agg (xs.map (Value.int .i64)).toArray) (.agg (ys.map (Value.int .i64)).toArray)).run Tryz.prog w=.ok (xs==ys) w:=by
 match xs,ys,hx,hy with
 | [x0,x1,x2,x3,x4],[y0,y1,y2,y3,y4],_,_ =>
  have h:=e6F 9997 w x0 x1 x2 x3 x4 y0 y1 y2 y3 y4;have e:((x0==y0)&&(((x1==y1)&&((x2==y2)&&true))&&((x3==y3)&&((x4==y4)&&true))))=([x0,x1,x2,x3,x4]==([y0,y1,y2,y3,y4]:List Int)):=by simp [e99]
  rw [e] at h;exact h
theorem e8g(d:Nat)(w:World)(x0 x1 x2 x3 y0 y1 y2 y3:Int):(Op.equalIn (d+2) 74 (.agg #[.int .i64 x0,.int .i64 x1,.int .i64 x2,.int .i64 x3]) (.agg #[.int .i64 y0,.int .i64 y1,.int .i64 y2,.int .i64 y3])).run Tryz.prog w=.ok ((x0==y0)&&((x1==y1)&&((x2==y2)&&((x3==y3)&&true)))) w:=by
 refine b2L Tryz.underlying74 Tryz.stoodInHeld74 ?_;refine a0x (by rfl) (by first|(go_simp;done)|(go_simp;rfl)) (by first|(go_simp;done)|(go_simp;rfl)) (a0U Tryz.underlying3) ?_;refine a0x (by rfl) (by first|(go_simp;done)|(go_simp;rfl)) (by first|(go_simp;done)|(go_simp;rfl)) (a0U Tryz.underlying3) ?_;refine a0x (by rfl) (by first|(go_simp;done)|(go_simp;rfl)) (by first|(go_simp;done)|(go_simp;rfl)) (a0U Tryz.underlying3) ?_;refine a0x (by rfl) (by first|(go_simp;done)|(go_simp;rfl)) (by first|(go_simp;done)|(go_simp;rfl)) (a0U Tryz.underlying3) ?_;exact b1Y
theorem e7i(xs ys:List Int)(w:World)(hx:xs.length=4)(hy:ys.length=4):(Op.equal 74 (.agg (xs.map (Value.int .i64)).toArray) (.agg (ys.map (Value.int .i64)).toArray)).run Tryz.prog w=.ok (xs==ys) w:=by
 match xs,ys,hx,hy with
 | [x0,x1,x2,x3],[y0,y1,y2,y3],_,_ =>
  have h:=e8g 9998 w x0 x1 x2 x3 y0 y1 y2 y3;have e:((x0==y0)&&((x1==y1)&&((x2==y2)&&((x3==y3)&&true))))=([x0,x1,x2,x3]==([y0,y1,y2,y3]:List Int)):=by simp [e99]
  rw [e] at h;exact h
theorem e5Y(d:Nat)(w:World)(x0 x1 y0 y1:Int):(Op.equalIn (d+2) 155 (.agg #[.int .i64 x0,.int .i64 x1]) (.agg #[.int .i64 y0,.int .i64 y1])).run Tryz.prog w=.ok ((x0==y0)&&((x1==y1)&&true)) w:=by
 refine b2L Tryz.underlying155 Tryz.stoodInHeld155 ?_;refine a0x (by rfl) (by first|(go_simp;done)|(go_simp;rfl)) (by first|(go_simp;done)|(go_simp;rfl)) (a0U Tryz.underlying3) ?_;refine a0x (by rfl) (by first|(go_simp;done)|(go_simp;rfl)) (by first|(go_simp;done)|(go_simp;rfl)) (a0U Tryz.underlying3) ?_;exact b1Y
theorem d23(xs ys:List Int)(w:World)(hx:xs.length=2)(hy:ys.length=2):(Op.equal 155 (.agg (xs.map (Value.int .i64)).toArray) (.agg (ys.map (Value.int .i64)).toArray)).run Tryz.prog w=.ok (xs==ys) w:=by
 match xs,ys,hx,hy with
 | [x0,x1],[y0,y1],_,_ =>
  have h:=e5Y 9998 w x0 x1 y0 y1;have e:((x0==y0)&&((x1==y1)&&true))=([x0,x1]==([y0,y1]:List Int)):=by simp [e99]
  rw [e] at h;exact h
theorem e0O(d:Nat)(w:World)(x0 x1 y0 y1:Int):(Op.equalIn (d+2) 158 (.agg #[.int .i64 x0,.int .i64 x1]) (.agg #[.int .i64 y0,.int .i64 y1])).run Tryz.prog w=.ok ((x0==y0)&&((x1==y1)&&true)) w:=by
 refine b2L Tryz.underlying158 Tryz.stoodInHeld158 ?_;refine a0x (by rfl) (by first|(go_simp;done)|(go_simp;rfl)) (by first|(go_simp;done)|(go_simp;rfl)) (a0U Tryz.underlying3) ?_;refine a0x (by rfl) (by first|(go_simp;done)|(go_simp;rfl)) (by first|(go_simp;done)|(go_simp;rfl)) (a0U Tryz.underlying3) ?_;exact b1Y
theorem d7I(xs ys:List Int)(w:World)(hx:xs.length=2)(hy:ys.length=2):(Op.equal 158 (.agg (xs.map (Value.int .i64)).toArray) (.agg (ys.map (Value.int .i64)).toArray)).run Tryz.prog w=.ok (xs==ys) w:=by
 match xs,ys,hx,hy with
 | [x0,x1],[y0,y1],_,_ =>
  have h:=e0O 9998 w x0 x1 y0 y1;have e:((x0==y0)&&((x1==y1)&&true))=([x0,x1]==([y0,y1]:List Int)):=by simp [e99]
  rw [e] at h;exact h
def ti3:TI:={size:=1,bytes:=8,agg:=false,zero:=[vi 0],sl:=none,arr:=none,ik:=some .i64,fs:=none,str:=false,ptr:=none,bl:=false}
def ti4:TI:={size:=1,bytes:=1,agg:=false,zero:=[.b false],sl:=none,arr:=none,ik:=none,fs:=none,str:=false,ptr:=none,bl:=true}
def ti5:TI:={size:=1,bytes:=1,agg:=false,zero:=[.i .u8 0],sl:=none,arr:=none,ik:=some .u8,fs:=none,str:=false,ptr:=none,bl:=false}
def c8X:TI:={size:=1,bytes:=24,agg:=false,zero:=[.nil],sl:=some 5,arr:=none,ik:=none,fs:=none,str:=false,ptr:=none,bl:=false}
def d1D:TI:={size:=1,bytes:=24,agg:=false,zero:=[.nil],sl:=some 53,arr:=none,ik:=none,fs:=none,str:=false,ptr:=none,bl:=false}
def d2u:TI:={size:=1,bytes:=24,agg:=false,zero:=[.nil],sl:=some 68,arr:=none,ik:=none,fs:=none,str:=false,ptr:=none,bl:=false}
def c7P:TI:={size:=1,bytes:=24,agg:=false,zero:=[.nil],sl:=some 70,arr:=none,ik:=none,fs:=none,str:=false,ptr:=none,bl:=false}
def c9R:TI:={size:=1,bytes:=24,agg:=false,zero:=[.nil],sl:=some 40,arr:=none,ik:=none,fs:=none,str:=false,ptr:=none,bl:=false}
def d1F:TI:={size:=4,bytes:=96,agg:=true,zero:=[.nil,.nil,.nil,.nil],sl:=none,arr:=none,ik:=none,fs:=some [(0,23),(1,24),(2,25),(3,26)],str:=false,ptr:=none,bl:=false}
def c5f:TI:={size:=1,bytes:=24,agg:=false,zero:=[.nil],sl:=some 58,arr:=none,ik:=none,fs:=none,str:=false,ptr:=none,bl:=false}
def c7y:TI:={size:=1,bytes:=24,agg:=false,zero:=[.nil],sl:=some 74,arr:=none,ik:=none,fs:=none,str:=false,ptr:=none,bl:=false}
def c6q:TI:={size:=2,bytes:=16,agg:=true,zero:=[vi 0,vi 0],sl:=none,arr:=none,ik:=none,fs:=some [(0,3),(1,3)],str:=false,ptr:=none,bl:=false}
def c1w:TI:={size:=5,bytes:=40,agg:=true,zero:=[vi 0,vi 0,vi 0,vi 0,vi 0],sl:=none,arr:=none,ik:=none,fs:=some [(0,3),(1,38),(3,3),(4,3)],str:=false,ptr:=none,bl:=false}
def c4U:TI:={size:=1,bytes:=24,agg:=false,zero:=[.nil],sl:=some 126,arr:=none,ik:=none,fs:=none,str:=false,ptr:=none,bl:=false}
def c89:TI:={size:=2,bytes:=32,agg:=true,zero:=[vi 0,.nil],sl:=none,arr:=none,ik:=none,fs:=some [(0,3),(1,41)],str:=false,ptr:=none,bl:=false}
def c9G:TI:={size:=1,bytes:=24,agg:=false,zero:=[.nil],sl:=some 51,arr:=none,ik:=none,fs:=none,str:=false,ptr:=none,bl:=false}
def c3W:TI:={size:=1,bytes:=24,agg:=false,zero:=[.nil],sl:=some 4,arr:=none,ik:=none,fs:=none,str:=false,ptr:=none,bl:=false}
def d2I:TI:={size:=1,bytes:=24,agg:=false,zero:=[.nil],sl:=some 155,arr:=none,ik:=none,fs:=none,str:=false,ptr:=none,bl:=false}
def c6Z:TI:={size:=1,bytes:=24,agg:=false,zero:=[.nil],sl:=some 158,arr:=none,ik:=none,fs:=none,str:=false,ptr:=none,bl:=false}
def d1L:TI:={size:=4,bytes:=64,agg:=true,zero:=[.nil,.nil,vi 0,vi 0],sl:=none,arr:=none,ik:=none,fs:=some [(0,46),(1,47),(2,3),(3,3)],str:=false,ptr:=none,bl:=false}
def b9F:TI:={size:=7,bytes:=88,agg:=true,zero:=[.b false,vi 0,vi 0,.nil,.nil,vi 0,vi 0],sl:=none,arr:=none,ik:=none,fs:=some [(0,4),(1,38),(3,49)],str:=false,ptr:=none,bl:=false}
def b8T:TI:={size:=27,bytes:=392,agg:=true,zero:=[vi 0,vi 0,.nil,.nil,vi 0,vi 0,vi 0,.nil,.nil,.b false,vi 0,vi 0,.nil,.nil,vi 0,vi 0,.nil,.b false,.nil,.b false,vi 0,vi 0,.nil,.nil,vi 0,vi 0,.nil],sl:=none,arr:=none,ik:=none,fs:=some [(0,3),(1,43),(3,44),(4,3),(5,3),(6,3),(7,45),(8,41),(9,51),(16,45),(17,4),(18,34),(19,51),(26,44)],str:=false,ptr:=none,bl:=false}
def c7O:TI:={size:=3,bytes:=40,agg:=true,zero:=[vi 0,vi 0,.nil],sl:=none,arr:=none,ik:=none,fs:=some [(0,3),(1,3),(2,34)],str:=false,ptr:=none,bl:=false}
def b8b:TI:={size:=13,bytes:=152,agg:=true,zero:=[vi 0,vi 0,vi 0,vi 0,vi 0,.b false,vi 0,vi 0,.nil,.nil,vi 0,vi 0,.nil],sl:=none,arr:=none,ik:=none,fs:=some [(0,3),(1,3),(2,3),(3,3),(4,3),(5,51),(12,41)],str:=false,ptr:=none,bl:=false}
def c0l:TI:={size:=3,bytes:=40,agg:=true,zero:=[vi 0,vi 0,.nil],sl:=none,arr:=none,ik:=none,fs:=some [(0,38),(2,34)],str:=false,ptr:=none,bl:=false}
def b87:TI:={size:=4,bytes:=32,agg:=true,zero:=[vi 0,vi 0,vi 0,vi 0],sl:=none,arr:=none,ik:=none,fs:=some [(0,3),(1,3),(2,3),(3,3)],str:=false,ptr:=none,bl:=false}
def d16:TI:={size:=1,bytes:=24,agg:=false,zero:=[.nil],sl:=some 3,arr:=none,ik:=none,fs:=none,str:=false,ptr:=none,bl:=false}
def d0w:TI:={size:=2,bytes:=32,agg:=true,zero:=[.nil,vi 0],sl:=none,arr:=none,ik:=none,fs:=some [(0,22),(1,3)],str:=false,ptr:=none,bl:=false}
def b2H:TI:={size:=8,bytes:=96,agg:=true,zero:=[vi 0,.b false,vi 0,vi 0,.nil,.nil,vi 0,vi 0],sl:=none,arr:=none,ik:=none,fs:=some [(0,3),(1,51)],str:=false,ptr:=none,bl:=false}
def c9Z:TI:={size:=29,bytes:=440,agg:=true,zero:=[vi 0,vi 0,.nil,.nil,vi 0,vi 0,vi 0,.nil,.nil,.b false,vi 0,vi 0,.nil,.nil,vi 0,vi 0,.nil,.b false,.nil,.b false,vi 0,vi 0,.nil,.nil,vi 0,vi 0,.nil,.nil,.nil],sl:=none,arr:=none,ik:=none,fs:=some [(0,53),(27,24),(28,26)],str:=false,ptr:=none,bl:=false}
def d0e:TI:={size:=1,bytes:=24,agg:=false,zero:=[.nil],sl:=some 172,arr:=none,ik:=none,fs:=none,str:=false,ptr:=none,bl:=false}
def c9L:TI:={size:=1,bytes:=24,agg:=false,zero:=[.nil],sl:=some 202,arr:=none,ik:=none,fs:=none,str:=false,ptr:=none,bl:=false}
def c4e:TI:={size:=3,bytes:=56,agg:=true,zero:=[vi 0,.nil,.nil],sl:=none,arr:=none,ik:=none,fs:=some [(0,3),(1,144),(2,145)],str:=false,ptr:=none,bl:=false}
def c2l:TI:={size:=2,bytes:=16,agg:=true,zero:=[vi 0,vi 0],sl:=none,arr:=none,ik:=none,fs:=some [(0,3),(1,3)],str:=false,ptr:=none,bl:=false}
def b8e:TI:={size:=2,bytes:=16,agg:=true,zero:=[vi 0,vi 0],sl:=none,arr:=none,ik:=none,fs:=some [(0,3),(1,3)],str:=false,ptr:=none,bl:=false}
def c7E:TI:={size:=4,bytes:=4,agg:=true,zero:=[.b false,.b false,.b false,.b false],sl:=none,arr:=some (4,4),ik:=none,fs:=none,str:=false,ptr:=none,bl:=false}
def d12:TI:={size:=4,bytes:=32,agg:=true,zero:=[vi 0,vi 0,vi 0,vi 0],sl:=none,arr:=some (4,3),ik:=none,fs:=none,str:=false,ptr:=none,bl:=false}
def b1W:TI:={size:=2,bytes:=16,agg:=true,zero:=[vi 0,vi 0],sl:=none,arr:=none,ik:=none,fs:=some [(0,3),(1,3)],str:=false,ptr:=none,bl:=false}
def c0b:TI:={size:=4,bytes:=32,agg:=true,zero:=[vi 0,vi 0,vi 0,vi 0],sl:=none,arr:=none,ik:=none,fs:=some [(0,38),(2,3),(3,3)],str:=false,ptr:=none,bl:=false}
def c2k:List (Nat×TI):=[(3,ti3),(4,ti4),(5,ti5),(22,c8X),(23,d1D),(24,d2u),(25,c7P),(26,c9R),(28,d1F),(31,c5f),(34,c7y),(38,c6q),(40,c1w),(41,c4U),(43,c89),(44,c9G),(45,c3W),(46,d2I),(47,c6Z),(49,d1L),(51,b9F),(53,b8T),(58,c7O),(68,b8b),(70,c0l),(74,b87),(90,d16),(94,d0w),(126,b2H),(142,c9Z),(144,d0e),(145,c9L),(147,c4e),(155,c2l),(158,b8e),(165,c7E),(169,d12),(172,b1W),(202,c0b)]
def b3g:List (Nat×TI)->Nat->Option TI
 | [],_=>none
 | (k,x)::l,t=>if Nat.beq k t then some x else b3g l t
theorem e0o{l:List (Nat×TI)}{t:Nat}{x:TI}(h:b3g l t=some x):(t,x)∈l:=by
 induction l with
 | nil=>cases h
 | cons p l ih =>
  obtain ⟨k,y⟩:=p;unfold b3g at h;split at h
  ·rename_i hk;have:k=t:=e89 hk;injection h with h;subst this;subst h;simp
  ·exact e8K.2 (.inr (ih h))
theorem e0b:E1 Tryz.prog 3=some ti3:=by kernel_rfl
theorem d3s:E1 Tryz.prog 4=some ti4:=by kernel_rfl
theorem d24:E1 Tryz.prog 5=some ti5:=by kernel_rfl
theorem d7T:E1 Tryz.prog 22=some c8X:=by kernel_rfl
theorem e5l:E1 Tryz.prog 23=some d1D:=by kernel_rfl
theorem d8e:E1 Tryz.prog 24=some d2u:=by kernel_rfl
theorem e3m:E1 Tryz.prog 25=some c7P:=by kernel_rfl
theorem d7z:E1 Tryz.prog 26=some c9R:=by kernel_rfl
theorem e6T:E1 Tryz.prog 28=some d1F:=by kernel_rfl
theorem e1N:E1 Tryz.prog 31=some c5f:=by kernel_rfl
theorem e3D:E1 Tryz.prog 34=some c7y:=by kernel_rfl
theorem e0Q:E1 Tryz.prog 38=some c6q:=by kernel_rfl
theorem e1S:E1 Tryz.prog 40=some c1w:=by kernel_rfl
theorem d3Y:E1 Tryz.prog 41=some c4U:=by kernel_rfl
theorem e7b:E1 Tryz.prog 43=some c89:=by kernel_rfl
theorem d59:E1 Tryz.prog 44=some c9G:=by kernel_rfl
theorem e3b:E1 Tryz.prog 45=some c3W:=by kernel_rfl
theorem d7g:E1 Tryz.prog 46=some d2I:=by kernel_rfl
theorem e0X:E1 Tryz.prog 47=some c6Z:=by kernel_rfl
theorem e0E:E1 Tryz.prog 49=some d1L:=by kernel_rfl
theorem e4j:E1 Tryz.prog 51=some b9F:=by kernel_rfl
theorem e4O:E1 Tryz.prog 53=some b8T:=by kernel_rfl
theorem d8r:E1 Tryz.prog 58=some c7O:=by kernel_rfl
theorem e1R:E1 Tryz.prog 68=some b8b:=by kernel_rfl
theorem e5g:E1 Tryz.prog 70=some c0l:=by kernel_rfl
theorem d90:E1 Tryz.prog 74=some b87:=by kernel_rfl
theorem d5A:E1 Tryz.prog 90=some d16:=by kernel_rfl
theorem d7V:E1 Tryz.prog 94=some d0w:=by kernel_rfl
theorem d5C:E1 Tryz.prog 126=some b2H:=by kernel_rfl
theorem e45:E1 Tryz.prog 142=some c9Z:=by kernel_rfl
theorem d5z:E1 Tryz.prog 144=some d0e:=by kernel_rfl
theorem d9c:E1 Tryz.prog 145=some c9L:=by kernel_rfl
theorem e65:E1 Tryz.prog 147=some c4e:=by kernel_rfl
theorem e4X:E1 Tryz.prog 155=some c2l:=by kernel_rfl
theorem d3M:E1 Tryz.prog 158=some b8e:=by kernel_rfl
theorem d2Q:E1 Tryz.prog 165=some c7E:=by kernel_rfl
theorem e2X:E1 Tryz.prog 169=some d12:=by kernel_rfl
theorem d5j:E1 Tryz.prog 172=some b1W:=by kernel_rfl
theorem d8v:E1 Tryz.prog 202=some c0b:=by kernel_rfl
theorem e2v:∀p∈c2k,E1 Tryz.prog p.1=some p.2:=by
 intro p hp;simp only [c2k,e8K,List.not_mem_nil,or_false] at hp;rcases hp with rfl|rfl|rfl|rfl|rfl|rfl|rfl|rfl|rfl|rfl|rfl|rfl|rfl|rfl|rfl|rfl|rfl|rfl|rfl|rfl|rfl|rfl|rfl|rfl|rfl|rfl|rfl|rfl|rfl|rfl|rfl|rfl|rfl|rfl|rfl|rfl|rfl|rfl|rfl
 ·exact e0b
 ·exact d3s
 ·exact d24
 ·exact d7T
 ·exact e5l
 ·exact d8e
 ·exact e3m
 ·exact d7z
 ·exact e6T
 ·exact e1N
 ·exact e3D
 ·exact e0Q
 ·exact e1S
 ·exact d3Y
 ·exact e7b
 ·exact d59
 ·exact e3b
 ·exact d7g
 ·exact e0X
 ·exact e0E
 ·exact e4j
 ·exact e4O
 ·exact d8r
 ·exact e1R
 ·exact e5g
 ·exact d90
 ·exact d5A
 ·exact d7V
 ·exact d5C
 ·exact e45
 ·exact d5z
 ·exact d9c
 ·exact e65
 ·exact e4X
 ·exact d3M
 ·exact d2Q
 ·exact e2X
 ·exact d5j
 ·exact d8v
def b0T(t:Nat):Option Nat:=if Nat.beq t 38 then some 2 else if Nat.beq t 40 then some 5 else if Nat.beq t 74 then some 4 else if Nat.beq t 155 then some 2 else if Nat.beq t 158 then some 2 else  none
theorem e7E(t m:Nat)(h:b0T t=some m)(xs ys:List Int)(w:World)(hx:xs.length=m)(hy:ys.length=m):(Op.equal t (.agg (xs.map (Value.int .i64)).toArray) (.agg (ys.map (Value.int .i64)).toArray)).run Tryz.prog w=.ok (xs==ys) w:=by
 unfold b0T at h;split at h
 ·rename_i hk;have hm:2=m:=e9y h;rw [e89 hk];exact d9f xs ys w (hx.trans hm.symm) (hy.trans hm.symm)
 split at h
 ·rename_i hk;have hm:5=m:=e9y h;rw [e89 hk];exact d3V xs ys w (hx.trans hm.symm) (hy.trans hm.symm)
 split at h
 ·rename_i hk;have hm:4=m:=e9y h;rw [e89 hk];exact e7i xs ys w (hx.trans hm.symm) (hy.trans hm.symm)
 split at h
 ·rename_i hk;have hm:2=m:=e9y h;rw [e89 hk];exact d23 xs ys w (hx.trans hm.symm) (hy.trans hm.symm)
 split at h
 ·rename_i hk;have hm:2=m:=e9y h;rw [e89 hk];exact d7I xs ys w (hx.trans hm.symm) (hy.trans hm.symm)
 cases h
theorem d7S(t m:Nat)(h:b0T t=some m):Tryz.prog.eqGuardType Tryz.prog.depth t=false:=by
 unfold b0T at h;split at h
 ·rename_i hk;have hm:2=m:=e9y h;rw [e89 hk];exact Tryz.eqGuardType38
 split at h
 ·rename_i hk;have hm:5=m:=e9y h;rw [e89 hk];exact Tryz.eqGuardType40
 split at h
 ·rename_i hk;have hm:4=m:=e9y h;rw [e89 hk];exact Tryz.eqGuardType74
 split at h
 ·rename_i hk;have hm:2=m:=e9y h;rw [e89 hk];exact Tryz.eqGuardType155
 split at h
 ·rename_i hk;have hm:2=m:=e9y h;rw [e89 hk];exact Tryz.eqGuardType158
 cases h
theorem d8U:Tryz.prog.follows .mixedOrders=true:=by kernel_rfl
def cx:Cx where
 P:=Tryz.prog
 mixed:=d8U
 T:=b3g c2k
 hT:=fun t ti h=>e2v (t,ti) (e0o h)
 E:=b0T
 hE:=e7E
 hG:=d7S
 M:=fun _=>none
 hM:=fun _ _ _ _ h=>nomatch h
structure FS(α:Type) where
 f:Nat
 fn:Func
 m:List PM
 o:List (Option (Nat×PM))
 ms:List PM
 R:α->V
 O:α->LOV
 h:cx.P.funcs[f]?=some fn
def FS.X{α:Type}(q:FS α):M0:=⟨q.f,q.fn,q.m,q.o⟩
def FS.c{α:Type}(q:FS α):Code:=e8p q.fn
def FS.t{α:Type}(q:FS α)(i:Nat)(fr:Bool)(r:α):Nat×I7:=(i,{a:=.call q.ms fr (q.R r) (q.O r)})
def FS.k{α:Type}(q:FS α)(i:Nat)(l:List Bool):List Item:=a20 2000 i l [.code q.c]
def noK:Unit->KS:=fun _=>([],⟨[],[]⟩)
section
variable {α β J P E:Type}
abbrev OK(q:FS α)(args:List V)(m:Option α):Prop := ∀r,m=some r->W4 cx.P q.f args (q.R r) (q.O r)
abbrev NG(q:FS α)(r:α)(S:J->KS)(f:J->Option β)(v:β):Prop := ∀s,f s=some v->FK cx q.X (q.R r) (q.O r) (S s)
abbrev NF(q:FS α)(r:α)(S:J->KS)(f:J->Option α):Prop:=NG q r S f r
abbrev H8(q:FS α)(SE:E->KS)(S:P->KS):=LC cx q.X q.R q.O SE S
abbrev LQ(q:FS α)(SE:E->KS)(S:P->KS)(b:P->Option (l7 α P E)):Prop:=LB cx q.X q.R q.O SE S b
theorem n7(q:FS α){args:List V}{m:Option α}(h:∀r,m=some r->Pt cx q.X (q.R r) (q.O r) [.code q.c] (a8E q.X args) [] [])(hb:q.X.fn.body=some q.c:=by kernel_rfl) (hn:(q.X.fn.name == "runtime.NumGoroutine")=false:=by kernel_rfl) (ho:a26 0 q.X.oms args=true:=by kernel_rfl):OK q args m :=
 fun r hm=>W4.of (X:=q.X) q.h hb hn ho (P0 (h r hm))
theorem FS.rt(q:FS α){x y:α}(h:some x=some y):q.R y=q.R x/\q.O y=q.O x:=by
 injection h with h;subst h;exact ⟨rfl,rfl⟩
variable {X:M0} {res:V} {outs:LOV} {k:List Item} {S:St} {sc:P3} {ps:List Prop} {t:List (Nat×I7)} {v:β}
theorem fE{q:FS α}{x y:α}(h:some x=some y)(hg:a9p cx q.X k S (scO sc [])=some (q.R x,q.O x,psO ps []):=by kernel_rfl):Pt cx q.X (q.R y) (q.O y) k S sc ps:=fn0 q.h (q.rt h) hg
theorem fL{q:FS α}{SE:E->KS}{SP:P->KS}(c:H8 q SE SP){x:α}(h:some (l7.ret x)=some c.st)(hg:a9p cx q.X k S (scO sc [])=some (q.R x,q.O x,psO ps []):=by kernel_rfl):Pt cx q.X c.res c.outs k S sc ps:=fn0 q.h (c.rt h) hg
theorem j8(q:FS α){m:Option α}{p:α->Prop}(ok:∀x,m=some x->p x)(i:Nat){f:α->Option β}(h:m.bind f=some v)(g:∀x,f x=some v->Pt cx X res outs k S ((q.t i false x::t)::sc) (p x::ps)):Pt cx X res outs k S (t::sc) ps:=cb q.t ok i false h g
theorem cbS(q:FS α){m:Option α}{p:α->Prop}(ok:∀x,m=some x->p x)(i:Nat){f:α->Option β}(a:∀x,K6 (q.R x))(b:∀x,a3c (q.O x))(h:m.bind f=some v)(g:∀x,f x=some v->Pt cx X res outs k S ((q.t i true x::t)::sc) ((K6 (q.R x)/\a3c (q.O x))::p x::ps)):Pt cx X res outs k S (t::sc) ps :=
 cb q.t ok i true h fun x h=>ob ⟨a x,b x⟩ (g x h)
theorem R0(q:FS α){m:Option α}{p:α->Prop}(ok:∀x,m=some x->p x)(i n:Nat){f:α->Option β}(h:m.bind f=some v)(g:∀x,f x=some v->Pt cx X res outs k S ((q.t i true x::t)::sc) ((K6 (q.R x)/\a3c (q.O x))::p x::ps))(a:∀x,K6 (q.R x):=by exact fun _=>rfl)(b:∀x,q.O x=c2i n:=by exact fun _=>rfl):Pt cx X res outs k S (t::sc) ps:=cbS q ok i a (fun x=>b x▸P1 n) h g
theorem osc(q:FS α)(x:α)(a:K6 (q.R x))(b:a3c (q.O x))(h:Pt cx X res outs k S sc ((K6 (q.R x)/\a3c (q.O x))::ps)):Pt cx X res outs k S sc ps:=ob ⟨a,b⟩ h
end
theorem B7{X:M0}{res:V}{outs:LOV}{k:List Item}{S:St}{sc:P3}{ps:List Prop}(x:n6)(h:Pt cx X res outs k S sc ((x.told.length=x.told.length)::(x.out.length=x.out.length)::(x.n.a5.length=x.n.a5.length)::(x.n.d7.length=x.n.d7.length)::(x.n.a6.length=x.n.a6.length)::ps)):Pt cx X res outs k S sc ps:=ob rfl (ob rfl (ob rfl (ob rfl (ob rfl (h)))))
theorem H1{X:M0}{res:V}{outs:LOV}{k:List Item}{S:St}{sc:P3}{ps:List Prop}(x:j5)(h:Pt cx X res outs k S sc ((x.d8.length=x.d8.length)::(x.a5.length=x.a5.length)::(x.d7.length=x.d7.length)::(x.a6.length=x.a6.length)::ps)):Pt cx X res outs k S sc ps:=ob rfl (ob rfl (ob rfl (ob rfl (h))))
theorem z3{X:M0}{res:V}{outs:LOV}{k:List Item}{S:St}{sc:P3}{ps:List Prop}(x:j5)(h:Pt cx X res outs k S sc ((x.d8.length=x.d8.length)::(x.a5.length=x.a5.length)::(x.d7.length=x.d7.length)::(x.a6.length=x.a6.length)::(x.Acc.a5.length=x.Acc.a5.length)::ps)):Pt cx X res outs k S sc ps:=ob rfl (ob rfl (ob rfl (ob rfl (ob rfl (h)))))
theorem olR{X:M0}{res:V}{outs:LOV}{k:List Item}{S:St}{sc:P3}{ps:List Prop}(x:m9)(h:Pt cx X res outs k S sc ((x.b7.length=x.b7.length)::(x.b5.length=x.b5.length)::ps)):Pt cx X res outs k S sc ps:=ob rfl (ob rfl (h))
theorem A2{X:M0}{res:V}{outs:LOV}{k:List Item}{S:St}{sc:P3}{ps:List Prop}(x:m5)(h:Pt cx X res outs k S sc ((x.Told.length=x.Told.length)::(x.c9.length=x.c9.length)::(x.b9.length=x.b9.length)::(x.a9.length=x.a9.length)::ps)):Pt cx X res outs k S sc ps:=ob rfl (ob rfl (ob rfl (ob rfl (h))))
def a5v(x_:j5):List V:=[vi x_.Id,vi x_.Acc.i4,t7 126 8 o7 x_.Acc.a5,t7 51 7 s8 x_.a6,vi x_.Seq,vi x_.d9,vi x_.a8,t7 4 1 eB x_.d7,j9 8 o7 x_.g9,.b x_.c8.i8,vi x_.c8.a0.d6,vi x_.c8.a0.Seq,j9 2 t8 x_.c8.b8.b5,j9 2 t9 x_.c8.b8.b7,vi x_.c8.b8.f0,vi x_.c8.b8.Code,t7 4 1 eB x_.a5,.b x_.i7,j9 4 z0 x_.i5,.b x_.b6.i8,vi x_.b6.a0.d6,vi x_.b6.a0.Seq,j9 2 t8 x_.b6.b8.b5,j9 2 t9 x_.b6.b8.b7,vi x_.b6.b8.f0,vi x_.b6.b8.Code,t7 51 7 s8 x_.d8]
def a8l(x_:j5):List V:=[t7 51 7 s8 x_.a6,vi x_.Seq,vi x_.d9,vi x_.a8,t7 4 1 eB x_.d7,j9 8 o7 x_.g9,.b x_.c8.i8,vi x_.c8.a0.d6,vi x_.c8.a0.Seq,j9 2 t8 x_.c8.b8.b5,j9 2 t9 x_.c8.b8.b7,vi x_.c8.b8.f0,vi x_.c8.b8.Code,t7 4 1 eB x_.a5,.b x_.i7,j9 4 z0 x_.i5,.b x_.b6.i8,vi x_.b6.a0.d6,vi x_.b6.a0.Seq,j9 2 t8 x_.b6.b8.b5,j9 2 t9 x_.b6.b8.b7,vi x_.b6.b8.f0,vi x_.b6.b8.Code,t7 51 7 s8 x_.d8]
def a57(x_:j5):List V:=[j9 8 o7 x_.g9,.b x_.c8.i8,vi x_.c8.a0.d6,vi x_.c8.a0.Seq,j9 2 t8 x_.c8.b8.b5,j9 2 t9 x_.c8.b8.b7,vi x_.c8.b8.f0,vi x_.c8.b8.Code]
def a28(x_:j5):List V:=[.b x_.i7,j9 4 z0 x_.i5,.b x_.b6.i8,vi x_.b6.a0.d6,vi x_.b6.a0.Seq,j9 2 t8 x_.b6.b8.b5,j9 2 t9 x_.b6.b8.b7,vi x_.b6.b8.f0,vi x_.b6.b8.Code]
def a0n(x_:m9):List V:=[j9 2 t8 x_.b5,j9 2 t9 x_.b7,vi x_.f0,vi x_.Code]
def I6(x_:m5):List V:=[j9 27 z9 x_.a9,j9 13 p9 x_.b9,j9 3 z8 x_.c9,j9 5 u9 x_.Told]
def B9:FS (Bool):=⟨30,Tryz.f30,[.val [] []],[none,none,none],[.val [] [],.val [] [],.val [] []],fun r=>.b r,fun _=>[none,none,none],Tryz.func30⟩
def C0(n:Int)(low:Int)(high:Int):Option Bool :=
 (bif decide (n>=low) then some (decide (n<=high)) else some false)
theorem D1{n low high}:OK B9 [vi n,vi low,vi high] (C0 n low high) :=
 n7 _ fun r h=>n5<|j4 3 h (fun h=>fE h) (fun h=>fE h)
def c42:FS (j5):=⟨14,Tryz.f14,[.val A0 []],[none],[.val [] []],fun r=>.agg (z9 r),fun _=>[none],Tryz.func14⟩
def b4A(id:Int):Option j5 :=
 ((C0 id 0 2).bind fun in_=>(bif (!in_) then some (j5.mk 0 (v6.mk 0 []) [] 0 0 0 [] [] (m4.mk false (p8.mk 0 0) (m9.mk [] [] 0 0)) [] false [] (m4.mk false (p8.mk 0 0) (m9.mk [] [] 0 0)) []) else some (j5.mk id (v6.mk 0 []) [] 0 0 0 [] [] (m4.mk false (p8.mk 0 0) (m9.mk [] [] 0 0)) [] false [] (m4.mk false (p8.mk 0 0) (m9.mk [] [] 0 0)) [])))
theorem e7s{id}:OK c42 [vi id] (b4A id) :=
 n7 _ fun r h=>n5<|j8 B9 D1 1 h fun in_ h=>j4 2 h (fun h=>rg<|fE h) (fun h=>rg<|fE h)
def d0Z:FS (List j5):=⟨31,Tryz.f31,[.val [some 27] [some 53]],[none],[.val [some 27] []],fun r=>t7 53 27 z9 r,fun _=>[none],Tryz.func31⟩
def c2R(list:List j5):Option (List j5) :=
 (bif ((list.length:Int)==0) then some [] else (s7 (0<=(list.length:Int)/\(list.length:Int)*392<=140737488355328) ((s7 (list.length=(e8E (list.length:Int).toNat (j5.mk 0 (v6.mk 0 []) [] 0 0 0 [] [] (m4.mk false (p8.mk 0 0) (m9.mk [] [] 0 0)) [] false [] (m4.mk false (p8.mk 0 0) (m9.mk [] [] 0 0)) [])).length) (some list)))))
theorem e4E{list}:OK d0Z [j9 27 z9 list] (c2R list) :=
 n7 _ fun r h=>n5<|j4 2 h (fun h=>rg<|fE h) (fun h=>rg<|s9 h fun e1 h=>S6 2 7 53 27 392 z9 (j5.mk 0 (v6.mk 0 []) [] 0 0 0 [] [] (m4.mk false (p8.mk 0 0) (m9.mk [] [] 0 0)) [] false [] (m4.mk false (p8.mk 0 0) (m9.mk [] [] 0 0)) []) b8T (.ck A0) e1 (by decide) (by rfl)<|rg<|s9 h fun e2 h=>om (r9.row 53 27 (e8E (list.length:Int).toNat (j5.mk 0 (v6.mk 0 []) [] 0 0 0 [] [] (m4.mk false (p8.mk 0 0) (m9.mk [] [] 0 0)) [] false [] (m4.mk false (p8.mk 0 0) (m9.mk [] [] 0 0)) [])).length (list.map z9)=l9 53 27 z9 list) (a1M e2)<|s4 (e8E (list.length:Int).toNat (j5.mk 0 (v6.mk 0 []) [] 0 0 0 [] [] (m4.mk false (p8.mk 0 0) (m9.mk [] [] 0 0)) [] false [] (m4.mk false (p8.mk 0 0) (m9.mk [] [] 0 0)) []))<|ob e2<|tl (2,{e:=some (l9 53 27 z9 list)})<|rg<|om ((e8E (list.length:Int).toNat (j5.mk 0 (v6.mk 0 []) [] 0 0 0 [] [] (m4.mk false (p8.mk 0 0) (m9.mk [] [] 0 0)) [] false [] (m4.mk false (p8.mk 0 0) (m9.mk [] [] 0 0)) [])).length=list.length) (by simp)<|fE h)
def c9n:FS (List j7):=⟨70,Tryz.f70,[.val [some 13] [some 68]],[none],[.val [some 13] []],fun r=>t7 68 13 p9 r,fun _=>[none],Tryz.func70⟩
def b9B(list:List j7):Option (List j7) :=
 (bif ((list.length:Int)==0) then some [] else (s7 (0<=(list.length:Int)/\(list.length:Int)*152<=140737488355328) ((s7 (list.length=(e8E (list.length:Int).toNat (j7.mk 0 0 0 0 0 (m4.mk false (p8.mk 0 0) (m9.mk [] [] 0 0)) [])).length) (some list)))))
theorem e0Y{list}:OK c9n [j9 13 p9 list] (b9B list) :=
 n7 _ fun r h=>n5<|j4 2 h (fun h=>rg<|fE h) (fun h=>rg<|s9 h fun e1 h=>S6 2 7 68 13 152 p9 (j7.mk 0 0 0 0 0 (m4.mk false (p8.mk 0 0) (m9.mk [] [] 0 0)) []) b8b (.ck B2) e1 (by decide) (by rfl)<|rg<|s9 h fun e2 h=>om (r9.row 68 13 (e8E (list.length:Int).toNat (j7.mk 0 0 0 0 0 (m4.mk false (p8.mk 0 0) (m9.mk [] [] 0 0)) [])).length (list.map p9)=l9 68 13 p9 list) (a1M e2)<|s4 (e8E (list.length:Int).toNat (j7.mk 0 0 0 0 0 (m4.mk false (p8.mk 0 0) (m9.mk [] [] 0 0)) []))<|ob e2<|tl (2,{e:=some (l9 68 13 p9 list)})<|rg<|om ((e8E (list.length:Int).toNat (j7.mk 0 0 0 0 0 (m4.mk false (p8.mk 0 0) (m9.mk [] [] 0 0)) [])).length=list.length) (by simp)<|fE h)
def a1N:FS (List p7):=⟨158,Tryz.f158,[.val [some 2] [some 155]],[none],[.val [some 2] []],fun r=>t7 155 2 t8 r,fun _=>[none],Tryz.func158⟩
def a1W(list:List p7):Option (List p7) :=
 (bif ((list.length:Int)==0) then some [] else (s7 (0<=(list.length:Int)/\(list.length:Int)*16<=140737488355328) ((s7 (list.length=(e8E (list.length:Int).toNat (p7.mk 0 0)).length) (some list)))))
theorem a8x{list}:OK a1N [j9 2 t8 list] (a1W list) :=
 n7 _ fun r h=>n5<|j4 2 h (fun h=>rg<|fE h) (fun h=>rg<|s9 h fun e1 h=>S6 2 7 155 2 16 t8 (p7.mk 0 0) c2l (.none) e1 (by decide) (by rfl)<|rg<|s9 h fun e2 h=>om (r9.row 155 2 (e8E (list.length:Int).toNat (p7.mk 0 0)).length (list.map t8)=l9 155 2 t8 list) (a1M e2)<|s4 (e8E (list.length:Int).toNat (p7.mk 0 0))<|ob e2<|tl (2,{e:=some (l9 155 2 t8 list)})<|rg<|om ((e8E (list.length:Int).toNat (p7.mk 0 0)).length=list.length) (by simp)<|fE h)
def b7d:FS (List n8):=⟨159,Tryz.f159,[.val [some 2] [some 158]],[none],[.val [some 2] []],fun r=>t7 158 2 t9 r,fun _=>[none],Tryz.func159⟩
def a6F(list:List n8):Option (List n8) :=
 (bif ((list.length:Int)==0) then some [] else (s7 (0<=(list.length:Int)/\(list.length:Int)*16<=140737488355328) ((s7 (list.length=(e8E (list.length:Int).toNat (n8.mk 0 0)).length) (some list)))))
theorem c8n{list}:OK b7d [j9 2 t9 list] (a6F list) :=
 n7 _ fun r h=>n5<|j4 2 h (fun h=>rg<|fE h) (fun h=>rg<|s9 h fun e1 h=>S6 2 7 158 2 16 t9 (n8.mk 0 0) b8e (.none) e1 (by decide) (by rfl)<|rg<|s9 h fun e2 h=>om (r9.row 158 2 (e8E (list.length:Int).toNat (n8.mk 0 0)).length (list.map t9)=l9 158 2 t9 list) (a1M e2)<|s4 (e8E (list.length:Int).toNat (n8.mk 0 0))<|ob e2<|tl (2,{e:=some (l9 158 2 t9 list)})<|rg<|om ((e8E (list.length:Int).toNat (n8.mk 0 0)).length=list.length) (by simp)<|fE h)
def c8P:FS (m9):=⟨117,Tryz.f117,[.val M7 []],[none],[.val M7 []],fun r=>.agg (O6 r),fun _=>[none],Tryz.func117⟩
def c1K(r_:m9):Option m9 :=
 ((a1W r_.b5).bind fun read=>((a6F r_.b7).bind fun put=>some (m9.mk read put r_.f0 r_.Code)))
theorem d7r{r_}:OK c8P [.agg (O6 r_)] (c1K r_) :=
 n7 _ fun r h=>n5<|j8 a1N a8x 2 h fun read h=>j8 b7d c8n 5 h fun put h=>B8 read put<|fE h
def a8G:FS (m4):=⟨76,Tryz.f76,[.val I4 []],[none],[.val I4 []],fun r=>.agg (s8 r),fun _=>[none],Tryz.func76⟩
def a5r(e_:m4):Option m4 :=
 ((c1K e_.b8).bind fun c86=>some (m4.mk e_.i8 e_.a0 c86))
theorem b0E{e_}:OK a8G [.agg (s8 e_)] (a5r e_) :=
 n7 _ fun r h=>n5<|j8 c8P d7r 6 h fun c86 h=>fE h
def c6J:FS (List m6):=⟨116,Tryz.f116,[.val [some 8] [some 126]],[none],[.val [some 8] []],fun r=>t7 126 8 o7 r,fun _=>[none],Tryz.func116⟩
def b9t(list:List m6):Option (List m6) :=
 (bif ((list.length:Int)==0) then some [] else (s7 (0<=(list.length:Int)/\(list.length:Int)*96<=140737488355328) ((s7 (list.length=(e8E (list.length:Int).toNat (m6.mk 0 (m4.mk false (p8.mk 0 0) (m9.mk [] [] 0 0)))).length) (some list)))))
theorem d3d{list}:OK c6J [j9 8 o7 list] (b9t list) :=
 n7 _ fun r h=>n5<|j4 2 h (fun h=>rg<|fE h) (fun h=>rg<|s9 h fun e1 h=>S6 2 7 126 8 96 o7 (m6.mk 0 (m4.mk false (p8.mk 0 0) (m9.mk [] [] 0 0))) b2H (.ck S7) e1 (by decide) (by rfl)<|rg<|s9 h fun e2 h=>om (r9.row 126 8 (e8E (list.length:Int).toNat (m6.mk 0 (m4.mk false (p8.mk 0 0) (m9.mk [] [] 0 0)))).length (list.map o7)=l9 126 8 o7 list) (a1M e2)<|s4 (e8E (list.length:Int).toNat (m6.mk 0 (m4.mk false (p8.mk 0 0) (m9.mk [] [] 0 0))))<|ob e2<|tl (2,{e:=some (l9 126 8 o7 list)})<|rg<|om ((e8E (list.length:Int).toNat (m6.mk 0 (m4.mk false (p8.mk 0 0) (m9.mk [] [] 0 0)))).length=list.length) (by simp)<|fE h)
def a2M:FS (List m6):=⟨75,Tryz.f75,[.val [some 8] [some 126]],[none],[.val [some 8] []],fun r=>t7 126 8 o7 r,fun _=>[none],Tryz.func75⟩
def c8q:(List m6)->KS:=fun out1=>⟨a2M.k 4 [false],(bs 3 (.own 1 0 8 0 out1.length::(bs 20 []))),[some [],some [l9 126 8 o7 out1]]⟩
def c8u(out1:List m6):Option (List m6) :=
 some out1
theorem e30(r):NF a2M r c8q (fun s=>c8u s):=fun out1 h=>PK<|rg<|s4 out1<|fE h
def d27(vote:List m6):((List m6)×Int)->KS:=fun (out,v9)=>⟨a2M.k 3 [],(bs 3 (.own 1 0 8 0 out.length::(bs 4 (vi (vote.length:Int)::(vi v9::(bs 14 [])))))),[some [],some [l9 126 8 o7 out]]⟩
def b6m(vote:List m6)(out:List m6)(v9:Int):Option (l7 (List m6) ((List m6)×Int) (List m6)) :=
 (bif decide (v9<(vote.length:Int)) then ((idx out v9).bind fun Q6=>((a5r Q6.i0).bind fun V7=>some (l7.nxt (out.set v9.toNat (m6.mk Q6.a8 V7),m7 (v9+1))))) else some (l7.brk out))
theorem d4C(vote):LQ a2M c8q (d27 vote) (fun s=>b6m vote s.1 s.2):=fun lc (out,v9) h=>PK<|rg<|j4 0 h (fun h=>n5<|A4 h fun Q6 a2P h=>A9 a2P<|G7 o7 6 a2P<|j8 a8G b0E 7 h fun V7 h=>A9 a2P<|N8 126 8 o7 10 I4 (m6.mk Q6.a8 V7) a2P<|rg<|(lc.nx h fun hI=>om ((.own 1 0 8 0 out.length:V)=.own 1 0 8 0 (out.set v9.toNat (m6.mk Q6.a8 V7)).length) (by simp)<|sk [.is (.tmp 3) (.own 1 0 8 0 (out.set v9.toNat (m6.mk Q6.a8 V7)).length)] [3,8,9] [(1,0)] hI)) (fun h=>(lc.bk h fun hI=>sk [] [3] [(1,0)] hI))
def a7w(list:List m6):Option (List m6) :=
 ((b9t list).bind fun vote=>((o9 (fun s:(List m6)×Int=>b6m vote s.1 s.2) (vote,0)).bind fun x=>x.go (fun r=>some r) fun s=>c8u s))
theorem b5P{list}:OK a2M [j9 8 o7 list] (a7w list) :=
 n7 _ fun r h=>n5<|j8 c6J d3d 1 h fun vote h=>rg<|lp (d4C vote) h (fun _ h=>a2M.rt h) (e30 r) fun hI=>sk [] [3,8,9] [(3,0)] hI
def d2r:FS (j7):=⟨71,Tryz.f71,[.val B2 []],[none],[.val B2 []],fun r=>.agg (p9 r),fun _=>[none],Tryz.func71⟩
def b38(m:j7):Option j7 :=
 ((a5r m.i0).bind fun V7=>((a7w m.a5).bind fun Z6=>some (j7.mk m.a7 m.d7 m.To m.a8 m.g7 V7 Z6)))
theorem e4h{m}:OK d2r [.agg (p9 m)] (b38 m) :=
 n7 _ fun r h=>M3<|j8 a8G b0E 2 h fun V7 h=>rg<|j8 a2M b5P 2 h fun Z6 h=>rg<|s4 Z6<|fE h
def a5E:FS (List j7):=⟨32,Tryz.f32,[.val [some 13] [some 68]],[none],[.val [some 13] []],fun r=>t7 68 13 p9 r,fun _=>[none],Tryz.func32⟩
def d13:(List j7)->KS:=fun out1=>⟨a5E.k 4 [false],(bs 3 (.own 1 0 13 0 out1.length::(bs 18 []))),[some [],some [l9 68 13 p9 out1]]⟩
def c8t(out1:List j7):Option (List j7) :=
 some out1
theorem d8z(r):NF a5E r d13 (fun s=>c8t s):=fun out1 h=>PK<|rg<|s4 out1<|fE h
def d66(msg:List j7):((List j7)×Int)->KS:=fun (out,v9)=>⟨a5E.k 3 [],(bs 3 (.own 1 0 13 0 out.length::(bs 4 (vi (msg.length:Int)::(vi v9::(bs 12 [])))))),[some [],some [l9 68 13 p9 out]]⟩
def b5B(msg:List j7)(out:List j7)(v9:Int):Option (l7 (List j7) ((List j7)×Int) (List j7)) :=
 (bif decide (v9<(msg.length:Int)) then ((idx out v9).bind fun b1H=>((b38 b1H).bind fun b2a=>some (l7.nxt (out.set v9.toNat b2a,m7 (v9+1))))) else some (l7.brk out))
theorem d82(msg):LQ a5E d13 (d66 msg) (fun s=>b5B msg s.1 s.2):=fun lc (out,v9) h=>PK<|rg<|j4 0 h (fun h=>n5<|A4 h fun b1H b1c h=>A9 b1c<|G7 p9 5 b1c<|j8 d2r e4h 6 h fun b2a h=>A9 b1c<|N8 68 13 p9 8 B2 b2a b1c<|rg<|(lc.nx h fun hI=>om ((.own 1 0 13 0 out.length:V)=.own 1 0 13 0 (out.set v9.toNat b2a).length) (by simp)<|sk [.is (.tmp 3) (.own 1 0 13 0 (out.set v9.toNat b2a).length)] [3,8,9] [(1,0)] hI)) (fun h=>(lc.bk h fun hI=>sk [] [3] [(1,0)] hI))
def b2Y(list:List j7):Option (List j7) :=
 ((b9B list).bind fun msg=>((o9 (fun s:(List j7)×Int=>b5B msg s.1 s.2) (msg,0)).bind fun x=>x.go (fun r=>some r) fun s=>c8t s))
theorem c4S{list}:OK a5E [j9 13 p9 list] (b2Y list) :=
 n7 _ fun r h=>n5<|j8 c9n e0Y 1 h fun msg h=>rg<|lp (d82 msg) h (fun _ h=>a5E.rt h) (d8z r) fun hI=>sk [] [3,8,9] [(3,0)] hI
def c3E:FS (List u5):=⟨33,Tryz.f33,[.val [some 3] [some 70]],[none],[.val [some 3] []],fun r=>t7 70 3 z8 r,fun _=>[none],Tryz.func33⟩
def b8J(list:List u5):Option (List u5) :=
 (bif ((list.length:Int)==0) then some [] else (s7 (0<=(list.length:Int)/\(list.length:Int)*40<=140737488355328) ((s7 (list.length=(e8E (list.length:Int).toNat (u5.mk (p8.mk 0 0) [])).length) (some list)))))
theorem e2i{list}:OK c3E [j9 3 z8 list] (b8J list) :=
 n7 _ fun r h=>n5<|j4 2 h (fun h=>rg<|fE h) (fun h=>rg<|s9 h fun e1 h=>S6 2 7 70 3 40 z8 (u5.mk (p8.mk 0 0) []) c0l (.ck [none,none,some 4]) e1 (by decide) (by rfl)<|rg<|s9 h fun e2 h=>om (r9.row 70 3 (e8E (list.length:Int).toNat (u5.mk (p8.mk 0 0) [])).length (list.map z8)=l9 70 3 z8 list) (a1M e2)<|s4 (e8E (list.length:Int).toNat (u5.mk (p8.mk 0 0) []))<|ob e2<|tl (2,{e:=some (l9 70 3 z8 list)})<|rg<|om ((e8E (list.length:Int).toNat (u5.mk (p8.mk 0 0) [])).length=list.length) (by simp)<|fE h)
def c2z:FS (List m8):=⟨34,Tryz.f34,[.val [some 5] [some 40]],[none],[.val [some 5] []],fun r=>t7 40 5 u9 r,fun _=>[none],Tryz.func34⟩
def b3y(list:List m8):Option (List m8) :=
 (bif ((list.length:Int)==0) then some [] else (s7 (0<=(list.length:Int)/\(list.length:Int)*40<=140737488355328) ((s7 (list.length=(e8E (list.length:Int).toNat (m8.mk 0 (p8.mk 0 0) 0 0)).length) (some list)))))
theorem c9N{list}:OK c2z [j9 5 u9 list] (b3y list) :=
 n7 _ fun r h=>n5<|j4 2 h (fun h=>rg<|fE h) (fun h=>rg<|s9 h fun e1 h=>S6 2 7 40 5 40 u9 (m8.mk 0 (p8.mk 0 0) 0 0) c1w (.none) e1 (by decide) (by rfl)<|rg<|s9 h fun e2 h=>om (r9.row 40 5 (e8E (list.length:Int).toNat (m8.mk 0 (p8.mk 0 0) 0 0)).length (list.map u9)=l9 40 5 u9 list) (a1M e2)<|s4 (e8E (list.length:Int).toNat (m8.mk 0 (p8.mk 0 0) 0 0))<|ob e2<|tl (2,{e:=some (l9 40 5 u9 list)})<|rg<|om ((e8E (list.length:Int).toNat (m8.mk 0 (p8.mk 0 0) 0 0)).length=list.length) (by simp)<|fE h)
def a6w:FS (v6):=⟨72,Tryz.f72,[.val [none,some 8] [none,some 126]],[none],[.val [none,some 8] []],fun r=>.agg [vi r.i4,t7 126 8 o7 r.a5],fun _=>[none],Tryz.func72⟩
def a4q(a:v6):Option v6 :=
 ((a7w a.a5).bind fun Z6=>some (v6.mk a.i4 Z6))
theorem a9m{a}:OK a6w [.agg (W9 a)] (a4q a) :=
 n7 _ fun r h=>n5<|j8 a2M b5P 4 h fun Z6 h=>s4 Z6<|fE h
def c5U:FS (List m4):=⟨115,Tryz.f115,[.val [some 7] [some 51]],[none],[.val [some 7] []],fun r=>t7 51 7 s8 r,fun _=>[none],Tryz.func115⟩
def b3W(list:List m4):Option (List m4) :=
 (bif ((list.length:Int)==0) then some [] else (s7 (0<=(list.length:Int)/\(list.length:Int)*88<=140737488355328) ((s7 (list.length=(e8E (list.length:Int).toNat (m4.mk false (p8.mk 0 0) (m9.mk [] [] 0 0))).length) (some list)))))
theorem e3E{list}:OK c5U [j9 7 s8 list] (b3W list) :=
 n7 _ fun r h=>n5<|j4 2 h (fun h=>rg<|fE h) (fun h=>rg<|s9 h fun e1 h=>S6 2 7 51 7 88 s8 (m4.mk false (p8.mk 0 0) (m9.mk [] [] 0 0)) b9F (.ck I4) e1 (by decide) (by rfl)<|rg<|s9 h fun e2 h=>om (r9.row 51 7 (e8E (list.length:Int).toNat (m4.mk false (p8.mk 0 0) (m9.mk [] [] 0 0))).length (list.map s8)=l9 51 7 s8 list) (a1M e2)<|s4 (e8E (list.length:Int).toNat (m4.mk false (p8.mk 0 0) (m9.mk [] [] 0 0)))<|ob e2<|tl (2,{e:=some (l9 51 7 s8 list)})<|rg<|om ((e8E (list.length:Int).toNat (m4.mk false (p8.mk 0 0) (m9.mk [] [] 0 0))).length=list.length) (by simp)<|fE h)
def a58:FS (List m4):=⟨73,Tryz.f73,[.val [some 7] [some 51]],[none],[.val [some 7] []],fun r=>t7 51 7 s8 r,fun _=>[none],Tryz.func73⟩
def d1g:(List m4)->KS:=fun out1=>⟨a58.k 4 [false],(bs 3 (.own 1 0 7 0 out1.length::(bs 18 []))),[some [],some [l9 51 7 s8 out1]]⟩
def d2o(out1:List m4):Option (List m4) :=
 some out1
theorem d3N(r):NF a58 r d1g (fun s=>d2o s):=fun out1 h=>PK<|rg<|s4 out1<|fE h
def d3K(entry:List m4):((List m4)×Int)->KS:=fun (out,v9)=>⟨a58.k 3 [],(bs 3 (.own 1 0 7 0 out.length::(bs 4 (vi (entry.length:Int)::(vi v9::(bs 12 [])))))),[some [],some [l9 51 7 s8 out]]⟩
def b2v(entry:List m4)(out:List m4)(v9:Int):Option (l7 (List m4) ((List m4)×Int) (List m4)) :=
 (bif decide (v9<(entry.length:Int)) then ((idx out v9).bind fun b0G=>((a5r b0G).bind fun V7=>some (l7.nxt (out.set v9.toNat V7,m7 (v9+1))))) else some (l7.brk out))
theorem e4v(entry):LQ a58 d1g (d3K entry) (fun s=>b2v entry s.1 s.2):=fun lc (out,v9) h=>PK<|rg<|j4 0 h (fun h=>n5<|A4 h fun b0G b2m h=>A9 b2m<|G7 s8 5 b2m<|j8 a8G b0E 6 h fun V7 h=>A9 b2m<|N8 51 7 s8 8 I4 V7 b2m<|rg<|(lc.nx h fun hI=>om ((.own 1 0 7 0 out.length:V)=.own 1 0 7 0 (out.set v9.toNat V7).length) (by simp)<|sk [.is (.tmp 3) (.own 1 0 7 0 (out.set v9.toNat V7).length)] [3,8,9] [(1,0)] hI)) (fun h=>(lc.bk h fun hI=>sk [] [3] [(1,0)] hI))
def b20(list:List m4):Option (List m4) :=
 ((b3W list).bind fun entry=>((o9 (fun s:(List m4)×Int=>b2v entry s.1 s.2) (entry,0)).bind fun x=>x.go (fun r=>some r) fun s=>d2o s))
theorem c8o{list}:OK a58 [j9 7 s8 list] (b20 list) :=
 n7 _ fun r h=>n5<|j8 c5U e3E 1 h fun entry h=>rg<|lp (e4v entry) h (fun _ h=>a58.rt h) (d3N r) fun hI=>sk [] [3,8,9] [(3,0)] hI
def c2W:FS (List Bool):=⟨74,Tryz.f74,[.val [some 1] [some 4]],[none],[.val [some 1] []],fun r=>t7 4 1 eB r,fun _=>[none],Tryz.func74⟩
def b7x(list:List Bool):Option (List Bool) :=
 (bif ((list.length:Int)==0) then some [] else (s7 (0<=(list.length:Int)/\(list.length:Int)*1<=140737488355328) ((s7 (list.length=(e8E (list.length:Int).toNat false).length) (some list)))))
theorem d0m{list}:OK c2W [j9 1 eB list] (b7x list) :=
 n7 _ fun r h=>n5<|j4 2 h (fun h=>rg<|fE h) (fun h=>rg<|s9 h fun e1 h=>S6 2 7 4 1 1 eB false ti4 (.none) e1 (by decide) (by rfl)<|rg<|s9 h fun e2 h=>om (r9.row 4 1 (e8E (list.length:Int).toNat false).length (list.map eB)=l9 4 1 eB list) (a1M e2)<|s4 (e8E (list.length:Int).toNat false)<|ob e2<|tl (2,{e:=some (l9 4 1 eB list)})<|rg<|om ((e8E (list.length:Int).toNat false).length=list.length) (by simp)<|fE h)
def b3N:FS (List o8):=⟨25,Tryz.f25,[.val [some 4] [some 74]],[none],[.val [some 4] []],fun r=>t7 74 4 z0 r,fun _=>[none],Tryz.func25⟩
def a6h(list:List o8):Option (List o8) :=
 (bif ((list.length:Int)==0) then some [] else (s7 (0<=(list.length:Int)/\(list.length:Int)*32<=140737488355328) ((s7 (list.length=(e8E (list.length:Int).toNat (o8.mk 0 0 0 0)).length) (some list)))))
theorem c1V{list}:OK b3N [j9 4 z0 list] (a6h list) :=
 n7 _ fun r h=>n5<|j4 2 h (fun h=>rg<|fE h) (fun h=>rg<|s9 h fun e1 h=>S6 2 7 74 4 32 z0 (o8.mk 0 0 0 0) b87 (.none) e1 (by decide) (by rfl)<|rg<|s9 h fun e2 h=>om (r9.row 74 4 (e8E (list.length:Int).toNat (o8.mk 0 0 0 0)).length (list.map z0)=l9 74 4 z0 list) (a1M e2)<|s4 (e8E (list.length:Int).toNat (o8.mk 0 0 0 0))<|ob e2<|tl (2,{e:=some (l9 74 4 z0 list)})<|rg<|om ((e8E (list.length:Int).toNat (o8.mk 0 0 0 0)).length=list.length) (by simp)<|fE h)
def b0i:FS (j5):=⟨35,Tryz.f35,[.val A0 om1],[none],[.val A0 []],fun r=>.agg (e1B r),fun _=>[none],Tryz.func35⟩
def a67(n:j5):Option j5 :=
 ((a4q n.Acc).bind fun O7=>((b20 n.a6).bind fun c1u=>((b7x n.d7).bind fun bool=>((a7w n.g9).bind fun Z6=>((a5r n.c8).bind fun V7=>((b7x n.a5).bind fun a9B=>((a6h n.i5).bind fun ins=>((a5r n.b6).bind fun d2E=>((b20 n.d8).bind fun b9P=>some (j5.mk n.Id O7 c1u n.Seq n.d9 n.a8 bool Z6 V7 a9B n.i7 ins d2E b9P))))))))))
theorem b4i{n}:OK b0i [.agg (z9 n)] (a67 n) :=
 n7 _ fun r h=>M3<|j8 a6w a9m 2 h fun O7 h=>rg<|j8 a58 c8o 2 h fun c1u h=>rg<|j8 c2W d0m 2 h fun bool h=>rg<|j8 a2M b5P 2 h fun Z6 h=>rg<|j8 a8G b0E 2 h fun V7 h=>rg<|j8 c2W d0m 2 h fun a9B h=>rg<|j8 b3N c1V 2 h fun ins h=>rg<|j8 a8G b0E 2 h fun d2E h=>rg<|j8 a58 c8o 2 h fun b9P h=>rg<|E9 O7.a5 c1u bool Z6<|U5 a9B ins b9P<|fE h
def T9:FS (m5):=⟨12,Tryz.f12,[.val E2 om2],[none],[.val E2 []],fun r=>.agg (a6u r),fun _=>[none],Tryz.func12⟩
def c94(msgsCopy:List j7)(asked:List u5)(told:List m8):(List j5)->KS:=fun Nodes1=>⟨T9.k 4 [false],(bs 2 (.ptr 1 0 0::(.ptr 2 0 0::(bs 52 [])))),[some [],some [.var 28 [.nil,.nil,.nil,.nil]],some [.var 28 [.own 3 0 27 0 Nodes1.length,.own 4 0 13 0 msgsCopy.length,.own 5 0 3 0 asked.length,.own 6 0 5 0 told.length]],some [l9 53 27 z9 Nodes1],some [l9 68 13 p9 msgsCopy],some [l9 70 3 z8 asked],some [l9 40 5 u9 told]]⟩
def c3t(msgsCopy:List j7)(told:List m8)(Nodes1:List j5):(List u5)->KS:=fun Asked1=>⟨T9.k 6 [false,false],(bs 2 (.ptr 1 0 0::(.ptr 2 0 0::(bs 52 [])))),[some [],some [.var 28 [.nil,.nil,.nil,.nil]],some [.var 28 [.own 3 0 27 0 Nodes1.length,.own 4 0 13 0 msgsCopy.length,.own 5 0 3 0 Asked1.length,.own 6 0 5 0 told.length]],some [l9 53 27 z9 Nodes1],some [l9 68 13 p9 msgsCopy],some [l9 70 3 z8 Asked1],some [l9 40 5 u9 told]]⟩
def c6j(msgsCopy:List j7)(told:List m8)(Nodes1:List j5)(Asked1:List u5):Option m5 :=
 some (m5.mk Nodes1 msgsCopy Asked1 told)
theorem d5W(msgsCopy told Nodes1)(r):NF T9 r (c3t msgsCopy told Nodes1) (fun s=>c6j msgsCopy told Nodes1 s):=fun Asked1 h=>PK<|rg<|E9 Nodes1 msgsCopy Asked1 told<|fE h
def e7F(msgsCopy:List j7)(asked:List u5)(told:List m8)(Nodes1:List j5):((List u5)×Int)->KS:=fun (c9,v39)=>⟨T9.k 5 [false],(bs 2 (.ptr 1 0 0::(.ptr 2 0 0::(bs 34 (vi (asked.length:Int)::(vi v39::(bs 16 []))))))),[some [],some [.var 28 [.nil,.nil,.nil,.nil]],some [.var 28 [.own 3 0 27 0 Nodes1.length,.own 4 0 13 0 msgsCopy.length,.own 5 0 3 0 c9.length,.own 6 0 5 0 told.length]],some [l9 53 27 z9 Nodes1],some [l9 68 13 p9 msgsCopy],some [l9 70 3 z8 c9],some [l9 40 5 u9 told]]⟩
def b3K(asked:List u5)(c9:List u5)(v39:Int):Option (l7 m5 ((List u5)×Int) (List u5)) :=
 (bif decide (v39<(asked.length:Int)) then ((idx c9 v39).bind fun a1T=>((a6h a1T.i5).bind fun ins=>some (l7.nxt (c9.set v39.toNat (u5.mk a1T.a0 ins),m7 (v39+1))))) else some (l7.brk c9))
theorem e21(msgsCopy asked told Nodes1):LQ T9 (c3t msgsCopy told Nodes1) (e7F msgsCopy asked told Nodes1) (fun s=>b3K asked s.1 s.2):=fun lc (c9,v39) h=>PK<|rg<|j4 0 h (fun h=>n5<|A4 h fun a1T a8m h=>A9 a8m<|G7 z8 8 a8m<|j8 b3N c1V 9 h fun ins h=>A9 a8m<|N8 70 3 z8 12 [some 4] (u5.mk a1T.a0 ins) a8m<|s4 ins<|rg<|(lc.nx h fun hI=>om ((.own 5 0 3 0 c9.length:V)=.own 5 0 3 0 (c9.set v39.toNat (u5.mk a1T.a0 ins)).length) (by simp)<|sk [.is (.cell 2 0 2) (.own 5 0 3 0 (c9.set v39.toNat (u5.mk a1T.a0 ins)).length)] [2,3,38,39] [(1,0),(2,0),(3,0),(4,0),(5,0),(6,0)] hI)) (fun h=>(lc.bk h fun hI=>sk [] [2,3] [(1,0),(2,0),(3,0),(4,0),(5,0),(6,0)] hI))
def b9R(msgsCopy:List j7)(asked:List u5)(told:List m8)(Nodes1:List j5):Option m5 :=
 ((o9 (fun s:(List u5)×Int=>b3K asked s.1 s.2) (asked,0)).bind fun x=>x.go (fun r=>some r) fun s=>c6j msgsCopy told Nodes1 s)
theorem e4k(msgsCopy asked told)(r):NF T9 r (c94 msgsCopy asked told) (fun s=>b9R msgsCopy asked told s):=fun Nodes1 h=>PK<|rg<|lp (e21 msgsCopy asked told Nodes1) h (fun _ h=>T9.rt h) (d5W msgsCopy told Nodes1 r) fun hI=>sk [] [2,3,38,39] [(1,0),(2,0),(3,0),(4,0),(5,0),(6,0)] hI
def d6P(node:List j5)(msgsCopy:List j7)(asked:List u5)(told:List m8):((List j5)×Int)->KS:=fun (a9,v22)=>⟨T9.k 3 [],(bs 2 (.ptr 1 0 0::(.ptr 2 0 0::(bs 17 (vi (node.length:Int)::(vi v22::(bs 33 []))))))),[some [],some [.var 28 [.nil,.nil,.nil,.nil]],some [.var 28 [.own 3 0 27 0 a9.length,.own 4 0 13 0 msgsCopy.length,.own 5 0 3 0 asked.length,.own 6 0 5 0 told.length]],some [l9 53 27 z9 a9],some [l9 68 13 p9 msgsCopy],some [l9 70 3 z8 asked],some [l9 40 5 u9 told]]⟩
def b4n(node:List j5)(a9:List j5)(v22:Int):Option (l7 m5 ((List j5)×Int) (List j5)) :=
 (bif decide (v22<(node.length:Int)) then ((idx a9 v22).bind fun a1C=>((a67 a1C).bind fun U3=>some (l7.nxt (a9.set v22.toNat U3,m7 (v22+1))))) else some (l7.brk a9))
theorem e0L(node msgsCopy asked told):LQ T9 (c94 msgsCopy asked told) (d6P node msgsCopy asked told) (fun s=>b4n node s.1 s.2):=fun lc (a9,v22) h=>PK<|rg<|j4 0 h (fun h=>n5<|A4 h fun a1C a3X h=>A9 a3X<|G7 z9 7 a3X<|j8 b0i b4i 8 h fun U3 h=>A9 a3X<|N8 53 27 z9 10 A0 U3 a3X<|H1 U3<|rg<|(lc.nx h fun hI=>om ((.own 3 0 27 0 a9.length:V)=.own 3 0 27 0 (a9.set v22.toNat U3).length) (by simp)<|sk [.is (.cell 2 0 0) (.own 3 0 27 0 (a9.set v22.toNat U3).length)] [2,3,21,22] [(1,0),(2,0),(3,0),(4,0),(5,0),(6,0)] hI)) (fun h=>(lc.bk h fun hI=>sk [] [2,3] [(1,0),(2,0),(3,0),(4,0),(5,0),(6,0)] hI))
def a0O(w:m5):Option m5 :=
 ((c2R w.a9).bind fun node=>((b2Y w.b9).bind fun msgsCopy=>((b8J w.c9).bind fun asked=>((b3y w.Told).bind fun told=>((o9 (fun s:(List j5)×Int=>b4n node s.1 s.2) (node,0)).bind fun x=>x.go (fun r=>some r) fun s=>b9R msgsCopy asked told s)))))
theorem a7h{w}:OK T9 [.agg (a0J w)] (a0O w) :=
 n7 _ fun r h=>n5<|j8 d0Z e4E 2 h fun node h=>j8 a5E c4S 5 h fun msgsCopy h=>j8 c3E e2i 8 h fun asked h=>j8 c2z c9N 11 h fun told h=>rg<|lp (e0L node msgsCopy asked told) h (fun _ h=>T9.rt h) (e4k msgsCopy asked told r) fun hI=>sk [] [2,3,21,22] [(2,0),(16,0),(5,0),(8,0),(11,0),(14,0)] hI
def a6U:FS (m5):=⟨5,Tryz.f5,[.val E2 []],[],[],fun r=>.agg (a0J r),fun _=>[],Tryz.func5⟩
def c6G:(List j5)->KS:=fun Nodes1=>⟨a6U.k 4 [false],(.ptr 1 0 0::(.ptr 2 0 0::(bs 15 []))),[some [],some [.var 28 [.nil,.nil,.nil,.nil]],some [.var 28 [.own 3 0 27 0 Nodes1.length,.nil,.nil,.nil]],some [l9 53 27 z9 Nodes1]]⟩
def c3K(Nodes1:List j5):Option m5 :=
 ((a0O (m5.mk Nodes1 [] [] [])).bind fun F7=>some F7)
theorem e68(r):NF a6U r c6G (fun s=>c3K s):=fun Nodes1 h=>PK<|rg<|j8 T9 a7h 1 h fun F7 h=>s4 Nodes1<|A2 F7<|fE h
def e0e:((List j5)×Int)->KS:=fun (a9,id)=>⟨a6U.k 3 [],(.ptr 1 0 0::(.ptr 2 0 0::(vi id::(bs 14 [])))),[some [],some [.var 28 [.nil,.nil,.nil,.nil]],some [.var 28 [.own 3 0 27 0 a9.length,.nil,.nil,.nil]],some [l9 53 27 z9 a9]]⟩
def a85(a9:List j5)(id:Int):Option (l7 m5 ((List j5)×Int) (List j5)) :=
 (bif decide (id<3) then ((b4A id).bind fun U4=>(s7 ((a9.length+1)*392<=140737488355328) (some (l7.nxt (a9++[U4],m7 (id+1)))))) else some (l7.brk a9))
theorem d6w:LQ a6U c6G e0e (fun s=>a85 s.1 s.2):=fun lc (a9,id) h=>PK<|rg<|j4 1 h (fun h=>rg<|j8 c42 e7s 3 h fun U4 h=>tk 4 A0<|s9 h fun e1 h=>E8 5 11 53 27 392 z9 a9 U4 e1<|D8 U4<|rg<|(lc.nx h fun hI=>sk [] [0,1,2] [(1,0),(2,0),(11,0)] hI)) (fun h=>(lc.bk h fun hI=>sk [] [0,1] [(1,0),(2,0),(3,0)] hI))
def b4I:Option m5 :=
 ((o9 (fun s:(List j5)×Int=>a85 s.1 s.2) ([],0)).bind fun x=>x.go (fun r=>some r) fun s=>c3K s)
theorem e1V:OK a6U [] b4I :=
 n7 _ fun r h=>M3<|lp (d6w) h (fun _ h=>a6U.rt h) (e68 r) fun hI=>sk [.own (.cell 3 0 0) 53 27] [0,1,2] [(1,0),(3,0),(6,0)] hI
end
end Go.Proofs.YtiplopknlhknjaaGreat
