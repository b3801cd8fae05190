/- Abstract values and states of the program, functions of the program and what their calls come to, and what follows from it: part 2 of the text that the law leans on; long names are written short. -/
import Derived.Test.YtcnjppbopdpnjaaGreatP1
import Derived.WideKeyRuns
import Derived.Below
import Derived.Carry
import Derived.ChangeArms
import Derived.Deep.Slices
import Derived.WideShapes
import Derived.Test.YtcnjppbopdpnjaaGreatProg
set_option linter.unusedVariables false
set_option linter.unusedSimpArgs false
set_option linter.unnecessarySimpa false
namespace Go.Proofs.YtcnjppbopdpnjaaGreat
open Go
section
variable {cx:Cx} {Γ:L6} {F:Nat→Prop} {ι:Nat→Nat→Value} {S:St} {a:Act} {w:World}
theorem c5s {t:List V} {D:Nat→Prop} (ht:n5 (RV w F D ι) t a.tmps.toList) : ∀ xs:List Operand,n5 (RV w F D ι) (xs.map (j8 t)) (xs.map a.eval)
  | []=>.nil
  | x::xs=>.cons (A4 ht x) (c5s ht xs)
theorem J0.nodup (h:m3 Γ F ι S a w) {ks:List (Nat×Nat)} {fs:List Nat} (hf:J0 S w ι ks fs):ks.Nodup→fs.Nodup:=by
  induction hf with
  | nil=>exact fun _=>.nil
  | cons id e f ks fs he hl hf hn t ih =>
    intro hnd
    have hn':=List.nodup_cons.1 hnd
    refine List.nodup_append.2 ⟨hn,ih hn'.2,?_⟩
    intro k hk k' hk' hkk
    subst hkk
    obtain ⟨id',hid',e',he',hl',hb'⟩:=t.mem hk'
    obtain ⟨q1,q2⟩:=h.inj _ _ e _ _ e' k he he' hl hl' (hf k hk) hb'
    exact hn'.1 ((Prod.ext q1 q2:id=id')▸hid')
theorem d3o {P:Program} {ob:Oper} {fop:Operand} {args:Array Operand} {tys:Array TypeId} {f:Nat} {fn:Func} (ho:ob.op = .call { callee:=.value fop,args:=args,argTypes:=tys }) (hf:a.eval fop = .func (.func f) #[] #[]) (hfun:P.funcs[f]?=some fn)
    (hname:(fn.name == "runtime.NumGoroutine")=false) (hbody:fn.body.isNone=false):(execOp a.eval ob).run P w = .ok (.enter f (args.map a.eval)) w:=by
  simp only [execOp,ho,resolve,hf,Deferred.ofValue,Sem.run_bind,Sem.run_pure,Result.andThen_ok,invoke,callFunc,program,Sem.run,hfun,hname,hbody]
  simp
theorem d6R (args:Array Operand) (g:Operand→Value):(args.toList.map g).toArray=args.map g:=by rw [← Array.toList_map,Array.toArray_toList]
theorem U9.fill (c:Value) {v:V} (h:U9 v):U9 (U1 c v):=by
  cases v<;>first | exact h | trivial
theorem B9.fillO (o:Option Value) {v:V} (h:B9 v):B9 (E1 o v):=by
  cases o with
  | none=>exact h
  | some c =>
    cases v with
    | agg cs =>
      intro v hv
      obtain ⟨v0,hv0,rfl⟩:=List.mem_map.1 hv
      exact U9.fill c (h v0 hv0)
    | _=>exact h
set_option maxHeartbeats 1000000 in
theorem c5V (h:m3 Γ F ι S a w) {grp:Nat} (hg:grp<S.h.length) (hn : ¬ S.D grp) (dst:Option Nat) {f:Nat} {P:Program} {vs:List V} {cargs:List Value} (o:Option Value) (hall:n5 (RV w F S.D ι) (vs.map (E1 o)) cargs) {ms:List PM} {fr:Bool} {res:V} {outs:List (Option V)} {p:List V→Prop} {out:t7} {lg:List (Nat×Nat)}
    (hp:a5u grp vs ms fr res outs p S.ent=some (out,lg)) (hpa : ∀ v,p v→l8 P f (v.map (E1 o)) (E1 o res) outs) (hob : ∀ p∈out.obl,p) :
    b56 P f∧Calls P f cargs.toArray w fun e w' => ∃ c F' ι',e = .returned c∧m3 Γ F' ι' (S.apply grp dst { out with v:=E1 o out.v }) (a.put dst c) w'∧(∀ g,S.D g→(S.apply grp dst { out with v:=E1 o out.v }).D g)∧(∀ g j,S.D g→ι' g j=ι g j)∧RV w' F' (S.apply grp dst { out with v:=E1 o out.v }).D ι' (E1 o out.v) c:=by
  unfold a5u at hp
  obtain ⟨r0,l1,l2,hargs0,hp1,hl12⟩:=a5.bind_some hp
  clear hp
  obtain ⟨fz,l3,l4,hfz,hp2,hl34⟩:=a5.bind_some hp1
  clear hp1
  simp only at hp2
  cases hous:P7 grp (F9 grp 0 res).2.length ms vs outs with
  | none=>rw [hous] at hp2; cases hp2
  | some ue =>
  obtain ⟨us,es⟩:=ue
  rw [hous] at hp2
  simp only at hp2
  split at hp2<;>try (cases hp2; done)
  rename_i hcond
  have:=a5.pure_some hp2
  injection this with h2 h3
  subst h2
  clear hp2
  have hac0:p r0.v:=hob _ (by simp)
  have hac1:=hpa _ hac0
  have hsc0:fr=true→B9 res∧H1 outs:=fun q=>hob _ (by simp [q])
  have hrobl0 : ∀ p∈r0.obl,p:=fun p hp=>hob p (by simp; exact .inr (.inr hp))
  have hargs:=d7G o hargs0
  have hous:P7 grp (F9 grp 0 res).2.length ms (vs.map (E1 o)) outs=some (us,es):=by rw [d2v]; exact hous
  have hth:=d4y o grp 0 res
  clear hargs0
  have hrv0:r0.v.map (E1 o)=({ r0 with v:=r0.v.map (E1 o) }:AR (List V)).v:=rfl
  generalize hr:({ r0 with v:=r0.v.map (E1 o) }:AR (List V))=r at hargs hrv0
  have hks:r0.ks=r.ks:=by rw [← hr]
  have hlsq:r0.ls=r.ls:=by rw [← hr]
  have hoblq:r0.obl=r.obl:=by rw [← hr]
  rw [hrv0] at hac1
  rw [hks,hlsq] at hcond
  rw [hlsq] at hfz
  rw [hoblq] at hrobl0
  simp only [hks,hlsq]
  have hth1:E1 o (F9 grp 0 res).1=(F9 grp 0 (E1 o res)).1:=by rw [hth]
  have hth2:(F9 grp 0 res).2=(F9 grp 0 (E1 o res)).2:=by rw [hth]
  rw [hth1,hth2]
  rw [hth2] at hous
  have hsc:fr=true→B9 (E1 o res)∧H1 outs:=fun q=>⟨(hsc0 q).1.fillO o,(hsc0 q).2⟩
  generalize E1 o res=res at *
  simp only [Bool.and_eq_true] at hcond
  obtain ⟨⟨⟨hnk,hdis⟩,hnu⟩,husk⟩:=hcond
  have hnk':=a3w hnk
  have hnu':=a3w hnu
  have hdis' : ∀ id∈r.ls,id ∉ r.ks:=by
    intro id hid q
    have:=List.all_eq_true.1 hdis id hid
    rw [a4N.2 q] at this
    cases this
  have husk' : ∀ u∈us,u.1∈r.ks:=fun u hu=>a4N.1 (List.all_eq_true.1 husk u hu)
  have hrobl:=hrobl0
  obtain ⟨hcallable,hac⟩:=hac1
  refine ⟨hcallable,?_⟩
  let F1:Nat→Prop:=fun k=>F k ∨ ∃ id∈r.ls,∃ e,S.ent id.1 id.2=some e∧EB w e (ι id.1 id.2) k
  have hF1 : ∀ k,F k→F1 k:=fun k x=>.inl x
  obtain ⟨fp,hbs,hfps,hhk,hhl⟩:=c6k (F1:=F1) h hF1 hall hargs hrobl (fun id hid e k he hk=>.inr ⟨id,hid,e,he,hk⟩)
  have hrw:=d9m h hall hargs hrobl
  have hfpn:=J0.nodup h hfps hnk'
  have hfp : ∀ k∈fp,∃ id∈r.ks,∃ e,S.ent id.1 id.2=some e∧e.live=true∧EB w e (ι id.1 id.2) k:=fun k hk=>hfps.mem hk
  have hF1lt : ∀ k,F1 k→k<w.heap.size:=by
    rintro k (x | ⟨id,hid,e,he,hb⟩)
    · exact h.F1 k x
    · obtain ⟨e',he',hl'⟩:=hhl id hid
      have:e=e':=by rw [he] at he'; injection he'
      subst this
      exact h.lt he hl' hb
  have hfpF1 : ∀ k∈fp,¬ F1 k∧k<w.heap.size:=by
    intro k hk
    obtain ⟨id,hid,e,he,hl,hb⟩:=hfp k hk
    refine ⟨?_,h.lt he hl hb⟩
    rintro (x | ⟨id',hid',e0,he0,hb'⟩)
    · exact (h.sep _ _ e k he hl hb).1 x
    · obtain ⟨e',he',hl'⟩:=hhl id' hid'
      have:e0=e':=by rw [he0] at he'; injection he'
      subst this
      obtain ⟨q1,q2⟩:=h.inj _ _ e _ _ _ k he he' hl hl' hb hb'
      have:id=id':=Prod.ext q1 q2
      exact hdis' id' hid' (this▸hid)
  have hcalls:=hac w F1 _ _ hbs hfpn hfpF1 hF1lt
  refine hcalls.mono ?_
  rintro e w' ⟨c,F',fr',fo,rfl,hkept,hFF,hF'1,hres,hout,hnod,hblk⟩
  obtain ⟨F2,hF2,hF2',ls,hls,hres2,hout2,hblk2,hfzls,hF2lt,hlsF⟩ : ∃ F2:Nat→Prop,(∀ k,F k→F2 k)∧(∀ k,F2 k→F' k) ∧ ∃ ls:List (Nat×Nat),ls=(if fr then [] else dd r.ls)∧BR w' F2 res c fr'∧BO w' F2 outs cargs fo∧(∀ k∈fr'++fo,¬ F2 k) ∧
      (∀ u∈fz,(∃ e sz n rows,S.ent u.1.1 u.1.2=some (.row e sz n rows)∧u.2 = .frz sz n rows ∧ ∀ k,t9 (ι u.1.1 u.1.2)=some k→F2 k)∨u.2 = .dead)∧(∀ k,F2 k→k<w'.heap.size)∧(∀ k,F2 k→F k∨(∃ id∈ls,∃ e,S.ent id.1 id.2=some e∧EB w e (ι id.1 id.2) k)∨k∈fp∨w.heap.size≤k):=by
    cases fr with
    | true =>
      refine ⟨F,fun _ x=>x,fun k x=>hFF k (hF1 k x),[],rfl,hres.scal (hsc rfl).1,hout.scal (hsc rfl).2,fun k hk x=>(hblk k hk).1 (hFF k (hF1 k x)),?_,fun k x=>Nat.lt_of_lt_of_le (h.F1 k x) hkept.size,fun k x=>.inl x⟩
      have hq:fz=[]:=by
        have hf':a3i [] S.ent=some (fz,l3):=by simpa using hfz
        have:=a5.pure_some hf'
        injection this
      rw [hq]; simp
    | false =>
      refine ⟨F',fun k x=>hFF k (hF1 k x),fun _ x=>x,dd r.ls,rfl,hres,hout,fun k hk=>(hblk k hk).1,?_,fun k x=>(hF'1 k x).2,?_⟩
      · have hf':a3i (dd r.ls) S.ent=some (fz,l3):=by simpa using hfz
        obtain ⟨e1,e2⟩:=b3n hf'
        intro u hu
        rcases e2 u hu with ⟨e,sz,n,rows,he,hu2⟩ | hu2
        case inr=>exact .inr hu2
        refine .inl ⟨e,sz,n,rows,he,hu2,fun k hk=>hFF k (.inr ⟨u.1,?_,_,he,hk⟩)⟩
        have:u.1∈fz.map (·.1):=List.mem_map.2 ⟨u,hu,rfl⟩
        rw [e1] at this
        exact a7y.1 this
      · intro k x
        rcases (hF'1 k x).1 with (y | ⟨id,hid,e,he,hb⟩) | y | y
        · exact .inl y
        · exact .inr (.inl ⟨id,a7y.2 hid,e,he,hb⟩)
        · exact .inr (.inr (.inl y))
        · exact .inr (.inr (.inr y))
  have hfzids:fz.map (·.1)=ls:=by rw [hls]; exact (b3n hfz).1
  have hlsr : ∀ id∈ls,id∈r.ls:=by
    intro id hid
    rw [hls] at hid
    cases fr with
    | true=>simp at hid
    | false=>exact a7y.1 (by simpa using hid)
  have hlsn:ls.Nodup:=by
    rw [hls]
    cases fr with
    | true=>exact .nil
    | false=>exact b75 _
  have hlsk : ∀ id∈ls,id ∉ r.ks:=fun id hid=>hdis' id (hlsr id hid)
  have hkall : ∀ id∈r.ks++ls,∃ e,S.ent id.1 id.2=some e:=by
    intro id hid
    rcases List.mem_append.1 hid with q | q
    · obtain ⟨e,he,_⟩:=hhk id q
      exact ⟨e,he⟩
    · obtain ⟨e,he,_⟩:=hhl id (hlsr id q)
      exact ⟨_,he⟩
  have hS1:=h.killAll (r.ks++ls) hkall
  have hlive1 : ∀ g j e,(S.upds (C5 (r.ks++ls))).ent g j=some e→e.live=true→(g,j) ∉ r.ks++ls∧S.ent g j=some e:=by
    intro g j e he hl
    rcases a6C _ he with ⟨_,rfl⟩ | q
    · cases hl
    · exact q
  have hfpfree : ∀ k∈fp,∀ g j e,(S.upds (C5 (r.ks++ls))).ent g j=some e→e.live=true → ¬ EB w e (ι g j) k:=by
    intro k hk g j e he hl hb
    obtain ⟨q1,q2⟩:=hlive1 g j e he hl
    obtain ⟨id,hid,e',he',hl',hb'⟩:=hfp k hk
    obtain ⟨z1,z2⟩:=h.inj _ _ e _ _ e' k q2 he' hl hl' hb hb'
    exact q1 (List.mem_append.2 (.inl (by rw [show (g,j)=id from Prod.ext z1 z2]; exact hid)))
  have hS2:=hS1.world3 hkept (fun k hk=>by
    obtain ⟨id,hid,e',he',hl',hb'⟩:=hfp k hk
    obtain ⟨z1,z2⟩:=h.sep _ _ e' k he' hl' hb'
    exact ⟨z1,z2,hfpfree k hk⟩)
  have hback : ∀ g j e,(S.upds (C5 (r.ks++ls))).ent g j=some e→e.live=true → ∀ k,EB w' e (ι g j) k→EB w e (ι g j) k:=by
    intro g j e he hl k hk
    exact (hS1.ents g j e he).back (fun k hk=>hkept.block k (hS1.lt he hl hk) fun z=>hfpfree k z g j e he hl hk) hk
  have hS3:=hS2.grow (F':=F2) hF2 hF2lt (fun k x=>by
      rcases hlsF k x with y | ⟨id,hid,e,he,hb⟩ | y | y
      · exact h.F2 k y
      · obtain ⟨e',he',hl'⟩:=hhl id (hlsr id hid)
        have:e=e':=by rw [he] at he'; injection he'
        subst this
        exact .inr (h.sep _ _ _ k he hl' hb).2
      · obtain ⟨id,hid,e',he',hl',hb'⟩:=hfp k y
        exact .inr (h.sep _ _ e' k he' hl' hb').2
      · exact .inr (.inr (Nat.le_trans h.kept.size y)))
    (fun g j e k he hl hb0 x=>by
      have hb:=hback g j e he hl k hb0
      obtain ⟨q1,q2⟩:=hlive1 g j e he hl
      rcases hlsF k x with y | ⟨id,hid,e',he',hb'⟩ | y | y
      · exact (h.sep g j e k q2 hl hb).1 y
      · obtain ⟨e2,he2,hl2⟩:=hhl id (hlsr id hid)
        have:e'=e2:=by rw [he'] at he2; injection he2
        subst this
        obtain ⟨z1,z2⟩:=h.inj _ _ e _ _ _ k q2 he' hl hl2 hb hb'
        exact q1 (List.mem_append.2 (.inr (by rw [show (g,j)=id from Prod.ext z1 z2]; exact hid)))
      · exact hfpfree k y g j e he hl hb
      · have:=h.lt q2 hl hb
        omega)
  obtain ⟨b1,hb1l,hb1f,hb1⟩:=d8v (grp:=grp) hres2 0
  obtain ⟨b2,fu,fb,hb2l,hb2p,hb2u,hb2b,hb2d,hb2⟩:=d71 hall (w':=w') (F':=F2) (grp:=grp) (j:=(F9 grp 0 res).2.length) hrw hout2 hous
  obtain ⟨ι',hι'⟩ : ∃ ι',ι'=a3O ι grp (b1++b2):=⟨_,rfl⟩
  have hι'ne : ∀ g j,g≠grp→ι' g j=ι g j:=fun g j q=>by rw [hι']; exact b6x q
  have hat:At ι' grp 0 (b1++b2):=by
    intro k b hb
    rw [hι',Nat.zero_add]
    exact a3e hb
  have hlenS:grp<(S.upds (C5 (r.ks++ls))).h.length:=by rw [St.upds_len]; exact hg
  have hnD : ¬ (S.upds (C5 (r.ks++ls))).D grp:=fun q=>hn ((Z4 S grp _).1 q)
  have hDg:=a0e (S:=S.upds (C5 (r.ks++ls))) (new:=(F9 grp 0 res).2++es) hlenS
  have hperm:(fr'++fo).Perm (fr'++(fu++fb)):=List.Perm.append_left _ hb2p
  have hnod':=hperm.nodup_iff.1 hnod
  have hnodA:=List.nodup_append.1 hnod
  obtain ⟨hrv,hlie1⟩:=hb1 ((S.upds (C5 (r.ks++ls))).lay grp ((F9 grp 0 res).2++es)).D ι' hDg hat.left hnodA.1
  obtain ⟨hlie2,hre2⟩:=hb2 ((S.upds (C5 (r.ks++ls))).lay grp ((F9 grp 0 res).2++es)).D ι' hDg (by have:=hat.right; rw [Nat.zero_add,hb1l] at this; exact this) hnodA.2.1
  have hlie:=hlie1.append hlie2 hb1l.symm
  have hlenb:(b1++b2).length=((F9 grp 0 res).2++es).length:=by simp [hb1l,hb2l]
  have hblk' : ∀ k,k∈fr'∨k∈fu∨k∈fb → ¬ F2 k∧(k∈fp∨w.heap.size≤k):=by
    intro k hk
    have hm:k∈fr'++fo:=hperm.mem_iff.2 (by simp only [List.mem_append]; rcases hk with q | q | q<;>simp [q])
    exact ⟨hblk2 k hm,(hblk k hm).2.1⟩
  have hsepk : ∀ k,(k∈fp∨w.heap.size≤k)→Γ.own k∨Γ.w0.heap.size≤k:=by
    rintro k (q | q)
    · obtain ⟨id,hid,e',he',hl',hb'⟩:=hfp k q
      exact (h.sep _ _ e' k he' hl' hb').2
    · exact .inr (Nat.le_trans h.kept.size q)
  have hfreek : ∀ k,(k∈fp∨w.heap.size≤k) → ∀ g j e,(S.upds (C5 (r.ks++ls))).ent g j=some e→e.live=true → ¬ EB w' e (ι g j) k:=by
    rintro k hkk g j e he hl hb0
    have hb:=hback g j e he hl k hb0
    rcases hkk with q | q
    · exact hfpfree k q g j e he hl hb
    · obtain ⟨_,q2⟩:=hlive1 g j e he hl
      have:=h.lt q2 hl hb
      omega
  have hHas:E8 w' ((F9 grp 0 res).2++es) (b1++b2) (fr'++fb):=hb1f.append hb2b hb1l
  have hnodb:(fr'++fb).Nodup:=List.Nodup.sublist (List.Sublist.append_left (List.sublist_append_right _ _) _) hnod'
  have hvb : ∀ (j:Nat) (e:l7),((F9 grp 0 res).2++es)[j]?=some e→(b1++b2)[j]?=some (ι' grp j):=by
    intro j e he
    have hj:j<(b1++b2).length:=by rw [hlenb]; exact (List.getElem?_eq_some_iff.1 he).1
    have hv:ι' grp j=(b1++b2)[j]:=by rw [hι']; exact a3e (List.getElem?_eq_getElem hj)
    rw [hv]
    exact List.getElem?_eq_getElem hj
  have hmemb : ∀ (j:Nat) (e:l7) (k:Nat),((F9 grp 0 res).2++es)[j]?=some e→EB w' e (ι' grp j) k→k∈fr'∨k∈fb :=
    fun j e k he hk=>List.mem_append.1 (hHas.mem he (hvb j e he) hk)
  have hS4:=hS3.lay (grp:=grp) hlenS hnD (new:=(F9 grp 0 res).2++es) (ι':=ι') hι'ne
    (fun j e he=>hlie j e _ he (hvb j e he))
    (fun j e k he hl hk=>by
      have:=hblk' k ((hmemb j e k he hk).imp id .inr)
      exact ⟨this.1,hsepk k this.2⟩)
    (fun j e j' e' k he he' hl hl' hk hk'=>hHas.inj hnodb he (hvb j e he) hk he' (hvb j' e' he') hk')
    (fun j e g' j' e' k he he' hl hl' hk hk'=>by
      have:=hblk' k ((hmemb j e k he hk).imp id .inr)
      exact hfreek k this.2 g' j' e' he' hl' hk')
  have hgne : ∀ id∈r.ks++ls,id.1≠grp:=by
    intro id hid q
    obtain ⟨e,he⟩:=hkall id hid
    exact hn (q▸St.D_of_ent he)
  have huids : ∀ u∈fz++us,u.1∈r.ks++ls:=by
    intro u hu
    rcases List.mem_append.1 hu with q | q
    · exact List.mem_append.2 (.inr (hfzids▸List.mem_map.2 ⟨u,q,rfl⟩))
    · exact List.mem_append.2 (.inl (husk' u q))
  have hugne : ∀ u∈fz++us,u.1.1≠grp:=fun u hu=>hgne _ (huids u hu)
  have hlay:=a8F (grp:=grp) (new:=(F9 grp 0 res).2++es) (fz++us) (S.upds (C5 (r.ks++ls))) hugne
  have hS5:=hS4.reviveAll (fz++us) (by
      rw [List.map_append,hfzids]
      refine List.nodup_append.2 ⟨hlsn,hnu',?_⟩
      intro x hx y hy hxy
      subst hxy
      obtain ⟨u,hu,rfl⟩:=List.mem_map.1 hy
      exact hlsk _ hx (husk' u hu))
    (fun u hu=>by
      rw [a6g (hugne u hu)]
      exact c5r (huids u hu) (hkall _ (huids u hu)))
    (fun u hu=>by
      rw [hι'ne _ _ (hugne u hu)]
      rcases List.mem_append.1 hu with q | q
      · rcases hfzls u q with ⟨e,sz,n,rows,he,hu2,hb⟩ | hu2
        case inr=>rw [hu2]; trivial
        rw [hu2]
        have hfv:=OR.fv (F1:=fun k=>F k∨t9 (ι u.1.1 u.1.2)=some k) (fun k x=>.inl x) (fun k x=>.inr x) (h.ents _ _ _ he)
        have hs:F6 w w' fun k=>F k∨t9 (ι u.1.1 u.1.2)=some k:=a0Y fun k hk=>by
          have hF1k:F1 k:=by
            rcases hk with x | x
            · exact .inl x
            · exact .inr ⟨u.1,hlsr _ (hfzids▸List.mem_map.2 ⟨u,q,rfl⟩),_,he,x⟩
          exact hkept.block k (hF1lt k hF1k) fun z=>(hfpF1 k z).1 hF1k
        exact hfv.mono hs fun k x=>x.elim (hF2 k) (hb k)
      · exact hre2 u q)
    (fun u hu hl k hk=>by
      rw [hι'ne _ _ (hugne u hu)] at hk
      rcases List.mem_append.1 hu with q | q
      · rcases hfzls u q with ⟨e,sz,n,rows,he,hu2,hb⟩ | hu2<;>(rw [hu2] at hl; cases hl)
      · obtain ⟨i,hi⟩:=List.getElem?_of_mem q
        have hkm:k∈fu:=hb2u.mem (i:=i) (by rw [List.getElem?_map,hi]; rfl) (by rw [List.getElem?_map,hi]; rfl) hk
        have hb:=hblk' k (.inr (.inl hkm))
        refine ⟨⟨hb.1,hsepk k hb.2⟩,?_⟩
        intro g' j' e he hle hk'
        by_cases qg:g'=grp
        · subst qg
          rw [c5B hlenS] at he
          have hdj:=List.nodup_append.1 hnod'
          have hdj2:=List.nodup_append.1 hdj.2.1
          rcases hmemb j' e k he hk' with z | z
          · exact hdj.2.2 k z k (List.mem_append.2 (.inl hkm)) rfl
          · exact hdj2.2.2 k hkm k z rfl
        · rw [a6g qg] at he
          rw [hι'ne _ _ qg] at hk'
          exact hfreek k hb.2 g' j' e he hle hk')
    (fun u hu v hv k hl hl' hk hk'=>by
      rw [hι'ne _ _ (hugne u hu)] at hk
      rw [hι'ne _ _ (hugne v hv)] at hk'
      have usof : ∀ x∈fz++us,x.2.live=true→x∈us:=by
        intro x hx hxl
        rcases List.mem_append.1 hx with q | q
        · rcases hfzls x q with ⟨e,sz,n,rows,he,hu2,hb⟩ | hu2<;>(rw [hu2] at hxl; cases hxl)
        · exact q
      obtain ⟨i,hi⟩:=List.getElem?_of_mem (usof u hu hl)
      obtain ⟨i',hi'⟩:=List.getElem?_of_mem (usof v hv hl')
      have hnu2:fu.Nodup:=(List.nodup_append.1 (List.nodup_append.1 hnod').2.1).1
      have:=hb2u.inj hnu2 (i:=i) (j:=i') (by rw [List.getElem?_map,hi]; rfl) (by rw [List.getElem?_map,hi]; rfl) hk (by rw [List.getElem?_map,hi']; rfl) (by rw [List.getElem?_map,hi']; rfl) hk'
      subst this
      rw [hi] at hi'
      injection hi' with hi'
      rw [hi'])
  have hrv':RV w' F2 (((S.upds (C5 (r.ks++ls))).lay grp ((F9 grp 0 res).2++es)).upds (fz++us)).D ι' (F9 grp 0 res).1 c :=
    hrv.mono (fun _ _ _=>rfl) (fun _ x=>x) (fun k x=>(Z4 _ k _).2 x) (fun _ _ _=>rfl)
  have hput:=hS5.put dst hrv'
  rw [← hlay] at hput hrv'
  have happ : ∀ (v:V) (ob:List Prop),S.apply grp dst { v:=v,new:=some ((F9 grp 0 res).2++es),upd:=C5 (r.ks++if fr=true then [] else dd r.ls)++(fz++us),obl:=ob }={ ((S.upds (C5 (r.ks++ls))).upds (fz++us)).lay grp ((F9 grp 0 res).2++es) with t:=Q5 (((S.upds (C5 (r.ks++ls))).upds (fz++us)).lay grp ((F9 grp 0 res).2++es)).t dst v }:=by
    intro v ob
    simp only [St.apply,St.upds_append,hls]
  have hDD : ∀ g,S.D g→(((S.upds (C5 (r.ks++ls))).upds (fz++us)).lay grp ((F9 grp 0 res).2++es)).D g:=by
    intro g hgD
    have hne:g≠grp:=fun q=>hn (q▸hgD)
    have h1:((S.upds (C5 (r.ks++ls))).upds (fz++us)).D g:=(Z4 _ g _).2 ((Z4 _ g _).2 hgD)
    exact b1J h1
  refine ⟨c,F2,ι',rfl,?_⟩
  rw [happ]
  exact ⟨hput,hDD,fun g j hgD=>hι'ne g j fun q=>hn (q▸hgD),hrv'⟩
theorem n5.map_imp {α β γ δ:Type} {R:γ→β→Prop} {R':δ→β→Prop} {f:α→γ} {g:α→δ} (h : ∀ a b,R (f a) b→R' (g a) b) : ∀ {t8:List α} {bs:List β},n5 R (t8.map f) bs→n5 R' (t8.map g) bs
  | [],_,.nil=>.nil
  | a::t8,_,.cons hx t=>.cons (h _ _ hx) (n5.map_imp h t)
theorem RV.nofill {D:Nat→Prop} {v:V} {x:Value} (h:RV w F D ι v x) (c:Value):X9 c v=v:=by
  have hc : ∀ {v:V} {x:Value},RC w F D ι v x→U1 c v=v:=by
    intro v x h
    refine a8S ?_
    rintro rfl
    cases h with
    | fv v c h=>cases h
  cases h with
  | one v x h =>
    cases h with
    | cell v x h =>
      refine b0w ?_
      rintro cs rfl
      cases h with | fv v c h=>cases h
    | agg cs ds h =>
      show V.agg (cs.map (U1 c))=_
      congr 1
      induction h with
      | nil=>rfl
      | cons h t ih=>rw [List.map_cons,hc h,ih]
  | tup=>rfl
  | any=>rfl
theorem d0a (h:m3 Γ F ι S a w) {grp:Nat} (hg:grp<S.h.length) (hn : ¬ S.D grp) {ob:Oper} {fop:Operand} {args:Array Operand} {tys:Array TypeId} {f:Nat} (ho:ob.op = .call { callee:=.value fop,args:=args,argTypes:=tys }) (hf:j8 S.t fop = .fn f) {A:M6} {out:t7} {lg:List (Nat×Nat)}
    (hp:a9a cx.P grp f (args.toList.map (j8 S.t)) A S.ent=some (out,lg)) (hob : ∀ p∈out.obl,p) :
    (execOp a.eval ob).run cx.P w = .ok (.enter f (args.map a.eval)) w∧Calls cx.P f (args.map a.eval) w fun e w' => ∃ c F' ι',e = .returned c∧m3 Γ F' ι' (S.apply grp ob.dst out) (a.put ob.dst c) w':=by
  have hfn:=A4 h.tmps fop
  rw [hf] at hfn
  have hall:=c5s h.tmps args.toList
  have hargsEq:(args.toList.map a.eval).toArray=args.map a.eval:=d6R args a.eval
  have hrun:b56 cx.P f→(execOp a.eval ob).run cx.P w = .ok (.enter f (args.map a.eval)) w:=fun ⟨fn,hfun,hname,hbody⟩=>d3o ho hfn.inv_fn hfun hname hbody
  cases A<;>try (cases hp; done)
  case call ms fr res outs =>
    have hp:a5u grp (args.toList.map (j8 S.t)) ms fr res outs (fun v=>l8 cx.P f v res outs) S.ent=some (out,lg):=hp
    have hall':n5 (RV w F S.D ι) ((args.toList.map (j8 S.t)).map (E1 none)) (args.toList.map a.eval):=by
      rw [show (E1 none)=id from rfl,List.map_id]; exact hall
    obtain ⟨h1,h2⟩:=c5V (P:=cx.P) (f:=f) h hg hn ob.dst none hall' hp (fun v q=>by rw [show (E1 none)=id from rfl,List.map_id]; exact q) hob
    rw [hargsEq] at h2
    refine ⟨hrun h1,h2.mono ?_⟩
    rintro e w' ⟨c,F',ι',he,hr,_⟩
    exact ⟨c,F',ι',he,hr⟩
  case callr k q ms fr res outs =>
    unfold a9a at hp
    simp only at hp
    cases hk:(args.toList.map (j8 S.t))[k]? with
    | none=>rw [hk] at hp; cases hp
    | some ak =>
    rw [hk] at hp
    cases ak<;>try (cases hp; done)
    rename_i cs
    simp only at hp
    cases hq:cs[q]? with
    | none=>rw [hq] at hp; cases hp
    | some cq =>
    rw [hq] at hp
    cases cq<;>try (cases hp; done)
    rename_i g j sz lo n
    cases lo with
    | succ x=>cases hp
    | zero =>
    simp only at hp
    obtain ⟨o,l1,l2,hcg,hp2,_⟩:=a5.bind_some hp
    have:=a5.pure_some hp2
    injection this with e1 e2
    have e1:out=_:=e1
    subst e1
    obtain ⟨x,hx,hxr⟩:=hall.get hk
    obtain ⟨ds,rfl,hds⟩:=hxr.inv_agg
    obtain ⟨c0,hc0,hown⟩:=hds.get hq
    have hall':n5 (RV w F S.D ι) (((args.toList.map (j8 S.t)).set k (.agg (cs.set q .hole))).map (E1 (some c0))) (args.toList.map a.eval):=by
      have hmap:((args.toList.map (j8 S.t)).set k (.agg (cs.set q .hole))).map (E1 (some c0))=(args.toList.map (j8 S.t)).set k (.agg (cs.set q (.raw c0))):=by
        rw [List.map_set]
        have h1:(args.toList.map (j8 S.t)).map (E1 (some c0))=args.toList.map (j8 S.t):=by
          have : ∀ {vs:List V} {xs:List Value},n5 (RV w F S.D ι) vs xs→vs.map (E1 (some c0))=vs:=by
            intro vs xs h
            induction h with
            | nil=>rfl
            | cons h t ih=>rw [List.map_cons,ih,show E1 (some c0) _=X9 c0 _ from rfl,h.nofill c0]
          exact this hall
        have h2:E1 (some c0) (.agg (cs.set q .hole)) = .agg (cs.set q (.raw c0)):=by
          show V.agg ((cs.set q .hole).map (U1 c0))=_
          rw [List.map_set]
          have h3:cs.map (U1 c0)=cs:=by
            have:=hxr.nofill c0
            injection this
          rw [h3]; rfl
        rw [h1,h2]
      rw [hmap]
      have hset:=hall.set k (a:=.agg (cs.set q (.raw c0))) (b:=.agg ds.toArray) (.one _ _ (.agg _ _ (by
        have:=hds.set q (a:=.raw c0) (b:=c0) (.fv _ _ (.raw c0 hown.one))
        rwa [show ds.set q c0=ds from a0E hc0] at this)))
      rwa [show (args.toList.map a.eval).set k (.agg ds.toArray)=args.toList.map a.eval from a0E hx] at hset
    obtain ⟨h1,h2⟩:=c5V (P:=cx.P) (f:=f) h hg hn ob.dst (some c0) hall' hcg (fun v q=>q c0) (fun p hp=>hob p hp)
    rw [hargsEq] at h2
    refine ⟨hrun h1,h2.mono ?_⟩
    rintro e w' ⟨c,F',ι',he,hr,hD,hι,hv⟩
    refine ⟨c,F',ι',he,?_⟩
    have hown':RC w' F' (S.apply grp ob.dst { o with v:=E1 (some c0) o.v }).D ι' (.own g j sz 0 n) c0:=by
      clear hr hv
      revert hD hι
      generalize (S.apply grp ob.dst { o with v:=E1 (some c0) o.v }).D=D'
      intro hD hι
      cases hown with
      | fv v c h=>cases h
      | own g j sz lo n b nn cap hD0 k1 k2 k3 k4=>exact .own g j sz 0 n b nn cap (hD _ hD0) (by rw [hι _ _ hD0]; exact k1) k2 k3 k4
      | own0 g j sz lo b cap hD0 k1=>omega
    have hplug : ∀ {v:V} {x:Value},RC w' F' (S.apply grp ob.dst { o with v:=E1 (some c0) o.v }).D ι' (U1 c0 v) x→RC w' F' (S.apply grp ob.dst { o with v:=E1 (some c0) o.v }).D ι' (b7c (.own g j sz 0 n) v) x:=by
      intro v x h
      by_cases hv:v = .hole
      · subst hv
        cases h with
        | fv v c h=>cases h; exact hown'
      · rw [a8S hv] at h
        have:b7c (.own g j sz 0 n) v=v:=by cases v<;>first | rfl | exact absurd rfl hv
        rw [this]; exact h
    have hv':RV w' F' (S.apply grp ob.dst { o with v:=E1 (some c0) o.v }).D ι' (a9e (.own g j sz 0 n) o.v) c:=by
      revert hv
      show RV _ _ _ _ (X9 c0 o.v) c→_
      intro hv
      by_cases ha : ∃ cs,o.v = .agg cs
      · obtain ⟨cs,ha⟩:=ha
        rw [ha] at hv ⊢
        obtain ⟨ds,rfl,hds⟩:=hv.inv_agg
        refine .one _ _ (.agg _ _ ?_)
        exact n5.map_imp (fun v x h=>hplug h) hds
      · have ha : ∀ cs,o.v ≠ .agg cs:=fun cs q=>ha ⟨cs,q⟩
        rw [b0w ha] at hv
        have:a9e (.own g j sz 0 n) o.v=o.v:=by
          generalize o.v=v at ha
          cases v<;>first | rfl | exact absurd rfl (ha _)
        rw [this]; exact hv
    have hfin:=hr.put ob.dst hv'
    have e1:(a.put ob.dst c).put ob.dst c=a.put ob.dst c:=by
      cases ob.dst with
      | none=>rfl
      | some d=>simp [Act.put]
    rw [e1] at hfin
    have e2:S.apply grp ob.dst { o with v:=a9e (.own g j sz 0 n) o.v }={ S.apply grp ob.dst { o with v:=E1 (some c0) o.v } with t:=Q5 (S.apply grp ob.dst { o with v:=E1 (some c0) o.v }).t ob.dst (a9e (.own g j sz 0 n) o.v) }:=by
      cases ob.dst with
      | none=>rfl
      | some d=>simp [St.apply,Q5]
    rw [e2]
    exact hfin
end
section
variable {w w':World} {F D:Nat→Prop} {ι:Nat→Nat→Value}
theorem KL.len : ∀ {vs:List V} {cs:List Value} {f:List Nat},KL w F D ι vs cs f→vs.length=cs.length
  | _,_,_,.nil=>rfl
  | _,_,_,.cons _ _ _ _ _ _ _ t=>by simp [KL.len t]
theorem KL.app : ∀ {vs vs':List V} {cs cs':List Value} {f f':List Nat},KL w F D ι vs cs f→KL w F D ι vs' cs' f'→KL w F D ι (vs++vs') (cs++cs') (f++f')
  | _,_,_,_,_,_,.nil,k=>k
  | _,_,_,_,_,_,.cons v c f vs cs fs h t,k=>by
    rw [List.append_assoc]
    exact .cons v c f _ _ _ h (KL.app t k)
theorem KL.split : ∀ {vs vs':List V} {cs:List Value} {f:List Nat},KL w F D ι (vs++vs') cs f → ∃ c1 c2 f1 f2,cs=c1++c2∧f=f1++f2∧KL w F D ι vs c1 f1∧KL w F D ι vs' c2 f2
  | [],vs',cs,f,h=>⟨[],cs,[],f,rfl,rfl,.nil,h⟩
  | v::vs,vs',_,_,.cons _ c f _ cs fs h t=>by
    obtain ⟨c1,c2,f1,f2,rfl,rfl,h1,h2⟩:=KL.split t
    exact ⟨c::c1,c2,f++f1,f2,rfl,by rw [List.append_assoc],.cons _ _ _ _ _ _ h h1,h2⟩
theorem KL.cut {vs:List V} {cs:List Value} {f:List Nat} (h:KL w F D ι vs cs f) {k m:Nat} (hk:k+m≤vs.length) :
    ∃ fa fm fb,f=fa++(fm++fb)∧KL w F D ι (vs.take k) (cs.take k) fa∧KL w F D ι ((vs.drop k).take m) ((cs.drop k).take m) fm∧KL w F D ι (vs.drop (k+m)) (cs.drop (k+m)) fb:=by
  have e:vs=vs.take k++((vs.drop k).take m++vs.drop (k+m)):=by
    rw [← List.drop_drop,List.take_append_drop,List.take_append_drop]
  rw [e] at h
  obtain ⟨c1,c23,f1,f23,rfl,rfl,h1,h23⟩:=h.split
  obtain ⟨c2,c3,f2,f3,rfl,rfl,h2,h3⟩:=h23.split
  have l1:c1.length=k:=by rw [← h1.len]; simp; omega
  have l2:c2.length=m:=by rw [← h2.len]; simp; omega
  have t1:(c1++(c2++c3)).take k=c1:=by rw [List.take_append_of_le_length (by omega),List.take_of_length_le (by omega)]
  have t2:(c1++(c2++c3)).drop k=c2++c3:=by rw [List.drop_append_of_le_length (by omega),List.drop_eq_nil_of_le (by omega:c1.length≤k),List.nil_append]
  have t3:(c2++c3).take m=c2:=by rw [List.take_append_of_le_length (by omega),List.take_of_length_le (by omega)]
  have t4:(c2++c3).drop m=c3:=by rw [List.drop_append_of_le_length (by omega),List.drop_eq_nil_of_le (by omega:c2.length≤m),List.nil_append]
  refine ⟨f1,f2,f3,rfl,?_,?_,?_⟩
  · rw [t1]; exact h1
  · rw [t2,t3]; exact h2
  · rw [← List.drop_drop (l:=c1++(c2++c3)),t2,t4]; exact h3
theorem KL.splice {vs us:List V} {cs ds:List Value} {f f2:List Nat} (h:KL w F D ι vs cs f) {k:Nat} (h2:KL w F D ι us ds f2) (hk:k+us.length≤vs.length) :
    ∃ fa fm fb,f=fa++(fm++fb)∧KL w F D ι (s4 vs k us) (s4 cs k ds) (fa++(f2++fb))∧KL w F D ι ((vs.drop k).take us.length) ((cs.drop k).take us.length) fm:=by
  obtain ⟨fa,fm,fb,rfl,h1,hm,h3⟩:=h.cut hk
  refine ⟨fa,fm,fb,rfl,?_,hm⟩
  unfold s4
  rw [List.append_assoc,List.append_assoc,← h2.len]
  exact h1.app (h2.app h3)
theorem OR.one {e sz n:Nat} {rows:List (List V)} {c:Value} {flat:List Value} (h:w.ownsRow 0 e sz c n flat):c.oneCell'=true:=by
  rcases h.2 with ⟨rfl,_⟩ | ⟨g,cap,cur,rfl,_⟩<;>rfl
theorem BC.one {v:V} {c:Value} {f:List Nat} (h:BC w F v c f):c.oneCell'=true:=by
  cases h with
  | fv v c h=>exact (RC.fv (D:=fun _=>True) (ι:=fun _ _=>.nilFunc) v c h).one
  | osl e sz n rows c h =>
    obtain ⟨flat,ho,_⟩:=h
    exact OR.one (rows:=rows) ho
  | dsl e sz n rows c flat fs ho hr hn hl=>exact OR.one (rows:=rows) ho
theorem KC.one {v:V} {c:Value} {f:List Nat} (h:KC w F D ι v c f):c.oneCell'=true:=by
  cases h with
  | rc h=>exact h.one
  | bc _ h=>exact BC.one h
theorem KL.bots : ∀ {vs:List V} {cs:List Value} {f:List Nat},KL w F D ι vs cs f→KL w F D ι (vs.map fun _=>V.bot) cs []
  | _,_,_,.nil=>.nil
  | _,_,_,.cons v c f vs cs fs h t=>.cons .bot c [] _ _ [] (.rc _ _ (.fv _ _ (.bot _ h.one))) (KL.bots t)
theorem KL.ofRC : ∀ {vs:List V} {cs:List Value},n5 (RC w F D ι) vs cs→KL w F D ι vs cs []
  | _,_,.nil=>.nil
  | _,_,.cons h t=>.cons _ _ [] _ _ [] (.rc _ _ h) (KL.ofRC t)
def V.plain:V→Bool
  | .own .. | .ptr .. | .eptr .. | .fptr _ | .mp .. | .osl .. | .dsl .. | .agg _ | .tup _ | .optr .. => false
  | _=>true
theorem KL.plain : ∀ {vs:List V} {cs:List Value} {f:List Nat},KL w F D ι vs cs f→vs.all V.plain=true→FL w F vs cs
  | _,_,_,.nil,_=>.nil
  | _,_,_,.cons v c f vs cs fs h t,hp=>by
    simp only [List.all_cons,Bool.and_eq_true] at hp
    refine .cons _ _ _ _ ?_ (KL.plain t hp.2)
    have hv:=hp.1
    cases h with
    | rc h=>cases h with
      | fv v c h=>exact h
      | _=>cases hv
    | bc _ h=>cases h with
      | fv v c h=>exact h
      | _=>cases hv
end
theorem c22 : ∀ {ks:List (Nat×Nat)} {S:St} {g j:Nat},(g,j) ∉ ks→(S.upds (C5 ks)).ent g j=S.ent g j
  | [],_,_,_,_=>rfl
  | k::ks,S,g,j,h=>by
    show ((S.setE k.1 k.2 .dead).upds (C5 ks)).ent g j=_
    rw [c22 (fun q=>h (by simp [q])),a3Y (fun q=>h (by rw [show k=(g,j) from Prod.ext q.1.symm q.2.symm]; simp))]
section
variable {cx:Cx} {Γ:L6} {F:Nat→Prop} {ι:Nat→Nat→Value} {S:St} {a:Act} {w:World}
theorem m3.writeX (h:m3 Γ F ι S a w) {g j:Nat} {e e':l7} (he:S.ent g j=some e) (hl:e.live=true) {w':World}
    (hk:w'.os=w.os∧w'.tape=w.tape∧w'.output=w.output) (hsz:w'.heap.size=w.heap.size) (hb : ∀ k,¬ EB w e (ι g j) k→w'.heap[k]?=w.heap[k]?)
    (hn:F6 w w' F→RE w' F (S.setE g j e').D ι e' (ι g j)) {X:List Nat}
    (hX : ∀ k∈X,¬ F k∧(Γ.own k∨Γ.w0.heap.size≤k) ∧ ∀ g' j' e'',S.ent g' j'=some e''→e''.live=true → ¬ EB w e'' (ι g' j') k)
    (hin : ∀ k,EB w' e' (ι g j) k→EB w e (ι g j) k∨k∈X):m3 Γ F ι (S.setE g j e') a w':=by
  have hs:F6 w w' F:=a0Y fun k hF=>hb k fun q=>(h.sep g j e k he hl q).1 hF
  have hD : ∀ k,S.D k→(S.setE g j e').D k:=fun k x=>P6.2 x
  have hoth : ∀ g' j' e'',S.ent g' j'=some e''→e''.live=true → ¬ (g'=g∧j'=j) → ∀ k,EB w e'' (ι g' j') k→w'.heap[k]?=w.heap[k]?:=fun g' j' e'' he'' hl'' q k a1A=>hb k fun q'=>q (h.inj g' j' e'' g j e k he'' he hl'' hl a1A q')
  have hone : ∀ g2 j2 e2 k,S.ent g2 j2=some e2→e2.live=true → ¬ (g2=g∧j2=j)→EB w' e' (ι g j) k→EB w' e2 (ι g2 j2) k→False:=by
    intro g2 j2 e2 k h2 l2 q2 k1 k2
    have k2':=(h.ents g2 j2 e2 h2).back (hoth g2 j2 e2 h2 l2 q2) k2
    rcases hin k k1 with x | x
    · exact q2 (h.inj g2 j2 e2 g j e k h2 he l2 hl k2' x)
    · exact (hX k x).2.2 g2 j2 e2 h2 l2 k2'
  exact
    { F0:=h.F0
      F1:=fun k hF=>hsz▸h.F1 k hF
      F2:=h.F2
      kept:=⟨hk.1.trans h.kept.os,hk.2.1.trans h.kept.tape,hk.2.2.trans h.kept.output,hsz▸h.kept.size,fun k hk' hno=>by
        rw [hb k fun q => ?_]
        · exact h.kept.block k hk' hno
        · rcases (h.sep g j e k he hl q).2 with x | x
          · exact hno x
          · omega⟩
      tmps:=by rw [a5c]; exact h.tmps.imp fun _ _ x=>x.mono hs (fun _ y=>y) hD (fun _ _ _=>rfl)
      ents:=fun g' j' e'' he''=>by
        rw [O2 he] at he''
        split at he''
        · rename_i q
          obtain ⟨rfl,rfl⟩:=q
          injection he'' with he''
          subst he''
          exact hn hs
        · rename_i q
          exact (h.ents g' j' e'' he'').mono hs (fun _ y=>y) hD (fun _ _ _=>rfl) fun k hl'' a1A=>hoth g' j' e'' he'' hl'' q k a1A
      sep:=fun g' j' e'' k he'' hl'' a1A=>by
        rw [O2 he] at he''
        split at he''
        · rename_i q
          obtain ⟨rfl,rfl⟩:=q
          injection he'' with he''
          subst he''
          rcases hin k a1A with x | x
          · exact h.sep g' j' e k he hl x
          · exact ⟨(hX k x).1,(hX k x).2.1⟩
        · rename_i q
          exact h.sep g' j' e'' k he'' hl'' ((h.ents g' j' e'' he'').back (hoth g' j' e'' he'' hl'' q) a1A)
      inj:=fun g1 j1 e1 g2 j2 e2 k h1 h2 l1 l2 k1 k2=>by
        rw [O2 he] at h1 h2
        split at h1<;>split at h2
        · rename_i q1 q2
          exact ⟨q1.1.trans q2.1.symm,q1.2.trans q2.2.symm⟩
        · rename_i q1 q2
          obtain ⟨rfl,rfl⟩:=q1
          injection h1 with h1
          subst h1
          exact (hone g2 j2 e2 k h2 l2 q2 k1 k2).elim
        · rename_i q1 q2
          obtain ⟨rfl,rfl⟩:=q2
          injection h2 with h2
          subst h2
          exact (hone g1 j1 e1 k h1 l1 q1 k2 k1).elim
        · rename_i q1 q2
          exact h.inj g1 j1 e1 g2 j2 e2 k h1 h2 l1 l2 ((h.ents g1 j1 e1 h1).back (hoth g1 j1 e1 h1 l1 q1) k1) ((h.ents g2 j2 e2 h2).back (hoth g2 j2 e2 h2 l2 q2) k2)
      defers:=h.defers
      pins:=fun j c hc=>⟨hD _ (h.pins j c hc).1,(h.pins j c hc).2⟩ }
theorem F4.splice {rows:List (List V)} (h:F4 rows) {idx off:Nat} {r vs:List V} (hr:rows[idx]?=some r) (hv : ∀ v∈vs,v.isRef=false):F4 (rows.set idx (s4 r off vs)):=by
  intro q hq v hm
  rcases List.mem_or_eq_of_mem_set hq with hq | rfl
  · exact h q hq v hm
  · unfold s4 at hm
    have hrr:=h r (List.mem_of_getElem? hr)
    rcases List.mem_append.1 hm with hm | hm
    · rcases List.mem_append.1 hm with hm | hm
      · exact hrr v (List.mem_of_mem_take hm)
      · exact hv v hm
    · exact hrr v (List.mem_of_mem_drop hm)
theorem m3.dput (h:m3 Γ F ι S a w) {g j t sz n:Nat} {o:Bool} {rows:List (List V)} (he:S.ent g j=some (.deep o t sz n rows)) {idx off:Nat} {r vs:List V} {ds:List Value} {fp:List Nat} {ks:List (Nat×Nat)}
    (hr:rows[idx]?=some r) (hoff:off+vs.length≤sz) (hbl:BL w F vs ds fp) (hfps:J0 S w ι ks fp) (hks:ks.Nodup) (hgj:(g,j) ∉ ks) {w':World}
    (hw:w'.os=w.os∧w'.tape=w.tape∧w'.output=w.output) (hsz:w'.heap.size=w.heap.size) (hb : ∀ k,t9 (ι g j)≠some k→w'.heap[k]?=w.heap[k]?)
    (hnew : ∀ flat,w.ownsRow 0 t sz (ι g j) n flat→w'.ownsRow 0 t sz (ι g j) n (s4 flat (idx * sz+off) ds)) :
    m3 Γ F ι (S.upds (C5 ks++[((g,j),.deep o t sz n (rows.set idx (s4 r off vs)))])) a w':=by
  obtain ⟨flat,fs,hor,hkl,hn,hl,hnd,hnr⟩:=h.ents g j _ he
  have h1:=h.killAll ks fun id hid=>by
    obtain ⟨e,he,_⟩:=hfps.live id hid
    exact ⟨e,he⟩
  have he1:(S.upds (C5 ks)).ent g j=some (.deep o t sz n rows):=by rw [c22 hgj]; exact he
  have hidx:=(List.getElem?_eq_some_iff.1 hr).1
  have hpos:idx * sz+sz≤n * sz:=by rw [← Nat.succ_mul]; exact Nat.mul_le_mul_right _ (by omega)
  obtain ⟨fa,fm,fb,rfl,hrow,_⟩:=hkl.splice (k:=idx * sz+off) hbl.kl (by rw [a2F hl,hn]; omega)
  rw [← a5T hl hr hoff] at hrow
  have hfpx : ∀ k∈fp,¬ F k∧(Γ.own k∨Γ.w0.heap.size≤k)∧k ∉ A8 (ι g j)++(fa++(fm++fb)) ∧ ∀ g' j' e'',(S.upds (C5 ks)).ent g' j'=some e''→e''.live=true → ¬ EB w e'' (ι g' j') k:=by
    intro k hk
    obtain ⟨id,hid,e',he',hl',hb'⟩:=hfps.mem hk
    obtain ⟨z1,z2⟩:=h.sep _ _ e' k he' hl' hb'
    refine ⟨z1,z2,?_,?_⟩
    · intro q
      obtain ⟨y1,y2⟩:=h.inj _ _ _ _ _ _ k he he' rfl hl' ((EB.deep_iff hor hkl).2 q) hb'
      exact hgj (by rw [show (g,j)=id from Prod.ext y1 y2]; exact hid)
    · intro g' j' e'' he'' hl'' hb''
      rcases a6C _ he'' with ⟨_,rfl⟩ | ⟨q1,q2⟩
      · cases hl''
      · obtain ⟨y1,y2⟩:=h.inj _ _ _ _ _ _ k q2 he' hl'' hl' hb'' hb'
        exact q1 (by rw [show (g',j')=id from Prod.ext y1 y2]; exact hid)
  have hnd2:(A8 (ι g j)++(fa++fb)).Nodup:=by
    refine List.Nodup.sublist ?_ hnd
    exact List.Sublist.append_left (List.Sublist.append_left (List.sublist_append_right _ _) _) _
  have hnd':(A8 (ι g j)++(fa++(fp++fb))).Nodup:=by
    refine (a43 (a43 (List.Perm.refl (fp++fb)))).nodup_iff.2 ?_
    refine List.nodup_append.2 ⟨J0.nodup h hfps hks,hnd2,?_⟩
    intro k hk k' hk' hkk
    subst hkk
    refine (hfpx k hk).2.2.1 ?_
    simp only [List.mem_append] at hk' ⊢
    rcases hk' with q | q | q<;>simp [q]
  have hre:F6 w w' F→RE w' F ((S.upds (C5 ks)).setE g j (.deep o t sz n (rows.set idx (s4 r off vs)))).D ι (.deep o t sz n (rows.set idx (s4 r off vs))) (ι g j):=by
    intro hs
    refine ⟨_,_,hnew flat hor,hrow.mono hs (fun _ x=>x) (fun k x=>P6.2 ((Z4 S k _).2 x)) (fun _ _ _=>rfl) ?_,by simpa using hn,?_,hnd',fun q=>(hnr q).splice hr hbl.noRef⟩
    · intro k hk
      refine hb k fun q => ?_
      exact (List.nodup_append.1 hnd').2.2 k (P2.2 q) k hk rfl
    · intro q hq
      rcases List.mem_or_eq_of_mem_set hq with hq | rfl
      · exact hl q hq
      · have:=hl r (List.mem_of_getElem? hr)
        rw [a2y _ _ _ (by omega)]
        exact this
  rw [St.upds_append]
  refine h1.writeX he1 rfl hw hsz (fun k hk=>hb k fun q=>hk (EB.top q)) hre (X:=fp) (fun k hk=>⟨(hfpx k hk).1,(hfpx k hk).2.1,(hfpx k hk).2.2.2⟩) ?_
  intro k hk
  have hs:F6 w w' F:=a0Y fun k hF=>hb k fun q=>(h.sep g j _ k he rfl (EB.top q)).1 hF
  obtain ⟨flat2,fs2,ho2,hkl2,_⟩:=hre hs
  have hk2:=(EB.deep_iff ho2 hkl2).1 hk
  have hkl3:=hrow.mono (w':=w') hs (fun _ x=>x) (fun k x=>x) (fun _ _ _=>rfl) (fun k hk=>hb k fun q=>(List.nodup_append.1 hnd').2.2 k (P2.2 q) k hk rfl)
  have hfl:=a6J ho2 (hnew flat hor) (fun _ _=>rfl)
  subst hfl
  rw [hkl2.det hkl3 (fun _ _=>rfl)] at hk2
  simp only [List.mem_append] at hk2
  rw [EB.deep_iff hor hkl]
  simp only [List.mem_append]
  rcases hk2 with q | q | q | q<;>simp [q]
def a6K (cx:Cx) (ty:Nat) (x y:V) (r:List V) (ck om:List (Option Nat)):a5 t7 :=
  match cx.T ty,y.cells with
  | some ti,some vs=>match x with
    | .eptr g j sz idx off=>a5.bind (a5.rd g j) fun e=>a5.bind (a1E ck om vs) fun f=>match e with
      | .deep o t sz' n rows=>if sz'=sz∧vs.length=ti.size∧off+vs.length≤sz∧f.ls.isEmpty∧a19 f.ks∧a1b f.ks (g,j)=false then
          a5.pure { v:=.bot,upd:=C5 f.ks++[((g,j),.deep o t sz n (rows.set idx (s4 r off f.v)))],obl:=(rows[idx]?=some r)::f.obl }
        else a5.no
      | _=>a5.no
    | _=>a5.no
  | _,_=>a5.no
theorem BL.len {F:Nat→Prop} : ∀ {vs:List V} {cs:List Value} {f:List Nat},BL w F vs cs f→vs.length=cs.length
  | _,_,_,.nil=>rfl
  | _,_,_,.cons _ _ _ _ _ _ _ t=>by simp [BL.len t]
theorem c0Z (h:m3 Γ F ι S a w) {grp:Nat} {ob:Oper} {ty:Nat} {x y:Operand} {r:List V} {ck om:List (Option Nat)} (ho:ob.op = .store ty x y) (hd:ob.dst=none) {out:t7} {lg:List (Nat×Nat)} (hp:a6K cx ty (j8 S.t x) (j8 S.t y) r ck om S.ent=some (out,lg)) (hob : ∀ p∈out.obl,p):S5 cx.P Γ ι S grp ob out a w:=by
  have hx:=A4 h.tmps x
  have hy:=A4 h.tmps y
  unfold a6K at hp
  cases hti:cx.T ty with
  | none=>rw [hti] at hp; cases hp
  | some ti =>
  cases hvs:(j8 S.t y).cells with
  | none=>rw [hti,hvs] at hp; cases hp
  | some vs =>
  rw [hti,hvs] at hp
  simp only at hp
  obtain ⟨i,d,z,htf⟩:=cx.tf hti
  have hcells:=hy.cells hvs
  have hone:=hcells.all_one
  have hclen:vs.length=(a.eval y).cells.size:=by simpa using hcells.length
  generalize j8 S.t x=xv at hp hx
  cases xv<;>try (cases hp; done)
  case eptr g j sz idx off =>
    obtain ⟨hD,b,hι,hc⟩:=hx.inv_eptr
    obtain ⟨e,l1,l2,hrd,hp',hl12⟩:=a5.bind_some hp
    clear hp
    have he:=(a5.rd_some hrd).1
    simp only at he
    obtain ⟨f,l3,l4,hf,hp'',hl34⟩:=a5.bind_some hp'
    clear hp'
    cases e<;>try (cases hp''; done)
    rename_i o t sz' n rows
    simp only at hp''
    split at hp''<;>try (cases hp''; done)
    rename_i hcond
    obtain ⟨rfl,hc1,hc2,hc3,hc4,hc5⟩:=hcond
    have:=a5.pure_some hp''
    injection this with h2 h3
    subst h2
    have hr:rows[idx]?=some r:=hob _ (List.mem_cons.2 (.inl rfl))
    have hls:f.ls=[]:=List.isEmpty_iff.1 hc3
    obtain ⟨fp,hbl,hfps,hh⟩:=a9S (F1:=F) h (fun _ x=>x) hcells hf (fun p hp=>hob p (List.mem_cons.2 (.inr hp))) (by rw [hls]; intro id hid; cases hid)
    obtain ⟨flat0,fs0,hor0,hkl0,hn0,hl0,_⟩:=h.ents g j _ he
    have hidx:=(List.getElem?_eq_some_iff.1 hr).1
    have hvl:f.v.length=vs.length:=by rw [hbl.len,hclen]; simp
    rcases hor0.2 with ⟨hv,h0⟩ | ⟨g0,cap,cur,hv,hbg,hg,hnc,hcm,hcs,ht⟩
    · omega
    · have hb:b=g0:=by rw [hv] at hι; simp [t9] at hι; omega
      subst hb
      have hcl:n * sz'≤cur.size:=by rw [hcs]; exact Nat.mul_le_mul_right _ hnc
      have hpos:idx * sz'+sz'≤n * sz':=by rw [← Nat.succ_mul]; exact Nat.mul_le_mul_right _ (by omega)
      have hrun:=b4J (P:=cx.P) ho htf hc hg (by omega) (by omega) hone
      refine ⟨_,undef,_,F,ι,hrun,.inr ⟨rfl,rfl⟩,?_⟩
      rw [hd,b0R,b0c]
      refine h.dput he hr (by omega) hbl hfps (a3w hc4) (fun q=>by rw [a4N.2 q] at hc5; cases hc5) ⟨rfl,rfl,rfl⟩ (b0t _ _ _) (fun k hk=>setRow_other w b k _ fun q=>hk (by rw [hι,q])) ?_
      intro flat hor
      have hfl:=a6J hor hor0 (fun _ _=>rfl)
      subst hfl
      have hflat:flat.length=n * sz':=hor.1
      refine ⟨?_,.inr ⟨b,cap,_,hv,hbg,setRow_heap w b cur _ t (0,0) hg,hnc,hcm,?_,?_⟩⟩
      · rw [a2y _ _ _ (by simp; omega)]; exact hor.1
      · rw [List.size_toArray,a2y _ _ _ (by simp; omega)]; simpa using hcs
      · rw [← ht]
        exact b9f _ _ _ _ (by simp; omega) (by simpa using hcl)
theorem b6e {t sz n:Nat} {rows:List (List V)} {c:Value} {flat:List Value} {b idx off m:Nat} {r:List V} (ho:w.ownsRow 0 t sz c n flat) (hn:rows.length=n) (hl : ∀ r∈rows,r.length=sz) (hb:t9 c=some b) (hr:rows[idx]?=some r) (hoff:off+m≤sz) :
    L3 w b (idx * sz+off) ((flat.drop (idx * sz+off)).take m)∧((rows.flatten.drop (idx * sz+off)).take m=(r.drop off).take m)∧idx * sz+off+m≤rows.flatten.length:=by
  have hidx:=(List.getElem?_eq_some_iff.1 hr).1
  have hpos:idx * sz+sz≤n * sz:=by rw [← Nat.succ_mul]; exact Nat.mul_le_mul_right _ (by omega)
  refine ⟨?_,?_,by rw [a2F hl,hn]; omega⟩
  · rcases ho.2 with ⟨hv,h0⟩ | ⟨g0,cap,cur,hv,_,hg,hnc,hcm,hcs,ht⟩
    · rw [hv] at hb; cases hb
    · rw [hv] at hb
      simp [t9] at hb
      subst hb
      have hseg:L3 w g0 0 flat:=by
        rw [← ht]
        have:=(a4P hg 0).take (n * sz)
        simpa using this
      have:=(hseg.drop (idx * sz+off)).take m
      simpa using this
  · rw [← b0Z hl hr,List.drop_take,List.take_take,List.drop_drop]
    congr 1
    omega
def a9X (cx:Cx) (grp ty:Nat) (x:V) (r:List V):a5 t7 :=
  match cx.T ty with
  | none=>a5.no
  | some ti=>match x with
    | .eptr g j sz idx off=>a5.bind (a5.rd g j) fun e=>match e with
      | .deep _ t sz' n rows =>
        let m:=if ti.agg then ti.size else 1
        let y:=I1 grp 0 ((r.drop off).take m)
        if sz'=sz∧off+m≤sz∧((r.drop off).take m).all (fun v => !v.isRef) then
          match Q6 ti y.1 with
          | some v=>a5.pure { v:=v,new:=some y.2,upd:=[((g,j),.deep true t sz n (rows.set idx (s4 r off y.1)))],obl:=[rows[idx]?=some r] }
          | none=>a5.no
        else a5.no
      | _=>a5.no
    | _=>a5.no
theorem KL.toBL {w:World} {F D:Nat→Prop} {ι:Nat→Nat→Value} {vs:List V} {cs:List Value} {f:List Nat} (h:KL w F D ι vs cs f) (hv:vs.all (fun v => !v.isRef)=true):BL w F vs cs f:=by
  refine h.blOf fun v hm => ?_
  have:=List.all_eq_true.1 hv v hm
  simpa using this
theorem c8z (grp:Nat) : ∀ (vs:List V) (j:Nat),(I1 grp j vs).1.length=vs.length
  | [],_=>rfl
  | v::vs,j=>by simp [I1,c8z grp vs]
theorem d69 {S:St} {g j:Nat} {e e':l7}:(S.setE g j e).setE g j e'=S.setE g j e':=by
  cases hx:S.h[g]? with
  | none=>unfold St.setE; simp [hx]
  | some o=>cases o with
    | none=>unfold St.setE; simp [hx]
    | some l =>
      have hlt:=(List.getElem?_eq_some_iff.1 hx).1
      rw [a2h hx,a2h hx,a2h (l:=l.set j e) (by simp [hlt])]
      simp only [List.set_set]
set_option maxHeartbeats 800000 in
theorem d7J (h:m3 Γ F ι S a w) {grp:Nat} (hg:grp<S.h.length) (hn : ¬ S.D grp) {ob:Oper} {ty:Nat} {x:Operand} {r:List V} (ho:ob.op = .load ty x) {out:t7} {lg:List (Nat×Nat)} (hp:a9X cx grp ty (j8 S.t x) r S.ent=some (out,lg)) (hob : ∀ p∈out.obl,p):S5 cx.P Γ ι S grp ob out a w:=by
  have hx:=A4 h.tmps x
  unfold a9X at hp
  cases hti:cx.T ty with
  | none=>rw [hti] at hp; cases hp
  | some ti =>
  rw [hti] at hp
  obtain ⟨i,d,z,htf⟩:=cx.tf hti
  generalize j8 S.t x=xv at hp hx
  cases xv<;>try (cases hp; done)
  case eptr g j sz idx off =>
    obtain ⟨hD,b,hι,hc⟩:=hx.inv_eptr
    obtain ⟨e,l1,l2,hrd,hp',hl12⟩:=a5.bind_some hp
    clear hp
    have he:=(a5.rd_some hrd).1
    simp only at he
    cases e<;>try (cases hp'; done)
    rename_i o t sz' n rows
    simp only at hp'
    obtain ⟨m,hm⟩ : ∃ m,(if ti.agg=true then ti.size else 1)=m:=⟨_,rfl⟩
    rw [hm] at hp'
    split at hp'<;>try (cases hp'; done)
    rename_i hcond
    obtain ⟨rfl,hc1,hc2⟩:=hcond
    obtain ⟨y,hy⟩ : ∃ y,I1 grp 0 ((r.drop off).take m)=y:=⟨_,rfl⟩
    rw [hy] at hp'
    cases hrv:Q6 ti y.1 with
    | none=>rw [hrv] at hp'; cases hp'
    | some v =>
    rw [hrv] at hp'
    have:=a5.pure_some hp'
    injection this with h2 h3
    subst h2
    have hr:rows[idx]?=some r:=hob _ (by simp)
    obtain ⟨flat,fs,hor,hkl,hrn,hl,hnd,hnr⟩:=h.ents g j _ he
    obtain ⟨hseg,hmid,hle⟩:=b6e hor hrn hl hι hr hc1
    have hrl:=hl r (List.mem_of_getElem? hr)
    have hml:((r.drop off).take m).length=m:=by simp; omega
    have hgg:g≠grp:=fun q=>hn (q▸hD)
    obtain ⟨k,hk⟩ : ∃ k,idx * sz'+off=k:=⟨_,rfl⟩
    rw [hk] at hseg hmid hle
    obtain ⟨fa,fm,fb,rfl,ka,km,kb⟩:=hkl.cut (k:=k) (m:=m) hle
    rw [hmid] at km
    have hbl:=km.toBL hc2
    have hds:(flat.drop k).take m=((flat.drop k).take m):=rfl
    have hflen:flat.length=rows.flatten.length:=hkl.len.symm
    have hspl : ∀ us:List V,us.length=m→(rows.set idx (s4 r off us)).flatten=rows.flatten.take k++(us++rows.flatten.drop (k+m)):=by
      intro us hus
      rw [a5T hl hr (by omega),hk]
      unfold s4
      rw [hus,List.append_assoc]
    have hfs:flat=flat.take k++((flat.drop k).take m++flat.drop (k+m)):=by
      rw [← List.drop_drop,List.take_append_drop,List.take_append_drop]
    have hrl' : ∀ us:List V,us.length=m → ∀ q∈rows.set idx (s4 r off us),q.length=sz':=by
      intro us hus q hq
      rcases List.mem_or_eq_of_mem_set hq with hq | rfl
      · exact hl q hq
      · rw [a2y _ _ _ (by omega)]; exact hrl
    have hnd2:(A8 (ι g j)++(fa++fb)).Nodup:=List.Nodup.sublist (List.Sublist.append_left (List.Sublist.append_left (List.sublist_append_right _ _) _) _) hnd
    have hndm:fm.Nodup:=(List.nodup_append.1 (List.nodup_append.1 (List.nodup_append.1 hnd).2.1).2.1).1
    have hdm : ∀ k∈fm,k ∉ A8 (ι g j)++(fa++fb):=by
      intro q hq hq'
      have hp:=(a43 (C:=A8 (ι g j)) (a43 (C:=fa) (List.Perm.refl (fm++fb)))).nodup_iff.1 hnd
      exact (List.nodup_append.1 hp).2.2 q hq q hq' rfl
    obtain ⟨us0,hus0⟩ : ∃ us:List V,us=((r.drop off).take m).map fun _=>V.bot:=⟨_,rfl⟩
    have hus0l:us0.length=m:=by rw [hus0,List.length_map,hml]
    have kl0 : ∀ {D':Nat→Prop} {ι':Nat→Nat→Value},(∀ k,S.D k→D' k)→(∀ g j,S.D g→ι' g j=ι g j) → ∀ {us:List V},us.length=m→KL w F D' ι' us ((flat.drop k).take m) []→KL w F D' ι' (rows.set idx (s4 r off us)).flatten flat (fa++([]++fb)):=by
      intro D' ι' h1 h2 us hus hku
      rw [hspl us hus,hfs]
      have l1:(flat.take k).length=k:=by simp; omega
      have e1:(flat.take k++((flat.drop k).take m++flat.drop (k+m)))=flat:=hfs.symm
      exact (ka.mono (fun _ _ _=>rfl) (fun _ x=>x) h1 h2 (fun _ _=>rfl)).app (hku.app (kb.mono (fun _ _ _=>rfl) (fun _ x=>x) h1 h2 (fun _ _=>rfl)))
    have hmem0 : ∀ q,q∈A8 (ι g j)++(fa++([]++fb))→q∈A8 (ι g j)++(fa++(fm++fb)):=by
      intro q hq
      simp only [List.mem_append,List.not_mem_nil,false_or] at hq ⊢
      rcases hq with x | x | x<;>simp [x]
    have rel1:m3 Γ F ι (S.setE g j (.deep true t sz' n (rows.set idx (s4 r off us0)))) a w:=by
      have k1:=kl0 (D':=S.D) (ι':=ι) (fun _ x=>x) (fun _ _ _=>rfl) hus0l (hus0▸km.bots)
      refine h.write he rfl ⟨rfl,rfl,rfl⟩ rfl (fun _ _=>rfl) (fun _ => ?_) ?_
      · exact ⟨flat,_,hor,k1.mono (fun _ _ _=>rfl) (fun _ x=>x) (fun k x=>P6.2 x) (fun _ _ _=>rfl) (fun _ _=>rfl),by simpa using hrn,hrl' _ hus0l,by simpa using hnd2,fun q=>by cases q⟩
      · intro q hq
        exact (EB.deep_iff hor hkl).2 (hmem0 q ((EB.deep_iff hor k1).1 hq))
    have he1:(S.setE g j (.deep true t sz' n (rows.set idx (s4 r off us0)))).ent g j=some (.deep true t sz' n (rows.set idx (s4 r off us0))):=by rw [O2 he]; simp
    obtain ⟨bs,hbsl,hhas,hth⟩:=a5H (grp:=grp) hbl 0
    rw [hy] at hbsl hhas hth
    obtain ⟨ι',hι'⟩ : ∃ ι',ι'=a3O ι grp bs:=⟨_,rfl⟩
    have hne : ∀ g j,g≠grp→ι' g j=ι g j:=fun g j q=>by rw [hι']; exact b6x q
    have hlenS:grp<(S.setE g j (.deep true t sz' n (rows.set idx (s4 r off us0)))).h.length:=by rw [a6F]; exact hg
    have hnD : ¬ (S.setE g j (.deep true t sz' n (rows.set idx (s4 r off us0)))).D grp:=fun q=>hn (P6.1 q)
    have hDg:=a0e (S:=S.setE g j (.deep true t sz' n (rows.set idx (s4 r off us0)))) (new:=y.2) hlenS
    obtain ⟨hrc,hlie⟩:=hth ((S.setE g j (.deep true t sz' n (rows.set idx (s4 r off us0)))).lay grp y.2).D ι' hDg (fun q c hq=>by rw [hι',Nat.zero_add]; exact a3e hq) hndm
    have hvb : ∀ (q:Nat) (e:l7),y.2[q]?=some e→bs[q]?=some (ι' grp q):=by
      intro q e hq
      have hlt:q<bs.length:=by rw [hbsl]; exact (List.getElem?_eq_some_iff.1 hq).1
      have hv:ι' grp q=bs[q]:=by rw [hι']; exact a3e (List.getElem?_eq_getElem hlt)
      rw [hv]
      exact List.getElem?_eq_getElem hlt
    have hmB : ∀ k∈fm,EB w (.deep o t sz' n rows) (ι g j) k:=fun k hk=>(EB.deep_iff hor hkl).2 (by simp [hk])
    have k1:=kl0 (D':=S.D) (ι':=ι) (fun _ x=>x) (fun _ _ _=>rfl) hus0l (hus0▸km.bots)
    have rel2:=rel1.lay hlenS hnD (new:=y.2) (ι':=ι') hne (fun q e he=>hlie q e _ he (hvb q e he))
      (fun q e k he hl hk=>h.sep _ _ _ k ‹S.ent g j=some (.deep o t sz' n rows)› rfl (hmB k (hhas.mem he (hvb q e he) hk)))
      (fun q e q' e' k he he' hl hl' hk hk'=>hhas.inj hndm he (hvb q e he) hk he' (hvb q' e' he') hk')
      (fun q e g' j' e' k he0 he' hl hl' hk hk'=>by
        have hkm:=hhas.mem he0 (hvb q e he0) hk
        rw [O2 he] at he'
        split at he'
        · rename_i qq
          obtain ⟨rfl,rfl⟩:=qq
          injection he' with he'
          subst he'
          exact hdm k hkm (by simpa using (EB.deep_iff hor k1).1 hk')
        · rename_i qq
          exact qq (h.inj _ _ _ _ _ _ k he' he hl' rfl hk' (hmB k hkm)))
    have he2:((S.setE g j (.deep true t sz' n (rows.set idx (s4 r off us0)))).lay grp y.2).ent g j=some (.deep true t sz' n (rows.set idx (s4 r off us0))):=by rw [a6g hgg]; exact he1
    have hyl:y.1.length=m:=by rw [← hy,c8z,hml]
    have hor':w.ownsRow 0 t sz' (ι' g j) n flat:=by rw [hne g j hgg]; exact hor
    have hDD : ∀ k,S.D k→((S.setE g j (.deep true t sz' n (rows.set idx (s4 r off us0)))).lay grp y.2).D k:=fun k x=>b1J (P6.2 x)
    have hιD : ∀ g' j',S.D g'→ι' g' j'=ι g' j':=fun g' j' x=>hne g' j' fun q=>hn (q▸x)
    have k2:=kl0 (D':=((S.setE g j (.deep true t sz' n (rows.set idx (s4 r off us0)))).lay grp y.2).D) (ι':=ι') hDD hιD hyl (KL.ofRC hrc)
    have k1':=kl0 (D':=((S.setE g j (.deep true t sz' n (rows.set idx (s4 r off us0)))).lay grp y.2).D) (ι':=ι') hDD hιD hus0l (hus0▸km.bots.mono (fun _ _ _=>rfl) (fun _ x=>x) hDD hιD (fun _ _=>rfl))
    have rel3:=rel2.write he2 rfl (e':=.deep true t sz' n (rows.set idx (s4 r off y.1))) ⟨rfl,rfl,rfl⟩ rfl (fun _ _=>rfl)
      (fun _=>⟨flat,_,hor',k2.mono (fun _ _ _=>rfl) (fun _ x=>x) (fun k x=>P6.2 x) (fun _ _ _=>rfl) (fun _ _=>rfl),by simpa using hrn,hrl' _ hyl,by rw [hne g j hgg]; simpa using hnd2,fun q=>by cases q⟩)
      (fun q hq=>(EB.deep_iff hor' k1').2 ((EB.deep_iff hor' k2).1 hq))
    obtain ⟨c,hrd',hvc⟩:=a4u hrc hrv
    refine ⟨_,c,w,F,ι',a4B ho htf (by rw [hc,hk]) hseg hrd',.inl rfl,?_⟩
    have hput:=rel3.put ob.dst (hvc.mono (fun _ _ _=>rfl) (fun _ x=>x) (fun k x=>P6.2 x) (fun _ _ _=>rfl))
    rw [← c7y hgg,d69] at hput
    exact hput
def a9p (cx:Cx) (ty:Nat) (x:V) (r:List V):a5 t7 :=
  match cx.T ty with
  | none=>a5.no
  | some ti=>match x with
    | .eptr g j sz idx off=>a5.bind (a5.rd g j) fun e=>match e with
      | .deep _ t sz' n rows =>
        let m:=if ti.agg then ti.size else 1
        if sz'=sz∧off+m≤sz∧((r.drop off).take m).all V.plain then
          match Q6 ti ((r.drop off).take m) with
          | some v=>a5.pure { v:=v,obl:=[rows[idx]?=some r] }
          | none=>a5.no
        else a5.no
      | _=>a5.no
    | _=>a5.no
theorem d8Z (h:m3 Γ F ι S a w) {grp:Nat} {ob:Oper} {ty:Nat} {x:Operand} {r:List V} (ho:ob.op = .load ty x) {out:t7} {lg:List (Nat×Nat)} (hp:a9p cx ty (j8 S.t x) r S.ent=some (out,lg)) (hob : ∀ p∈out.obl,p):S5 cx.P Γ ι S grp ob out a w:=by
  have hx:=A4 h.tmps x
  unfold a9p at hp
  cases hti:cx.T ty with
  | none=>rw [hti] at hp; cases hp
  | some ti =>
  rw [hti] at hp
  obtain ⟨i,d,z,htf⟩:=cx.tf hti
  generalize j8 S.t x=xv at hp hx
  cases xv<;>try (cases hp; done)
  case eptr g j sz idx off =>
    obtain ⟨hD,b,hι,hc⟩:=hx.inv_eptr
    obtain ⟨e,l1,l2,hrd,hp',hl12⟩:=a5.bind_some hp
    clear hp
    have he:=(a5.rd_some hrd).1
    simp only at he
    cases e<;>try (cases hp'; done)
    rename_i o t sz' n rows
    simp only at hp'
    obtain ⟨m,hm⟩ : ∃ m,(if ti.agg=true then ti.size else 1)=m:=⟨_,rfl⟩
    rw [hm] at hp'
    split at hp'<;>try (cases hp'; done)
    rename_i hcond
    obtain ⟨rfl,hc1,hc2⟩:=hcond
    cases hrv:Q6 ti ((r.drop off).take m) with
    | none=>rw [hrv] at hp'; cases hp'
    | some v =>
    rw [hrv] at hp'
    have:=a5.pure_some hp'
    injection this with h2 h3
    subst h2
    have hr:rows[idx]?=some r:=hob _ (by simp)
    obtain ⟨flat,fs,hor,hkl,hrn,hl,hnd,hnr⟩:=h.ents g j _ he
    obtain ⟨hseg,hmid,hle⟩:=b6e hor hrn hl hι hr hc1
    obtain ⟨fa,fm,fb,rfl,ka,km,kb⟩:=hkl.cut hle
    rw [hmid] at km
    obtain ⟨c,hrd',hvc⟩:=a4u (D:=S.D) (ι:=ι) ((km.plain hc2).all2.imp fun _ _ x=>.fv _ _ x) hrv
    exact ⟨_,c,w,F,ι,a4B ho htf hc hseg hrd',.inl rfl,by rw [a37]; exact h.put ob.dst hvc⟩
def a97 (cx:Cx) (grp ty:Nat) (l c:V) (ck om:List (Option Nat)):a5 t7 :=
  match cx.T ty with
  | some ti=>match ti.sl with
    | some e=>match cx.T e with
      | some ei=>match l,c with
        | .i _ n,.i _ n'=>a5.bind (a1E ck om ei.zero) fun f =>
          if f.ks.isEmpty∧f.ls.isEmpty then
            a5.pure { v:=.own grp 0 ei.size 0 n.toNat,new:=some [.deep false e ei.size n.toNat (List.replicate n.toNat f.v)],obl:=[0≤n,n'=n,n * ei.bytes≤140737488355328∧0<ei.bytes,ei.zero.length=ei.size]++f.obl }
          else a5.no
        | _,_=>a5.no
      | none=>a5.no
    | none=>a5.no
  | none=>a5.no
theorem BL.replicate {w:World} {F D:Nat→Prop} {ι:Nat→Nat→Value} {vs:List V} {cs:List Value} (h:KL w F D ι vs cs []) : ∀ n,KL w F D ι (List.replicate n vs).flatten (List.replicate n cs).flatten []
  | 0=>.nil
  | n+1=>by
    rw [List.replicate_succ,List.replicate_succ,List.flatten_cons,List.flatten_cons]
    exact h.app (BL.replicate h n)
theorem d7u (h:m3 Γ F ι S a w) {grp:Nat} (hg:grp<S.h.length) (hn : ¬ S.D grp) {ob:Oper} {ty:Nat} {l c:Operand} (ho:ob.op = .makeSlice ty l c) {ck om:List (Option Nat)} {out:t7} {lg:List (Nat×Nat)} (hp:a97 cx grp ty (j8 S.t l) (j8 S.t c) ck om S.ent=some (out,lg)) (hob : ∀ p∈out.obl,p):S5 cx.P Γ ι S grp ob out a w:=by
  have hl:=A4 h.tmps l
  have hc:=A4 h.tmps c
  unfold a97 at hp
  cases hti:cx.T ty with
  | none=>rw [hti] at hp; cases hp
  | some ti =>
  rw [hti] at hp
  simp only at hp
  cases hs:ti.sl with
  | none=>rw [hs] at hp; cases hp
  | some e =>
  rw [hs] at hp
  simp only at hp
  cases hei:cx.T e with
  | none=>rw [hei] at hp; cases hp
  | some ei =>
  rw [hei] at hp
  simp only at hp
  generalize j8 S.t l=lv at hp hl
  generalize j8 S.t c=cv at hp hc
  cases lv<;>try (cases hp; done)
  cases cv<;>try (cases hp; done)
  rename_i k n k' n'
  simp only at hp
  obtain ⟨f,l1,l2,hf,hp',_⟩:=a5.bind_some hp
  clear hp
  split at hp'<;>try (cases hp'; done)
  rename_i hcond
  have:=a5.pure_some hp'
  injection this with h3 h4
  subst h3
  have p1:0≤n:=hob _ (by simp)
  have p2:n'=n:=hob _ (by simp)
  have p3:n * ei.bytes≤140737488355328∧0<ei.bytes:=hob _ (by simp)
  have p4:ei.zero.length=ei.size:=hob _ (by simp)
  have p5 : ∀ p∈f.obl,p:=fun p hp=>hob p (List.mem_append.2 (.inr hp))
  subst p2
  obtain ⟨m,rfl⟩:=Int.eq_ofNat_of_zero_le p1
  obtain ⟨i,d,z,htf⟩:=cx.tf hti
  obtain ⟨i',d',z',hef⟩:=cx.tf hei
  obtain rfl:=htf.isSl hs
  have hzs:z'.cells.size=ei.size:=by rw [← p4,← hef.zeros]; simp
  have hb1:m * ei.bytes≤140737488355328:=by
    have:=p3.1
    rw [← Int.natCast_mul] at this
    omega
  have hb2:m≤140737488355328:=Nat.le_trans (Nat.le_mul_of_pos_right _ p3.2) hb1
  obtain ⟨w',hr,hown,hgr⟩:=run_make_full (P:=cx.P) w 0 ty e i' z' ei.size htf.und hef.info hef.zero hef.size k k' m (by rw [hef.bytes,Nat.mul_comm]; omega) (by unfold maxLen; omega) (Nat.zero_le _)
  have hrun:(execOp a.eval ob).run cx.P w = .ok (.value (.slice (some ⟨w.heap.size,0,none⟩) m m)) w':=by
    simp [execOp,ho,hl.inv_i,hc.inv_i,hr]
  have hz:n5 (RC w F S.D ι) ei.zero z'.cells.toList:=by
    rw [← hef.zeros]
    exact (FL.ofCells (w:=w) (F:=F) _ hef.one).all2.imp fun _ _ x=>.fv _ _ x
  obtain ⟨fp,hbl,hfps,hh⟩:=a9S (F1:=F) h (fun _ x=>x) hz hf p5 (by rw [List.isEmpty_iff.1 hcond.2]; intro id hid; cases hid)
  have hfp:fp=[]:=by
    rw [List.isEmpty_iff.1 hcond.1] at hfps
    cases hfps
    rfl
  subst hfp
  have hs':F6 w w' F:=a0Y fun g hg=>hgr.block g (h.F1 g hg) (by simp)
  have hbl':BL w' F f.v z'.cells.toList []:=hbl.mono hs' (fun _ x=>x) (fun k hk=>by cases hk)
  have hrowl : ∀ r∈List.replicate m f.v,r.length=ei.size:=fun r hr=>by
    rw [(List.mem_replicate.1 hr).2,hbl.len]
    simpa using hzs
  have hkl : ∀ {D:Nat→Prop} {ι:Nat→Nat→Value},KL w' F D ι (List.replicate m f.v).flatten (List.replicate m z'.cells.toList).flatten []:=BL.replicate hbl'.kl m
  have hown':=hown
  rw [← hzs,b1K,hzs] at hown'
  have hor:RE w' F (S.lay grp [.deep false e ei.size m (List.replicate m f.v)]).D (J7 ι grp (.slice (some ⟨w.heap.size,0,none⟩) m m)) (.deep false e ei.size m (List.replicate m f.v)) (.slice (some ⟨w.heap.size,0,none⟩) m m) :=
    ⟨_,[],hown',hkl,by simp,hrowl,by simp [A8,t9],fun _=>F4.of_flat fun v hv=>by
      obtain ⟨q,hq,hv⟩:=List.mem_flatten.1 hv
      rw [(List.mem_replicate.1 hq).2] at hv
      exact hbl.noRef v hv⟩
  have hrel:=h.new1 hg hn hgr (ent:=.deep false e ei.size m (List.replicate m f.v)) (c0:=.slice (some ⟨w.heap.size,0,none⟩) m m) (by
    intro q hq
    have:=(EB.deep_iff (D:=fun _=>True) (ι:=fun _ _=>.nilFunc) hown' hkl).1 hq
    simp [A8,t9] at this
    omega) hor
  refine ⟨_,_,_,F,J7 ι grp (.slice (some ⟨w.heap.size,0,none⟩) m m),hrun,.inl rfl,?_⟩
  exact hrel.put ob.dst (.cell (RC.wholeO (a0e hg) N0 hown'))
end
def a5e:List (List Int×V)→List Int→V→V
  | [],_,z=>z
  | p::es,k,z=>if k==p.1 then p.2 else a5e es k z
def a2X:List (List Int×V)→List Int→V→List (List Int×V)
  | [],k,v=>[(k,v)]
  | p::es,k,v=>if k==p.1 then (p.1,v)::es else p::a2X es k v
def Z8:List (List Int×V)→List Int→Nat→Option (Nat×Value)
  | [],_,_=>none
  | p::es,k,i=>if k==p.1 then some (i,p.2.conc) else Z8 es k (i+1)
theorem c7J {P:Program} {w:World} {r:Nat} {es:Array MapEntry} {clock:Nat} (o:Obj) (hb:w.heap[r]?=some (.map es clock)):(setObj r o).run P w = .ok () { w with heap:=w.heap.setIfInBounds r o }:=by
  simp [setObj,Sem.run,hb]
theorem c7i {w:World} {r:Nat} {o o':Obj} (hb:w.heap[r]?=some o):(w.heap.setIfInBounds r o')[r]?=some o' ∧ ∀ r',r'≠r→(w.heap.setIfInBounds r o')[r']?=w.heap[r']?:=by
  have hlt:=(Array.getElem?_eq_some_iff.1 hb).1
  exact ⟨by simp [hlt],fun r' q=>by rw [Array.getElem?_setIfInBounds_ne (Ne.symm q)]⟩
theorem c0G (z:V) (k:List Int) : ∀ (es:List (List Int×V)) (i:Nat),(a5e es k z).conc=match Z8 es k i with
    | some (_,v)=>v
    | none=>z.conc
  | [],_=>rfl
  | p::es,i=>by
    unfold a5e Z8
    split
    · rfl
    · exact c0G z k es (i+1)
theorem RV.simple {w:World} {F D:Nat→Prop} {ι:Nat→Nat→Value} {v:V} {c:Value} (h:RV w F D ι v c) (hv:v.simple=true):c=v.conc:=by
  cases h with
  | one v c h =>
    cases h with
    | cell v c h =>
      cases h with
      | fv v c h=>cases h<;>first | rfl | (cases hv; done)
      | _=>cases hv
    | agg cs ds h=>cases hv
  | tup cs ds h=>cases hv
  | any c=>cases hv
section
variable {P:Program} {kt m:Nat} {w:World}
theorem b7K (hE : ∀ (xs ys:List Int) (w:World),xs.length=m→ys.length=m→(Op.equal kt (kv xs) (kv ys)).run P w = .ok (xs==ys) w) {k:List Int} (hk:k.length=m) : ∀ (es:List (List Int×V)) (l:List MapEntry) (i:Nat),l.map (fun e=>(e.key,e.val))=es.map (fun p=>(kv p.1,p.2.conc))→(∀ p∈es,p.1.length=m)→(Instr.findAsking kt (kv k) l i).run P w = .ok (Z8 es k i) w
  | [],[],i,_,_=>by simp [Instr.findAsking,Z8]
  | [],_::_,_,h,_=>by cases h
  | _::_,[],_,h,_=>by cases h
  | p::es,e::l,i,h,hl=>by
    simp only [List.map_cons,List.cons.injEq,Prod.mk.injEq] at h
    obtain ⟨⟨h1,h2⟩,h3⟩:=h
    unfold Instr.findAsking
    rw [h1]
    simp only [Sem.run_bind,hE k p.1 w hk (hl p (by simp)),Result.andThen_ok]
    unfold Z8
    by_cases q:(k==p.1)=true
    · rw [if_pos q,if_pos q,h2]
      rfl
    · rw [if_neg q,if_neg q]
      exact b7K hE hk es l (i+1) h3 fun p hp=>hl p (by simp [hp])
theorem d56 : ∀ (n:Nat) (xs:List Int),Instr.sameBits (n+2) (kv xs) (kv xs)=true:=by
  intro n xs
  unfold kv Instr.sameBits
  simp only [List.size_toArray,beq_self_eq_true,Bool.true_and]
  induction xs with
  | nil=>rfl
  | cons x xs ih =>
    simp only [List.map_cons,List.zip_cons_cons,List.all_cons,Bool.and_eq_true]
    exact ⟨by simp [Instr.sameBits],by simpa using ih⟩
theorem c7Y {k:List Int} {j:Nat} {v:Value} : ∀ {es:List (List Int×V)} {i:Nat},Z8 es k i=some (j,v)→i≤j
  | [],_,h=>by cases h
  | p::es,i,h=>by
    unfold Z8 at h
    split at h
    · injection h with h; injection h with h; omega
    · have:=c7Y h; omega
theorem c8u {k:List Int} {x:V} {v:Value} : ∀ {es:List (List Int×V)} {l:List MapEntry} {i j:Nat},l.map (fun e=>(e.key,e.val))=es.map (fun p=>(kv p.1,p.2.conc))→Z8 es k i=some (j,v) →
    (∃ e,l[j - i]?=some e∧e.key=kv k)∧((l.modify (j - i) fun e=>{ e with key:=kv k,val:=x.conc }).map (fun e=>(e.key,e.val))=(a2X es k x).map (fun p=>(kv p.1,p.2.conc)))
  | [],_,_,_,_,h=>by cases h
  | _::_,[],_,_,h,_=>by cases h
  | p::es,e::l,i,j,h,hf=>by
    simp only [List.map_cons,List.cons.injEq,Prod.mk.injEq] at h
    obtain ⟨⟨h1,h2⟩,h3⟩:=h
    unfold Z8 at hf
    unfold a2X
    split at hf
    · rename_i q
      injection hf with hf
      injection hf with hf1 hf2
      subst hf1
      have:k=p.1:=by simpa using q
      rw [Nat.sub_self,if_pos q]
      exact ⟨⟨e,rfl,by rw [h1,this]⟩,by simp [List.modify_cons,h3,this]⟩
    · rename_i q
      rw [if_neg q]
      have hge:=c7Y hf
      obtain ⟨⟨e',h4,h5⟩,h6⟩:=c8u (x:=x) h3 hf
      obtain ⟨d,hd⟩ : ∃ d,j - i=d+1:=⟨j - i - 1,by omega⟩
      have hd':j - (i+1)=d:=by omega
      rw [hd'] at h4 h6
      rw [hd]
      refine ⟨⟨e',by simpa using h4,h5⟩,?_⟩
      rw [List.modify_succ_cons]
      simp only [List.map_cons,h1,h2,h6]
theorem c6W {k:List Int} {x:V} : ∀ {es:List (List Int×V)} {i:Nat},Z8 es k i=none→a2X es k x=es++[(k,x)]
  | [],_,_=>rfl
  | p::es,i,h=>by
    unfold Z8 at h
    unfold a2X
    split at h
    · cases h
    · rename_i q
      rw [if_neg q,c6W h]
      rfl
theorem c3G {k:List Int} {x:V} {p:List Int×V→Prop} : ∀ {es:List (List Int×V)},(∀ q∈es,p q)→(∀ q∈es,p (q.1,x))→p (k,x) → ∀ q∈a2X es k x,p q
  | [],_,_,h3,q,hq=>by
    simp only [a2X,List.mem_singleton] at hq
    subst hq
    exact h3
  | e::es,h1,h2,h3,q,hq=>by
    unfold a2X at hq
    split at hq
    · rcases List.mem_cons.1 hq with rfl | hq
      · exact h2 e (by simp)
      · exact h1 q (by simp [hq])
    · rcases List.mem_cons.1 hq with rfl | hq
      · exact h1 _ (by simp)
      · exact c3G (fun q hq=>h1 q (by simp [hq])) (fun q hq=>h2 q (by simp [hq])) h3 q hq
end
section
variable {cx:Cx} {Γ:L6} {F:Nat→Prop} {ι:Nat→Nat→Value} {S S':St} {a:Act} {w:World}
theorem RV.inv_mp {D:Nat→Prop} {g j:Nat} {c:Value} (h:RV w F D ι (.mp g j) c):D g ∧ ∃ b,ι g j = .map (some b)∧c = .map (some b):=by
  cases h with
  | one v c h=>cases h with
    | cell v c h=>cases h with
      | fv v c h=>cases h
      | mp g j b h1 h2=>exact ⟨h1,b,h2,rfl⟩
def b8R (cx:Cx) (grp ty:Nat):Option t7 :=
  match cx.M ty with
  | some (_,m,_)=>some { v:=.mp grp 0,new:=some [.map ty m []] }
  | none=>none
theorem d1u (h:m3 Γ F ι S a w) {grp:Nat} (hg:grp<S.h.length) (hn : ¬ S.D grp) {ob:Oper} {ty:Nat} (ho:ob.op = .makeMap ty none) {out:t7} (hp:b8R cx grp ty=some out):S5 cx.P Γ ι S grp ob out a w:=by
  unfold b8R at hp
  split at hp<;>try (cases hp; done)
  injection hp with hp
  subst hp
  rename_i kt m z hM
  have hrun:(execOp a.eval ob).run cx.P w = .ok (.value (.map (some w.heap.size))) (w.alloc (.map #[] 0)):=by
    simp only [execOp,ho,Option.map_none]
    rfl
  have hrel:=h.new1 hg hn (a3L w (.map #[] 0)) (ent:=.map ty m []) (c0:=.map (some w.heap.size))
    (by intro k hk; simp [EB,t9] at hk; omega) ⟨w.heap.size,#[],0,rfl,a5B w _,rfl,fun p hp=>by cases hp⟩
  refine ⟨_,_,_,F,J7 ι grp (.map (some w.heap.size)),hrun,.inl rfl,?_⟩
  exact hrel.put ob.dst (.cell (.mp grp 0 w.heap.size (a0e hg) N0))
def a9Q (cx:Cx) (ty:Nat) (x ix:V):a5 t7 :=
  match cx.M ty with
  | none=>a5.no
  | some (kt,m,z)=>match x,ix with
    | .mp g j,.agg ks=>match a1T ks with
      | some xs=>a5.bind (a5.rd g j) fun e=>match e with
        | .map t' m' es=>if m'=m∧xs.length=m then a5.pure { v:=a5e es xs z } else a5.no
        | _=>a5.no
      | none=>a5.no
    | _,_=>a5.no
theorem c5Q {xs:List Int} {z:V} (hz:z.simple=true) : ∀ {es:List (List Int×V)},(∀ p∈es,p.2.simple=true)→(a5e es xs z).simple=true
  | [],_=>hz
  | p::es,h=>by
    unfold a5e
    split
    · exact h p (by simp)
    · exact c5Q hz fun p hp=>h p (by simp [hp])
theorem d7T (h:m3 Γ F ι S a w) {grp:Nat} {ob:Oper} {ty:Nat} {x ix:Operand} (ho:ob.op = .lookup ty x ix false) {out:t7} {lg:List (Nat×Nat)} (hp:a9Q cx ty (j8 S.t x) (j8 S.t ix) S.ent=some (out,lg)):S5 cx.P Γ ι S grp ob out a w:=by
  have hx:=A4 h.tmps x
  have hi:=A4 h.tmps ix
  unfold a9Q at hp
  cases hM:cx.M ty with
  | none=>rw [hM] at hp; cases hp
  | some q =>
  obtain ⟨kt,m,z⟩:=q
  rw [hM] at hp
  simp only at hp
  generalize j8 S.t x=xv at hp hx
  generalize j8 S.t ix=iv at hp hi
  cases xv<;>try (cases hp; done)
  cases iv<;>try (cases hp; done)
  rename_i g j ks
  simp only at hp
  cases hks:a1T ks with
  | none=>rw [hks] at hp; cases hp
  | some xs =>
  rw [hks] at hp
  obtain ⟨e,l1,l2,hrd,hp',hl12⟩:=a5.bind_some hp
  clear hp
  have he:=(a5.rd_some hrd).1
  simp only at he hp'
  cases e<;>try (cases hp'; done)
  rename_i t' m' es
  simp only at hp'
  split at hp'<;>try (cases hp'; done)
  rename_i hcond
  obtain ⟨rfl,hlen⟩:=hcond
  have:=a5.pure_some hp'
  injection this with h2 h3
  subst h2
  obtain ⟨hD,b,hι,hc⟩:=hx.inv_mp
  obtain ⟨ds,hds,hall⟩:=hi.inv_agg
  have hints:=b3i hall hks
  subst hints
  obtain ⟨b',arr,clock,hb,hheap,hes,hok⟩:=h.ents g j _ he
  rw [hι] at hb
  injection hb with hb
  injection hb with hb
  subst hb
  obtain ⟨vt,hu,hE,hwide,hz,hzs,hck⟩:=cx.hM ty kt m' z hM
  have hck' : ∀ em,(Instr.checkKey em 10000 kt (kv xs)).run cx.P w = .ok () w:=fun em=>hck em xs w hlen
  have hfind:(Instr.findKey kt (kv xs) arr.toList).run cx.P w = .ok (Z8 es xs 0) w:=by
    rw [run_findKey_eq w (by unfold b7M at hwide; exact hwide)]
    exact b7K (fun xs ys w h1 h2=>cx.hE kt m' hE xs ys w h1 h2) hlen es arr.toList 0 hes fun p hp=>(hok p hp).1
  have hrun:(execOp a.eval ob).run cx.P w = .ok (.value (a5e es xs z).conc) w:=by
    rw [c0G z xs es 0]
    simp only [execOp,ho,hc,hds,Instr.lookup,Sem.run_bind,run_underlying hu,Result.andThen_ok,run_getObj_map w b arr clock hheap]
    rw [show (Value.agg (xs.map (Value.int .i64)).toArray)=kv xs from rfl]
    simp only [Sem.run_pure,Sem.run_bind,hck',Result.andThen_ok,hfind]
    cases Z8 es xs 0 with
    | none=>simp [hz,Sem.run_bind]
    | some q=>simp
  have hs:=c5Q (xs:=xs) hzs fun p hp=>(hok p hp).2
  refine ⟨_,_,w,F,ι,hrun,.inl rfl,?_⟩
  rw [a37]
  exact h.put ob.dst (.fv (FV.conc hs))
def a9t (cx:Cx) (ty:Nat) (x ix y:V):a5 t7 :=
  match cx.M ty with
  | none=>a5.no
  | some (kt,m,z)=>match x,ix with
    | .mp g j,.agg ks=>match a1T ks with
      | some xs=>a5.bind (a5.rd g j) fun e=>match e with
        | .map t' m' es=>if m'=m∧xs.length=m∧y.simple=true then a5.pure { v:=.bot,upd:=[((g,j),.map t' m (a2X es xs y))] } else a5.no
        | _=>a5.no
      | none=>a5.no
    | _,_=>a5.no
theorem d6P (h:m3 Γ F ι S a w) {grp:Nat} {ob:Oper} {ty:Nat} {x ix y:Operand} (ho:ob.op = .mapUpdate ty x ix y) (hd:ob.dst=none) {out:t7} {lg:List (Nat×Nat)} (hp:a9t cx ty (j8 S.t x) (j8 S.t ix) (j8 S.t y) S.ent=some (out,lg)):S5 cx.P Γ ι S grp ob out a w:=by
  have hx:=A4 h.tmps x
  have hi:=A4 h.tmps ix
  have hy:=A4 h.tmps y
  unfold a9t at hp
  cases hM:cx.M ty with
  | none=>rw [hM] at hp; cases hp
  | some q =>
  obtain ⟨kt,m,z⟩:=q
  rw [hM] at hp
  simp only at hp
  generalize j8 S.t x=xv at hp hx
  generalize j8 S.t ix=iv at hp hi
  generalize j8 S.t y=yv at hp hy
  cases xv<;>try (cases hp; done)
  cases iv<;>try (cases hp; done)
  rename_i g j ks
  simp only at hp
  cases hks:a1T ks with
  | none=>rw [hks] at hp; cases hp
  | some xs =>
  rw [hks] at hp
  obtain ⟨e,l1,l2,hrd,hp',hl12⟩:=a5.bind_some hp
  clear hp
  have he:=(a5.rd_some hrd).1
  simp only at he hp'
  cases e<;>try (cases hp'; done)
  rename_i t' m' es
  simp only at hp'
  split at hp'<;>try (cases hp'; done)
  rename_i hcond
  obtain ⟨rfl,hlen,hys⟩:=hcond
  have:=a5.pure_some hp'
  injection this with h2 h3
  subst h2
  obtain ⟨hD,b,hι,hc⟩:=hx.inv_mp
  obtain ⟨ds,hds,hall⟩:=hi.inv_agg
  have hints:=b3i hall hks
  subst hints
  have hyc:=hy.simple hys
  obtain ⟨b',arr,clock,hb,hheap,hes,hok⟩:=h.ents g j _ he
  rw [hι] at hb
  injection hb with hb
  injection hb with hb
  subst hb
  obtain ⟨vt,hu,hE,hwide,hz,hzs,hck⟩:=cx.hM ty kt m' z hM
  have hck' : ∀ em,(Instr.checkKey em 10000 kt (kv xs)).run cx.P w = .ok () w:=fun em=>hck em xs w hlen
  have hfind:(Instr.findKey kt (kv xs) arr.toList).run cx.P w = .ok (Z8 es xs 0) w:=by
    rw [run_findKey_eq w (by unfold b7M at hwide; exact hwide)]
    exact b7K (fun xs ys w h1 h2=>cx.hE kt m' hE xs ys w h1 h2) hlen es arr.toList 0 hes fun p hp=>(hok p hp).1
  have hlt:b<w.heap.size:=(Array.getElem?_eq_some_iff.1 hheap).1
  obtain ⟨arr',clock',hrun,hes'⟩ : ∃ arr' clock',(execOp a.eval ob).run cx.P w = .ok .skip { w with heap:=w.heap.setIfInBounds b (.map arr' clock') }∧arr'.toList.map (fun e=>(e.key,e.val))=(a2X es xs yv).map (fun p=>(kv p.1,p.2.conc)):=by
    have e0:(Value.agg (xs.map (Value.int .i64)).toArray)=kv xs:=rfl
    cases hf:Z8 es xs 0 with
    | none =>
      refine ⟨arr.push { key:=kv xs,val:=yv.conc,born:=clock },clock+1,?_,?_⟩
      · simp only [execOp,ho,hc,hds,hyc,Instr.mapUpdate,Sem.run_bind,run_underlying hu,Result.andThen_ok,run_getObj_map w b arr clock hheap]
        rw [e0]
        simp only [Sem.run_pure,Sem.run_bind,hck',Result.andThen_ok,hfind,hf,c7J _ hheap]
      · rw [c6W hf]
        simp [hes]
    | some q =>
      obtain ⟨i,v⟩:=q
      obtain ⟨⟨e,he1,he2⟩,he3⟩:=c8u (x:=yv) hes hf
      rw [Nat.sub_zero] at he1 he3
      have hkey:((arr[i]?).map (·.key)).getD (kv xs)=kv xs:=by
        have:arr[i]?=some e:=by simpa using he1
        rw [this]
        exact he2
      refine ⟨arr.modify i fun e=>{ e with key:=kv xs,val:=yv.conc },clock,?_,?_⟩
      · simp only [execOp,ho,hc,hds,hyc,Instr.mapUpdate,Sem.run_bind,run_underlying hu,Result.andThen_ok,run_getObj_map w b arr clock hheap]
        rw [e0]
        simp only [Sem.run_pure,Sem.run_bind,hck',Result.andThen_ok,hfind,hf,hkey,Instr.keyThatStays,d56 9998,if_true,c7J _ hheap]
      · rw [Array.toList_modify]
        exact he3
  refine ⟨_,undef,_,F,ι,hrun,.inr ⟨rfl,rfl⟩,?_⟩
  rw [hd,b0R,b0c]
  have hsz:(w.heap.setIfInBounds b (.map arr' clock')).size=w.heap.size:=by simp
  refine h.write he rfl ⟨rfl,rfl,rfl⟩ hsz (fun k hk => ?_) (fun _ => ?_) (fun k hk=>hk)
  · refine (c7i hheap).2 k fun q=>hk ?_
    rw [q,hι]
    rfl
  · exact ⟨b,arr',clock',hι,(c7i hheap).1,hes',c3G hok (fun q hq=>⟨(hok q hq).1,hys⟩) ⟨hlen,hys⟩⟩
end
section
variable {cx:Cx} {Γ:L6} {F:Nat→Prop} {ι:Nat→Nat→Value} {S S':St} {a:Act} {w:World}
theorem m3.killsR : ∀ {ks:List (Nat×Nat)} {S:St},m3 Γ F ι S a w→(∀ id∈ks,∃ e,S.ent id.1 id.2=some e)→m3 Γ F ι (S.upds (C5 ks)) a w
  | [],S,h,_=>h
  | id::ks,S,h,hk=>by
    obtain ⟨e,he⟩:=hk id (by simp)
    refine m3.killsR (S:=S.setE id.1 id.2 .dead) (h.kill he) fun id' hid => ?_
    obtain ⟨e',he'⟩:=hk id' (by simp [hid])
    rw [O2 he]
    split
    · exact ⟨_,rfl⟩
    · exact ⟨e',he'⟩
theorem F4.flatB {rows:List (List V)} (h:F4 rows):rows.flatten.all (fun v => !v.isRef)=true:=by
  rw [List.all_eq_true]
  intro v hv
  obtain ⟨r,hr,hv⟩:=List.mem_flatten.1 hv
  rw [h r hr v hv]
  rfl
theorem m3.layDeep (h:m3 Γ F ι S a w) {grp:Nat} (hgl:grp<S.h.length) (hn : ¬ S.D grp) {X:Option Nat} {w':World} (hgr:w.grownBy w' X)
    (hX : ∀ k,X=some k → ¬ F k∧(Γ.own k∨Γ.w0.heap.size≤k) ∧ ∀ g j e,S.ent g j=some e→e.live=true → ¬ EB w e (ι g j) k)
    {e sz n:Nat} {rows:List (List V)} {sv:Value} {flat:List Value} {fs:List Nat} (hown:w'.ownsRow 0 e sz sv n flat) (hbl:BL w F rows.flatten flat fs) (hlen:rows.length=n) (hl : ∀ r∈rows,r.length=sz)
    (hsv : ∀ k,t9 sv=some k→X=some k∨w.heap.size≤k)
    (hfs : ∀ k∈fs,¬ F k∧(Γ.own k∨Γ.w0.heap.size≤k)∧(∀ g j e,S.ent g j=some e→e.live=true → ¬ EB w e (ι g j) k)∧X≠some k) (hnd:fs.Nodup) :
    m3 Γ F (J7 ι grp sv) (S.lay grp [.deep false e sz n rows]) a w'∧RC w' F (S.lay grp [.deep false e sz n rows]).D (J7 ι grp sv) (.own grp 0 sz 0 n) sv:=by
  have hs:F6 w w' F:=a0Y fun g hF=>hgr.block g (h.F1 g hF) fun q=>(hX g q.symm).1 hF
  have hlt:=hbl.lt
  have hbl':BL w' F rows.flatten flat fs:=hbl.mono hs (fun _ x=>x) fun k hk=>hgr.block k (hlt k hk) fun q=>(hfs k hk).2.2.2 q.symm
  have hkl : ∀ {D:Nat→Prop} {ι:Nat→Nat→Value},KL w' F D ι rows.flatten flat fs:=hbl'.kl
  have hEB : ∀ k,EB w' (.deep false e sz n rows) sv k→(X=some k∨w.heap.size≤k)∨k∈fs:=by
    intro k hk
    rcases List.mem_append.1 ((EB.deep_iff (D:=fun _=>True) (ι:=fun _ _=>.nilFunc) hown hkl).1 hk) with q | q
    · exact .inl (hsv k (P2.1 q))
    · exact .inr q
  have h':=h.world2 hgr hX
  have hback : ∀ {g' j' e' k},S.ent g' j'=some e'→e'.live=true→EB w' e' (ι g' j') k→EB w e' (ι g' j') k:=fun he' hl' hk' =>
    (h.ents _ _ _ he').back (fun k q=>hgr.block k (h.lt he' hl' q) fun z=>(hX k z.symm).2.2 _ _ _ he' hl' q) hk'
  refine ⟨h'.lay hgl hn (fun g j q=>a6X q) ?_ ?_ ?_ ?_,RC.wholeO (a0e hgl) N0 hown⟩
  · intro j e1 he
    cases j with
    | succ j=>simp at he
    | zero =>
      simp at he
      subst he
      rw [N0]
      refine ⟨flat,fs,hown,hkl,hlen,hl,List.nodup_append.2 ⟨b71 sv,hnd,?_⟩,fun _=>F4.of_flat hbl.noRef⟩
      intro k hk k' hk' hkk
      subst hkk
      rcases hsv k (P2.1 hk) with q | q
      · exact (hfs k hk').2.2.2 q
      · have:=hlt k hk'
        omega
  · intro j e1 k he hl1 hk
    rw [N0] at hk
    cases j with
    | succ j=>simp at he
    | zero =>
      simp at he
      subst he
      rcases hEB k hk with (q | q) | q
      · exact ⟨(hX k q).1,(hX k q).2.1⟩
      · refine ⟨fun hF => ?_,.inr (Nat.le_trans h.kept.size q)⟩
        have:=h.F1 k hF
        omega
      · exact ⟨(hfs k q).1,(hfs k q).2.1⟩
  · intro j e1 j' e1' k he he' _ _ _ _
    cases j<;>cases j'<;>simp_all
  · intro j e1 g' j' e' k he he' _ hl' hk hk'
    rw [N0] at hk
    cases j with
    | succ j=>simp at he
    | zero =>
      simp at he
      subst he
      have hk2:=hback he' hl' hk'
      rcases hEB k hk with (q | q) | q
      · exact (hX k q).2.2 g' j' e' he' hl' hk2
      · have:=h.lt he' hl' hk2
        omega
      · exact (hfs k q).2.2.1 g' j' e' he' hl' hk2
def a8n:V→V
  | .osl .. | .dsl .. => .bot
  | v=>v
theorem KL.holes : ∀ {vs:List V} {cs:List Value} {f:List Nat} {D:Nat→Prop} {ι:Nat→Nat→Value},KL w F D ι vs cs f→vs.all (fun v => !v.isRef)=true→KL w F D ι (vs.map a8n) cs []
  | _,_,_,_,_,.nil,_=>.nil
  | _,_,_,D,ι,.cons v c f vs cs fs h t,hv=>by
    simp only [List.all_cons,Bool.and_eq_true] at hv
    have h1:KC w F D ι (a8n v) c []:=by
      have hone:=h.one
      cases h with
      | rc h =>
        have:a8n v=v:=by
          cases h with
          | fv v c h=>cases h<;>rfl
          | _=>rfl
        rw [this]
        exact .rc _ _ h
      | bc _ h=>cases h with
        | fv _ _ h =>
          have:a8n v=v:=by cases h<;>rfl
          rw [this]
          exact .rc _ _ (.fv _ _ h)
        | _=>exact .rc _ _ (.fv _ _ (.bot _ hone))
    exact .cons _ _ [] _ _ [] h1 (KL.holes t hv.2)
def a85 (cx:Cx) (grp ty:Nat) (x:V) (r:List V):a5 t7 :=
  match cx.T ty with
  | none=>a5.no
  | some ti=>match x with
    | .eptr g j sz idx off=>a5.bind (a5.rd g j) fun e=>match e with
      | .deep _ t sz' n rows =>
        let m:=if ti.agg then ti.size else 1
        let y:=I1 grp 0 ((r.drop off).take m)
        if sz'=sz∧off+m≤sz∧((r.drop off).take m).all (fun v => !v.isRef) then
          match Q6 ti y.1 with
          | some v=>a5.pure { v:=v,new:=some y.2,upd:=[((g,j),.deep true t sz n (rows.set idx (s4 r off (((r.drop off).take m).map a8n))))],obl:=[rows[idx]?=some r] }
          | none=>a5.no
        else a5.no
      | _=>a5.no
    | _=>a5.no
set_option maxHeartbeats 800000 in
theorem d4k (h:m3 Γ F ι S a w) {grp:Nat} (hg:grp<S.h.length) (hn : ¬ S.D grp) {ob:Oper} {ty:Nat} {x:Operand} {r:List V} (ho:ob.op = .load ty x) {out:t7} {lg:List (Nat×Nat)} (hp:a85 cx grp ty (j8 S.t x) r S.ent=some (out,lg)) (hob : ∀ p∈out.obl,p):S5 cx.P Γ ι S grp ob out a w:=by
  have hx:=A4 h.tmps x
  unfold a85 at hp
  cases hti:cx.T ty with
  | none=>rw [hti] at hp; cases hp
  | some ti =>
  rw [hti] at hp
  obtain ⟨i,d,z,htf⟩:=cx.tf hti
  generalize j8 S.t x=xv at hp hx
  cases xv<;>try (cases hp; done)
  case eptr g j sz idx off =>
    obtain ⟨hD,b,hι,hc⟩:=hx.inv_eptr
    obtain ⟨e,l1,l2,hrd,hp',hl12⟩:=a5.bind_some hp
    clear hp
    have he:=(a5.rd_some hrd).1
    simp only at he
    cases e<;>try (cases hp'; done)
    rename_i o t sz' n rows
    simp only at hp'
    obtain ⟨m,hm⟩ : ∃ m,(if ti.agg=true then ti.size else 1)=m:=⟨_,rfl⟩
    rw [hm] at hp'
    split at hp'<;>try (cases hp'; done)
    rename_i hcond
    obtain ⟨rfl,hc1,hc2⟩:=hcond
    obtain ⟨y,hy⟩ : ∃ y,I1 grp 0 ((r.drop off).take m)=y:=⟨_,rfl⟩
    rw [hy] at hp'
    cases hrv:Q6 ti y.1 with
    | none=>rw [hrv] at hp'; cases hp'
    | some v =>
    rw [hrv] at hp'
    have:=a5.pure_some hp'
    injection this with h2 h3
    subst h2
    have hr:rows[idx]?=some r:=hob _ (by simp)
    obtain ⟨flat,fs,hor,hkl,hrn,hl,hnd,hnr⟩:=h.ents g j _ he
    obtain ⟨hseg,hmid,hle⟩:=b6e hor hrn hl hι hr hc1
    have hrl:=hl r (List.mem_of_getElem? hr)
    have hml:((r.drop off).take m).length=m:=by simp; omega
    have hgg:g≠grp:=fun q=>hn (q▸hD)
    obtain ⟨k,hk⟩ : ∃ k,idx * sz'+off=k:=⟨_,rfl⟩
    rw [hk] at hseg hmid hle
    obtain ⟨fa,fm,fb,rfl,ka,km,kb⟩:=hkl.cut (k:=k) (m:=m) hle
    rw [hmid] at km
    have hbl:=km.toBL hc2
    have hds:(flat.drop k).take m=((flat.drop k).take m):=rfl
    have hflen:flat.length=rows.flatten.length:=hkl.len.symm
    have hspl : ∀ us:List V,us.length=m→(rows.set idx (s4 r off us)).flatten=rows.flatten.take k++(us++rows.flatten.drop (k+m)):=by
      intro us hus
      rw [a5T hl hr (by omega),hk]
      unfold s4
      rw [hus,List.append_assoc]
    have hfs:flat=flat.take k++((flat.drop k).take m++flat.drop (k+m)):=by
      rw [← List.drop_drop,List.take_append_drop,List.take_append_drop]
    have hrl' : ∀ us:List V,us.length=m → ∀ q∈rows.set idx (s4 r off us),q.length=sz':=by
      intro us hus q hq
      rcases List.mem_or_eq_of_mem_set hq with hq | rfl
      · exact hl q hq
      · rw [a2y _ _ _ (by omega)]; exact hrl
    have hnd2:(A8 (ι g j)++(fa++fb)).Nodup:=List.Nodup.sublist (List.Sublist.append_left (List.Sublist.append_left (List.sublist_append_right _ _) _) _) hnd
    have hndm:fm.Nodup:=(List.nodup_append.1 (List.nodup_append.1 (List.nodup_append.1 hnd).2.1).2.1).1
    have hdm : ∀ k∈fm,k ∉ A8 (ι g j)++(fa++fb):=by
      intro q hq hq'
      have hp:=(a43 (C:=A8 (ι g j)) (a43 (C:=fa) (List.Perm.refl (fm++fb)))).nodup_iff.1 hnd
      exact (List.nodup_append.1 hp).2.2 q hq q hq' rfl
    obtain ⟨us0,hus0⟩ : ∃ us:List V,us=((r.drop off).take m).map a8n:=⟨_,rfl⟩
    have hus0l:us0.length=m:=by rw [hus0,List.length_map,hml]
    have kl0 : ∀ {D':Nat→Prop} {ι':Nat→Nat→Value},(∀ k,S.D k→D' k)→(∀ g j,S.D g→ι' g j=ι g j) → ∀ {us:List V},us.length=m→KL w F D' ι' us ((flat.drop k).take m) []→KL w F D' ι' (rows.set idx (s4 r off us)).flatten flat (fa++([]++fb)):=by
      intro D' ι' h1 h2 us hus hku
      rw [hspl us hus,hfs]
      have l1:(flat.take k).length=k:=by simp; omega
      have e1:(flat.take k++((flat.drop k).take m++flat.drop (k+m)))=flat:=hfs.symm
      exact (ka.mono (fun _ _ _=>rfl) (fun _ x=>x) h1 h2 (fun _ _=>rfl)).app (hku.app (kb.mono (fun _ _ _=>rfl) (fun _ x=>x) h1 h2 (fun _ _=>rfl)))
    have hmem0 : ∀ q,q∈A8 (ι g j)++(fa++([]++fb))→q∈A8 (ι g j)++(fa++(fm++fb)):=by
      intro q hq
      simp only [List.mem_append,List.not_mem_nil,false_or] at hq ⊢
      rcases hq with x | x | x<;>simp [x]
    have rel1:m3 Γ F ι (S.setE g j (.deep true t sz' n (rows.set idx (s4 r off us0)))) a w:=by
      have k1:=kl0 (D':=S.D) (ι':=ι) (fun _ x=>x) (fun _ _ _=>rfl) hus0l (hus0▸km.holes hc2)
      refine h.write he rfl ⟨rfl,rfl,rfl⟩ rfl (fun _ _=>rfl) (fun _ => ?_) ?_
      · exact ⟨flat,_,hor,k1.mono (fun _ _ _=>rfl) (fun _ x=>x) (fun k x=>P6.2 x) (fun _ _ _=>rfl) (fun _ _=>rfl),by simpa using hrn,hrl' _ hus0l,by simpa using hnd2,fun q=>by cases q⟩
      · intro q hq
        exact (EB.deep_iff hor hkl).2 (hmem0 q ((EB.deep_iff hor k1).1 hq))
    have he1:(S.setE g j (.deep true t sz' n (rows.set idx (s4 r off us0)))).ent g j=some (.deep true t sz' n (rows.set idx (s4 r off us0))):=by rw [O2 he]; simp
    obtain ⟨bs,hbsl,hhas,hth⟩:=a5H (grp:=grp) hbl 0
    rw [hy] at hbsl hhas hth
    obtain ⟨ι',hι'⟩ : ∃ ι',ι'=a3O ι grp bs:=⟨_,rfl⟩
    have hne : ∀ g j,g≠grp→ι' g j=ι g j:=fun g j q=>by rw [hι']; exact b6x q
    have hlenS:grp<(S.setE g j (.deep true t sz' n (rows.set idx (s4 r off us0)))).h.length:=by rw [a6F]; exact hg
    have hnD : ¬ (S.setE g j (.deep true t sz' n (rows.set idx (s4 r off us0)))).D grp:=fun q=>hn (P6.1 q)
    have hDg:=a0e (S:=S.setE g j (.deep true t sz' n (rows.set idx (s4 r off us0)))) (new:=y.2) hlenS
    obtain ⟨hrc,hlie⟩:=hth ((S.setE g j (.deep true t sz' n (rows.set idx (s4 r off us0)))).lay grp y.2).D ι' hDg (fun q c hq=>by rw [hι',Nat.zero_add]; exact a3e hq) hndm
    have hvb : ∀ (q:Nat) (e:l7),y.2[q]?=some e→bs[q]?=some (ι' grp q):=by
      intro q e hq
      have hlt:q<bs.length:=by rw [hbsl]; exact (List.getElem?_eq_some_iff.1 hq).1
      have hv:ι' grp q=bs[q]:=by rw [hι']; exact a3e (List.getElem?_eq_getElem hlt)
      rw [hv]
      exact List.getElem?_eq_getElem hlt
    have hmB : ∀ k∈fm,EB w (.deep o t sz' n rows) (ι g j) k:=fun k hk=>(EB.deep_iff hor hkl).2 (by simp [hk])
    have k1:=kl0 (D':=S.D) (ι':=ι) (fun _ x=>x) (fun _ _ _=>rfl) hus0l (hus0▸km.holes hc2)
    have rel2:=rel1.lay hlenS hnD (new:=y.2) (ι':=ι') hne (fun q e he=>hlie q e _ he (hvb q e he))
      (fun q e k he hl hk=>h.sep _ _ _ k ‹S.ent g j=some (.deep o t sz' n rows)› rfl (hmB k (hhas.mem he (hvb q e he) hk)))
      (fun q e q' e' k he he' hl hl' hk hk'=>hhas.inj hndm he (hvb q e he) hk he' (hvb q' e' he') hk')
      (fun q e g' j' e' k he0 he' hl hl' hk hk'=>by
        have hkm:=hhas.mem he0 (hvb q e he0) hk
        rw [O2 he] at he'
        split at he'
        · rename_i qq
          obtain ⟨rfl,rfl⟩:=qq
          injection he' with he'
          subst he'
          exact hdm k hkm (by simpa using (EB.deep_iff hor k1).1 hk')
        · rename_i qq
          exact qq (h.inj _ _ _ _ _ _ k he' he hl' rfl hk' (hmB k hkm)))
    have he2:((S.setE g j (.deep true t sz' n (rows.set idx (s4 r off us0)))).lay grp y.2).ent g j=some (.deep true t sz' n (rows.set idx (s4 r off us0))):=by rw [a6g hgg]; exact he1
    obtain ⟨c,hrd',hvc⟩:=a4u hrc hrv
    refine ⟨_,c,w,F,ι',a4B ho htf (by rw [hc,hk]) hseg hrd',.inl rfl,?_⟩
    have hput:=rel2.put ob.dst hvc
    rw [hus0] at hput
    exact hput
theorem m3.shut (h:m3 Γ F ι S a w) {g j t sz n:Nat} {o:Bool} {rows:List (List V)} (he:S.ent g j=some (.deep o t sz n rows)) (hn:F4 rows):m3 Γ F ι (S.setE g j (.deep false t sz n rows)) a w:=by
  refine h.write he rfl ⟨rfl,rfl,rfl⟩ rfl (fun _ _=>rfl) (fun _ => ?_) (fun k hk=>hk)
  obtain ⟨flat,fs,q1,q2,q3,q4,q5,q6⟩:=h.ents g j _ he
  exact ⟨flat,fs,q1,q2.mono (fun _ _ _=>rfl) (fun _ x=>x) (fun k x=>P6.2 x) (fun _ _ _=>rfl) (fun _ _=>rfl),q3,q4,q5,fun _=>hn⟩
theorem b5A {g j:Nat} : ∀ {us:List L8} {S:St} {e:l7},S.ent g j=some e → ∃ e',(S.upds us).ent g j=some e'
  | [],_,e,h=>⟨e,h⟩
  | ((g',j'),e')::us,S,e,h=>by
    cases hx:S.ent g' j' with
    | none =>
      have:(S.setE g' j' e').ent g j=some e:=by
        by_cases q:g=g'∧j=j'
        · rw [q.1,q.2,hx] at h; cases h
        · rw [a3Y q]; exact h
      exact b5A (us:=us) (S:=S.setE g' j' e') this
    | some e0 =>
      have : ∃ e1,(S.setE g' j' e').ent g j=some e1:=by
        rw [O2 hx]
        split
        · exact ⟨_,rfl⟩
        · exact ⟨e,h⟩
      obtain ⟨e1,h1⟩:=this
      exact b5A (us:=us) (S:=S.setE g' j' e') h1
def b0l (cx:Cx) (ty:Nat) (x y:V) (r:List V) (ck om:List (Option Nat)):a5 t7 :=
  a5.bind (a6K cx ty x y r ck om) fun o=>match o.new,o.upd.reverse with
    | none,((g,j),.deep b t sz n rows)::us=>a5.bind (a5.rd g j) fun _=>a5.pure { v:=o.v,upd:=o.upd++[((g,j),.deep false t sz n rows)],obl:=F4 rows::o.obl }
    | _,_=>a5.no
theorem d62 {S:St} {g j:Nat} {e:l7} {t:List V}:({ S with t:=t }:St).setE g j e={ S.setE g j e with t:=t }:=by
  unfold St.setE
  cases S.h[g]? with
  | none=>rfl
  | some o=>cases o<;>rfl
theorem d8L (h:m3 Γ F ι S a w) {grp:Nat} {ob:Oper} {ty:Nat} {x y:Operand} {r:List V} {ck om:List (Option Nat)} (ho:ob.op = .store ty x y) (hd:ob.dst=none) {out:t7} {lg:List (Nat×Nat)} (hp:b0l cx ty (j8 S.t x) (j8 S.t y) r ck om S.ent=some (out,lg)) (hob : ∀ p∈out.obl,p):S5 cx.P Γ ι S grp ob out a w:=by
  unfold b0l at hp
  obtain ⟨o,l1,l2,hd1,hp',_⟩:=a5.bind_some hp
  clear hp
  simp only at hp'
  cases hnew:o.new with
  | some _=>rw [hnew] at hp'; cases hp'
  | none =>
  rw [hnew] at hp'
  cases hrev:o.upd.reverse with
  | nil=>rw [hrev] at hp'; cases hp'
  | cons u us =>
  rw [hrev] at hp'
  obtain ⟨⟨g,j⟩,e⟩:=u
  cases e<;>try (cases hp'; done)
  rename_i b t sz n rows
  simp only at hp'
  obtain ⟨e0,l3,l4,hrd,hp'',_⟩:=a5.bind_some hp'
  have he0:=(a5.rd_some hrd).1
  simp only at he0
  have:=a5.pure_some hp''
  injection this with h2 h3
  subst h2
  have hnr:F4 rows:=hob _ (by simp)
  obtain ⟨nx,c,w',F',ι',hrun,hnx,hrel⟩:=c0Z h (grp:=grp) ho hd hd1 (fun p hp=>hob p (by simp [hp]))
  refine ⟨nx,c,w',F',ι',hrun,hnx,?_⟩
  have hu:o.upd=us.reverse++[((g,j),.deep b t sz n rows)]:=by
    have:=congrArg List.reverse hrev
    simpa using this
  have happ:S.apply grp ob.dst o={ S.upds o.upd with t:=Q5 S.t ob.dst o.v }:=by
    unfold St.apply
    rw [hnew]
    simp only [St.upds_t]
  rw [happ] at hrel
  have hent:({ S.upds o.upd with t:=Q5 S.t ob.dst o.v }:St).ent g j=some (.deep b t sz n rows):=by
    show (S.upds o.upd).ent g j=_
    rw [hu,St.upds_append]
    obtain ⟨e1,he1⟩:=b5A (us:=us.reverse) he0
    show ((S.upds us.reverse).setE g j _).ent g j=_
    rw [O2 he1]
    simp
  have hs:=hrel.shut hent hnr
  rw [d62] at hs
  unfold St.apply
  simp only [St.upds_append,St.upds_t]
  exact hs
def b0m (cx:Cx) (grp ty len:Nat) (parts:List (Nat×V)) (ck om:List (Option Nat)):a5 t7 :=
  match cx.T ty with
  | some ti=>match ti.sl with
    | some e=>match cx.T e with
      | some ei=>match parts with
        | [(0,x)]=>match x.cells with
          | some cs=>a5.bind (a1E ck om cs) fun f =>
            if len=1∧cs.length=ei.size∧ei.zero.length=ei.size∧0<ei.size∧ei.size≤16777216∧a19 f.ks=true∧f.ls.isEmpty=true then
              a5.pure { v:=.own grp 0 ei.size 0 1,new:=some [.deep false e ei.size 1 [f.v]],upd:=C5 f.ks,obl:=f.obl }
            else a5.no
          | none=>a5.no
        | [] =>
          if len=0∧ei.zero.length=ei.size∧0<ei.size∧ei.size≤16777216 then
            a5.pure { v:=.own grp 0 ei.size 0 0,new:=some [.deep false e ei.size 0 []] }
          else a5.no
        | _=>a5.no
      | none=>a5.no
    | none=>a5.no
  | none=>a5.no
theorem d29 {u:Value} {ds:Array Value} {sz:Nat} (hu:u.cells.size=sz) (hd:ds.size=sz) : ∃ es:Array Value,Instr.fill (fun i=>some (i * sz,sz)) ds [(0,u)]=some es∧es.toList=u.cells.toList:=by
  have hout:=b8L u.cells.toList 0 (0 * sz) ds (by simp only [Array.length_toList]; omega)
  refine ⟨u.cells.toList.zipIdx.foldl (fun (cs:Array Value) (x:Value×Nat)=>cs.setIfInBounds (0 * sz+x.2) x.1) ds,?_,?_⟩
  · have hcond':(u.cells.size≠sz||0 * sz+u.cells.size>ds.size)=false:=by
      simp [hu]; omega
    simp only [Instr.fill,hcond']
    simp only [Bool.false_eq_true,if_false]
    congr 1
    rw [← Array.foldl_toList,Array.toList_zipIdx]
  · rw [hout,Nat.zero_mul,Nat.add_zero,c7a]
    simp only [Array.length_toList]
    omega
theorem d3A (h:m3 Γ F ι S a w) {grp:Nat} (hg:grp<S.h.length) (hn : ¬ S.D grp) {ob:Oper} {ty len:Nat} {parts:Array (Nat×Operand)} {ck om:List (Option Nat)} (ho:ob.op = .buildSlice ty len parts) {out:t7} {lg:List (Nat×Nat)}
    (hp:b0m cx grp ty len (parts.toList.map fun (i,x)=>(i,j8 S.t x)) ck om S.ent=some (out,lg)) (hob : ∀ p∈out.obl,p):S5 cx.P Γ ι S grp ob out a w:=by
  unfold b0m at hp
  cases hti:cx.T ty with
  | none=>rw [hti] at hp; cases hp
  | some ti =>
  rw [hti] at hp
  simp only at hp
  cases hsl:ti.sl with
  | none=>rw [hsl] at hp; cases hp
  | some e =>
  rw [hsl] at hp
  simp only at hp
  cases hei:cx.T e with
  | none=>rw [hei] at hp; cases hp
  | some ei =>
  rw [hei] at hp
  simp only at hp
  have hrel:=b7v h.tmps parts.toList
  generalize hpl:(parts.toList.map fun (i,x)=>(i,j8 S.t x))=pl at hp hrel
  generalize hql:(parts.toList.map fun (i,x)=>(i,a.eval x))=ql at hrel
  cases hrel with
  | nil =>
    simp only at hp
    split at hp<;>try (cases hp; done)
    rename_i hcond
    obtain ⟨rfl,hc2,hc3,hc4⟩:=hcond
    have:=a5.pure_some hp
    injection this with h3 h4
    subst h3
    obtain ⟨ti',d,z,htf⟩:=cx.tf hti
    obtain ⟨ti2,d',z',hef⟩:=cx.tf hei
    obtain rfl:=htf.isSl hsl
    have hmd:(madeCells z'.cells (0 * ei.size)) = #[]:=by simp [madeCells]
    have hrun:(execOp a.eval ob).run cx.P w = .ok (.value (.slice (some ⟨w.heap.size,0,none⟩) 0 0)) (w.alloc (.cells #[] e)):=by
      have:=b7W (w:=w) (len:=0) htf rfl hef (by omega) (qs:=parts.map fun (i,x)=>(i,a.eval x)) (es := #[]) (by rw [Array.toList_map,hql,hmd]; rfl)
      simp [execOp,ho,this]
    have hgr:=a3L w (.cells #[] e)
    have hown:(w.alloc (.cells #[] e)).ownsRow 0 e ei.size (.slice (some ⟨w.heap.size,0,none⟩) 0 0) 0 [] :=
      ⟨by simp,.inr ⟨w.heap.size,0,#[],rfl,Nat.zero_le _,a5B w _,Nat.le_refl _,by simp,by simp,by simp⟩⟩
    obtain ⟨r1,r2⟩:=h.layDeep hg hn hgr (fun k q=>by cases q) (rows:=[]) (sv:=.slice (some ⟨w.heap.size,0,none⟩) 0 0) hown (show BL w F [].flatten [] [] from .nil) rfl (by simp) (by intro k hk; simp [t9] at hk; exact .inr (by omega)) (by simp) .nil
    exact ⟨_,_,_,F,J7 ι grp (.slice (some ⟨w.heap.size,0,none⟩) 0 0),hrun,.inl rfl,r1.put ob.dst (.cell r2)⟩
  | @cons p q pl ql hpq ht =>
  obtain ⟨i,x⟩:=p
  obtain ⟨i',u⟩:=q
  obtain ⟨hii,hxu⟩:=hpq
  simp only at hii hxu
  subst hii
  cases ht with
  | cons _ _=>cases i<;>cases hp
  | nil =>
  cases i with
  | succ i=>cases hp
  | zero =>
  simp only at hp
  cases hcs:x.cells with
  | none=>rw [hcs] at hp; cases hp
  | some cs =>
  rw [hcs] at hp
  obtain ⟨f,l1,l2,hf,hp',_⟩:=a5.bind_some hp
  clear hp
  split at hp'<;>try (cases hp'; done)
  rename_i hcond
  obtain ⟨rfl,hc1,hc2,hc3,hc4,hc5,hc6⟩:=hcond
  have:=a5.pure_some hp'
  injection this with h3 h4
  subst h3
  obtain ⟨ti',d,z,htf⟩:=cx.tf hti
  obtain ⟨ti2,d',z',hef⟩:=cx.tf hei
  obtain rfl:=htf.isSl hsl
  have hrc:=hxu.cells hcs
  obtain ⟨fp,hbl,hfps,hh⟩:=a9S (F1:=F) h (fun _ x=>x) hrc hf hob (by rw [List.isEmpty_iff.1 hc6]; intro id hid; cases hid)
  have hul:u.cells.size=ei.size:=by rw [← hc1,hrc.length]; simp
  have hzs:z'.cells.size=ei.size:=by rw [← hc2,← hef.zeros]; simp
  have hmd:(madeCells z'.cells (1 * ei.size)).size=ei.size:=by simp [madeCells]
  obtain ⟨es,hfill,hes⟩:=d29 (u:=u) (ds:=madeCells z'.cells (1 * ei.size)) hul hmd
  have hel:es.size=1 * ei.size:=by
    have:=congrArg List.length hes
    simp only [Array.length_toList] at this
    omega
  have hrun:(execOp a.eval ob).run cx.P w = .ok (.value (.slice (some ⟨w.heap.size,0,none⟩) 1 1)) (w.alloc (.cells es e)):=by
    have:=b7W (w:=w) (len:=1) htf rfl hef (by omega) (qs:=parts.map fun (i,x)=>(i,a.eval x)) (es:=es) (by rw [Array.toList_map,hql]; exact hfill)
    simp [execOp,ho,this]
  have hgr:=a3L w (.cells es e)
  have hown:(w.alloc (.cells es e)).ownsRow 0 e ei.size (.slice (some ⟨w.heap.size,0,none⟩) 1 1) 1 u.cells.toList:=by
    refine ⟨by simp only [Array.length_toList]; omega,.inr ⟨w.heap.size,1,es,rfl,Nat.zero_le _,a5B w _,Nat.le_refl _,by unfold maxLen; omega,hel,?_⟩⟩
    rw [hes,List.take_of_length_le (by simp only [Array.length_toList]; omega)]
  have hkl:=h.killsR (fun id hid=>(hfps.live id hid).imp fun _ x=>x.1)
  have hnd:=J0.nodup h hfps (a3w hc5)
  have hgk:grp<(S.upds (C5 f.ks)).h.length:=by rw [St.upds_len]; exact hg
  have hnk : ¬ (S.upds (C5 f.ks)).D grp:=fun q=>hn ((Z4 S grp _).1 q)
  obtain ⟨r1,r2⟩:=hkl.layDeep hgk hnk hgr (fun k q=>by cases q) (rows:=[f.v]) (sv:=.slice (some ⟨w.heap.size,0,none⟩) 1 1) hown (by simpa using hbl) rfl (by
      intro r hr
      rw [List.mem_singleton.1 hr,hbl.len]
      simp only [Array.length_toList]
      exact hul) (by intro k hk; simp [t9] at hk; exact .inr (by omega)) (by
      intro k hk
      obtain ⟨id,hid,e1,he1,hl1,hk1⟩:=hfps.mem hk
      obtain ⟨x1,x2⟩:=h.sep _ _ _ k he1 hl1 hk1
      refine ⟨x1,x2,?_,by simp⟩
      intro g' j' e' he' hl' hk'
      rcases a6C _ he' with ⟨_,rfl⟩ | ⟨hni,he2⟩
      · cases hl'
      · obtain ⟨y1,y2⟩:=h.inj _ _ _ _ _ _ k he2 he1 hl' hl1 hk' hk1
        exact hni (by rw [y1,y2]; exact hid)) hnd
  exact ⟨_,_,_,F,J7 ι grp (.slice (some ⟨w.heap.size,0,none⟩) 1 1),hrun,.inl rfl,r1.put ob.dst (.cell r2)⟩
def b0Y (cx:Cx) (grp ty:Nat) (s x:V):a5 t7 :=
  match cx.T ty with
  | some ti=>match ti.sl with
    | some e=>match cx.T e with
      | some ei=>match x with
        | .own g2 j2 sz2 0 m=>a5.bind (a5.rd g2 j2) fun e2=>match e2 with
          | .deep false t2 sz2' m' rows2 =>
            if t2=e∧sz2=ei.size∧sz2'=ei.size∧0<ei.size∧0<ei.bytes∧ei.zero.length=ei.size∧0<m' then
              match s with
              | .nil=>a5.pure { v:=.own grp 0 ei.size 0 m',new:=some [.deep false e ei.size m' rows2],upd:=C5 [(g2,j2)],obl:=[m=m',m' * ei.bytes≤140737488355328] }
              | .own g j sz 0 n=>a5.bind (a5.rd g j) fun e1=>match e1 with
                | .deep false t sz' n' rows =>
                  if t=e∧sz=ei.size∧sz'=ei.size∧a19 [(g,j),(g2,j2)]=true then
                    a5.pure { v:=.own grp 0 ei.size 0 (n'+m'),new:=some [.deep false e ei.size (n'+m') (rows++rows2)],upd:=C5 [(g,j),(g2,j2)],obl:=[n=n',(n'+m') * ei.bytes≤140737488355328,m=m'] }
                  else a5.no
                | _=>a5.no
              | _=>a5.no
            else a5.no
          | _=>a5.no
        | _=>a5.no
      | none=>a5.no
    | none=>a5.no
  | none=>a5.no
theorem b9V {g j sz n e sz':Nat} {c:Value} {flat:List Value} (hs:RV w F S.D ι (.own g j sz 0 n) c) (hown:w.ownsRow 0 e sz' (ι g j) n flat):c=ι g j:=by
  obtain ⟨hD,⟨b,nn,cap,hι,hlo,hb0,hb1,hc⟩ | ⟨hl0',_⟩⟩:=hs.inv_own
  case inr=>omega
  rcases hown.2 with ⟨hv,hz⟩ | ⟨g0,cap0,cur,hv,_⟩
  · rw [hι] at hv
    injection hv with e1 e2 e3
    subst e1; subst e2; subst e3; subst hz
    rw [hc,hι]; simp
  · rw [hι] at hv
    injection hv with e1 e2 e3
    subst e1; subst e2; subst e3
    rw [hc,hι]
    by_cases q:cap=0
    · simp [q]
    · simp [q,Addr.add]
theorem c1A {P:Program} {ty e:Nat} {ti ei:TI} {i i':TypeInfo} {d d':TypeDesc} {z z':Value} (htf:TF P ty ti i d z) (hd:d = .slice e) (hef:TF P e ei i' d' z') (h0:0<ei.size) (hb0:0<ei.bytes) (hzl:ei.zero.length=ei.size)
    {sv sv2:Value} {n m:Nat} {flat flat2:List Value} (hown:w.ownsRow 0 e ei.size sv n flat) (hown2:w.ownsRow 0 e ei.size sv2 m flat2) (hm:0<m) (hone : ∀ u∈flat2,u.oneCell'=true) (hb:(n+m) * ei.bytes≤140737488355328) (rt:Nat) :
    ∃ v' w',(Builtin.append_ #[ty,ty] rt #[sv,sv2]).run P w = .ok v' w'∧w'.ownsRow 0 e ei.size v' (n+m) (flat++flat2)∧w.grownBy w' sv.ownBlock∧(v'.ownBlock=sv.ownBlock∨v'.ownBlock=some w.heap.size):=by
  subst hd
  have hzs:z'.cells.size=ei.size:=by rw [← hzl,← hef.zeros]; simp
  have hm63:n+m≤maxLen:=by
    have:n+m≤140737488355328:=Nat.le_trans (Nat.le_mul_of_pos_right _ hb0) hb
    unfold maxLen; omega
  rcases hown2.2 with ⟨_,q⟩ | ⟨g2,cap2,cur2,rfl,_,hg2,hnc2,_,hcs2,ht2⟩
  · omega
  · have hseg:L3 w g2 0 flat2:=by
      rw [← ht2]
      have:=(a4P hg2 0).take (m * ei.size)
      simpa using this
    obtain ⟨v',w',h1,h2,h3,_,h5⟩:=run_append_own_at (P:=P) w 0 ty rt e i' z' ei.size ei.bytes htf.und hef.info hef.zero hef.size hef.bytes hzs h0 sv n flat hown ⟨g2,0,none⟩ m cap2 flat2 hown2.1 (by
      intro j u hu
      rw [a2g]
      exact hseg j u hu) hone hm63 hb (Nat.zero_le _)
    exact ⟨v',w',h1,h2,h3,h5⟩
theorem BL.ones : ∀ {vs:List V} {cs:List Value} {f:List Nat},BL w F vs cs f → ∀ u∈cs,u.oneCell'=true
  | _,_,_,.cons v c f vs cs fs h t,u,hu=>by
    rcases List.mem_cons.1 hu with rfl | hu
    · exact h.one
    · exact BL.ones t u hu
theorem BL.app : ∀ {vs vs':List V} {cs cs':List Value} {f f':List Nat},BL w F vs cs f→BL w F vs' cs' f'→BL w F (vs++vs') (cs++cs') (f++f')
  | _,_,_,_,_,_,.nil,k=>k
  | _,_,_,_,_,_,.cons v c f vs cs fs h t,k=>by
    rw [List.append_assoc]
    exact .cons v c f _ _ _ h (BL.app t k)
theorem d6A (h:m3 Γ F ι S a w) {grp:Nat} (hg:grp<S.h.length) (hn : ¬ S.D grp) {ob:Oper} {ty:Nat} {s x:Operand} (ho:ob.op = .call { callee:=.builtin .append,args := #[s,x],argTypes := #[ty,ty] }) {out:t7} {lg:List (Nat×Nat)}
    (hp:b0Y cx grp ty (j8 S.t s) (j8 S.t x) S.ent=some (out,lg)) (hob : ∀ p∈out.obl,p):S5 cx.P Γ ι S grp ob out a w:=by
  have hs:=A4 h.tmps s
  have hx:=A4 h.tmps x
  unfold b0Y at hp
  cases hti:cx.T ty with
  | none=>rw [hti] at hp; cases hp
  | some ti =>
  rw [hti] at hp
  simp only at hp
  cases hsl:ti.sl with
  | none=>rw [hsl] at hp; cases hp
  | some e =>
  rw [hsl] at hp
  simp only at hp
  cases hei:cx.T e with
  | none=>rw [hei] at hp; cases hp
  | some ei =>
  rw [hei] at hp
  simp only at hp
  obtain ⟨i,d,z,htf⟩:=cx.tf hti
  obtain ⟨i',d',z',hef⟩:=cx.tf hei
  have hd:=htf.isSl hsl
  generalize j8 S.t s=sv at hp hs
  generalize j8 S.t x=xv at hp hx
  cases xv<;>try (cases hp; done)
  rename_i g2 j2 sz2 lo2 m
  cases lo2 with
  | succ q=>cases hp
  | zero =>
  simp only at hp
  obtain ⟨e2,l1,l2,hrd2,hp',_⟩:=a5.bind_some hp
  clear hp
  have he2:=(a5.rd_some hrd2).1
  simp only at he2
  cases e2<;>try (cases hp'; done)
  rename_i o2 t2 sz2' m' rows2
  cases o2 with
  | true=>cases hp'
  | false =>
  simp only at hp'
  split at hp'<;>try (cases hp'; done)
  rename_i hcond
  obtain ⟨rfl,rfl,rfl,hc3,hc4,hc5,hc6⟩:=hcond
  obtain ⟨flat2,fs2,hown2,hkl2,hlen2,hl2,hnd2,hnr2⟩:=h.ents g2 j2 _ he2
  have hbl2:=hkl2.toBL (hnr2 rfl).flatB
  have hin2 : ∀ k∈A8 (ι g2 j2)++fs2,EB w (.deep false t2 ei.size m' rows2) (ι g2 j2) k:=fun k hk=>(EB.deep_iff hown2 hkl2).2 hk
  cases sv<;>try (cases hp'; done)
  case nil =>
    have:=a5.pure_some hp'
    injection this with h3 h4
    subst h3
    obtain hcs:=hs.inv_nil
    have hmm:m=m':=hob _ (by simp)
    subst hmm
    have hb:m * ei.bytes≤140737488355328:=hob _ (by simp)
    obtain ⟨v',w',hr,hown,hgr,hat⟩:=c1A htf hd hef hc3 hc4 hc5 (World.ownsRow_nil w 0 t2 ei.size) hown2 hc6 hbl2.ones (by simpa using hb) ob.type
    have hxc:=b9V hx hown2
    have hrun:(execOp a.eval ob).run cx.P w = .ok (.value v') w':=by
      simp [execOp,ho,resolve,invoke,builtin,hcs,hxc,hr]
    have hkl:=h.killsR (ks:=[(g2,j2)]) (fun id hid=>by rw [List.mem_singleton.1 hid]; exact ⟨_,he2⟩)
    have hgk:grp<(S.upds (C5 [(g2,j2)])).h.length:=by rw [St.upds_len]; exact hg
    have hnk : ¬ (S.upds (C5 [(g2,j2)])).D grp:=fun q=>hn ((Z4 S grp _).1 q)
    simp only [Nat.zero_add,List.nil_append] at hown
    obtain ⟨r1,r2⟩:=hkl.layDeep hgk hnk hgr (fun k q=>by cases q) hown hbl2 hlen2 hl2 (by
      intro k hk
      rw [← a8L hown] at hk
      rcases hat with q | q
      · rw [q] at hk; cases hk
      · rw [q] at hk; injection hk with hk; exact .inr (by omega)) (by
      intro k hk
      have hk1:=hin2 k (List.mem_append.2 (.inr hk))
      obtain ⟨x1,x2⟩:=h.sep _ _ _ k he2 rfl hk1
      refine ⟨x1,x2,?_,by intro q; cases q⟩
      intro g' j' e' he' hl' hk'
      rcases a6C _ he' with ⟨_,rfl⟩ | ⟨hni,he3⟩
      · cases hl'
      · obtain ⟨y1,y2⟩:=h.inj _ _ _ _ _ _ k he3 he2 hl' rfl hk' hk1
        exact hni (by rw [y1,y2]; simp)) (List.nodup_append.1 hnd2).2.1
    exact ⟨_,_,_,F,J7 ι grp v',hrun,.inl rfl,r1.put ob.dst (.cell r2)⟩
  case own g j sz lo n =>
    cases lo with
    | succ q=>cases hp'
    | zero =>
    simp only at hp'
    obtain ⟨e1,l3,l4,hrd1,hp'',_⟩:=a5.bind_some hp'
    clear hp'
    have he1:=(a5.rd_some hrd1).1
    simp only at he1
    cases e1<;>try (cases hp''; done)
    rename_i o1 t1 sz1 n' rows
    cases o1 with
    | true=>cases hp''
    | false =>
    simp only at hp''
    split at hp''<;>try (cases hp''; done)
    rename_i hcond
    obtain ⟨rfl,rfl,rfl,hnod⟩:=hcond
    have:=a5.pure_some hp''
    injection this with h3 h4
    subst h3
    have hnn:n=n':=hob _ (by simp)
    subst hnn
    have hb:(n+m') * ei.bytes≤140737488355328:=hob _ (by simp)
    have hmm:m=m':=hob _ (by simp)
    subst hmm
    obtain ⟨flat1,fs1,hown1,hkl1,hlen1,hl1,hnd1,hnr1⟩:=h.ents g j _ he1
    have hbl1:=hkl1.toBL (hnr1 rfl).flatB
    have hin1 : ∀ k∈A8 (ι g j)++fs1,EB w (.deep false t1 ei.size n rows) (ι g j) k:=fun k hk=>(EB.deep_iff hown1 hkl1).2 hk
    have hne : ¬ (g=g2∧j=j2):=by
      have:=a3w hnod
      rw [List.nodup_cons] at this
      intro q
      exact this.1 (by rw [q.1,q.2]; simp)
    obtain ⟨v',w',hr,hown,hgr,hat⟩:=c1A htf hd hef hc3 hc4 hc5 hown1 hown2 hc6 hbl2.ones hb ob.type
    have hxc:=b9V hx hown2
    have hsc:=b9V hs hown1
    have hrun:(execOp a.eval ob).run cx.P w = .ok (.value v') w':=by
      simp [execOp,ho,resolve,invoke,builtin,hsc,hxc,hr]
    have hkl:=h.killsR (ks:=[(g,j),(g2,j2)]) (fun id hid=>by
      rcases List.mem_cons.1 hid with rfl | hid
      · exact ⟨_,he1⟩
      · rw [List.mem_singleton.1 hid]; exact ⟨_,he2⟩)
    have hgk:grp<(S.upds (C5 [(g,j),(g2,j2)])).h.length:=by rw [St.upds_len]; exact hg
    have hnk : ¬ (S.upds (C5 [(g,j),(g2,j2)])).D grp:=fun q=>hn ((Z4 S grp _).1 q)
    have hob1 : ∀ k,(ι g j).ownBlock=some k→k∈A8 (ι g j):=fun k hk=>P2.2 (by rw [← a8L hown1]; exact hk)
    have free1 : ∀ k∈A8 (ι g j)++fs1,∀ g' j' e',(S.upds (C5 [(g,j),(g2,j2)])).ent g' j'=some e'→e'.live=true → ¬ EB w e' (ι g' j') k:=by
      intro k hk g' j' e' he' hl' hk'
      rcases a6C _ he' with ⟨_,rfl⟩ | ⟨hni,he3⟩
      · cases hl'
      · obtain ⟨y1,y2⟩:=h.inj _ _ _ _ _ _ k he3 he1 hl' rfl hk' (hin1 k hk)
        exact hni (by rw [y1,y2]; simp)
    have free2 : ∀ k∈A8 (ι g2 j2)++fs2,∀ g' j' e',(S.upds (C5 [(g,j),(g2,j2)])).ent g' j'=some e'→e'.live=true → ¬ EB w e' (ι g' j') k:=by
      intro k hk g' j' e' he' hl' hk'
      rcases a6C _ he' with ⟨_,rfl⟩ | ⟨hni,he3⟩
      · cases hl'
      · obtain ⟨y1,y2⟩:=h.inj _ _ _ _ _ _ k he3 he2 hl' rfl hk' (hin2 k hk)
        exact hni (by rw [y1,y2]; simp)
    have hdis : ∀ k,k∈A8 (ι g j)++fs1→k∈A8 (ι g2 j2)++fs2→False:=by
      intro k q1 q2
      obtain ⟨y1,y2⟩:=h.inj _ _ _ _ _ _ k he1 he2 rfl rfl (hin1 k q1) (hin2 k q2)
      exact hne ⟨y1,y2⟩
    obtain ⟨r1,r2⟩:=hkl.layDeep hgk hnk hgr (fun k q=>by
      have hk:k∈A8 (ι g j)++fs1:=List.mem_append.2 (.inl (hob1 k q))
      obtain ⟨x1,x2⟩:=h.sep _ _ _ k he1 rfl (hin1 k hk)
      exact ⟨x1,x2,free1 k hk⟩) (rows:=rows++rows2) hown (by rw [List.flatten_append]; exact hbl1.app hbl2) (by rw [List.length_append,hlen1,hlen2]) (by
      intro r hr'
      rcases List.mem_append.1 hr' with q | q
      · exact hl1 r q
      · exact hl2 r q) (by
      intro k hk
      rw [← a8L hown] at hk
      rcases hat with q | q
      · rw [q] at hk; exact .inl hk
      · rw [q] at hk; injection hk with hk; exact .inr (by omega)) (by
      intro k hk
      rcases List.mem_append.1 hk with q | q
      · have hk1:k∈A8 (ι g j)++fs1:=List.mem_append.2 (.inr q)
        obtain ⟨x1,x2⟩:=h.sep _ _ _ k he1 rfl (hin1 k hk1)
        exact ⟨x1,x2,free1 k hk1,fun z=>(List.nodup_append.1 hnd1).2.2 k (hob1 k z) k q rfl⟩
      · have hk2:k∈A8 (ι g2 j2)++fs2:=List.mem_append.2 (.inr q)
        obtain ⟨x1,x2⟩:=h.sep _ _ _ k he2 rfl (hin2 k hk2)
        exact ⟨x1,x2,free2 k hk2,fun z=>hdis k (List.mem_append.2 (.inl (hob1 k z))) hk2⟩) (by
      rw [List.nodup_append]
      exact ⟨(List.nodup_append.1 hnd1).2.1,(List.nodup_append.1 hnd2).2.1,fun k q k' q' z=>by
        subst z
        exact hdis k (List.mem_append.2 (.inr q)) (List.mem_append.2 (.inr q'))⟩)
    exact ⟨_,_,_,F,J7 ι grp v',hrun,.inl rfl,r1.put ob.dst (.cell r2)⟩
end
structure I3 where
  a:M6:=.none
  d:Option Bool:=none
  v:Option V:=none
  e:Option l7:=none
def b5L (d:Option Bool) (o:t7):Option t7 :=
  match d with
  | some d=>match o.v with
    | .b x=>some { o with v:=.b d,obl:=(x=d)::o.obl }
    | _=>none
  | none=>some o
def b3N (v:Option V) (o:t7):Option t7 :=
  match v with
  | some v=>some { o with v:=v,obl:=(o.v=v)::o.obl }
  | none=>some o
def b0h (e:l7):List ((Nat×Nat)×l7)→Option (List ((Nat×Nat)×l7)×Prop)
  | []=>none
  | [u]=>some ([(u.1,e)],u.2=e)
  | u::us=>match b0h e us with
    | some (us',p)=>some (u::us',p)
    | none=>none
def b24 (e:Option l7) (o:t7):Option t7 :=
  match e with
  | some e=>match o.new with
    | some [e0]=>some { o with new:=some [e],obl:=(e0=e)::o.obl }
    | some _=>none
    | none=>match b0h e o.upd with
      | some (us,p)=>some { o with upd:=us,obl:=p::o.obl }
      | none=>none
  | none=>some o
def b9g (T:I3) (o:t7):Option t7 :=
  match b24 T.e o with
  | some o1=>match b3N T.v o1 with
    | some o2=>b5L T.d o2
    | none=>none
  | none=>none
def opM (cx:Cx) (grp:Nat) (ob:Oper) (t:List V) (A:M6):a5 t7 :=
  match ob.op with
  | .alloc e=>a5.lift (b5o cx grp e)
  | .box e x=>a5.lift (b9l cx grp e (j8 t x))
  | .buildSlice ty len parts=>match A with
    | .dck ck om=>b0m cx grp ty len (parts.toList.map fun (i,x)=>(i,j8 t x)) ck om
    | A=>a9U cx grp ty len (parts.toList.map fun (i,x)=>(i,j8 t x)) A
  | .makeSlice ty l c=>match A with
    | .dck ck om=>a97 cx grp ty (j8 t l) (j8 t c) ck om
    | A=>a5.lift (b62 cx grp ty (j8 t l) (j8 t c) (d0b A))
  | .load ty x=>match A with
    | .drow r=>a9X cx grp ty (j8 t x) r
    | .prow r=>a9p cx ty (j8 t x) r
    | .dtak r=>a85 cx grp ty (j8 t x) r
    | A=>a9L cx ty (j8 t x) A
  | .store ty x y=>match ob.dst with
    | none=>match A with
      | .dst r ck om=>a6K cx ty (j8 t x) (j8 t y) r ck om
      | .dsc r ck om=>b0l cx ty (j8 t x) (j8 t y) r ck om
      | A=>b03 cx ty (j8 t x) (j8 t y) A
    | some _=>a5.no
  | .makeMap ty none=>a5.lift (b8R cx grp ty)
  | .lookup ty x ix false=>a9Q cx ty (j8 t x) (j8 t ix)
  | .mapUpdate ty x ix y=>match ob.dst with
    | none=>a9t cx ty (j8 t x) (j8 t ix) (j8 t y)
    | some _=>a5.no
  | .call c=>match c.callee,c.args.toList,c.argTypes.toList with
    | .builtin .append,[s,x],[ty,ty']=>if ty=ty' then (match A with
      | .dck _ _=>b0Y cx grp ty (j8 t s) (j8 t x)
      | .part=>a66 true cx grp ty (j8 t s) (j8 t x)
      | _=>a66 false cx grp ty (j8 t s) (j8 t x)) else a5.no
    | .builtin .copy,[s,x],[ty,_]=>b0P cx ty (j8 t s) (j8 t x)
    | .value fop,args,_=>match j8 t fop with
      | .fn f=>a9a cx.P grp f (args.map (j8 t)) A
      | _=>a5.no
    | _,_,_=>a5.lift ((Q3 cx ob.op t A).map fun q=>{ v:=q.1,obl:=q.2 })
  | _=>a5.lift ((Q3 cx ob.op t A).map fun q=>{ v:=q.1,obl:=q.2 })
section
variable {cx:Cx} {Γ:L6} {F:Nat→Prop} {ι:Nat→Nat→Value} {S:St} {a:Act} {w:World}
def b5k (P:Program) (Γ:L6) (S':St) (ob:Oper) (a:Act) (w:World):Prop :=
  (∃ nx c w' F' ι',(execOp a.eval ob).run P w = .ok nx w'∧(nx = .value c∨(nx = .skip∧c=undef))∧m3 Γ F' ι' S' (a.put ob.dst c) w') ∨
  (∃ f args,(execOp a.eval ob).run P w = .ok (.enter f args) w∧Calls P f args w fun e w' => ∃ c F' ι',e = .returned c∧m3 Γ F' ι' S' (a.put ob.dst c) w')
theorem d7X (h:m3 Γ F ι S a w) {grp:Nat} (hg:grp<S.h.length) (hn : ¬ S.D grp) {ob:Oper} {A:M6} {out:t7} {lg:List (Nat×Nat)} (hp:opM cx grp ob S.t A S.ent=some (out,lg)) (hob : ∀ p∈out.obl,p):b5k cx.P Γ (S.apply grp ob.dst out) ob a w:=by
  have pure : ∀ {op:Op} {out:t7} {lg},ob.op=op→a5.lift ((Q3 cx op S.t A).map fun q=>({ v:=q.1,obl:=q.2 }:t7)) S.ent=some (out,lg)→(∀ p∈out.obl,p)→b5k cx.P Γ (S.apply grp ob.dst out) ob a w:=by
    intro op out lg hop hp hob
    subst hop
    obtain ⟨h1,_⟩:=a5.lift_some hp
    obtain ⟨q,hq,he⟩:=Option.map_eq_some_iff.1 h1
    simp only at he
    subst he
    obtain ⟨c,hr,hv⟩:=d3V h.tmps hq hob
    exact .inl ⟨_,c,w,F,ι,hr,.inl rfl,by rw [a37]; exact h.put ob.dst hv⟩
  unfold opM at hp
  cases ho:ob.op
  case alloc e =>
    rw [ho] at hp
    exact .inl (d4M h hg hn ho (a5.lift_some hp).1 hob)
  case box e x =>
    rw [ho] at hp
    exact .inl (d4P h hg hn ho (a5.lift_some hp).1)
  case buildSlice ty len parts =>
    rw [ho] at hp
    cases A
    case dck ck om=>exact .inl (d3A h hg hn ho hp hob)
    all_goals exact .inl (d6z h hg hn ho hp hob)
  case makeSlice ty l c =>
    rw [ho] at hp
    cases A
    case dck ck om=>exact .inl (d7u h hg hn ho hp hob)
    all_goals exact .inl (d3y h hg hn ho (a5.lift_some hp).1 hob)
  case load ty x =>
    rw [ho] at hp
    cases A
    case drow r=>exact .inl (d7J h hg hn ho hp hob)
    case prow r=>exact .inl (d8Z h ho hp hob)
    case dtak r=>exact .inl (d4k h hg hn ho hp hob)
    all_goals exact .inl (d8x h ho hp hob)
  case store ty x y =>
    rw [ho] at hp
    cases hd:ob.dst with
    | some d=>rw [hd] at hp; cases hp
    | none =>
      rw [hd] at hp
      have:S5 cx.P Γ ι S grp ob out a w:=by
        cases A
        case dst r ck om=>exact c0Z h (grp:=grp) ho hd hp hob
        case dsc r ck om=>exact d8L h (grp:=grp) ho hd hp hob
        all_goals exact d3H h (grp:=grp) ho hd hp hob
      rw [← hd]
      exact .inl this
  case makeMap ty r =>
    rw [ho] at hp
    cases r with
    | none=>exact .inl (d1u h hg hn ho (a5.lift_some hp).1)
    | some r=>exact pure ho hp hob
  case lookup ty x ix ok =>
    rw [ho] at hp
    cases ok with
    | false=>exact .inl (d7T h ho hp)
    | true=>exact pure ho hp hob
  case mapUpdate ty x ix y =>
    rw [ho] at hp
    cases hd:ob.dst with
    | some d=>rw [hd] at hp; cases hp
    | none =>
      rw [hd] at hp
      have:S5 cx.P Γ ι S grp ob out a w:=d6P h (grp:=grp) ho hd hp
      rw [← hd]
      exact .inl this
  case call c =>
    rw [ho] at hp
    obtain ⟨callee,args,tys⟩:=c
    simp only at hp
    cases callee with
    | invoke x m=>exact pure ho hp hob
    | value fop =>
      simp only at hp
      generalize hfe:j8 S.t fop=fv at hp
      cases fv<;>try (cases hp; done)
      rename_i f
      obtain ⟨h1,h2⟩:=d0a h hg hn ho hfe hp hob
      exact .inr ⟨f,_,h1,h2⟩
    | builtin b =>
      cases b
      case append =>
        generalize hargs:args.toList=al at hp
        generalize htys:tys.toList=tl at hp
        rcases al with _ | ⟨s,_ | ⟨x,_ | ⟨y,al⟩⟩⟩<;>rcases tl with _ | ⟨ty,_ | ⟨ty',_ | ⟨ty3,tl⟩⟩⟩<;>try exact pure ho hp hob
        have ha:args = #[s,x]:=by simpa using congrArg List.toArray hargs
        have hy:tys = #[ty,ty']:=by simpa using congrArg List.toArray htys
        subst ha; subst hy
        simp only at hp
        by_cases q:ty=ty'
        · subst q
          rw [if_pos rfl] at hp
          cases A
          case dck ck om=>exact .inl (d6A h hg hn ho hp hob)
          all_goals exact .inl (d5R (rt:=0) h hg hn ho hp hob)
        · rw [if_neg q] at hp
          cases hp
      case copy =>
        generalize hargs:args.toList=al at hp
        generalize htys:tys.toList=tl at hp
        rcases al with _ | ⟨s,_ | ⟨x,_ | ⟨y,al⟩⟩⟩<;>rcases tl with _ | ⟨ty,_ | ⟨ty',_ | ⟨ty3,tl⟩⟩⟩<;>try exact pure ho hp hob
        have ha:args = #[s,x]:=by simpa using congrArg List.toArray hargs
        have hy:tys = #[ty,ty']:=by simpa using congrArg List.toArray htys
        subst ha; subst hy
        exact .inl (d2Y h ho hp hob)
      all_goals exact pure ho hp hob
  all_goals
    rw [ho] at hp
    exact pure ho hp hob
theorem c7O {e:l7} : ∀ {us us':List ((Nat×Nat)×l7)} {p:Prop},b0h e us=some (us',p)→p→us'=us
  | [],_,_,h,_=>by cases h
  | [u],us',p,h,hp=>by
    unfold b0h at h
    injection h with h
    injection h with h1 h2
    subst h1; subst h2
    have:u.2=e:=hp
    subst this
    rfl
  | u::u2::us,us',p,h,hp=>by
    unfold b0h at h
    split at h<;>try (cases h; done)
    rename_i us1 p1 h1
    injection h with h
    injection h with h2 h3
    subst h2; subst h3
    rw [c7O h1 hp]
theorem d6k {d:Option Bool} {o o':t7} (hd:b5L d o=some o') (hob : ∀ p∈o'.obl,p):(∀ p∈o.obl,p)∧o'.new=o.new∧o'.upd=o.upd∧o'.v=o.v:=by
  unfold b5L at hd
  split at hd
  · split at hd<;>try (cases hd; done)
    rename_i d _ x hv
    injection hd with hd
    subst hd
    have hx:x=d:=hob _ (by simp)
    exact ⟨fun p hp=>hob p (by simp [hp]),rfl,rfl,by simp [hv,hx]⟩
  · injection hd with hd
    subst hd
    exact ⟨hob,rfl,rfl,rfl⟩
theorem d8A {v:Option V} {o o':t7} (hd:b3N v o=some o') (hob : ∀ p∈o'.obl,p):(∀ p∈o.obl,p)∧o'.new=o.new∧o'.upd=o.upd∧o'.v=o.v:=by
  unfold b3N at hd
  split at hd
  · rename_i v
    injection hd with hd
    subst hd
    have hx:o.v=v:=hob _ (by simp)
    exact ⟨fun p hp=>hob p (by simp [hp]),rfl,rfl,hx.symm⟩
  · injection hd with hd
    subst hd
    exact ⟨hob,rfl,rfl,rfl⟩
theorem d1P {e:Option l7} {o o':t7} (hd:b24 e o=some o') (hob : ∀ p∈o'.obl,p):(∀ p∈o.obl,p)∧o'.new=o.new∧o'.upd=o.upd∧o'.v=o.v:=by
  unfold b24 at hd
  split at hd
  · rename_i e
    split at hd
    · rename_i e0 hn
      injection hd with hd
      subst hd
      have hx:e0=e:=hob _ (by simp)
      exact ⟨fun p hp=>hob p (by simp [hp]),by rw [hn,hx],rfl,rfl⟩
    · cases hd
    · split at hd<;>try (cases hd; done)
      rename_i us p h1
      injection hd with hd
      subst hd
      have hx:p:=hob _ (by simp)
      exact ⟨fun p hp=>hob p (by simp [hp]),rfl,c7O h1 hx,rfl⟩
  · injection hd with hd
    subst hd
    exact ⟨hob,rfl,rfl,rfl⟩
theorem d8P {T:I3} {o o':t7} (hd:b9g T o=some o') (hob : ∀ p∈o'.obl,p):(∀ p∈o.obl,p)∧o'.new=o.new∧o'.upd=o.upd∧o'.v=o.v:=by
  unfold b9g at hd
  cases h1:b24 T.e o with
  | none=>rw [h1] at hd; cases hd
  | some o1 =>
  rw [h1] at hd
  simp only at hd
  cases h2:b3N T.v o1 with
  | none=>rw [h2] at hd; cases hd
  | some o2 =>
  rw [h2] at hd
  obtain ⟨a1,a2,a3,a4⟩:=d6k hd hob
  obtain ⟨b1,b2,b3,b4⟩:=d8A h2 a1
  obtain ⟨c1,c2,c3,c4⟩:=d1P h1 b1
  exact ⟨c1,a2.trans (b2.trans c2),a3.trans (b3.trans c3),a4.trans (b4.trans c4)⟩
def a7g (cx:Cx) (grp:Nat) (ob:Oper) (t:List V) (A:I3):a5 t7:=a5.bind (opM cx grp ob t A.a) fun o=>a5.lift (b9g A o)
theorem d9w {S:St} {grp:Nat} {dst:Option Nat} {o o':t7} (h1:o'.new=o.new) (h2:o'.upd=o.upd) (h3:o'.v=o.v):S.apply grp dst o'=S.apply grp dst o:=by
  unfold St.apply
  rw [h1,h2,h3]
theorem d7O (h:m3 Γ F ι S a w) {grp:Nat} (hg:grp<S.h.length) (hn : ¬ S.D grp) {ob:Oper} {A:I3} {out:t7} {lg:List (Nat×Nat)} (hp:a7g cx grp ob S.t A S.ent=some (out,lg)) (hob : ∀ p∈out.obl,p):b5k cx.P Γ (S.apply grp ob.dst out) ob a w:=by
  obtain ⟨o,l1,l2,h1,h2,_⟩:=a5.bind_some hp
  obtain ⟨h3,_⟩:=a5.lift_some h2
  simp only at h3
  obtain ⟨h4,h5,h6,h7⟩:=d8P h3 hob
  rw [d9w h5 h6 h7]
  exact d7X h hg hn h1 h4
def a4s (ops:Array Oper) (o:Oper) (t:List V):Option Bool :=
  match o.guard with
  | none=>some true
  | some (j,want)=>match (ops[j]?).bind (·.dst) with
    | some d=>match t[d]? with
      | some (.b x)=>some (x==want)
      | some (.tup [])=>some false
      | _=>none
    | none=>none
theorem c8r {ops:Array Oper} {o:Oper} {b:Bool} {D:Nat→Prop} {t:List V} (ht:n5 (RV w F D ι) t a.tmps.toList) (h:a4s ops o t=some b):Region.wanted o (yielded ops a.tmps)=b:=by
  unfold a4s at h
  unfold Region.wanted
  split at h
  · rename_i hg
    rw [hg]
    injection h
  · rename_i j want hg
    rw [hg]
    simp only
    cases hd:(ops[j]?).bind (·.dst) with
    | none=>rw [hd] at h; cases h
    | some d =>
      rw [hd] at h
      simp only at h
      split at h<;>try (cases h; done)
      rename_i x hx
      injection h with h
      obtain ⟨c,hc,hv⟩:=ht.get hx
      obtain rfl:=hv.inv_b
      have:yielded ops a.tmps j=some x:=by
        unfold yielded
        simp only [hd]
        rw [Array.getElem?_toList] at hc
        simp [hc]
      rw [this,← h]
      cases x<;>cases want<;>rfl
      · rename_i hx
        injection h with h
        obtain ⟨c,hc,hv⟩:=ht.get hx
        have hcc:c=undef:=by
          cases hv with
          | one v c hv=>cases hv with | cell v c hv=>cases hv with | fv v c hv=>cases hv
          | tup cs ds hv=>cases hv; rfl
        subst hcc
        have:yielded ops a.tmps j=none:=by
          unfold yielded
          simp only [hd]
          rw [Array.getElem?_toList] at hc
          simp [hc,undef]
        rw [this,← h]
        rfl
end
structure Y7 where
  rd:List (Nat×Nat)
  wr:List (Nat×Nat)
def Y5 (cx:Cx) (ops:Array Oper) (base:Nat) (A:Nat→I3) (i:Nat) (S:St):Option (St×List Prop×Y7) :=
  match ops[i]? with
  | none=>none
  | some o=>match a4s ops o S.t with
    | some true=>match a7g cx (base+i) o S.t (A i) S.ent with
      | some (out,lg)=>some (S.apply (base+i) o.dst out,out.obl,⟨lg,out.upd.map (·.1)⟩)
      | none=>none
    | some false=>some ({ S with t:=Q5 S.t o.dst (.tup []) },[],⟨[],[]⟩)
    | none=>none
section
variable {cx:Cx} {Γ:L6} {F:Nat→Prop} {ι:Nat→Nat→Value} {S S':St} {a:Act} {w:World} {ops:Array Oper} {base:Nat} {A:Nat→I3}
theorem c81 {grp:Nat} {dst:Option Nat} {out:t7} {g:Nat} (h:(S.apply grp dst out).D g):S.D g∨g=grp:=by
  unfold St.apply at h
  simp only at h
  split at h
  · exact .inl ((Z4 S g _).1 h)
  · rename_i new hnew
    by_cases q:g=grp
    · exact .inr q
    · left
      obtain ⟨l,hl⟩:=h
      simp only [St.lay,List.getElem?_set_ne (Ne.symm q)] at hl
      exact (Z4 S g _).1 ⟨l,hl⟩
theorem d06 {grp:Nat} {dst:Option Nat} {out:t7}:(S.apply grp dst out).h.length=S.h.length:=by
  unfold St.apply
  simp only
  split
  · exact St.upds_len S _
  · simp [St.lay,St.upds_len]
theorem c66 {i:Nat} {ps:List Prop} {ft:Y7} (h:Y5 cx ops base A i S=some (S',ps,ft)):(∀ g,S'.D g→S.D g∨g=base+i)∧S'.h.length=S.h.length:=by
  unfold Y5 at h
  split at h<;>try (cases h; done)
  split at h<;>try (cases h; done)
  · split at h<;>try (cases h; done)
    injection h with h
    injection h with h1 h2
    subst h1
    exact ⟨fun g x=>c81 x,d06⟩
  · injection h with h
    injection h with h1 h2
    subst h1
    exact ⟨fun g x=>.inl x,rfl⟩
theorem c6e {Q:Exit→Act→World→Prop} {K:Act→World→Prop} {i:Nat} {ps:List Prop} {ft:Y7} (h:m3 Γ F ι S a w) (hg:base+i<S.h.length) (hn : ¬ S.D (base+i)) (hs:Y5 cx ops base A i S=some (S',ps,ft)) (hob : ∀ p∈ps,p)
    (hK : ∀ a' w' F' ι',m3 Γ F' ι' S' a' w'→K a' w'):wpOp cx.P ops Q i K a w:=by
  unfold Y5 at hs
  unfold wpOp
  split at hs<;>try (cases hs; done)
  rename_i o ho
  rw [ho]
  simp only
  split at hs<;>try (cases hs; done)
  · rename_i hw
    have hwant:=c8r h.tmps hw
    rw [hwant]
    simp only [if_true]
    split at hs<;>try (cases hs; done)
    rename_i out lg hop
    injection hs with hs
    injection hs with h1 h2
    injection h2 with h2 h3
    subst h1; subst h2
    left
    unfold Oper.wp
    rcases d7O h hg hn hop hob with ⟨nx,c,w',F',ι',hr,hnx,hrel⟩ | ⟨f,args,hr,hcalls⟩
    · rw [hr]
      rcases hnx with rfl | ⟨rfl,rfl⟩
      · exact hK _ _ _ _ hrel
      · exact hK _ _ _ _ hrel
    · rw [hr]
      refine hcalls.mono ?_
      rintro e w' ⟨c,F',ι',rfl,hrel⟩
      exact hK _ _ _ _ hrel
  · rename_i hw
    have hwant:=c8r h.tmps hw
    rw [hwant]
    simp only [Bool.false_eq_true,if_false]
    injection hs with hs
    injection hs with h1 h2
    subst h1
    exact hK _ _ _ _ (h.put o.dst (.tup [] [] .nil))
def a0X (cx:Cx) (ops:Array Oper) (base:Nat) (A:Nat→I3):List Nat→St→Option (St×List (List Prop×Y7))
  | [],S=>some (S,[])
  | i::l,S=>match Y5 cx ops base A i S with
    | some (S1,r)=>match a0X cx ops base A l S1 with
      | some (S2,rs)=>some (S2,r::rs)
      | none=>none
    | none=>none
theorem a8R {i:Nat} {l:List Nat} {rs:List (List Prop×Y7)} (h:a0X cx ops base A (i::l) S=some (S',rs)) : ∃ S1 r rs',Y5 cx ops base A i S=some (S1,r)∧a0X cx ops base A l S1=some (S',rs')∧rs=r::rs':=by
  unfold a0X at h
  split at h<;>try (cases h; done)
  rename_i S1 r h1
  split at h<;>try (cases h; done)
  rename_i S2 rs' h2
  injection h with h
  injection h with h3 h4
  subst h3; subst h4
  exact ⟨S1,r,rs',h1,h2,rfl⟩
theorem c2I {Q:Exit→Act→World→Prop} : ∀ {l:List Nat} {S:St} {F:Nat→Prop} {ι:Nat→Nat→Value} {a:Act} {w:World} {rs:List (List Prop×Y7)},m3 Γ F ι S a w→l.Nodup→(∀ i∈l,base+i<S.h.length ∧ ¬ S.D (base+i))→a0X cx ops base A l S=some (S',rs)→(∀ r∈rs,∀ p∈r.1,p) →
    (∀ a' w' F' ι',m3 Γ F' ι' S' a' w'→Q .normal a' w')→wpOps cx.P ops Q l a w
  | [],S,F,ι,a,w,rs,h,_,_,hr,_,hQ=>by
    unfold a0X at hr
    injection hr with hr
    injection hr with h1 h2
    subst h1
    exact hQ _ _ _ _ h
  | i::l,S,F,ι,a,w,rs,h,hn,hfree,hr,hob,hQ=>by
    obtain ⟨S1,r,rs',h1,h2,rfl⟩:=a8R hr
    rw [wpOps_cons]
    have hn':=List.nodup_cons.1 hn
    obtain ⟨hD,hl⟩:=c66 (ps:=r.1) (ft:=r.2) h1
    refine c6e h (hfree i (by simp)).1 (hfree i (by simp)).2 (ps:=r.1) (ft:=r.2) h1 (hob r (by simp)) fun a' w' F' ι' hrel => ?_
    refine c2I hrel hn'.2 (fun j hj => ?_) h2 (fun r' hr'=>hob r' (by simp [hr'])) hQ
    refine ⟨by rw [hl]; exact (hfree j (by simp [hj])).1,fun x => ?_⟩
    rcases hD _ x with y | y
    · exact (hfree j (by simp [hj])).2 y
    · have:i=j:=by omega
      exact hn'.1 (this▸hj)
end
def o7 {α:Type} (m:a5 α):Prop := ∀ (H H':Hp) r lg,m H=some (r,lg)→(∀ id∈lg,H' id.1 id.2=H id.1 id.2)→m H'=some (r,lg)
namespace o7
variable {α β:Type}
theorem pure (a:α):o7 (a5.pure a):=fun _ _ _ _ h _=>h
theorem no:o7 (a5.no:a5 α):=fun _ _ _ _ h _=>h
theorem lift (o:Option α):o7 (a5.lift o):=by
  intro H H' r lg h _
  unfold a5.lift at h ⊢
  exact h
theorem rd (g j:Nat):o7 (a5.rd g j):=by
  intro H H' r lg h hH
  obtain ⟨h1,h2⟩:=a5.rd_some h
  simp only at h1 h2
  subst h2
  have:=hH (g,j) (by simp)
  unfold a5.rd
  simp only at this
  rw [this,h1]
theorem bind {m:a5 α} {f:α→a5 β} (hm:o7 m) (hf : ∀ a,o7 (f a)):o7 (a5.bind m f):=by
  intro H H' r lg h hH
  obtain ⟨a,l,l',h1,h2,h3⟩:=a5.bind_some h
  simp only at h2 h3
  subst h3
  unfold a5.bind
  rw [hm H H' a l h1 (fun id hid=>hH id (List.mem_append.2 (.inl hid)))]
  simp only
  rw [hf a H H' r l' h2 (fun id hid=>hH id (List.mem_append.2 (.inr hid)))]
theorem ite {c:Prop} [Decidable c] {m n:a5 α} (hm:o7 m) (hn:o7 n):o7 (if c then m else n):=by
  split<;>assumption
end o7
theorem d2L (ck:Option Nat) (v:V):o7 (fzP ck v):=by
  unfold fzP
  cases v<;>try exact o7.no
  case own g j sz lo n =>
    refine .bind (.rd g j) fun e => ?_
    cases e<;>first | exact o7.no | exact .ite (.pure _) .no
  case nil=>cases ck<;>exact .pure _
  all_goals exact .pure _
theorem b84 : ∀ (vs:List V) (ck:List (Option Nat)),o7 (a9B ck vs)
  | [],ck=>by cases ck<;>exact .pure _
  | v::vs,ck=>.bind (d2L _ _) fun x=>.bind (b84 vs _) fun y=>.pure _
theorem d9n (cx:Cx) (ty:Nat) (x:V) (A:M6):o7 (a9L cx ty x A):=by
  unfold a9L
  cases cx.T ty with
  | none=>exact .no
  | some ti =>
    cases x<;>try exact o7.no
    case ptr g j off =>
      refine .bind (.rd g j) fun e => ?_
      cases e<;>try exact o7.no
      case var e cs=>simp only; cases Q6 ti (cs.drop off)<;>first | exact .no | exact .pure _
      case arr e sz n rows=>exact .ite (.pure _) .no
    case eptr g j sz idx off =>
      refine .bind (.rd g j) fun e => ?_
      cases A<;>try exact o7.no
      case row r =>
        simp only
        cases Q6 ti (r.drop off) with
        | none=>exact .no
        | some v=>cases e<;>first | exact o7.no | exact .ite (.pure _) .no
    case fptr cs=>simp only; cases Q6 ti cs<;>first | exact .no | exact .pure _
theorem d48 (cx:Cx) (ty:Nat) (x y:V) (A:M6):o7 (b03 cx ty x y A):=by
  unfold b03
  cases cx.T ty with
  | none=>exact .no
  | some ti =>
    cases y.cells with
    | none=>exact .no
    | some vs =>
      cases x<;>try exact o7.no
      case ptr g j off =>
        refine .bind (.rd g j) fun e => ?_
        cases e<;>first | exact o7.no | exact .ite (.pure _) .no
      case eptr g j sz idx off =>
        refine .bind (.rd g j) fun e => ?_
        cases A<;>try exact o7.no
        case rowck r ck =>
          refine .bind (b84 _ _) fun f => ?_
          cases e<;>first | exact o7.no | exact .ite (.pure _) .no
theorem c05 (pt:Bool) (x:V):o7 (a7f pt x):=by
  unfold a7f
  cases x<;>try first | exact o7.no | exact o7.pure _
  case own g j sz lo n =>
    refine .bind (.rd g j) fun e => ?_
    cases e<;>first | exact o7.no | exact .ite (.pure _) .no
theorem d0D (pt:Bool) (cx:Cx) (grp ty:Nat) (s x:V):o7 (a66 pt cx grp ty s x):=by
  unfold a66
  cases cx.T ty with
  | none=>exact .no
  | some ti =>
    simp only
    cases ti.sl with
    | none=>exact .no
    | some e =>
      simp only
      cases cx.T e with
      | none=>exact .no
      | some ei =>
        refine .bind (c05 _ x) fun q=>.ite ?_ .no
        cases s<;>try first | exact o7.no | exact o7.pure _
        case own g j sz lo n =>
          cases lo with
          | succ k=>exact .no
          | zero =>
            refine .bind (.rd g j) fun e => ?_
            cases e<;>first | exact o7.no | exact .ite (.pure _) .no
theorem d16 (cx:Cx) (ty:Nat) (s x:V):o7 (b0P cx ty s x):=by
  unfold b0P
  cases cx.T ty with
  | none=>exact .no
  | some ti =>
    simp only
    cases ti.sl with
    | none=>exact .no
    | some e =>
      simp only
      cases cx.T e with
      | none=>exact .no
      | some ei =>
        refine .bind (c05 _ x) fun q => ?_
        cases s<;>try exact o7.no
        case own g j sz lo n =>
          cases lo with
          | succ k=>exact .no
          | zero =>
            refine .bind (.rd g j) fun e => ?_
            cases e<;>first | exact o7.no | exact .ite (.pure _) .no
theorem c2z (ck:List (Option Nat)) : ∀ ps:List (Nat×V),o7 (a6E ck ps)
  | []=>.pure _
  | (i,v)::ps=>by
    unfold a6E
    cases v.cells with
    | none=>exact .no
    | some cs=>exact .bind (b84 _ _) fun x=>.bind (c2z ck ps) fun y=>.pure _
theorem d8N (cx:Cx) (grp ty len:Nat) (parts:List (Nat×V)) (A:M6):o7 (a9U cx grp ty len parts A):=by
  unfold a9U
  cases cx.T ty with
  | none=>exact .no
  | some ti =>
    simp only
    cases ti.sl with
    | none=>exact .no
    | some e =>
      simp only
      cases cx.T e with
      | none=>exact .no
      | some ei =>
        cases A<;>try exact o7.no
        case ck ck =>
          refine .bind (c2z _ _) fun q => ?_
          cases a4b ei.size (List.replicate len ei.zero) q.1 with
          | none=>exact .no
          | some rows=>exact .ite (.pure _) .no
theorem c0S (ck om:Option Nat) (v:V):o7 (Q0 ck om v):=by
  unfold Q0
  cases om with
  | some e =>
    refine .ite (.pure _) ?_
    cases v<;>try first | exact o7.no | exact o7.pure _
    case own g j sz lo n =>
      cases lo with
      | succ k=>exact .no
      | zero =>
        refine .bind (.rd g j) fun e => ?_
        cases e<;>first | exact o7.no | exact .ite (.pure _) .no | (rename_i o _ _ _ _; cases o<;>first | exact o7.no | exact .ite (.pure _) .no)
  | none =>
    cases v<;>try first | exact o7.no | exact o7.pure _
    case own g j sz lo n =>
      refine .bind (.rd g j) fun e => ?_
      cases e<;>first | exact o7.no | exact .ite (.pure _) .no | (rename_i o _ _ _ _; cases o<;>first | exact o7.no | exact .ite (.pure _) .no)
    case nil=>cases ck<;>exact .pure _
theorem a8E : ∀ (vs:List V) (ck om:List (Option Nat)),o7 (a1E ck om vs)
  | [],ck,om=>by cases ck<;>cases om<;>exact .pure _
  | v::vs,ck,om=>.bind (c0S _ _ _) fun x=>.bind (a8E vs _ _) fun y=>.pure _
theorem d0r (m:PM) (v:V):o7 (a0I m v):=by
  unfold a0I
  cases m with
  | val ck om =>
    cases v<;>try first | exact o7.no | exact c0S _ _ _
    case agg cs=>exact .bind (a8E _ _ _) fun x=>.pure _
  | ptr ck om =>
    cases v<;>try exact o7.no
    case ptr g j off =>
      cases off with
      | succ k=>exact .no
      | zero =>
        refine .bind (.rd g j) fun e => ?_
        cases e<;>try exact o7.no
        case var e cs=>exact .bind (a8E _ _ _) fun x=>.pure _
  | row =>
    cases v<;>try exact o7.no
    case own g j sz lo n =>
      cases lo with
      | succ k=>exact .no
      | zero =>
        refine .bind (.rd g j) fun e => ?_
        cases e<;>first | exact o7.no | exact .ite (.pure _) .no | (rename_i o _ _ _ _; cases o<;>first | exact o7.no | exact .ite (.pure _) .no)
  | part =>
    cases v<;>try exact o7.no
    case own g j sz lo n =>
      refine .bind (.rd g j) fun e => ?_
      cases e<;>first | exact o7.no | exact .ite (.pure _) .no | (rename_i o _ _ _ _; cases o<;>first | exact o7.no | exact .ite (.pure _) .no)
theorem c6V : ∀ (vs:List V) (ms:List PM),o7 (a1g ms vs)
  | [],ms=>by cases ms<;>exact .pure _
  | v::vs,[]=>.no
  | v::vs,m::ms=>.bind (d0r m v) fun x=>.bind (c6V vs ms) fun y=>.pure _
theorem b6i : ∀ ids:List (Nat×Nat),o7 (a3i ids)
  | []=>.pure _
  | (g,j)::ids=>by
    unfold a3i
    refine .bind (.rd g j) fun e => ?_
    cases e<;>try exact o7.no
    case row t sz n rows=>exact .bind (b6i ids) fun us=>.pure _
    case deep o t sz n rows =>
      cases o
      · exact .bind (b6i ids) fun us=>.pure _
      · exact .no
theorem c3D (grp:Nat) (args:List V) (ms:List PM) (fr:Bool) (res:V) (outs:List (Option V)) (p:List V→Prop):o7 (a5u grp args ms fr res outs p):=by
  unfold a5u
  refine .bind (c6V _ _) fun r=>.bind (b6i _) fun fz => ?_
  simp only
  cases P7 grp (F9 grp 0 res).2.length ms args outs with
  | none=>exact .no
  | some ue=>exact .ite (.pure _) .no
theorem c9d (P:Program) (grp f:Nat) (args:List V) (A:M6):o7 (a9a P grp f args A):=by
  unfold a9a
  cases A<;>try exact o7.no
  case call ms fr res outs=>exact c3D _ _ _ _ _ _ _
  case callr k q ms fr res outs =>
    simp only
    split
    · split
      · exact .bind (c3D _ _ _ _ _ _ _) fun o=>.pure _
      · exact .no
    · exact .no
theorem c2E (cx:Cx) (ty:Nat) (x y:V) (r:List V) (ck om:List (Option Nat)):o7 (a6K cx ty x y r ck om):=by
  unfold a6K
  cases cx.T ty with
  | none=>exact .no
  | some ti =>
    cases y.cells with
    | none=>exact .no
    | some vs =>
      cases x<;>try exact o7.no
      case eptr g j sz idx off =>
        refine .bind (.rd g j) fun e=>.bind (a8E _ _ _) fun f => ?_
        cases e<;>try exact o7.no
        exact .ite (.pure _) .no
theorem c9l (cx:Cx) (grp ty:Nat) (x:V) (r:List V):o7 (a9X cx grp ty x r):=by
  unfold a9X
  cases cx.T ty with
  | none=>exact .no
  | some ti =>
    cases x<;>try exact o7.no
    case eptr g j sz idx off =>
      refine .bind (.rd g j) fun e => ?_
      cases e<;>try exact o7.no
      simp only
      refine .ite ?_ .no
      cases Q6 ti (I1 grp 0 ((r.drop off).take (if ti.agg=true then ti.size else 1))).1 with
      | none=>exact .no
      | some v=>exact .pure _
theorem c9x (cx:Cx) (grp ty:Nat) (x:V) (r:List V):o7 (a85 cx grp ty x r):=by
  unfold a85
  cases cx.T ty with
  | none=>exact .no
  | some ti =>
    cases x<;>try exact o7.no
    case eptr g j sz idx off =>
      refine .bind (.rd g j) fun e => ?_
      cases e<;>try exact o7.no
      simp only
      refine .ite ?_ .no
      cases Q6 ti (I1 grp 0 ((r.drop off).take (if ti.agg=true then ti.size else 1))).1 with
      | none=>exact .no
      | some v=>exact .pure _
theorem d0H (cx:Cx) (ty:Nat) (x y:V) (r:List V) (ck om:List (Option Nat)):o7 (b0l cx ty x y r ck om):=by
  unfold b0l
  refine .bind (c2E _ _ _ _ _ _ _) fun o => ?_
  split
  · exact .bind (.rd _ _) fun _=>.pure _
  · exact .no
theorem d7m (cx:Cx) (ty:Nat) (x:V) (r:List V):o7 (a9p cx ty x r):=by
  unfold a9p
  cases cx.T ty with
  | none=>exact .no
  | some ti =>
    cases x<;>try exact o7.no
    case eptr g j sz idx off =>
      refine .bind (.rd g j) fun e => ?_
      cases e<;>try exact o7.no
      simp only
      refine .ite ?_ .no
      cases Q6 ti ((r.drop off).take (if ti.agg=true then ti.size else 1)) with
      | none=>exact .no
      | some v=>exact .pure _
theorem d35 (cx:Cx) (grp ty:Nat) (l c:V) (ck om:List (Option Nat)):o7 (a97 cx grp ty l c ck om):=by
  unfold a97
  cases cx.T ty with
  | none=>exact .no
  | some ti =>
    simp only
    cases ti.sl with
    | none=>exact .no
    | some e =>
      simp only
      cases cx.T e with
      | none=>exact .no
      | some ei =>
        cases l<;>try exact o7.no
        cases c<;>try exact o7.no
        exact .bind (a8E _ _ _) fun f=>.ite (.pure _) .no
theorem d7D (cx:Cx) (grp ty len:Nat) (parts:List (Nat×V)) (ck om:List (Option Nat)):o7 (b0m cx grp ty len parts ck om):=by
  unfold b0m
  cases cx.T ty with
  | none=>exact .no
  | some ti =>
    simp only
    cases ti.sl with
    | none=>exact .no
    | some e =>
      simp only
      cases cx.T e with
      | none=>exact .no
      | some ei =>
        simp only
        split
        · split
          · exact .bind (a8E _ _ _) fun f=>.ite (.pure _) .no
          · exact .no
        · exact .ite (.pure _) .no
        · exact .no
theorem d5c (cx:Cx) (grp ty:Nat) (s x:V):o7 (b0Y cx grp ty s x):=by
  unfold b0Y
  cases cx.T ty with
  | none=>exact .no
  | some ti =>
    simp only
    cases ti.sl with
    | none=>exact .no
    | some e =>
      simp only
      cases cx.T e with
      | none=>exact .no
      | some ei =>
        simp only
        split
        · refine .bind (.rd _ _) fun e2 => ?_
          split
          · refine .ite ?_ .no
            split
            · exact .pure _
            · refine .bind (.rd _ _) fun e1 => ?_
              split
              · exact .ite (.pure _) .no
              · exact .no
            · exact .no
          · exact .no
        · exact .no
theorem c9n (cx:Cx) (ty:Nat) (x ix:V):o7 (a9Q cx ty x ix):=by
  unfold a9Q
  cases cx.M ty with
  | none=>exact .no
  | some q =>
    obtain ⟨kt,m,z⟩:=q
    cases x<;>try exact o7.no
    cases ix<;>try exact o7.no
    rename_i g j ks
    simp only
    cases a1T ks with
    | none=>exact .no
    | some xs =>
      refine .bind (.rd g j) fun e => ?_
      cases e<;>try exact o7.no
      exact .ite (.pure _) .no
theorem d5d (cx:Cx) (ty:Nat) (x ix y:V):o7 (a9t cx ty x ix y):=by
  unfold a9t
  cases cx.M ty with
  | none=>exact .no
  | some q =>
    obtain ⟨kt,m,z⟩:=q
    cases x<;>try exact o7.no
    cases ix<;>try exact o7.no
    rename_i g j ks
    simp only
    cases a1T ks with
    | none=>exact .no
    | some xs =>
      refine .bind (.rd g j) fun e => ?_
      cases e<;>try exact o7.no
      exact .ite (.pure _) .no
theorem c9K (cx:Cx) (grp:Nat) (ob:Oper) (t:List V) (A:M6):o7 (opM cx grp ob t A):=by
  unfold opM
  cases ob.op<;>try exact o7.lift _
  case buildSlice ty len parts=>cases A<;>first | exact d7D _ _ _ _ _ _ _ | exact d8N _ _ _ _ _ _
  case makeSlice ty l c=>cases A<;>first | exact d35 _ _ _ _ _ _ _ | exact o7.lift _
  case load ty x=>cases A<;>first | exact c9l _ _ _ _ _ | exact c9x _ _ _ _ _ | exact d7m _ _ _ _ | exact d9n _ _ _ _
  case store ty x y =>
    cases ob.dst
    · cases A<;>first | exact c2E _ _ _ _ _ _ _ | exact d0H _ _ _ _ _ _ _ | exact d48 _ _ _ _ _
    · exact .no
  case makeMap ty r=>cases r<;>exact o7.lift _
  case lookup ty x ix ok=>cases ok<;>first | exact c9n _ _ _ _ | exact o7.lift _
  case mapUpdate ty x ix y =>
    cases ob.dst
    · exact d5d _ _ _ _ _
    · exact .no
  case call c =>
    obtain ⟨callee,args,tys⟩:=c
    simp only
    split
    · refine .ite ?_ .no
      cases A<;>first | exact d5c _ _ _ _ _ | exact d0D _ _ _ _ _ _
    · exact d16 _ _ _ _
    · cases j8 t _<;>first | exact c9d _ _ _ _ _ | exact o7.no
    · exact .lift _
theorem d0g (cx:Cx) (grp:Nat) (ob:Oper) (t:List V) (A:I3):o7 (a7g cx grp ob t A):=.bind (c9K _ _ _ _ _) fun o=>.lift _
theorem c7d {t t':List V} : ∀ {xs:List Operand},(∀ x∈xs,j8 t' x=j8 t x)→xs.map (j8 t')=xs.map (j8 t)
  | [],_=>rfl
  | x::xs,h=>by simp only [List.map_cons]; rw [h x (by simp),c7d fun y hy=>h y (by simp [hy])]
theorem b5d {t t':List V} : ∀ {ps:List (Nat×Operand)},(∀ x∈ps.map (·.2),j8 t' x=j8 t x)→(ps.map fun (i,x)=>(i,j8 t' x))=(ps.map fun (i,x)=>(i,j8 t x))
  | [],_=>rfl
  | p::ps,h=>by
    simp only [List.map_cons]
    rw [h p.2 (by simp),b5d fun y hy=>h y (by simp [hy])]
theorem c8x {t t':List V} {o:Option Operand} (h : ∀ x∈o.toList,j8 t' x=j8 t x):o.map (j8 t')=o.map (j8 t):=by
  cases o with
  | none=>rfl
  | some x=>simp only [Option.map_some]; rw [h x (by simp)]
theorem d6M {cx:Cx} {op:Op} {t t':List V} {A:M6} (h : ∀ x∈op.operands.toList,j8 t' x=j8 t x):Q3 cx op t' A=Q3 cx op t A:=by
  cases op<;>try rfl
  case makeFunc fn first captured=>cases fn<;>rfl
  case move x=>simp only [Q3]; rw [h x (by simp [Op.operands])]
  case assign x=>simp only [Q3]; rw [h x (by simp [Op.operands])]
  case pick c x y=>simp only [Q3]; rw [h c (by simp [Op.operands]),h x (by simp [Op.operands]),h y (by simp [Op.operands])]
  case nilCheck x=>simp only [Q3]; rw [h x (by simp [Op.operands])]
  case binOp o ty x y ty'=>simp only [Q3]; rw [h x (by simp [Op.operands]),h y (by simp [Op.operands])]
  case unOp o ty x=>simp only [Q3]; rw [h x (by simp [Op.operands])]
  case convert s d x=>simp only [Q3]; rw [h x (by simp [Op.operands])]
  case extract x k=>simp only [Q3]; rw [h x (by simp [Op.operands])]
  case field ty x f=>simp only [Q3]; rw [h x (by simp [Op.operands])]
  case fieldAddr ty x f=>simp only [Q3]; rw [h x (by simp [Op.operands])]
  case build ty parts=>simp only [Q3]; rw [b5d (by simpa [Op.operands] using h)]
  case indexAddr ty x y=>simp only [Q3]; rw [h x (by simp [Op.operands]),h y (by simp [Op.operands])]
  case index ty x y=>simp only [Q3]; rw [h x (by simp [Op.operands]),h y (by simp [Op.operands])]
  case slice ty x lo hi mx =>
    cases mx with
    | some m=>rfl
    | none =>
      simp only [Q3]
      rw [h x (by simp [Op.operands]),c8x (o:=lo) (fun y hy=>h y (by simp [Op.operands] at hy ⊢; simp [hy])),c8x (o:=hi) (fun y hy=>h y (by simp [Op.operands] at hy ⊢; simp [hy]))]
  case call c =>
    obtain ⟨callee,args,tys⟩:=c
    simp only [Q3]
    cases callee with
    | value x=>rfl
    | invoke x m=>rfl
    | builtin b =>
      have ha : ∀ x∈args.toList,j8 t' x=j8 t x:=fun x hx=>h x (by simpa [Op.operands,Call.operands] using hx)
      cases b<;>try rfl
      all_goals
        generalize args.toList=al at ha
        generalize tys.toList=tl
        rcases al with _ | ⟨s,_ | ⟨x,_ | ⟨y,al⟩⟩⟩<;>rcases tl with _ | ⟨ty,_ | ⟨ty',tl⟩⟩<;>try rfl
        all_goals simp only [ha s (by simp)]
        all_goals try simp only [ha x (by simp)]
theorem d5e {cx:Cx} {grp:Nat} {ob:Oper} {t t':List V} {A:M6} (h : ∀ x∈ob.op.operands.toList,j8 t' x=j8 t x):opM cx grp ob t' A=opM cx grp ob t A:=by
  have hp:=d6M (cx:=cx) (A:=A) h
  unfold opM
  cases ho:ob.op<;>rw [ho] at h hp<;>simp only [hp]
  case box e x=>rw [h x (by simp [Op.operands])]
  case buildSlice ty len parts=>rw [b5d (by simpa [Op.operands] using h)]
  case makeSlice ty l c=>rw [h l (by simp [Op.operands]),h c (by simp [Op.operands])]
  case load ty x=>rw [h x (by simp [Op.operands])]
  case store ty x y=>rw [h x (by simp [Op.operands]),h y (by simp [Op.operands])]
  case makeMap ty r=>cases r<;>simp only [hp]
  case lookup ty x ix ok =>
    have h1:=h x (by simp [Op.operands])
    have h2:=h ix (by simp [Op.operands])
    cases ok<;>simp only [hp,h1,h2]
  case mapUpdate ty x ix y=>rw [h x (by simp [Op.operands]),h ix (by simp [Op.operands]),h y (by simp [Op.operands])]
  case call c =>
    obtain ⟨callee,args,tys⟩:=c
    cases callee with
    | invoke x m=>rfl
    | value fop =>
      have h1:j8 t' fop=j8 t fop:=h fop (by simp [Op.operands,Call.operands])
      have h2:args.toList.map (j8 t')=args.toList.map (j8 t):=c7d fun x hx=>h x (by simp [Op.operands,Call.operands] at hx ⊢; simp [hx])
      simp only [h1,h2]
    | builtin b =>
      have ha : ∀ x∈args.toList,j8 t' x=j8 t x:=fun x hx=>h x (by simpa [Op.operands,Call.operands] using hx)
      cases b<;>try rfl
      all_goals
        generalize args.toList=al at ha
        generalize tys.toList=tl
        rcases al with _ | ⟨s,_ | ⟨x,_ | ⟨y,al⟩⟩⟩<;>rcases tl with _ | ⟨ty,_ | ⟨ty',_ | ⟨ty3,tl⟩⟩⟩<;>try rfl
        all_goals simp only [ha s (by simp),ha x (by simp)]
theorem c3F {t:List V} {dst:Option Nat} {v:V} {x:Operand} (h : ∀ d,dst=some d→x ≠ .tmp d):j8 (Q5 t dst v) x=j8 t x:=by
  cases dst with
  | none=>rfl
  | some d =>
    cases x with
    | tmp k =>
      have:d≠k:=fun q=>h d rfl (by rw [q])
      simp [j8,Q5,List.getElem?_set_ne this]
    | _=>rfl
theorem d3E {S:St} {g j g' j':Nat} {e e':l7} (h : ¬ (g=g'∧j=j')):(S.setE g j e).setE g' j' e'=(S.setE g' j' e').setE g j e:=by
  by_cases q:g=g'
  · subst q
    have hj:j≠j':=fun z=>h ⟨rfl,z⟩
    cases hx:S.h[g]? with
    | none=>unfold St.setE; simp [hx]
    | some o=>cases o with
      | none=>unfold St.setE; simp [hx]
      | some l =>
        have hlt:=(List.getElem?_eq_some_iff.1 hx).1
        rw [a2h hx,a2h hx,a2h (l:=l.set j e) (by simp [hlt]),a2h (l:=l.set j' e') (by simp [hlt])]
        simp only [List.set_set]
        rw [List.set_comm _ _ hj]
  · unfold St.setE
    cases hx:S.h[g]? with
    | none =>
      cases hy:S.h[g']? with
      | none=>simp [hx,hy]
      | some o=>cases o with
        | none=>simp [hx,hy]
        | some l=>simp [hx,hy,List.getElem?_set_ne (Ne.symm q)]
    | some o=>cases o with
      | none =>
        cases hy:S.h[g']? with
        | none=>simp [hx,hy]
        | some o=>cases o with
          | none=>simp [hx,hy]
          | some l=>simp [hx,hy,List.getElem?_set_ne (Ne.symm q)]
      | some l =>
        cases hy:S.h[g']? with
        | none=>simp [hx,hy,List.getElem?_set_ne q]
        | some o=>cases o with
          | none=>simp [hx,hy,List.getElem?_set_ne q]
          | some l'=>simp [hx,hy,List.getElem?_set_ne q,List.getElem?_set_ne (Ne.symm q),List.set_comm _ _ q]
theorem c5x {g j:Nat} {e:l7} : ∀ {us:List L8} {S:St},(∀ u∈us,¬ (g=u.1.1∧j=u.1.2))→(S.setE g j e).upds us=(S.upds us).setE g j e
  | [],_,_=>rfl
  | ((g',j'),e')::us,S,h=>by
    simp only [St.upds]
    rw [d3E (h ((g',j'),e') (by simp)),c5x fun u hu=>h u (by simp [hu])]
theorem a8W : ∀ {us vs:List L8} {S:St},(∀ u∈us,∀ v∈vs,u.1≠v.1)→(S.upds us).upds vs=(S.upds vs).upds us
  | [],_,_,_=>rfl
  | ((g,j),e)::us,vs,S,h=>by
    simp only [St.upds]
    rw [a8W fun u hu=>h u (by simp [hu]),c5x fun v hv q=>h ((g,j),e) (by simp) v hv (Prod.ext q.1 q.2)]
theorem d6n {S:St} {g g':Nat} {n n':List l7} (h:g≠g'):(S.lay g n).lay g' n'=(S.lay g' n').lay g n:=by
  simp [St.lay,List.set_comm _ _ h]
theorem d0B {t:List V} {d d':Option Nat} {v v':V} (h : ∀ k,d=some k→d'≠some k):Q5 (Q5 t d v) d' v'=Q5 (Q5 t d' v') d v:=by
  cases d with
  | none=>rfl
  | some k=>cases d' with
    | none=>rfl
    | some k' =>
      have:k≠k':=fun q=>h k rfl (by rw [q])
      simp [Q5,List.set_comm _ _ this]
def a2O (S:St) (t:List V):St:={ S with t:=t }
def hp (S:St) (grp:Nat) (o:t7):St:=match o.new with
  | none=>S.upds o.upd
  | some new=>(S.upds o.upd).lay grp new
theorem b8w (S:St) (grp:Nat) (dst:Option Nat) (o:t7):S.apply grp dst o=a2O (hp S grp o) (Q5 S.t dst o.v):=by
  unfold St.apply hp a2O
  cases o.new with
  | none=>simp only [St.upds_t]
  | some new=>simp only [St.lay,St.upds_t]
theorem d1N (S:St) (t:List V) (g j:Nat) (e:l7):(a2O S t).setE g j e=a2O (S.setE g j e) t:=by
  unfold a2O St.setE
  simp only
  split<;>rfl
theorem b5l (t:List V) : ∀ (us:List L8) (S:St),(a2O S t).upds us=a2O (S.upds us) t
  | [],_=>rfl
  | ((g,j),e)::us,S=>by simp only [St.upds]; rw [d1N,b5l]
theorem d7B (S:St) (t:List V) (grp:Nat) (o:t7):hp (a2O S t) grp o=a2O (hp S grp o) t:=by
  unfold hp
  cases o.new with
  | none=>simp only [b5l]
  | some new=>simp only [b5l]; rfl
theorem d1G {S:St} {g g':Nat} {o o':t7} (hg:g≠g') (h1 : ∀ u∈o.upd,∀ v∈o'.upd,u.1≠v.1) (h2 : ∀ u∈o.upd,u.1.1≠g') (h3 : ∀ u∈o'.upd,u.1.1≠g):hp (hp S g o) g' o'=hp (hp S g' o') g o:=by
  unfold hp
  cases o.new with
  | none=>cases o'.new with
    | none=>simp only; exact a8W h1
    | some n'=>simp only; rw [← a8F o.upd _ h2,a8W h1]
  | some n=>cases o'.new with
    | none=>simp only; rw [← a8F o'.upd _ h3,a8W h1]
    | some n' =>
      simp only
      rw [← a8F o'.upd _ h3,← a8F o.upd _ h2,a8W h1,d6n hg]
theorem d4a {S:St} {grp:Nat} {o:t7} {g j:Nat} (h1:g≠grp) (h2 : ∀ u∈o.upd,u.1≠(g,j)):(hp S grp o).ent g j=S.ent g j:=by
  have:(S.upds o.upd).ent g j=S.ent g j:=by
    refine b4H ?_
    unfold a7O
    rw [List.all_eq_true]
    intro u hu
    have:=h2 u hu
    simp only [Bool.not_eq_true',Bool.and_eq_false_iff,beq_eq_false_iff_ne]
    by_cases q:g=u.1.1
    · right
      intro z
      exact this (Prod.ext q.symm z.symm)
    · exact .inl q
  unfold hp
  cases o.new with
  | none=>exact this
  | some new=>simp only; rw [a6g h1]; exact this
section
variable {cx:Cx} {ops:Array Oper} {base:Nat} {A:Nat→I3}
theorem c7e {i:Nat} {S S':St} {ps:List Prop} {ft:Y7} (h:Y5 cx ops base A i S=some (S',ps,ft)) : ∃ o out,ops[i]?=some o∧S'=S.apply (base+i) o.dst out∧ft.wr=out.upd.map (·.1) ∧
    ∀ T:St,(∀ x∈o.op.operands.toList,j8 T.t x=j8 S.t x)→a4s ops o T.t=a4s ops o S.t→(∀ id∈ft.rd,T.ent id.1 id.2=S.ent id.1 id.2)→Y5 cx ops base A i T=some (T.apply (base+i) o.dst out,ps,ft):=by
  unfold Y5 at h
  split at h<;>try (cases h; done)
  rename_i o ho
  split at h<;>try (cases h; done)
  · rename_i hw
    split at h<;>try (cases h; done)
    rename_i out lg hop
    injection h with h
    injection h with h1 h2
    injection h2 with h2 h3
    subst h1; subst h2; subst h3
    refine ⟨o,out,ho,rfl,rfl,?_⟩
    intro T hx hwT hent
    have hst:a7g cx (base+i) o T.t (A i)=a7g cx (base+i) o S.t (A i):=by
      unfold a7g
      rw [d5e hx]
    have:=d0g cx (base+i) o S.t (A i) S.ent T.ent out lg hop hent
    unfold Y5
    rw [ho]
    simp only [hwT,hw,hst,this]
  · rename_i hw
    injection h with h
    injection h with h1 h2
    injection h2 with h2 h3
    subst h1; subst h2; subst h3
    refine ⟨o,{ v:=.tup [] },ho,rfl,rfl,?_⟩
    intro T hx hwT hent
    unfold Y5
    rw [ho]
    simp only [hwT,hw]
    rfl
structure Ind (ops:Array Oper) (base:Nat) (x i:Nat) (f1 f2:Y7):Prop where
  ne:x≠i
  apart : ∀ o1 o2,ops[x]?=some o1→ops[i]?=some o2→o1.apart ops o2=true
  w1 : ∀ id∈f1.wr,id ∉ f2.rd∧id ∉ f2.wr
  w2 : ∀ id∈f2.wr,id ∉ f1.rd
  g1 : ∀ id∈f2.rd++f2.wr,id.1≠base+x
  g2 : ∀ id∈f1.rd++f1.wr,id.1≠base+i
theorem c1v {o:Oper} {x:Operand} (hx:x∈o.op.operands.toList) {d:Nat} (hd:d ∉ o.looksAt ops):x ≠ .tmp d:=by
  intro q
  subst q
  apply hd
  unfold Oper.looksAt
  exact List.mem_append.2 (.inl (List.mem_filterMap.2 ⟨_,hx,rfl⟩))
theorem c4v {o:Oper} {t:List V} {dst:Option Nat} {v:V} (hd : ∀ d,dst=some d→d ∉ o.looksAt ops):a4s ops o (Q5 t dst v)=a4s ops o t:=by
  unfold a4s
  split
  · rfl
  · rename_i j want hg
    cases hj:(ops[j]?).bind (·.dst) with
    | none=>rfl
    | some d =>
      simp only
      cases dst with
      | none=>rfl
      | some k =>
        have hk:k≠d:=by
          intro q
          subst q
          apply hd k rfl
          unfold Oper.looksAt
          rw [hg]
          exact List.mem_append.2 (.inr (by simp [hj]))
        simp only [Q5,List.getElem?_set_ne hk]
theorem b3C {S:St} {grp:Nat} {dst:Option Nat} {o:t7}:(S.apply grp dst o).t=Q5 S.t dst o.v:=by rw [b8w]; rfl
theorem c8v {S:St} {grp:Nat} {dst:Option Nat} {o:t7} {g j:Nat} (h1:g≠grp) (h2:(g,j) ∉ o.upd.map (·.1)):(S.apply grp dst o).ent g j=S.ent g j:=by
  rw [b8w]
  show (hp S grp o).ent g j=_
  exact d4a h1 fun u hu q=>h2 (List.mem_map.2 ⟨u,hu,q⟩)
theorem d8l {x i:Nat} {S S1 S2:St} {p1 p2:List Prop} {f1 f2:Y7} (hx:Y5 cx ops base A x S=some (S1,p1,f1)) (hi:Y5 cx ops base A i S1=some (S2,p2,f2)) (h:Ind ops base x i f1 f2) :
    ∃ S1',Y5 cx ops base A i S=some (S1',p2,f2)∧Y5 cx ops base A x S1'=some (S2,p1,f1):=by
  obtain ⟨o1,out1,ho1,rfl,hw1,hr1⟩:=c7e hx
  obtain ⟨o2,out2,ho2,rfl,hw2,hr2⟩:=c7e hi
  obtain ⟨a1,a2,a3⟩:=Oper.apart_spec (h.apart o1 o2 ho1 ho2)
  have e1:=hr2 S (fun z hz=>by rw [b3C,c3F fun d hd=>c1v (ops:=ops) hz (a1 d hd)]) (by rw [b3C,c4v a1]) (fun id hid=>by
    refine (c8v (h.g1 id (List.mem_append.2 (.inl hid))) ?_).symm
    rw [← hw1]
    exact fun q=>(h.w1 id q).1 hid)
  refine ⟨_,e1,?_⟩
  have e2:=hr1 (S.apply (base+i) o2.dst out2) (fun z hz=>by rw [b3C,c3F fun d hd=>c1v (ops:=ops) hz (a3 d hd)]) (by rw [b3C,c4v a3]) (fun id hid=>by
    refine c8v (h.g2 id (List.mem_append.2 (.inl hid))) ?_
    rw [← hw2]
    exact fun q=>h.w2 id q hid)
  rw [e2]
  congr 2
  simp only [b8w,d7B]
  have hh:hp (hp S (base+x) out1) (base+i) out2=hp (hp S (base+i) out2) (base+x) out1:=by
    refine d1G (fun q=>h.ne (by omega)) ?_ ?_ ?_
    · intro u hu v hv q
      have m1:u.1∈f1.wr:=by rw [hw1]; exact List.mem_map.2 ⟨u,hu,rfl⟩
      have m2:v.1∈f2.wr:=by rw [hw2]; exact List.mem_map.2 ⟨v,hv,rfl⟩
      exact (h.w1 _ m1).2 (q▸m2)
    · intro u hu
      exact h.g2 _ (List.mem_append.2 (.inr (by rw [hw1]; exact List.mem_map.2 ⟨u,hu,rfl⟩)))
    · intro u hu
      exact h.g1 _ (List.mem_append.2 (.inr (by rw [hw2]; exact List.mem_map.2 ⟨u,hu,rfl⟩)))
  rw [hh]
  unfold a2O
  simp only
  rw [d0B (fun k hk q=>a2 k hk q)]
abbrev Rc:=Nat→List Prop×Y7
theorem c4K {rc:Rc} {i:Nat} : ∀ {l m:List Nat} {S S':St},(∀ x∈l,Ind ops base x i (rc x).2 (rc i).2)→a0X cx ops base A (l++i::m) S=some (S',(l++i::m).map rc)→a0X cx ops base A (i::(l++m)) S=some (S',(i::(l++m)).map rc)
  | [],m,S,S',_,h=>h
  | x::l,m,S,S',hind,h=>by
    obtain ⟨S1,r,rs,h1,h2,h3⟩:=a8R h
    simp only [List.cons_append,List.map_cons] at h3
    injection h3 with h3 h4
    subst h3; subst h4
    have h5:=c4K (fun y hy=>hind y (by simp [hy])) h2
    obtain ⟨S2,r2,rs2,h6,h7,h8⟩:=a8R h5
    simp only [List.map_cons] at h8
    injection h8 with h8 h9
    subst h8; subst h9
    obtain ⟨S1',e1,e2⟩:=d8l (p1:=(rc x).1) (f1:=(rc x).2) (p2:=(rc i).1) (f2:=(rc i).2) h1 h6 (hind x (by simp))
    have e2':Y5 cx ops base A x S1'=some (S2,rc x):=e2
    have e1':Y5 cx ops base A i S=some (S1',rc i):=e1
    simp only [List.cons_append,a0X,e1',e2',h7,List.map_cons]
end
def a2a (ops:Array Oper) (i:Nat):List Nat :=
  match ops[i]? with
  | some o=>(o.after.toList.filter (Region.binds .any)).map (·.on)
  | none=>[]
def a2P (ops:Array Oper):Nat→List (List Nat)
  | 0=>[]
  | k+1=>let L:=a2P ops k; L++[(a2a ops k).flatMap fun e=>e::L.getD e []]
def a5F (ops:Array Oper) (i:Nat):List Nat:=(a2P ops (i+1)).getD i []
theorem a48 (ops:Array Oper) : ∀ k,(a2P ops k).length=k
  | 0=>rfl
  | k+1=>by simp [a2P,a48 ops k]
theorem b83 (ops:Array Oper) (i:Nat) : ∀ k,i<k→(a2P ops k).getD i []=a5F ops i
  | k+1,h=>by
    by_cases q:i=k
    · subst q; rfl
    · have:i<k:=by omega
      rw [← b83 ops i k this]
      simp only [a2P,List.getD_eq_getElem?_getD]
      rw [List.getElem?_append_left (by rw [a48]; exact this)]
theorem d46 (ops:Array Oper) (i:Nat):a5F ops i=(a2a ops i).flatMap fun e=>e::(a2P ops i).getD e []:=by
  unfold a5F
  simp only [a2P,List.getD_eq_getElem?_getD]
  rw [List.getElem?_append_right (by rw [a48]; omega),a48]
  simp
theorem c2v {ops:Array Oper} {Y3:Array Bool} {i:Nat} (h:i∈Region.ready .any ops Y3):i<ops.size∧Y3.getD i true=false ∧ ∀ e∈a2a ops i,Y3.getD e false=true:=by
  unfold Region.ready at h
  obtain ⟨h1,h2⟩:=List.mem_filter.1 h
  have hlt:=List.mem_range.1 h1
  simp only [Bool.and_eq_true,Bool.not_eq_true'] at h2
  refine ⟨hlt,h2.1,?_⟩
  intro e he
  unfold a2a at he
  rw [Array.getElem?_eq_getElem hlt] at he h2
  simp only [List.mem_map,List.mem_filter] at he
  obtain ⟨ed,⟨hm,hb⟩,rfl⟩:=he
  have:=h2.2
  simp only [Option.map_some,Option.getD_some,Array.all_eq_true_iff_forall_mem] at this
  have:=this ed (by simpa using hm)
  simpa [hb] using this
theorem d12 {ops:Array Oper} {Y3:Array Bool} {i:Nat} (hlt:i<ops.size) (hl:Y3.getD i true=false) (he : ∀ e∈a2a ops i,Y3.getD e false=true):i∈Region.ready .any ops Y3:=by
  unfold Region.ready
  refine List.mem_filter.2 ⟨List.mem_range.2 hlt,?_⟩
  rw [Array.getElem?_eq_getElem hlt]
  simp only [hl,Bool.not_false,Option.map_some,Option.getD_some,Bool.true_and,Array.all_eq_true_iff_forall_mem]
  intro ed hm
  by_cases hb:Region.binds .any ed=true
  · have:ed.on∈a2a ops i:=by
      unfold a2a
      rw [Array.getElem?_eq_getElem hlt]
      exact List.mem_map.2 ⟨ed,List.mem_filter.2 ⟨by simpa using hm,hb⟩,rfl⟩
    simp [he _ this]
  · simp [hb]
section
variable {cx:Cx} {Γ:L6} {ops:Array Oper} {base:Nat} {A:Nat→I3} {Q:Exit→Act→World→Prop} {S':St} {rc:Rc}
theorem d2u (c3r : ∀ i,i<ops.size → ∀ e∈a2a ops i,e<i) (hind : ∀ x i,x<i→i<ops.size→x ∉ a5F ops i→Ind ops base x i (rc x).2 (rc i).2) (hob : ∀ i,i<ops.size → ∀ p∈(rc i).1,p)
    (hQ : ∀ a' w' F' ι',m3 Γ F' ι' S' a' w'→Q .normal a' w') : ∀ (fuel:Nat) (R:List Nat) (Y3:Array Bool) (S:St) (F:Nat→Prop) (ι:Nat→Nat→Value) (a:Act) (w:World),
    R.length=fuel→Y3.size=ops.size→R.Pairwise (· < ·)→(∀ i,i<ops.size→(Y3.getD i true=false↔i∈R))→(∀ i∈R,i<ops.size)→(∀ i,i<ops.size→i ∉ R → ∀ x∈a5F ops i,x ∉ R) →
    m3 Γ F ι S a w→(∀ i∈R,base+i<S.h.length ∧ ¬ S.D (base+i))→a0X cx ops base A R S=some (S',R.map rc)→wpAny cx.P .any ops Q fuel Y3 a w:=by
  intro fuel
  induction fuel with
  | zero =>
    intro R Y3 S F ι a w hR hsz hpw hlist hlt hdown hrel hfree hrun
    have:R=[]:=List.eq_nil_of_length_eq_zero hR
    subst this
    unfold a0X at hrun
    injection hrun with hrun
    injection hrun with h1 h2
    subst h1
    refine ⟨?_,hQ _ _ _ _ hrel⟩
    rw [List.eq_nil_iff_forall_not_mem]
    intro i hi
    obtain ⟨h1,h2,_⟩:=c2v hi
    have:=(hlist i h1).1 h2
    simp at this
  | succ fuel ih =>
    intro R Y3 S F ι a w hR hsz hpw hlist hlt hdown hrel hfree hrun
    refine ⟨fun d3K => ?_,fun i hi => ?_⟩
    · exfalso
      cases R with
      | nil=>simp at hR
      | cons r R =>
        have hr:=hlt r (by simp)
        have hrd:r∈Region.ready .any ops Y3:=by
          refine d12 hr ((hlist r hr).2 (by simp)) ?_
          intro e he
          have hlt':=c3r r hr e he
          have hen:e ∉ r::R:=by
            intro q
            rcases List.mem_cons.1 q with q | q
            · omega
            · have:=(List.pairwise_cons.1 hpw).1 e q
              omega
          have:=mt (hlist e (by omega)).1 hen
          have hes:e<Y3.size:=by omega
          simp only [Array.getD_eq_getD_getElem?,Array.getElem?_eq_getElem hes,Option.getD_some] at this ⊢
          simpa using this
        rw [d3K] at hrd
        simp at hrd
    · obtain ⟨hi1,hi2,hi3⟩:=c2v hi
      have hiR:=(hlist i hi1).1 hi2
      obtain ⟨A1,B1,hAB⟩:=List.append_of_mem hiR
      have hpw':=hpw
      rw [hAB] at hpw'
      obtain ⟨hpA,hpB,hpAB⟩:=List.pairwise_append.1 hpw'
      have hcl : ∀ x∈a5F ops i,x ∉ R:=by
        intro x hx
        rw [d46] at hx
        obtain ⟨e,he,hx⟩:=List.mem_flatMap.1 hx
        have hel:=c3r i hi1 e he
        have heR:e ∉ R:=by
          intro q
          have h1:=(hlist e (by omega)).2 q
          have h2:=hi3 e he
          have hes:e<Y3.size:=by omega
          simp only [Array.getD_eq_getD_getElem?,Array.getElem?_eq_getElem hes,Option.getD_some] at h1 h2
          rw [h1] at h2
          cases h2
        rcases List.mem_cons.1 hx with rfl | hx
        · exact heR
        · rw [b83 ops e i hel] at hx
          exact hdown e (by omega) heR x hx
      have hfront:=c4K (cx:=cx) (A:=A) (rc:=rc) (i:=i) (l:=A1) (m:=B1) (S:=S) (S':=S') (fun x hx=>by
        have hxR:x∈R:=by rw [hAB]; simp [hx]
        exact hind x i (hpAB x hx i (by simp)) hi1 (fun q=>hcl x q hxR)) (by rw [← hAB]; exact hrun)
      obtain ⟨S1,r,rs,h1,h2,h3⟩:=a8R hfront
      simp only [List.map_cons] at h3
      injection h3 with h3 h4
      subst h3; subst h4
      obtain ⟨hD,hl⟩:=c66 (ps:=(rc i).1) (ft:=(rc i).2) h1
      refine c6e hrel (hfree i hiR).1 (hfree i hiR).2 (ps:=(rc i).1) (ft:=(rc i).2) h1 (hob i hi1) fun a' w' F' ι' hrel' => ?_
      have hsub : ∀ j,j∈A1++B1↔(j∈R∧j≠i):=by
        intro j
        rw [hAB]
        simp only [List.mem_append,List.mem_cons]
        constructor
        · intro hj
          refine ⟨by rcases hj with q | q<;>simp [q],?_⟩
          rintro rfl
          rcases hj with q | q
          · have:=hpAB j q j (by simp); omega
          · have:=(List.pairwise_cons.1 hpB).1 j q; omega
        · rintro ⟨q | rfl | q,hne⟩
          · exact .inl q
          · exact absurd rfl hne
          · exact .inr q
      refine ih (A1++B1) _ S1 F' ι' a' w' ?_ (by simp [hsz]) ?_ ?_ ?_ ?_ hrel' ?_ h2
      · rw [hAB] at hR
        simp at hR ⊢
        omega
      · refine List.pairwise_append.2 ⟨hpA,(List.pairwise_cons.1 hpB).2,fun x hx y hy=>hpAB x hx y (by simp [hy])⟩
      · intro j hj
        rw [hsub]
        have hjs:j<Y3.size:=by omega
        simp only [Array.getD_eq_getD_getElem?]
        by_cases q:j=i
        · subst q
          simp [hjs]
        · rw [Array.getElem?_setIfInBounds_ne (Ne.symm q),← hlist j hj,Array.getD_eq_getD_getElem?]
          simp [q]
      · intro j hj
        exact hlt j ((hsub j).1 hj).1
      · intro j hj hjn x hx hxm
        have hxR:=((hsub x).1 hxm).1
        by_cases q:j=i
        · subst q
          exact hcl x hx hxR
        · exact hdown j hj (fun z=>hjn ((hsub j).2 ⟨z,q⟩)) x hx hxR
      · intro j hj
        have hjR:=((hsub j).1 hj)
        refine ⟨by rw [hl]; exact (hfree j hjR.1).1,fun x => ?_⟩
        rcases hD _ x with y | y
        · exact (hfree j hjR.1).2 y
        · exact hjR.2 (by omega)
end
def b3Q (l:List Nat) (x:Nat):Bool:=l.any fun y=>y==x
theorem d50 {l:List Nat} {x:Nat}:b3Q l x=true↔x∈l:=by
  unfold b3Q
  rw [List.any_eq_true]
  constructor
  · rintro ⟨y,hy,h⟩
    simp at h
    exact h▸hy
  · intro h
    exact ⟨x,h,by simp⟩
def dnN:List Nat→List Nat
  | []=>[]
  | x::xs=>if b3Q (dnN xs) x then dnN xs else x::dnN xs
theorem b6k {x:Nat} : ∀ {l:List Nat},x∈dnN l→x∈l
  | y::l,h=>by
    unfold dnN at h
    split at h
    · exact List.mem_cons.2 (.inr (b6k h))
    · rcases List.mem_cons.1 h with rfl | h
      · simp
      · exact List.mem_cons.2 (.inr (b6k h))
def a5f (ops:Array Oper):Nat→List (List Nat)
  | 0=>[]
  | k+1=>let L:=a5f ops k; L++[dnN ((a2a ops k).flatMap fun e=>e::L.getD e [])]
theorem b1r (ops:Array Oper) : ∀ k,(a5f ops k).length=k
  | 0=>rfl
  | k+1=>by simp [a5f,b1r ops k]
theorem b72 (ops:Array Oper) : ∀ k i,∀ x∈(a5f ops k).getD i [],x∈(a2P ops k).getD i []
  | 0,i,x,h=>by simp [a5f] at h
  | k+1,i,x,h=>by
    simp only [a5f,a2P,List.getD_eq_getElem?_getD] at h ⊢
    by_cases q:i<k
    · rw [List.getElem?_append_left (by rw [b1r]; exact q)] at h
      rw [List.getElem?_append_left (by rw [a48]; exact q)]
      have:=b72 ops k i x (by rw [List.getD_eq_getElem?_getD]; exact h)
      rwa [List.getD_eq_getElem?_getD] at this
    · rw [List.getElem?_append_right (by rw [b1r]; omega),b1r] at h
      rw [List.getElem?_append_right (by rw [a48]; omega),a48]
      by_cases q':i=k
      · subst q'
        simp only [Nat.sub_self,List.getElem?_cons_zero,Option.getD_some] at h ⊢
        obtain ⟨e,he,hx⟩:=List.mem_flatMap.1 (b6k h)
        refine List.mem_flatMap.2 ⟨e,he,?_⟩
        rcases List.mem_cons.1 hx with rfl | hx
        · simp
        · have:=b72 ops i e x (by rw [List.getD_eq_getElem?_getD]; exact hx)
          rw [List.getD_eq_getElem?_getD] at this
          exact List.mem_cons.2 (.inr this)
      · have:i - k=(i - k - 1)+1:=by omega
        rw [this] at h
        simp at h
def b6I (ops:Array Oper) (base x i:Nat) (f1 f2:Y7):Bool :=
  (match ops[x]?,ops[i]? with
   | some o1,some o2=>o1.apart ops o2
   | _,_=>false) &&
  f1.wr.all (fun id => !a1b f2.rd id && !a1b f2.wr id)&&f2.wr.all (fun id => !a1b f1.rd id) &&
  f2.rd.all (fun id => !(id.1==base+x))&&f2.wr.all (fun id => !(id.1==base+x)) &&
  f1.rd.all (fun id => !(id.1==base+i))&&f1.wr.all (fun id => !(id.1==base+i))
theorem b3j {l:List (Nat×Nat)} {x:Nat×Nat} (h:(!a1b l x)=true):x ∉ l:=by
  intro q
  rw [a4N.2 q] at h
  cases h
theorem d7H {ops:Array Oper} {base x i:Nat} {f1 f2:Y7} (hne:x<i) (h:b6I ops base x i f1 f2=true):Ind ops base x i f1 f2:=by
  unfold b6I at h
  simp only [Bool.and_eq_true] at h
  obtain ⟨⟨⟨⟨⟨⟨h1,h2⟩,h3⟩,h4⟩,h5⟩,h6⟩,h7⟩:=h
  refine ⟨by omega,?_,?_,?_,?_,?_⟩
  · intro o1 o2 e1 e2
    rw [e1,e2] at h1
    exact h1
  · intro id hid
    have:=List.all_eq_true.1 h2 id hid
    simp only [Bool.and_eq_true] at this
    exact ⟨b3j this.1,b3j this.2⟩
  · intro id hid
    exact b3j (List.all_eq_true.1 h3 id hid)
  · intro id hid
    rcases List.mem_append.1 hid with q | q
    · have:=List.all_eq_true.1 h4 id q
      simpa using this
    · have:=List.all_eq_true.1 h5 id q
      simpa using this
  · intro id hid
    rcases List.mem_append.1 hid with q | q
    · have:=List.all_eq_true.1 h6 id q
      simpa using this
    · have:=List.all_eq_true.1 h7 id q
      simpa using this
def c7D (ops:Array Oper) (base:Nat) (L:List (List Nat)) (fs:List Y7):Bool :=
  (List.range ops.size).all fun i =>
    (a2a ops i).all (fun e=>Nat.blt e i) &&
    (List.range i).all fun x=>b3Q (L.getD i []) x||b6I ops base x i (fs.getD x ⟨[],[]⟩) (fs.getD i ⟨[],[]⟩)
def b9Q (A:List (Nat×I3)) (i:Nat):I3 :=
  match A with
  | []=>{}
  | (j,x)::A=>if j==i then x else b9Q A i
def b2W:List (List Prop×Y7)→List Prop
  | []=>[]
  | r::rs=>r.1++b2W rs
theorem c1o {rs:List (List Prop×Y7)} (h : ∀ p∈b2W rs,p) : ∀ r∈rs,∀ p∈r.1,p:=by
  induction rs with
  | nil=>intro r hr; cases hr
  | cons r rs ih =>
    intro r' hr p hp
    rcases List.mem_cons.1 hr with rfl | hr
    · exact h p (List.mem_append.2 (.inl hp))
    · exact ih (fun p hp=>h p (List.mem_append.2 (.inr hp))) r' hr p hp
def a23:Nat→List (Option (List l7))
  | 0=>[]
  | n+1=>none::a23 n
theorem c3m : ∀ (n i:Nat) (l:List l7),(a23 n)[i]?≠some (some l)
  | 0,i,l=>by simp [a23]
  | n+1,0,l=>by simp [a23]
  | n+1,i+1,l=>by simpa [a23] using c3m n i l
theorem c7j : ∀ n,(a23 n).length=n
  | 0=>rfl
  | n+1=>by simp [a23,c7j n]
def St.more (S:St) (n:Nat):St:={ S with h:=S.h++a23 n }
theorem b3P {S:St} {n g:Nat} {l:List l7}:(S.more n).h[g]?=some (some l)↔S.h[g]?=some (some l):=by
  unfold St.more
  simp only
  by_cases q:g<S.h.length
  · rw [List.getElem?_append_left q]
  · rw [List.getElem?_append_right (by omega)]
    constructor
    · intro h
      exact absurd h (c3m _ _ _)
    · intro h
      have:=(List.getElem?_eq_some_iff.1 h).1
      omega
theorem a7F {S:St} {n g:Nat}:(S.more n).D g↔S.D g:=by
  unfold St.D
  constructor
  · rintro ⟨l,h⟩
    exact ⟨l,b3P.1 h⟩
  · rintro ⟨l,h⟩
    exact ⟨l,b3P.2 h⟩
theorem a9l {S:St} {n g j:Nat}:(S.more n).ent g j=S.ent g j:=by
  have key : ∀ e,(S.more n).ent g j=some e↔S.ent g j=some e:=by
    intro e
    constructor
    · intro h
      obtain ⟨l,hl⟩:=St.D_of_ent h
      rw [a1f hl] at h
      rw [a1f (b3P.1 hl)]
      exact h
    · intro h
      obtain ⟨l,hl⟩:=St.D_of_ent h
      rw [a1f hl] at h
      rw [a1f (b3P.2 hl)]
      exact h
  cases h:S.ent g j with
  | some e=>exact (key e).2 h
  | none =>
    cases h':(S.more n).ent g j with
    | none=>rfl
    | some e=>rw [(key e).1 h'] at h; cases h
theorem m3.more {Γ:L6} {F:Nat→Prop} {ι:Nat→Nat→Value} {S:St} {a:Act} {w:World} (h:m3 Γ F ι S a w) (n:Nat):m3 Γ F ι (S.more n) a w :=
  { F0:=h.F0,F1:=h.F1,F2:=h.F2,kept:=h.kept
    tmps:=h.tmps.imp fun _ _ x=>x.mono (fun _ _ _=>rfl) (fun _ y=>y) (fun g y=>a7F.2 y) (fun _ _ _=>rfl)
    ents:=fun g j e he=>(h.ents g j e (a9l▸he)).mono (fun _ _ _=>rfl) (fun _ y=>y) (fun g y=>a7F.2 y) (fun _ _ _=>rfl) (fun _ _ _=>rfl)
    sep:=fun g j e k he=>h.sep g j e k (a9l▸he)
    inj:=fun g j e g' j' e' k he he'=>h.inj g j e g' j' e' k (a9l▸he) (a9l▸he')
    defers:=h.defers
    pins:=fun j c hc=>⟨a7F.2 (h.pins j c hc).1,(h.pins j c hc).2⟩ }
def b8c (cx:Cx) (ops:Array Oper) (draw:Bool) (A:List (Nat×I3)) (S:St):Option (St×List Prop) :=
  match a0X cx ops S.h.length (b9Q A) (List.range ops.size) (S.more ops.size) with
  | none=>none
  | some (S',rs)=>if draw then (if c7D ops S.h.length (a5f ops ops.size) (rs.map (·.2)) then some (S',b2W rs) else none) else some (S',b2W rs)
section
variable {cx:Cx} {Γ:L6} {F:Nat→Prop} {ι:Nat→Nat→Value} {S S':St} {a:Act} {w:World} {ops:Array Oper} {A:List (Nat×I3)}
theorem c2o {base:Nat} {B:Nat→I3} : ∀ {l:List Nat} {S S':St} {rs:List (List Prop×Y7)},a0X cx ops base B l S=some (S',rs)→rs.length=l.length
  | [],S,S',rs,h=>by
    unfold a0X at h
    injection h with h
    injection h with h1 h2
    subst h2
    rfl
  | i::l,S,S',rs,h=>by
    obtain ⟨S1,r,rs',h1,h2,rfl⟩:=a8R h
    simp [c2o h2]
theorem d6X {α:Type} (d:α) : ∀ {rs:List α} {n:Nat},rs.length=n→rs=(List.range n).map fun i=>rs.getD i d:=by
  intro rs n h
  apply List.ext_getElem
  · simp [h]
  · intro i h1 h2
    simp [List.getD_eq_getElem?_getD,h1]
theorem d1j {draw:Bool} {id:Nat} {ps:List Prop} {Q:Exit→Act→World→Prop} (h:m3 Γ F ι S a w) (hr:b8c cx ops draw A S=some (S',ps)) (hob : ∀ p∈ps,p)
    (hQ : ∀ a' w' F' ι',m3 Γ F' ι' S' a' w'→Q .normal a' w'):(Code.region id ops draw).wp cx.P Q a w:=by
  unfold b8c at hr
  split at hr<;>try (cases hr; done)
  rename_i S1 rs hrun
  have hfree : ∀ i∈List.range ops.size,S.h.length+i<(S.more ops.size).h.length ∧ ¬ (S.more ops.size).D (S.h.length+i):=by
    intro i hi
    refine ⟨by simp [St.more,c7j,List.mem_range.1 hi],fun q => ?_⟩
    obtain ⟨l,hl⟩:=a7F.1 q
    have:=(List.getElem?_eq_some_iff.1 hl).1
    omega
  cases draw with
  | false =>
    simp only [Bool.false_eq_true,if_false] at hr
    injection hr with hr
    injection hr with h1 h2
    subst h1; subst h2
    exact wp_region (c2I (h.more ops.size) List.nodup_range hfree hrun (c1o hob) hQ)
  | true =>
    simp only [if_true] at hr
    split at hr<;>try (cases hr; done)
    rename_i hap
    injection hr with hr
    injection hr with h1 h2
    subst h1; subst h2
    have hw:m3 Γ F ι (S.more ops.size) a { w with drawn:=w.drawn+1 }:=(h.more ops.size).world ⟨rfl,rfl,rfl⟩ (Nat.le_refl _) (fun _ _=>rfl)
    have hlen:=c2o hrun
    rw [List.length_range] at hlen
    have hrs:=d6X (([],⟨[],[]⟩):List Prop×Y7) hlen
    unfold c7D at hap
    rw [List.all_eq_true] at hap
    have hap' : ∀ i,i<ops.size→(∀ e∈a2a ops i,e<i) ∧ ∀ x,x<i→x ∉ a5F ops i→Ind ops S.h.length x i ((rs.getD x ([],⟨[],[]⟩)).2) ((rs.getD i ([],⟨[],[]⟩)).2):=by
      intro i hi
      have:=hap i (List.mem_range.2 hi)
      simp only [Bool.and_eq_true] at this
      refine ⟨fun e he => ?_,fun x hx hc => ?_⟩
      · have:=List.all_eq_true.1 this.1 e he
        rwa [Nat.blt_eq] at this
      · have h2:=List.all_eq_true.1 this.2 x (List.mem_range.2 hx)
        rcases Bool.or_eq_true_iff.1 h2 with q | q
        · exfalso
          apply hc
          have:=b72 ops ops.size i x (d50.1 q)
          rwa [b83 ops i ops.size hi] at this
        · have:=d7H hx q
          have hm : ∀ j,j<rs.length→(rs.map (·.2)).getD j ⟨[],[]⟩=(rs.getD j ([],⟨[],[]⟩)).2:=by
            intro j hj
            simp [List.getD_eq_getElem?_getD,hj]
          rw [hm x (by omega),hm i (by omega)] at this
          exact this
    refine wp_region_any cx.mixed ?_
    have hrange : ∀ i,i<ops.size→rs.getD i ([],⟨[],[]⟩)∈rs:=by
      intro i hi
      have:i<rs.length:=by omega
      simp [List.getD_eq_getElem?_getD,this]
    refine d2u (rc:=fun i=>rs.getD i ([],⟨[],[]⟩)) (base:=S.h.length) (A:=b9Q A) (fun i hi=>(hap' i hi).1) (fun x i hx hi hc=>(hap' i hi).2 x hx hc) (fun i hi p hp=>c1o hob _ (hrange i hi) p hp) hQ
      ops.size (List.range ops.size) _ _ F ι a _ (by simp) (by simp) ?_ ?_ ?_ ?_ hw hfree ?_
    · exact List.pairwise_lt_range
    · intro i hi
      simp [List.mem_range,hi,Array.getD_eq_getD_getElem?]
    · intro i hi
      exact List.mem_range.1 hi
    · intro i hi hn
      exact absurd (List.mem_range.2 hi) hn
    · rw [← hrs]
      exact hrun
end
def mvM (t:List V):List Item→Option (List Item)
  | .code .skip::k=>some k
  | .inBlock _::k=>some k
  | .code (.seq x y)::k=>some (.code x :: .code y::k)
  | .code (.cond c x y)::k=>match j8 t c with
    | .b true=>some (.code x::k)
    | .b false=>some (.code y::k)
    | _=>none
  | .code (.block id c)::k=>some (.code c :: .inBlock id::k)
  | .code (.loop c)::k=>some (.code c :: .inLoop c::k)
  | .inLoop c::k=>some (.code c :: .inLoop c::k)
  | .code (.exit id)::k=>exitTo id k
  | _=>none
abbrev a0t:=List (List (Nat×I3))
def goM (cx:Cx):Nat→List Item→St→a0t→Option (List Item×St×List Prop)
  | 0,_,_,_=>none
  | n+1,k,S,sc =>
    match k with
    | .code (.region id ops draw)::k'=>match sc with
      | []=>some (k,S,[])
      | A::sc'=>match b8c cx ops draw A S with
        | some (S1,ps)=>match goM cx n k' S1 sc' with
          | some (k2,S2,qs)=>some (k2,S2,ps++qs)
          | none=>none
        | none=>none
    | k=>match mvM S.t k with
      | some k1=>goM cx n k1 S sc
      | none=>match sc with
        | []=>some (k,S,[])
        | _::_=>none
section
variable {cx:Cx} {Γ:L6} {F:Nat→Prop} {ι:Nat→Nat→Value} {S S':St} {a:Act} {w:World} {b:Frame} {cs:List Frame} {k k':List Item}
theorem d1X (h:m3 Γ F ι S a w) (hm:mvM S.t k=some k'):step cx.P (lone (b.at a k) cs w) = .next (lone (b.at a k') cs w):=by
  unfold mvM at hm
  split at hm
  · injection hm with hm; subst hm; exact step_skip
  · injection hm with hm; subst hm; exact step_inBlock
  · injection hm with hm; subst hm; exact step_seq
  · rename_i c x y k0
    have hc:=A4 h.tmps c
    split at hm<;>try (cases hm; done)
    · rename_i hx
      injection hm with hm; subst hm
      rw [hx] at hc
      have:=step_cond (P:=cx.P) (b:=b) (k:=k0) (cs:=cs) (w:=w) (x:=x) (y:=y) hc.inv_b
      simpa using this
    · rename_i hx
      injection hm with hm; subst hm
      rw [hx] at hc
      have:=step_cond (P:=cx.P) (b:=b) (k:=k0) (cs:=cs) (w:=w) (x:=x) (y:=y) hc.inv_b
      simpa using this
  · injection hm with hm; subst hm; exact step_block
  · injection hm with hm; subst hm; exact step_loop
  · injection hm with hm; subst hm; exact step_inLoop
  · exact step_exit hm
  · cases hm
theorem d52 : ∀ {n:Nat} {k:List Item} {S:St} {F:Nat→Prop} {ι:Nat→Nat→Value} {a:Act} {w:World} {sc:a0t} {ps:List Prop},m3 Γ F ι S a w→goM cx n k S sc=some (k',S',ps)→(∀ p∈ps,p) →
    ∃ a' w' F' ι',Steps cx.P (lone (b.at a k) cs w) (lone (b.at a' k') cs w')∧m3 Γ F' ι' S' a' w':=by
  intro n
  induction n with
  | zero=>intro k S F ι a w sc ps h hg hob; cases hg
  | succ n ih =>
    intro k S F ι a w sc ps h hg hob
    unfold goM at hg
    split at hg
    · rename_i id ops draw k0
      split at hg
      · injection hg with hg
        injection hg with h1 h2
        injection h2 with h2 h3
        subst h1; subst h2
        exact ⟨a,w,F,ι,.refl _ _,h⟩
      · rename_i A sc'
        split at hg<;>try (cases hg; done)
        rename_i S1 qs hr
        split at hg<;>try (cases hg; done)
        rename_i k2 S2 rs hg2
        injection hg with hg
        injection hg with h1 h2
        injection h2 with h2 h3
        subst h1; subst h2; subst h3
        have hwp:=d1j (cx:=cx) (draw:=draw) (id:=id) (Q:=fun e a' w'=>e = .normal ∧ ∃ F' ι',m3 Γ F' ι' S1 a' w') h hr (fun p hp=>hob p (List.mem_append.2 (.inl hp)))
          (fun a' w' F' ι' hrel=>⟨rfl,F',ι',hrel⟩)
        obtain ⟨e,a1,w1,⟨he,F1,ι1,h1⟩,harr⟩:=hwp b k0 cs
        subst he
        obtain ⟨a2,w2,F2,ι2,hs,h2⟩:=ih h1 hg2 (fun p hp=>hob p (List.mem_append.2 (.inr hp)))
        exact ⟨a2,w2,F2,ι2,Steps.trans harr hs,h2⟩
    · split at hg
      · rename_i k1 hm
        obtain ⟨a2,w2,F2,ι2,hs,h2⟩:=ih h hg hob
        exact ⟨a2,w2,F2,ι2,.head (d1X h hm) hs,h2⟩
      · split at hg<;>try (cases hg; done)
        injection hg with hg
        injection hg with h1 h2
        injection h2 with h2 h3
        subst h1; subst h2
        exact ⟨a,w,F,ι,.refl _ _,h⟩
end
structure T4 where
  f:Nat
  fn:Func
  rms:List PM
  oms:List (Option (Nat×PM))
def c2n (w:World) (F:Nat→Prop) (fp:List Nat) (cargs:List Value) (res:V) (outs:List (Option V)) (e:Ending) (w':World):Prop :=
  ∃ c F' fr fo,e = .returned c∧a2E (· ∈ fp) w w'∧(∀ k,F k→F' k)∧(∀ k,F' k→(F k∨k∈fp∨w.heap.size≤k)∧k<w'.heap.size) ∧
      BR w' F' res c fr∧BO w' F' outs cargs fo∧(fr++fo).Nodup ∧ ∀ k∈fr++fo,¬ F' k∧(k∈fp∨w.heap.size≤k)∧k<w'.heap.size
def PM.isVal:PM→Bool
  | .val .. => true
  | _=>false
def a4h (bs:List Value):List (Option Nat)→Nat→List Value→Prop
  | [],_,[]=>True
  | none::om,j,d::ds=>d.oneCell'=true∧a4h bs om j ds
  | some _::om,j,d::ds=>bs[j]?=some d∧a4h bs om (j+1) ds
  | _,_,_=>False
inductive a1x:List (Option (Nat×PM))→List Value→List Value→Prop
  | nil (bs):a1x [] [] bs
  | skip (oms c cs bs) (t:a1x oms cs bs):a1x (none::oms) (c::cs) bs
  | pin (j m oms c cs bs) (hm:m.isVal=false) (h:bs[j]?=some c) (t:a1x oms cs bs):a1x (some (j,m)::oms) (c::cs) bs
  | agg (j ck om oms ds cs bs) (h:a4h bs om j ds) (t:a1x oms cs bs):a1x (some (j,.val ck om)::oms) (.agg ds.toArray::cs) bs
def b8 (cx:Cx) (X:T4) (res:V) (outs:List (Option V)) (k:List Item) (S:St):Prop :=
  ∀ (w0:World) (F0:Nat→Prop) (fp:List Nat) (cargs bs:List Value),a1x X.oms cargs bs→(∀ k,F0 k→k<w0.heap.size) →
  ∀ (F:Nat→Prop) (ι:Nat→Nat→Value) (a:Act) (w:World) (b:Frame) (cs:List Frame),m3 ⟨w0,F0,(· ∈ fp),bs⟩ F ι S a w→b.fn=X.f→b.kind = .normal →
    ∃ e w' fr,c2n w0 F0 fp cargs res outs e w'∧Comes cx.P (lone (b.at a k) cs w) (lone fr cs w') e∧fr.fn=X.f∧fr.leaving cx.P w' e
theorem b8.go {cx:Cx} {X:T4} {res:V} {outs:List (Option V)} {k k':List Item} {S S':St} {n:Nat} {sc:a0t} {ps:List Prop} (hg:goM cx n k S sc=some (k',S',ps)) (hob : ∀ p∈ps,p) (h:b8 cx X res outs k' S'):b8 cx X res outs k S:=by
  intro w0 F0 fp cargs bs hp hF0 F ι a w b cs hrel hb1 hb2
  obtain ⟨a',w',F',ι',hs,hrel'⟩:=d52 (b:=b) (cs:=cs) hrel hg hob
  obtain ⟨e,w2,fr,h1,h2,h3,h4⟩:=h w0 F0 fp cargs bs hp hF0 F' ι' a' w' b cs hrel' hb1 hb2
  exact ⟨e,w2,fr,h1,.of_steps hs h2,h3,h4⟩
def b9N (cx:Cx) (t:List V) (r:ResultVar):a5 V :=
  match r with
  | .tmp k=>a5.pure (t.getD k .bot)
  | .cell a ty=>match cx.T ty with
    | some ti=>match t.getD a .bot with
      | .ptr g j off=>a5.bind (a5.rd g j) fun e=>match e with
        | .var _ cs=>match Q6 ti (cs.drop off) with
          | some v=>a5.pure v
          | none=>a5.no
        | _=>a5.no
      | _=>a5.no
    | none=>a5.no
def b5W (cx:Cx) (t:List V):List ResultVar→a5 (List V)
  | []=>a5.pure []
  | r::rs=>a5.bind (b9N cx t r) fun v=>a5.bind (b5W cx t rs) fun vs=>a5.pure (v::vs)
def b2r:List (Option Nat)→Nat→a5 (List V)
  | [],_=>a5.pure []
  | none::om,j=>a5.bind (b2r om j) fun vs=>a5.pure (.bot::vs)
  | some _::om,j=>a5.bind (a5.rd 0 j) fun e=>a5.bind (b2r om (j+1)) fun vs=>match e with
    | .row _ sz n _=>a5.pure (.own 0 j sz 0 n::vs)
    | .deep false _ sz n _=>a5.pure (.own 0 j sz 0 n::vs)
    | _=>a5.no
def a58:List (Option (Nat×PM))→a5 (List V×List PM)
  | []=>a5.pure ([],[])
  | none::os=>a58 os
  | some (j,.val ck om)::os=>a5.bind (b2r om j) fun cs=>a5.bind (a58 os) fun x=>a5.pure (.agg cs::x.1,.val ck om::x.2)
  | some (j,m)::os=>a5.bind (a5.rd 0 j) fun e=>match m,e with
    | .ptr _ _,.var _ _=>a5.bind (a58 os) fun x=>a5.pure (.ptr 0 j 0::x.1,m::x.2)
    | .row,.row _ sz n _=>a5.bind (a58 os) fun x=>a5.pure (.own 0 j sz 0 n::x.1,m::x.2)
    | .row,.deep false _ sz n _=>a5.bind (a58 os) fun x=>a5.pure (.own 0 j sz 0 n::x.1,m::x.2)
    | _,_=>a5.no
def b1q:List V→V
  | [v]=>v
  | vs=>.tup vs
def a5A:List (Option (Nat×PM))→List V→List (Option V)
  | [],_=>[]
  | none::os,vs=>none::a5A os vs
  | some _::os,v::vs=>some v::a5A os vs
  | some _::os,[]=>none::a5A os []
def b6r (cx:Cx) (X:T4) (t:List V):a5 (AR (List V)×Nat) :=
  a5.bind (b5W cx t X.fn.results.toList) fun rv=>a5.bind (a58 X.oms) fun ov=>a5.bind (a1g (X.rms++ov.2) (rv++ov.1)) fun r =>
    if a19 r.ks&&r.ls.all (fun id => !a1b r.ks id)&&Nat.beq rv.length X.rms.length then a5.pure (r,rv.length) else a5.no
def b91 (cx:Cx) (X:T4) (k:List Item) (S:St):Option (V×List (Option V)×List Prop) :=
  match k with
  | .code .ret::_ | []=>match b6r cx X S.t S.ent with
    | some ((r,n),_)=>some (b1q (r.v.take n),a5A X.oms (r.v.drop n),r.obl)
    | none=>none
  | _=>none
section
variable {cx:Cx} {Γ:L6} {F:Nat→Prop} {ι:Nat→Nat→Value} {S S':St} {a:Act} {w:World} {b:Frame} {cs:List Frame} {k k':List Item}
theorem c3Y (h:m3 Γ F ι S a w) (k:Nat):RV w F S.D ι (S.t.getD k .bot) (a.tmps.getD k undef):=A4 h.tmps (.tmp k)
def b2S (P:Program) (tmps:Array Value) (w:World) (r:ResultVar) (c:Value):Prop :=
  ((match r with
    | .tmp t=>pure (tmps.getD t undef)
    | .cell a t=>do loadVar t (← asAddr (tmps.getD a undef))):Sem Value).run P w = .ok c w
theorem d6y (h:m3 Γ F ι S a w) {r:ResultVar} {v:V} {lg:List (Nat×Nat)} (hr:b9N cx S.t r S.ent=some (v,lg)) : ∃ c,b2S cx.P a.tmps w r c∧RV w F S.D ι v c:=by
  unfold b9N at hr
  cases r with
  | tmp k =>
    have:=a5.pure_some hr
    injection this with this h9
    subst this
    exact ⟨_,rfl,c3Y h k⟩
  | cell ad ty =>
    simp only at hr
    cases hti:cx.T ty with
    | none=>rw [hti] at hr; cases hr
    | some ti =>
    rw [hti] at hr
    obtain ⟨i,d,z,htf⟩:=cx.tf hti
    have hx:=c3Y h ad
    generalize S.t.getD ad .bot=xv at hr hx
    cases xv<;>try (cases hr; done)
    case ptr g j off =>
      obtain ⟨hD,b,hι,hc⟩:=hx.inv_ptr
      obtain ⟨e,l1,l2,hrd,hp',hl12⟩:=a5.bind_some hr
      clear hr
      have he:=(a5.rd_some hrd).1
      simp only at he
      have hre:=h.ents g j e he
      split at hp'<;>try (cases hp'; done)
      · rename_i e0 cs
        obtain ⟨g0,cur,h1,hg,hcs⟩:=hre
        rw [hι] at h1
        injection h1 with h1
        injection h1 with h1
        injection h1 with h1
        subst h1
        cases hrv:Q6 ti (cs.drop off) with
        | none=>rw [hrv] at hp'; cases hp'
        | some v' =>
        rw [hrv] at hp'
        have:=a5.pure_some hp'
        injection this with this h9
        subst this
        obtain ⟨c,hrd',hvc⟩:=a4u (hcs.drop off) hrv
        refine ⟨c,?_,hvc⟩
        unfold b2S
        simp only [hc,asAddr]
        have:=c39 htf (a4P hg off) hrd'
        simpa [Sem.run_bind] using this
theorem c0u (h:m3 Γ F ι S a w) : ∀ {rs:List ResultVar} {vs:List V} {lg:List (Nat×Nat)},b5W cx S.t rs S.ent=some (vs,lg) → ∃ cs,n5 (b2S cx.P a.tmps w) rs cs∧n5 (RV w F S.D ι) vs cs
  | [],vs,lg,hr=>by
    have:=a5.pure_some hr
    injection this with this h9
    subst this
    exact ⟨[],.nil,.nil⟩
  | r::rs,vs,lg,hr=>by
    obtain ⟨v,l1,l2,h1,h2,_⟩:=a5.bind_some hr
    obtain ⟨vs',l3,l4,h3,h4,_⟩:=a5.bind_some h2
    have:=a5.pure_some h4
    injection this with this h9
    subst this
    obtain ⟨c,e1,e2⟩:=d6y h h1
    obtain ⟨cs,e3,e4⟩:=c0u h h3
    exact ⟨c::cs,.cons e1 e3,.cons e2 e4⟩
def a80:List Value→Value
  | [c]=>c
  | cs=>.tuple cs.toArray
theorem c1x {P:Program} {w:World} {α:Type} {f:α→Sem Value} : ∀ {l:List α} {cs:List Value},n5 (fun r c=>(f r).run P w = .ok c w) l cs→(l.mapM f).run P w = .ok cs w
  | _,_,.nil=>by simp [Sem.run]
  | _,_,.cons h t=>by
    rw [List.mapM_cons]
    have:=c1x t
    simp [Sem.run_bind,h,this]
theorem d4V {P:Program} {fn:Func} {tmps:Array Value} {w:World} {cs:List Value} (h:n5 (b2S P tmps w) fn.results.toList cs):(results fn tmps).run P w = .ok (a80 cs) w:=by
  unfold results
  have hm:=c1x (f:=fun r:ResultVar=>match r with
    | .tmp t=>pure (tmps.getD t undef)
    | .cell a t=>do loadVar t (← asAddr (tmps.getD a undef))) (h.imp fun r c x=>x)
  have he:fn.results=fn.results.toList.toArray:=by simp
  rw [he,List.mapM_toArray]
  have hp:(if hh:cs.toArray.size=1 then cs.toArray[0] else Value.tuple cs.toArray)=a80 cs:=by
    rcases cs with _ | ⟨c,_ | ⟨c',cs⟩⟩
    · rfl
    · rfl
    · have : ¬ (c::c'::cs).toArray.size=1:=by simp
      rw [dif_neg this]
      rfl
  simp only [map_eq_pure_bind,Sem.run_bind,bind_assoc,pure_bind]
  refine (congrArg (fun r=>Result.andThen r _) hm).trans ?_
  simp only [Result.andThen]
  rw [← hp]
  rfl
theorem b8W (h:m3 Γ F ι S a w) : ∀ {om:List (Option Nat)} {j:Nat} {ds:List Value} {vs:List V} {lg:List (Nat×Nat)},a4h Γ.pins om j ds→b2r om j S.ent=some (vs,lg)→n5 (RC w F S.D ι) vs ds
  | [],j,[],vs,lg,_,hr=>by
    have:=a5.pure_some hr
    injection this with h1 h2
    subst h1
    exact .nil
  | none::om,j,d::ds,vs,lg,hc,hr=>by
    obtain ⟨xs,l1,l2,h1,h2,_⟩:=a5.bind_some hr
    have:=a5.pure_some h2
    injection this with h3 h4
    subst h3
    exact .cons (.fv _ _ (.bot _ hc.1)) (b8W h hc.2 h1)
  | some _::om,j,d::ds,vs,lg,hc,hr=>by
    obtain ⟨e,l1,l2,hrd,hp,_⟩:=a5.bind_some hr
    have he:=(a5.rd_some hrd).1
    simp only at he
    have hD:=St.D_of_ent he
    have hι:=(h.pins j d hc.1).2
    have hre:=h.ents 0 j e he
    obtain ⟨xs,l3,l4,h1,h2,_⟩:=a5.bind_some hp
    have ht:=b8W h hc.2 h1
    split at h2<;>try (cases h2; done)
    · have:=a5.pure_some h2
      injection this with h3 h4
      subst h3
      refine .cons ?_ ht
      have:=RC.whole hD rfl hre
      rwa [hι] at this
    · have:=a5.pure_some h2
      injection this with h3 h4
      subst h3
      refine .cons ?_ ht
      obtain ⟨flat,fs,ho,_⟩:=hre
      have:=RC.wholeO (F:=F) (D:=S.D) hD rfl ho
      rwa [hι] at this
  | [],_,_::_,_,_,hc,_=>hc.elim
  | none::_,_,[],_,_,hc,_=>hc.elim
  | some _::_,_,[],_,_,hc,_=>hc.elim
theorem a8w (h:m3 Γ F ι S a w) : ∀ {oms:List (Option (Nat×PM))} {cargs:List Value} {vs:List V} {ms:List PM} {lg:List (Nat×Nat)},a1x oms cargs Γ.pins→a58 oms S.ent=some ((vs,ms),lg) → ∃ cs,n5 (RV w F S.D ι) vs cs ∧
    ∀ {F1:Nat→Prop} {us:List V} {f:List Nat},BS w F1 us cs f→BO w F1 (a5A oms us) cargs f
  | [],_,vs,ms,lg,.nil _,hr=>by
    have:=a5.pure_some hr
    injection this with h1 h2
    injection h1 with h1 h3
    subst h1
    exact ⟨[],.nil,fun hb=>by cases hb; exact .nil⟩
  | none::oms,_,vs,ms,lg,.skip _ c cs _ t,hr=>by
    obtain ⟨cs',e1,e2⟩:=a8w h t hr
    exact ⟨cs',e1,fun {F1 us f} hb=>.skip _ _ _ _ (e2 hb)⟩
  | some (j,.val ck om)::oms,_,vs,ms,lg,.agg _ _ _ _ ds cs _ hc t,hr=>by
    obtain ⟨xs,l1,l2,hxs,hp,_⟩:=a5.bind_some hr
    obtain ⟨x,l3,l4,h1,h2,_⟩:=a5.bind_some hp
    have:=a5.pure_some h2
    injection this with h3 h4
    injection h3 with h3 h5
    subst h3
    obtain ⟨cs',e1,e2⟩:=a8w h t h1
    refine ⟨.agg ds.toArray::cs',.cons (.one _ _ (.agg _ _ (b8W h hc hxs))) e1,?_⟩
    intro F1 us f hb
    cases hb with
    | cons v c f vs cs fs h t=>exact .cons _ _ _ _ _ _ h (e2 t)
  | some (j,.val ck om)::oms,_,vs,ms,lg,.pin _ _ _ c cs _ hm hc t,hr=>by cases hm
  | some (j,.part)::oms,_,vs,ms,lg,.pin _ _ _ c cs _ hm hc t,hr=>by
    obtain ⟨e,l1,l2,hrd,hp,_⟩:=a5.bind_some hr
    cases e<;>cases hp
  | some (j,.ptr ck om)::oms,_,vs,ms,lg,.pin _ _ _ c cs _ hm hc t,hr=>by
    obtain ⟨e,l1,l2,hrd,hp,_⟩:=a5.bind_some hr
    have he:=(a5.rd_some hrd).1
    simp only at he
    have hD:=St.D_of_ent he
    have hι:=(h.pins j c hc).2
    have hre:=h.ents 0 j e he
    cases e<;>try (cases hp; done)
    obtain ⟨x,l3,l4,h1,h2,_⟩:=a5.bind_some hp
    have:=a5.pure_some h2
    injection this with h3 h4
    injection h3 with h3 h5
    subst h3
    obtain ⟨cs',e1,e2⟩:=a8w h t h1
    obtain ⟨g,cur,q1,q2,q3⟩:=hre
    refine ⟨c::cs',.cons (.one _ _ (.cell _ _ ?_)) e1,?_⟩
    · rw [← hι,q1]
      exact .ptr 0 j 0 g hD q1
    · intro F1 us f hb
      cases hb with
      | cons v c f vs cs fs h t=>exact .cons _ _ _ _ _ _ h (e2 t)
  | some (j,.row)::oms,_,vs,ms,lg,.pin _ _ _ c cs _ hm hc t,hr=>by
    obtain ⟨e,l1,l2,hrd,hp,_⟩:=a5.bind_some hr
    have he:=(a5.rd_some hrd).1
    simp only at he
    have hD:=St.D_of_ent he
    have hι:=(h.pins j c hc).2
    have hre:=h.ents 0 j e he
    cases e<;>try (cases hp; done)
    case row =>
      obtain ⟨x,l3,l4,h1,h2,_⟩:=a5.bind_some hp
      have:=a5.pure_some h2
      injection this with h3 h4
      injection h3 with h3 h5
      subst h3
      obtain ⟨cs',e1,e2⟩:=a8w h t h1
      refine ⟨c::cs',.cons (.one _ _ (.cell _ _ ?_)) e1,?_⟩
      · have:=RC.whole hD rfl hre
        rwa [hι] at this
      · intro F1 us f hb
        cases hb with
        | cons v c f vs cs fs h t=>exact .cons _ _ _ _ _ _ h (e2 t)
    case deep o _ _ _ _ =>
      cases o<;>try (cases hp; done)
      obtain ⟨x,l3,l4,h1,h2,_⟩:=a5.bind_some hp
      have:=a5.pure_some h2
      injection this with h3 h4
      injection h3 with h3 h5
      subst h3
      obtain ⟨cs',e1,e2⟩:=a8w h t h1
      obtain ⟨flat,fs,ho,_⟩:=hre
      refine ⟨c::cs',.cons (.one _ _ (.cell _ _ ?_)) e1,?_⟩
      · have:=RC.wholeO (F:=F) (D:=S.D) hD rfl ho
        rwa [hι] at this
      · intro F1 us f hb
        cases hb with
        | cons v c f vs cs fs h t=>exact .cons _ _ _ _ _ _ h (e2 t)
theorem n5.app {α β:Type} {R:α→β→Prop} : ∀ {t8 bs cs ds},n5 R t8 bs→n5 R cs ds→n5 R (t8++cs) (bs++ds)
  | _,_,_,_,.nil,k=>k
  | _,_,_,_,.cons hx t,k=>.cons hx (t.app k)
theorem BS.split : ∀ {c1 c2:List Value} {vs:List V} {f:List Nat},BS w F vs (c1++c2) f → ∃ f1 f2,f=f1++f2∧BS w F (vs.take c1.length) c1 f1∧BS w F (vs.drop c1.length) c2 f2
  | [],c2,vs,f,h=>⟨[],f,rfl,by simpa using .nil,by simpa using h⟩
  | c::c1,c2,_,_,.cons v _ f vs _ fs h t=>by
    obtain ⟨f1,f2,rfl,h1,h2⟩:=BS.split t
    exact ⟨f++f1,f2,by simp,.cons _ _ _ _ _ _ h h1,h2⟩
theorem BS.pack {vs:List V} {cs:List Value} {f:List Nat} (h:BS w F vs cs f):BR w F (b1q vs) (a80 cs) f:=by
  cases h with
  | nil=>exact .tup _ _ _ .nil
  | cons v c f vs cs fs h t =>
    cases t with
    | nil=>rw [List.append_nil]; exact .one _ _ _ h
    | cons v' c' f' vs' cs' fs' h' t'=>exact .tup _ _ _ (.cons _ _ _ _ _ _ h (.cons _ _ _ _ _ _ h' t'))
theorem b8.ret {X:T4} {res:V} {outs:List (Option V)} {ps:List Prop} (hf:cx.P.funcs[X.f]?=some X.fn) (hr:b91 cx X k S=some (res,outs,ps)) (hob : ∀ p∈ps,p):b8 cx X res outs k S:=by
  obtain ⟨r,n,lg,hR,rfl,rfl,rfl,hk⟩ : ∃ r n lg,b6r cx X S.t S.ent=some ((r,n),lg)∧b1q (r.v.take n)=res∧a5A X.oms (r.v.drop n)=outs∧r.obl=ps∧(k=[] ∨ ∃ k',k = .code .ret::k'):=by
    unfold b91 at hr
    split at hr<;>try (cases hr; done)
    all_goals
      split at hr<;>try (cases hr; done)
      rename_i r n lg hR
      injection hr with hr
      injection hr with h1 h2
      injection h2 with h2 h3
      first | exact ⟨r,n,lg,hR,h1,h2,h3,.inr ⟨_,rfl⟩⟩ | exact ⟨r,n,lg,hR,h1,h2,h3,.inl rfl⟩
  intro w0 F0 fp cargs bs hp hF0 F ι a w b cs h hb1 hb2
  unfold b6r at hR
  obtain ⟨rv,l1,l2,g1,g2,_⟩:=a5.bind_some hR
  obtain ⟨⟨ov,om⟩,l3,l4,g3,g4,_⟩:=a5.bind_some g2
  obtain ⟨r',l5,l6,g5,g6,_⟩:=a5.bind_some g4
  simp only at g6
  split at g6<;>try (cases g6; done)
  rename_i hchk
  have:=a5.pure_some g6
  injection this with e1 e2
  injection e1 with e1 e3
  subst e1; subst e3
  simp only [Bool.and_eq_true] at hchk
  obtain ⟨⟨hnk,hls⟩,hlen⟩:=hchk
  have hnk':=a3w hnk
  have hdis : ∀ id∈r.ls,id ∉ r.ks:=fun id hid=>b3j (List.all_eq_true.1 hls id hid)
  obtain ⟨rcs,q1,q2⟩:=c0u h g1
  obtain ⟨ocs,q3,q4⟩:=a8w h hp g3
  let F1:Nat→Prop:=fun k=>F k ∨ ∃ id∈r.ls,∃ e,S.ent id.1 id.2=some e∧EB w e (ι id.1 id.2) k
  obtain ⟨fpx,hbs,hfps,hhk,hhl⟩:=c6k (F1:=F1) h (fun k x=>.inl x) (q2.app q3) g5 hob (fun id hid e k he hk=>.inr ⟨id,hid,e,he,hk⟩)
  obtain ⟨f1,f2,hf12,b1,b2⟩:=hbs.split
  have hl2:rcs.length=rv.length:=q2.length.symm
  rw [hl2] at b1 b2
  have hfpn:=J0.nodup h hfps hnk'
  have hF1lt : ∀ k,F1 k→k<w.heap.size:=by
    rintro k (x | ⟨id,hid,e,he,hb⟩)
    · exact h.F1 k x
    · obtain ⟨e',he',hl'⟩:=hhl id hid
      have:e=e':=by rw [he] at he'; injection he'
      subst this
      exact h.lt he hl' hb
  have hfin:c2n w0 F0 fp cargs (b1q (r.v.take rv.length)) (a5A X.oms (r.v.drop rv.length)) (.returned (a80 rcs)) w:=by
    refine ⟨a80 rcs,F1,f1,f2,rfl,h.kept,fun k x=>.inl (h.F0 k x),?_,b1.pack,q4 b2,?_,?_⟩
    · rintro k x
      refine ⟨?_,hF1lt k x⟩
      rcases x with x | ⟨id,hid,e,he,hb⟩
      · exact h.F2 k x
      · obtain ⟨e',he',hl'⟩:=hhl id hid
        have:e=e':=by rw [he] at he'; injection he'
        subst this
        exact .inr (h.sep _ _ _ k he hl' hb).2
    · rw [← hf12]; exact hfpn
    · intro k hk
      rw [← hf12] at hk
      obtain ⟨id,hid,e,he,hl,hb⟩:=hfps.mem hk
      obtain ⟨z1,z2⟩:=h.sep _ _ e k he hl hb
      refine ⟨?_,z2,h.lt he hl hb⟩
      rintro (x | ⟨id',hid',e0,he0,hb'⟩)
      · exact z1 x
      · obtain ⟨e',he',hl'⟩:=hhl id' hid'
        have:e0=e':=by rw [he0] at he'; injection he'
        subst this
        obtain ⟨y1,y2⟩:=h.inj _ _ e _ _ _ k he he' hl hl' hb hb'
        have:id=id':=Prod.ext y1 y2
        exact hdis id' hid' (this▸hid)
  have hres:=d4V (P:=cx.P) q1
  rcases hk with rfl | ⟨k',rfl⟩
  · exact ⟨_,w,_,hfin,.one step_end,hb1,rfl,h.defers,hb2,X.fn,by show cx.P.funcs[b.fn]?=_; rw [hb1]; exact hf,hres⟩
  · exact ⟨_,w,_,hfin,.one step_ret,hb1,rfl,h.defers,hb2,X.fn,by show cx.P.funcs[b.fn]?=_; rw [hb1]; exact hf,hres⟩
end
inductive Loc where
  | tmp (t:Nat)
  | sub (t i:Nat)
  | cell (g j i:Nat)
def St.get (S:St):Loc→Option V
  | .tmp t=>S.t[t]?
  | .sub t i=>match S.t[t]? with
    | some (.agg cs)=>cs[i]?
    | _=>none
  | .cell g j i=>match S.ent g j with
    | some (.var _ cs)=>cs[i]?
    | _=>none
def St.put (S:St) (l:Loc) (v:V):St :=
  match l with
  | .tmp t=>{ S with t:=S.t.set t v }
  | .sub t i=>match S.t[t]? with
    | some (.agg cs)=>{ S with t:=S.t.set t (.agg (cs.set i v)) }
    | _=>S
  | .cell g j i=>match S.ent g j with
    | some (.var e cs)=>S.setE g j (.var e (cs.set i v))
    | _=>S
inductive Fix where
  | own (l:Loc) (e sz:Nat)
  | frz (l:Loc) (ck:Option Nat)
  | is (l:Loc) (v:V)
  | ent (g j:Nat) (e:l7)
  | plug (g j idx off:Nat) (r:List V) (e:Nat)
  | shut (g j n:Nat) (rows:List (List V))
  | ownD (l:Loc) (e sz:Nat)
  | kill (g j:Nat)
def V.isCell:V→Bool
  | .agg _ | .tup _ | .bot=>false
  | _=>true
def a4R (f:Fix) (S:St):Option (St×List Prop) :=
  match f with
  | .own l e sz=>match S.get l with
    | some .nil=>some (((S.more 1).lay S.h.length [.row e sz 0 []]).put l (.own S.h.length 0 sz 0 0),[])
    | _=>none
  | .frz l ck=>match S.get l with
    | some v=>if v.isCell then match fzP ck v S.ent with
      | some ((v',us,ps),_)=>some ((S.upds us).put l v',ps)
      | none=>none else none
    | none=>none
  | .is l v'=>match S.get l with
    | some v=>if v.isCell then some (S.put l v',[v=v']) else none
    | none=>none
  | .ent g j e'=>match S.ent g j with
    | some e=>some (S.setE g j e',[e=e'])
    | none=>none
  | .plug g j idx off r e=>match S.ent g j,r[off]? with
    | some (.deep o t sz n rows),some (.own g' j' sz' lo n')=>match Q0 none (some e) (.own g' j' sz' lo n') S.ent with
      | some (f,_)=>if off+1≤sz∧a19 f.ks∧a1b f.ks (g,j)=false then some (S.upds (C5 f.ks++[((g,j),.deep o t sz n (rows.set idx (s4 r off [f.v])))]),(rows[idx]?=some r)::f.obl) else none
      | none=>none
    | _,_=>none
  | .kill g j=>match S.ent g j with
    | some _=>some (S.setE g j .dead,[])
    | none=>none
  | .shut g j n' rows'=>match S.ent g j with
    | some (.deep o t sz n rows)=>some (S.setE g j (.deep false t sz n' rows'),[rows=rows',F4 rows',n=n'])
    | _=>none
  | .ownD l e sz=>match S.get l with
    | some .nil=>some (((S.more 1).lay S.h.length [.deep false e sz 0 []]).put l (.own S.h.length 0 sz 0 0),[])
    | _=>none
def a9k:List Fix→St→Option (St×List Prop)
  | [],S=>some (S,[])
  | f::fs,S=>match a4R f S with
    | some (S1,ps)=>match a9k fs S1 with
      | some (S2,qs)=>some (S2,ps++qs)
      | none=>none
    | none=>none
section
variable {cx:Cx} {Γ:L6} {F:Nat→Prop} {ι:Nat→Nat→Value} {S S':St} {a:Act} {w:World}
theorem RV.isCell {D:Nat→Prop} {v:V} {c:Value} (h:RV w F D ι v c) (hv:v.isCell=true):RC w F D ι v c:=by
  cases h with
  | one v c h =>
    cases h with
    | cell v c h=>exact h
    | agg cs ds h=>cases hv
  | tup cs ds h=>cases hv
  | any c=>cases hv
theorem m3.withT (h:m3 Γ F ι S a w) {t:List V} (ht:n5 (RV w F S.D ι) t a.tmps.toList):m3 Γ F ι { S with t:=t } a w :=
  { F0:=h.F0,F1:=h.F1,F2:=h.F2,kept:=h.kept,tmps:=ht,ents:=h.ents,sep:=h.sep,inj:=h.inj,defers:=h.defers,pins:=h.pins }
theorem n5.set_left {α β:Type} {R:α→β→Prop} {t8:List α} {bs:List β} (h:n5 R t8 bs) {i:Nat} {x y:α} (hx:t8[i]?=some x) (hy : ∀ b,R x b→R y b):n5 R (t8.set i y) bs:=by
  obtain ⟨b,hb,hr⟩:=h.get hx
  have:=h.set i (hy b hr)
  rwa [a0E hb] at this
theorem m3.putL (h:m3 Γ F ι S a w) {l:Loc} {v v':V} (hg:S.get l=some v) (hc:v.isCell=true) (hr : ∀ c,RC w F S.D ι v c→RC w F S.D ι v' c):m3 Γ F ι (S.put l v') a w:=by
  cases l with
  | tmp t =>
    exact h.withT (h.tmps.set_left hg fun c hv=>.one _ _ (.cell _ _ (hr c (hv.isCell hc))))
  | sub t i =>
    unfold St.get at hg
    unfold St.put
    simp only at hg ⊢
    split at hg<;>try (cases hg; done)
    rename_i cs hcs
    try rw [hcs]
    refine h.withT (h.tmps.set_left hcs fun c hv => ?_)
    cases hv with
    | one v c hv =>
      cases hv with
      | cell v c hv=>cases hv with | fv v c hv=>cases hv
      | agg cs ds hv=>exact .one _ _ (.agg _ _ (hv.set_left hg hr))
  | cell g j i =>
    unfold St.get at hg
    unfold St.put
    simp only at hg ⊢
    split at hg<;>try (cases hg; done)
    rename_i e cs hcs
    try rw [hcs]
    try simp only
    refine h.write hcs rfl ⟨rfl,rfl,rfl⟩ rfl (fun _ _=>rfl) (fun _ => ?_) (fun _ hk=>hk)
    obtain ⟨g0,cur,h1,h2,h3⟩:=h.ents g j _ hcs
    exact ⟨g0,cur,h1,h2,(h3.set_left hg hr).imp fun _ _ x=>x.mono (fun _ _ _=>rfl) (fun _ y=>y) (fun k y=>P6.2 y) (fun _ _ _=>rfl)⟩
theorem c72 {grp:Nat} {new:List l7} {l:Loc} {v:V} (h:S.get l=some v) (hn : ¬ S.D grp):(S.lay grp new).get l=some v:=by
  cases l with
  | tmp t=>exact h
  | sub t i=>exact h
  | cell g j i =>
    unfold St.get at h ⊢
    simp only at h ⊢
    split at h<;>try (cases h; done)
    rename_i e cs hcs
    have:g≠grp:=fun q=>hn (q▸St.D_of_ent hcs)
    rw [a6g this,hcs]
    exact h
theorem c4Y {n:Nat} {l:Loc} {v:V} (h:S.get l=some v):(S.more n).get l=some v:=by
  cases l with
  | tmp t=>exact h
  | sub t i=>exact h
  | cell g j i =>
    unfold St.get at h ⊢
    simp only at h ⊢
    rw [a9l]
    exact h
theorem d1p {e:Nat} {v:V} {H:Hp} {f:AR V} {lg:List (Nat×Nat)} (h:Q0 none (some e) v H=some (f,lg)):f.ls=[]:=by
  unfold Q0 at h
  simp only at h
  split at h
  · have:=a5.pure_some h
    injection this with h1 h2
    rw [h1]
  cases v<;>try (cases h; done)
  case nil =>
    have:=a5.pure_some h
    injection this with h1 h2
    rw [h1]
  case own g j sz lo n =>
    cases lo with
    | succ q=>cases h
    | zero =>
      simp only at h
      obtain ⟨en,l1,l2,hrd,hp,_⟩:=a5.bind_some h
      cases en<;>try (cases hp; done)
      case row =>
        simp only at hp
        split at hp<;>try (cases hp; done)
        have:=a5.pure_some hp
        injection this with h1 h2
        rw [h1]
      case deep o _ _ _ _ =>
        cases o<;>try (cases hp; done)
        simp only at hp
        split at hp<;>try (cases hp; done)
        have:=a5.pure_some hp
        injection this with h1 h2
        rw [h1]
theorem d6N {g j idx off e:Nat} {r:List V} {ps:List Prop} (h:m3 Γ F ι S a w) (hf:a4R (.plug g j idx off r e) S=some (S',ps)) (hob : ∀ p∈ps,p):m3 Γ F ι S' a w:=by
  unfold a4R at hf
  simp only at hf
  split at hf<;>try (cases hf; done)
  rename_i o t sz n rows g' j' sz' lo n' he hv
  split at hf<;>try (cases hf; done)
  rename_i f lg hm
  split at hf<;>try (cases hf; done)
  rename_i hcond
  injection hf with hf
  injection hf with h1 h2
  subst h1; subst h2
  obtain ⟨hoff,hks,hgj⟩:=hcond
  have hr:rows[idx]?=some r:=hob _ (by simp)
  obtain ⟨flat,fs,hor,hkl,hrn,hl,hnd,hnr⟩:=h.ents g j _ he
  have hidx:=(List.getElem?_eq_some_iff.1 hr).1
  have hpos:idx * sz+sz≤n * sz:=by rw [← Nat.succ_mul]; exact Nat.mul_le_mul_right _ (by omega)
  have hle:idx * sz+off+1≤rows.flatten.length:=by rw [a2F hl,hrn]; omega
  have hmid:(rows.flatten.drop (idx * sz+off)).take 1=[.own g' j' sz' lo n']:=by
    have:(rows.flatten.drop (idx * sz+off)).take 1=(r.drop off).take 1:=by
      rw [← b0Z hl hr,List.drop_take,List.take_take,List.drop_drop]
      congr 1
      omega
    rw [this]
    obtain ⟨hlt,hv'⟩:=List.getElem?_eq_some_iff.1 hv
    rw [List.drop_eq_getElem_cons hlt,hv']
    rfl
  obtain ⟨fa,fm,fb,rfl,ka,km,kb⟩:=hkl.cut hle
  rw [hmid] at km
  obtain ⟨c,hc,hkc⟩ : ∃ c,(flat.drop (idx * sz+off)).take 1=[c]∧RC w F S.D ι (.own g' j' sz' lo n') c:=by
    generalize (flat.drop (idx * sz+off)).take 1=cs at km
    cases km with
    | cons v c f vs cs fs h t =>
      cases t
      refine ⟨c,rfl,?_⟩
      cases h with
      | rc h=>exact h
      | bc _ h=>cases h with
        | fv _ _ h=>exact .fv _ _ h
  obtain ⟨fp,hb,hfps,_⟩:=b7O (F1:=F) h (fun _ x=>x) hkc hm (fun p hp=>hob p (List.mem_cons.2 (.inr hp))) (by rw [d1p hm]; intro id hid; cases hid)
  have hbl:BL w F [f.v] [c] fp:=by
    have:=BL.cons _ _ _ _ _ _ hb .nil
    simpa using this
  refine h.dput he hr (by simpa using hoff) hbl hfps (a3w hks) (fun q=>by rw [a4N.2 q] at hgj; cases hgj) ⟨rfl,rfl,rfl⟩ rfl (fun _ _=>rfl) ?_
  intro flat2 ho2
  have:=a6J ho2 hor (fun _ _=>rfl)
  subst this
  have e1:s4 flat2 (idx * sz+off) [c]=flat2:=by
    unfold s4
    rw [← hc,List.append_assoc]
    have hl1:((flat2.drop (idx * sz+off)).take 1).length=1:=by rw [hc]; rfl
    rw [hl1]
    have e2 : ∀ k:Nat,flat2.take k++((flat2.drop k).take 1++flat2.drop (k+1))=flat2:=fun k=>by
      rw [← List.drop_drop,List.take_append_drop,List.take_append_drop]
    exact e2 _
  rw [e1]
  exact ho2
theorem d5V {g j n':Nat} {rows':List (List V)} {ps:List Prop} (h:m3 Γ F ι S a w) (hf:a4R (.shut g j n' rows') S=some (S',ps)) (hob : ∀ p∈ps,p):m3 Γ F ι S' a w:=by
  unfold a4R at hf
  simp only at hf
  split at hf<;>try (cases hf; done)
  rename_i o t sz n rows he
  injection hf with hf
  injection hf with h1 h2
  subst h1; subst h2
  have hrr:rows=rows':=hob _ (by simp)
  have hnr:F4 rows':=hob _ (by simp)
  have hnn:n=n':=hob _ (by simp)
  subst hrr; subst hnn
  refine h.write he rfl ⟨rfl,rfl,rfl⟩ rfl (fun _ _=>rfl) (fun _ => ?_) (fun k hk=>hk)
  obtain ⟨flat,fs,q1,q2,q3,q4,q5,q6⟩:=h.ents g j _ he
  exact ⟨flat,fs,q1,q2.mono (fun _ _ _=>rfl) (fun _ x=>x) (fun k x=>P6.2 x) (fun _ _ _=>rfl) (fun _ _=>rfl),q3,q4,q5,fun _=>hnr⟩
theorem d3d {f:Fix} {ps:List Prop} (h:m3 Γ F ι S a w) (hf:a4R f S=some (S',ps)) (hob : ∀ p∈ps,p) : ∃ F' ι',m3 Γ F' ι' S' a w:=by
  unfold a4R at hf
  split at hf
  · rename_i l e sz
    split at hf<;>try (cases hf; done)
    rename_i hg
    injection hf with hf
    injection hf with hf hf2
    subst hf
    have hn : ¬ (S.more 1).D S.h.length:=fun q=>by
      obtain ⟨x,hx⟩:=a7F.1 q
      have:=(List.getElem?_eq_some_iff.1 hx).1
      omega
    have hlen:S.h.length<(S.more 1).h.length:=by simp [St.more,a23]
    have hor:OR w F e sz (.slice none 0 0) 0 []:=⟨[],⟨by simp,.inl ⟨rfl,rfl⟩⟩,.nil,rfl,by simp⟩
    have hno : ∀ (j:Nat) (e':l7) (k:Nat),([.row e sz 0 []]:List l7)[j]?=some e'→EB w e' (J7 ι S.h.length (.slice none 0 0) S.h.length j) k→False:=by
      intro j e' k he hk
      rw [N0] at hk
      cases j with
      | zero =>
        simp at he
        subst he
        cases hk
      | succ j=>simp at he
    have h1:=(h.more 1).lay hlen hn (new:=[.row e sz 0 []]) (ι':=J7 ι S.h.length (.slice none 0 0)) (fun g j q=>a6X q)
      (fun j e' he=>by
        cases j with
        | zero =>
          simp at he
          subst he
          rw [N0]
          exact hor
        | succ j=>simp at he)
      (fun j e' k he hl hk=>(hno j e' k he hk).elim)
      (fun j e' j' e'' k he he' hl hl' hk hk'=>(hno j e' k he hk).elim)
      (fun j e' g' j' e'' k he he' hl hl' hk=>(hno j e' k he hk).elim)
    refine ⟨F,_,h1.putL (c72 (c4Y hg) hn) rfl fun c hc => ?_⟩
    have hcn:c = .slice none 0 0:=by
      cases hc with
      | fv v c hc=>cases hc; rfl
    subst hcn
    exact RC.whole (a0e hlen) N0 hor
  · rename_i l ck
    split at hf<;>try (cases hf; done)
    rename_i v hg
    split at hf<;>try (cases hf; done)
    rename_i hcell
    split at hf<;>try (cases hf; done)
    rename_i v' us fps lg hz
    injection hf with hf
    injection hf with hf hf2
    subst hf; subst hf2
    have hfr : ∀ c,RC w F S.D ι v c → ∃ F',(∀ k,F k→F' k)∧m3 Γ F' ι (S.upds us) a w∧Frz S (S.upds us)∧FV w F' v' c:=fun c hc=>a8N h (Frz.refl S) hc hz hob
    have hat : ∃ c,RC w F S.D ι v c:=by
      cases l with
      | tmp t =>
        obtain ⟨c,_,hv⟩:=h.tmps.get hg
        exact ⟨c,hv.isCell hcell⟩
      | sub t i =>
        unfold St.get at hg
        simp only at hg
        split at hg<;>try (cases hg; done)
        rename_i cs hcs
        obtain ⟨c,_,hv⟩:=h.tmps.get hcs
        cases hv with
        | one v c hv =>
          cases hv with
          | cell v c hv=>cases hv with | fv v c hv=>cases hv
          | agg cs ds hv =>
            obtain ⟨c,_,hv⟩:=hv.get hg
            exact ⟨c,hv⟩
      | cell g j i =>
        unfold St.get at hg
        simp only at hg
        split at hg<;>try (cases hg; done)
        rename_i e cs hcs
        obtain ⟨g0,cur,h1,h2,h3⟩:=h.ents g j _ hcs
        obtain ⟨c,_,hv⟩:=h3.get hg
        exact ⟨c,hv⟩
    obtain ⟨c0,hc0⟩:=hat
    obtain ⟨F',hF,hrel,hfz,hfv⟩:=hfr c0 hc0
    clear hfr hfv
    cases l with
    | tmp t =>
      obtain ⟨c,hct,hv⟩:=h.tmps.get hg
      obtain ⟨F',hF,hrel,hfz,hfv⟩:=a8N h (Frz.refl S) (hv.isCell hcell) hz hob
      refine ⟨F',ι,?_⟩
      have ht:(S.upds us).t=S.t:=hfz.2.2.1
      show m3 Γ F' ι { S.upds us with t:=(S.upds us).t.set t v' } a w
      refine hrel.withT ?_
      have:=hrel.tmps.set t (b:=c) (.one _ _ (.cell _ _ (.fv _ _ hfv)))
      rwa [a0E hct] at this
    | sub t i =>
      unfold St.get at hg
      simp only at hg
      split at hg<;>try (cases hg; done)
      rename_i cs hcs
      obtain ⟨c,hct,hv⟩:=h.tmps.get hcs
      cases hv with
      | one v c hv =>
        cases hv with
        | cell v c hv=>cases hv with | fv v c hv=>cases hv
        | agg cs ds hv =>
          obtain ⟨c,hci,hvi⟩:=hv.get hg
          obtain ⟨F',hF,hrel,hfz,hfv⟩:=a8N h (Frz.refl S) hvi hz hob
          refine ⟨F',ι,?_⟩
          have ht:(S.upds us).t=S.t:=hfz.2.2.1
          unfold St.put
          simp only [ht,hcs]
          have h2:=hrel.tmps
          rw [ht] at h2
          have:=hrel.withT (t:=S.t.set t (.agg (cs.set i v'))) ?_
          · exact this
          · have hagg:=h2.get hcs
            obtain ⟨c',hct',hv'⟩:=hagg
            rw [hct] at hct'
            injection hct' with hct'
            have hv2:n5 (RC w F' (S.upds us).D ι) cs ds:=by
              refine hv.imp fun _ _ x=>x.mono (fun _ _ _=>rfl) hF (fun k y=>(Z4 S k us).2 y) (fun _ _ _=>rfl)
            have hset:=hv2.set i (b:=c) (.fv _ _ hfv)
            rw [a0E hci] at hset
            have:=h2.set t (b:=.agg ds.toArray) (.one _ _ (.agg _ _ hset))
            rwa [a0E hct] at this
    | cell g j i =>
      unfold St.get at hg
      simp only at hg
      split at hg<;>try (cases hg; done)
      rename_i e cs hcs
      obtain ⟨g0,cur,q1,q2,q3⟩:=h.ents g j _ hcs
      obtain ⟨c,hci,hvi⟩:=q3.get hg
      obtain ⟨F',hF,hrel,hfz,hfv⟩:=a8N h (Frz.refl S) hvi hz hob
      refine ⟨F',ι,?_⟩
      have hcs':(S.upds us).ent g j=some (.var e cs):=by
        rcases hfz.2.2.2 _ _ _ hcs with q | ⟨e',sz,n,rows,q,_⟩
        · exact q
        · cases q
      unfold St.put
      simp only [hcs']
      refine hrel.write hcs' rfl ⟨rfl,rfl,rfl⟩ rfl (fun _ _=>rfl) (fun _ => ?_) (fun _ hk=>hk)
      have hset:=(q3.imp fun _ _ x=>RC.mono (D':=((S.upds us).setE g j (.var e (cs.set i v'))).D) (F':=F') (w':=w) (ι':=ι) (fun _ _ _=>rfl) hF (fun k y=>P6.2 ((Z4 S k us).2 y)) (fun _ _ _=>rfl) x).set i (b:=c) (.fv _ _ hfv)
      rw [a0E hci] at hset
      exact ⟨g0,cur,q1,q2,hset⟩
  · rename_i l v'
    split at hf<;>try (cases hf; done)
    rename_i v hg
    split at hf<;>try (cases hf; done)
    rename_i hcell
    injection hf with hf
    injection hf with hf hf2
    subst hf; subst hf2
    have:v=v':=hob _ (by simp)
    subst this
    exact ⟨F,ι,h.putL hg hcell fun _ x=>x⟩
  · rename_i g j e'
    split at hf<;>try (cases hf; done)
    rename_i e he
    injection hf with hf
    injection hf with hf hf2
    subst hf; subst hf2
    have:e=e':=hob _ (by simp)
    subst this
    have hset:S.setE g j e=S:=by
      obtain ⟨l,hl⟩:=St.D_of_ent he
      rw [a2h hl]
      rw [a1f hl] at he
      rw [a0E he,a0E hl]
    rw [hset]
    exact ⟨F,ι,h⟩
  · rename_i g j idx off r e
    exact ⟨F,ι,d6N (g:=g) (j:=j) (idx:=idx) (off:=off) (r:=r) (e:=e) h hf hob⟩
  · rename_i g j
    split at hf<;>try (cases hf; done)
    rename_i e he
    injection hf with hf
    injection hf with hf hf2
    subst hf
    exact ⟨F,ι,h.kill he⟩
  · rename_i g j n' rows'
    exact ⟨F,ι,d5V (g:=g) (j:=j) (n':=n') (rows':=rows') h hf hob⟩
  · rename_i l e sz
    split at hf<;>try (cases hf; done)
    rename_i hg
    injection hf with hf
    injection hf with hf hf2
    subst hf
    have hn : ¬ (S.more 1).D S.h.length:=fun q=>by
      obtain ⟨x,hx⟩:=a7F.1 q
      have:=(List.getElem?_eq_some_iff.1 hx).1
      omega
    have hlen:S.h.length<(S.more 1).h.length:=by simp [St.more,a23]
    have hor:OR w F e sz (.slice none 0 0) 0 []:=⟨[],⟨by simp,.inl ⟨rfl,rfl⟩⟩,.nil,rfl,by simp⟩
    have hno : ∀ (j:Nat) (e':l7) (k:Nat),([.deep false e sz 0 []]:List l7)[j]?=some e'→EB w e' (J7 ι S.h.length (.slice none 0 0) S.h.length j) k→False:=by
      intro j e' k he hk
      rw [N0] at hk
      cases j with
      | zero =>
        simp at he
        subst he
        have:=(EB.deep_iff (F:=F) (D:=S.D) (ι:=ι) (flat:=[]) (fs:=[]) ⟨by simp,.inl ⟨rfl,rfl⟩⟩ .nil).1 hk
        simp [A8,t9] at this
      | succ j=>simp at he
    have h1:=(h.more 1).lay hlen hn (new:=[.deep false e sz 0 []]) (ι':=J7 ι S.h.length (.slice none 0 0)) (fun g j q=>a6X q)
      (fun j e' he=>by
        cases j with
        | zero =>
          simp at he
          subst he
          rw [N0]
          exact ⟨[],[],⟨by simp,.inl ⟨rfl,rfl⟩⟩,.nil,rfl,by simp,by simp [A8,t9],fun _=>by simp [F4]⟩
        | succ j=>simp at he)
      (fun j e' k he hl hk=>(hno j e' k he hk).elim)
      (fun j e' j' e'' k he he' hl hl' hk hk'=>(hno j e' k he hk).elim)
      (fun j e' g' j' e'' k he he' hl hl' hk=>(hno j e' k he hk).elim)
    refine ⟨F,_,h1.putL (c72 (c4Y hg) hn) rfl fun c hc => ?_⟩
    have hcn:c = .slice none 0 0:=by
      cases hc with
      | fv v c hc=>cases hc; rfl
    subst hcn
    exact RC.whole (a0e hlen) N0 hor
theorem d24 (fs:List Fix) : ∀ {S:St} {F:Nat→Prop} {ι:Nat→Nat→Value} {ps:List Prop},m3 Γ F ι S a w→a9k fs S=some (S',ps)→(∀ p∈ps,p) → ∃ F' ι',m3 Γ F' ι' S' a w:=by
  induction fs with
  | nil =>
    intro S F ι ps h hf hob
    injection hf with hf
    injection hf with hf hf2
    subst hf
    exact ⟨F,ι,h⟩
  | cons f fs ih =>
    intro S F ι ps h hf hob
    unfold a9k at hf
    cases h1:a4R f S with
    | none=>rw [h1] at hf; cases hf
    | some x1 =>
    obtain ⟨S1,ps1⟩:=x1
    rw [h1] at hf
    simp only at hf
    cases h2:a9k fs S1 with
    | none=>rw [h2] at hf; cases hf
    | some x2 =>
    obtain ⟨S2,ps2⟩:=x2
    rw [h2] at hf
    simp only at hf
    injection hf with hf
    injection hf with hf hf2
    subst hf; subst hf2
    obtain ⟨F1,ι1,h3⟩:=d3d h h1 (fun p hp=>hob p (List.mem_append.2 (.inl hp)))
    exact ih h3 h2 (fun p hp=>hob p (List.mem_append.2 (.inr hp)))
end
def a6n:List (Nat×Nat)→Nat×Nat→Nat→Option Nat
  | [],_,_=>none
  | y::l,x,i=>if y.1==x.1&&y.2==x.2 then some i else a6n l x (i+1)
def a63 (gs:List (Nat×Nat)) (g j:Nat):Option (Nat×Nat) :=
  match a6n gs (g,j) 1 with
  | some i=>some (i,0)
  | none=>match g with
    | 0=>some (0,j)
    | _+1=>none
def a2n (gs:List (Nat×Nat)) (v:V):V :=
  match v with
  | .own g j sz lo n=>match a63 gs g j with
    | some (g',j')=>.own g' j' sz lo n
    | none=>.bot
  | .ptr g j off=>match a63 gs g j with
    | some (g',j')=>.ptr g' j' off
    | none=>.bot
  | .eptr g j sz idx off=>match a63 gs g j with
    | some (g',j')=>.eptr g' j' sz idx off
    | none=>.bot
  | .fptr _=>.bot
  | .mp g j=>match a63 gs g j with
    | some (g',j')=>.mp g' j'
    | none=>.bot
  | v=>v
def b0p (gs:List (Nat×Nat)) (v:V):V :=
  match v with
  | .agg cs=>.agg (cs.map (a2n gs))
  | v=>a2n gs v
def b9T (gs:List (Nat×Nat)) (v:V):V :=
  match v with
  | .tup cs=>.tup (cs.map (b0p gs))
  | v=>b0p gs v
def a47 (gs:List (Nat×Nat)) (e:l7):l7 :=
  match e with
  | .var e cs=>.var e (cs.map (a2n gs))
  | .deep true _ _ _ _=>.dead
  | e=>e
def a59 (gs:List (Nat×Nat)):Nat→List Nat→List V→List V
  | _,_,[]=>[]
  | i,[],_::vs=>.bot::a59 gs (i+1) [] vs
  | i,k::ks,v::vs=>if Nat.beq k i then b9T gs v::a59 gs (i+1) ks vs else .bot::a59 gs (i+1) (k::ks) vs
def a41 (S:St) (gs0:List (Nat×Nat)):List (Nat×Nat)→List (Option (List l7))
  | []=>[]
  | id::gs=>some [match S.ent id.1 id.2 with
    | some e=>a47 gs0 e
    | none=>.dead]::a41 S gs0 gs
def a6I (gs:List (Nat×Nat)):Nat→List l7→List l7
  | _,[]=>[]
  | j,e::es=>(match a6n gs (0,j) 1 with
    | some _=>.dead
    | none=>a47 gs e)::a6I gs (j+1) es
def a0H (keep:List Nat) (gs:List (Nat×Nat)) (S:St):Option St :=
  if a19 gs then
    some { t:=a59 gs 0 keep S.t,h:=(match S.h with
      | some l::_=>some (a6I gs 0 l)
      | _=>none)::a41 S gs gs }
  else none
section
variable {cx:Cx} {Γ:L6} {F:Nat→Prop} {ι:Nat→Nat→Value} {S S':St} {a:Act} {w:World} {keep:List Nat}
theorem c6n : ∀ {l:List (Nat×Nat)} {x:Nat×Nat} {i k:Nat},a6n l x i=some k→i≤k∧l[k - i]?=some x
  | [],x,i,k,h=>by cases h
  | y::l,x,i,k,h=>by
    unfold a6n at h
    split at h
    · rename_i q
      injection h with h
      subst h
      simp at q
      have:y=x:=Prod.ext q.1 q.2
      exact ⟨Nat.le_refl _,by simp [this]⟩
    · obtain ⟨h1,h2⟩:=c6n h
      refine ⟨by omega,?_⟩
      have:k - i=(k - (i+1))+1:=by omega
      rw [this]
      simpa using h2
def a3B (ι:Nat→Nat→Value) (gs:List (Nat×Nat)) (g j:Nat):Value :=
  match g with
  | 0=>ι 0 j
  | g+1=>match gs[g]? with
    | some id=>ι id.1 id.2
    | none=>.nilFunc
theorem b69 {gs0:List (Nat×Nat)} : ∀ {gs:List (Nat×Nat)} {i:Nat} {id:Nat×Nat},gs[i]?=some id→(a41 S gs0 gs)[i]?=some (some [match S.ent id.1 id.2 with
    | some e=>a47 gs0 e
    | none=>.dead])
  | id'::gs,0,id,h=>by simp at h; subst h; simp [a41]
  | id'::gs,i+1,id,h=>by simp at h; simp [a41,b69 h]
theorem c2h {gs0:List (Nat×Nat)} : ∀ {gs:List (Nat×Nat)},(a41 S gs0 gs).length=gs.length
  | []=>rfl
  | _::gs=>by simp [a41,c2h]
theorem c69 {gs:List (Nat×Nat)} (hp:a0H keep gs S=some S') (hD:S.D 0):S'.D 0:=by
  unfold a0H at hp
  split at hp<;>try (cases hp; done)
  injection hp with hp
  subst hp
  obtain ⟨l,hl⟩:=hD
  have : ∃ t,S.h=some l::t:=by
    cases hh:S.h with
    | nil=>rw [hh] at hl; simp at hl
    | cons x t=>rw [hh] at hl; simp at hl; exact ⟨t,by rw [hl]⟩
  obtain ⟨t,ht⟩:=this
  rw [ht]
  exact ⟨_,rfl⟩
theorem b0W {gs:List (Nat×Nat)} (hp:a0H keep gs S=some S') {g j g' j':Nat} (hn:a63 gs g j=some (g',j')) (hD:S.D g):S'.D g'∧a3B ι gs g' j'=ι g j:=by
  unfold a63 at hn
  split at hn
  · rename_i i hi
    injection hn with hn
    injection hn with h1 h2
    subst h1; subst h2
    unfold a0H at hp
    split at hp<;>try (cases hp; done)
    injection hp with hp
    subst hp
    obtain ⟨h3,h4⟩:=c6n hi
    obtain ⟨m,rfl⟩ : ∃ m,i=m+1:=⟨i - 1,by omega⟩
    simp only [Nat.add_sub_cancel] at h4
    refine ⟨⟨_,(List.getElem?_cons_succ).trans (b69 h4)⟩,?_⟩
    simp [a3B,h4]
  · split at hn<;>try (cases hn; done)
    injection hn with hn
    injection hn with h1 h2
    subst h1; subst h2
    exact ⟨c69 hp hD,rfl⟩
theorem c3z : ∀ {l:List (Nat×Nat)} {x:Nat×Nat} {i:Nat},a6n l x i=none→x ∉ l
  | [],x,i,_=>by simp
  | y::l,x,i,h=>by
    unfold a6n at h
    split at h
    · cases h
    · rename_i q
      intro hx
      rcases List.mem_cons.1 hx with rfl | hx
      · simp at q
      · exact c3z h hx
theorem c2d {gs:List (Nat×Nat)} : ∀ {l:List l7} {i j:Nat} {e:l7},(a6I gs i l)[j]?=some e→e = .dead ∨ ∃ e0,l[j]?=some e0∧e=a47 gs e0∧(0,i+j) ∉ gs
  | [],i,j,e,h=>by simp [a6I] at h
  | e1::l,i,0,e,h=>by
    simp only [a6I,List.getElem?_cons_zero] at h
    injection h with h
    split at h
    · exact .inl h.symm
    · rename_i hq
      exact .inr ⟨e1,rfl,h.symm,by simpa using c3z hq⟩
  | e1::l,i,j+1,e,h=>by
    simp only [a6I,List.getElem?_cons_succ] at h
    rcases c2d h with h1 | ⟨e0,h1,h2,h3⟩
    · exact .inl h1
    · exact .inr ⟨e0,by simpa using h1,h2,by rw [show i+(j+1)=i+1+j by omega]; exact h3⟩
theorem RC.ren {gs:List (Nat×Nat)} (hp:a0H keep gs S=some S') {v:V} {c:Value} (h:RC w F S.D ι v c):RC w F S'.D (a3B ι gs) (a2n gs v) c:=by
  cases h with
  | fv v c h =>
    have:a2n gs v=v:=by cases h<;>rfl
    rw [this]
    exact .fv _ _ h
  | own g j sz lo n b nn cap hD hι hlo hb0 hb1 =>
    unfold a2n
    simp only
    split
    · rename_i g' j' hn
      obtain ⟨h1,h2⟩:=b0W (ι:=ι) hp hn hD
      exact .own g' j' sz lo n b nn cap h1 (h2.trans hι) hlo hb0 hb1
    · exact .fv _ _ (.bot _ rfl)
  | own0 g j sz lo b cap hD hlo =>
    unfold a2n
    simp only
    split
    · rename_i g' j' hn
      obtain ⟨h1,h2⟩:=b0W (ι:=ι) hp hn hD
      exact .own0 g' j' sz lo b cap h1 hlo
    · exact .fv _ _ (.bot _ rfl)
  | ptr g j off t9 hD hι =>
    unfold a2n
    simp only
    split
    · rename_i g' j' hn
      obtain ⟨h1,h2⟩:=b0W (ι:=ι) hp hn hD
      exact .ptr g' j' off t9 h1 (h2.trans hι)
    · exact .fv _ _ (.bot _ rfl)
  | eptr g j sz idx off b hD hι =>
    unfold a2n
    simp only
    split
    · rename_i g' j' hn
      obtain ⟨h1,h2⟩:=b0W (ι:=ι) hp hn hD
      exact .eptr g' j' sz idx off b h1 (by rw [h2]; exact hι)
    · exact .fv _ _ (.bot _ rfl)
  | fptr cs g o ds hF h hs=>exact .fv _ _ (.bot _ rfl)
  | mp g j t9 hD hι =>
    unfold a2n
    simp only
    split
    · rename_i g' j' hn
      obtain ⟨h1,h2⟩:=b0W (ι:=ι) hp hn hD
      exact .mp g' j' t9 h1 (h2.trans hι)
    · exact .fv _ _ (.bot _ rfl)
theorem n5.maps {α α' β:Type} {R:α→β→Prop} {R':α'→β→Prop} (f:α→α') (hf : ∀ x y,R x y→R' (f x) y) : ∀ {t8 bs},n5 R t8 bs→n5 R' (t8.map f) bs
  | _,_,.nil=>.nil
  | _,_,.cons h t=>.cons (hf _ _ h) (t.maps f hf)
theorem RA.ren {gs:List (Nat×Nat)} (hp:a0H keep gs S=some S') {v:V} {c:Value} (h:RA w F S.D ι v c):RA w F S'.D (a3B ι gs) (b0p gs v) c:=by
  cases h with
  | cell v c h =>
    have:b0p gs v=a2n gs v:=by
      cases h with
      | fv v c h=>cases h<;>rfl
      | _=>rfl
    rw [this]
    exact .cell _ _ (h.ren hp)
  | agg cs ds h=>exact .agg _ _ (h.maps _ fun _ _ x=>x.ren hp)
theorem RV.ren {gs:List (Nat×Nat)} (hp:a0H keep gs S=some S') {v:V} {c:Value} (h:RV w F S.D ι v c):RV w F S'.D (a3B ι gs) (b9T gs v) c:=by
  cases h with
  | one v c h =>
    have:b9T gs v=b0p gs v:=by
      cases h with
      | cell v c h =>
        cases h with
        | fv v c h=>cases h<;>rfl
        | _=>rfl
      | agg cs ds h=>rfl
    rw [this]
    exact .one _ _ (h.ren hp)
  | tup cs ds h=>exact .tup _ _ (h.maps _ fun _ _ x=>x.ren hp)
  | any c=>exact .any c
theorem b1x {gs:List (Nat×Nat)} (hp:a0H keep gs S=some S') : ∀ {vs:List V} {cs:List Value},n5 (RV w F S.D ι) vs cs → ∀ (i:Nat) (ks:List Nat),n5 (RV w F S'.D (a3B ι gs)) (a59 gs i ks vs) cs
  | _,_,.nil,i,ks=>by cases ks<;>exact .nil
  | _,_,.cons h t,i,[]=>.cons (.any _) (b1x hp t _ _)
  | _,_,.cons h t,i,k::ks=>by
    unfold a59
    split
    · exact .cons (h.ren hp) (b1x hp t _ _)
    · exact .cons (.any _) (b1x hp t _ _)
theorem b1t {gs:List (Nat×Nat)} (hp:a0H keep gs S=some S') {g j:Nat} {e:l7} (he:S'.ent g j=some e):e = .dead ∨ ∃ g0 j0 e0,S.ent g0 j0=some e0∧e=a47 gs e0∧a3B ι gs g j=ι g0 j0∧((g=0∧g0=0∧j=j0∧(0,j) ∉ gs)∨(∃ i,g=i+1∧j=0∧gs[i]?=some (g0,j0))):=by
  unfold a0H at hp
  split at hp<;>try (cases hp; done)
  injection hp with hp
  subst hp
  cases g with
  | zero =>
    unfold St.ent at he
    simp only [List.getElem?_cons_zero] at he
    split at he<;>try (cases he; done)
    rename_i l hl
    injection hl with hl
    split at hl<;>try (cases hl; done)
    rename_i l0 t hh
    injection hl with hl
    subst hl
    rcases c2d he with h1 | ⟨e0,h1,h2,h3⟩
    · exact .inl h1
    · exact .inr ⟨0,j,e0,by unfold St.ent; rw [hh]; exact h1,h2,rfl,.inl ⟨rfl,rfl,rfl,by simpa using h3⟩⟩
  | succ i =>
    unfold St.ent at he
    simp only [List.getElem?_cons_succ] at he
    split at he<;>try (cases he; done)
    rename_i l hl
    have hlt:i<gs.length:=by
      have:=(List.getElem?_eq_some_iff.1 hl).1
      rwa [c2h] at this
    have hgi:gs[i]?=some gs[i]:=List.getElem?_eq_getElem hlt
    generalize gs[i]=id at hgi
    rw [b69 hgi] at hl
    injection hl with hl
    injection hl with hl
    subst hl
    cases j with
    | succ j=>simp at he
    | zero =>
      simp only [List.getElem?_cons_zero] at he
      injection he with he
      cases hx:S.ent id.1 id.2 with
      | none=>rw [hx] at he; exact .inl he.symm
      | some e0 =>
        rw [hx] at he
        exact .inr ⟨id.1,id.2,e0,hx,he.symm,by simp [a3B,hgi],.inr ⟨i,rfl,rfl,hgi⟩⟩
theorem d3b {α:Type} {l:List α} (h:l.Nodup) {i j:Nat} {x:α} (hi:l[i]?=some x) (hj:l[j]?=some x):i=j:=by
  obtain ⟨h1,h2⟩:=List.getElem?_eq_some_iff.1 hi
  obtain ⟨h3,h4⟩:=List.getElem?_eq_some_iff.1 hj
  exact (List.getElem_inj h).1 (h2.trans h4.symm)
theorem d1Y {gs:List (Nat×Nat)} (h:m3 Γ F ι S a w) (hp:a0H keep gs S=some S') : ∃ ι',m3 Γ F ι' S' a w:=by
  have hnd:gs.Nodup:=by
    unfold a0H at hp
    split at hp<;>try (cases hp; done)
    rename_i hchk
    exact a3w hchk
  have hlive : ∀ e:l7,(a47 gs e).live=true→e.live=true ∧ ∀ c k,EB w (a47 gs e) c k→EB w e c k:=by
    intro e he
    cases e with
    | deep o e sz n rows =>
      cases o with
      | true=>cases he
      | false=>exact ⟨rfl,fun _ _ hk=>hk⟩
    | _=>exact ⟨he,fun _ _ hk=>hk⟩
  have ht:S'.t=a59 gs 0 keep S.t:=by
    unfold a0H at hp
    split at hp<;>try (cases hp; done)
    injection hp with hp
    subst hp
    rfl
  refine ⟨a3B ι gs,?_⟩
  exact
    { F0:=h.F0,F1:=h.F1,F2:=h.F2,kept:=h.kept
      tmps:=by rw [ht]; exact b1x hp h.tmps 0 keep
      ents:=fun g j e he=>by
        rcases b1t (ι:=ι) hp he with rfl | ⟨g0,j0,e0,h0,rfl,h2,_⟩
        · trivial
        · rw [h2]
          have hr:=h.ents _ _ _ h0
          cases e0 with
          | var e cs =>
            obtain ⟨g1,cur,q1,q2,q3⟩:=hr
            exact ⟨g1,cur,q1,q2,q3.maps _ fun _ _ x=>x.ren hp⟩
          | dead=>exact hr
          | arr e sz n rows=>exact hr
          | row e sz n rows=>exact hr
          | frz sz n rows=>exact hr
          | map t m es=>exact hr
          | deep o e sz n rows =>
            cases o with
            | true=>trivial
            | false =>
              obtain ⟨flat,fs,q1,q2,q3,q4,q5,q6⟩:=hr
              exact ⟨flat,fs,q1,(q2.blOf (q6 rfl).flat).kl,q3,q4,q5,q6⟩
      sep:=fun g j e k he hl hk=>by
        rcases b1t (ι:=ι) hp he with rfl | ⟨g0,j0,e0,h0,rfl,h2,_⟩
        · cases hl
        · rw [h2] at hk
          exact h.sep _ _ _ k h0 (hlive _ hl).1 ((hlive _ hl).2 _ _ hk)
      inj:=fun g1 j1 e1 g2 j2 e2 k he1 he2 hl1 hl2 hk1 hk2=>by
        rcases b1t (ι:=ι) hp he1 with rfl | ⟨x1,y1,z1,a1,rfl,b1,c1⟩
        · cases hl1
        rcases b1t (ι:=ι) hp he2 with rfl | ⟨x2,y2,z2,a2,rfl,b2,c2⟩
        · cases hl2
        rw [b1] at hk1
        rw [b2] at hk2
        obtain ⟨q1,q2⟩:=h.inj _ _ _ _ _ _ k a1 a2 (hlive _ hl1).1 (hlive _ hl2).1 ((hlive _ hl1).2 _ _ hk1) ((hlive _ hl2).2 _ _ hk2)
        rcases c1 with ⟨u1,u2,u3,u4⟩ | ⟨i1,u1,u2,u3⟩<;>rcases c2 with ⟨v1,v2,v3,v4⟩ | ⟨i2,v1,v2,v3⟩
        · exact ⟨by omega,by omega⟩
        · refine absurd (List.mem_of_getElem? v3) ?_
          rw [← q1,← q2,u2,← u3]
          exact u4
        · refine absurd (List.mem_of_getElem? u3) ?_
          rw [q1,q2,v2,← v3]
          exact v4
        · rw [q1,q2] at u3
          have:=d3b hnd u3 v3
          exact ⟨by omega,by omega⟩
      defers:=h.defers
      pins:=fun j c hc=>by
        obtain ⟨h1,h2⟩:=h.pins j c hc
        exact ⟨c69 hp h1,h2⟩ }
end
def b3U (cx:Cx) (k:List Item) (S:St) (sc:a0t) (fs:List Fix) (keep:List Nat) (gs:List (Nat×Nat)):Option (List Item×St×List Prop) :=
  match goM cx 4000 k S sc with
  | some (k1,S1,ps)=>match a9k fs S1 with
    | some (S2,qs)=>match a0H keep gs S2 with
      | some S3=>some (k1,S3,ps++qs)
      | none=>none
    | none=>none
  | none=>none
theorem b8.seg0 {cx:Cx} {X:T4} {res:V} {outs:List (Option V)} {k k':List Item} {S S':St} {sc:a0t} {fs:List Fix} {keep:List Nat} {gs:List (Nat×Nat)} {ps:List Prop} (hg:b3U cx k S sc fs keep gs=some (k',S',ps)) (hob : ∀ p∈ps,p) (h:b8 cx X res outs k' S'):b8 cx X res outs k S:=by
  unfold b3U at hg
  split at hg<;>try (cases hg; done)
  rename_i k1 S1 ps' h1
  split at hg<;>try (cases hg; done)
  rename_i S2 qs h2
  split at hg<;>try (cases hg; done)
  rename_i S3 h3
  injection hg with hg
  injection hg with e1 e2
  injection e2 with e2 e3
  subst e1; subst e2; subst e3
  refine b8.go h1 (fun p hp=>hob p (List.mem_append.2 (.inl hp))) ?_
  intro w0 F0 fp cargs bs hp hF0 F ι a w b cs hrel hb1 hb2
  obtain ⟨F',ι',hrel'⟩:=d24 fs hrel h2 (fun p hp=>hob p (List.mem_append.2 (.inr hp)))
  obtain ⟨ι2,hrel2⟩:=d1Y hrel' h3
  exact h w0 F0 fp cargs bs hp hF0 F' ι2 a w b cs hrel2 hb1 hb2
def a93 (cx:Cx) (X:T4) (k:List Item) (S:St) (sc:a0t):Option (V×List (Option V)×List Prop) :=
  match goM cx 4000 k S sc with
  | some (k1,S1,ps)=>match b91 cx X k1 S1 with
    | some (res,outs,qs)=>some (res,outs,ps++qs)
    | none=>none
  | none=>none
theorem b8.fin0 {cx:Cx} {X:T4} {res:V} {outs:List (Option V)} {k:List Item} {S:St} {sc:a0t} {ps:List Prop} (hf:cx.P.funcs[X.f]?=some X.fn) (hg:a93 cx X k S sc=some (res,outs,ps)) (hob : ∀ p∈ps,p):b8 cx X res outs k S:=by
  unfold a93 at hg
  split at hg<;>try (cases hg; done)
  rename_i k1 S1 ps' h1
  split at hg<;>try (cases hg; done)
  rename_i r o qs h2
  injection hg with hg
  injection hg with e1 e2
  injection e2 with e2 e3
  subst e1; subst e2; subst e3
  exact b8.go h1 (fun p hp=>hob p (List.mem_append.2 (.inl hp))) (b8.ret hf h2 fun p hp=>hob p (List.mem_append.2 (.inr hp)))
def a0k:List Prop→Prop
  | []=>True
  | p::ps=>p∧a0k ps
theorem a0k.mem : ∀ {ps:List Prop},a0k ps → ∀ p∈ps,p
  | _::_,h,p,hp=>by
    rcases List.mem_cons.1 hp with rfl | hp
    · exact h.1
    · exact a0k.mem h.2 p hp
theorem a0k.nil:a0k []:=trivial
theorem b8.seg {cx:Cx} {X:T4} {res:V} {outs:List (Option V)} {k k':List Item} {S S':St} (sc:a0t) (fs:List Fix) (keep:List Nat) (gs:List (Nat×Nat)) (ps:List Prop) (hob:a0k ps) (h:b8 cx X res outs k' S') (hg:b3U cx k S sc fs keep gs=some (k',S',ps)):b8 cx X res outs k S :=
  b8.seg0 hg hob.mem h
theorem b8.fin {cx:Cx} {X:T4} {res:V} {outs:List (Option V)} {k:List Item} {S:St} (hf:cx.P.funcs[X.f]?=some X.fn) (sc:a0t) (ps:List Prop) (hob:a0k ps) (hg:a93 cx X k S sc=some (res,outs,ps)):b8 cx X res outs k S :=
  b8.fin0 hf hg hob.mem
def a3W:V→Bool
  | .osl .. | .dsl .. | .optr .. => true
  | _=>false
def a1l:List (Option Nat)→List V→Bool
  | [],[]=>true
  | none::om,.osl .. :: _=>false
  | none::om,.dsl .. :: _=>false
  | none::om,_::vs=>a1l om vs
  | some _::om,.osl .. :: vs=>a1l om vs
  | some _::om,.dsl .. :: vs=>a1l om vs
  | _,_=>false
def c4U:PM→V→Bool
  | .val _ om,.agg vs=>a1l om vs
  | .val ..,_=>false
  | .part,_=>false
  | _,v=>a3W v
def a2Z:Nat→List (Option (Nat×PM))→List V→Bool
  | _,[],[]=>true
  | j,none::os,v::vs=>a2Z (j+(H3 0 j v).2.length) os vs
  | j,some (j',m)::os,v::vs=>Nat.beq j' j&&c4U m v&&a2Z (j+(H3 0 j v).2.length) os vs
  | _,_,_=>false
def b28:Nat→List V
  | 0=>[]
  | n+1=>.bot::b28 n
def a8k (X:T4) (args:List V):St :=
  let x:=W3 0 0 args
  { t:=x.1++b28 (X.fn.ntmps - args.length),h:=[some x.2] }
section
variable {w:World} {F:Nat→Prop}
theorem d64 {v:V} {c:Value} {f:List Nat} (h:BA w F v c f) (j:Nat) : ∃ bs:List Value,bs.length=(H3 0 j v).2.length∧E8 w (H3 0 j v).2 bs f∧(a3W v=true→bs.head?=some c) ∧
    ∀ (D:Nat→Prop) (ι:Nat→Nat→Value),D 0→At ι 0 j bs→f.Nodup→RA w F D ι (H3 0 j v).1 c∧Lie w F D ι (H3 0 j v).2 bs:=by
  by_cases ho:a3W v=true
  · cases h with
    | cell v c f h =>
      cases h with
      | fv v c h=>cases h<;>cases ho
      | osl e sz n rows c h =>
        refine ⟨[c],rfl,.one fun k hk=>P2.2 hk,fun _=>rfl,fun D ι hD hat _=>⟨.cell _ _ (RC.whole hD (hat 0 c rfl) h),?_⟩⟩
        intro k e' b he hb
        cases k with
        | zero =>
          simp [H3,G6] at he hb
          subst he; subst hb
          exact h
        | succ k=>simp [H3,G6] at he
      | dsl e sz n rows c flat fs h1 h2 h3 h4 =>
        obtain ⟨bs,q1,q2,q3⟩:=b3L (grp:=0) (BC.dsl e sz n rows c flat fs h1 h2 h3 h4) j
        refine ⟨[c],rfl,.one fun k hk=>(EB.deep_iff (D:=fun _=>True) (ι:=fun _ _=>.nilFunc) h1 h2.kl).1 hk,fun _=>rfl,fun D ι hD hat hnd=>⟨.cell _ _ (RC.wholeO hD (hat 0 c rfl) h1),?_⟩⟩
        intro k e' b he hb
        cases k with
        | zero =>
          simp [H3,G6] at he hb
          subst he; subst hb
          exact ⟨flat,fs,h1,h2.kl,h3,h4,hnd,fun _=>F4.of_flat h2.noRef⟩
        | succ k=>simp [H3,G6] at he
    | agg cs ds f h=>cases ho
    | optr e cs g cur f hg h =>
      obtain ⟨bs,h1,h2,h3⟩:=a5H (grp:=0) h (j+1)
      refine ⟨.pointer (some ⟨g,0,none⟩)::bs,by simp [H3,h1],?_,fun _=>rfl,fun D ι hD hat hnd => ?_⟩
      · exact E8.cons (w:=w) (e:=.var e (I1 0 (j+1) cs).1) (b:=.pointer (some ⟨g,0,none⟩)) (f1:=[g]) (fun k hk=>by
          have hk:t9 (.pointer (some ⟨g,0,none⟩))=some k:=hk
          simp [t9] at hk
          simp [hk]) h2
      have hat':At ι 0 (j+1) bs:=fun k b hb=>by
        have:=hat (k+1) b (by simpa using hb)
        rw [← this]; congr 1; omega
      obtain ⟨x,y⟩:=h3 D ι hD hat' (List.nodup_cons.1 hnd).2
      refine ⟨.cell _ _ (.ptr 0 j 0 g hD (hat 0 _ rfl)),?_⟩
      intro k e' b he hb
      cases k with
      | zero =>
        simp [H3] at he hb
        subst he; subst hb
        exact ⟨g,cur,rfl,hg,x⟩
      | succ k=>exact y k e' b (by simpa [H3] using he) (by simpa using hb)
  · obtain ⟨bs,h1,h2,h3⟩:=b43 (grp:=0) h j
    exact ⟨bs,h1,h2,fun q=>absurd q ho,h3⟩
theorem b7P {pre b1 b2:List Value} : ∀ {om:List (Option Nat)} {j:Nat} {ds:List Value},a4h (pre++b1) om j ds→a4h (pre++(b1++b2)) om j ds
  | [],_,[],_=>trivial
  | none::om,j,d::ds,h=>⟨h.1,b7P h.2⟩
  | some _::om,j,d::ds,h=>by
    refine ⟨?_,b7P h.2⟩
    have h1:=h.1
    rw [← List.append_assoc,List.getElem?_append_left (List.getElem?_eq_some_iff.1 h1).1]
    exact h1
  | [],_,_::_,h=>h.elim
  | none::_,_,[],h=>h.elim
  | some _::_,_,[],h=>h.elim
theorem c5J : ∀ {vs:List V} {cs:List Value} {f:List Nat},BL w F vs cs f → ∀ j,∃ bs:List Value,bs.length=(I1 0 j vs).2.length∧E8 w (I1 0 j vs).2 bs f ∧
    (∀ (om:List (Option Nat)) (pre:List Value),pre.length=j→a1l om vs=true→a4h (pre++bs) om j cs) ∧
    ∀ (D:Nat→Prop) (ι:Nat→Nat→Value),D 0→At ι 0 j bs→f.Nodup→n5 (RC w F D ι) (I1 0 j vs).1 cs∧Lie w F D ι (I1 0 j vs).2 bs
  | _,_,_,.nil,j=>⟨[],rfl,.nil,fun om pre _ h=>by cases om with | nil=>trivial | cons o om=>cases o<;>simp [a1l] at h,fun D ι hD hat _=>⟨.nil,fun k e b he=>by simp [I1] at he⟩⟩
  | _,_,_,.cons v c f vs cs fs h t,j=>by
    have hone:=h.one
    have hb : ∃ b1:List Value,b1.length=(G6 0 j v).2.length∧E8 w (G6 0 j v).2 b1 f∧(a3W v=true→b1=[c])∧(a3W v=false→b1=[]) ∧ ∀ (D:Nat→Prop) (ι:Nat→Nat→Value),D 0→At ι 0 j b1→f.Nodup→RC w F D ι (G6 0 j v).1 c∧Lie w F D ι (G6 0 j v).2 b1:=by
      cases h with
      | fv v c h =>
        obtain ⟨b1,q1,q2,q3⟩:=b3L (grp:=0) (BC.fv (w:=w) v c h) j
        have hv:(G6 0 j v).2=[]∧a3W v=false:=by cases h<;>exact ⟨rfl,rfl⟩
        have:b1=[]:=List.eq_nil_of_length_eq_zero (by rw [q1,hv.1]; rfl)
        exact ⟨b1,q1,q2,fun q=>by (rw [hv.2] at q; cases q),fun _=>this,q3⟩
      | osl e sz n rows c h =>
        refine ⟨[c],rfl,.one fun k hk=>P2.2 hk,fun _=>rfl,(fun q=>by cases q),fun D ι hD hat _=>⟨RC.whole hD (hat 0 c rfl) h,?_⟩⟩
        intro k e' b he hb
        cases k with
        | zero =>
          simp [G6] at he hb
          subst he; subst hb
          exact h
        | succ k=>simp [G6] at he
      | dsl e sz n rows c flat fs h1 h2 h3 h4 =>
        refine ⟨[c],rfl,.one fun k hk=>(EB.deep_iff (D:=fun _=>True) (ι:=fun _ _=>.nilFunc) h1 h2.kl).1 hk,fun _=>rfl,(fun q=>by cases q),fun D ι hD hat hnd=>⟨RC.wholeO hD (hat 0 c rfl) h1,?_⟩⟩
        intro k e' b he hb
        cases k with
        | zero =>
          simp [G6] at he hb
          subst he; subst hb
          exact ⟨flat,fs,h1,h2.kl,h3,h4,hnd,fun _=>F4.of_flat h2.noRef⟩
        | succ k=>simp [G6] at he
    obtain ⟨b1,hl1,hf1,hi1,hi0,h1⟩:=hb
    obtain ⟨b2,hl2,hf2,hp2,h2⟩:=c5J t (j+(G6 0 j v).2.length)
    refine ⟨b1++b2,by simp [I1,hl1,hl2],hf1.append hf2 hl1,?_,fun D ι hD hat hnd => ?_⟩
    · intro om pre hpre hok
      have hnext : ∀ om,a1l om vs=true→a4h (pre++(b1++b2)) om (j+(G6 0 j v).2.length) cs:=by
        intro om hok
        have:=hp2 om (pre++b1) (by simp [hpre,hl1]) hok
        rwa [List.append_assoc] at this
      cases om with
      | nil=>simp [a1l] at hok
      | cons o om =>
        by_cases hv:a3W v=true
        · obtain rfl:=hi1 hv
          have hlen:(G6 0 j v).2.length=1:=by rw [← hl1]; rfl
          rw [hlen] at hnext
          cases o with
          | none => cases v<;>first | (cases hv; done) | (simp [a1l] at hok; done) | skip
                    cases h; rename_i h; cases h
          | some e =>
            refine ⟨?_,hnext om ?_⟩
            · rw [List.getElem?_append_right (by omega)]; simp [hpre]
            · cases v<;>first | (cases hv; done) | (simpa [a1l] using hok) | (simp [a1l] at hok; done)
        · have hv:a3W v=false:=by simpa using hv
          obtain rfl:=hi0 hv
          have hlen:(G6 0 j v).2.length=0:=by rw [← hl1]; rfl
          rw [hlen] at hnext
          cases o with
          | none =>
            refine ⟨hone,hnext om ?_⟩
            cases v<;>first | (cases hv; done) | (simpa [a1l] using hok)
          | some e=>cases v<;>first | (cases hv; done) | (simp [a1l] at hok; done)
    · rw [List.nodup_append] at hnd
      obtain ⟨x1,y1⟩:=h1 D ι hD hat.left hnd.1
      obtain ⟨x2,y2⟩:=h2 D ι hD (by rw [← hl1]; exact hat.right) hnd.2.1
      exact ⟨.cons x1 x2,y1.append y2 hl1.symm⟩
theorem d3w {v:V} {c:Value} {f:List Nat} (h:BA w F v c f) (j:Nat) : ∃ bs:List Value,bs.length=(H3 0 j v).2.length∧E8 w (H3 0 j v).2 bs f ∧
    (∀ (m:PM) (oms:List (Option (Nat×PM))) (cs pre b2:List Value),pre.length=j→c4U m v=true→a1x oms cs (pre++(bs++b2))→a1x (some (j,m)::oms) (c::cs) (pre++(bs++b2))) ∧
    ∀ (D:Nat→Prop) (ι:Nat→Nat→Value),D 0→At ι 0 j bs→f.Nodup→RA w F D ι (H3 0 j v).1 c∧Lie w F D ι (H3 0 j v).2 bs:=by
  by_cases hv : ∃ cs,v = .agg cs
  · obtain ⟨cs,rfl⟩:=hv
    cases h with
    | cell v c f h=>cases h with | fv v c h=>cases h
    | agg cs ds f h =>
      obtain ⟨bs,h1,h2,hp,h3⟩:=c5J h j
      refine ⟨bs,h1,h2,?_,fun D ι hD hat hnd=>⟨.agg _ _ (h3 D ι hD hat hnd).1,(h3 D ι hD hat hnd).2⟩⟩
      intro m oms cs' pre b2 hpre hm t
      cases m with
      | val ck om=>exact .agg _ _ _ _ _ _ _ (b7P (hp om pre hpre hm)) t
      | ptr ck om=>cases hm
      | row=>cases hm
      | part=>cases hm
  · obtain ⟨bs,h1,h2,hh,h3⟩:=d64 h j
    refine ⟨bs,h1,h2,?_,h3⟩
    intro m oms cs' pre b2 hpre hm t
    cases m with
    | val ck om=>cases v<;>first | exact absurd ⟨_,rfl⟩ hv | cases hm
    | part=>cases hm
    | ptr ck om =>
      refine .pin _ _ _ _ _ _ rfl ?_ t
      have:=hh hm
      cases bs with
      | nil=>cases this
      | cons b b1 =>
        injection this with this
        subst this
        rw [List.getElem?_append_right (by omega)]
        simp [hpre]
    | row =>
      refine .pin _ _ _ _ _ _ rfl ?_ t
      have:=hh hm
      cases bs with
      | nil=>cases this
      | cons b b1 =>
        injection this with this
        subst this
        rw [List.getElem?_append_right (by omega)]
        simp [hpre]
theorem d4f {vs:List V} {cs:List Value} {f:List Nat} (h:BS w F vs cs f) : ∀ j,∃ bs:List Value,bs.length=(W3 0 j vs).2.length∧E8 w (W3 0 j vs).2 bs f ∧
    (∀ (oms:List (Option (Nat×PM))) (pre:List Value),pre.length=j→a2Z j oms vs=true→a1x oms cs (pre++bs)) ∧
    ∀ (D:Nat→Prop) (ι:Nat→Nat→Value),D 0→At ι 0 j bs→f.Nodup→n5 (RA w F D ι) (W3 0 j vs).1 cs∧Lie w F D ι (W3 0 j vs).2 bs:=by
  induction h with
  | nil =>
    refine fun j=>⟨[],rfl,.nil,fun oms pre _ hp => ?_,fun D ι hD hat _=>⟨.nil,fun k e b he=>by simp [W3] at he⟩⟩
    cases oms with
    | nil=>exact .nil _
    | cons o oms=>cases o<;>simp [a2Z] at hp
  | cons v c f vs cs fs h t ih =>
    intro j
    obtain ⟨b1,hl1,hf1,hh1,h1⟩:=d3w h j
    obtain ⟨b2,hl2,hf2,hp2,h2⟩:=ih (j+(H3 0 j v).2.length)
    refine ⟨b1++b2,by simp [W3,hl1,hl2],hf1.append hf2 hl1,?_,fun D ι hD hat hnd => ?_⟩
    · intro oms pre hpre hp
      cases oms with
      | nil=>simp [a2Z] at hp
      | cons o oms =>
        have hnext : ∀ oms,a2Z (j+(H3 0 j v).2.length) oms vs=true→a1x oms cs (pre++(b1++b2)):=by
          intro oms hp
          have:=hp2 oms (pre++b1) (by simp [hpre,hl1]) hp
          rwa [List.append_assoc] at this
        cases o with
        | none=>exact .skip _ _ _ _ (hnext oms (by simpa [a2Z] using hp))
        | some q =>
          obtain ⟨j',m⟩:=q
          simp only [a2Z,Bool.and_eq_true] at hp
          obtain ⟨⟨e1,e2⟩,e3⟩:=hp
          have hj:j'=j:=Nat.eq_of_beq_eq_true e1
          subst hj
          exact hh1 m oms cs pre b2 hpre e2 (hnext oms e3)
    · rw [List.nodup_append] at hnd
      obtain ⟨x1,y1⟩:=h1 D ι hD hat.left hnd.1
      obtain ⟨x2,y2⟩:=h2 D ι hD (by rw [← hl1]; exact hat.right) hnd.2.1
      exact ⟨.cons x1 x2,y1.append y2 hl1.symm⟩
theorem c1U {D:Nat→Prop} {ι:Nat→Nat→Value} : ∀ n,n5 (RV w F D ι) (b28 n) (List.replicate n undef)
  | 0=>.nil
  | n+1=>.cons (.any _) (c1U n)
theorem BS.len {vs:List V} {cs:List Value} {f:List Nat} (h:BS w F vs cs f):vs.length=cs.length:=by
  induction h with
  | nil=>rfl
  | cons _ _ _ _ _ _ _ _ ih=>simp [ih]
end
theorem l8.of {cx:Cx} {X:T4} {args:List V} {res:V} {outs:List (Option V)} {c:Code} (hf:cx.P.funcs[X.f]?=some X.fn) (hb:X.fn.body=some c) (hn:(X.fn.name == "runtime.NumGoroutine")=false) (ho:a2Z 0 X.oms args=true)
    (h:b8 cx X res outs [.code c] (a8k X args)):l8 cx.P X.f args res outs:=by
  refine ⟨⟨X.fn,hf,hn,by rw [hb]; rfl⟩,?_⟩
  intro w F cargs fp hbs hfpn hfp hF
  obtain ⟨bs,hl,hbf,hpin,hlie⟩:=d4f hbs 0
  have hpin':=hpin X.oms [] rfl ho
  rw [List.nil_append] at hpin'
  obtain ⟨hargs,hents⟩:=hlie (a8k X args).D (a3O (fun _ _=>.nilFunc) 0 bs) ⟨_,rfl⟩ (fun k b hb=>by rw [Nat.zero_add]; exact a3e hb) hfpn
  have hent : ∀ g j e,(a8k X args).ent g j=some e→g=0∧(W3 0 0 args).2[j]?=some e:=by
    intro g j e he
    unfold St.ent a8k at he
    cases g with
    | zero=>exact ⟨rfl,he⟩
    | succ g=>simp at he
  have hget : ∀ j e,(W3 0 0 args).2[j]?=some e → ∃ b,bs[j]?=some b∧a3O (fun _ _=>.nilFunc) 0 bs 0 j=b:=by
    intro j e he
    have hj:j<bs.length:=by rw [hl]; exact (List.getElem?_eq_some_iff.1 he).1
    exact ⟨bs[j],List.getElem?_eq_getElem hj,a3e (List.getElem?_eq_getElem hj)⟩
  have hrel:m3 ⟨w,F,(· ∈ fp),bs⟩ F (a3O (fun _ _=>.nilFunc) 0 bs) (a8k X args) { tmps:=cargs.toArray++Array.replicate (X.fn.ntmps - cargs.toArray.size) undef,defers:=[] } w :=
    { F0:=fun _ x=>x,F1:=hF,F2:=fun _ x=>.inl x,kept:=.refl _ _
      tmps:=by
        show n5 _ ((W3 0 0 args).1++b28 (X.fn.ntmps - args.length)) _
        simp only [Array.toList_append,Array.toList_replicate,List.size_toArray]
        rw [hbs.len]
        exact (hargs.imp fun _ _ x=>RV.one _ _ x).app (c1U _)
      ents:=fun g j e he=>by
        obtain ⟨rfl,he⟩:=hent g j e he
        obtain ⟨b,hb,hv⟩:=hget j e he
        rw [hv]
        exact hents j e b he hb
      sep:=fun g j e k he hl' hk=>by
        obtain ⟨rfl,he⟩:=hent g j e he
        obtain ⟨b,hb,hv⟩:=hget j e he
        rw [hv] at hk
        have:=hbf.mem he hb hk
        exact ⟨(hfp k this).1,.inl this⟩
      inj:=fun g j e g' j' e' k he he' hl1 hl2 hk hk'=>by
        obtain ⟨rfl,he⟩:=hent g j e he
        obtain ⟨rfl,he'⟩:=hent g' j' e' he'
        obtain ⟨b,hb,hv⟩:=hget j e he
        obtain ⟨b',hb',hv'⟩:=hget j' e' he'
        rw [hv] at hk
        rw [hv'] at hk'
        exact ⟨rfl,hbf.inj hfpn he hb hk he' hb' hk'⟩
      defers:=rfl
      pins:=fun j c hc=>⟨⟨_,rfl⟩,a3e hc⟩ }
  intro cs
  let b:Frame:={ (default:Frame) with fn:=X.f,kind:=.normal }
  have henter:Frame.enter cx.P X.f cargs.toArray .normal =
      b.at { tmps:=cargs.toArray++Array.replicate (X.fn.ntmps - cargs.toArray.size) undef,defers:=[] } [.code c]:=by
    simp [Frame.enter,Frame.at,hf,hb,b]
  obtain ⟨e,w',fr,h1,h2,h3,h4⟩:=h w F fp cargs bs hpin' hF F _ _ w b cs hrel rfl rfl
  rw [← henter] at h2
  exact ⟨e,w',fr,h1,h2,h3,h4⟩
inductive b6 (R S B:Type) where
  | ret (r:R)
  | brk (b:B)
  | nxt (s:S)
inductive b7 (R B:Type) where
  | ret (r:R)
  | brk (b:B)
def a0C {R S B:Type} (body:S→Option (b6 R S B)):Nat→S→Option (b7 R B)
  | 0,_=>none
  | n+1,s=>match body s with
    | some (.ret r)=>some (.ret r)
    | some (.brk s)=>some (.brk s)
    | some (.nxt s)=>a0C body n s
    | none=>none
open Classical in
noncomputable def m5 {R S B:Type} (body:S→Option (b6 R S B)) (s:S):Option (b7 R B) :=
  if h : ∃ n r,a0C body n s=some r then some h.choose_spec.choose else none
theorem b9Y {R S B:Type} {body:S→Option (b6 R S B)} : ∀ {n:Nat} {s:S} {r:b7 R B},a0C body n s=some r → ∀ m,n≤m→a0C body m s=some r
  | 0,s,r,h,_,_=>by cases h
  | n+1,s,r,h,0,hm=>by omega
  | n+1,s,r,h,m+1,hm=>by
    unfold a0C at h ⊢
    cases hb:body s with
    | none=>rw [hb] at h; cases h
    | some st =>
      rw [hb] at h
      cases st with
      | ret x=>exact h
      | brk x=>exact h
      | nxt x=>exact b9Y h m (by omega)
theorem b8a {R S B:Type} {body:S→Option (b6 R S B)} {s:S} {r:b7 R B}:m5 body s=some r ↔ ∃ n,a0C body n s=some r:=by
  unfold m5
  constructor
  · intro h
    split at h
    · rename_i hx
      injection h with h
      exact ⟨_,h▸hx.choose_spec.choose_spec⟩
    · cases h
  · rintro ⟨n,h⟩
    have hx : ∃ n r,a0C body n s=some r:=⟨n,r,h⟩
    rw [dif_pos hx]
    have h1:=hx.choose_spec.choose_spec
    have h2:=b9Y h1 _ (Nat.le_max_left _ n)
    have h3:=b9Y h _ (Nat.le_max_right hx.choose n)
    rw [h2] at h3
    exact h3
theorem b64 {R S B:Type} (body:S→Option (b6 R S B)) (s:S):m5 body s=match body s with
    | some (.ret r)=>some (.ret r)
    | some (.brk s)=>some (.brk s)
    | some (.nxt s)=>m5 body s
    | none=>none:=by
  apply Option.ext
  intro r
  rw [b8a]
  cases hb:body s with
  | none =>
    constructor
    · rintro ⟨n,h⟩
      cases n with
      | zero=>cases h
      | succ n=>unfold a0C at h; rw [hb] at h; cases h
    · intro h; cases h
  | some st =>
    cases st with
    | ret x =>
      constructor
      · rintro ⟨n,h⟩
        cases n with
        | zero=>cases h
        | succ n=>unfold a0C at h; rw [hb] at h; exact h
      · intro h; exact ⟨1,by unfold a0C; rw [hb]; exact h⟩
    | brk x =>
      constructor
      · rintro ⟨n,h⟩
        cases n with
        | zero=>cases h
        | succ n=>unfold a0C at h; rw [hb] at h; exact h
      · intro h; exact ⟨1,by unfold a0C; rw [hb]; exact h⟩
    | nxt x =>
      simp only
      rw [b8a]
      constructor
      · rintro ⟨n,h⟩
        cases n with
        | zero=>cases h
        | succ n=>unfold a0C at h; rw [hb] at h; exact ⟨n,h⟩
      · rintro ⟨n,h⟩
        exact ⟨n+1,by unfold a0C; rw [hb]; exact h⟩
def n9 {R S B:Type} (r:b7 R B) (I:S→Prop):b6 R S B→Prop
  | .ret x=>r = .ret x
  | .brk s=>r = .brk s
  | .nxt s=>I s
theorem u9 {R S B:Type} {body:S→Option (b6 R S B)} {I:S→Prop} {s:S} {r:b7 R B} (h:m5 body s=some r) (step : ∀ s st,body s=some st→n9 r I st→I s):I s:=by
  obtain ⟨n,h1⟩:=b8a.1 h
  clear h
  have h:=h1
  clear h1
  induction n generalizing s with
  | zero=>cases h
  | succ n ih =>
    unfold a0C at h
    cases hb:body s with
    | none=>rw [hb] at h; cases h
    | some st =>
      rw [hb] at h
      refine step s st hb ?_
      cases st with
      | ret x=>injection h with h; exact h.symm
      | brk x=>injection h with h; exact h.symm
      | nxt x=>exact ih h
def b7.go {R B β:Type} (x:b7 R B) (kr:R→Option β) (ks:B→Option β):Option β :=
  match x with
  | .ret r=>kr r
  | .brk s=>ks s
def JC {B J:Type} (I:J→Prop) (r:B):b7 B J→Prop
  | .ret v=>some v=some r
  | .brk j=>I j
def idx {α:Type} (l:List α) (i:Int):Option α:=if 0≤i then l[i.toNat]? else none
def n8 {β:Type} (p:Prop) [Decidable p] (k:Option β):Option β:=if p then k else none
theorem b3r {α:Type} {l:List α} {i:Int} {x:α} (h:idx l i=some x):0≤i∧i<l.length∧l[i.toNat]?=some x:=by
  unfold idx at h
  split at h
  · rename_i hi
    refine ⟨hi,?_,h⟩
    have:=(List.getElem?_eq_some_iff.1 h).1
    omega
  · cases h
section
variable {G:Prop} {α β R S:Type}
theorem D9 {m:Option α} {f:α→Option β} {r:β} (h:m.bind f=some r) (k : ∀ x,m=some x→f x=some r→G):G:=by
  cases m with
  | none=>cases h
  | some x=>exact k x rfl h
theorem o8 {p:Prop} [Decidable p] {a:Option β} {r:β} (h:n8 p a=some r) (k:p→a=some r→G):G:=by
  unfold n8 at h
  split at h
  · rename_i hp; exact k hp h
  · cases h
theorem x6 {B:Type} {I:S→Prop} {r:b7 R B} {x:R} {st:b6 R S B} (h:some (b6.ret x)=some st) (hc:n9 r I st) (k:r = .ret x→G):G:=by
  injection h with h
  subst h
  exact k hc
theorem t0 {B:Type} {I:S→Prop} {r:b7 R B} {x:B} {st:b6 R S B} (h:some (b6.brk x)=some st) (hc:n9 r I st) (k:r = .brk x→G):G:=by
  injection h with h
  subst h
  exact k hc
theorem u0 {B:Type} {I:S→Prop} {r:b7 R B} {x:S} {st:b6 R S B} (h:some (b6.nxt x)=some st) (hc:n9 r I st) (k:I x→G):G:=by
  injection h with h
  subst h
  exact k hc
theorem b1h {B:Type} {I:S→Prop} {r:b7 R B} {x:R} {st:b6 R S B} (h:some (b6.ret x)=some st) (hc:n9 r I st):r = .ret x:=x6 h hc id
theorem A9 {B J:Type} {T:Option (b7 B J)} {K:J→Option B} {r:B} {I:J→Prop} (h:(T.bind fun x=>x.go some K)=some r) (rest : ∀ j,K j=some r→I j) (d05 : ∀ x,T=some x→JC I r x→G):G:=by
  cases T with
  | none=>cases h
  | some x =>
    refine d05 x rfl ?_
    cases x with
    | ret v=>exact h
    | brk j=>exact rest j h
theorem A0 {B J:Type} {I:J→Prop} {r v:B} {x:b7 B J} (h:some (b7.ret v)=some x) (hc:JC I r x) (k:some v=some r→G):G:=by
  injection h with h
  subst h
  exact k hc
theorem c6D {B J:Type} {I:J→Prop} {r v:B} {x:b7 B J} (h:some (b7.ret v)=some x) (hc:JC I r x):some v=some r:=A0 h hc id
theorem m7 {B J:Type} {I:J→Prop} {r:B} {x:b7 B J} {j:J} (h:some (b7.brk j)=some x) (hc:JC I r x) (k:I j→G):G:=by
  injection h with h
  subst h
  exact k hc
theorem u7 {B:Type} {body:S→Option (b6 R S B)} {s:S} {kr:R→Option β} {ks:B→Option β} {r:β} (h:((m5 body s).bind fun x=>x.go kr ks)=some r) (k : ∀ x,m5 body s=some x→(∀ v,x = .ret v→kr v=some r)→(∀ b,x = .brk b→ks b=some r)→G):G:=by
  cases hl:m5 body s with
  | none=>rw [hl] at h; cases h
  | some x =>
    rw [hl] at h
    refine k x hl ?_ ?_
    · intro v hv
      subst hv
      exact h
    · intro b hb
      subst hb
      exact h
end
theorem b8.is {cx:Cx} {X:T4} {res a84:V} {outs b0u:List (Option V)} {k:List Item} {S:St} (h:b8 cx X a84 b0u k S) (h1:res=a84) (h2:outs=b0u):b8 cx X res outs k S:=by
  subst h1; subst h2
  exact h
def vi (n:Int):V:=.i .i64 n
def bs:Nat→List V→List V
  | 0,l=>l
  | n+1,l=>.bot::bs n l
def a0 {α:Type} (sz:Nat) (enc:α→List V) (l:List α):V:=.sl sz l.length (l.map enc)
def b9 {α:Type} (e sz:Nat) (enc:α→List V) (l:List α):V:=.osl e sz l.length (l.map enc)
def d8 {α:Type} (e sz:Nat) (enc:α→List V) (l:List α):l7:=.row e sz l.length (l.map enc)
def b0b {α:Type} (sz:Nat) (enc:α→List V) (l:List α):l7:=.frz sz l.length (l.map enc)
section
variable {α:Type} {enc:α→List V} {l:List α} {i:Int} {x:α}
theorem a42 (h:idx l i=some x):(l.map enc)[i.toNat]?=some (enc x):=by
  rw [List.getElem?_map,(b3r h).2.2]; rfl
theorem b0v (h:idx l i=some x):(l.map enc)[0+i.toNat]?=some (enc x):=by
  rw [Nat.zero_add]; exact a42 h
theorem a3j (h:idx l i=some x):0≤i:=(b3r h).1
theorem b0o (h:idx l i=some x):i<(l.length:Nat):=(b3r h).2.1
theorem d5v {e sz:Nat} {y:α} {cs:List V} (h:cs=enc y):l7.row e sz (l.length+1) (l.map enc++[cs])=d8 e sz enc (l++[y]):=by
  subst h
  simp [d8]
theorem a1Q {e sz:Nat} {l':List α} {n:Nat} {rows:List (List V)} (h1:n=l'.length) (h2:rows=l'.map enc):l7.row e sz (l.length+n) (l.map enc++rows)=d8 e sz enc (l++l'):=by
  subst h1; subst h2
  simp [d8]
theorem d4c {e sz:Nat} {k:Nat} {y:α} {cs:List V} (h:cs=enc y):l7.row e sz l.length ((l.map enc).set (0+k) cs)=d8 e sz enc (l.set k y):=by
  subst h
  simp [d8,List.map_set]
theorem c0c {sz:Nat} {a b:Nat} (ha:a≤b) (hb:b≤l.length):V.sl sz (b - a) (((l.map enc).drop a).take (b - a))=a0 sz enc ((l.drop a).take (b - a)):=by
  have:min (b - a) (l.length - a)=b - a:=by omega
  simp [a0,List.map_take,List.map_drop,this]
end
def b8P (f:Func):Code:=match f.body with
  | some c=>c
  | none=>.skip
def a2k:Nat→Nat→List Bool→List Item→List Item
  | 0,_,_,k=>k
  | f+1,n,cs,k=>match k with
    | .code (.region id ops dr)::k'=>match n with
      | 0=>.code (.region id ops dr)::k'
      | n+1=>a2k f n cs k'
    | .code .skip::k'=>a2k f n cs k'
    | .inBlock _::k'=>a2k f n cs k'
    | .code (.seq x y)::k'=>a2k f n cs (.code x :: .code y::k')
    | .code (.cond o x y)::k'=>match cs with
      | c::cs=>a2k f n cs (.code (bif c then x else y)::k')
      | []=>.code (.cond o x y)::k'
    | .code (.block id c)::k'=>a2k f n cs (.code c :: .inBlock id::k')
    | .code (.loop c)::k'=>a2k f n cs (.code c :: .inLoop c::k')
    | .inLoop c::k'=>a2k f n cs (.code c :: .inLoop c::k')
    | .code (.exit id)::k'=>match exitTo id k' with
      | some k2=>a2k f n cs k2
      | none=>.code (.exit id)::k'
    | k=>k
def td (i:Nat) (d:Bool):Nat×I3:=(i,{ d:=some d })
def tr (i:Nat) (cs:List V):Nat×I3:=(i,{ a:=.row cs })
def i7 (n:Int):Int:=IntKind.wrap .i64 n
section
variable {α:Type} {enc:α→List V} {l l':List α} {n:Nat} {x y:α} {cs:List V} {e sz:Nat}
theorem d68 (h:cs=enc x):l7.row e sz n (List.replicate n cs)=d8 e sz enc (List.replicate n x):=by
  subst h
  simp [d8]
theorem b5R (h:l.length=n):l7.row e sz n (l.map enc)=d8 e sz enc l:=by
  subst h
  rfl
theorem c4B {k:Nat} (h:cs=enc y):l7.arr e sz n ((l.map enc).set k cs) = .arr e sz n ((l.set k y).map enc):=by
  subst h
  simp [List.map_set]
def x8 (e sz:Nat) (enc:α→List V) (l:List α):l7:=.deep false e sz l.length (l.map enc)
def K6 (e sz:Nat) (enc:α→List V) (l:List α):V:=.dsl e sz l.length (l.map enc)
theorem a0i {k:Nat} (h:cs=enc y):(l.map enc).set (0+k) cs=(l.set k y).map enc:=by
  subst h
  simp [List.map_set]
theorem a55 {rows:List (List V)} (h:rows=l.map enc) (hn : ∀ x,∀ v∈enc x,v.isRef=false):F4 rows:=h▸F4.map hn l
theorem a6l {rows:List (List V)} {n:Nat} (h:rows=l.map enc) (hl:n=l.length):l7.deep false e sz n rows=x8 e sz enc l:=by
  subst h; subst hl; rfl
theorem b7T (h:cs=enc y):l7.deep false e sz (l.length+1) (l.map enc++[cs])=x8 e sz enc (l++[y]):=by
  subst h
  simp [x8]
theorem b79 {L l1:List α} {lo n:Nat} (h:lo+n≤L.length):l7.row e sz (l1.length+n) (l1.map enc++((L.map enc).drop lo).take n)=d8 e sz enc (l1++(L.drop lo).take n):=by
  have:((L.drop lo).take n).length=n:=by simp; omega
  simp [d8,List.map_take,List.map_drop]
  omega
theorem b8B {L l1:List α} {lo n g:Nat} (h:lo+n≤L.length):V.own g 0 sz 0 (l1.length+n)=V.own g 0 sz 0 (l1++(L.drop lo).take n).length:=by
  congr 1
  simp
  omega
theorem U8 {rows X:List (List V)} {k:Nat} {c c':List V} (h:rows.set k c'=X):(rows.set k c).set k c'=X:=by rw [List.set_set]; exact h
theorem a1e {rows:List (List V)} {k:Nat} (h:k<rows.length):(rows.set k cs)[k]?=some cs:=by simp [h]
theorem a21 {rows:List (List V)} {k j:Nat} (h:k<rows.length):k<(rows.set j cs).length:=by simpa using h
theorem a1w {i:Int} (h:idx l i=some y):0+i.toNat<(l.map enc).length:=by
  have:=(b0o h)
  have:=(a3j h)
  rw [List.length_map]
  omega
theorem b2k {hi:Int} (h:0≤hi∧hi≤(l.length:Nat)):V.sl sz (hi.toNat - 0) (((l.map enc).drop 0).take (hi.toNat - 0))=a0 sz enc ((l.drop 0).take (hi.toNat - 0)) :=
  c0c (by omega) (by omega)
theorem d8g {lo:Int} (h:0≤lo∧lo≤(l.length:Nat)):V.sl sz (l.length - lo.toNat) (((l.map enc).drop lo.toNat).take (l.length - lo.toNat))=a0 sz enc ((l.drop lo.toNat).take (l.length - lo.toNat)) :=
  c0c (by omega) (by omega)
end
def c2f:Nat→List (Option V)
  | 0=>[]
  | n+1=>none::c2f n
theorem K1 : ∀ n,H1 (c2f n)
  | 0=>fun v h=>by cases h
  | n+1=>fun v h=>by
    rcases List.mem_cons.1 h with q | q
    · cases q
    · exact K1 n v q
section
variable {P:Program} {d:Nat} {xs ys:Array Value} {f:Field} {fs:List Field} {a b:Value} {r s:Bool} {w:World}
theorem b53:(Op.eqFields d xs ys []).run P w = .ok true w:=by simp [Op.eqFields]
theorem a7h (hn:(f.name == "_")=false) (ha:(part f.type xs f.offset).run P w = .ok a w) (hb:(part f.type ys f.offset).run P w = .ok b w) (he:(Op.equalIn d f.type a b).run P w = .ok r w) (hr:(Op.eqFields d xs ys fs).run P w = .ok s w):(Op.eqFields d xs ys (f::fs)).run P w = .ok (r&&s) w:=by
  have hn':f.name ≠ "_" := by simpa using hn
  rw [Op.eqFields]
  simp only [if_pos hn',Sem.run_bind,ha,hb,he,Result.andThen_ok]
  cases r
  · simp
  · simpa using hr
theorem b9z {t:TypeId} {fs:Array Field} (hu:P.underlying t=some (.struct fs)) (hp:P.stoodInHeld t=false) (h:(Op.eqFields d xs ys fs.toList).run P w = .ok r w):(Op.equalIn (d+1) t (.agg xs) (.agg ys)).run P w = .ok r w:=by
  have hf:P.fieldsOf t=fs:=by simp [Program.fieldsOf,hu]
  rw [run_equalIn_struct (P:=P) w d t xs ys (by rw [hf]; exact hu) hp,hf]
  exact h
theorem a8z {t:TypeId} {k:IntKind} {m n:Int} (h:P.underlying t=some (.int k)):(Op.equalIn (d+1) t (.int .i64 m) (.int .i64 n)).run P w = .ok (m==n) w:=run_equalIn_int w d t .i64 k m n h
end
structure Pt (cx:Cx) (X:T4) (res:V) (outs:List (Option V)) (k:List Item) (S:St) (sc:a0t) (ps:List Prop):Prop where
  f:a0k ps→b8 cx X res outs k S
def c8I {α:Type}:List α→List α→List α
  | [],b=>b
  | a::l,b=>c8I l (a::b)
def scO:a0t→a0t→a0t
  | [],b=>b
  | r::l,b=>scO l (c8I r []::b)
def psO:List Prop→List Prop→List Prop
  | [],b=>b
  | p::l,b=>psO l (p::b)
theorem c6Q {ps:List Prop} : ∀ {qs:List Prop},a0k ps→a0k qs→a0k (psO ps qs):=by
  induction ps with
  | nil=>exact fun _ h=>h
  | cons p ps ih=>exact fun h h'=>ih h.2 ⟨h.1,h'⟩
def a3G {α β:Type} (m:Option α) (f:α→Option β) (g:Option β):Option β :=
  match m with
  | some x=>f x
  | none=>g
def dt (t:Nat×I3) (d:Bool):Nat×I3:=(t.1,{ t.2 with d:=some d })
section
variable {cx:Cx} {X:T4} {res:V} {outs:List (Option V)} {k:List Item} {S:St} {sc:a0t} {ps:List Prop} {r:List (Nat×I3)} {α β:Type} {v:β}
theorem P0 (h:Pt cx X res outs k S [] []):b8 cx X res outs k S:=h.f a0k.nil
theorem rg (h:Pt cx X res outs k S ([]::sc) ps):Pt cx X res outs k S sc ps:=⟨h.f⟩
theorem m6 (h:Pt cx X res outs k S ([]::[]::sc) ps):Pt cx X res outs k S sc ps:=⟨h.f⟩
theorem X6 (h:Pt cx X res outs k S ([]::[]::[]::sc) ps):Pt cx X res outs k S sc ps:=⟨h.f⟩
theorem rg4 (h:Pt cx X res outs k S ([]::[]::[]::[]::sc) ps):Pt cx X res outs k S sc ps:=⟨h.f⟩
theorem tl (t:Nat×I3) (h:Pt cx X res outs k S ((t::r)::sc) ps):Pt cx X res outs k S (r::sc) ps:=⟨h.f⟩
theorem ob {p:Prop} (q:p) (h:Pt cx X res outs k S sc (p::ps)):Pt cx X res outs k S sc ps:=⟨fun a=>h.f ⟨q,a⟩⟩
theorem om (p:Prop) (q:p) (h:Pt cx X res outs k S sc (p::ps)):Pt cx X res outs k S sc ps:=ob q h
theorem cdT (t:Nat×I3) {e:Bool} {a b:Option β} (h:cond e a b=some v) (k1:e=true→a=some v→Pt cx X res outs k S ((dt t true::r)::sc) ((e=true)::ps)) (k2:e=false→b=some v→Pt cx X res outs k S ((dt t false::r)::sc) ((e=false)::ps)):Pt cx X res outs k S (r::sc) ps:=by
  cases e with
  | true=>exact ob rfl (tl _ (k1 rfl h))
  | false=>exact ob rfl (tl _ (k2 rfl h))
theorem a9 (i:Nat) {e:Bool} {a b:Option β} (h:cond e a b=some v) (k1:a=some v→Pt cx X res outs k S ((td i true::r)::sc) ((e=true)::ps)) (k2:b=some v→Pt cx X res outs k S ((td i false::r)::sc) ((e=false)::ps)):Pt cx X res outs k S (r::sc) ps:=by
  cases e with
  | true=>exact ob rfl (tl _ (k1 h))
  | false=>exact ob rfl (tl _ (k2 h))
theorem cb (t:Nat→Bool→α→Nat×I3) {m:Option α} {p:α→Prop} (ok : ∀ x,m=some x→p x) (i:Nat) (fr:Bool) {f:α→Option β} (h:m.bind f=some v) (g : ∀ x,f x=some v→Pt cx X res outs k S ((t i fr x::r)::sc) (p x::ps)):Pt cx X res outs k S (r::sc) ps :=
  D9 h fun x hx h=>ob (ok x hx) (tl _ (g x h))
theorem cbA (t:Nat→Bool→α→Nat×I3) {m:Option α} {p:α→Prop} (ok : ∀ x,m=some x→p x) (i:Nat) (fr:Bool) {f:α→Option β} {e:Option β} (h:a3G m f e=some v) (g : ∀ x,f x=some v→Pt cx X res outs k S ((t i fr x::r)::sc) (p x::ps)) (g2:e=some v→Pt cx X res outs k S (r::sc) ps):Pt cx X res outs k S (r::sc) ps:=by
  cases m with
  | none=>exact g2 h
  | some x=>exact ob (ok x rfl) (tl _ (g x h))
theorem cbE (t:Nat→Bool→α→Nat×I3) {m:Option α} {p:α→Prop} (ok : ∀ x,m=some x→p x) {f:α→Option β} (h:m.bind f=some v) (g : ∀ x,p x→f x=some v→Pt cx X res outs k S sc ps):Pt cx X res outs k S sc ps :=
  D9 h fun x hx h=>g x (ok x hx) h
section
variable {enc:α→List V} {l l':List α} {I:Int} {x y z:α}
theorem s5 (enc:α→List V) (i:Nat) {f:α→Option β} (h:(idx l I).bind f=some v) (g : ∀ y,idx l I=some y→f y=some v→Pt cx X res outs k S ((tr i (enc y)::r)::sc) (((l.map enc)[I.toNat]?=some (enc y))::(I<((l.length:Nat):Int))::((0:Int)≤I)::ps)):Pt cx X res outs k S (r::sc) ps :=
  D9 h fun y hy h=>ob (a3j hy) (ob (b0o hy) (ob (a42 hy) (tl _ (g y hy h))))
theorem O0 (enc:α→List V) (i:Nat) (hy:idx l I=some y) (g:Pt cx X res outs k S ((tr i (enc y)::r)::sc) (((l.map enc)[I.toNat]?=some (enc y))::(I<((l.length:Nat):Int))::((0:Int)≤I)::ps)):Pt cx X res outs k S (r::sc) ps :=
  ob (a3j hy) (ob (b0o hy) (ob (a42 hy) (tl _ g)))
theorem B8 (hy:idx l I=some y) (g:Pt cx X res outs k S sc ((I<((l.length:Nat):Int))::((0:Int)≤I)::ps)):Pt cx X res outs k S sc ps:=ob (a3j hy) (ob (b0o hy) g)
theorem R2 (enc:α→List V) (i:Nat) (hy:idx l I=some y) (g:Pt cx X res outs k S ((tr i (enc y)::r)::sc) (((l.map enc)[0+I.toNat]?=some (enc y))::ps)):Pt cx X res outs k S (r::sc) ps :=
  ob (b0v hy) (tl _ g)
theorem stR (e sz:Nat) (enc:α→List V) (i:Nat) (ck:List (Option Nat)) (y:α) (hz:idx l I=some z) (g:Pt cx X res outs k S (((i,{ a:=.rowck (enc z) ck,e:=some (d8 e sz enc (l.set I.toNat y)) })::r)::sc) (((l.map enc)[0+I.toNat]?=some (enc z))::(l7.row e sz l.length ((l.map enc).set (0+I.toNat) (enc y))=d8 e sz enc (l.set I.toNat y))::ps)):Pt cx X res outs k S (r::sc) ps :=
  ob (d4c rfl) (ob (b0v hz) (tl _ g))
theorem mkS (i w t sz b:Nat) (enc:α→List V) (z:α) (T:TI) (a:M6) {N:Int} (e1:0≤N∧N * ((b:Nat):Int)≤140737488355328) (hb:0<b) (hl:T.zero.length=sz)
    (g:Pt cx X res outs k S (((i,{ a:=a,e:=some (d8 t sz enc (List.replicate N.toNat z)),v:=some (.own w 0 sz 0 (List.replicate N.toNat z).length) })::r)::sc)
      ((T.zero.length=sz)::(N * ((b:Nat):Int)≤140737488355328∧0<b)::(N=N)::((0:Int)≤N)::(l7.row t sz N.toNat (List.replicate N.toNat (enc z))=d8 t sz enc (List.replicate N.toNat z))::(V.own w 0 sz 0 N.toNat = .own w 0 sz 0 (List.replicate N.toNat z).length)::ps)):Pt cx X res outs k S (r::sc) ps :=
  ob (by simp) (ob (d68 rfl) (ob e1.1 (ob rfl (ob ⟨e1.2,hb⟩ (ob hl (tl _ g))))))
theorem J8 (i w t sz b:Nat) (enc:α→List V) (l:List α) (x:α) (h:(l.length+1) * b≤140737488355328)
    (g:Pt cx X res outs k S (((i,{ v:=some (.own w 0 sz 0 (l++[x]).length),e:=some (d8 t sz enc (l++[x])) })::r)::sc)
      (((l.length+1) * b≤140737488355328)::(l.length=l.length)::(l7.row t sz (l.length+1) (l.map enc++[enc x])=d8 t sz enc (l++[x]))::(V.own w 0 sz 0 (l.length+1) = .own w 0 sz 0 (l++[x]).length)::ps)):Pt cx X res outs k S (r::sc) ps :=
  ob (by simp) (ob (d5v rfl) (ob rfl (ob h (tl _ g))))
theorem apL (i w t sz b:Nat) (enc:α→List V) (l l':List α) (h:(l.length+l'.length) * b≤140737488355328)
    (g:Pt cx X res outs k S (((i,{ v:=some (.own w 0 sz 0 (l++l').length),e:=some (d8 t sz enc (l++l')) })::r)::sc)
      (((l.length+l'.length) * b≤140737488355328)::(l.length=l.length)::(l7.row t sz (l.length+l'.length) (l.map enc++l'.map enc)=d8 t sz enc (l++l'))::(V.own w 0 sz 0 (l.length+l'.length) = .own w 0 sz 0 (l++l').length)::ps)):Pt cx X res outs k S (r::sc) ps :=
  ob (by simp) (ob (a1Q rfl rfl) (ob rfl (ob h (tl _ g))))
end
theorem sg (fs:List Fix) (keep:List Nat) (gs:List (Nat×Nat)) {k':List Item} {S':St} (h:b8 cx X res outs k' S') (hg:b3U cx k S (scO sc []) fs keep gs=some (k',S',psO ps []):=by kernel_rfl):Pt cx X res outs k S sc ps :=
  ⟨fun a=>b8.seg _ fs keep gs _ (c6Q a a0k.nil) h hg⟩
theorem x7 {a84:V} {b0u:List (Option V)} (hf:cx.P.funcs[X.f]?=some X.fn) (h:res=a84∧outs=b0u) (hg:a93 cx X k S (scO sc [])=some (a84,b0u,psO ps []):=by kernel_rfl):Pt cx X res outs k S sc ps :=
  ⟨fun a=>(b8.fin hf _ _ (c6Q a a0k.nil) hg).is h.1 h.2⟩
theorem fe {T:Type} {R:T→V} {O:T→List (Option V)} {r v:T} (hf:cx.P.funcs[X.f]?=some X.fn) (h:some v=some r) (hg:a93 cx X k S (scO sc [])=some (R v,O v,psO ps []):=by kernel_rfl):Pt cx X (R r) (O r) k S sc ps:=by
  injection h with h
  subst h
  exact x7 hf ⟨rfl,rfl⟩ hg
def HB (cx:Cx) (X:T4) (res:V) (outs:List (Option V)) {R B:Type} (x:b7 R B) (k:List Item) (S:B→St):Prop := ∀ s:B,x = .brk s→b8 cx X res outs k (S s)
def HR (res:V) (outs:List (Option V)) {R B:Type} (x:b7 R B) (fR:R→V) (fO:R→List (Option V)):Prop := ∀ v:R,x = .ret v→(res=fR v∧outs=fO v)
end
def G8 (n:Int):Prop := -9223372036854775808≤n∧n≤9223372036854775807
def v5 {α:Type} (bytes:Nat) (ok:α→Prop) (l:List α):Prop:=l.length * bytes≤140737488351232 ∧ ∀ x∈l,ok x
def okT {α:Type} (x:α):Prop:=True
def Old (w:World) (k:Nat):Prop:=k<w.heap.size
def a6B (P:Program) {α:Type} (t:TypeId) (enc:α→List V) (ok:α→Prop):Prop :=
  ∀ {H:Type} (ec:TypeId×Value→H) (w:World) (fuel:Nat) (cs:List Value) (x:DataW H×List MemPlace),DataW.trod ec P w 0 (fun _=>true) true fuel t cs=some x→(x.1.weights P t).all (· ≤ reachBytes)=true →
    ∃ y,FL w (Old w) (enc y) cs∧ok y
section
variable {P:Program} {α:Type} {t e:TypeId} {enc:α→List V} {ok:α→Prop}
def a3c (n:Int):Prop:=0≤n∧n≤255
theorem d2Q (ht:P.underlying t=some (.int .u8)):a6B P t (fun n:Int=>[.i .u8 n]) a3c:=by
  intro H ec w fuel cs x h _
  obtain ⟨n,rfl,rfl,hw⟩:=DataW.trod_int ht h
  refine ⟨n,.cons _ _ _ _ (.i _ _) .nil,?_⟩
  simp only [Lit.wf,Bool.and_eq_true,decide_eq_true_eq] at hw
  exact hw
theorem c6c {H:Type} {P:Program} {e:TypeId} {p:Nat→Bool} : ∀ {ds:List (DataW H)},(DataW.weightsAll P e ds).all p=true → ∀ d∈ds,(d.weights P e).all p=true
  | [],_,d,hd=>by cases hd
  | d0::ds,h,d,hd=>by
    rw [DataW.weightsAll,List.all_append,Bool.and_eq_true] at h
    rcases List.mem_cons.1 hd with rfl | hd
    · exact h.1
    · exact c6c h.2 d hd
theorem FL.flat {w:World} {F:Nat→Prop} (vs:Nat→List V) (cs:Nat→List Value) : ∀ n,(∀ i,i<n→FL w F (vs i) (cs i))→FL w F ((List.range n).flatMap vs) ((List.range n).flatMap cs)
  | 0,_=>.nil
  | n+1,h=>by
    rw [List.range_succ,List.flatMap_append,List.flatMap_append]
    refine FL.append (FL.flat vs cs n fun i hi=>h i (by omega)) ?_
    simpa using h n (by omega)
theorem b2w {sz:Nat} (cs:Nat→List Value) : ∀ n,(∀ i,i<n→(cs i).length=sz) → ∀ i,i<n → ∀ j,j<sz→((List.range n).flatMap cs)[i * sz+j]?=(cs i)[j]?∧((List.range n).flatMap cs).length=n * sz
  | 0,_,i,hi,_,_=>by omega
  | n+1,h,i,hi,j,hj=>by
    have hl:((List.range n).flatMap cs).length=n * sz:=by
      cases n with
      | zero=>simp
      | succ m=>exact (b2w cs (m+1) (fun i hi=>h i (by omega)) 0 (by omega) j hj).2
    rw [List.range_succ,List.flatMap_append]
    simp only [List.flatMap_cons,List.flatMap_nil,List.append_nil]
    constructor
    · by_cases hin:i<n
      · have:i * sz+j<n * sz:=by
          have:(i+1) * sz≤n * sz:=Nat.mul_le_mul_right _ hin
          rw [Nat.add_mul] at this
          omega
        rw [List.getElem?_append_left (by omega)]
        exact (b2w cs n (fun i hi=>h i (by omega)) i hin j hj).1
      · have:i=n:=by omega
        subst this
        rw [List.getElem?_append_right (by omega),hl]
        congr 1
        omega
    · rw [List.length_append,hl,h n (by omega),Nat.add_mul,Nat.one_mul]
theorem d6Y {β:Type} {n:Nat} {p:Nat→β→Prop} (d:β) (h : ∀ i,i<n → ∃ x,p i x) : ∃ f:Nat→β,∀ i,i<n→p i (f i):=by
  classical
  refine ⟨fun i=>if hi:i<n then (h i hi).choose else d,fun i hi => ?_⟩
  simp only [dif_pos hi]
  exact (h i hi).choose_spec
theorem d0X {sz bytes:Nat} (ht:P.underlying t=some (.slice e)) (he:a6B P e enc ok) (hsz:P.cellsOf e=sz) (h0:0<sz) (hb:P.bytesOf e=bytes) (hl : ∀ y,(enc y).length=sz):a6B P t (fun l:List α=>[a0 sz enc l]) (v5 bytes ok):=by
  intro H ec w fuel cs x h hw
  rcases DataW.trod_slice ht h with ⟨rfl,rfl⟩ | ⟨a,len,cap,elems,rest,n,_,rfl,rfl,hbs,hlc,hcm,hlen,hel,hsp,hns⟩
  · exact ⟨[],.cons _ _ _ _ (.sl0 sz none 0) .nil,by simp,by simp⟩
  simp only [DataW.weights,ht,List.all_cons,List.all_append,Bool.and_eq_true,decide_eq_true_eq,List.length_map] at hw
  obtain ⟨hw0,hw1,hw2⟩:=hw
  have hrest:rest.length=cap - len:=by
    cases hs:(fun _:Nat=>true) a.block with
    | true=>exact (hsp rfl).1
    | false=>cases hs
  have hlen2:len * bytes≤140737488351232:=by
    rw [hb] at hw0
    have:len * bytes≤(elems.length+rest.length) * bytes:=Nat.mul_le_mul_right _ (by omega)
    have h2:reachBytes=140737488351232:=rfl
    omega
  cases Nat.eq_zero_or_pos len with
  | inl hz =>
    subst hz
    exact ⟨[],.cons _ _ _ _ (.sl0 sz _ cap) .nil,by simp,by simp⟩
  | inr hpos =>
    have key : ∀ i,i<len → ∃ cy:List Value×α,w.cells? 0 (a.add (i * sz)) sz=some cy.1∧FL w (Old w) (enc cy.2) cy.1∧ok cy.2:=by
      intro i hi
      have h1:=hel i hi
      have hi':i<elems.length:=by omega
      rw [List.getElem?_eq_getElem hi',hsz] at h1
      obtain ⟨ci,h2,h3⟩:=Option.bind_eq_some_iff.1 h1
      obtain ⟨y,h4,h5⟩:=he ec w n ci _ h3 (c6c hw1 _ (List.mem_map.2 ⟨_,List.getElem_mem hi',rfl⟩))
      exact ⟨(ci,y),h2,h4,h5⟩
    obtain ⟨cy0,_⟩:=key 0 hpos
    obtain ⟨f,hf⟩:=d6Y cy0 key
    have hcl : ∀ i,i<len→(f i).1.length=sz:=fun i hi=>(World.cells?_some (hf i hi).1).2.1
    have hspot:a.spot=none:=by
      have:=(World.cells?_some (hf 0 hpos).1).2.2 0 h0
      rw [List.getElem?_eq_getElem (by rw [hcl 0 hpos]; exact h0)] at this
      have:=World.cell?_spot this
      simpa [Addr.add] using this
    have hold:Old w a.block:=by
      have:=(World.cells?_some (hf 0 hpos).1).2.2 0 h0
      rw [List.getElem?_eq_getElem (by rw [hcl 0 hpos]; exact h0)] at this
      unfold World.cell? at this
      unfold Old
      split at this
      · rename_i c _ _ hh
        simpa [Addr.add] using (Array.getElem?_eq_some_iff.1 hh).1
      · cases this
    refine ⟨(List.range len).map fun i=>(f i).2,?_,?_,?_⟩
    · have haddr:a=⟨a.block,a.off,none⟩:=by cases a; simp_all
      rw [show (Value.slice (some a) len cap) = .slice (some ⟨a.block,a.off,none⟩) len cap from by rw [← haddr]]
      refine .cons _ _ _ _ ?_ .nil
      unfold a0
      rw [List.length_map,List.length_range]
      refine .sl sz len _ _ _ cap ((List.range len).flatMap fun i=>(f i).1) hold ?_ ?_ ?_ hlc ?_
      · have:=FL.flat (w:=w) (F:=Old w) (fun i=>enc (f i).2) (fun i=>(f i).1) len fun i hi=>(hf i hi).2.1
        rw [List.map_map,← List.flatMap_def]
        exact this
      · simp
      · intro r hr
        rw [List.map_map] at hr
        obtain ⟨i,_,rfl⟩:=List.mem_map.1 hr
        exact hl _
      · intro j u hu
        have hlf:=(b2w (fun i=>(f i).1) len hcl 0 hpos 0 h0).2
        have hj:j<len * sz:=by
          have:=(List.getElem?_eq_some_iff.1 hu).1
          omega
        have hq:j / sz<len:=Nat.div_lt_of_lt_mul (by rw [Nat.mul_comm]; exact hj)
        have hr:j % sz<sz:=Nat.mod_lt _ h0
        have hjs:j=j / sz * sz+j % sz:=by rw [Nat.mul_comm]; exact (Nat.div_add_mod j sz).symm
        have hget:=(b2w (fun i=>(f i).1) len hcl _ hq _ hr).1
        rw [← hjs,hu] at hget
        have hcell:=(World.cells?_some (hf _ hq).1).2.2 _ hr
        rw [← hget] at hcell
        rw [← hcell]
        have hadd:(a.add (j / sz * sz)).add (j % sz)=a.add j:=by
          rw [show (a.add (j / sz * sz)).add (j % sz)=a.add (j / sz * sz+j % sz) from Go.Deep.add_add a _ _,← hjs]
        rw [hadd]
        congr 1
        unfold Addr.add
        split
        · rename_i h; subst h; exact haddr.symm
        · rfl
    · simpa using hlen2
    · intro y hy
      obtain ⟨i,hi,rfl⟩:=List.mem_map.1 hy
      exact (hf i (by simpa using hi)).2.2
section
variable {α':Type} {H:Type} {ec:TypeId×Value→H} {w:World} {base:Nat} {r:Reach} {v:Value} {d:DataW H} {p:List MemPlace}
theorem BA.of1 {F:Nat→Prop} {x:V} {c:Value} (h:FL w F [x] [c]):BA w F x c []:=by
  cases h with
  | cons _ _ _ _ h _=>exact .cell _ _ _ (.fv _ _ h)
theorem c0x {f:α→V} (ht:P.underlying t=some (.slice e)) (ho:a6B P t (fun y=>[f y]) ok) (hv:Value.okWide P w r base t v) (h:DataW.Trod ec P w 0 (fun _=>true) true t v d p) (hw:(d.weights P t).all (· ≤ reachBytes)=true) : ∃ y,BA w (Old w) (f y) v []∧ok y:=by
  obtain ⟨a,l,c,rfl⟩:=WideShapes.okWide_slice ht hv
  obtain ⟨fuel,hf⟩:=h
  obtain ⟨y,h1,h2⟩:=ho ec w fuel _ _ hf hw
  exact ⟨y,BA.of1 h1,h2⟩
end
theorem d3k {f:FuncId} {args:List V} {outs:List (Option V)} {vs:List Value} {W:World} (h:l8 P f args (.b true) outs) (hb:BS W (Old W) args vs []) :
    Calls P f vs.toArray W fun e W'=>e = .returned (.bool true)∧RowKit.Below W.heap.size W W':=by
  refine (h.2 W (Old W) vs [] hb List.nodup_nil (by simp) (fun k hk=>hk)).mono ?_
  rintro e W' ⟨c,F',fr,fo,rfl,hk,_,_,hr,_,_,_⟩
  refine ⟨?_,hk.os,hk.tape,hk.output,hk.size,fun k hk'=>hk.block k hk' (by simp)⟩
  cases hr with
  | one _ _ _ h =>
    cases h with
    | cell _ _ _ h =>
      cases h with
      | fv _ _ h=>cases h; rfl
end
def eI (x:Int):List V:=[vi x]
def E2 (x:Int):List V:=[.i .u8 x]
def eB (x:Bool):List V:=[.b x]
structure g9 where
  Who:Int
  Seq:Int
def w9 (x:g9):List V:=[vi x.Who,vi x.Seq]
structure n3 where
  Box:Int
  Ver:Int
def i4 (x:n3):List V:=[vi x.Box,vi x.Ver]
structure m4 where
  Box:Int
  Val:Int
def i0 (x:m4):List V:=[vi x.Box,vi x.Val]
structure i6 where
  Reads:List n3
  Puts:List m4
  Val:Int
  Code:Int
def L5 (x:i6):List V:=[a0 2 i4 x.Reads,a0 2 i0 x.Puts,vi x.Val,vi x.Code]
structure b5 where
  None:Bool
  Req:g9
  Run:i6
def i5 (x:b5):List V:=[.b x.None,vi x.Req.Who,vi x.Req.Seq,a0 2 i4 x.Run.Reads,a0 2 i0 x.Run.Puts,vi x.Run.Val,vi x.Run.Code]
structure c9 where
  b:List Int
  p:Int
def S8 (x:c9):List V:=[a0 1 E2 x.b,vi x.p]
structure g7 where
  Ver:Int
  Val:Int
def p8 (x:g7):List V:=[vi x.Ver,vi x.Val]
structure d9 where
  Req:g9
  Code:Int
  Val:Int
def s9 (x:d9):List V:=[vi x.Req.Who,vi x.Req.Seq,vi x.Code,vi x.Val]
structure j4 where
  At:Int
  Boxes:List g7
  Dones:List d9
def b0L (x:j4):List V:=[vi x.At,a0 2 p8 x.Boxes,a0 4 s9 x.Dones]
structure j6 where
  Kind:Int
  A:Int
  B:Int
  N:Int
def n6 (x:j6):List V:=[vi x.Kind,vi x.A,vi x.B,vi x.N]
structure d7 where
  Bal:Int
  Entry:b5
def i8 (x:d7):List V:=[vi x.Bal,.b x.Entry.None,vi x.Entry.Req.Who,vi x.Entry.Req.Seq,a0 2 i4 x.Entry.Run.Reads,a0 2 i0 x.Entry.Run.Puts,vi x.Entry.Run.Val,vi x.Entry.Run.Code]
structure s6 where
  Promised:Int
  Votes:List d7
def a4k (x:s6):List V:=[vi x.Promised,a0 8 i8 x.Votes]
structure a6 where
  Id:Int
  Acc:s6
  Known:List b5
  Seq:Int
  Phase:Int
  Bal:Int
  From:List Bool
  Best:List d7
  Cur:b5
  Votes:List Bool
  Busy:Bool
  Prog:List j6
  Want:b5
  Queue:List b5
def I4 (x:a6):List V:=[vi x.Id,vi x.Acc.Promised,a0 8 i8 x.Acc.Votes,a0 7 i5 x.Known,vi x.Seq,vi x.Phase,vi x.Bal,a0 1 eB x.From,a0 8 i8 x.Best,.b x.Cur.None,vi x.Cur.Req.Who,vi x.Cur.Req.Seq,a0 2 i4 x.Cur.Run.Reads,a0 2 i0 x.Cur.Run.Puts,vi x.Cur.Run.Val,vi x.Cur.Run.Code,a0 1 eB x.Votes,.b x.Busy,a0 4 n6 x.Prog,.b x.Want.None,vi x.Want.Req.Who,vi x.Want.Req.Seq,a0 2 i4 x.Want.Run.Reads,a0 2 i0 x.Want.Run.Puts,vi x.Want.Run.Val,vi x.Want.Run.Code,a0 7 i5 x.Queue]
structure a8 where
  Kind:Int
  From:Int
  To:Int
  Bal:Int
  Slot:Int
  Entry:b5
  Votes:List d7
def m9 (x:a8):List V:=[vi x.Kind,vi x.From,vi x.To,vi x.Bal,vi x.Slot,.b x.Entry.None,vi x.Entry.Req.Who,vi x.Entry.Req.Seq,a0 2 i4 x.Entry.Run.Reads,a0 2 i0 x.Entry.Run.Puts,vi x.Entry.Run.Val,vi x.Entry.Run.Code,a0 8 i8 x.Votes]
structure j9 where
  Req:g9
  Prog:List j6
def t6 (x:j9):List V:=[vi x.Req.Who,vi x.Req.Seq,a0 4 n6 x.Prog]
structure e9 where
  Node:Int
  Req:g9
  Code:Int
  Val:Int
def p6 (x:e9):List V:=[vi x.Node,vi x.Req.Who,vi x.Req.Seq,vi x.Code,vi x.Val]
structure f0 where
  Nodes:List a6
  Net:List a8
  Asked:List j9
  Told:List e9
def b3T (x:f0):List V:=[a0 27 I4 x.Nodes,a0 13 m9 x.Net,a0 3 t6 x.Asked,a0 5 p6 x.Told]
structure g8 where
  Kind:Int
  A:Int
  Prog:List j6
def H9 (x:g8):List V:=[vi x.Kind,vi x.A,a0 4 n6 x.Prog]
def n4 (x:a6):List V:=[vi x.Id,vi x.Acc.Promised,b9 157 8 i8 x.Acc.Votes,b9 34 7 i5 x.Known,vi x.Seq,vi x.Phase,vi x.Bal,b9 4 1 eB x.From,a0 8 i8 x.Best,.b x.Cur.None,vi x.Cur.Req.Who,vi x.Cur.Req.Seq,a0 2 i4 x.Cur.Run.Reads,a0 2 i0 x.Cur.Run.Puts,vi x.Cur.Run.Val,vi x.Cur.Run.Code,b9 4 1 eB x.Votes,.b x.Busy,a0 4 n6 x.Prog,.b x.Want.None,vi x.Want.Req.Who,vi x.Want.Req.Seq,a0 2 i4 x.Want.Run.Reads,a0 2 i0 x.Want.Run.Puts,vi x.Want.Run.Val,vi x.Want.Run.Code,b9 34 7 i5 x.Queue]
theorem a32 (x:a6) : ∀ v∈n4 x,v.isRef=false:=by simp [n4,V.isRef,vi,a0,b9,K6]
theorem a9f (x:a6):a1p (n4 x)=I4 x:=by simp [n4,I4,a1p,a5J,vi,a0,b9,K6]
def a0D (x:d7):List V:=[vi x.Bal,.b x.Entry.None,vi x.Entry.Req.Who,vi x.Entry.Req.Seq,b9 131 2 i4 x.Entry.Run.Reads,b9 133 2 i0 x.Entry.Run.Puts,vi x.Entry.Run.Val,vi x.Entry.Run.Code]
theorem d1n (x:d7):a1p (a0D x)=i8 x:=by simp [a0D,i8,a1p,a5J,vi,a0,b9,K6]
def W6:List (Option Nat):=[some 2,some 2,none,none]
def N3:List (Option Nat):=[none,none,none,some 2,some 2,none,none]
def a0m:List (Option Nat):=[some 27,some 13,some 3,some 5]
def K3:List (Option Nat):=[none,none,some 8,some 7,none,none,none,some 1,some 8,none,none,none,some 2,some 2,none,none,some 1,none,some 4,none,none,none,some 2,some 2,none,none,some 7]
def B4:List (Option Nat):=[none,none,none,none,none,none,none,none,some 2,some 2,none,none,some 8]
def a14:List (Option Nat):=[none,none,none,none,some 2,some 2,none,none]
theorem d1O (d:Nat) (w:World) (x0 x1 y0 y1:Int):(Op.equalIn (d+2) 28 (.agg #[.int .i64 x0,.int .i64 x1]) (.agg #[.int .i64 y0,.int .i64 y1])).run Tryz.prog w = .ok ((x0==y0)&&((x1==y1)&&true)) w:=by
  refine b9z Tryz.underlying28 Tryz.stoodInHeld28 ?_
  refine a7h (by rfl) (by first | (go_simp; done) | (go_simp; rfl)) (by first | (go_simp; done) | (go_simp; rfl)) (a8z Tryz.underlying3) ?_
  refine a7h (by rfl) (by first | (go_simp; done) | (go_simp; rfl)) (by first | (go_simp; done) | (go_simp; rfl)) (a8z Tryz.underlying3) ?_
  exact b53
theorem c9N (xs ys:List Int) (w:World) (hx:xs.length=2) (hy:ys.length=2):(Op.equal 28 (.agg (xs.map (Value.int .i64)).toArray) (.agg (ys.map (Value.int .i64)).toArray)).run Tryz.prog w = .ok (xs==ys) w:=by
  match xs,ys,hx,hy with
  | [x0,x1],[y0,y1],_,_ =>
    have h:=d1O 9998 w x0 x1 y0 y1
    have e:((x0==y0)&&((x1==y1)&&true))=([x0,x1]==([y0,y1]:List Int)):=by simp [Bool.and_assoc]
    rw [e] at h
    exact h
theorem c9B (d:Nat) (w:World) (x0 x1 y0 y1:Int):(Op.equalIn (d+2) 131 (.agg #[.int .i64 x0,.int .i64 x1]) (.agg #[.int .i64 y0,.int .i64 y1])).run Tryz.prog w = .ok ((x0==y0)&&((x1==y1)&&true)) w:=by
  refine b9z Tryz.underlying131 Tryz.stoodInHeld131 ?_
  refine a7h (by rfl) (by first | (go_simp; done) | (go_simp; rfl)) (by first | (go_simp; done) | (go_simp; rfl)) (a8z Tryz.underlying3) ?_
  refine a7h (by rfl) (by first | (go_simp; done) | (go_simp; rfl)) (by first | (go_simp; done) | (go_simp; rfl)) (a8z Tryz.underlying3) ?_
  exact b53
theorem d3L (xs ys:List Int) (w:World) (hx:xs.length=2) (hy:ys.length=2):(Op.equal 131 (.agg (xs.map (Value.int .i64)).toArray) (.agg (ys.map (Value.int .i64)).toArray)).run Tryz.prog w = .ok (xs==ys) w:=by
  match xs,ys,hx,hy with
  | [x0,x1],[y0,y1],_,_ =>
    have h:=c9B 9998 w x0 x1 y0 y1
    have e:((x0==y0)&&((x1==y1)&&true))=([x0,x1]==([y0,y1]:List Int)):=by simp [Bool.and_assoc]
    rw [e] at h
    exact h
theorem c9L (d:Nat) (w:World) (x0 x1 y0 y1:Int):(Op.equalIn (d+2) 133 (.agg #[.int .i64 x0,.int .i64 x1]) (.agg #[.int .i64 y0,.int .i64 y1])).run Tryz.prog w = .ok ((x0==y0)&&((x1==y1)&&true)) w:=by
  refine b9z Tryz.underlying133 Tryz.stoodInHeld133 ?_
  refine a7h (by rfl) (by first | (go_simp; done) | (go_simp; rfl)) (by first | (go_simp; done) | (go_simp; rfl)) (a8z Tryz.underlying3) ?_
  refine a7h (by rfl) (by first | (go_simp; done) | (go_simp; rfl)) (by first | (go_simp; done) | (go_simp; rfl)) (a8z Tryz.underlying3) ?_
  exact b53
theorem d4d (xs ys:List Int) (w:World) (hx:xs.length=2) (hy:ys.length=2):(Op.equal 133 (.agg (xs.map (Value.int .i64)).toArray) (.agg (ys.map (Value.int .i64)).toArray)).run Tryz.prog w = .ok (xs==ys) w:=by
  match xs,ys,hx,hy with
  | [x0,x1],[y0,y1],_,_ =>
    have h:=c9L 9998 w x0 x1 y0 y1
    have e:((x0==y0)&&((x1==y1)&&true))=([x0,x1]==([y0,y1]:List Int)):=by simp [Bool.and_assoc]
    rw [e] at h
    exact h
def ti3:TI:={ size:=1,bytes:=8,agg:=false,zero:=[vi 0],sl:=none,arr:=none,ik:=some .i64,fs:=none,str:=false,ptr:=none,bl:=false }
def ti4:TI:={ size:=1,bytes:=1,agg:=false,zero:=[.b false],sl:=none,arr:=none,ik:=none,fs:=none,str:=false,ptr:=none,bl:=true }
def ti5:TI:={ size:=1,bytes:=1,agg:=false,zero:=[.i .u8 0],sl:=none,arr:=none,ik:=some .u8,fs:=none,str:=false,ptr:=none,bl:=false }
def c8U:TI:={ size:=1,bytes:=24,agg:=false,zero:=[.nil],sl:=some 5,arr:=none,ik:=none,fs:=none,str:=false,ptr:=none,bl:=false }
def c06:TI:={ size:=1,bytes:=24,agg:=false,zero:=[.nil],sl:=some 34,arr:=none,ik:=none,fs:=none,str:=false,ptr:=none,bl:=false }
def c1L:TI:={ size:=1,bytes:=24,agg:=false,zero:=[.nil],sl:=some 28,arr:=none,ik:=none,fs:=none,str:=false,ptr:=none,bl:=false }
def b5c:TI:={ size:=2,bytes:=16,agg:=true,zero:=[vi 0,vi 0],sl:=none,arr:=none,ik:=none,fs:=some [(0,3),(1,3)],str:=false,ptr:=none,bl:=false }
def c5p:TI:={ size:=1,bytes:=24,agg:=false,zero:=[.nil],sl:=some 131,arr:=none,ik:=none,fs:=none,str:=false,ptr:=none,bl:=false }
def c5u:TI:={ size:=1,bytes:=24,agg:=false,zero:=[.nil],sl:=some 133,arr:=none,ik:=none,fs:=none,str:=false,ptr:=none,bl:=false }
def c3N:TI:={ size:=4,bytes:=64,agg:=true,zero:=[.nil,.nil,vi 0,vi 0],sl:=none,arr:=none,ik:=none,fs:=some [(0,29),(1,30),(2,3),(3,3)],str:=false,ptr:=none,bl:=false }
def c5q:TI:={ size:=7,bytes:=88,agg:=true,zero:=[.b false,vi 0,vi 0,.nil,.nil,vi 0,vi 0],sl:=none,arr:=none,ik:=none,fs:=some [(0,4),(1,28),(3,32)],str:=false,ptr:=none,bl:=false }
def c8o:TI:={ size:=1,bytes:=24,agg:=false,zero:=[.nil],sl:=some 74,arr:=none,ik:=none,fs:=none,str:=false,ptr:=none,bl:=false }
def c0K:TI:={ size:=1,bytes:=24,agg:=false,zero:=[.nil],sl:=some 103,arr:=none,ik:=none,fs:=none,str:=false,ptr:=none,bl:=false }
def c0O:TI:={ size:=1,bytes:=24,agg:=false,zero:=[.nil],sl:=some 105,arr:=none,ik:=none,fs:=none,str:=false,ptr:=none,bl:=false }
def c3f:TI:={ size:=1,bytes:=24,agg:=false,zero:=[.nil],sl:=some 109,arr:=none,ik:=none,fs:=none,str:=false,ptr:=none,bl:=false }
def c2L:TI:={ size:=4,bytes:=96,agg:=true,zero:=[.nil,.nil,.nil,.nil],sl:=none,arr:=none,ik:=none,fs:=some [(0,41),(1,42),(2,43),(3,44)],str:=false,ptr:=none,bl:=false }
def c6N:TI:={ size:=1,bytes:=24,agg:=false,zero:=[.nil],sl:=some 80,arr:=none,ik:=none,fs:=none,str:=false,ptr:=none,bl:=false }
def c09:TI:={ size:=1,bytes:=24,agg:=false,zero:=[.nil],sl:=some 127,arr:=none,ik:=none,fs:=none,str:=false,ptr:=none,bl:=false }
def c48:TI:={ size:=1,bytes:=24,agg:=false,zero:=[.nil],sl:=some 89,arr:=none,ik:=none,fs:=none,str:=false,ptr:=none,bl:=false }
def c2s:TI:={ size:=3,bytes:=56,agg:=true,zero:=[vi 0,.nil,.nil],sl:=none,arr:=none,ik:=none,fs:=some [(0,3),(1,52),(2,53)],str:=false,ptr:=none,bl:=false }
def c5O:TI:={ size:=1,bytes:=24,agg:=false,zero:=[.nil],sl:=some 3,arr:=none,ik:=none,fs:=none,str:=false,ptr:=none,bl:=false }
def c4e:TI:={ size:=2,bytes:=32,agg:=true,zero:=[.nil,vi 0],sl:=none,arr:=none,ik:=none,fs:=some [(0,22),(1,3)],str:=false,ptr:=none,bl:=false }
def c3i:TI:={ size:=1,bytes:=24,agg:=false,zero:=[.nil],sl:=some 157,arr:=none,ik:=none,fs:=none,str:=false,ptr:=none,bl:=false }
def c4S:TI:={ size:=2,bytes:=32,agg:=true,zero:=[vi 0,.nil],sl:=none,arr:=none,ik:=none,fs:=some [(0,3),(1,68)],str:=false,ptr:=none,bl:=false }
def c1a:TI:={ size:=1,bytes:=24,agg:=false,zero:=[.nil],sl:=some 4,arr:=none,ik:=none,fs:=none,str:=false,ptr:=none,bl:=false }
def c7R:TI:={ size:=1,bytes:=24,agg:=false,zero:=[.nil],sl:=some 121,arr:=none,ik:=none,fs:=none,str:=false,ptr:=none,bl:=false }
def c28:TI:={ size:=27,bytes:=392,agg:=true,zero:=[vi 0,vi 0,.nil,.nil,vi 0,vi 0,vi 0,.nil,.nil,.b false,vi 0,vi 0,.nil,.nil,vi 0,vi 0,.nil,.b false,.nil,.b false,vi 0,vi 0,.nil,.nil,vi 0,vi 0,.nil],sl:=none,arr:=none,ik:=none,fs:=some [(0,3),(1,70),(3,23),(4,3),(5,3),(6,3),(7,71),(8,68),(9,34),(16,71),(17,4),(18,72),(19,34),(26,23)],str:=false,ptr:=none,bl:=false }
def c0E:TI:={ size:=3,bytes:=40,agg:=true,zero:=[vi 0,vi 0,.nil],sl:=none,arr:=none,ik:=none,fs:=some [(0,3),(1,3),(2,72)],str:=false,ptr:=none,bl:=false }
def b7H:TI:={ size:=4,bytes:=32,agg:=true,zero:=[vi 0,vi 0,vi 0,vi 0],sl:=none,arr:=none,ik:=none,fs:=some [(0,28),(2,3),(3,3)],str:=false,ptr:=none,bl:=false }
def c1S:TI:={ size:=13,bytes:=152,agg:=true,zero:=[vi 0,vi 0,vi 0,vi 0,vi 0,.b false,vi 0,vi 0,.nil,.nil,vi 0,vi 0,.nil],sl:=none,arr:=none,ik:=none,fs:=some [(0,3),(1,3),(2,3),(3,3),(4,3),(5,34),(12,68)],str:=false,ptr:=none,bl:=false }
def c5L:TI:={ size:=3,bytes:=40,agg:=true,zero:=[vi 0,vi 0,.nil],sl:=none,arr:=none,ik:=none,fs:=some [(0,28),(2,72)],str:=false,ptr:=none,bl:=false }
def c1e:TI:={ size:=5,bytes:=40,agg:=true,zero:=[vi 0,vi 0,vi 0,vi 0,vi 0],sl:=none,arr:=none,ik:=none,fs:=some [(0,3),(1,28),(3,3),(4,3)],str:=false,ptr:=none,bl:=false }
def c0q:TI:={ size:=4,bytes:=32,agg:=true,zero:=[vi 0,vi 0,vi 0,vi 0],sl:=none,arr:=none,ik:=none,fs:=some [(0,3),(1,3),(2,3),(3,3)],str:=false,ptr:=none,bl:=false }
def a89:TI:={ size:=2,bytes:=16,agg:=true,zero:=[vi 0,vi 0],sl:=none,arr:=none,ik:=none,fs:=some [(0,3),(1,3)],str:=false,ptr:=none,bl:=false }
def c6R:TI:={ size:=2,bytes:=16,agg:=true,zero:=[vi 0,vi 0],sl:=none,arr:=none,ik:=none,fs:=some [(0,3),(1,3)],str:=false,ptr:=none,bl:=false }
def c7z:TI:={ size:=2,bytes:=16,agg:=true,zero:=[vi 0,vi 0],sl:=none,arr:=none,ik:=none,fs:=some [(0,3),(1,3)],str:=false,ptr:=none,bl:=false }
def c6y:TI:={ size:=4,bytes:=4,agg:=true,zero:=[.b false,.b false,.b false,.b false],sl:=none,arr:=some (4,4),ik:=none,fs:=none,str:=false,ptr:=none,bl:=false }
def b9H:TI:={ size:=8,bytes:=96,agg:=true,zero:=[vi 0,.b false,vi 0,vi 0,.nil,.nil,vi 0,vi 0],sl:=none,arr:=none,ik:=none,fs:=some [(0,3),(1,34)],str:=false,ptr:=none,bl:=false }
def b9u:List (Nat×TI):=[(3,ti3),(4,ti4),(5,ti5),(22,c8U),(23,c06),(25,c1L),(28,b5c),(29,c5p),(30,c5u),(32,c3N),(34,c5q),(41,c8o),(42,c0K),(43,c0O),(44,c3f),(46,c2L),(49,c6N),(52,c09),(53,c48),(55,c2s),(56,c5O),(64,c4e),(68,c3i),(70,c4S),(71,c1a),(72,c7R),(74,c28),(80,c0E),(89,b7H),(103,c1S),(105,c5L),(109,c1e),(121,c0q),(127,a89),(131,c6R),(133,c7z),(152,c6y),(157,b9H)]
end Go.Proofs.YtcnjppbopdpnjaaGreat
