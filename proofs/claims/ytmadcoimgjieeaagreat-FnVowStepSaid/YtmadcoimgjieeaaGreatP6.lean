/- What the law leans on, part 6. -/
import Derived.Test.YtmadcoimgjieeaaGreatP5
set_option linter.unusedVariables false
set_option linter.unusedSimpArgs false
set_option linter.unnecessarySimpa false
namespace Go.Proofs.YtmadcoimgjieeaaGreat
open Go
open Option renaming bind_some->f8M,getD_some->g0d
open List renaming getElem?_eq_getElem->f8N,replicate->f8O,mem_append->f8P,getElem_mem->f8Q,all_eq_true->f8S,mem_singleton->f8V,range->f8W,mem_cons->f8X,nodup_append->f8Z,length_append->f9a,eq_nil_of_length_eq_zero->f9b,mem_of_getElem?->f9c,getD_eq_getElem?_getD->f9d,take_length->f9e,length_take->f9g,getElem?_append_right->f9h,getElem?_set_ne->f9k,getElem?_append_left->f9l,getElem?_eq_none->f9m,getElem_of_mem->f9o,mem_map->f9w,append_nil->f9C,take_zero->f9D,any_eq_false->f9E,take_of_length_le->f9F,take_append_of_le_length->f9G,pairwise_iff_getElem->f9H,length_map->f9I,mem_replicate->f9J,findIdx?_eq_some_iff_getElem->f9L,nil_append->f9M,take_append_drop->f9O,mem_flatten->f9Q,getElem?_map->f9R,mem_of_mem_drop->f9S,mem_of_mem_take->f9T,mem_take_iff_getElem->f9U,length_cons->f9X,length_singleton->f9Y,getElem?_cons_zero->f9Z,getElem?_set_self->g0e,map_append->g0f,getElem?_cons_succ->g0h,length_set->g0n,any_eq_true->g0p,mem_append_left->g0s,getElem?_set->g0t,getElem?_drop->g0x,getElem?_take->g0y,length_nil->g0B,length_replicate->g0C,cons_append->g0M,getElem_map->g0O,set_getElem_self->g0Y,getElem?_append->g00,not_mem_nil->g01,mem_of_find?_eq_some->g07,find?_eq_none->g09
open Bool renaming and_eq_true->f8R,not_true->f8T,true_and->f8Y,not_eq_true'->f9v,or_eq_false_iff->g0c
open Nat renaming le_refl->f9f
open Int renaming le_refl->f9n,tmod->f9p,toNat_natCast->f9r,le_trans->f9N,tdiv->g0N
noncomputable section
section
variable {N:Int->j6} {V:VR} {P:PR} {M:MS} {i:Int}
theorem MV.other{m:l8}(h:m.a9=6\/m.a9=7\/m.a9=8):MV N V P m:=⟨fun k=>by omega,fun k=>by omega,fun k=>by omega,fun k=>by omega,fun k=>by omega⟩
theorem MV.c1{m:l8}(h:m.a9=1)(x:f9p m.a8 3=m.c9/\m.g8<=(N m.c9).a6.length):MV N V P m:=⟨fun _=>x,fun k=>by omega,fun k=>by omega,fun k=>by omega,fun k=>by omega⟩
theorem MV.c2{m:l8}(h:m.a9=2)(x:m.g8<=(N m.To).a6.length/\m.a8<=(N m.c9).Acc.i0/\(∀s b e,m.g8.toNat<=s->b<m.a8->V m.c9 s b e->∃v,m.a7[s-m.g8.toNat]?=some v/\b<=v.a8)/\∀k v,m.a7[k]?=some v->v.a8>0->v.a8<=m.a8/\V m.c9 (m.g8.toNat+k) v.a8 v.g9):MV N V P m:=⟨fun k=>by omega,fun _=>x,fun k=>by omega,fun k=>by omega,fun k=>by omega⟩
theorem MV.c3{m:l8}(h:m.a9=3)(x:P m.a8 m.g8.toNat m.g9):MV N V P m:=⟨fun k=>by omega,fun k=>by omega,fun _=>x,fun k=>by omega,fun k=>by omega⟩
theorem MV.c4{m:l8}(h:m.a9=4)(x:∃e,V m.c9 m.g8.toNat m.a8 e):MV N V P m:=⟨fun k=>by omega,fun k=>by omega,fun k=>by omega,fun _=>x,fun k=>by omega⟩
theorem MV.c5{m:l8}(h:m.a9=5)(x:a1M V m.g8.toNat m.g9):MV N V P m:=⟨fun k=>by omega,fun k=>by omega,fun k=>by omega,fun k=>by omega,fun _=>x⟩
def f2A(P:PR)(b:Int)(k:Nat)(e:m4):PR:=fun c s f=>P c s f\/(c=b/\s=k/\f=e)
theorem d4B{id q:Int}(hid:D3 id)(hq:D3 q)(h:(a1w id)[q.toNat]?=some true):q=id:=by
 unfold D3 at hid hq;obtain rfl|rfl|rfl:id=0\/id=1\/id=2:=by omega
 all_goals obtain rfl|rfl|rfl:q=0\/q=1\/q=2:=by omega
 all_goals first|rfl|(exact absurd h (by decide))
theorem PX.put(h:PX N V P M)(hi:D3 i)(hph:(N i).d6=2){q:List m4}{e:m4}(hn:a2J (N i) e){a:z0}(hc:L1 (N i).Acc (N i).a8 ((N i).a6.length:Int) e=some a)(hni:NI {N i with f0:=q,Acc:=a,d6:=3,c8:=e,a7:=a1w (N i).Id}):PX (upd N i {N i with f0:=q,Acc:=a,d6:=3,c8:=e,a7:=a1w (N i).Id}) (a9B V i (N i).a6.length (N i).a8 e) (f2A P (N i).a8 (N i).a6.length e) M:=by
 obtain ⟨k,hk0,hk,h1,h2,h3,h4,he,c1,c2⟩:=d0m h hi hc;obtain rfl:k=(N i).a6.length:=by omega
 obtain ⟨l1,l2⟩:=(h.ld i hi).l2 hph;have hown:=(h.ni i hi).1.ld.own (by omega);have hid:=(h.ni i hi).2;have hbs:=(h.ld i hi).bs (by omega);generalize hn':({N i with f0:=q,Acc:=a,d6:=3,c8:=e,a7:=a1w (N i).Id}:j6)=n' at hni⊢;have f1:n'.Acc=a:=by rw [<-hn']
 have f2:n'.a6=(N i).a6:=by rw [<-hn']
 have f3:n'.a8=(N i).a8:=by rw [<-hn']
 have f4:n'.i4=(N i).i4:=by rw [<-hn']
 have f5:n'.d6=3:=by rw [<-hn']
 have f6:n'.c8=e:=by rw [<-hn']
 have f7:n'.a7=a1w i:=by rw [<-hn'];exact congrArg a1w hid
 have f8:n'.Id=i:=by rw [<-hn'];exact hid
 have hpr:(N i).Acc.i0<=n'.Acc.i0:=by rw [f1,h4];exact h3
 have hcov:∀a,Cov N V (N i) a->Cov (upd N i n') (a9B V i (N i).a6.length (N i).a8 e) n' a:=fun a c=>by
  refine ⟨by rw [f3];exact f9N c.pr (a9w hpr a),?_⟩;rw [f2,f3,f4];exact fun s b f hs hb v=>c.cv s b f hs hb (c5U h3 c.pr hb v)
 have hsf:∀a,Cov N V (N i) a->Sf (upd N i n') (a9B V i (N i).a6.length (N i).a8 e) (N i).a8 (N i).a6.length e a:=fun a c=>by
  refine ⟨f9N c.pr (a9w hpr a),fun b' e' hb v => ?_⟩;have v:=c5U h3 c.pr hb v;obtain ⟨w,w1,w2⟩:=c.cv _ _ _ (f9f _) hb v;have hb1:=(h.vp _ _ _ _ v).2.2.1;have hw:w.a8>0:=by omega
  have hno:∀{p:Prop},(∀v∈(N i).i4.drop (N i).a6.length,¬v.a8>0)->p:=fun hn=>by
   refine absurd hw (hn w ?_);exact f9c (i:=0) (by rw [g0x];exact w1)
  cases hn with
  | best u hu hub=>
   rw [w1] at hu;injection hu with hu;subst hu;obtain ⟨y1,q1,y2⟩:=hbs _ _ w1 hw;exact ⟨w.a8,q1,w2,y1,.inl y2⟩
  | gap u hu hub hn=>exact absurd hw (hn w w1)
  | want hb hk hn=>exact hno hn
  | queue e he hk hn=>exact hno hn
 refine h.step hi ⟨hni,f8,hpr,by rw [f2];exact f9f _,fun _ _ _ _ v=>.inl v,fun q s c f v => ?_,fun _ _ _ p=>.inl p,fun b s f p => ?_,by rw [f1];exact c1,by rw [f1];exact c2,?_,by rw [f2];exact fun s e hk=>(h.kn i s e hi hk).mono fun _ _ _ _ v=>.inl v,fun m hm=>.inl hm⟩
 ·rcases v with v|⟨rfl,rfl,rfl,rfl⟩
  ·exact .inl v
  ·exact .inr ⟨rfl,h3,h1,by rw [f1,h4];exact f9n _,.inr ⟨rfl,rfl,rfl⟩⟩
 ·rcases p with p|⟨rfl,rfl,rfl⟩
  ·exact .inl p
  ·refine .inr ⟨f3.symm,f5,fun e' p' => ?_,l2.imp fun a _=>hsf a⟩;rcases p' with p'|⟨_,_,x⟩
   ·exact absurd (l1 _ _ p') (by omega)
   ·exact x
 ·refine ⟨fun _ => ?_,fun q=>by omega,fun q=>by omega,fun _ => ?_⟩
  ·rw [f3,f4];intro s v hs hv;obtain ⟨x1,q1,x2⟩:=hbs s v hs hv;exact ⟨x1,q1,.inl x2⟩
  ·rw [f2,f3,f6,f7];refine ⟨.inr ⟨rfl,rfl,rfl⟩,fun s f p => ?_,l2.imp fun a _=>hcov a,fun q hq hm => ?_⟩
   ·rcases p with p|⟨_,rfl,_⟩
    ·exact Nat.le_of_lt (l1 _ _ p)
    ·exact f9f _
   ·rw [d4B hi hq hm];exact .inr ⟨rfl,rfl,rfl,rfl⟩
theorem PX.queue(h:PX N V P M)(hi:D3 i){q:List m4}(hl:q.length<=4)(hm:∀e∈q,z4 e=true/\e.i7=false):PX (upd N i {N i with f0:=q}) V P M:=
 h.keep hi ((h.ni i hi).1.queue hl hm) (h.ni i hi).2 (f9n _) rfl rfl rfl rfl rfl rfl rfl rfl
theorem PX.propose(h:PX N V P M)(hi:D3 i):M1 N M i (N1 (N i)).1 (N1 (N i)).2:=by
 have hr:=a9E (h.ni i hi).1;unfold N1 at hr⊢;cases hc:(N i).d6 != 2||decide (40<=(N i).a6.length)
 case true=>exact .same h
 rw [hc] at hr;simp only [g1e] at hr⊢;simp only [g0c,bne_eq_false_iff_eq,decide_eq_false_iff_not] at hc;obtain ⟨q,hq,hql,hqm,hqe⟩:=b08 (N i);cases hx:a0F (N i) with
 | mk x o=>
 rw [hx] at hr hq hqe;have hq:x={N i with f0:=q}:=hq;subst hq;have hQ:PX (upd N i {N i with f0:=q}) V P M:=h.queue hi (by have:=(h.ni i hi).1.ql;omega) fun e he=>(h.ni i hi).1.qs e (hqm e he)
 cases o with
 | none=>exact ⟨V,P,by rw [a7U];exact hQ⟩
 | some e=>
  simp only [a54] at hr⊢;cases hcs:L1 (N i).Acc (N i).a8 ((N i).a6.length:Int) e with
  | none=>
   have:=hQ.down hi;rw [T0,a3H] at this;exact ⟨V,P,by rw [a7U];exact this⟩
  | some a=>
   rw [hcs] at hr;have hid:=(h.ni i hi).2;refine ⟨_,_,PX.send (h.put hi hc.1 (hqe e rfl) hcs hr.ni) fun m hm=>⟨hr.ms m hm,?_⟩⟩;obtain ⟨t,_,_,_,rfl⟩:=a4g (h.ni i hi).1.id hm;exact .c3 rfl (.inr ⟨rfl,rfl,rfl⟩)
theorem M1.then{n1 n2:j6}{l1 l2:List l8}(h1:M1 N M i n1 l1)(h2:∀V P,PX (upd N i n1) V P (snd M l1)->M1 (upd N i n1) (snd M l1) i n2 l2):M1 N M i n2 (l1++l2):=by
 obtain ⟨V1,P1,h1⟩:=h1;obtain ⟨V2,P2,h2⟩:=h2 V1 P1 h1;rw [a3H,d3l] at h2;exact ⟨V2,P2,h2⟩
theorem PX.learn(h:PX N V P M)(hi:D3 i){e:m4}(he:z4 e=true)(hl:(N i).a6.length<40)(hc:a1M V (N i).a6.length e):M1 N M i (X3 (N i) e).1 (X3 (N i) e).2.1:=by
 have h1:=h.know hi he hl hc;have h2:=h1.free hi;rw [T0,a3H] at h2;have h3:=h2.propose hi;rw [T0] at h3;obtain ⟨V',P',h3⟩:=h3;rw [a3H] at h3;exact ⟨V',P',h3⟩
theorem PX.rise(h:PX N V P M)(hi:D3 i):M1 N M i (Y6 (N i)).1 (Y6 (N i)).2:=by
 have hni:=(h.ni i hi).1;have hid:=(h.ni i hi).2;have hr:=a92 hni;unfold Y6 at hr⊢;cases hd:decide (M4 (N i).Acc.i0 (N i).Id<0);case true=>exact .same h
 rw [hd] at hr;simp only [g1e] at hr⊢;simp only [decide_eq_false_iff_not] at hd;rcases b8M hni.pr hni.id with q|⟨q1,q2,q3,q4⟩
 ·omega
 generalize M4 (N i).Acc.i0 (N i).Id=b at *;have hld:∀(n':j6),n'.d6=1->n'.a8=b->n'.a6=(N i).a6->n'.i4=(N i).Acc.a7->n'.c9=a1w i->n'.Acc.i0=b->LD (upd N i n') V P n':=by
  intro n' e1 e2 e3 e4 e5 e6;refine ⟨fun _ => ?_,fun _=>⟨?_,?_⟩,fun q=>by omega,fun q=>by omega⟩
  ·rw [e2,e4];intro s v hs hv;have hv':=h.cur i s v hi hs hv;exact ⟨by have:=(h.vp _ _ _ _ hv').2.2.2;omega,i,hv'⟩
  ·rw [e2];intro s e p;have:=(h.po _ _ _ p).2;rw [q4,hid] at this;omega
  ·rw [e5];intro q hq hm;rw [d4B hi hq hm];refine ⟨by rw [e2,T0,e6];exact f9n _,?_⟩;rw [e4];exact fun s b e _ _ v=>h.max i s b e v
 refine ⟨V,P,PX.send (h.quiet hi hr.ni (hr.id.trans hid) (Int.le_of_lt q1) rfl rfl (hld _ rfl rfl rfl rfl (by rw [hid]) rfl)) fun m hm=>⟨hr.ms m hm,?_⟩⟩;obtain ⟨t,_,_,_,rfl⟩:=a4g hni.id hm;refine .c1 rfl ⟨q4,?_⟩;simp only [hid,T0];exact f9n _
theorem d0N{l:List Bool}(hl:l.length=3)(h:N8 l=true):Quo fun q=>l[q.toNat]?=some true:=by
 match l,hl with
 | [a,b,c],_=>
  cases a<;>cases b<;>cases c<;>first|(exact absurd h (by decide))|exact ⟨0,1,by unfold D3;omega,by unfold D3;omega,by decide,rfl,rfl⟩|exact ⟨0,2,by unfold D3;omega,by unfold D3;omega,by decide,rfl,rfl⟩|exact ⟨1,2,by unfold D3;omega,by unfold D3;omega,by decide,rfl,rfl⟩
theorem d07{l:List Bool}{f q:Int}(hf:D3 f)(hq:D3 q)(h:(l.set f.toNat true)[q.toNat]?=some true):q=f\/l[q.toNat]?=some true:=by
 unfold D3 at hf hq;rw [g0t] at h;split at h
 ·left;omega
 ·exact .inr h
end
section
variable {N:Int->j6} {V:VR} {P:PR} {M:MS} {i:Int} {m:l8}
theorem M1.reply(h:PX N V P M){r:l8}(h1:MI r)(h2:r.a9=6\/r.a9=7\/r.a9=8):M1 N M i (N i) [r]:=
 ⟨V,P,by rw [a9g];exact h.send fun x hx=>by rw [f8V.1 hx];exact ⟨h1,.other h2⟩⟩
theorem PX.tPrepare(h:PX N V P M)(hi:D3 i)(hm:M m)(hto:m.To=i)(hk:m.a9=1):M1 N M i (a2b (N i) m).1 (a2b (N i) m).2:=by
 obtain ⟨mi,mv⟩:=h.ms m hm;obtain ⟨hni,hid⟩:=h.ni i hi;have hr:=d2S hni mi hk;unfold a2b at hr⊢;cases hp:I2 (N i).Acc m.a8 with
 | none=>
  rw [hp] at hr;exact .reply h (hr.ms _ (f8V.2 rfl)) (.inl rfl)
 | some x=>
  rw [hp] at hr;have h1:=(h.promise hi hp).yield hi m.a8;rw [T0,a3H] at h1;obtain ⟨rfl,b1,b2,b3⟩:=a3L hp;refine ⟨V,P,h1.send fun r hr'=>⟨hr.ms r hr',?_⟩⟩;rw [f8V.1 hr'];obtain ⟨s1,s2⟩:=mv.k1 hk;have hacc:(O0 {N i with Acc:=⟨m.a8,(N i).Acc.a7⟩} m.a8).Acc=⟨m.a8,(N i).Acc.a7⟩:=d2e _ _;have hne:m.c9≠i:=fun q=>mi.ne (by rw [q,hto])
  have hsl:=mi.sl;refine .c2 rfl ⟨?_,?_,?_,?_⟩
  ·show m.g8<=((upd N i _ m.c9).a6.length:Int)
   rw [b1u _ hne];exact s2
  ·show m.a8<=(upd N i _ m.To).Acc.i0
   rw [hto,T0,hacc];exact f9n _
  ·show ∀s b e,m.g8.toNat<=s->b<m.a8->V m.To s b e->∃v,((N i).Acc.a7.drop m.g8.toNat)[s-m.g8.toNat]?=some v/\b<=v.a8
   rw [hto];intro s b e hs _ v;obtain ⟨w,w1,w2⟩:=h.max _ _ _ _ v;exact ⟨w,by rw [g0x,show m.g8.toNat+(s-m.g8.toNat)=s by omega];exact w1,w2⟩
  ·show ∀k v,((N i).Acc.a7.drop m.g8.toNat)[k]?=some v->v.a8>0->v.a8<=m.a8/\V m.To (m.g8.toNat+k) v.a8 v.g9
   rw [hto];intro k v hk hv;rw [g0x] at hk;have hv':=h.cur i _ v hi hk hv;exact ⟨f9N (h.vp _ _ _ _ hv').2.2.2 b3,hv'⟩
theorem PX.tAccept(h:PX N V P M)(hi:D3 i)(hm:M m)(hto:m.To=i)(hk:m.a9=3):M1 N M i (a2g (N i) m).1 (a2g (N i) m).2:=by
 obtain ⟨mi,mv⟩:=h.ms m hm;obtain ⟨hni,hid⟩:=h.ni i hi;have hr:=d2L hni mi hk;unfold a2g at hr⊢;cases hp:L1 (N i).Acc m.a8 m.g8 m.g9 with
 | none=>
  rw [hp] at hr;exact .reply h (hr.ms _ (f8V.2 rfl)) (.inl rfl)
 | some x=>
  rw [hp] at hr;have h1:=(h.vote hi hp (mv.k3 hk)).yield hi m.a8;rw [T0,a3H] at h1;refine ⟨_,P,h1.send fun r hr'=>⟨hr.ms r hr',?_⟩⟩;rw [f8V.1 hr'];refine .c4 rfl ⟨m.g9,.inr ⟨hto,rfl,rfl,rfl⟩⟩
theorem c9D{a b:List m8}{s:Nat}{v:m8}(h:a[s]?=some v\/b[s]?=some v):∃w,(E0 a b)[s]?=some w/\v.a8<=w.a8:=by
 rw [b04];cases ha:a[s]? with
 | none=>
  rw [ha] at h;rcases h with h|h
  ·cases h
  ·rw [h];exact ⟨v,rfl,f9n _⟩
 | some x=>
  cases hb:b[s]? with
  | none=>
   rw [ha,hb] at h;rcases h with h|h
   ·injection h with h;subst h;exact ⟨x,rfl,f9n _⟩
   ·cases h
  | some y=>
   rw [ha,hb] at h;simp only;cases hd:decide (y.a8>x.a8)
   ·refine ⟨x,rfl,?_⟩;simp only [decide_eq_false_iff_not] at hd;rcases h with h|h
    ·injection h with h;subst h;exact f9n _
    ·injection h with h;subst h;omega
   ·refine ⟨y,rfl,?_⟩;simp only [decide_eq_true_eq] at hd;rcases h with h|h
    ·injection h with h;subst h;omega
    ·injection h with h;subst h;exact f9n _
theorem e3y{a b:List m8}{s:Nat}{w:m8}(h:(E0 a b)[s]?=some w):a[s]?=some w\/b[s]?=some w:=by
 rw [b04] at h;cases ha:a[s]? with
 | none=>
  rw [ha] at h;cases hb:b[s]? with
  | none=>rw [hb] at h;cases h
  | some y=>rw [hb] at h;exact .inr h
 | some x=>
  rw [ha] at h;cases hb:b[s]? with
  | none=>rw [hb] at h;exact .inl h
  | some y=>
   rw [hb] at h;simp only at h;cases hd:decide (y.a8>x.a8)
   ·rw [hd] at h;exact .inl h
   ·rw [hd] at h;exact .inr h
theorem d80{vs:List m8}{k s:Nat}{v:m8}(h:(f8O k v0++vs)[s]?=some v)(hv:v.a8>0):k<=s/\vs[s-k]?=some v:=by
 rw [g00] at h;split at h
 ·rw [List.getElem?_replicate] at h;split at h
  ·injection h with h;subst h;exact absurd hv (by decide)
  ·cases h
 ·rename_i hge;rw [g0C] at h hge;exact ⟨by omega,h⟩
theorem PX.tPromise(h:PX N V P M)(hi:D3 i)(hm:M m)(hto:m.To=i)(hk:m.a9=2):M1 N M i (a1P (N i) m).1 (a1P (N i) m).2:=by
 obtain ⟨mi,mv⟩:=h.ms m hm;obtain ⟨hni,hid⟩:=h.ni i hi;have hr:=c65 hni mi hk;have hsl:=mi.sl;have hfr:D3 m.c9:=mi.fr;obtain ⟨s1,s2,s3,s4⟩:=mv.k2 hk;rw [hto] at s1;unfold a1P at hr⊢;cases hc:(N i).d6 != 1||m.a8 != (N i).a8
 case true=>exact .same h
 rw [hc] at hr;simp only [g1e] at hr⊢;simp only [g0c,bne_eq_false_iff_eq] at hc;obtain ⟨hp1,hbal⟩:=hc;have hld:=h.ld i hi;obtain ⟨l1,l2⟩:=hld.l1 hp1;have hfl:(N i).c9.length=3:=by
  rcases hni.ld with q|q|q|q
  ·omega
  ·exact q.2.2.1
  all_goals exact absurd q.1 (by omega)
 have hkl:m.g8.toNat<=(N i).a6.length:=by omega
 have hbs:∀s v,(E0 (N i).i4 (f8O m.g8.toNat v0++m.a7))[s]?=some v->v.a8>0->v.a8<(N i).a8/\∃q,V q s v.a8 v.g9:=by
  intro s v hs hv;rcases e3y hs with q|q
  ·exact hld.bs (by omega) s v q hv
  ·obtain ⟨g1,g2⟩:=d80 q hv;obtain ⟨g3,g4⟩:=s4 _ v g2 hv;rw [show m.g8.toNat+(s-m.g8.toNat)=s by omega] at g4;refine ⟨?_,_,g4⟩;have hpp:=(h.vp _ _ _ _ g4).2.1;rcases Int.lt_or_le v.a8 (N i).a8 with q|q
   ·exact q
   ·exact absurd (show P (N i).a8 s v.g9 by rw [show (N i).a8=v.a8 by omega];exact hpp) (l1 _ _)
 have hcov:∀(n':j6),n'.Acc=(N i).Acc->n'.a8=(N i).a8->n'.a6=(N i).a6->n'.i4=E0 (N i).i4 (f8O m.g8.toNat v0++m.a7)->∀q,D3 q->((N i).c9.set m.c9.toNat true)[q.toNat]?=some true->Cov (upd N i n') V n' q:=by
  intro n' e0 e1 e2 e3 q hq hf;have hpr:∀q,(N q).Acc.i0<=(upd N i n' q).Acc.i0:=a9w (by rw [e0];exact f9n _)
  rcases d07 hfr hq hf with rfl|hf
  ·refine ⟨by rw [e1,<-hbal];exact f9N s2 (hpr _),?_⟩;rw [e1,e2,e3];intro s b e hs hb v;obtain ⟨w,w1,w2⟩:=s3 s b e (by omega) (by rw [hbal];exact hb) v;have hw:(f8O m.g8.toNat v0++m.a7)[s]?=some w:=by
    rw [f9h (by rw [g0C];omega),g0C];exact w1
   obtain ⟨u,u1,u2⟩:=c9D (a:=(N i).i4) (.inr hw);exact ⟨u,u1,by omega⟩
  ·have c:=l2 q hq hf;refine ⟨by rw [e1];exact f9N c.pr (hpr _),?_⟩;rw [e1,e2,e3];intro s b e hs hb v;obtain ⟨w,w1,w2⟩:=c.cv s b e hs hb v;obtain ⟨u,u1,u2⟩:=c9D (b:=f8O m.g8.toNat v0++m.a7) (.inl w1);exact ⟨u,u1,by omega⟩
 cases htw:N8 ((N i).c9.set m.c9.toNat true)
 ·rw [htw] at hr;simp only [g1e] at hr⊢;refine ⟨V,P,by rw [a7U];exact h.quiet hi hr.ni hid (f9n _) rfl rfl ⟨fun _=>hbs,fun _=>⟨l1,fun q hq hf=>hcov _ (by rfl) (by rfl) (by rfl) (by rfl) q hq hf⟩,fun q=>absurd (hp1.symm.trans q) (by decide),fun q=>absurd (hp1.symm.trans q) (by decide)⟩⟩
 ·simp only [g1d];have hq:=d0N (by rw [g0n];exact hfl) htw;have hown:=hni.ld.own (by omega);have hmv:m.a7.length<=40/\(∀v∈m.a7,VI v)/\m.g8+m.a7.length<=40:=by
   rcases mi.kd with q|q|q|q|q|q|q
   ·omega
   ·exact ⟨q.2.2.2.1.1,q.2.2.2.1.2,q.2.2.2.2⟩
   all_goals exact absurd q.1 (by omega)
  have hquiet:(N i).c8=zE/\(N i).a7=[]:=by
   rcases hni.ld with q|q|q|q
   ·omega
   ·exact ⟨q.2.2.2.2.1,q.2.2.2.2.2⟩
   all_goals exact absurd q.1 (by omega)
  have hni2:NI {N i with c9:=[],i4:=E0 (N i).i4 (f8O m.g8.toNat v0++m.a7),d6:=2}:=by
   refine ⟨hni.id,hni.pr,hni.vl,hni.vs,hni.kl,hni.ks,hni.sq,hni.ql,hni.qs,.inr (.inr (.inl ⟨rfl,⟨hown.b1,hown.b2,hown.mod,hown.pr,?_,?_⟩,rfl,hquiet.1,hquiet.2⟩)),hni.wt⟩
   ·have hbl:=hown.bl;show (E0 _ _).length<=40
    rw [a8h,f9a,g0C];omega
   ·intro v hv;rcases a9M hv with q|q
    ·exact hown.bs v q
    ·rcases f8P.1 q with q|q
     ·rw [(f9J.1 q).2];exact .inl rfl
     ·exact hmv.2.1 v q
  have h2:PX (upd N i {N i with c9:=[],i4:=E0 (N i).i4 (f8O m.g8.toNat v0++m.a7),d6:=2}) V P M:=
   h.quiet hi hni2 hid (f9n _) rfl rfl ⟨fun _=>hbs,fun q=>absurd (show (2:Int)=1 from q) (by decide),fun _=>⟨fun s e p=>absurd p (l1 s e),hq.imp fun q hq hf=>hcov _ (by rfl) (by rfl) (by rfl) (by rfl) q hq hf⟩,fun q=>absurd (show (2:Int)=3 from q) (by decide)⟩
  have h3:=h2.propose hi;rw [T0] at h3;obtain ⟨V',P',h3⟩:=h3;rw [a3H] at h3;exact ⟨V',P',h3⟩
theorem PX.tAccepted(h:PX N V P M)(hi:D3 i)(hm:M m)(hto:m.To=i)(hk:m.a9=4):M1 N M i (a2Q (N i) m).1 (a2Q (N i) m).2.1:=by
 obtain ⟨mi,mv⟩:=h.ms m hm;obtain ⟨hni,hid⟩:=h.ni i hi;have hr:=d8i hni mi;have hfr:D3 m.c9:=mi.fr;obtain ⟨e',ve⟩:=mv.k4 hk;unfold a2Q at hr⊢;cases hc:(N i).d6 != 3||(m.a8 != (N i).a8||m.g8 != ((N i).a6.length:Int))
 case true=>exact .same h
 rw [hc] at hr;simp only [g1e] at hr⊢;simp only [g0c,bne_eq_false_iff_eq] at hc;obtain ⟨hp3,hbal,hsl⟩:=hc;rw [hsl,hbal,f9r] at ve;have hld:=h.ld i hi;obtain ⟨l1,l2,l3,l4⟩:=hld.l3 hp3;have he':e'=(N i).c8:=h.pu _ _ _ _ (h.vp _ _ _ _ ve).2.1 l1;subst he';have hlead:Own (N i)/\(N i).c9=[]/\z4 (N i).c8=true/\(N i).a7.length=3/\(N i).a7[(N i).Id.toNat]?=some true/\(N i).a6.length<40:=by
  rcases hni.ld with q|q|q|q
  ·omega
  ·omega
  ·omega
  ·exact q.2
 obtain ⟨o1,o2,o3,o4,o5,o6⟩:=hlead;have hmk:∀q,D3 q->((N i).a7.set m.c9.toNat true)[q.toNat]?=some true->V q (N i).a6.length (N i).a8 (N i).c8:=by
  intro q hq hf;rcases d07 hfr hq hf with rfl|hf
  ·exact ve
  ·exact l4 q hq hf
 have hni2:NI {N i with a7:=(N i).a7.set m.c9.toNat true}:=
  ⟨hni.id,hni.pr,hni.vl,hni.vs,hni.kl,hni.ks,hni.sq,hni.ql,hni.qs,.inr (.inr (.inr ⟨hp3,o1,o2,o3,by simpa using o4,by
   show ((N i).a7.set m.c9.toNat true)[(N i).Id.toNat]?=some true
   rw [g0t];split
   ·rename_i hq;have:=hni.id;rw [if_pos (by omega)]
   ·exact o5,o6⟩)),hni.wt⟩
 have h2:PX (upd N i {N i with a7:=(N i).a7.set m.c9.toNat true}) V P M:=by
  refine h.quiet hi hni2 hid (f9n _) rfl rfl ⟨fun h0=>hld.bs h0,fun q=>absurd (hp3.symm.trans q) (by decide),fun q=>absurd (hp3.symm.trans q) (by decide),fun _=>⟨l1,l2,l3.imp fun a _ c=>⟨f9N c.pr (a9w (n':={N i with a7:=(N i).a7.set m.c9.toNat true}) (f9n _) a),c.cv⟩,hmk⟩⟩
 cases htw:N8 ((N i).a7.set m.c9.toNat true)
 ·simp only [g1e];exact ⟨V,P,by rw [a7U];exact h2⟩
 ·rw [htw] at hr;simp only [g1d] at hr⊢;have hq:=d0N (by rw [g0n];exact o4) htw;have hch:a1M V (N i).a6.length (N i).c8:=by
   obtain ⟨a,b,ha,hb,hab,x,y⟩:=hq;exact ⟨(N i).a8,a,b,ha,hb,hab,hmk a ha x,hmk b hb y⟩
  refine M1.then (n1:={N i with a7:=(N i).a7.set m.c9.toNat true}) ⟨V,P,h2.send fun x hx=>⟨hr.ms x (g0s _ hx),?_⟩⟩ fun V2 P2 hp => ?_
  ·obtain ⟨t,_,_,_,rfl⟩:=a4g hni.id hx;exact .c5 rfl hch
  ·have h3:PX (upd N i {N i with a7:=(N i).a7.set m.c9.toNat true}) V P (snd M (J1 (N i).Id ⟨5,0,0,0,((N i).a6.length:Int),(N i).c8,[]⟩)):=h2.send fun x hx=>⟨hr.ms x (g0s _ hx),by
    obtain ⟨t,_,_,_,rfl⟩:=a4g hni.id hx;exact .c5 rfl hch⟩
   have h4:=h3.learn hi (e:=(N i).c8) o3 (by rw [T0];exact o6) (by rw [T0];exact hch);rw [T0] at h4;exact h4
theorem PX.tChosen(h:PX N V P M)(hi:D3 i)(hm:M m)(hto:m.To=i)(hk:m.a9=5):M1 N M i (a2r (N i) m).1 (a2r (N i) m).2.1:=by
 obtain ⟨mi,mv⟩:=h.ms m hm;obtain ⟨hni,hid⟩:=h.ni i hi;have hr:=d62 hni mi hk;have hch:=mv.k5 hk;have hsl:=mi.sl;have hkd:m.g8<40/\z4 m.g9=true:=by
  rcases mi.kd with q|q|q|q|q|q|q
  ·omega
  ·omega
  ·omega
  ·exact ⟨q.2.2.1,q.2.2.2.1⟩
  all_goals exact absurd q.1 (by omega)
 unfold a2r at hr⊢;cases h1:decide (m.g8<((N i).a6.length:Int));case true=>exact .same h
 rw [h1] at hr;cases h2:decide (m.g8>((N i).a6.length:Int))
 ·simp only [g1e];simp only [decide_eq_false_iff_not] at h1 h2;refine h.learn hi hkd.2 (by omega) ?_;rw [show (N i).a6.length=m.g8.toNat by omega];exact hch
 ·rw [h2] at hr;simp only [g1e,g1d] at hr⊢;exact .reply h (hr.ms _ (f8V.2 rfl)) (.inr (.inr rfl))
theorem PX.tAsk(h:PX N V P M)(hi:D3 i)(hm:M m)(hto:m.To=i)(hk:m.a9=7):M1 N M i (a12 (N i) m).1 (a12 (N i) m).2:=by
 obtain ⟨mi,mv⟩:=h.ms m hm;obtain ⟨hni,hid⟩:=h.ni i hi;obtain ⟨e1,e2⟩:z4 m.g9=true/\m.g9.i7=false:=by
  rcases mi.kd with q|q|q|q|q|q|q
  ·omega
  ·omega
  ·omega
  ·omega
  ·omega
  ·exact ⟨q.2.2.2.1,q.2.2.2.2.1⟩
  ·omega
 unfold a12;cases hc:(N i).d6==0||(decide (4<=(N i).f0.length)||N9 (N i).a6 m.g9.a5)
 case true=>exact .same h
 simp only [g1e];simp only [g0c,decide_eq_false_iff_not] at hc;have h1:=h.queue hi (q:=(N i).f0++[m.g9]) (by rw [f9a,f9Y];omega) (by
  intro e he;rcases f8P.1 he with q|q
  ·exact hni.qs e q
  ·rw [f8V.1 q];exact ⟨e1,e2⟩)
 have h2:=h1.propose hi;rw [T0] at h2;obtain ⟨V',P',h2⟩:=h2;rw [a3H] at h2;exact ⟨V',P',h2⟩
theorem PX.tNeed(h:PX N V P M)(hi:D3 i)(hm:M m):M1 N M i (N i) (a4u (N i) m):=by
 obtain ⟨mi,mv⟩:=h.ms m hm;obtain ⟨hni,hid⟩:=h.ni i hi;have hr:=d8K hni mi;refine ⟨V,P,?_⟩;rw [a9g];refine h.send fun x hx=>⟨hr x hx,?_⟩
 unfold a4u at hx;obtain ⟨l,hl,hx⟩:=f9Q.1 hx;obtain ⟨j,hj,rfl⟩:=f9w.1 hl;unfold a1q at hx;cases hk:(N i).a6[m.g8.toNat+j]? with
 | none=>rw [hk] at hx;cases hx
 | some e=>
  rw [hk] at hx;rw [f8V.1 hx];refine .c5 rfl ?_;exact h.kn i _ e hi hk
theorem PX.tRefuse(h:PX N V P M)(hi:D3 i)(b:Int):M1 N M i (O0 {N i with Acc:=(I2 (N i).Acc b).getD (N i).Acc} b) []:=by
 refine ⟨V,P,?_⟩;rw [a7U];cases hp:I2 (N i).Acc b with
 | none=>exact h.yield hi b
 | some x=>
  have h1:=(h.promise hi hp).yield hi b;rw [T0,a3H] at h1;exact h1
theorem PX.take(h:PX N V P M)(hi:D3 i)(hm:M m)(hto:m.To=i):M1 N M i (X2 (N i) m).1 (X2 (N i) m).2.1:=by
 unfold X2;by_cases k1:m.a9=1
 ·rw [show (m.a9==1)=true by simpa using k1];exact h.tPrepare hi hm hto k1
 rw [show (m.a9==1)=false by simpa using k1];by_cases k2:m.a9=2
 ·rw [show (m.a9==2)=true by simpa using k2];exact h.tPromise hi hm hto k2
 rw [show (m.a9==2)=false by simpa using k2];by_cases k3:m.a9=3
 ·rw [show (m.a9==3)=true by simpa using k3];exact h.tAccept hi hm hto k3
 rw [show (m.a9==3)=false by simpa using k3];by_cases k4:m.a9=4
 ·rw [show (m.a9==4)=true by simpa using k4];exact h.tAccepted hi hm hto k4
 rw [show (m.a9==4)=false by simpa using k4];by_cases k5:m.a9=5
 ·rw [show (m.a9==5)=true by simpa using k5];exact h.tChosen hi hm hto k5
 rw [show (m.a9==5)=false by simpa using k5];by_cases k6:m.a9=6
 ·rw [show (m.a9==6)=true by simpa using k6];exact h.tRefuse hi m.a8
 rw [show (m.a9==6)=false by simpa using k6];by_cases k7:m.a9=7
 ·rw [show (m.a9==7)=true by simpa using k7];exact h.tAsk hi hm hto k7
 rw [show (m.a9==7)=false by simpa using k7];cases m.a9==8
 ·exact .same h
 ·exact h.tNeed hi hm
end
section
variable {N:Int->j6} {V:VR} {P:PR} {M:MS} {i:Int}
theorem M1.to{n1 n2:j6}{l:List l8}(h1:PX (upd N i n1) V P M)(h2:M1 (upd N i n1) M i n2 l):M1 N M i n2 l:=by
 obtain ⟨V',P',h2⟩:=h2;rw [a3H] at h2;exact ⟨V',P',h2⟩
theorem PX.ask(h:PX N V P M)(hi:D3 i){p:List n8}(hp:s7 p):M1 N M i (L3 (N i) p).1 (L3 (N i) p).2:=by
 obtain ⟨hni,hid⟩:=h.ni i hi;have hr:=b0G hni hp;rw [a2u] at hr⊢;cases hc:L9 (N i) p;case false=>exact .same h
 rw [hc] at hr;have hn:=hni.asked hp hc;have h1:PX (upd N i (Q1 (N i) p)) V P M:=h.keep hi hn hid (f9n _) rfl rfl rfl rfl rfl rfl rfl rfl;simp only [g1d] at hr⊢;cases h2:(N i).d6==2
 ·rw [h2] at hr;simp only [g1e] at hr⊢;refine .to h1 ⟨V,P,?_⟩;rw [a3H];refine h1.send fun x hx=>⟨hr.ms x hx,?_⟩
  cases h0:(N i).d6==0
  ·rw [h0] at hx;cases hx
  ·rw [h0] at hx;obtain ⟨t,_,_,_,rfl⟩:=a4g hni.id hx;exact .other (.inr (.inl rfl))
 ·simp only [g1d];have h3:=h1.propose hi;rw [T0] at h3;exact .to h1 h3
theorem PX.retry(h:PX N V P M)(hi:D3 i):M1 N M i (W5 (N i)).1 (W5 (N i)).2:=by
 obtain ⟨hni,hid⟩:=h.ni i hi;have hr:=b07 hni;have hneed:∀x∈J1 (N i).Id ⟨8,0,0,0,((N i).a6.length:Int),zE,[]⟩,MV N V P x:=fun x hx=>by
  obtain ⟨t,_,_,_,rfl⟩:=a4g hni.id hx;exact .other (.inr (.inr rfl))
 have go:∀{l:List l8},(∀x∈J1 (N i).Id ⟨8,0,0,0,((N i).a6.length:Int),zE,[]⟩++l,MI x)->(∀x∈l,MV N V P x)->M1 N M i (N i) (J1 (N i).Id ⟨8,0,0,0,((N i).a6.length:Int),zE,[]⟩++l):=fun {l} hm hv=>
  ⟨V,P,by rw [a9g];exact h.send fun x hx=>⟨hm x hx,(f8P.1 hx).elim (hneed x) (hv x)⟩⟩
 unfold W5 at hr⊢;by_cases h1:(N i).d6=1
 ·rw [show ((N i).d6==1)=true by simpa using h1] at hr⊢;refine go hr.ms fun x hx => ?_
  obtain ⟨t,_,_,_,rfl⟩:=a4g hni.id hx;exact .c1 rfl ⟨(hni.ld.own (by omega)).mod,by show _<=((N (N i).Id).a6.length:Int);rw [hid];exact f9n _⟩
 rw [show ((N i).d6==1)=false by simpa using h1] at hr⊢;by_cases h2:(N i).d6=2
 ·rw [show ((N i).d6==2)=true by simpa using h2] at hr⊢;simp only [g1d,g1e] at hr⊢;have hs:PX N V P (snd M (J1 (N i).Id ⟨8,0,0,0,((N i).a6.length:Int),zE,[]⟩)):=h.send fun x hx=>⟨hr.ms x (g0s _ hx),hneed x hx⟩
  obtain ⟨V',P',h3⟩:=hs.propose hi;rw [d3l] at h3;exact ⟨V',P',h3⟩
 rw [show ((N i).d6==2)=false by simpa using h2] at hr⊢;by_cases h3:(N i).d6=3
 ·rw [show ((N i).d6==3)=true by simpa using h3] at hr⊢;refine go hr.ms fun x hx => ?_
  obtain ⟨t,_,_,_,rfl⟩:=a4g hni.id hx;exact .c3 rfl ((h.ld i hi).l3 h3).1
 rw [show ((N i).d6==3)=false by simpa using h3] at hr⊢;cases hb:(N i).i9
 ·rw [hb] at hr;refine ⟨V,P,?_⟩;show PX (upd N i (N i)) V P _
  rw [a9g];exact h.send fun x hx=>⟨hr.ms x hx,hneed x hx⟩
 ·rw [hb] at hr;refine go hr.ms fun x hx => ?_
  obtain ⟨t,_,_,_,rfl⟩:=a4g hni.id hx;exact .other (.inr (.inl rfl))
theorem PX.fall(h:PX N V P M)(hi:D3 i):M1 N M i (a1e (N i)) []:=
 ⟨V,P,by rw [a7U];exact h.quiet hi (h.ni i hi).1.fall (h.ni i hi).2 (f9n _) rfl rfl (.none rfl)⟩
end
def u9(w:m5)(j:Int):j6:=if 0<=j/\j<=2 then I3 w j else D1 0
def PW(w:m5):Prop := ∃V P M,PX (u9 w) V P M/\∀m∈w.d7,M m
theorem a2v{w:m5}{j:Int}(h:D3 j):u9 w j=I3 w j:=if_pos h
theorem f6n{w w':m5}(h:w'.a0=w.a0):u9 w'=u9 w:=by
 funext j;unfold u9 I3;rw [h]
theorem e0T{w:m5}(h:WI w){i:Nat}(hi:i<3)(n:j6){w':m5}(hw:w'.a0=w.a0.set i n):u9 w'=upd (u9 w) (i:Int) n:=by
 have hl:=h.nl;funext j
 unfold u9 upd I3;rw [hw];show _=if j=(i:Int) then n else if 0<=j/\j<=2 then w.a0.getD j.toNat (D1 0) else D1 0
 by_cases hj:0<=j/\j<=2
 ·rw [if_pos hj,if_pos hj];by_cases q:j=(i:Int)
  ·subst q;rw [if_pos rfl,f9r,f9d,g0e (by omega)];rfl
  ·rw [if_neg q,f9d,f9k (by omega),<-f9d]
 ·rw [if_neg hj,if_neg hj,if_neg (by omega)]
theorem PW.put{w w':m5}(h:WI w){i:Nat}(hi:i<3){n':j6}{l:List l8}{V:VR}{P:PR}{M:MS}(hM:∀m∈w.d7,M m)(hg:M1 (u9 w) M (i:Int) n' l)(hn:w'.a0=w.a0.set i n')(hm:∀m∈w'.d7,m∈w.d7\/m∈l):PW w':=by
 obtain ⟨V',P',h'⟩:=hg;refine ⟨V',P',_,by rw [e0T h hi n' hn];exact h',fun m hm' => ?_⟩;exact (hm m hm').imp (hM m) id
theorem PW.less{w w':m5}(h:PW w)(hn:w'.a0=w.a0)(hm:∀m∈w'.d7,m∈w.d7):PW w':=by
 obtain ⟨V,P,M,h1,h2⟩:=h;exact ⟨V,P,M,by rw [f6n hn];exact h1,fun m q=>h2 m (hm m q)⟩
theorem a2M{w:m5}{l:List l8}{m:l8}(h:m∈(a0Q w l).d7):m∈w.d7\/m∈l:=
 (f8P.1 h).imp id f9T
theorem b98{w:m5}{i:Int}{m:l8}(h:m∈(a3d w i).d7):m∈w.d7:=
 (f8P.1 h).elim f9T f9S
theorem d9H{w:m5}(h:WI w)(hp:PW w){e:s5}(he:N4 e):PW (E5 w e):=by
 obtain ⟨V,P,M,h1,hM⟩:=hp;have hp:PW w:=⟨V,P,M,h1,hM⟩
 unfold E5;cases hk:e.a9==2||(e.a9==3||e.a9==4)
 ·simp only [g1e];cases hA:p9 e.A 0 2
  ·exact hp
  simp only [f8T,g1e];rw [I0] at hA;obtain ⟨i,hi⟩:∃i:Nat,e.A=(i:Int):=⟨e.A.toNat,by omega⟩
  have hi3:i<3:=by omega
  have hD:D3 (i:Int):=by unfold D3;omega
  rw [hi];have hN:u9 w (i:Int)=I3 w (i:Int):=a2v hD;cases e.a9==1
  ·cases e.a9==5
   ·cases e.a9==6
    ·cases e.a9==7
     ·exact hp
     ·have hg:=h1.fall hD;rw [hN] at hg;exact PW.put (V:=V) (P:=P) h hi3 hM hg rfl fun m hm=>.inl hm
    ·have hg:=h1.retry hD;rw [hN] at hg;exact PW.put (V:=V) (P:=P) h hi3 hM hg rfl fun m hm=>a2M (w:=O5 w _ _) hm
   ·have hg:=h1.rise hD;rw [hN] at hg;exact PW.put (V:=V) (P:=P) h hi3 hM hg rfl fun m hm=>a2M (w:=O5 w _ _) hm
  ·simp only [g1d];unfold a3S;cases decide (60<=w.d9.length)
   ·have hg:=h1.ask hD (A2.fits he (by decide));rw [hN] at hg;simp only [g1e];cases decide ((L3 (I3 w (i:Int)) e.i6).1.Seq>(I3 w (i:Int)).Seq)
    ·exact PW.put (V:=V) (P:=P) h hi3 hM hg rfl fun m hm=>a2M (w:=O5 w _ _) hm
    ·exact PW.put (V:=V) (P:=P) h hi3 hM hg rfl fun m hm=>a2M (w:=O5 {w with d9:=w.d9++[_]} _ _) hm
   ·exact hp
 ·simp only [g1d];unfold a1a;cases hA:decide (0<=e.A)
  ·exact hp
  simp only [g1d];cases hm:w.d7[e.A.toNat]? with
  | none=>exact hp
  | some m=>
   have hmem:=f9c hm;simp only;cases e.a9==4
   ·cases e.a9==3
    ·simp only [g1e];have hmi:=(h1.ms m (hM m hmem)).1;have hto:=hmi.to;obtain ⟨t,htt⟩:∃t:Nat,m.To=(t:Int):=⟨m.To.toNat,by omega⟩
     have hD:D3 (t:Int):=by unfold D3;omega
     have hN:u9 w (t:Int)=I3 w (t:Int):=a2v hD;have hg:=h1.take hD (hM m hmem) htt;rw [hN] at hg;rw [htt];exact PW.put (V:=V) (P:=P) h (show t<3 by omega) hM hg rfl fun x hx=>(a2M (w:=O5 (a3d w e.A) _ _) hx).imp (fun q=>b98 q) id
    ·exact hp.less rfl fun x hx=>b98 hx
   ·exact hp.less rfl fun x hx=>(a2M hx).elim id fun q=>by rw [f8V.1 q];exact hmem
theorem f3J:PW Q9:=by
 have hn:∀j,D3 j->u9 Q9 j=D1 j:=fun j hj=>by
  rw [a2v hj];unfold D3 at hj;obtain rfl|rfl|rfl:j=0\/j=1\/j=2:=by omega
  all_goals rfl
 refine ⟨fun _ _ _ _=>False,fun _ _ _=>False,fun _=>False,⟨fun i hi => ?_,fun _ _ _ _ v=>v.elim,fun i s v hi hs _ => ?_,fun _ _ _ _ v=>v.elim,fun _ _ _ _ p=>p.elim,fun _ _ _ p=>p.elim,fun _ _ _ p=>p.elim,fun i hi => ?_,fun i s e hi hk => ?_,fun _ hm=>hm.elim⟩,fun m hm=>by cases hm⟩
 ·rw [hn i hi];exact ⟨NI.open hi,rfl⟩
 ·rw [hn i hi] at hs;simp [D1] at hs
 ·rw [hn i hi];exact .none rfl
 ·rw [hn i hi] at hk;simp [D1] at hk
structure ND(L:m4->Prop)(n:j6):Prop where
 kn:∀e∈n.a6,L e
 av:∀v∈n.Acc.a7,v.a8>0->L v.g9
 bv:∀v∈n.i4,v.a8>0->L v.g9
 cu:n.d6=3->L n.c8
 wt:n.i9=true->L n.b8
 qu:∀e∈n.f0,L e
structure ML(L:m4->Prop)(m:l8):Prop where
 en:m.a9=3\/m.a9=5\/m.a9=7->L m.g9
 vs:∀v∈m.a7,v.a8>0->L v.g9
def TO(n x:j6)(ts:List n6):Prop:=ts=[]\/(n.i9=true/\x.i9=false/\∃k,x.a6.findIdx? (D6 n.b8.a5)=some k/\ts=[⟨n.Id,n.b8.a5,L0 x.a6 k,bif L0 x.a6 k==0 then R1 x.a6 n.b8.a5 else 0⟩])
structure Act(L:m4->Prop)(n x:j6)(l:List l8)(ts:List n6):Prop where
 id:x.Id=n.Id
 sq:x.Seq=n.Seq
 kn:∃t,x.a6=n.a6++t
 bw:(x.i9=n.i9/\x.b8=n.b8)\/x.i9=false
 nd:ND L x
 ml:∀m∈l,ML L m
 to:TO n x ts
section
variable {L:m4->Prop} {n:j6} {m:l8}
theorem Act.same(h:ND L n):Act L n n [] []:=⟨rfl,rfl,⟨[],by simp⟩,.inl ⟨rfl,rfl⟩,h,by simp,.inl rfl⟩
theorem Act.of{x:j6}{l:List l8}(e1:x.Id=n.Id)(e2:x.Seq=n.Seq)(e3:x.a6=n.a6)(e4:x.i9=n.i9)(e5:x.b8=n.b8)(h:ND L x)(hm:∀m∈l,ML L m):Act L n x l []:=
 ⟨e1,e2,⟨[],by rw [e3];simp⟩,.inl ⟨e4,e5⟩,h,hm,.inl rfl⟩
theorem ML.plain(h1:m.a9≠3)(h2:m.a9≠5)(h3:m.a9≠7)(hv:m.a7=[]):ML L m:=⟨fun h=>by omega,by rw [hv];simp⟩
theorem ML.has(hv:m.a7=[])(h:L m.g9):ML L m:=⟨fun _=>h,by rw [hv];simp⟩
theorem ML.all{id:Int}{x:l8}(h:ML L m)(hx:x∈J1 id m):ML L x:=by
 unfold J1 at hx;obtain ⟨t,_,rfl⟩:=f9w.1 hx;exact ⟨h.en,h.vs⟩
theorem ND.down(h:ND L n):ND L (a3R n):=⟨h.kn,h.av,by simp [a3R],fun q=>absurd (show (0:Int)=3 from q) (by decide),h.wt,h.qu⟩
theorem ND.yield(h:ND L n)(b:Int):ND L (O0 n b):=by
 unfold O0;cases n.d6 != 0&&decide (b>n.a8)
 ·exact h
 ·exact h.down
theorem c4Z(n:j6)(b:Int):(O0 n b).Seq=n.Seq/\(O0 n b).a6=n.a6/\(O0 n b).i9=n.i9/\(O0 n b).b8=n.b8:=by
 unfold O0;cases n.d6 != 0&&decide (b>n.a8)<;>exact ⟨rfl,rfl,rfl,rfl⟩
theorem ND.next(h:ND L n)(h0:L eN){e:m4}(hn:a2J n e):L e:=by
 cases hn with
 | best v hv hb=>exact h.bv v (f9c hv) hb
 | gap=>exact h0
 | want hb=>exact h.wt hb
 | queue e he=>exact h.qu e he
theorem d6b{a x:z0}{b s:Int}{e:m4}(hc:L1 a b s e=some x)(h:∀v∈a.a7,v.a8>0->L v.g9)(he:L e):∀v∈x.a7,v.a8>0->L v.g9:=by
 obtain ⟨k,rfl,_,_,_,_,_,rfl⟩:=b6x hc;intro v hv hb;rcases d6U hv with q|q
 ·rcases c2v q with q|q
  ·exact h v q hb
  ·rw [q] at hb;exact absurd hb (by decide)
 ·rw [q];exact he
theorem Act.propose(h:ND L n)(h0:L eN):Act L n (N1 n).1 (N1 n).2 []:=by
 unfold N1;cases n.d6 != 2||decide (40<=n.a6.length)
 case true=>exact .same h
 simp only [g1e];obtain ⟨q,hq,hql,hqm,hqe⟩:=b08 n;cases hx:a0F n with
 | mk x o=>
 rw [hx] at hq hqe;have hq:x={n with f0:=q}:=hq;subst hq;have hQ:ND L {n with f0:=q}:=⟨h.kn,h.av,h.bv,h.cu,h.wt,fun e he=>h.qu e (hqm e he)⟩
 cases o with
 | none=>exact .of rfl rfl rfl rfl rfl hQ (by simp)
 | some e=>
  have he:=h.next h0 (hqe e rfl);simp only [a54];cases hc:L1 n.Acc n.a8 (n.a6.length:Int) e with
  | none=>exact .of rfl rfl rfl rfl rfl hQ.down (by simp)
  | some a=>exact .of rfl rfl rfl rfl rfl ⟨h.kn,d6b hc h.av he,h.bv,fun _=>he,h.wt,hQ.qu⟩ fun m hm=>(ML.has rfl he).all hm
theorem Act.thenP{a:j6}{l:List l8}{ts:List n6}(h:Act L n a l ts)(h0:L eN):Act L n (N1 a).1 (l++(N1 a).2) ts:=by
 have hp:=Act.propose h.nd h0;have hk:=b73 a;obtain ⟨t,ht⟩:=h.kn;refine ⟨hk.id.trans h.id,hk.seq.trans h.sq,⟨t,hk.known.trans ht⟩,h.bw.imp (fun q=>⟨hk.busy.trans q.1,hk.want.trans q.2⟩) fun q=>hk.busy.trans q,hp.nd,fun m hm=>(f8P.1 hm).elim (h.ml m) (hp.ml m),?_⟩;unfold TO;rw [hk.known,hk.busy];exact h.to
theorem Act.know{e:m4}(h:ND L n)(he:L e):Act L n (U6 (E2 n e)).1 [] (U6 (E2 n e)).2:=by
 have k1:(E2 n e).Id=n.Id:=b87 n e;have k2:(E2 n e).Seq=n.Seq:=by unfold E2;cases n.d6==3<;>rfl
 have k3:(E2 n e).a6=n.a6++[e]:=c51 n e;have k4:(E2 n e).i9=n.i9/\(E2 n e).b8=n.b8:=by unfold E2;cases n.d6==3<;>exact ⟨rfl,rfl⟩
 have kk:∀x∈n.a6++[e],L x:=fun x hx=>(f8P.1 hx).elim (h.kn x) fun q=>by rw [f8V.1 q];exact he
 have hnd:ND L (E2 n e):=by
  unfold E2;cases hp:n.d6==3
  ·exact ⟨kk,h.av,h.bv,h.cu,h.wt,h.qu⟩
  ·exact ⟨kk,h.av,h.bv,fun q=>absurd (show (2:Int)=3 from q) (by decide),h.wt,h.qu⟩
 rcases a9F (E2 n e) with q|⟨k,q1,q2,q⟩<;>rw [q]
 ·exact ⟨k1,k2,⟨[e],k3⟩,.inl k4,hnd,by simp,.inl rfl⟩
 ·refine ⟨k1,k2,⟨[e],k3⟩,.inr rfl,⟨hnd.kn,hnd.av,hnd.bv,hnd.cu,fun q=>(by cases q),hnd.qu⟩,by simp,.inr ⟨by rw [<-k4.1];exact q1,rfl,k,by rw [<-k4.2];exact q2,?_⟩⟩;rw [<-k4.2,<-k1];rfl
theorem Act.learn{e:m4}(h:ND L n)(h0:L eN)(he:L e):Act L n (X3 n e).1 (X3 n e).2.1 (X3 n e).2.2:=by
 have:=(Act.know h he).thenP h0;rw [f9M] at this;exact this
theorem e5z{α:Type}{l:List α}{k:Nat}{x:α}(h:x∈l.drop k):x∈l:=f9S h
theorem Act.take(h:ND L n)(h0:L eN)(hm:ML L m)(hmi:MI m):Act L n (X2 n m).1 (X2 n m).2.1 (X2 n m).2.2:=by
 unfold X2;by_cases k1:m.a9=1
 ·rw [show (m.a9==1)=true by simpa using k1];simp only [g1d];unfold a2b;cases hp:I2 n.Acc m.a8 with
  | none=>exact .of rfl rfl rfl rfl rfl h fun x hx=>by rw [f8V.1 hx];exact .plain (by simp [M8]) (by simp [M8]) (by simp [M8]) rfl
  | some a=>
   obtain ⟨rfl,_⟩:=a3L hp;obtain ⟨y1,y2,y3,y4⟩:=c4Z {n with Acc:=⟨m.a8,n.Acc.a7⟩} m.a8;have hg:ND L {n with Acc:=⟨m.a8,n.Acc.a7⟩}:=⟨h.kn,h.av,h.bv,h.cu,h.wt,h.qu⟩
   refine .of (a6c _ _) y1 y2 y3 y4 (hg.yield _) fun x hx => ?_
   rw [f8V.1 hx];exact ⟨fun q=>by simp [M8] at q,fun v hv=>h.av v (e5z hv)⟩
 rw [show (m.a9==1)=false by simpa using k1];by_cases k2:m.a9=2
 ·rw [show (m.a9==2)=true by simpa using k2];simp only [g1d,g1e];unfold a1P;have hb:∀v∈E0 n.i4 (f8O m.g8.toNat v0++m.a7),v.a8>0->L v.g9:=fun v hv hb=>by
   rcases a9M hv with q|q
   ·exact h.bv v q hb
   ·rcases f8P.1 q with q|q
    ·rw [(f9J.1 q).2] at hb;exact absurd hb (by decide)
    ·exact hm.vs v q hb
  cases n.d6 != 1||m.a8 != n.a8
  ·simp only [g1e];cases N8 (n.c9.set m.c9.toNat true)
   ·exact .of rfl rfl rfl rfl rfl ⟨h.kn,h.av,hb,h.cu,h.wt,h.qu⟩ (by simp)
   ·simp only [g1d];have h1:Act L n {n with c9:=[],i4:=E0 n.i4 (f8O m.g8.toNat v0++m.a7),d6:=2} [] []:=.of rfl rfl rfl rfl rfl ⟨h.kn,h.av,hb,fun q=>absurd (show (2:Int)=3 from q) (by decide),h.wt,h.qu⟩ (by simp);have h2:=h1.thenP h0;rw [f9M] at h2;exact h2
  ·exact .same h
 rw [show (m.a9==2)=false by simpa using k2];by_cases k3:m.a9=3
 ·rw [show (m.a9==3)=true by simpa using k3];simp only [g1d,g1e];unfold a2g;cases hp:L1 n.Acc m.a8 m.g8 m.g9 with
  | none=>exact .of rfl rfl rfl rfl rfl h fun x hx=>by rw [f8V.1 hx];exact .plain (by simp [M8]) (by simp [M8]) (by simp [M8]) rfl
  | some a=>
   obtain ⟨y1,y2,y3,y4⟩:=c4Z {n with Acc:=a} m.a8;have hg:ND L {n with Acc:=a}:=⟨h.kn,d6b hp h.av (hm.en (.inl k3)),h.bv,h.cu,h.wt,h.qu⟩
   refine .of (a6c _ _) y1 y2 y3 y4 (hg.yield _) fun x hx => ?_
   rw [f8V.1 hx];exact .plain (by simp [M8]) (by simp [M8]) (by simp [M8]) rfl
 rw [show (m.a9==3)=false by simpa using k3];by_cases k4:m.a9=4
 ·rw [show (m.a9==4)=true by simpa using k4];simp only [g1d,g1e];unfold a2Q;cases hc:n.d6 != 3||(m.a8 != n.a8||m.g8 != (n.a6.length:Int))
  ·simp only [g1e];simp only [g0c,bne_eq_false_iff_eq] at hc;have hcu:=h.cu hc.1;have h1:ND L {n with a7:=n.a7.set m.c9.toNat true}:=⟨h.kn,h.av,h.bv,h.cu,h.wt,h.qu⟩
   cases N8 (n.a7.set m.c9.toNat true)
   ·exact .of rfl rfl rfl rfl rfl h1 (by simp)
   ·simp only [g1d];have h2:=Act.learn h1 h0 hcu;exact ⟨h2.id,h2.sq,h2.kn,h2.bw,h2.nd,fun x hx=>(f8P.1 hx).elim (fun q=>(ML.has rfl hcu).all q) (h2.ml x),h2.to⟩
  ·exact .same h
 rw [show (m.a9==4)=false by simpa using k4];by_cases k5:m.a9=5
 ·rw [show (m.a9==5)=true by simpa using k5];simp only [g1d,g1e];unfold a2r;cases decide (m.g8<(n.a6.length:Int))
  ·cases decide (m.g8>(n.a6.length:Int))
   ·exact .learn h h0 (hm.en (.inr (.inl k5)))
   ·exact .of rfl rfl rfl rfl rfl h fun x hx=>by rw [f8V.1 hx];exact .plain (by simp [M8]) (by simp [M8]) (by simp [M8]) rfl
  ·exact .same h
 rw [show (m.a9==5)=false by simpa using k5];by_cases k6:m.a9=6
 ·rw [show (m.a9==6)=true by simpa using k6];simp only [g1d,g1e];have hg:ND L {n with Acc:=(I2 n.Acc m.a8).getD n.Acc}:=by
   cases hp:I2 n.Acc m.a8 with
   | none=>exact h
   | some a=>
    obtain ⟨rfl,_⟩:=a3L hp;exact ⟨h.kn,h.av,h.bv,h.cu,h.wt,h.qu⟩
  obtain ⟨y1,y2,y3,y4⟩:=c4Z {n with Acc:=(I2 n.Acc m.a8).getD n.Acc} m.a8;exact .of (a6c _ _) y1 y2 y3 y4 (hg.yield _) (by simp)
 rw [show (m.a9==6)=false by simpa using k6];by_cases k7:m.a9=7
 ·rw [show (m.a9==7)=true by simpa using k7];simp only [g1d,g1e];unfold a12;cases n.d6==0||(decide (4<=n.f0.length)||N9 n.a6 m.g9.a5)
  ·simp only [g1e];have h1:Act L n {n with f0:=n.f0++[m.g9]} [] []:=.of rfl rfl rfl rfl rfl ⟨h.kn,h.av,h.bv,h.cu,h.wt,fun e he=>(f8P.1 he).elim (h.qu e) fun q=>by rw [f8V.1 q];exact hm.en (.inr (.inr k7))⟩ (by simp);have h2:=h1.thenP h0;rw [f9M] at h2;exact h2
  ·exact .same h
 rw [show (m.a9==7)=false by simpa using k7];cases m.a9==8
 ·exact .same h
 ·refine .of rfl rfl rfl rfl rfl h fun x hx => ?_
  obtain ⟨l,hl,hx⟩:=f9Q.1 hx;obtain ⟨j,hj,rfl⟩:=f9w.1 hl;unfold a1q at hx;cases hk:n.a6[m.g8.toNat+j]? with
  | none=>rw [hk] at hx;cases hx
  | some e=>
   rw [hk] at hx;rw [f8V.1 hx];exact .has rfl (h.kn e (f9c hk))
theorem Act.rise(h:ND L n):Act L n (Y6 n).1 (Y6 n).2 []:=by
 unfold Y6;cases decide (M4 n.Acc.i0 n.Id<0)
 ·refine .of rfl rfl rfl rfl rfl ⟨h.kn,h.av,h.av,fun q=>absurd (show (1:Int)=3 from q) (by decide),h.wt,h.qu⟩ fun x hx=>(ML.plain (by simp) (by simp) (by simp) rfl).all hx
 ·exact .same h
theorem Act.retry(h:ND L n)(h0:L eN):Act L n (W5 n).1 (W5 n).2 []:=by
 have hn:∀x∈J1 n.Id ⟨8,0,0,0,(n.a6.length:Int),zE,[]⟩,ML L x:=fun x hx=>(ML.plain (by simp) (by simp) (by simp) rfl).all hx
 have N8:∀{l:List l8},(∀x∈l,ML L x)->Act L n n (J1 n.Id ⟨8,0,0,0,(n.a6.length:Int),zE,[]⟩++l) []:=fun {l} hl=>.of rfl rfl rfl rfl rfl h fun x hx=>(f8P.1 hx).elim (hn x) (hl x)
 unfold W5;by_cases h1:n.d6=1
 ·rw [show (n.d6==1)=true by simpa using h1];exact N8 fun x hx=>(ML.plain (by simp) (by simp) (by simp) rfl).all hx
 rw [show (n.d6==1)=false by simpa using h1];by_cases h2:n.d6=2
 ·rw [show (n.d6==2)=true by simpa using h2];have hp:Act L n n (J1 n.Id ⟨8,0,0,0,(n.a6.length:Int),zE,[]⟩) []:=.of rfl rfl rfl rfl rfl h hn;exact hp.thenP h0
 rw [show (n.d6==2)=false by simpa using h2];by_cases h3:n.d6=3
 ·rw [show (n.d6==3)=true by simpa using h3];exact N8 fun x hx=>(ML.has rfl (h.cu h3)).all hx
 rw [show (n.d6==3)=false by simpa using h3];cases hb:n.i9
 ·exact .of rfl rfl rfl rfl rfl h hn
 ·exact N8 fun x hx=>(ML.has rfl (h.wt hb)).all hx
theorem Act.fall(h:ND L n):Act L n (a1e n) [] []:=⟨rfl,rfl,⟨[],by simp [a1e,D1]⟩,.inr rfl,⟨h.kn,h.av,by simp [a1e,D1],fun q=>absurd (show (0:Int)=3 from q) (by decide),fun q=>(by cases q),by simp [a1e,D1]⟩,by simp,.inl rfl⟩
theorem ND.mono{L':m4->Prop}(h:ND L n)(hi:∀e,L e->L' e):ND L' n:=⟨fun e q=>hi e (h.kn e q),fun v q b=>hi _ (h.av v q b),fun v q b=>hi _ (h.bv v q b),fun q=>hi _ (h.cu q),fun q=>hi _ (h.wt q),fun e q=>hi e (h.qu e q)⟩
theorem ML.mono{L':m4->Prop}(h:ML L m)(hi:∀e,L e->L' e):ML L' m:=⟨fun q=>hi _ (h.en q),fun v q b=>hi _ (h.vs v q b)⟩
end
def a0Y(w:m5)(e:m4):Prop:=e.i7=true\/∃a∈w.d9,a.a5=e.a5/\∃j,j<=(u9 w e.a5.b9).a6.length/\(∀x∈(u9 w e.a5.b9).a6.take j,D6 e.a5 x=false)/\e.b6=B5 (p6 ((u9 w e.a5.b9).a6.take j)).1.g7 a.i6
def a9c(l:List m4)(t:n6):Prop := ∃k,l.findIdx? (D6 t.a5)=some k/\t.Code=L0 l k/\t.d8=bif L0 l k==0 then R1 l t.a5 else 0
structure TL(w:m5):Prop where
 nd:∀i,D3 i->ND (a0Y w) (u9 w i)
 ml:∀m∈w.d7,ML (a0Y w) m
 aq:∀a∈w.d9,D3 a.a5.b9/\1<=a.a5.Seq/\a.a5.Seq<=(u9 w a.a5.b9).Seq
 au:(w.d9.map (·.a5)).Nodup
 tn:∀t∈w.Told,t.Node=t.a5.b9/\D3 t.Node/\(∃a∈w.d9,a.a5=t.a5)/\((u9 w t.Node).i9=true->t.a5.Seq<(u9 w t.Node).Seq)/\a9c (u9 w t.Node).a6 t
 tu:(w.Told.map (·.a5)).Nodup
theorem d6I{l t:List m4}{q:n5}{k:Nat}(h:l.findIdx? (D6 q)=some k):(l++t).findIdx? (D6 q)=some k:=by
 rw [List.findIdx?_append,h];rfl
theorem d3C{l t:List m4}{k:Nat}(h:G4 (l++t)=true)(hk:k<l.length):L0 (l++t) k=L0 l k:=by
 have hl:G4 l=true:=by
  unfold G4 at h⊢;simp only [f9a,List.all_append,f8R,decide_eq_true_eq] at h⊢;exact ⟨by omega,h.2.1⟩
 rw [c2L h (by rw [f9a];omega),c2L hl hk,f9G (by omega),List.getElem_append_left hk]
theorem f0i{l t:List m4}{q:n5}{k:Nat}(h:l.findIdx? (D6 q)=some k):R1 (l++t) q=R1 l q:=by
 obtain ⟨hk,_⟩:=b2o h;unfold R1;rw [d6I h,h];simp only [f9l hk]
theorem a9c.app{l t:List m4}{x:n6}(h:a9c l x)(hl:G4 (l++t)=true):a9c (l++t) x:=by
 obtain ⟨k,h1,h2,h3⟩:=h;obtain ⟨hk,_⟩:=b2o h1;exact ⟨k,d6I h1,by rw [d3C hl hk];exact h2,by rw [d3C hl hk,f0i h1];exact h3⟩
theorem a67{w:m5}(h:WI w){i:Int}(hi:D3 i):NI (u9 w i)/\(u9 w i).Id=i:=by
 rw [a2v hi];unfold D3 at hi;obtain ⟨k,rfl⟩:∃k:Nat,i=(k:Int):=⟨i.toNat,by omega⟩
 obtain ⟨n,_,h2,h3,h4,_⟩:=a38 h (i:=k) (by omega);rw [h2];exact ⟨h4,h3⟩
theorem c2n{w w':m5}(hl:w.a0.length=3){i:Nat}(hi:i<3)(n:j6)(hw:w'.a0=w.a0.set i n)(j:Int):u9 w' j=if j=(i:Int) then n else u9 w j:=by
 unfold u9 I3;rw [hw];by_cases hj:0<=j/\j<=2
 ·rw [if_pos hj,if_pos hj];by_cases q:j=(i:Int)
  ·subst q;rw [if_pos rfl,f9r,f9d,g0e (by omega)];rfl
  ·rw [if_neg q,f9d,f9k (by omega),<-f9d]
 ·rw [if_neg hj,if_neg hj,if_neg (by omega)]
theorem a0Y.mono{w w':m5}(hk:∀j,∃t,(u9 w' j).a6=(u9 w j).a6++t)(ha:∀a∈w.d9,a∈w'.d9){e:m4}(h:a0Y w e):a0Y w' e:=by
 rcases h with h|⟨a,h1,h2,j,h3,h4,h5⟩
 ·exact .inl h
 ·obtain ⟨t,ht⟩:=hk e.a5.b9;refine .inr ⟨a,ha a h1,h2,j,by rw [ht,f9a];omega,?_,?_⟩
  ·rw [ht,f9G h3];exact h4
  ·rw [ht,f9G h3];exact h5
theorem TL.step{w w':m5}(h:TL w)(hl:w.a0.length=3){i:Nat}(hi:i<3)(hni:NI (u9 w (i:Int)))(hid:(u9 w (i:Int)).Id=(i:Int)){n':j6}{l:List l8}{ts:List n6}(hn':NI n')(ha:Act (a0Y w) (u9 w (i:Int)) n' l ts)(hn:w'.a0=w.a0.set i n')(hm:∀m∈w'.d7,m∈w.d7\/m∈l)(hk:w'.d9=w.d9)(ht:w'.Told=w.Told\/w'.Told=w.Told++ts):TL w':=by
 have hJ:=c2n hl hi n' hn;have hD:D3 (i:Int):=by unfold D3;omega
 have hJi:u9 w' (i:Int)=n':=by rw [hJ,if_pos rfl]
 have hkn:∀j,∃t,(u9 w' j).a6=(u9 w j).a6++t:=fun j=>by
  rw [hJ];split
  ·rename_i q;subst q;exact ha.kn
  ·exact ⟨[],by simp⟩
 have hmo:∀e,a0Y w e->a0Y w' e:=fun e=>a0Y.mono hkn (by rw [hk];exact fun _ q=>q)
 have hsq:∀j,(u9 w' j).Seq=(u9 w j).Seq:=fun j=>by
  rw [hJ];split
  ·rename_i q;subst q;exact ha.sq
  ·rfl
 have hls:∀j,D3 j->NI (u9 w j)->∀t,(u9 w' j).a6=(u9 w j).a6++t->G4 ((u9 w j).a6++t)=true\/(u9 w' j).a6=(u9 w j).a6:=fun j hj hjn t ht=>by
  by_cases q:j=(i:Int)
  ·subst q;rw [hJi] at ht;left;rw [<-ht];exact hn'.list
  ·right;rw [hJ,if_neg q]
 have old:∀t∈w.Told,t.Node=t.a5.b9/\D3 t.Node/\(∃a∈w'.d9,a.a5=t.a5)/\((u9 w' t.Node).i9=true->t.a5.Seq<(u9 w' t.Node).Seq)/\a9c (u9 w' t.Node).a6 t:=by
  intro t q;obtain ⟨x1,x2,x3,x4,x5⟩:=h.tn t q;refine ⟨x1,x2,by rw [hk];exact x3,fun hb => ?_,?_⟩
  ·rw [hsq];refine x4 ?_;rw [hJ] at hb;split at hb
   ·rename_i q;rw [q];rcases ha.bw with ⟨b,_⟩|b
    ·rw [<-b];exact hb
    ·rw [b] at hb;cases hb
   ·exact hb
  ·obtain ⟨t',ht'⟩:=hkn t.Node;rw [ht'];by_cases q:t.Node=(i:Int)
   ·refine x5.app ?_;rw [<-ht',q,hJi];exact hn'.list
   ·have:t'=[]:=by
     rw [hJ,if_neg q] at ht';have:=congrArg List.length ht';rw [f9a] at this;exact f9b (by omega)
    rw [this,f9C];exact x5
 have new:∀t∈ts,(t.Node=t.a5.b9/\D3 t.Node/\(∃a∈w'.d9,a.a5=t.a5)/\((u9 w' t.Node).i9=true->t.a5.Seq<(u9 w' t.Node).Seq)/\a9c (u9 w' t.Node).a6 t)/\ts=[t]/\(u9 w (i:Int)).i9=true/\t.a5=⟨(i:Int),(u9 w (i:Int)).Seq⟩:=by
  intro t q;rcases ha.to with e|⟨b1,b2,k,b3,b4⟩
  ·rw [e] at q;cases q
  ·rw [b4] at q;have q:=f8V.1 q;have hw:(u9 w (i:Int)).b8.a5=⟨(i:Int),(u9 w (i:Int)).Seq⟩/\(u9 w (i:Int)).b8.i7=false:=by
    rcases hni.wt with y|y
    ·exact ⟨by rw [y.2.2.2.2,hid],y.2.2.2.1⟩
    ·rw [b1] at y;cases y.1
   have hlg:=(h.nd (i:Int) hD).wt b1;rcases hlg with y|⟨a,a1,a2,_⟩
   ·rw [hw.2] at y;cases y
   ·subst q;refine ⟨⟨?_,by show D3 _;rw [hid];exact hD,⟨a,by rw [hk];exact a1,a2⟩,?_,?_⟩,b4,b1,hw.1⟩
    ·show (u9 w (i:Int)).Id=(u9 w (i:Int)).b8.a5.b9
     rw [hw.1,hid]
    ·show (u9 w' (u9 w (i:Int)).Id).i9=true->_
     rw [hid,hJi,b2];intro y;cases y
    ·show a9c (u9 w' (u9 w (i:Int)).Id).a6 _
     rw [hid,hJi];exact ⟨k,b3,rfl,rfl⟩
 refine ⟨fun j hj => ?_,fun m q => ?_,fun a q => ?_,by rw [hk];exact h.au,fun t q => ?_,?_⟩
 ·rw [hJ];split
  ·exact ha.nd.mono hmo
  ·exact (h.nd j hj).mono hmo
 ·exact (hm m q).elim (fun q=>(h.ml m q).mono hmo) fun q=>(ha.ml m q).mono hmo
 ·rw [hk] at q;obtain ⟨x1,x2,x3⟩:=h.aq a q;exact ⟨x1,x2,by rw [hsq];exact x3⟩
 ·rcases ht with e|e
  ·rw [e] at q;exact old t q
  ·rw [e] at q;exact (f8P.1 q).elim (old t) fun q=>(new t q).1
 ·rcases ht with e|e
  ·rw [e];exact h.tu
  ·rw [e,g0f];refine f8Z.2 ⟨h.tu,?_,?_⟩
   ·cases hts:ts with
    | nil=>simp
    | cons t r=>
     have:=(new t (by rw [hts];simp)).2.1;rw [hts] at this;injection this with _ hr;rw [hr];simp
   ·intro a ha' b hb' hab;obtain ⟨x,hx,rfl⟩:=f9w.1 ha';obtain ⟨y,hy,rfl⟩:=f9w.1 hb';obtain ⟨_,_,n3,n4⟩:=new y hy;obtain ⟨o1,o2,o3,o4,o5⟩:=h.tn x hx;rw [n4] at hab;have:x.Node=(i:Int):=by rw [o1,hab]
    have:=o4 (by rw [this];exact n3);rw [‹x.Node=(i:Int)›,hab] at this;simp only at this;omega
theorem TL.asked{w w':m5}(h:TL w)(hw:WI w){i:Nat}(hi:i<3){p:List n8}(hc:L9 (u9 w (i:Int)) p=true)(hn:w'.a0=w.a0.set i (Q1 (u9 w (i:Int)) p))(hm:w'.d7=w.d7)(hk:w'.d9=w.d9++[⟨⟨(i:Int),(u9 w (i:Int)).Seq+1⟩,p⟩])(ht:w'.Told=w.Told):TL w':=by
 have hJ:=c2n hw.nl hi _ hn;have hD:D3 (i:Int):=by unfold D3;omega
 obtain ⟨hni,hid⟩:=a67 hw hD;have hJi:u9 w' (i:Int)=Q1 (u9 w (i:Int)) p:=by rw [hJ,if_pos rfl]
 have hkn:∀j,(u9 w' j).a6=(u9 w j).a6:=fun j=>by
  rw [hJ];split
  ·rename_i q;subst q;rfl
  ·rfl
 have hsq:∀j,(u9 w j).Seq<=(u9 w' j).Seq:=fun j=>by
  rw [hJ];split
  ·rename_i q;subst q;show _<=(u9 w (i:Int)).Seq+1;omega
  ·exact f9n _
 have hmo:∀e,a0Y w e->a0Y w' e:=fun e=>a0Y.mono (fun j=>⟨[],by rw [hkn,f9C]⟩) (by rw [hk];exact fun a q=>g0s _ q)
 have hnew:∀e,a0Y w e->D6 ⟨(i:Int),(u9 w (i:Int)).Seq+1⟩ e=false:=fun e he=>by
  cases hq:D6 ⟨(i:Int),(u9 w (i:Int)).Seq+1⟩ e
  ·rfl
  ·unfold D6 at hq;simp only [f8R,f9v] at hq;have hr:e.a5=⟨(i:Int),(u9 w (i:Int)).Seq+1⟩:=(b1G (b:=⟨(i:Int),(u9 w (i:Int)).Seq+1⟩)).1 hq.2;rcases he with he|⟨a,a1,a2,_⟩
   ·rw [hq.1] at he;cases he
   ·have:=(h.aq a a1).2.2;rw [a2,hr] at this;simp only at this;omega
 have hnd:=h.nd (i:Int) hD;refine ⟨fun j hj => ?_,fun m q=>(h.ml m (hm▸q)).mono hmo,fun a q => ?_,?_,fun t q => ?_,by rw [ht];exact h.tu⟩
 ·rw [hJ];split
  ·refine ⟨fun e q=>hmo e (hnd.kn e q),fun v q b=>hmo _ (hnd.av v q b),fun v q b=>hmo _ (hnd.bv v q b),fun q=>hmo _ (hnd.cu q),fun _ => ?_,fun e q=>hmo e (hnd.qu e q)⟩;refine .inr ⟨⟨⟨(i:Int),(u9 w (i:Int)).Seq+1⟩,p⟩,by rw [hk];simp,?_,(u9 w (i:Int)).a6.length,?_,?_,?_⟩
   ·show _=(⟨(u9 w (i:Int)).Id,(u9 w (i:Int)).Seq+1⟩:n5)
    rw [hid]
   ·show _<=(u9 w' (u9 w (i:Int)).Id).a6.length
    rw [hid,hkn];exact f9f _
   ·show ∀x∈(u9 w' (u9 w (i:Int)).Id).a6.take _,D6 (⟨(u9 w (i:Int)).Id,(u9 w (i:Int)).Seq+1⟩:n5) x=false
    rw [hid,hkn,f9e];exact fun x hx=>hnew x (hnd.kn x hx)
   ·show _=B5 (p6 ((u9 w' (u9 w (i:Int)).Id).a6.take _)).1.g7 p
    rw [hid,hkn,f9e];rfl
  ·exact (h.nd j hj).mono hmo
 ·rw [hk] at q;rcases f8P.1 q with q|q
  ·obtain ⟨x1,x2,x3⟩:=h.aq a q;exact ⟨x1,x2,f9N x3 (hsq _)⟩
  ·rw [f8V.1 q];refine ⟨hD,by have:=hni.sq;show 1<=(u9 w (i:Int)).Seq+1;omega,?_⟩;show _<=(u9 w' (i:Int)).Seq
   rw [hJi];exact f9n _
 ·rw [hk,g0f];refine f8Z.2 ⟨h.au,by simp,?_⟩;intro a ha b hb hab;obtain ⟨x,hx,rfl⟩:=f9w.1 ha;rw [List.map_singleton,f8V] at hb;have:=(h.aq x hx).2.2;rw [hab,hb] at this;simp only at this;omega
 ·rw [ht] at q;obtain ⟨x1,x2,⟨a,a1,a2⟩,x4,x5⟩:=h.tn t q;refine ⟨x1,x2,⟨a,by rw [hk];exact g0s _ a1,a2⟩,fun hb => ?_,by rw [hkn];exact x5⟩;rw [hJ] at hb⊢;split
  ·rename_i q;have:=(h.aq a a1).2.2;rw [a2,<-x1,q] at this;show _<(u9 w (i:Int)).Seq+1
   omega
  ·rename_i q;rw [if_neg q] at hb;exact x4 hb
theorem e5a{w:m5}(h:WI w)(ht:TL w){e:s5}(he:N4 e):TL (E5 w e):=by
 have h0:a0Y w eN:=.inl rfl;unfold E5;cases hk:e.a9==2||(e.a9==3||e.a9==4)
 ·simp only [g1e];cases hA:p9 e.A 0 2
  ·exact ht
  simp only [f8T,g1e];rw [I0] at hA;obtain ⟨i,hi⟩:∃i:Nat,e.A=(i:Int):=⟨e.A.toNat,by omega⟩
  have hi3:i<3:=by omega
  have hD:D3 (i:Int):=by unfold D3;omega
  rw [hi];have hN:u9 w (i:Int)=I3 w (i:Int):=a2v hD;obtain ⟨hni,hid⟩:=a67 h hD;have hnd:=ht.nd (i:Int) hD;rw [<-hN];cases e.a9==1
  ·cases e.a9==5
   ·cases e.a9==6
    ·cases e.a9==7
     ·exact ht
     ·exact ht.step h.nl hi3 hni hid hni.fall (.fall hnd) rfl (fun m q=>.inl q) rfl (.inl rfl)
    ·exact ht.step h.nl hi3 hni hid (b07 hni).ni (.retry hnd h0) rfl (fun m q=>a2M (w:=O5 w _ _) q) rfl (.inl rfl)
   ·exact ht.step h.nl hi3 hni hid (a92 hni).ni (.rise hnd) rfl (fun m q=>a2M (w:=O5 w _ _) q) rfl (.inl rfl)
  ·simp only [g1d];unfold a3S;cases hal:decide (60<=w.d9.length)
   ·rw [<-hN];simp only [g1e];rw [c2C];cases hc:L9 (u9 w (i:Int)) e.i6
    ·simp only [g1e];rw [a2u,hc];exact ht.step h.nl hi3 hni hid hni (.same hnd) rfl (fun m q=>a2M (w:=O5 w _ _) q) rfl (.inl rfl)
    ·simp only [g1d];have hf:s7 e.i6:=A2.fits he (by decide);have hwq:(L3 (u9 w (i:Int)) e.i6).1.b8.a5=⟨(i:Int),(u9 w (i:Int)).Seq+1⟩:=by
      rw [b9s hc];show (⟨(u9 w (i:Int)).Id,_⟩:n5)=_;rw [hid]
     rw [hwq];have h1:TL ⟨w.a0.set i (Q1 (u9 w (i:Int)) e.i6),w.d7,w.d9++[⟨⟨(i:Int),(u9 w (i:Int)).Seq+1⟩,e.i6⟩],w.Told⟩:=ht.asked h hi3 hc rfl rfl rfl rfl;have hJ:=c2n (w':=⟨w.a0.set i (Q1 (u9 w (i:Int)) e.i6),w.d7,w.d9++[⟨⟨(i:Int),(u9 w (i:Int)).Seq+1⟩,e.i6⟩],w.Told⟩) h.nl hi3 _ rfl (i:Int);rw [if_pos rfl] at hJ;have hnd1:=h1.nd (i:Int) hD;rw [hJ] at hnd1;have hni1:=hni.asked hf hc;have hcan:=hc;refine h1.step (i:=i) (n':=(L3 (u9 w (i:Int)) e.i6).1) (l:=(L3 (u9 w (i:Int)) e.i6).2) (ts:=[]) (by show (w.a0.set i _).length=3;rw [g0n];exact h.nl) hi3 (by rw [hJ];exact hni1) (by rw [hJ];exact hid) (b0G hni hf).ni ?_ ?_ (fun m q=>a2M (w:=O5 ⟨w.a0,w.d7,w.d9++[_],w.Told⟩ _ _) q) rfl (.inl rfl)
     ·rw [hJ];rw [a2u,hc];have h0':a0Y ⟨w.a0.set i (Q1 (u9 w (i:Int)) e.i6),w.d7,w.d9++[⟨⟨(i:Int),(u9 w (i:Int)).Seq+1⟩,e.i6⟩],w.Told⟩ eN:=.inl rfl;simp only [g1d];cases (u9 w (i:Int)).d6==2
      ·refine .of rfl rfl rfl rfl rfl hnd1 fun x hx => ?_
       simp only [g1e] at hx;cases hp0:(u9 w (i:Int)).d6==0
       ·rw [hp0] at hx;cases hx
       ·rw [hp0] at hx;exact (ML.has rfl (hnd1.wt rfl)).all hx
      ·exact .propose hnd1 h0'
     ·show w.a0.set _ _=(w.a0.set i _).set i _
      rw [List.set_set];rfl
   ·exact ht
 ·simp only [g1d];unfold a1a;cases hA:decide (0<=e.A)
  ·exact ht
  simp only [g1d];cases hm:w.d7[e.A.toNat]? with
  | none=>exact ht
  | some m=>
   have hmem:=f9c hm;have hmi:=h.ms m hmem;have hself:∀{w':m5},w'.a0=w.a0->w'.d9=w.d9->w'.Told=w.Told->(∀x∈w'.d7,x∈w.d7)->TL w':=fun {w'} e1 e2 e3 e4=>by
    obtain ⟨hni,hid⟩:=a67 h (i:=0) (by unfold D3;omega);refine ht.step (i:=0) h.nl (by omega) hni hid hni (.same (ht.nd 0 (by unfold D3;omega))) ?_ (fun x q=>.inl (e4 x q)) e2 (.inl e3);rw [e1];have hl:=h.nl;have:u9 w ((0:Nat):Int)=w.a0[0]:=by
     rw [a2v (by unfold D3;omega)];show w.a0.getD 0 _=_
     rw [f9d,f8N (by omega)];rfl
    rw [show u9 w 0=w.a0[0] from this,g0Y]
   simp only;cases e.a9==4
   ·cases e.a9==3
    ·simp only [g1e];have hto:=hmi.to;obtain ⟨t,htt⟩:∃t:Nat,m.To=(t:Int):=⟨m.To.toNat,by omega⟩
     have hD:D3 (t:Int):=by unfold D3;omega
     have hN:u9 w (t:Int)=I3 w (t:Int):=a2v hD;obtain ⟨hni,hid⟩:=a67 h hD;rw [htt,<-hN];have hact:=Act.take (ht.nd (t:Int) hD) h0 (ht.ml m hmem) hmi;refine ht.step h.nl (i:=t) (by omega) hni hid (b4O hni hmi).ni hact rfl (fun x q=>(a2M (w:=O5 (a3d w e.A) _ _) q).imp (fun q=>b98 q) id) rfl ?_;show (w.Told++List.take (60-w.Told.length) _=w.Told\/_)
     have hl1:=(b8D hni m).2;rcases Nat.eq_zero_or_pos (60-w.Told.length) with q|q
     ·left;rw [q,f9D,f9C]
     ·right
      show w.Told++List.take (60-w.Told.length) _=_
      rw [f9F (by omega)]
    ·exact hself rfl rfl rfl fun x q=>b98 q
   ·exact hself rfl rfl rfl fun x q=>(a2M q).elim id fun q=>by rw [f8V.1 q];exact hmem
theorem e9U:TL Q9:=by
 have hn:∀j,D3 j->u9 Q9 j=D1 j:=fun j hj=>by
  rw [a2v hj];unfold D3 at hj;obtain rfl|rfl|rfl:j=0\/j=1\/j=2:=by omega
  all_goals rfl
 refine ⟨fun i hi => ?_,fun m hm=>(by cases hm),fun a ha=>(by cases ha),by simp [Q9],fun t ht=>(by cases ht),by simp [Q9]⟩;rw [hn i hi];exact ⟨by simp [D1],by simp [D1],by simp [D1],fun q=>absurd (show (0:Int)=3 from q) (by decide),fun q=>(by cases q),by simp [D1]⟩
section
variable {w:m5}
theorem f2W{α:Type}(z:α):∀{l:List α},l.length=3->l=[l.getD 0 z,l.getD 1 z,l.getD 2 z]
 | [a,b,c],_=>rfl
theorem c2N(h:WI w):w.a0=[u9 w 0,u9 w 1,u9 w 2]:=by
 have e0:u9 w 0=w.a0.getD 0 (D1 0):=a2v (j:=0) (by unfold D3;omega);have e1:u9 w 1=w.a0.getD 1 (D1 0):=a2v (j:=1) (by unfold D3;omega);have e2:u9 w 2=w.a0.getD 2 (D1 0):=a2v (j:=2) (by unfold D3;omega);rw [e0,e1,e2];exact f2W (D1 0) h.nl
theorem a9H(h:WI w){n:j6}(hn:n∈w.a0):∃i,D3 i/\n=u9 w i:=by
 rw [c2N h] at hn;simp only [f8X,g01,or_false] at hn;rcases hn with q|q|q
 ·exact ⟨0,by unfold D3;omega,q⟩
 ·exact ⟨1,by unfold D3;omega,q⟩
 ·exact ⟨2,by unfold D3;omega,q⟩
theorem d51(h:WI w){i:Nat}(hi:i<w.a0.length):w.a0[i]=u9 w (i:Int)/\i<3:=by
 have hl:=h.nl;rw [a2v (by unfold D3;omega)];unfold I3;rw [f9r,f9d,f8N hi];exact ⟨rfl,by omega⟩
theorem d6O(hp:PW w){i j:Int}(hi:D3 i)(hj:D3 j){s:Nat}{a b:m4}(ha:(u9 w i).a6[s]?=some a)(hb:(u9 w j).a6[s]?=some b):a=b:=by
 obtain ⟨V,P,M,h,_⟩:=hp;exact h.one (h.kn i s a hi ha) (h.kn j s b hj hb)
theorem e4X(a b c:j6)(x:List l8)(y:List x8)(z:List n6):∃n∈[a,b,c],u7 ⟨[a,b,c],x,y,z⟩=n.a6/\∀m∈[a,b,c],m.a6.length<=n.a6.length:=by
 have e:u7 ⟨[a,b,c],x,y,z⟩=(bif decide ((b.a6.length:Int)>(a.a6.length:Int)) then (bif decide ((c.a6.length:Int)>(b.a6.length:Int)) then c else b) else (bif decide ((c.a6.length:Int)>(a.a6.length:Int)) then c else a)).a6:=by
  unfold u7;simp only [best,f9X,g0B,f9Z,g0h];have e0:decide ((a.a6.length:Int)>(a.a6.length:Int))=false:=by simp
  simp only [e0,g1e,f9Z];cases decide ((b.a6.length:Int)>(a.a6.length:Int))
  ·simp only [g1e,f9Z];cases decide ((c.a6.length:Int)>(a.a6.length:Int))<;>rfl
  ·simp only [g1d,f9Z,g0h];cases decide ((c.a6.length:Int)>(b.a6.length:Int))<;>rfl
 rw [e];cases h1:decide ((b.a6.length:Int)>(a.a6.length:Int))
 ·cases h2:decide ((c.a6.length:Int)>(a.a6.length:Int))
  ·exact ⟨a,by simp,rfl,by simp at h1 h2⊢;omega⟩
  ·exact ⟨c,by simp,rfl,by simp at h1 h2⊢;omega⟩
 ·cases h2:decide ((c.a6.length:Int)>(b.a6.length:Int))
  ·exact ⟨b,by simp,rfl,by simp at h1 h2⊢;omega⟩
  ·exact ⟨c,by simp,rfl,by simp at h1 h2⊢;omega⟩
theorem c7w(h:WI w):∃b,D3 b/\u7 w=(u9 w b).a6/\∀i,D3 i->(u9 w i).a6.length<=(u7 w).length:=by
 have hn:=c2N h;obtain ⟨n,n1,n2,n3⟩:=e4X (u9 w 0) (u9 w 1) (u9 w 2) w.d7 w.d9 w.Told;rw [<-hn] at n1 n2 n3;obtain ⟨b,hb,rfl⟩:=a9H h n1;refine ⟨b,hb,n2,fun i hi => ?_⟩;have n2':u7 w=(u9 w b).a6:=n2;rw [n2'];refine n3 _ ?_;rw [hn];unfold D3 at hi;obtain rfl|rfl|rfl:i=0\/i=1\/i=2:=by omega
 all_goals simp
theorem e45(h:WI w)(hp:PW w){i:Int}(hi:D3 i):(u9 w i).a6=(u7 w).take (u9 w i).a6.length:=by
 obtain ⟨b,hb,h1,h2⟩:=c7w h;have hl:=h2 i hi;apply List.ext_getElem?;intro s;by_cases hs:s<(u9 w i).a6.length
 ·rw [g0y,if_pos hs];obtain ⟨y,hy⟩:∃y,(u7 w)[s]?=some y:=⟨_,f8N (show s<(u7 w).length by omega)⟩
  rw [hy,f8N hs];rw [h1] at hy;exact congrArg some (d6O hp hi hb (f8N hs) hy)
 ·rw [f9m (by omega),f9m (by rw [f9g];omega)]
theorem d7g(h:WI w)(hp:PW w){i:Int}(hi:D3 i):∃t,u7 w=(u9 w i).a6++t:=by
 refine ⟨(u7 w).drop (u9 w i).a6.length,?_⟩;conv=>rhs;lhs;rw [e45 h hp hi]
 rw [f9O]
theorem b5n(h:WI w):G4 (u7 w)=true:=by
 obtain ⟨b,hb,h1,_⟩:=c7w h;rw [h1];exact (a67 h hb).1.list
theorem d3A(ht:TL w):b1n w.Told=true:=by
 unfold b1n;rw [f8S];intro i hi;have hi:i<w.Told.length:=by simpa using hi
 rw [d17 hi,f9v,f9E];intro s hs hq;obtain ⟨j,hj,rfl⟩:=f9U.1 hs;have hj:j<i:=by omega
 have he:w.Told[j].a5=w.Told[i].a5:=by
  have:G1 w.Told[j].a5=G1 w.Told[i].a5:=by simpa using hq
  rw [<-b1G];rw [d6H];simpa using this
 have:=f9H.1 ht.tu j i (by rw [f9I];omega) (by rw [f9I];omega) hj;apply this;rw [g0O,g0O];exact he
theorem d0W(h:WI w)(hp:PW w)(ht:TL w):w.Told.all (a3Z (u7 w))=true:=by
 rw [f8S];intro t hm;obtain ⟨x1,x2,x3,x4,x5⟩:=ht.tn t hm;obtain ⟨tl,htl⟩:=d7g h hp x2;have hs:=x5.app (t:=tl) (by rw [<-htl];exact b5n h);rw [<-htl] at hs;obtain ⟨k,k1,k2,k3⟩:=hs;unfold a3Z;rw [k1];simp only [f8R,beq_iff_eq];refine ⟨k2.symm,?_⟩;rw [k3,k2];unfold R1;rw [k1];try rfl
theorem e9P(h:WI w)(hp:PW w)(ht:TL w):b4I w=some true:=by rw [e6c h.ok (W0.2 h),d0W h hp ht]
theorem e5B(h:WI w)(hp:PW w)(ht:TL w):b2M w=some true:=by rw [e9s h.ok (W0.2 h),d0W h hp ht]
theorem e1o(h:WI w)(ht:TL w):b25 w=some true:=by
 rw [e8Z h.ok,d3A ht,W0.2 h];rfl
theorem e9L(h:WI w)(ht:TL w):b4u w=some true:=by
 rw [f1R h.ok,d3A ht,W0.2 h];rfl
theorem d0K(ht:TL w){a:x8}(ha:a∈w.d9):R6 w a.a5=(a.i6,true):=by
 unfold R6 b44;have hex:∃b,w.d9.find? (fun x=>(([x.a5.b9,x.a5.Seq]:List Int)==[a.a5.b9,a.a5.Seq]))=some b:=by
  cases hf:w.d9.find? (fun x=>(([x.a5.b9,x.a5.Seq]:List Int)==[a.a5.b9,a.a5.Seq])) with
  | some b=>exact ⟨b,rfl⟩
  | none=>
   have:=g09.1 hf a ha;simp at this
 obtain ⟨b,hb⟩:=hex;rw [hb];have hbm:=g07 hb;have hbr:=List.find?_some hb;have hbr:=b1G.1 hbr;obtain ⟨i,hi,rfl⟩:=f9o ha;obtain ⟨j,hj,rfl⟩:=f9o hbm;have hij:i=j:=by
  rcases Nat.lt_trichotomy i j with q|q|q
  ·exact absurd (by rw [g0O,g0O];exact hbr.symm) (f9H.1 ht.au i j (by rw [f9I];omega) (by rw [f9I];omega) q)
  ·exact q
  ·exact absurd (by rw [g0O,g0O];exact hbr) (f9H.1 ht.au j i (by rw [f9I];omega) (by rw [f9I];omega) q)
 subst hij;rfl
theorem d3d(h:WI w)(hp:PW w):(w.a0.all fun a=>w.a0.all fun b=>V3 a.a6 b.a6)=true:=by
 rw [f8S];intro a ha;rw [f8S];intro b hb;obtain ⟨i,hi,rfl⟩:=a9H h ha;obtain ⟨j,hj,rfl⟩:=a9H h hb;exact b9F.2 fun s h1 h2=>d6O hp hi hj (f8N h1) (f8N h2)
theorem d1X(h:WI w)(hp:PW w):a9Y w=some true:=by
 rw [f5m h.ok,W0.2 h,d3d h hp];rfl
theorem e0o(h:WI w)(hp:PW w):b3S w=some true:=by
 rw [e7Y h.ok,d94 (p:=fun a b:j6=>V3 a.a6 b.a6) (fun x _=>b9F.2 fun i _ _=>rfl) (fun x _ y _ hxy=>b9F.2 fun i h1 h2=>(b9F.1 hxy i h2 h1).symm),d3d h hp,W0.2 h];rfl
theorem d5L(h:WI w)(hp:PW w):(w.a0.all fun a=>w.a0.all fun b=>(a.Acc.a7.zip b.Acc.a7).all fun p=>a1z p.1 p.2)=true:=by
 rw [f8S];intro a ha;rw [f8S];intro b hb;rw [f8S];intro p hpm;obtain ⟨i,hi,rfl⟩:=a9H h ha;obtain ⟨j,hj,rfl⟩:=a9H h hb;obtain ⟨s,hs,rfl⟩:=f9o hpm;obtain ⟨s1,s2,e⟩:=a9L hs;rw [e,c4r];intro h0 he;obtain ⟨V,P,M,hx,_⟩:=hp;have hb1:(u9 w i).Acc.a7[s].a8>0:=by
  have:=((a67 h hi).1.vs _ (f8Q s1)).1.bal;simp only at h0;omega
 have x1:=hx.cur i s _ hi (f8N s1) hb1;have x2:=hx.cur j s _ hj (f8N s2) (by simp only at he;omega);have p1:=(hx.vp _ _ _ _ x1).2.1;have p2:=(hx.vp _ _ _ _ x2).2.1;simp only at he;rw [he] at p1;exact hx.pu _ _ _ _ p1 p2
theorem d2w(h:WI w)(hp:PW w):b1N w=some true:=by
 rw [e88 h.ok,W0.2 h,d5L h hp];rfl
theorem f7K(h:WI w)(hp:PW w):b5d w=some true:=by
 rw [f3o h.ok,W0.2 h,<-d9T (W0.2 h),d5L h hp];rfl
theorem d0w(h:WI w)(hp:PW w):w.a0.all (a2F w)=true:=by
 rw [f8S];intro n hn;obtain ⟨i,hi,rfl⟩:=a9H h hn;unfold a2F;rw [f8S];intro k hk;have hk:k<(u9 w i).a6.length:=by simpa using hk
 rw [c3U hk];obtain ⟨V,P,M,hx,_⟩:=hp;have hc:=hx.still (hx.kn i k _ hi (f8N hk));generalize (u9 w i).a6[k]=e at hc;have key:∀q,(∃v,(u9 w q).Acc.a7[k]?=some v/\v.a8>0/\v.g9=e)->a5Z e (C4 (u9 w q) k)=true:=by
  rintro q ⟨v,v1,v2,v3⟩
  unfold a5Z C4;rw [v1];simp only [g0d,f8R,decide_eq_true_eq];exact ⟨v2,a0J _ _ |>.2 v3⟩
 have hm:V6 w.a0 k e=(([u9 w 0,u9 w 1,u9 w 2].filter fun n=>a5Z e (C4 n k)).length):=by
  unfold V6;rw [<-c2N h]
 obtain ⟨a,b,ha,hb,hab,va,vb⟩:=hc;have va:=key a va;have vb:=key b vb;rw [hm,f9v,decide_eq_false_iff_not];unfold D3 at ha hb;obtain rfl|rfl|rfl:a=0\/a=1\/a=2:=by omega
 all_goals obtain rfl|rfl|rfl:b=0\/b=1\/b=2:=by omega
 all_goals first|(exact absurd rfl hab)|skip
 all_goals simp only [List.filter_cons,va,vb,if_true,List.filter_nil]
 all_goals split
 all_goals simp
theorem e2t(h:WI w)(hp:PW w):b2f w=some true:=by
 rw [e4T h.ok,W0.2 h,d0w h hp];rfl
theorem c9m(h:WI w)(hp:PW w):b1F w=some true:=by
 rw [e0Y h.ok,W0.2 h,d0w h hp];rfl
theorem d23(h:WI w)(hp:PW w):((f8W w.a0.length).all (a4B w))=true:=by
 rw [f8S];intro i hi;have hi:i<w.a0.length:=by simpa using hi
 obtain ⟨e,hi3⟩:=d51 h hi;have hD:D3 (i:Int):=by unfold D3;omega
 obtain ⟨hni,hid⟩:=a67 h hD;unfold a4B;rw [f8N hi,e];simp only [f8R];constructor
 ·unfold a7V;cases hph:(u9 w (i:Int)).d6 != 3;case true=>rfl
  simp only [bne_eq_false_iff_eq] at hph;obtain ⟨V,P,M,hx,_⟩:=hp;obtain ⟨l1,l2,l3,l4⟩:=(hx.ld (i:Int) hD).l3 hph;have hm:(u9 w (i:Int)).a7[(u9 w (i:Int)).Id.toNat]?=some true:=by
   rcases hni.ld with q|q|q|q
   ·omega
   ·omega
   ·omega
   ·exact q.2.2.2.2.2.1
  rw [hid] at hm;have v1:=l4 (i:Int) hD hm;obtain ⟨v,y1,y2⟩:=hx.max _ _ _ _ v1;have hb:=(hx.vp _ _ _ _ v1).2.2.1;have v2:=hx.cur (i:Int) _ v hD y1 (by omega);unfold C4;rw [y1];simp only [g0d,g1e,f8R,Bool.or_eq_true,decide_eq_true_eq];refine ⟨y2,?_⟩;rcases Int.lt_or_le (u9 w (i:Int)).a8 v.a8 with q|q
  ·exact .inl q
  ·right
   refine (a0J _ _).2 (hx.pu _ _ _ _ ?_ l1);have:=(hx.vp _ _ _ _ v2).2.1;rwa [show v.a8=(u9 w (i:Int)).a8 by omega] at this
 ·rw [f8S];intro m hm;obtain ⟨j,hj,rfl⟩:=f9U.1 hm;have hji:j<i:=by omega
  obtain ⟨e2,hj3⟩:=d51 h (show j<w.a0.length by omega);have hDj:D3 (j:Int):=by unfold D3;omega
  obtain ⟨hnj,hidj⟩:=a67 h hDj;rw [e2,c5w];rintro ⟨b1,b2⟩
  have own:∀{n:j6},NI n->0<n.a8->Own n:=fun hn hb=>by
   refine hn.ld.own fun q => ?_
   rcases hn.ld with y|y|y|y
   ·omega
   all_goals exact absurd (y.1.symm.trans q) (by decide)
  have o1:=(own hni b1).mod;have o2:=(own hnj (by omega)).mod;rw [b2,o2,hid,hidj] at o1;omega
theorem f6a(h:WI w)(hp:PW w):b2p w=some true:=by
 rw [f6F h.ok,W0.2 h,d23 h hp];rfl
theorem c8B(h:WI w)(hp:PW w):b1k w=some true:=by
 rw [e84 h.ok,W0.2 h,e7q (W0.2 h),d23 h hp];rfl
end
theorem c81(l:List m9)(i:n8)(regs:List Int)(rs:List r9)(ps:List p8):∀r∈rs,r∈(D9 l i regs rs ps).2.1:=by
 intro r hr;unfold D9;cases i.a9==1
 ·cases i.a9==2
  ·cases i.a9==3
   ·cases i.a9==4
    ·cases i.a9==5<;>exact hr
    ·exact hr
   ·exact hr
  ·exact hr
 ·simp only [g1d];cases W2 ps i.B with
  | some k=>
   simp only;cases ps[k]?<;>exact hr
  | none=>
   simp only;cases l[i.B.toNat]? with
   | none=>exact hr
   | some b=>
    simp only;cases J9 rs i.B
    ·exact g0s _ hr
    ·exact hr
theorem c7g(l:List m9)(prog:List n8):∀(f k:Nat) (regs:List Int) (rs:List r9) (ps:List p8),∀r∈rs,r∈(U1 l prog f k regs rs ps).b5
 | 0,_,_,_,_,r,hr=>hr
 | f+1,k,regs,rs,ps,r,hr=>by
  unfold U1;cases prog[k]? with
  | none=>exact hr
  | some i=>
   simp only;cases i.a9==6
   ·cases i.a9==7
    ·cases (D9 l i regs rs ps).1.all H4
     ·exact c81 l i regs rs ps r hr
     ·exact c7g l prog f _ _ _ _ r (c81 l i regs rs ps r hr)
    ·exact hr
   ·exact c7g l prog f _ _ _ _ r hr
def AtB(l l':List m9)(rs:List r9):Prop := ∀r∈rs,l[r.i5.toNat]?=l'[r.i5.toNat]?
theorem e4l{rs:List r9}{b:Int}(h:J9 rs b=true):∃r∈rs,r.i5=b:=by
 unfold J9 at h;obtain ⟨r,h1,h2⟩:=g0p.1 h;exact ⟨r,h1,by simpa using h2⟩
theorem e3a{l l':List m9}(hl:l.length=l'.length)(i:n8)(regs:List Int)(rs:List r9)(ps:List p8)(h:AtB l l' (D9 l i regs rs ps).2.1):D9 l' i regs rs ps=D9 l i regs rs ps:=by
 unfold D9 at h⊢;cases hk:i.a9==1
 ·rfl
 ·rw [hk] at h;simp only [g1d] at h⊢;cases hp:W2 ps i.B with
  | some k=>rfl
  | none=>
   rw [hp] at h;simp only at h⊢;cases hb:l[i.B.toNat]? with
   | none=>
    have:l'.length<=i.B.toNat:=by rw [<-hl];exact List.getElem?_eq_none_iff.1 hb
    rw [f9m this]
   | some b=>
    rw [hb] at h;simp only at h;have hin:∃r∈(bif J9 rs i.B then rs else rs++[⟨i.B,b.j4⟩]),r.i5=i.B:=by
     cases hs:J9 rs i.B
     ·exact ⟨⟨i.B,b.j4⟩,by simp,rfl⟩
     ·exact e4l hs
    obtain ⟨r,r1,r2⟩:=hin;have:=h r r1;rw [r2,hb] at this;rw [<-this]
theorem c2H{l l':List m9}(hl:l.length=l'.length)(prog:List n8):∀(f k:Nat) (regs:List Int) (rs:List r9) (ps:List p8),AtB l l' (U1 l prog f k regs rs ps).b5->U1 l' prog f k regs rs ps=U1 l prog f k regs rs ps
 | 0,_,_,_,_,_=>rfl
 | f+1,k,regs,rs,ps,h=>by
  unfold U1 at h⊢;cases hp:prog[k]? with
  | none=>rfl
  | some i=>
   rw [hp] at h;simp only at h⊢;cases h6:i.a9==6
   ·rw [h6] at h;cases h7:i.a9==7
    ·rw [h7] at h;simp only [g1e] at h⊢;have hE:D9 l' i regs rs ps=D9 l i regs rs ps:=e3a hl i regs rs ps fun r hr=>h r (by
      cases (D9 l i regs rs ps).1.all H4
      ·exact hr
      ·exact c7g l prog f _ _ _ _ r hr)
     rw [hE];cases ha:(D9 l i regs rs ps).1.all H4
     ·rfl
     ·rw [ha] at h;exact c2H hl prog f _ _ _ _ h
    ·rfl
   ·rw [h6] at h;simp only [g1d] at h⊢;exact c2H hl prog f _ _ _ _ h
theorem e51{l l':List m9}(h1:C8 l=true)(h2:C8 l'=true){p:List n8}(h:AtB l l' (B5 l p).b5):B5 l' p=B5 l p:=by
 unfold B5 at h⊢;rw [h1] at h;rw [h1,h2];cases hp:E4 p
 ·rfl
 ·rw [hp] at h;exact c2H ((a6o h1).trans (a6o h2).symm) p _ _ _ _ _ h
def b4P(l:List m9)(rs:List r9):Prop := ∀r∈rs,∃b,l[r.i5.toNat]?=some b/\b.j4=r.j4
theorem d7Y{l:List m9}(i:n8)(regs:List Int)(rs:List r9)(ps:List p8)(h:b4P l rs):b4P l (D9 l i regs rs ps).2.1:=by
 unfold D9;cases i.a9==1
 ·cases i.a9==2
  ·cases i.a9==3
   ·cases i.a9==4
    ·cases i.a9==5<;>exact h
    ·exact h
   ·exact h
  ·exact h
 ·simp only [g1d];cases W2 ps i.B with
  | some k=>
   simp only;cases ps[k]?<;>exact h
  | none=>
   simp only;cases hb:l[i.B.toNat]? with
   | none=>exact h
   | some b=>
    simp only;cases J9 rs i.B
    ·intro r hr;rcases f8P.1 hr with q|q
     ·exact h r q
     ·rw [f8V.1 q];exact ⟨b,hb,rfl⟩
    ·exact h
theorem c6N(l:List m9)(prog:List n8):∀(f k:Nat) (regs:List Int) (rs:List r9) (ps:List p8),b4P l rs->b4P l (U1 l prog f k regs rs ps).b5
 | 0,_,_,_,_,h=>h
 | f+1,k,regs,rs,ps,h=>by
  unfold U1;cases prog[k]? with
  | none=>exact h
  | some i=>
   simp only;cases i.a9==6
   ·cases i.a9==7
    ·cases (D9 l i regs rs ps).1.all H4
     ·exact d7Y i regs rs ps h
     ·exact c6N l prog f _ _ _ _ (d7Y i regs rs ps h)
    ·exact h
   ·exact c6N l prog f _ _ _ _ h
theorem f7a(l:List m9)(p:List n8):b4P l (B5 l p).b5:=by
 unfold B5;cases C8 l&&E4 p
 ·intro r hr;cases hr
 ·exact c6N l p _ _ _ _ _ fun r hr=>by cases hr
theorem c6t{l:List m4}(hl:l.length<=40)(he:l.all z4=true){k:Nat}(hk:k<=l.length):C8 (p6 (l.take k)).1.g7=true:=(P6 hl he k hk).1.boxes
theorem f4f{l:List m4}(hl:l.length<=40)(he:l.all z4=true){j k:Nat}(hjk:j<=k)(hk:k<=l.length){b:Int}(hb:0<=b/\b<=3){x y:m9}(hx:(p6 (l.take j)).1.g7[b.toNat]?=some x)(hy:(p6 (l.take k)).1.g7[b.toNat]?=some y)(hv:x.j4=y.j4):x=y:=by
 by_cases hall:∀i,j<=i->i<k->a53 l (p6 l).2 b i=false
 ·have:=d1x hl he hb.1 k hjk hk hall;rw [hx,hy] at this;injection this with this;exact this.symm
 ·exfalso
  apply hall;intro i h1 h2;cases hp:a53 l (p6 l).2 b i
  ·rfl
  ·obtain ⟨_,hq⟩:=d8A hl he (show i<l.length by omega) hp;obtain ⟨z,z1,z2,z3⟩:=c4w hl he hb i (by omega);obtain ⟨v,hv1⟩:=hq z z1;have m1:=(d7b hl he h1 (show i<=l.length by omega)).2 b.toNat x z hx z1;have m2:=(d7b hl he (show i+1<=k by omega) hk).2 b.toNat _ y hv1 hy;simp only at m2;split at m2<;>omega
theorem c9R{s:u5}{e:m4}(h:(apply s e).2=0):e.i7=false/\a02 s.g7 e.b6=true/\e.b6.Code=0/\(apply s e).1.g7=a0T s.g7 e.b6.b7:=by
 have hf:(O3 s e).2=0->a02 s.g7 e.b6=true/\e.b6.Code=0/\(O3 s e).1.g7=a0T s.g7 e.b6.b7:=by
  unfold O3;cases a02 s.g7 e.b6
  ·intro h;exact absurd h (by simp)
  ·cases hc:e.b6.Code==0
   ·intro h;exact absurd h (by simp)
   ·intro _;exact ⟨rfl,by simpa using hc,rfl⟩
 unfold apply at h⊢;cases hn:e.i7
 ·rw [hn] at h;simp only [g1e] at h⊢;refine ⟨trivial,?_⟩;cases hd:s.i8.find? (fun d=>d.a5.b9==e.a5.b9) with
  | none=>rw [hd] at h;exact hf h
  | some d=>
   rw [hd] at h;simp only at h⊢;cases h1:d.a5.Seq==e.a5.Seq
   ·rw [h1] at h;cases h2:decide (d.a5.Seq>e.a5.Seq)
    ·rw [h2] at h;exact hf h
    ·rw [h2] at h;exact absurd h (by simp)
   ·rw [h1] at h;exact absurd h (by simp)
 ·rw [hn] at h;exact absurd h (by simp)
theorem c8G:∀(ps:List (List n8)) (p:List n8) (b:List m9) (vs:List Int) {b':List m9} {vs':List Int},a1K ps b vs=(b',vs')->C8 b'=true->a1K (ps++[p]) b vs=bif (G9 b' p).2.2==3 then ([],[]) else ((G9 b' p).1,vs'++[(G9 b' p).2.1])
 | [],p,b,vs,b',vs',h,hb=>by
  have h:(b,vs)=(b',vs'):=h;injection h with h1 h2;subst h1;subst h2;rfl
 | q::ps,p,b,vs,b',vs',h,hb=>by
  unfold a1K at h;rw [g0M];unfold a1K;cases hq:(G9 b q).2.2==3
  ·rw [hq] at h;exact c8G ps p _ _ h hb
  ·rw [hq] at h;have h:(([],[]):List m9×List Int)=(b',vs'):=h;injection h with h1 h2;rw [<-h1] at hb;exact absurd hb (by decide)
section
variable {w:m5}
theorem e0U(h:WI w)(hp:PW w)(ht:TL w){k:Nat}(hk:k<(u7 w).length)(hn:((u7 w)[k]).i7=false):∃a∈w.d9,a.a5=((u7 w)[k]).a5/\∃j,j<=k/\((u7 w)[k]).b6=B5 (p6 ((u7 w).take j)).1.g7 a.i6:=by
 obtain ⟨b,hb,h1,_⟩:=c7w h;have hm:(u7 w)[k]∈(u9 w b).a6:=h1▸f8Q hk;rcases (ht.nd b hb).kn _ hm with q|⟨a,a1,a2,j,j1,j2,j3⟩
 ·rw [hn] at q;cases q
 ·have hw:D3 ((u7 w)[k]).a5.b9:=by rw [<-a2];exact (ht.aq a a1).1
  have htk:(u9 w ((u7 w)[k]).a5.b9).a6.take j=(u7 w).take j:=by
   obtain ⟨t,ht'⟩:=d7g h hp hw;conv=>rhs;rw [ht']
   rw [f9G j1]
  rw [htk] at j2 j3;refine ⟨a,a1,a2,j,?_,j3⟩;rcases Nat.lt_or_ge k j with q|q
  ·exfalso
   have:=j2 (u7 w)[k] (f9U.2 ⟨k,by omega,rfl⟩);unfold D6 at this;rw [hn] at this;simp at this
  ·exact q
theorem d81(h:WI w)(hp:PW w)(ht:TL w){k:Nat}(hk:k<(u7 w).length)(h0:(apply (p6 ((u7 w).take k)).1 (u7 w)[k]).2=0):∃a∈w.d9,a.a5=((u7 w)[k]).a5/\B5 (p6 ((u7 w).take k)).1.g7 a.i6=((u7 w)[k]).b6:=by
 obtain ⟨z1,z2,z3,_⟩:=c9R h0;obtain ⟨hl,he⟩:=W8 (b5n h);obtain ⟨a,a1,a2,j,j1,j2⟩:=e0U h hp ht hk z1;refine ⟨a,a1,a2,?_⟩;rw [j2];refine e51 (c6t hl he (by omega)) (c6t hl he (by omega)) ?_;intro r hr;obtain ⟨x,x1,x2⟩:=f7a _ _ r hr;rw [<-j2] at hr;have hbx:=(a3b (a4p (f8S.1 he _ (f8Q hk)) z1).2.2.1).2.2.2.1 r hr;obtain ⟨y,y1,y2,_⟩:=c4w hl he (b:=r.i5) (by omega) k (by omega);have hfr:=f8S.1 z2 r hr;rw [y1] at hfr;have hfr:y.j4=r.j4:=by simpa using hfr
 rw [x1,y1,f4f hl he j1 (by omega) (b:=r.i5) (by omega) x1 y1 (by omega)]
theorem c8V(ht:TL w):∀(qs:List n5) (o:List (List n8)),(∀q∈qs,∃a∈w.d9,a.a5=q)->a1S w qs o=some (o++qs.map fun q=>(R6 w q).1)
 | [],o,_=>by simp [a1S]
 | q::qs,o,h=>by
  obtain ⟨a,a1,a2⟩:=h q (by simp);have hp:=d0K ht a1;rw [a2] at hp;unfold a1S;rw [hp];simp only [g1d];rw [c8V ht qs _ fun x hx=>h x (by simp [hx])];simp [hp]
theorem d3F(h:WI w)(hp:PW w)(ht:TL w):∀n,n<=(u7 w).length->(∀q∈told (u7 w) (p6 (u7 w)).2 n,∃a∈w.d9,a.a5=q)/\
  a1K ((told (u7 w) (p6 (u7 w)).2 n).map fun q=>(R6 w q).1) V9 []=((p6 ((u7 w).take n)).1.g7,(told (u7 w) (p6 (u7 w)).2 n).map (R1 (u7 w)))
 | 0,_=>⟨by simp [told],rfl⟩
 | n+1,hn=>by
  obtain ⟨hl,he⟩:=W8 (b5n h);have hlt:n<(u7 w).length:=by omega
  obtain ⟨ih1,ih2⟩:=d3F h hp ht n (by omega);have hc:=b0a hl he hlt;have hcl:(p6 (u7 w)).2.length=(u7 w).length:=by
   have:=(P6 hl he (u7 w).length (f9f _)).2.1;rwa [f9e] at this
  have hn':n<(p6 (u7 w)).2.length:=by omega
  rw [f8N hn'] at hc;injection hc with hc;have hbx:=c6t hl he (k:=n) (by omega);have hst:(p6 ((u7 w).take (n+1))).1=(apply (p6 ((u7 w).take n)).1 (u7 w)[n]).1:=by rw [a0W hlt];rfl
  unfold told;rw [b46 hlt hn',hc,hst];rcases c4W (P6 hl he n (by omega)).1 (f8S.1 he _ (f8Q hlt)) with ⟨b1,b2,b3⟩|⟨b1,b2⟩
  ·obtain ⟨a,a1,a2,a3⟩:=d81 h hp ht hlt b1;obtain ⟨z1,z2,z3,_⟩:=c9R b1;have hpf:=d0K ht a1;rw [a2] at hpf;rw [b1,b3];simp only [beq_self_eq_true,g1d];refine ⟨fun q hq => ?_,?_⟩
   ·rcases f8P.1 hq with q'|q'
    ·exact ih1 q q'
    ·rw [f8V.1 q'];exact ⟨a,a1,a2⟩
   ·rw [g0f,g0f,List.map_singleton,List.map_singleton,c8G _ _ _ _ ih2 hbx,hpf];have hs:G9 (p6 ((u7 w).take n)).1.g7 a.i6=(a0T (p6 ((u7 w).take n)).1.g7 ((u7 w)[n]).b6.b7,((u7 w)[n]).b6.d8,0):=by
     unfold G9;rw [a3,z3];rfl
    simp only [hs];have hv:R1 (u7 w) ((u7 w)[n]).a5=((u7 w)[n]).b6.d8:=by
     unfold R1;have hf:(u7 w).findIdx? (D6 ((u7 w)[n]).a5)=some n:=by
      rw [f9L];refine ⟨hlt,?_,fun i hi => ?_⟩
      ·unfold D6;rw [b2];simp
      ·intro hq;unfold D6 at hq;simp only [f8R,f9v] at hq;have:=e6m hl he hi hlt hq.1 (b1G.1 hq.2).symm;rw [f8N hn',hc,b1] at this;exact this rfl
     rw [hf];simp only [f8N hlt]
    rw [hv];rfl
  ·rw [b2,show ((apply (p6 ((u7 w).take n)).1 (u7 w)[n]).2==0)=false by simpa using b1];simp only [g1e,f9C];exact ⟨ih1,ih2⟩
theorem e3j(l:List m9):a5M l l=true:=by
 unfold a5M;simp only [beq_self_eq_true,f8Y];rw [f8S];intro k hk;have hk:k<l.length:=by simpa using hk
 rw [f8N hk];simp
theorem c5q(h:WI w)(hp:PW w)(ht:TL w):a06 w=true:=by
 obtain ⟨hl,he⟩:=W8 (b5n h);obtain ⟨g1,g2⟩:=d3F h hp ht (u7 w).length (f9f _);have hd:A0 (u7 w)=told (u7 w) (p6 (u7 w)).2 (u7 w).length:=by unfold A0;rw [b5n h];rfl
 rw [<-hd] at g1 g2;rw [f9e] at g2;unfold a06;rw [W0.2 h,c8V ht _ _ g1,f9M];simp only [f8Y];have hlen:((A0 (u7 w)).map fun q=>(R6 w q).1).length<=100:=by
  have hcl:(p6 (u7 w)).2.length=(u7 w).length:=by
   have:=(P6 hl he (u7 w).length (f9f _)).2.1;rwa [f9e] at this
  have h1:=b6z (l:=u7 w) hcl (u7 w).length (f9f _);have h2:=c5t ((p6 (u7 w)).2.take (u7 w).length) 0;rw [f9I,hd];rw [f9g] at h2;omega
 have hs:F5 V9 ((A0 (u7 w)).map fun q=>(R6 w q).1)=((p6 (u7 w)).1.g7,(A0 (u7 w)).map (R1 (u7 w))):=by
  unfold F5;rw [b6V,decide_eq_true hlen];exact g2
 unfold b9P;rw [hs];simp only [f9I,beq_self_eq_true,f8Y,e3j];unfold b6I;rw [f8S];intro i hi;have hi:i<(A0 (u7 w)).length:=by simpa using hi
 rw [f9R,f8N hi];simp
end
structure AW(w:m5):Prop where
 wi:WI w
 pw:PW w
 tl:TL w
theorem f3T:AW Q9:=⟨WI.open,f3J,e9U⟩
theorem c8U{w:m5}(h:AW w){e:s5}(he:N4 e):AW (E5 w e):=⟨c1l h.wi he,d9H h.wi h.pw he,e5a h.wi h.tl he⟩
theorem c74:∀{l:List s5} {w:m5},AW w->(∀e∈l,N4 e)->AW (b1E w l)
 | [],_,h,_=>h
 | e::l,w,h,he=>c74 (l:=l) (w:=E5 w e) (c8U h (he e (by simp))) fun x hx=>he x (by simp [hx])
theorem d9f{w:m5}(h:AW w):b68 w=some true:=by
 obtain ⟨h,hp,ht⟩:=h;unfold b68;simp only [d1X h hp,d2w h hp,c9m h hp,c8B h hp,c9S h.ok,c5q h hp ht,e5B h hp ht,e9L h ht,f8M,g1d]
theorem f4p{w:m5}(h:AW w):b6H w=some true:=by
 obtain ⟨h,hp,ht⟩:=h;unfold b6H;simp only [e0o h hp,f7K h hp,e2t h hp,f6a h hp,f1G h.ok,c5q h hp ht,e9P h hp ht,e1o h ht,f8M,g1d]
theorem ev2(k a:Int):N4 ⟨k,a,[]⟩:=⟨by show ([]:List n8).length*32<=_;simp,fun _ _=>trivial⟩
theorem d9Y{code more:List Int}(h:A2 1 a5g code)(h':A2 1 a5g more):c5d code more=some true:=by
 unfold c5d;cases decide ((code.length:Int)>1048576);case true=>rfl
 cases decide ((more.length:Int)>1048576);case true=>rfl
 obtain ⟨l,a1,a2,a3⟩:=e0J h.2;have hw:AW (b1E Q9 l):=c74 f3T a2;simp only [g1e,a1,e5S,f8M,f7w a2 a3,d9f hw,f4p hw,f8T];generalize b1E Q9 l=w at hw;have l1:o7 (fun s:Int=>a6t more w s) 0=some (.brk ()):=by
  have:=V0 (body:=fun s:Int=>a6t more w s) (fun k=>(k:Int)) 4 fun k hk=>by
   show a6t more w (k:Int)=_
   have hx:=c8U hw (ev2 (m7 (1+(f9p (m7 ((more.length:Int)+(k:Int))) 7))) (f9p (m7 ((m7 (g0N (more.length:Int) 7))+(k:Int))) 12));have hn:m7 ((k:Int)+1)=((k+1:Nat):Int):=by rw [C5 (by omega) (by omega)];omega
   unfold a6t;rw [decide_eq_true (by omega),g1d,e24 hw.wi (ev2 _ _),f8M];simp only [d1X hx.wi hx.pw,d2w hx.wi hx.pw,c9m hx.wi hx.pw,c8B hx.wi hx.pw,c9S hx.wi.ok,c5q hx.wi hx.pw hx.tl,f8M,f8T,g1e,hn]
  refine (show o7 _ ((0:Nat):Int)=_ from this).trans (C7 ?_);show a6t more w 4=_
  unfold a6t;rfl
 rw [l1];rfl
end
end Go.Proofs.YtmadcoimgjieeaaGreat
