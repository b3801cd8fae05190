/- Abstract values and states of the program, functions of the program and what their calls come to, and what follows from it: part 6 of the text that the law leans on; long names are written short. -/
import Derived.Test.YtmceicmlkgpmpaaGreatP5
set_option linter.unusedVariables false
set_option linter.unusedSimpArgs false
set_option linter.unnecessarySimpa false
namespace Go.Proofs.YtmceicmlkgpmpaaGreat
open Go
open Option renaming bind_some->f8y,getD_some->f9P
open List renaming getElem?_eq_getElem->f8z,replicate->f8A,mem_append->f8B,getElem_mem->f8C,all_eq_true->f8E,mem_singleton->f8H,range->f8I,mem_cons->f8J,nodup_append->f8L,length_append->f8M,eq_nil_of_length_eq_zero->f8N,mem_of_getElem?->f8O,getD_eq_getElem?_getD->f8P,take_length->f8Q,length_take->f8S,getElem?_append_right->f8T,getElem?_set_ne->f8V,getElem?_append_left->f8X,getElem?_eq_none->f8Y,getElem_of_mem->f9a,mem_map->f9i,append_nil->f9o,take_zero->f9p,any_eq_false->f9q,take_of_length_le->f9r,take_append_of_le_length->f9s,pairwise_iff_getElem->f9t,length_map->f9u,mem_replicate->f9v,findIdx?_eq_some_iff_getElem->f9x,nil_append->f9y,take_append_drop->f9A,mem_flatten->f9C,getElem?_map->f9D,mem_of_mem_drop->f9E,mem_of_mem_take->f9F,mem_take_iff_getElem->f9G,length_cons->f9J,length_singleton->f9K,getElem?_cons_zero->f9L,getElem?_set_self->f9Q,map_append->f9R,getElem?_cons_succ->f9T,length_set->f9Z,any_eq_true->g0b,mem_append_left->g0e,getElem?_set->g0f,getElem?_drop->g0j,getElem?_take->g0k,length_nil->g0n,length_replicate->g0o,cons_append->g0y,getElem_map->g0z,set_getElem_self->g0J,getElem?_append->g0L,not_mem_nil->g0M,mem_of_find?_eq_some->g0T,find?_eq_none->g0V
open Bool renaming and_eq_true->f8D,not_true->f8F,true_and->f8K,not_eq_true'->f9h,or_eq_false_iff->f9O
open Nat renaming le_refl->f8R
open Int renaming le_refl->f8Z,toNat_natCast->f9b,tmod->f9c,le_trans->f9z
noncomputable section
section
variable {N:Int->j6} {V:VR} {P:PR} {M:MS} {i:Int}
theorem MV.other{m:l8}(h:m.a9=6\/m.a9=7\/m.a9=8):MV N V P m:=⟨fun k=>by omega,fun k=>by omega,fun k=>by omega,fun k=>by omega,fun k=>by omega⟩
theorem MV.c1{m:l8}(h:m.a9=1)(x:f9c m.a8 3=m.c9/\m.g8<=(N m.c9).a6.length):MV N V P m:=⟨fun _=>x,fun k=>by omega,fun k=>by omega,fun k=>by omega,fun k=>by omega⟩
theorem MV.c2{m:l8}(h:m.a9=2)(x:m.g8<=(N m.To).a6.length/\m.a8<=(N m.c9).Acc.i0/\(∀s b e,m.g8.toNat<=s->b<m.a8->V m.c9 s b e->∃v,m.a7[s-m.g8.toNat]?=some v/\b<=v.a8)/\∀k v,m.a7[k]?=some v->v.a8>0->v.a8<=m.a8/\V m.c9 (m.g8.toNat+k) v.a8 v.g9):MV N V P m:=⟨fun k=>by omega,fun _=>x,fun k=>by omega,fun k=>by omega,fun k=>by omega⟩
theorem MV.c3{m:l8}(h:m.a9=3)(x:P m.a8 m.g8.toNat m.g9):MV N V P m:=⟨fun k=>by omega,fun k=>by omega,fun _=>x,fun k=>by omega,fun k=>by omega⟩
theorem MV.c4{m:l8}(h:m.a9=4)(x:∃e,V m.c9 m.g8.toNat m.a8 e):MV N V P m:=⟨fun k=>by omega,fun k=>by omega,fun k=>by omega,fun _=>x,fun k=>by omega⟩
theorem MV.c5{m:l8}(h:m.a9=5)(x:a1K V m.g8.toNat m.g9):MV N V P m:=⟨fun k=>by omega,fun k=>by omega,fun k=>by omega,fun k=>by omega,fun _=>x⟩
def f1n(P:PR)(b:Int)(k:Nat)(e:m4):PR:=fun c s f=>P c s f\/(c=b/\s=k/\f=e)
theorem d0g{id q:Int}(hid:D3 id)(hq:D3 q)(h:(a1y id)[q.toNat]?=some true):q=id:=by
 unfold D3 at hid hq;obtain rfl|rfl|rfl:id=0\/id=1\/id=2:=by omega
 all_goals obtain rfl|rfl|rfl:q=0\/q=1\/q=2:=by omega
 all_goals first|rfl|(exact absurd h (by decide))
theorem PX.put(h:PX N V P M)(hi:D3 i)(hph:(N i).d6=2){q:List m4}{e:m4}(hn:a2n (N i) e){a:z0}(hc:L2 (N i).Acc (N i).a8 ((N i).a6.length:Int) e=some a)(hni:NI {N i with f0:=q,Acc:=a,d6:=3,c8:=e,a7:=a1y (N i).Id}):PX (upd N i {N i with f0:=q,Acc:=a,d6:=3,c8:=e,a7:=a1y (N i).Id}) (a7T V i (N i).a6.length (N i).a8 e) (f1n P (N i).a8 (N i).a6.length e) M:=by
 obtain ⟨k,hk0,hk,h1,h2,h3,h4,he,c1,c2⟩:=d0U h hi hc;obtain rfl:k=(N i).a6.length:=by omega
 obtain ⟨l1,l2⟩:=(h.ld i hi).l2 hph;have hown:=(h.ni i hi).1.ld.own (by omega);have hid:=(h.ni i hi).2;have hbs:=(h.ld i hi).bs (by omega);generalize hn':({N i with f0:=q,Acc:=a,d6:=3,c8:=e,a7:=a1y (N i).Id}:j6)=n' at hni ⊢;have f1:n'.Acc=a:=by rw [<-hn']
 have f2:n'.a6=(N i).a6:=by rw [<-hn']
 have f3:n'.a8=(N i).a8:=by rw [<-hn']
 have f4:n'.i4=(N i).i4:=by rw [<-hn']
 have f5:n'.d6=3:=by rw [<-hn']
 have f6:n'.c8=e:=by rw [<-hn']
 have f7:n'.a7=a1y i:=by rw [<-hn'];exact congrArg a1y hid
 have f8:n'.Id=i:=by rw [<-hn'];exact hid
 have hpr:(N i).Acc.i0<=n'.Acc.i0:=by rw [f1,h4];exact h3
 have hcov:∀a,Cov N V (N i) a->Cov (upd N i n') (a7T V i (N i).a6.length (N i).a8 e) n' a:=fun a c=>by
  refine ⟨by rw [f3];exact f9z c.pr (a89 hpr a),?_⟩;rw [f2,f3,f4];exact fun s b f hs hb v=>c.cv s b f hs hb (c5x h3 c.pr hb v)
 have hsf:∀a,Cov N V (N i) a->Sf (upd N i n') (a7T V i (N i).a6.length (N i).a8 e) (N i).a8 (N i).a6.length e a:=fun a c=>by
  refine ⟨f9z c.pr (a89 hpr a),fun b' e' hb v => ?_⟩;have v:=c5x h3 c.pr hb v;obtain ⟨w,w1,w2⟩:=c.cv _ _ _ (f8R _) hb v;have hb1:=(h.vp _ _ _ _ v).2.2.1;have hw:w.a8>0:=by omega
  have hno:∀{p:Prop},(∀v∈(N i).i4.drop (N i).a6.length,¬v.a8>0)->p:=fun hn=>by
   refine absurd hw (hn w ?_);exact f8O (i:=0) (by rw [g0j];exact w1)
  cases hn with
  | best u hu hub=>
   rw [w1] at hu;injection hu with hu;subst hu;obtain ⟨y1,q1,y2⟩:=hbs _ _ w1 hw;exact ⟨w.a8,q1,w2,y1,.inl y2⟩
  | gap u hu hub hn=>exact absurd hw (hn w w1)
  | want hb hk hn=>exact hno hn
  | queue e he hk hn=>exact hno hn
 refine h.step hi ⟨hni,f8,hpr,by rw [f2];exact f8R _,fun _ _ _ _ v=>.inl v,fun q s c f v => ?_,fun _ _ _ p=>.inl p,fun b s f p => ?_,by rw [f1];exact c1,by rw [f1];exact c2,?_,by rw [f2];exact fun s e hk=>(h.kn i s e hi hk).mono fun _ _ _ _ v=>.inl v,fun m hm=>.inl hm⟩
 ·rcases v with v|⟨rfl,rfl,rfl,rfl⟩
  ·exact .inl v
  ·exact .inr ⟨rfl,h3,h1,by rw [f1,h4];exact f8Z _,.inr ⟨rfl,rfl,rfl⟩⟩
 ·rcases p with p|⟨rfl,rfl,rfl⟩
  ·exact .inl p
  ·refine .inr ⟨f3.symm,f5,fun e' p' => ?_,l2.imp fun a _=>hsf a⟩;rcases p' with p'|⟨_,_,x⟩
   ·exact absurd (l1 _ _ p') (by omega)
   ·exact x
 ·refine ⟨fun _ => ?_,fun q=>by omega,fun q=>by omega,fun _ => ?_⟩
  ·rw [f3,f4];intro s v hs hv;obtain ⟨x1,q1,x2⟩:=hbs s v hs hv;exact ⟨x1,q1,.inl x2⟩
  ·rw [f2,f3,f6,f7];refine ⟨.inr ⟨rfl,rfl,rfl⟩,fun s f p => ?_,l2.imp fun a _=>hcov a,fun q hq hm => ?_⟩
   ·rcases p with p|⟨_,rfl,_⟩
    ·exact Nat.le_of_lt (l1 _ _ p)
    ·exact f8R _
   ·rw [d0g hi hq hm];exact .inr ⟨rfl,rfl,rfl,rfl⟩
theorem PX.queue(h:PX N V P M)(hi:D3 i){q:List m4}(hl:q.length<=4)(hm:∀e∈q,z4 e=true/\e.i7=false):PX (upd N i {N i with f0:=q}) V P M:=
 h.keep hi ((h.ni i hi).1.queue hl hm) (h.ni i hi).2 (f8Z _) rfl rfl rfl rfl rfl rfl rfl rfl
theorem PX.propose(h:PX N V P M)(hi:D3 i):N3 N M i (M1 (N i)).1 (M1 (N i)).2:=by
 have hr:=a9C (h.ni i hi).1;unfold M1 at hr ⊢;cases hc:(N i).d6 != 2||decide (40<=(N i).a6.length)
 case true=>exact .same h
 rw [hc] at hr;simp only [g00] at hr ⊢;simp only [f9O,bne_eq_false_iff_eq,decide_eq_false_iff_not] at hc;obtain ⟨q,hq,hql,hqm,hqe⟩:=a9I (N i);cases hx:a02 (N i) with
 | mk x o=>
 rw [hx] at hr hq hqe;have hq:x={N i with f0:=q}:=hq;subst hq;have hQ:PX (upd N i {N i with f0:=q}) V P M:=h.queue hi (by have:=(h.ni i hi).1.ql;omega) fun e he=>(h.ni i hi).1.qs e (hqm e he)
 cases o with
 | none=>exact ⟨V,P,by rw [a8D];exact hQ⟩
 | some e=>
  simp only [a7k] at hr ⊢;cases hcs:L2 (N i).Acc (N i).a8 ((N i).a6.length:Int) e with
  | none=>
   have:=hQ.down hi;rw [T5,a3o] at this;exact ⟨V,P,by rw [a8D];exact this⟩
  | some a=>
   rw [hcs] at hr;have hid:=(h.ni i hi).2;refine ⟨_,_,PX.send (h.put hi hc.1 (hqe e rfl) hcs hr.ni) fun m hm=>⟨hr.ms m hm,?_⟩⟩;obtain ⟨t,_,_,_,rfl⟩:=a4r (h.ni i hi).1.id hm;exact .c3 rfl (.inr ⟨rfl,rfl,rfl⟩)
theorem N3.then{n1 n2:j6}{l1 l2:List l8}(h1:N3 N M i n1 l1)(h2:∀V P,PX (upd N i n1) V P (snd M l1)->N3 (upd N i n1) (snd M l1) i n2 l2):N3 N M i n2 (l1++l2):=by
 obtain ⟨V1,P1,h1⟩:=h1;obtain ⟨V2,P2,h2⟩:=h2 V1 P1 h1;rw [a3o,d7S] at h2;exact ⟨V2,P2,h2⟩
theorem PX.learn(h:PX N V P M)(hi:D3 i){e:m4}(he:z4 e=true)(hl:(N i).a6.length<40)(hc:a1K V (N i).a6.length e):N3 N M i (Y5 (N i) e).1 (Y5 (N i) e).2.1:=by
 have h1:=h.know hi he hl hc;have h2:=h1.free hi;rw [T5,a3o] at h2;have h3:=h2.propose hi;rw [T5] at h3;obtain ⟨V',P',h3⟩:=h3;rw [a3o] at h3;exact ⟨V',P',h3⟩
theorem PX.rise(h:PX N V P M)(hi:D3 i):N3 N M i (Y7 (N i)).1 (Y7 (N i)).2:=by
 have hni:=(h.ni i hi).1;have hid:=(h.ni i hi).2;have hr:=a91 hni;unfold Y7 at hr ⊢;cases hd:decide (M2 (N i).Acc.i0 (N i).Id<0);case true=>exact .same h
 rw [hd] at hr;simp only [g00] at hr ⊢;simp only [decide_eq_false_iff_not] at hd;rcases c0Q hni.pr hni.id with q|⟨q1,q2,q3,q4⟩
 ·omega
 generalize M2 (N i).Acc.i0 (N i).Id=b at *;have hld:∀(n':j6),n'.d6=1->n'.a8=b->n'.a6=(N i).a6->n'.i4=(N i).Acc.a7->n'.c9=a1y i->n'.Acc.i0=b->LD (upd N i n') V P n':=by
  intro n' e1 e2 e3 e4 e5 e6;refine ⟨fun _ => ?_,fun _=>⟨?_,?_⟩,fun q=>by omega,fun q=>by omega⟩
  ·rw [e2,e4];intro s v hs hv;have hv':=h.cur i s v hi hs hv;exact ⟨by have:=(h.vp _ _ _ _ hv').2.2.2;omega,i,hv'⟩
  ·rw [e2];intro s e p;have:=(h.po _ _ _ p).2;rw [q4,hid] at this;omega
  ·rw [e5];intro q hq hm;rw [d0g hi hq hm];refine ⟨by rw [e2,T5,e6];exact f8Z _,?_⟩;rw [e4];exact fun s b e _ _ v=>h.max i s b e v
 refine ⟨V,P,PX.send (h.quiet hi hr.ni (hr.id.trans hid) (Int.le_of_lt q1) rfl rfl (hld _ rfl rfl rfl rfl (by rw [hid]) rfl)) fun m hm=>⟨hr.ms m hm,?_⟩⟩;obtain ⟨t,_,_,_,rfl⟩:=a4r hni.id hm;refine .c1 rfl ⟨q4,?_⟩;simp only [hid,T5];exact f8Z _
theorem d0I{l:List Bool}(hl:l.length=3)(h:N7 l=true):Quo fun q=>l[q.toNat]?=some true:=by
 match l,hl with
 | [a,b,c],_=>
  cases a<;>cases b<;>cases c<;>first|(exact absurd h (by decide))|exact ⟨0,1,by unfold D3;omega,by unfold D3;omega,by decide,rfl,rfl⟩|exact ⟨0,2,by unfold D3;omega,by unfold D3;omega,by decide,rfl,rfl⟩|exact ⟨1,2,by unfold D3;omega,by unfold D3;omega,by decide,rfl,rfl⟩
theorem d04{l:List Bool}{f q:Int}(hf:D3 f)(hq:D3 q)(h:(l.set f.toNat true)[q.toNat]?=some true):q=f\/l[q.toNat]?=some true:=by
 unfold D3 at hf hq;rw [g0f] at h;split at h
 ·left;omega
 ·exact .inr h
end
section
variable {N:Int->j6} {V:VR} {P:PR} {M:MS} {i:Int} {m:l8}
theorem N3.reply(h:PX N V P M){r:l8}(h1:MI r)(h2:r.a9=6\/r.a9=7\/r.a9=8):N3 N M i (N i) [r]:=
 ⟨V,P,by rw [a8X];exact h.send fun x hx=>by rw [f8H.1 hx];exact ⟨h1,.other h2⟩⟩
theorem PX.tPrepare(h:PX N V P M)(hi:D3 i)(hm:M m)(hto:m.To=i)(hk:m.a9=1):N3 N M i (a2g (N i) m).1 (a2g (N i) m).2:=by
 obtain ⟨mi,mv⟩:=h.ms m hm;obtain ⟨hni,hid⟩:=h.ni i hi;have hr:=d5S hni mi hk;unfold a2g at hr ⊢;cases hp:I6 (N i).Acc m.a8 with
 | none=>
  rw [hp] at hr;exact .reply h (hr.ms _ (f8H.2 rfl)) (.inl rfl)
 | some x=>
  rw [hp] at hr;have h1:=(h.promise hi hp).yield hi m.a8;rw [T5,a3o] at h1;obtain ⟨rfl,b1,b2,b3⟩:=a4q hp;refine ⟨V,P,h1.send fun r hr'=>⟨hr.ms r hr',?_⟩⟩;rw [f8H.1 hr'];obtain ⟨s1,s2⟩:=mv.k1 hk;have hacc:(N9 {N i with Acc:=⟨m.a8,(N i).Acc.a7⟩} m.a8).Acc=⟨m.a8,(N i).Acc.a7⟩:=d4O _ _;have hne:m.c9≠i:=fun q=>mi.ne (by rw [q,hto])
  have hsl:=mi.sl;refine .c2 rfl ⟨?_,?_,?_,?_⟩
  ·show m.g8<=((upd N i _ m.c9).a6.length:Int)
   rw [a9S _ hne];exact s2
  ·show m.a8<=(upd N i _ m.To).Acc.i0
   rw [hto,T5,hacc];exact f8Z _
  ·show ∀s b e,m.g8.toNat<=s->b<m.a8->V m.To s b e->∃v,((N i).Acc.a7.drop m.g8.toNat)[s-m.g8.toNat]?=some v/\b<=v.a8
   rw [hto];intro s b e hs _ v;obtain ⟨w,w1,w2⟩:=h.max _ _ _ _ v;exact ⟨w,by rw [g0j,show m.g8.toNat+(s-m.g8.toNat)=s by omega];exact w1,w2⟩
  ·show ∀k v,((N i).Acc.a7.drop m.g8.toNat)[k]?=some v->v.a8>0->v.a8<=m.a8/\V m.To (m.g8.toNat+k) v.a8 v.g9
   rw [hto];intro k v hk hv;rw [g0j] at hk;have hv':=h.cur i _ v hi hk hv;exact ⟨f9z (h.vp _ _ _ _ hv').2.2.2 b3,hv'⟩
theorem PX.tAccept(h:PX N V P M)(hi:D3 i)(hm:M m)(hto:m.To=i)(hk:m.a9=3):N3 N M i (a1I (N i) m).1 (a1I (N i) m).2:=by
 obtain ⟨mi,mv⟩:=h.ms m hm;obtain ⟨hni,hid⟩:=h.ni i hi;have hr:=d67 hni mi hk;unfold a1I at hr ⊢;cases hp:L2 (N i).Acc m.a8 m.g8 m.g9 with
 | none=>
  rw [hp] at hr;exact .reply h (hr.ms _ (f8H.2 rfl)) (.inl rfl)
 | some x=>
  rw [hp] at hr;have h1:=(h.vote hi hp (mv.k3 hk)).yield hi m.a8;rw [T5,a3o] at h1;refine ⟨_,P,h1.send fun r hr'=>⟨hr.ms r hr',?_⟩⟩;rw [f8H.1 hr'];refine .c4 rfl ⟨m.g9,.inr ⟨hto,rfl,rfl,rfl⟩⟩
theorem d7c{a b:List m8}{s:Nat}{v:m8}(h:a[s]?=some v\/b[s]?=some v):∃w,(E0 a b)[s]?=some w/\v.a8<=w.a8:=by
 rw [b08];cases ha:a[s]? with
 | none=>
  rw [ha] at h;rcases h with h|h
  ·cases h
  ·rw [h];exact ⟨v,rfl,f8Z _⟩
 | some x=>
  cases hb:b[s]? with
  | none=>
   rw [ha,hb] at h;rcases h with h|h
   ·injection h with h;subst h;exact ⟨x,rfl,f8Z _⟩
   ·cases h
  | some y=>
   rw [ha,hb] at h;simp only;cases hd:decide (y.a8>x.a8)
   ·refine ⟨x,rfl,?_⟩;simp only [decide_eq_false_iff_not] at hd;rcases h with h|h
    ·injection h with h;subst h;exact f8Z _
    ·injection h with h;subst h;omega
   ·refine ⟨y,rfl,?_⟩;simp only [decide_eq_true_eq] at hd;rcases h with h|h
    ·injection h with h;subst h;omega
    ·injection h with h;subst h;exact f8Z _
theorem e1a{a b:List m8}{s:Nat}{w:m8}(h:(E0 a b)[s]?=some w):a[s]?=some w\/b[s]?=some w:=by
 rw [b08] at h;cases ha:a[s]? with
 | none=>
  rw [ha] at h;cases hb:b[s]? with
  | none=>rw [hb] at h;cases h
  | some y=>rw [hb] at h;exact .inr h
 | some x=>
  rw [ha] at h;cases hb:b[s]? with
  | none=>rw [hb] at h;exact .inl h
  | some y=>
   rw [hb] at h;simp only at h;cases hd:decide (y.a8>x.a8)
   ·rw [hd] at h;exact .inl h
   ·rw [hd] at h;exact .inr h
theorem f0r{vs:List m8}{k s:Nat}{v:m8}(h:(f8A k v0++vs)[s]?=some v)(hv:v.a8>0):k<=s/\vs[s-k]?=some v:=by
 rw [g0L] at h;split at h
 ·rw [List.getElem?_replicate] at h;split at h
  ·injection h with h;subst h;exact absurd hv (by decide)
  ·cases h
 ·rename_i hge;rw [g0o] at h hge;exact ⟨by omega,h⟩
theorem PX.tPromise(h:PX N V P M)(hi:D3 i)(hm:M m)(hto:m.To=i)(hk:m.a9=2):N3 N M i (a1A (N i) m).1 (a1A (N i) m).2:=by
 obtain ⟨mi,mv⟩:=h.ms m hm;obtain ⟨hni,hid⟩:=h.ni i hi;have hr:=c4P hni mi hk;have hsl:=mi.sl;have hfr:D3 m.c9:=mi.fr;obtain ⟨s1,s2,s3,s4⟩:=mv.k2 hk;rw [hto] at s1;unfold a1A at hr ⊢;cases hc:(N i).d6 != 1||m.a8 != (N i).a8
 case true=>exact .same h
 rw [hc] at hr;simp only [g00] at hr ⊢;simp only [f9O,bne_eq_false_iff_eq] at hc;obtain ⟨hp1,hbal⟩:=hc;have hld:=h.ld i hi;obtain ⟨l1,l2⟩:=hld.l1 hp1;have hfl:(N i).c9.length=3:=by
  rcases hni.ld with q|q|q|q
  ·omega
  ·exact q.2.2.1
  all_goals exact absurd q.1 (by omega)
 have hkl:m.g8.toNat<=(N i).a6.length:=by omega
 have hbs:∀s v,(E0 (N i).i4 (f8A m.g8.toNat v0++m.a7))[s]?=some v->v.a8>0->v.a8<(N i).a8/\∃q,V q s v.a8 v.g9:=by
  intro s v hs hv;rcases e1a hs with q|q
  ·exact hld.bs (by omega) s v q hv
  ·obtain ⟨g1,g2⟩:=f0r q hv;obtain ⟨g3,g4⟩:=s4 _ v g2 hv;rw [show m.g8.toNat+(s-m.g8.toNat)=s by omega] at g4;refine ⟨?_,_,g4⟩;have hpp:=(h.vp _ _ _ _ g4).2.1;rcases Int.lt_or_le v.a8 (N i).a8 with q|q
   ·exact q
   ·exact absurd (show P (N i).a8 s v.g9 by rw [show (N i).a8=v.a8 by omega];exact hpp) (l1 _ _)
 have hcov:∀(n':j6),n'.Acc=(N i).Acc->n'.a8=(N i).a8->n'.a6=(N i).a6->n'.i4=E0 (N i).i4 (f8A m.g8.toNat v0++m.a7)->∀q,D3 q->((N i).c9.set m.c9.toNat true)[q.toNat]?=some true->Cov (upd N i n') V n' q:=by
  intro n' e0 e1 e2 e3 q hq hf;have hpr:∀q,(N q).Acc.i0<=(upd N i n' q).Acc.i0:=a89 (by rw [e0];exact f8Z _)
  rcases d04 hfr hq hf with rfl|hf
  ·refine ⟨by rw [e1,<-hbal];exact f9z s2 (hpr _),?_⟩;rw [e1,e2,e3];intro s b e hs hb v;obtain ⟨w,w1,w2⟩:=s3 s b e (by omega) (by rw [hbal];exact hb) v;have hw:(f8A m.g8.toNat v0++m.a7)[s]?=some w:=by
    rw [f8T (by rw [g0o];omega),g0o];exact w1
   obtain ⟨u,u1,u2⟩:=d7c (a:=(N i).i4) (.inr hw);exact ⟨u,u1,by omega⟩
  ·have c:=l2 q hq hf;refine ⟨by rw [e1];exact f9z c.pr (hpr _),?_⟩;rw [e1,e2,e3];intro s b e hs hb v;obtain ⟨w,w1,w2⟩:=c.cv s b e hs hb v;obtain ⟨u,u1,u2⟩:=d7c (b:=f8A m.g8.toNat v0++m.a7) (.inl w1);exact ⟨u,u1,by omega⟩
 cases htw:N7 ((N i).c9.set m.c9.toNat true)
 ·rw [htw] at hr;simp only [g00] at hr ⊢;refine ⟨V,P,by rw [a8D];exact h.quiet hi hr.ni hid (f8Z _) rfl rfl ⟨fun _=>hbs,fun _=>⟨l1,fun q hq hf=>hcov _ (by rfl) (by rfl) (by rfl) (by rfl) q hq hf⟩,fun q=>absurd (hp1.symm.trans q) (by decide),fun q=>absurd (hp1.symm.trans q) (by decide)⟩⟩
 ·simp only [g0Z];have hq:=d0I (by rw [f9Z];exact hfl) htw;have hown:=hni.ld.own (by omega);have hmv:m.a7.length<=40/\(∀v∈m.a7,VI v)/\m.g8+m.a7.length<=40:=by
   rcases mi.kd with q|q|q|q|q|q|q
   ·omega
   ·exact ⟨q.2.2.2.1.1,q.2.2.2.1.2,q.2.2.2.2⟩
   all_goals exact absurd q.1 (by omega)
  have hquiet:(N i).c8=zE/\(N i).a7=[]:=by
   rcases hni.ld with q|q|q|q
   ·omega
   ·exact ⟨q.2.2.2.2.1,q.2.2.2.2.2⟩
   all_goals exact absurd q.1 (by omega)
  have hni2:NI {N i with c9:=[],i4:=E0 (N i).i4 (f8A m.g8.toNat v0++m.a7),d6:=2}:=by
   refine ⟨hni.id,hni.pr,hni.vl,hni.vs,hni.kl,hni.ks,hni.sq,hni.ql,hni.qs,.inr (.inr (.inl ⟨rfl,⟨hown.b1,hown.b2,hown.mod,hown.pr,?_,?_⟩,rfl,hquiet.1,hquiet.2⟩)),hni.wt⟩
   ·have hbl:=hown.bl;show (E0 _ _).length<=40
    rw [a71,f8M,g0o];omega
   ·intro v hv;rcases b1c hv with q|q
    ·exact hown.bs v q
    ·rcases f8B.1 q with q|q
     ·rw [(f9v.1 q).2];exact .inl rfl
     ·exact hmv.2.1 v q
  have h2:PX (upd N i {N i with c9:=[],i4:=E0 (N i).i4 (f8A m.g8.toNat v0++m.a7),d6:=2}) V P M:=
   h.quiet hi hni2 hid (f8Z _) rfl rfl ⟨fun _=>hbs,fun q=>absurd (show (2:Int)=1 from q) (by decide),fun _=>⟨fun s e p=>absurd p (l1 s e),hq.imp fun q hq hf=>hcov _ (by rfl) (by rfl) (by rfl) (by rfl) q hq hf⟩,fun q=>absurd (show (2:Int)=3 from q) (by decide)⟩
  have h3:=h2.propose hi;rw [T5] at h3;obtain ⟨V',P',h3⟩:=h3;rw [a3o] at h3;exact ⟨V',P',h3⟩
theorem PX.tAccepted(h:PX N V P M)(hi:D3 i)(hm:M m)(hto:m.To=i)(hk:m.a9=4):N3 N M i (a2M (N i) m).1 (a2M (N i) m).2.1:=by
 obtain ⟨mi,mv⟩:=h.ms m hm;obtain ⟨hni,hid⟩:=h.ni i hi;have hr:=d8v hni mi;have hfr:D3 m.c9:=mi.fr;obtain ⟨e',ve⟩:=mv.k4 hk;unfold a2M at hr ⊢;cases hc:(N i).d6 != 3||(m.a8 != (N i).a8||m.g8 != ((N i).a6.length:Int))
 case true=>exact .same h
 rw [hc] at hr;simp only [g00] at hr ⊢;simp only [f9O,bne_eq_false_iff_eq] at hc;obtain ⟨hp3,hbal,hsl⟩:=hc;rw [hsl,hbal,f9b] at ve;have hld:=h.ld i hi;obtain ⟨l1,l2,l3,l4⟩:=hld.l3 hp3;have he':e'=(N i).c8:=h.pu _ _ _ _ (h.vp _ _ _ _ ve).2.1 l1;subst he';have hlead:Own (N i)/\(N i).c9=[]/\z4 (N i).c8=true/\(N i).a7.length=3/\(N i).a7[(N i).Id.toNat]?=some true/\(N i).a6.length<40:=by
  rcases hni.ld with q|q|q|q
  ·omega
  ·omega
  ·omega
  ·exact q.2
 obtain ⟨o1,o2,o3,o4,o5,o6⟩:=hlead;have hmk:∀q,D3 q->((N i).a7.set m.c9.toNat true)[q.toNat]?=some true->V q (N i).a6.length (N i).a8 (N i).c8:=by
  intro q hq hf;rcases d04 hfr hq hf with rfl|hf
  ·exact ve
  ·exact l4 q hq hf
 have hni2:NI {N i with a7:=(N i).a7.set m.c9.toNat true}:=
  ⟨hni.id,hni.pr,hni.vl,hni.vs,hni.kl,hni.ks,hni.sq,hni.ql,hni.qs,.inr (.inr (.inr ⟨hp3,o1,o2,o3,by simpa using o4,by
   show ((N i).a7.set m.c9.toNat true)[(N i).Id.toNat]?=some true
   rw [g0f];split
   ·rename_i hq;have:=hni.id;rw [if_pos (by omega)]
   ·exact o5,o6⟩)),hni.wt⟩
 have h2:PX (upd N i {N i with a7:=(N i).a7.set m.c9.toNat true}) V P M:=by
  refine h.quiet hi hni2 hid (f8Z _) rfl rfl ⟨fun h0=>hld.bs h0,fun q=>absurd (hp3.symm.trans q) (by decide),fun q=>absurd (hp3.symm.trans q) (by decide),fun _=>⟨l1,l2,l3.imp fun a _ c=>⟨f9z c.pr (a89 (n':={N i with a7:=(N i).a7.set m.c9.toNat true}) (f8Z _) a),c.cv⟩,hmk⟩⟩
 cases htw:N7 ((N i).a7.set m.c9.toNat true)
 ·simp only [g00];exact ⟨V,P,by rw [a8D];exact h2⟩
 ·rw [htw] at hr;simp only [g0Z] at hr ⊢;have hq:=d0I (by rw [f9Z];exact o4) htw;have hch:a1K V (N i).a6.length (N i).c8:=by
   obtain ⟨a,b,ha,hb,hab,x,y⟩:=hq;exact ⟨(N i).a8,a,b,ha,hb,hab,hmk a ha x,hmk b hb y⟩
  refine N3.then (n1:={N i with a7:=(N i).a7.set m.c9.toNat true}) ⟨V,P,h2.send fun x hx=>⟨hr.ms x (g0e _ hx),?_⟩⟩ fun V2 P2 hp => ?_
  ·obtain ⟨t,_,_,_,rfl⟩:=a4r hni.id hx;exact .c5 rfl hch
  ·have h3:PX (upd N i {N i with a7:=(N i).a7.set m.c9.toNat true}) V P (snd M (I8 (N i).Id ⟨5,0,0,0,((N i).a6.length:Int),(N i).c8,[]⟩)):=h2.send fun x hx=>⟨hr.ms x (g0e _ hx),by
    obtain ⟨t,_,_,_,rfl⟩:=a4r hni.id hx;exact .c5 rfl hch⟩
   have h4:=h3.learn hi (e:=(N i).c8) o3 (by rw [T5];exact o6) (by rw [T5];exact hch);rw [T5] at h4;exact h4
theorem PX.tChosen(h:PX N V P M)(hi:D3 i)(hm:M m)(hto:m.To=i)(hk:m.a9=5):N3 N M i (a2I (N i) m).1 (a2I (N i) m).2.1:=by
 obtain ⟨mi,mv⟩:=h.ms m hm;obtain ⟨hni,hid⟩:=h.ni i hi;have hr:=d6l hni mi hk;have hch:=mv.k5 hk;have hsl:=mi.sl;have hkd:m.g8<40/\z4 m.g9=true:=by
  rcases mi.kd with q|q|q|q|q|q|q
  ·omega
  ·omega
  ·omega
  ·exact ⟨q.2.2.1,q.2.2.2.1⟩
  all_goals exact absurd q.1 (by omega)
 unfold a2I at hr ⊢;cases h1:decide (m.g8<((N i).a6.length:Int));case true=>exact .same h
 rw [h1] at hr;cases h2:decide (m.g8>((N i).a6.length:Int))
 ·simp only [g00];simp only [decide_eq_false_iff_not] at h1 h2;refine h.learn hi hkd.2 (by omega) ?_;rw [show (N i).a6.length=m.g8.toNat by omega];exact hch
 ·rw [h2] at hr;simp only [g00,g0Z] at hr ⊢;exact .reply h (hr.ms _ (f8H.2 rfl)) (.inr (.inr rfl))
theorem PX.tAsk(h:PX N V P M)(hi:D3 i)(hm:M m)(hto:m.To=i)(hk:m.a9=7):N3 N M i (a1H (N i) m).1 (a1H (N i) m).2:=by
 obtain ⟨mi,mv⟩:=h.ms m hm;obtain ⟨hni,hid⟩:=h.ni i hi;obtain ⟨e1,e2⟩:z4 m.g9=true/\m.g9.i7=false:=by
  rcases mi.kd with q|q|q|q|q|q|q
  ·omega
  ·omega
  ·omega
  ·omega
  ·omega
  ·exact ⟨q.2.2.2.1,q.2.2.2.2.1⟩
  ·omega
 unfold a1H;cases hc:(N i).d6==0||(decide (4<=(N i).f0.length)||N6 (N i).a6 m.g9.a5)
 case true=>exact .same h
 simp only [g00];simp only [f9O,decide_eq_false_iff_not] at hc;have h1:=h.queue hi (q:=(N i).f0++[m.g9]) (by rw [f8M,f9K];omega) (by
  intro e he;rcases f8B.1 he with q|q
  ·exact hni.qs e q
  ·rw [f8H.1 q];exact ⟨e1,e2⟩)
 have h2:=h1.propose hi;rw [T5] at h2;obtain ⟨V',P',h2⟩:=h2;rw [a3o] at h2;exact ⟨V',P',h2⟩
theorem PX.tNeed(h:PX N V P M)(hi:D3 i)(hm:M m):N3 N M i (N i) (a4j (N i) m):=by
 obtain ⟨mi,mv⟩:=h.ms m hm;obtain ⟨hni,hid⟩:=h.ni i hi;have hr:=d3c hni mi;refine ⟨V,P,?_⟩;rw [a8X];refine h.send fun x hx=>⟨hr x hx,?_⟩
 unfold a4j at hx;obtain ⟨l,hl,hx⟩:=f9C.1 hx;obtain ⟨j,hj,rfl⟩:=f9i.1 hl;unfold a1l at hx;cases hk:(N i).a6[m.g8.toNat+j]? with
 | none=>rw [hk] at hx;cases hx
 | some e=>
  rw [hk] at hx;rw [f8H.1 hx];refine .c5 rfl ?_;exact h.kn i _ e hi hk
theorem PX.tRefuse(h:PX N V P M)(hi:D3 i)(b:Int):N3 N M i (N9 {N i with Acc:=(I6 (N i).Acc b).getD (N i).Acc} b) []:=by
 refine ⟨V,P,?_⟩;rw [a8D];cases hp:I6 (N i).Acc b with
 | none=>exact h.yield hi b
 | some x=>
  have h1:=(h.promise hi hp).yield hi b;rw [T5,a3o] at h1;exact h1
theorem PX.take(h:PX N V P M)(hi:D3 i)(hm:M m)(hto:m.To=i):N3 N M i (W7 (N i) m).1 (W7 (N i) m).2.1:=by
 unfold W7;by_cases k1:m.a9=1
 ·rw [show (m.a9==1)=true by simpa using k1];exact h.tPrepare hi hm hto k1
 rw [show (m.a9==1)=false by simpa using k1];by_cases k2:m.a9=2
 ·rw [show (m.a9==2)=true by simpa using k2];exact h.tPromise hi hm hto k2
 rw [show (m.a9==2)=false by simpa using k2];by_cases k3:m.a9=3
 ·rw [show (m.a9==3)=true by simpa using k3];exact h.tAccept hi hm hto k3
 rw [show (m.a9==3)=false by simpa using k3];by_cases k4:m.a9=4
 ·rw [show (m.a9==4)=true by simpa using k4];exact h.tAccepted hi hm hto k4
 rw [show (m.a9==4)=false by simpa using k4];by_cases k5:m.a9=5
 ·rw [show (m.a9==5)=true by simpa using k5];exact h.tChosen hi hm hto k5
 rw [show (m.a9==5)=false by simpa using k5];by_cases k6:m.a9=6
 ·rw [show (m.a9==6)=true by simpa using k6];exact h.tRefuse hi m.a8
 rw [show (m.a9==6)=false by simpa using k6];by_cases k7:m.a9=7
 ·rw [show (m.a9==7)=true by simpa using k7];exact h.tAsk hi hm hto k7
 rw [show (m.a9==7)=false by simpa using k7];cases m.a9==8
 ·exact .same h
 ·exact h.tNeed hi hm
end
section
variable {N:Int->j6} {V:VR} {P:PR} {M:MS} {i:Int}
theorem N3.to{n1 n2:j6}{l:List l8}(h1:PX (upd N i n1) V P M)(h2:N3 (upd N i n1) M i n2 l):N3 N M i n2 l:=by
 obtain ⟨V',P',h2⟩:=h2;rw [a3o] at h2;exact ⟨V',P',h2⟩
theorem PX.ask(h:PX N V P M)(hi:D3 i){p:List n8}(hp:s8 p):N3 N M i (K9 (N i) p).1 (K9 (N i) p).2:=by
 obtain ⟨hni,hid⟩:=h.ni i hi;have hr:=b1E hni hp;rw [a2r] at hr ⊢;cases hc:L6 (N i) p;case false=>exact .same h
 rw [hc] at hr;have hn:=hni.asked hp hc;have h1:PX (upd N i (Q2 (N i) p)) V P M:=h.keep hi hn hid (f8Z _) rfl rfl rfl rfl rfl rfl rfl rfl;simp only [g0Z] at hr ⊢;cases h2:(N i).d6==2
 ·rw [h2] at hr;simp only [g00] at hr ⊢;refine .to h1 ⟨V,P,?_⟩;rw [a3o];refine h1.send fun x hx=>⟨hr.ms x hx,?_⟩
  cases h0:(N i).d6==0
  ·rw [h0] at hx;cases hx
  ·rw [h0] at hx;obtain ⟨t,_,_,_,rfl⟩:=a4r hni.id hx;exact .other (.inr (.inl rfl))
 ·simp only [g0Z];have h3:=h1.propose hi;rw [T5] at h3;exact .to h1 h3
theorem PX.retry(h:PX N V P M)(hi:D3 i):N3 N M i (W2 (N i)).1 (W2 (N i)).2:=by
 obtain ⟨hni,hid⟩:=h.ni i hi;have hr:=a9R hni;have hneed:∀x∈I8 (N i).Id ⟨8,0,0,0,((N i).a6.length:Int),zE,[]⟩,MV N V P x:=fun x hx=>by
  obtain ⟨t,_,_,_,rfl⟩:=a4r hni.id hx;exact .other (.inr (.inr rfl))
 have go:∀{l:List l8},(∀x∈I8 (N i).Id ⟨8,0,0,0,((N i).a6.length:Int),zE,[]⟩++l,MI x)->(∀x∈l,MV N V P x)->N3 N M i (N i) (I8 (N i).Id ⟨8,0,0,0,((N i).a6.length:Int),zE,[]⟩++l):=fun {l} hm hv=>
  ⟨V,P,by rw [a8X];exact h.send fun x hx=>⟨hm x hx,(f8B.1 hx).elim (hneed x) (hv x)⟩⟩
 unfold W2 at hr ⊢;by_cases h1:(N i).d6=1
 ·rw [show ((N i).d6==1)=true by simpa using h1] at hr ⊢;refine go hr.ms fun x hx => ?_
  obtain ⟨t,_,_,_,rfl⟩:=a4r hni.id hx;exact .c1 rfl ⟨(hni.ld.own (by omega)).mod,by show _<=((N (N i).Id).a6.length:Int);rw [hid];exact f8Z _⟩
 rw [show ((N i).d6==1)=false by simpa using h1] at hr ⊢;by_cases h2:(N i).d6=2
 ·rw [show ((N i).d6==2)=true by simpa using h2] at hr ⊢;simp only [g0Z,g00] at hr ⊢;have hs:PX N V P (snd M (I8 (N i).Id ⟨8,0,0,0,((N i).a6.length:Int),zE,[]⟩)):=h.send fun x hx=>⟨hr.ms x (g0e _ hx),hneed x hx⟩
  obtain ⟨V',P',h3⟩:=hs.propose hi;rw [d7S] at h3;exact ⟨V',P',h3⟩
 rw [show ((N i).d6==2)=false by simpa using h2] at hr ⊢;by_cases h3:(N i).d6=3
 ·rw [show ((N i).d6==3)=true by simpa using h3] at hr ⊢;refine go hr.ms fun x hx => ?_
  obtain ⟨t,_,_,_,rfl⟩:=a4r hni.id hx;exact .c3 rfl ((h.ld i hi).l3 h3).1
 rw [show ((N i).d6==3)=false by simpa using h3] at hr ⊢;cases hb:(N i).i9
 ·rw [hb] at hr;refine ⟨V,P,?_⟩;show PX (upd N i (N i)) V P _
  rw [a8X];exact h.send fun x hx=>⟨hr.ms x hx,hneed x hx⟩
 ·rw [hb] at hr;refine go hr.ms fun x hx => ?_
  obtain ⟨t,_,_,_,rfl⟩:=a4r hni.id hx;exact .other (.inr (.inl rfl))
theorem PX.fall(h:PX N V P M)(hi:D3 i):N3 N M i (a1d (N i)) []:=
 ⟨V,P,by rw [a8D];exact h.quiet hi (h.ni i hi).1.fall (h.ni i hi).2 (f8Z _) rfl rfl (.none rfl)⟩
end
def u9(w:m5)(j:Int):j6:=if 0<=j/\j<=2 then I1 w j else D4 0
def PW(w:m5):Prop := ∃V P M,PX (u9 w) V P M/\∀m∈w.d7,M m
theorem a2C{w:m5}{j:Int}(h:D3 j):u9 w j=I1 w j:=if_pos h
theorem f2z{w w':m5}(h:w'.a0=w.a0):u9 w'=u9 w:=by
 funext j;unfold u9 I1;rw [h]
theorem e1F{w:m5}(h:WI w){i:Nat}(hi:i<3)(n:j6){w':m5}(hw:w'.a0=w.a0.set i n):u9 w'=upd (u9 w) (i:Int) n:=by
 have hl:=h.nl;funext j
 unfold u9 upd I1;rw [hw];show _=if j=(i:Int) then n else if 0<=j/\j<=2 then w.a0.getD j.toNat (D4 0) else D4 0
 by_cases hj:0<=j/\j<=2
 ·rw [if_pos hj,if_pos hj];by_cases q:j=(i:Int)
  ·subst q;rw [if_pos rfl,f9b,f8P,f9Q (by omega)];rfl
  ·rw [if_neg q,f8P,f8V (by omega),<-f8P]
 ·rw [if_neg hj,if_neg hj,if_neg (by omega)]
theorem PW.put{w w':m5}(h:WI w){i:Nat}(hi:i<3){n':j6}{l:List l8}{V:VR}{P:PR}{M:MS}(hM:∀m∈w.d7,M m)(hg:N3 (u9 w) M (i:Int) n' l)(hn:w'.a0=w.a0.set i n')(hm:∀m∈w'.d7,m∈w.d7\/m∈l):PW w':=by
 obtain ⟨V',P',h'⟩:=hg;refine ⟨V',P',_,by rw [e1F h hi n' hn];exact h',fun m hm' => ?_⟩;exact (hm m hm').imp (hM m) id
theorem PW.less{w w':m5}(h:PW w)(hn:w'.a0=w.a0)(hm:∀m∈w'.d7,m∈w.d7):PW w':=by
 obtain ⟨V,P,M,h1,h2⟩:=h;exact ⟨V,P,M,by rw [f2z hn];exact h1,fun m q=>h2 m (hm m q)⟩
theorem a2O{w:m5}{l:List l8}{m:l8}(h:m∈(a00 w l).d7):m∈w.d7\/m∈l:=
 (f8B.1 h).imp id f9F
theorem b88{w:m5}{i:Int}{m:l8}(h:m∈(a3I w i).d7):m∈w.d7:=
 (f8B.1 h).elim f9F f9E
theorem e6M{w:m5}(h:WI w)(hp:PW w){e:s6}(he:R9 e):PW (E8 w e):=by
 obtain ⟨V,P,M,h1,hM⟩:=hp;have hp:PW w:=⟨V,P,M,h1,hM⟩
 unfold E8;cases hk:e.a9==2||(e.a9==3||e.a9==4)
 ·simp only [g00];cases hA:p9 e.A 0 2
  ·exact hp
  simp only [f8F,g00];rw [H7] at hA;obtain ⟨i,hi⟩:∃i:Nat,e.A=(i:Int):=⟨e.A.toNat,by omega⟩
  have hi3:i<3:=by omega
  have hD:D3 (i:Int):=by unfold D3;omega
  rw [hi];have hN:u9 w (i:Int)=I1 w (i:Int):=a2C hD;cases e.a9==1
  ·cases e.a9==5
   ·cases e.a9==6
    ·cases e.a9==7
     ·exact hp
     ·have hg:=h1.fall hD;rw [hN] at hg;exact PW.put (V:=V) (P:=P) h hi3 hM hg rfl fun m hm=>.inl hm
    ·have hg:=h1.retry hD;rw [hN] at hg;exact PW.put (V:=V) (P:=P) h hi3 hM hg rfl fun m hm=>a2O (w:=O0 w _ _) hm
   ·have hg:=h1.rise hD;rw [hN] at hg;exact PW.put (V:=V) (P:=P) h hi3 hM hg rfl fun m hm=>a2O (w:=O0 w _ _) hm
  ·simp only [g0Z];unfold a32;cases decide (60<=w.d8.length)
   ·have hg:=h1.ask hD (A2.fits he (by decide));rw [hN] at hg;simp only [g00];cases decide ((K9 (I1 w (i:Int)) e.i6).1.Seq>(I1 w (i:Int)).Seq)
    ·exact PW.put (V:=V) (P:=P) h hi3 hM hg rfl fun m hm=>a2O (w:=O0 w _ _) hm
    ·exact PW.put (V:=V) (P:=P) h hi3 hM hg rfl fun m hm=>a2O (w:=O0 {w with d8:=w.d8++[_]} _ _) hm
   ·exact hp
 ·simp only [g0Z];unfold a1f;cases hA:decide (0<=e.A)
  ·exact hp
  simp only [g0Z];cases hm:w.d7[e.A.toNat]? with
  | none=>exact hp
  | some m=>
   have hmem:=f8O hm;simp only;cases e.a9==4
   ·cases e.a9==3
    ·simp only [g00];have hmi:=(h1.ms m (hM m hmem)).1;have hto:=hmi.to;obtain ⟨t,htt⟩:∃t:Nat,m.To=(t:Int):=⟨m.To.toNat,by omega⟩
     have hD:D3 (t:Int):=by unfold D3;omega
     have hN:u9 w (t:Int)=I1 w (t:Int):=a2C hD;have hg:=h1.take hD (hM m hmem) htt;rw [hN] at hg;rw [htt];exact PW.put (V:=V) (P:=P) h (show t<3 by omega) hM hg rfl fun x hx=>(a2O (w:=O0 (a3I w e.A) _ _) hx).imp (fun q=>b88 q) id
    ·exact hp.less rfl fun x hx=>b88 hx
   ·exact hp.less rfl fun x hx=>(a2O hx).elim id fun q=>by rw [f8H.1 q];exact hmem
theorem f4v:PW R7:=by
 have hn:∀j,D3 j->u9 R7 j=D4 j:=fun j hj=>by
  rw [a2C hj];unfold D3 at hj;obtain rfl|rfl|rfl:j=0\/j=1\/j=2:=by omega
  all_goals rfl
 refine ⟨fun _ _ _ _=>False,fun _ _ _=>False,fun _=>False,⟨fun i hi => ?_,fun _ _ _ _ v=>v.elim,fun i s v hi hs _ => ?_,fun _ _ _ _ v=>v.elim,fun _ _ _ _ p=>p.elim,fun _ _ _ p=>p.elim,fun _ _ _ p=>p.elim,fun i hi => ?_,fun i s e hi hk => ?_,fun _ hm=>hm.elim⟩,fun m hm=>by cases hm⟩
 ·rw [hn i hi];exact ⟨NI.open hi,rfl⟩
 ·rw [hn i hi] at hs;simp [D4] at hs
 ·rw [hn i hi];exact .none rfl
 ·rw [hn i hi] at hk;simp [D4] at hk
structure ND(L:m4->Prop)(n:j6):Prop where
 kn:∀e∈n.a6,L e
 av:∀v∈n.Acc.a7,v.a8>0->L v.g9
 bv:∀v∈n.i4,v.a8>0->L v.g9
 cu:n.d6=3->L n.c8
 wt:n.i9=true->L n.b8
 qu:∀e∈n.f0,L e
structure ML(L:m4->Prop)(m:l8):Prop where
 en:m.a9=3\/m.a9=5\/m.a9=7->L m.g9
 vs:∀v∈m.a7,v.a8>0->L v.g9
def TO(n x:j6)(ts:List n6):Prop:=ts=[]\/(n.i9=true/\x.i9=false/\∃k,x.a6.findIdx? (D6 n.b8.a5)=some k/\ts=[⟨n.Id,n.b8.a5,L4 x.a6 k,bif L4 x.a6 k==0 then Q5 x.a6 n.b8.a5 else 0⟩])
structure Act(L:m4->Prop)(n x:j6)(l:List l8)(ts:List n6):Prop where
 id:x.Id=n.Id
 sq:x.Seq=n.Seq
 kn:∃t,x.a6=n.a6++t
 bw:(x.i9=n.i9/\x.b8=n.b8)\/x.i9=false
 nd:ND L x
 ml:∀m∈l,ML L m
 to:TO n x ts
section
variable {L:m4->Prop} {n:j6} {m:l8}
theorem Act.same(h:ND L n):Act L n n [] []:=⟨rfl,rfl,⟨[],by simp⟩,.inl ⟨rfl,rfl⟩,h,by simp,.inl rfl⟩
theorem Act.of{x:j6}{l:List l8}(e1:x.Id=n.Id)(e2:x.Seq=n.Seq)(e3:x.a6=n.a6)(e4:x.i9=n.i9)(e5:x.b8=n.b8)(h:ND L x)(hm:∀m∈l,ML L m):Act L n x l []:=
 ⟨e1,e2,⟨[],by rw [e3];simp⟩,.inl ⟨e4,e5⟩,h,hm,.inl rfl⟩
theorem ML.plain(h1:m.a9≠3)(h2:m.a9≠5)(h3:m.a9≠7)(hv:m.a7=[]):ML L m:=⟨fun h=>by omega,by rw [hv];simp⟩
theorem ML.has(hv:m.a7=[])(h:L m.g9):ML L m:=⟨fun _=>h,by rw [hv];simp⟩
theorem ML.all{id:Int}{x:l8}(h:ML L m)(hx:x∈I8 id m):ML L x:=by
 unfold I8 at hx;obtain ⟨t,_,rfl⟩:=f9i.1 hx;exact ⟨h.en,h.vs⟩
theorem ND.down(h:ND L n):ND L (a4s n):=⟨h.kn,h.av,by simp [a4s],fun q=>absurd (show (0:Int)=3 from q) (by decide),h.wt,h.qu⟩
theorem ND.yield(h:ND L n)(b:Int):ND L (N9 n b):=by
 unfold N9;cases n.d6 != 0&&decide (b>n.a8)
 ·exact h
 ·exact h.down
theorem c1S(n:j6)(b:Int):(N9 n b).Seq=n.Seq/\(N9 n b).a6=n.a6/\(N9 n b).i9=n.i9/\(N9 n b).b8=n.b8:=by
 unfold N9;cases n.d6 != 0&&decide (b>n.a8)<;>exact ⟨rfl,rfl,rfl,rfl⟩
theorem ND.next(h:ND L n)(h0:L eN){e:m4}(hn:a2n n e):L e:=by
 cases hn with
 | best v hv hb=>exact h.bv v (f8O hv) hb
 | gap=>exact h0
 | want hb=>exact h.wt hb
 | queue e he=>exact h.qu e he
theorem d1f{a x:z0}{b s:Int}{e:m4}(hc:L2 a b s e=some x)(h:∀v∈a.a7,v.a8>0->L v.g9)(he:L e):∀v∈x.a7,v.a8>0->L v.g9:=by
 obtain ⟨k,rfl,_,_,_,_,_,rfl⟩:=b6O hc;intro v hv hb;rcases d2l hv with q|q
 ·rcases c5v q with q|q
  ·exact h v q hb
  ·rw [q] at hb;exact absurd hb (by decide)
 ·rw [q];exact he
theorem Act.propose(h:ND L n)(h0:L eN):Act L n (M1 n).1 (M1 n).2 []:=by
 unfold M1;cases n.d6 != 2||decide (40<=n.a6.length)
 case true=>exact .same h
 simp only [g00];obtain ⟨q,hq,hql,hqm,hqe⟩:=a9I n;cases hx:a02 n with
 | mk x o=>
 rw [hx] at hq hqe;have hq:x={n with f0:=q}:=hq;subst hq;have hQ:ND L {n with f0:=q}:=⟨h.kn,h.av,h.bv,h.cu,h.wt,fun e he=>h.qu e (hqm e he)⟩
 cases o with
 | none=>exact .of rfl rfl rfl rfl rfl hQ (by simp)
 | some e=>
  have he:=h.next h0 (hqe e rfl);simp only [a7k];cases hc:L2 n.Acc n.a8 (n.a6.length:Int) e with
  | none=>exact .of rfl rfl rfl rfl rfl hQ.down (by simp)
  | some a=>exact .of rfl rfl rfl rfl rfl ⟨h.kn,d1f hc h.av he,h.bv,fun _=>he,h.wt,hQ.qu⟩ fun m hm=>(ML.has rfl he).all hm
theorem Act.thenP{a:j6}{l:List l8}{ts:List n6}(h:Act L n a l ts)(h0:L eN):Act L n (M1 a).1 (l++(M1 a).2) ts:=by
 have hp:=Act.propose h.nd h0;have hk:=b5C a;obtain ⟨t,ht⟩:=h.kn;refine ⟨hk.id.trans h.id,hk.seq.trans h.sq,⟨t,hk.known.trans ht⟩,h.bw.imp (fun q=>⟨hk.busy.trans q.1,hk.want.trans q.2⟩) fun q=>hk.busy.trans q,hp.nd,fun m hm=>(f8B.1 hm).elim (h.ml m) (hp.ml m),?_⟩;unfold TO;rw [hk.known,hk.busy];exact h.to
theorem Act.know{e:m4}(h:ND L n)(he:L e):Act L n (U7 (E3 n e)).1 [] (U7 (E3 n e)).2:=by
 have k1:(E3 n e).Id=n.Id:=c0T n e;have k2:(E3 n e).Seq=n.Seq:=by unfold E3;cases n.d6==3<;>rfl
 have k3:(E3 n e).a6=n.a6++[e]:=c1i n e;have k4:(E3 n e).i9=n.i9/\(E3 n e).b8=n.b8:=by unfold E3;cases n.d6==3<;>exact ⟨rfl,rfl⟩
 have kk:∀x∈n.a6++[e],L x:=fun x hx=>(f8B.1 hx).elim (h.kn x) fun q=>by rw [f8H.1 q];exact he
 have hnd:ND L (E3 n e):=by
  unfold E3;cases hp:n.d6==3
  ·exact ⟨kk,h.av,h.bv,h.cu,h.wt,h.qu⟩
  ·exact ⟨kk,h.av,h.bv,fun q=>absurd (show (2:Int)=3 from q) (by decide),h.wt,h.qu⟩
 rcases a9M (E3 n e) with q|⟨k,q1,q2,q⟩<;>rw [q]
 ·exact ⟨k1,k2,⟨[e],k3⟩,.inl k4,hnd,by simp,.inl rfl⟩
 ·refine ⟨k1,k2,⟨[e],k3⟩,.inr rfl,⟨hnd.kn,hnd.av,hnd.bv,hnd.cu,fun q=>(by cases q),hnd.qu⟩,by simp,.inr ⟨by rw [<-k4.1];exact q1,rfl,k,by rw [<-k4.2];exact q2,?_⟩⟩;rw [<-k4.2,<-k1];rfl
theorem Act.learn{e:m4}(h:ND L n)(h0:L eN)(he:L e):Act L n (Y5 n e).1 (Y5 n e).2.1 (Y5 n e).2.2:=by
 have:=(Act.know h he).thenP h0;rw [f9y] at this;exact this
theorem e8T{α:Type}{l:List α}{k:Nat}{x:α}(h:x∈l.drop k):x∈l:=f9E h
theorem Act.take(h:ND L n)(h0:L eN)(hm:ML L m)(hmi:MI m):Act L n (W7 n m).1 (W7 n m).2.1 (W7 n m).2.2:=by
 unfold W7;by_cases k1:m.a9=1
 ·rw [show (m.a9==1)=true by simpa using k1];simp only [g0Z];unfold a2g;cases hp:I6 n.Acc m.a8 with
  | none=>exact .of rfl rfl rfl rfl rfl h fun x hx=>by rw [f8H.1 hx];exact .plain (by simp [M4]) (by simp [M4]) (by simp [M4]) rfl
  | some a=>
   obtain ⟨rfl,_⟩:=a4q hp;obtain ⟨y1,y2,y3,y4⟩:=c1S {n with Acc:=⟨m.a8,n.Acc.a7⟩} m.a8;have hg:ND L {n with Acc:=⟨m.a8,n.Acc.a7⟩}:=⟨h.kn,h.av,h.bv,h.cu,h.wt,h.qu⟩
   refine .of (a6X _ _) y1 y2 y3 y4 (hg.yield _) fun x hx => ?_
   rw [f8H.1 hx];exact ⟨fun q=>by simp [M4] at q,fun v hv=>h.av v (e8T hv)⟩
 rw [show (m.a9==1)=false by simpa using k1];by_cases k2:m.a9=2
 ·rw [show (m.a9==2)=true by simpa using k2];simp only [g0Z,g00];unfold a1A;have hb:∀v∈E0 n.i4 (f8A m.g8.toNat v0++m.a7),v.a8>0->L v.g9:=fun v hv hb=>by
   rcases b1c hv with q|q
   ·exact h.bv v q hb
   ·rcases f8B.1 q with q|q
    ·rw [(f9v.1 q).2] at hb;exact absurd hb (by decide)
    ·exact hm.vs v q hb
  cases n.d6 != 1||m.a8 != n.a8
  ·simp only [g00];cases N7 (n.c9.set m.c9.toNat true)
   ·exact .of rfl rfl rfl rfl rfl ⟨h.kn,h.av,hb,h.cu,h.wt,h.qu⟩ (by simp)
   ·simp only [g0Z];have h1:Act L n {n with c9:=[],i4:=E0 n.i4 (f8A m.g8.toNat v0++m.a7),d6:=2} [] []:=.of rfl rfl rfl rfl rfl ⟨h.kn,h.av,hb,fun q=>absurd (show (2:Int)=3 from q) (by decide),h.wt,h.qu⟩ (by simp);have h2:=h1.thenP h0;rw [f9y] at h2;exact h2
  ·exact .same h
 rw [show (m.a9==2)=false by simpa using k2];by_cases k3:m.a9=3
 ·rw [show (m.a9==3)=true by simpa using k3];simp only [g0Z,g00];unfold a1I;cases hp:L2 n.Acc m.a8 m.g8 m.g9 with
  | none=>exact .of rfl rfl rfl rfl rfl h fun x hx=>by rw [f8H.1 hx];exact .plain (by simp [M4]) (by simp [M4]) (by simp [M4]) rfl
  | some a=>
   obtain ⟨y1,y2,y3,y4⟩:=c1S {n with Acc:=a} m.a8;have hg:ND L {n with Acc:=a}:=⟨h.kn,d1f hp h.av (hm.en (.inl k3)),h.bv,h.cu,h.wt,h.qu⟩
   refine .of (a6X _ _) y1 y2 y3 y4 (hg.yield _) fun x hx => ?_
   rw [f8H.1 hx];exact .plain (by simp [M4]) (by simp [M4]) (by simp [M4]) rfl
 rw [show (m.a9==3)=false by simpa using k3];by_cases k4:m.a9=4
 ·rw [show (m.a9==4)=true by simpa using k4];simp only [g0Z,g00];unfold a2M;cases hc:n.d6 != 3||(m.a8 != n.a8||m.g8 != (n.a6.length:Int))
  ·simp only [g00];simp only [f9O,bne_eq_false_iff_eq] at hc;have hcu:=h.cu hc.1;have h1:ND L {n with a7:=n.a7.set m.c9.toNat true}:=⟨h.kn,h.av,h.bv,h.cu,h.wt,h.qu⟩
   cases N7 (n.a7.set m.c9.toNat true)
   ·exact .of rfl rfl rfl rfl rfl h1 (by simp)
   ·simp only [g0Z];have h2:=Act.learn h1 h0 hcu;exact ⟨h2.id,h2.sq,h2.kn,h2.bw,h2.nd,fun x hx=>(f8B.1 hx).elim (fun q=>(ML.has rfl hcu).all q) (h2.ml x),h2.to⟩
  ·exact .same h
 rw [show (m.a9==4)=false by simpa using k4];by_cases k5:m.a9=5
 ·rw [show (m.a9==5)=true by simpa using k5];simp only [g0Z,g00];unfold a2I;cases decide (m.g8<(n.a6.length:Int))
  ·cases decide (m.g8>(n.a6.length:Int))
   ·exact .learn h h0 (hm.en (.inr (.inl k5)))
   ·exact .of rfl rfl rfl rfl rfl h fun x hx=>by rw [f8H.1 hx];exact .plain (by simp [M4]) (by simp [M4]) (by simp [M4]) rfl
  ·exact .same h
 rw [show (m.a9==5)=false by simpa using k5];by_cases k6:m.a9=6
 ·rw [show (m.a9==6)=true by simpa using k6];simp only [g0Z,g00];have hg:ND L {n with Acc:=(I6 n.Acc m.a8).getD n.Acc}:=by
   cases hp:I6 n.Acc m.a8 with
   | none=>exact h
   | some a=>
    obtain ⟨rfl,_⟩:=a4q hp;exact ⟨h.kn,h.av,h.bv,h.cu,h.wt,h.qu⟩
  obtain ⟨y1,y2,y3,y4⟩:=c1S {n with Acc:=(I6 n.Acc m.a8).getD n.Acc} m.a8;exact .of (a6X _ _) y1 y2 y3 y4 (hg.yield _) (by simp)
 rw [show (m.a9==6)=false by simpa using k6];by_cases k7:m.a9=7
 ·rw [show (m.a9==7)=true by simpa using k7];simp only [g0Z,g00];unfold a1H;cases n.d6==0||(decide (4<=n.f0.length)||N6 n.a6 m.g9.a5)
  ·simp only [g00];have h1:Act L n {n with f0:=n.f0++[m.g9]} [] []:=.of rfl rfl rfl rfl rfl ⟨h.kn,h.av,h.bv,h.cu,h.wt,fun e he=>(f8B.1 he).elim (h.qu e) fun q=>by rw [f8H.1 q];exact hm.en (.inr (.inr k7))⟩ (by simp);have h2:=h1.thenP h0;rw [f9y] at h2;exact h2
  ·exact .same h
 rw [show (m.a9==7)=false by simpa using k7];cases m.a9==8
 ·exact .same h
 ·refine .of rfl rfl rfl rfl rfl h fun x hx => ?_
  obtain ⟨l,hl,hx⟩:=f9C.1 hx;obtain ⟨j,hj,rfl⟩:=f9i.1 hl;unfold a1l at hx;cases hk:n.a6[m.g8.toNat+j]? with
  | none=>rw [hk] at hx;cases hx
  | some e=>
   rw [hk] at hx;rw [f8H.1 hx];exact .has rfl (h.kn e (f8O hk))
theorem Act.rise(h:ND L n):Act L n (Y7 n).1 (Y7 n).2 []:=by
 unfold Y7;cases decide (M2 n.Acc.i0 n.Id<0)
 ·refine .of rfl rfl rfl rfl rfl ⟨h.kn,h.av,h.av,fun q=>absurd (show (1:Int)=3 from q) (by decide),h.wt,h.qu⟩ fun x hx=>(ML.plain (by simp) (by simp) (by simp) rfl).all hx
 ·exact .same h
theorem Act.retry(h:ND L n)(h0:L eN):Act L n (W2 n).1 (W2 n).2 []:=by
 have hn:∀x∈I8 n.Id ⟨8,0,0,0,(n.a6.length:Int),zE,[]⟩,ML L x:=fun x hx=>(ML.plain (by simp) (by simp) (by simp) rfl).all hx
 have N7:∀{l:List l8},(∀x∈l,ML L x)->Act L n n (I8 n.Id ⟨8,0,0,0,(n.a6.length:Int),zE,[]⟩++l) []:=fun {l} hl=>.of rfl rfl rfl rfl rfl h fun x hx=>(f8B.1 hx).elim (hn x) (hl x)
 unfold W2;by_cases h1:n.d6=1
 ·rw [show (n.d6==1)=true by simpa using h1];exact N7 fun x hx=>(ML.plain (by simp) (by simp) (by simp) rfl).all hx
 rw [show (n.d6==1)=false by simpa using h1];by_cases h2:n.d6=2
 ·rw [show (n.d6==2)=true by simpa using h2];have hp:Act L n n (I8 n.Id ⟨8,0,0,0,(n.a6.length:Int),zE,[]⟩) []:=.of rfl rfl rfl rfl rfl h hn;exact hp.thenP h0
 rw [show (n.d6==2)=false by simpa using h2];by_cases h3:n.d6=3
 ·rw [show (n.d6==3)=true by simpa using h3];exact N7 fun x hx=>(ML.has rfl (h.cu h3)).all hx
 rw [show (n.d6==3)=false by simpa using h3];cases hb:n.i9
 ·exact .of rfl rfl rfl rfl rfl h hn
 ·exact N7 fun x hx=>(ML.has rfl (h.wt hb)).all hx
theorem Act.fall(h:ND L n):Act L n (a1d n) [] []:=⟨rfl,rfl,⟨[],by simp [a1d,D4]⟩,.inr rfl,⟨h.kn,h.av,by simp [a1d,D4],fun q=>absurd (show (0:Int)=3 from q) (by decide),fun q=>(by cases q),by simp [a1d,D4]⟩,by simp,.inl rfl⟩
theorem ND.mono{L':m4->Prop}(h:ND L n)(hi:∀e,L e->L' e):ND L' n:=⟨fun e q=>hi e (h.kn e q),fun v q b=>hi _ (h.av v q b),fun v q b=>hi _ (h.bv v q b),fun q=>hi _ (h.cu q),fun q=>hi _ (h.wt q),fun e q=>hi e (h.qu e q)⟩
theorem ML.mono{L':m4->Prop}(h:ML L m)(hi:∀e,L e->L' e):ML L' m:=⟨fun q=>hi _ (h.en q),fun v q b=>hi _ (h.vs v q b)⟩
end
def a0O(w:m5)(e:m4):Prop:=e.i7=true\/∃a∈w.d8,a.a5=e.a5/\∃j,j<=(u9 w e.a5.b9).a6.length/\(∀x∈(u9 w e.a5.b9).a6.take j,D6 e.a5 x=false)/\e.b6=B3 (p6 ((u9 w e.a5.b9).a6.take j)).1.g7 a.i6
def a8y(l:List m4)(t:n6):Prop := ∃k,l.findIdx? (D6 t.a5)=some k/\t.Code=L4 l k/\t.d9=bif L4 l k==0 then Q5 l t.a5 else 0
structure TL(w:m5):Prop where
 nd:∀i,D3 i->ND (a0O w) (u9 w i)
 ml:∀m∈w.d7,ML (a0O w) m
 aq:∀a∈w.d8,D3 a.a5.b9/\1<=a.a5.Seq/\a.a5.Seq<=(u9 w a.a5.b9).Seq
 au:(w.d8.map (·.a5)).Nodup
 tn:∀t∈w.Told,t.Node=t.a5.b9/\D3 t.Node/\(∃a∈w.d8,a.a5=t.a5)/\((u9 w t.Node).i9=true->t.a5.Seq<(u9 w t.Node).Seq)/\a8y (u9 w t.Node).a6 t
 tu:(w.Told.map (·.a5)).Nodup
theorem d2O{l t:List m4}{q:n5}{k:Nat}(h:l.findIdx? (D6 q)=some k):(l++t).findIdx? (D6 q)=some k:=by
 rw [List.findIdx?_append,h];rfl
theorem d4m{l t:List m4}{k:Nat}(h:G4 (l++t)=true)(hk:k<l.length):L4 (l++t) k=L4 l k:=by
 have hl:G4 l=true:=by
  unfold G4 at h ⊢;simp only [f8M,List.all_append,f8D,decide_eq_true_eq] at h ⊢;exact ⟨by omega,h.2.1⟩
 rw [c3i h (by rw [f8M];omega),c3i hl hk,f9s (by omega),List.getElem_append_left hk]
theorem d9R{l t:List m4}{q:n5}{k:Nat}(h:l.findIdx? (D6 q)=some k):Q5 (l++t) q=Q5 l q:=by
 obtain ⟨hk,_⟩:=b4d h;unfold Q5;rw [d2O h,h];simp only [f8X hk]
theorem a8y.app{l t:List m4}{x:n6}(h:a8y l x)(hl:G4 (l++t)=true):a8y (l++t) x:=by
 obtain ⟨k,h1,h2,h3⟩:=h;obtain ⟨hk,_⟩:=b4d h1;exact ⟨k,d2O h1,by rw [d4m hl hk];exact h2,by rw [d4m hl hk,d9R h1];exact h3⟩
theorem a6O{w:m5}(h:WI w){i:Int}(hi:D3 i):NI (u9 w i)/\(u9 w i).Id=i:=by
 rw [a2C hi];unfold D3 at hi;obtain ⟨k,rfl⟩:∃k:Nat,i=(k:Int):=⟨i.toNat,by omega⟩
 obtain ⟨n,_,h2,h3,h4,_⟩:=a4z h (i:=k) (by omega);rw [h2];exact ⟨h4,h3⟩
theorem c5H{w w':m5}(hl:w.a0.length=3){i:Nat}(hi:i<3)(n:j6)(hw:w'.a0=w.a0.set i n)(j:Int):u9 w' j=if j=(i:Int) then n else u9 w j:=by
 unfold u9 I1;rw [hw];by_cases hj:0<=j/\j<=2
 ·rw [if_pos hj,if_pos hj];by_cases q:j=(i:Int)
  ·subst q;rw [if_pos rfl,f9b,f8P,f9Q (by omega)];rfl
  ·rw [if_neg q,f8P,f8V (by omega),<-f8P]
 ·rw [if_neg hj,if_neg hj,if_neg (by omega)]
theorem a0O.mono{w w':m5}(hk:∀j,∃t,(u9 w' j).a6=(u9 w j).a6++t)(ha:∀a∈w.d8,a∈w'.d8){e:m4}(h:a0O w e):a0O w' e:=by
 rcases h with h|⟨a,h1,h2,j,h3,h4,h5⟩
 ·exact .inl h
 ·obtain ⟨t,ht⟩:=hk e.a5.b9;refine .inr ⟨a,ha a h1,h2,j,by rw [ht,f8M];omega,?_,?_⟩
  ·rw [ht,f9s h3];exact h4
  ·rw [ht,f9s h3];exact h5
theorem TL.step{w w':m5}(h:TL w)(hl:w.a0.length=3){i:Nat}(hi:i<3)(hni:NI (u9 w (i:Int)))(hid:(u9 w (i:Int)).Id=(i:Int)){n':j6}{l:List l8}{ts:List n6}(hn':NI n')(ha:Act (a0O w) (u9 w (i:Int)) n' l ts)(hn:w'.a0=w.a0.set i n')(hm:∀m∈w'.d7,m∈w.d7\/m∈l)(hk:w'.d8=w.d8)(ht:w'.Told=w.Told\/w'.Told=w.Told++ts):TL w':=by
 have hJ:=c5H hl hi n' hn;have hD:D3 (i:Int):=by unfold D3;omega
 have hJi:u9 w' (i:Int)=n':=by rw [hJ,if_pos rfl]
 have hkn:∀j,∃t,(u9 w' j).a6=(u9 w j).a6++t:=fun j=>by
  rw [hJ];split
  ·rename_i q;subst q;exact ha.kn
  ·exact ⟨[],by simp⟩
 have hmo:∀e,a0O w e->a0O w' e:=fun e=>a0O.mono hkn (by rw [hk];exact fun _ q=>q)
 have hsq:∀j,(u9 w' j).Seq=(u9 w j).Seq:=fun j=>by
  rw [hJ];split
  ·rename_i q;subst q;exact ha.sq
  ·rfl
 have hls:∀j,D3 j->NI (u9 w j)->∀t,(u9 w' j).a6=(u9 w j).a6++t->G4 ((u9 w j).a6++t)=true\/(u9 w' j).a6=(u9 w j).a6:=fun j hj hjn t ht=>by
  by_cases q:j=(i:Int)
  ·subst q;rw [hJi] at ht;left;rw [<-ht];exact hn'.list
  ·right;rw [hJ,if_neg q]
 have old:∀t∈w.Told,t.Node=t.a5.b9/\D3 t.Node/\(∃a∈w'.d8,a.a5=t.a5)/\((u9 w' t.Node).i9=true->t.a5.Seq<(u9 w' t.Node).Seq)/\a8y (u9 w' t.Node).a6 t:=by
  intro t q;obtain ⟨x1,x2,x3,x4,x5⟩:=h.tn t q;refine ⟨x1,x2,by rw [hk];exact x3,fun hb => ?_,?_⟩
  ·rw [hsq];refine x4 ?_;rw [hJ] at hb;split at hb
   ·rename_i q;rw [q];rcases ha.bw with ⟨b,_⟩|b
    ·rw [<-b];exact hb
    ·rw [b] at hb;cases hb
   ·exact hb
  ·obtain ⟨t',ht'⟩:=hkn t.Node;rw [ht'];by_cases q:t.Node=(i:Int)
   ·refine x5.app ?_;rw [<-ht',q,hJi];exact hn'.list
   ·have:t'=[]:=by
     rw [hJ,if_neg q] at ht';have:=congrArg List.length ht';rw [f8M] at this;exact f8N (by omega)
    rw [this,f9o];exact x5
 have new:∀t∈ts,(t.Node=t.a5.b9/\D3 t.Node/\(∃a∈w'.d8,a.a5=t.a5)/\((u9 w' t.Node).i9=true->t.a5.Seq<(u9 w' t.Node).Seq)/\a8y (u9 w' t.Node).a6 t)/\ts=[t]/\(u9 w (i:Int)).i9=true/\t.a5=⟨(i:Int),(u9 w (i:Int)).Seq⟩:=by
  intro t q;rcases ha.to with e|⟨b1,b2,k,b3,b4⟩
  ·rw [e] at q;cases q
  ·rw [b4] at q;have q:=f8H.1 q;have hw:(u9 w (i:Int)).b8.a5=⟨(i:Int),(u9 w (i:Int)).Seq⟩/\(u9 w (i:Int)).b8.i7=false:=by
    rcases hni.wt with y|y
    ·exact ⟨by rw [y.2.2.2.2,hid],y.2.2.2.1⟩
    ·rw [b1] at y;cases y.1
   have hlg:=(h.nd (i:Int) hD).wt b1;rcases hlg with y|⟨a,a1,a2,_⟩
   ·rw [hw.2] at y;cases y
   ·subst q;refine ⟨⟨?_,by show D3 _;rw [hid];exact hD,⟨a,by rw [hk];exact a1,a2⟩,?_,?_⟩,b4,b1,hw.1⟩
    ·show (u9 w (i:Int)).Id=(u9 w (i:Int)).b8.a5.b9
     rw [hw.1,hid]
    ·show (u9 w' (u9 w (i:Int)).Id).i9=true->_
     rw [hid,hJi,b2];intro y;cases y
    ·show a8y (u9 w' (u9 w (i:Int)).Id).a6 _
     rw [hid,hJi];exact ⟨k,b3,rfl,rfl⟩
 refine ⟨fun j hj => ?_,fun m q => ?_,fun a q => ?_,by rw [hk];exact h.au,fun t q => ?_,?_⟩
 ·rw [hJ];split
  ·exact ha.nd.mono hmo
  ·exact (h.nd j hj).mono hmo
 ·exact (hm m q).elim (fun q=>(h.ml m q).mono hmo) fun q=>(ha.ml m q).mono hmo
 ·rw [hk] at q;obtain ⟨x1,x2,x3⟩:=h.aq a q;exact ⟨x1,x2,by rw [hsq];exact x3⟩
 ·rcases ht with e|e
  ·rw [e] at q;exact old t q
  ·rw [e] at q;exact (f8B.1 q).elim (old t) fun q=>(new t q).1
 ·rcases ht with e|e
  ·rw [e];exact h.tu
  ·rw [e,f9R];refine f8L.2 ⟨h.tu,?_,?_⟩
   ·cases hts:ts with
    | nil=>simp
    | cons t r=>
     have:=(new t (by rw [hts];simp)).2.1;rw [hts] at this;injection this with _ hr;rw [hr];simp
   ·intro a ha' b hb' hab;obtain ⟨x,hx,rfl⟩:=f9i.1 ha';obtain ⟨y,hy,rfl⟩:=f9i.1 hb';obtain ⟨_,_,n3,n4⟩:=new y hy;obtain ⟨o1,o2,o3,o4,o5⟩:=h.tn x hx;rw [n4] at hab;have:x.Node=(i:Int):=by rw [o1,hab]
    have:=o4 (by rw [this];exact n3);rw [‹x.Node=(i:Int)›,hab] at this;simp only at this;omega
theorem TL.asked{w w':m5}(h:TL w)(hw:WI w){i:Nat}(hi:i<3){p:List n8}(hc:L6 (u9 w (i:Int)) p=true)(hn:w'.a0=w.a0.set i (Q2 (u9 w (i:Int)) p))(hm:w'.d7=w.d7)(hk:w'.d8=w.d8++[⟨⟨(i:Int),(u9 w (i:Int)).Seq+1⟩,p⟩])(ht:w'.Told=w.Told):TL w':=by
 have hJ:=c5H hw.nl hi _ hn;have hD:D3 (i:Int):=by unfold D3;omega
 obtain ⟨hni,hid⟩:=a6O hw hD;have hJi:u9 w' (i:Int)=Q2 (u9 w (i:Int)) p:=by rw [hJ,if_pos rfl]
 have hkn:∀j,(u9 w' j).a6=(u9 w j).a6:=fun j=>by
  rw [hJ];split
  ·rename_i q;subst q;rfl
  ·rfl
 have hsq:∀j,(u9 w j).Seq<=(u9 w' j).Seq:=fun j=>by
  rw [hJ];split
  ·rename_i q;subst q;show _<=(u9 w (i:Int)).Seq+1;omega
  ·exact f8Z _
 have hmo:∀e,a0O w e->a0O w' e:=fun e=>a0O.mono (fun j=>⟨[],by rw [hkn,f9o]⟩) (by rw [hk];exact fun a q=>g0e _ q)
 have hnew:∀e,a0O w e->D6 ⟨(i:Int),(u9 w (i:Int)).Seq+1⟩ e=false:=fun e he=>by
  cases hq:D6 ⟨(i:Int),(u9 w (i:Int)).Seq+1⟩ e
  ·rfl
  ·unfold D6 at hq;simp only [f8D,f9h] at hq;have hr:e.a5=⟨(i:Int),(u9 w (i:Int)).Seq+1⟩:=(b1B (b:=⟨(i:Int),(u9 w (i:Int)).Seq+1⟩)).1 hq.2;rcases he with he|⟨a,a1,a2,_⟩
   ·rw [hq.1] at he;cases he
   ·have:=(h.aq a a1).2.2;rw [a2,hr] at this;simp only at this;omega
 have hnd:=h.nd (i:Int) hD;refine ⟨fun j hj => ?_,fun m q=>(h.ml m (hm▸q)).mono hmo,fun a q => ?_,?_,fun t q => ?_,by rw [ht];exact h.tu⟩
 ·rw [hJ];split
  ·refine ⟨fun e q=>hmo e (hnd.kn e q),fun v q b=>hmo _ (hnd.av v q b),fun v q b=>hmo _ (hnd.bv v q b),fun q=>hmo _ (hnd.cu q),fun _ => ?_,fun e q=>hmo e (hnd.qu e q)⟩;refine .inr ⟨⟨⟨(i:Int),(u9 w (i:Int)).Seq+1⟩,p⟩,by rw [hk];simp,?_,(u9 w (i:Int)).a6.length,?_,?_,?_⟩
   ·show _=(⟨(u9 w (i:Int)).Id,(u9 w (i:Int)).Seq+1⟩:n5)
    rw [hid]
   ·show _<=(u9 w' (u9 w (i:Int)).Id).a6.length
    rw [hid,hkn];exact f8R _
   ·show ∀x∈(u9 w' (u9 w (i:Int)).Id).a6.take _,D6 (⟨(u9 w (i:Int)).Id,(u9 w (i:Int)).Seq+1⟩:n5) x=false
    rw [hid,hkn,f8Q];exact fun x hx=>hnew x (hnd.kn x hx)
   ·show _=B3 (p6 ((u9 w' (u9 w (i:Int)).Id).a6.take _)).1.g7 p
    rw [hid,hkn,f8Q];rfl
  ·exact (h.nd j hj).mono hmo
 ·rw [hk] at q;rcases f8B.1 q with q|q
  ·obtain ⟨x1,x2,x3⟩:=h.aq a q;exact ⟨x1,x2,f9z x3 (hsq _)⟩
  ·rw [f8H.1 q];refine ⟨hD,by have:=hni.sq;show 1<=(u9 w (i:Int)).Seq+1;omega,?_⟩;show _<=(u9 w' (i:Int)).Seq
   rw [hJi];exact f8Z _
 ·rw [hk,f9R];refine f8L.2 ⟨h.au,by simp,?_⟩;intro a ha b hb hab;obtain ⟨x,hx,rfl⟩:=f9i.1 ha;rw [List.map_singleton,f8H] at hb;have:=(h.aq x hx).2.2;rw [hab,hb] at this;simp only at this;omega
 ·rw [ht] at q;obtain ⟨x1,x2,⟨a,a1,a2⟩,x4,x5⟩:=h.tn t q;refine ⟨x1,x2,⟨a,by rw [hk];exact g0e _ a1,a2⟩,fun hb => ?_,by rw [hkn];exact x5⟩;rw [hJ] at hb ⊢;split
  ·rename_i q;have:=(h.aq a a1).2.2;rw [a2,<-x1,q] at this;show _<(u9 w (i:Int)).Seq+1
   omega
  ·rename_i q;rw [if_neg q] at hb;exact x4 hb
theorem f6T{w:m5}(h:WI w)(ht:TL w){e:s6}(he:R9 e):TL (E8 w e):=by
 have h0:a0O w eN:=.inl rfl;unfold E8;cases hk:e.a9==2||(e.a9==3||e.a9==4)
 ·simp only [g00];cases hA:p9 e.A 0 2
  ·exact ht
  simp only [f8F,g00];rw [H7] at hA;obtain ⟨i,hi⟩:∃i:Nat,e.A=(i:Int):=⟨e.A.toNat,by omega⟩
  have hi3:i<3:=by omega
  have hD:D3 (i:Int):=by unfold D3;omega
  rw [hi];have hN:u9 w (i:Int)=I1 w (i:Int):=a2C hD;obtain ⟨hni,hid⟩:=a6O h hD;have hnd:=ht.nd (i:Int) hD;rw [<-hN];cases e.a9==1
  ·cases e.a9==5
   ·cases e.a9==6
    ·cases e.a9==7
     ·exact ht
     ·exact ht.step h.nl hi3 hni hid hni.fall (.fall hnd) rfl (fun m q=>.inl q) rfl (.inl rfl)
    ·exact ht.step h.nl hi3 hni hid (a9R hni).ni (.retry hnd h0) rfl (fun m q=>a2O (w:=O0 w _ _) q) rfl (.inl rfl)
   ·exact ht.step h.nl hi3 hni hid (a91 hni).ni (.rise hnd) rfl (fun m q=>a2O (w:=O0 w _ _) q) rfl (.inl rfl)
  ·simp only [g0Z];unfold a32;cases hal:decide (60<=w.d8.length)
   ·rw [<-hN];simp only [g00];rw [c7t];cases hc:L6 (u9 w (i:Int)) e.i6
    ·simp only [g00];rw [a2r,hc];exact ht.step h.nl hi3 hni hid hni (.same hnd) rfl (fun m q=>a2O (w:=O0 w _ _) q) rfl (.inl rfl)
    ·simp only [g0Z];have hf:s8 e.i6:=A2.fits he (by decide);have hwq:(K9 (u9 w (i:Int)) e.i6).1.b8.a5=⟨(i:Int),(u9 w (i:Int)).Seq+1⟩:=by
      rw [b6k hc];show (⟨(u9 w (i:Int)).Id,_⟩:n5)=_;rw [hid]
     rw [hwq];have h1:TL ⟨w.a0.set i (Q2 (u9 w (i:Int)) e.i6),w.d7,w.d8++[⟨⟨(i:Int),(u9 w (i:Int)).Seq+1⟩,e.i6⟩],w.Told⟩:=ht.asked h hi3 hc rfl rfl rfl rfl;have hJ:=c5H (w':=⟨w.a0.set i (Q2 (u9 w (i:Int)) e.i6),w.d7,w.d8++[⟨⟨(i:Int),(u9 w (i:Int)).Seq+1⟩,e.i6⟩],w.Told⟩) h.nl hi3 _ rfl (i:Int);rw [if_pos rfl] at hJ;have hnd1:=h1.nd (i:Int) hD;rw [hJ] at hnd1;have hni1:=hni.asked hf hc;have hcan:=hc;refine h1.step (i:=i) (n':=(K9 (u9 w (i:Int)) e.i6).1) (l:=(K9 (u9 w (i:Int)) e.i6).2) (ts:=[]) (by show (w.a0.set i _).length=3;rw [f9Z];exact h.nl) hi3 (by rw [hJ];exact hni1) (by rw [hJ];exact hid) (b1E hni hf).ni ?_ ?_ (fun m q=>a2O (w:=O0 ⟨w.a0,w.d7,w.d8++[_],w.Told⟩ _ _) q) rfl (.inl rfl)
     ·rw [hJ];rw [a2r,hc];have h0':a0O ⟨w.a0.set i (Q2 (u9 w (i:Int)) e.i6),w.d7,w.d8++[⟨⟨(i:Int),(u9 w (i:Int)).Seq+1⟩,e.i6⟩],w.Told⟩ eN:=.inl rfl;simp only [g0Z];cases (u9 w (i:Int)).d6==2
      ·refine .of rfl rfl rfl rfl rfl hnd1 fun x hx => ?_
       simp only [g00] at hx;cases hp0:(u9 w (i:Int)).d6==0
       ·rw [hp0] at hx;cases hx
       ·rw [hp0] at hx;exact (ML.has rfl (hnd1.wt rfl)).all hx
      ·exact .propose hnd1 h0'
     ·show w.a0.set _ _=(w.a0.set i _).set i _
      rw [List.set_set];rfl
   ·exact ht
 ·simp only [g0Z];unfold a1f;cases hA:decide (0<=e.A)
  ·exact ht
  simp only [g0Z];cases hm:w.d7[e.A.toNat]? with
  | none=>exact ht
  | some m=>
   have hmem:=f8O hm;have hmi:=h.ms m hmem;have hself:∀{w':m5},w'.a0=w.a0->w'.d8=w.d8->w'.Told=w.Told->(∀x∈w'.d7,x∈w.d7)->TL w':=fun {w'} e1 e2 e3 e4=>by
    obtain ⟨hni,hid⟩:=a6O h (i:=0) (by unfold D3;omega);refine ht.step (i:=0) h.nl (by omega) hni hid hni (.same (ht.nd 0 (by unfold D3;omega))) ?_ (fun x q=>.inl (e4 x q)) e2 (.inl e3);rw [e1];have hl:=h.nl;have:u9 w ((0:Nat):Int)=w.a0[0]:=by
     rw [a2C (by unfold D3;omega)];show w.a0.getD 0 _=_
     rw [f8P,f8z (by omega)];rfl
    rw [show u9 w 0=w.a0[0] from this,g0J]
   simp only;cases e.a9==4
   ·cases e.a9==3
    ·simp only [g00];have hto:=hmi.to;obtain ⟨t,htt⟩:∃t:Nat,m.To=(t:Int):=⟨m.To.toNat,by omega⟩
     have hD:D3 (t:Int):=by unfold D3;omega
     have hN:u9 w (t:Int)=I1 w (t:Int):=a2C hD;obtain ⟨hni,hid⟩:=a6O h hD;rw [htt,<-hN];have hact:=Act.take (ht.nd (t:Int) hD) h0 (ht.ml m hmem) hmi;refine ht.step h.nl (i:=t) (by omega) hni hid (b3C hni hmi).ni hact rfl (fun x q=>(a2O (w:=O0 (a3I w e.A) _ _) q).imp (fun q=>b88 q) id) rfl ?_;show (w.Told++List.take (60-w.Told.length) _=w.Told\/_)
     have hl1:=(c0u hni m).2;rcases Nat.eq_zero_or_pos (60-w.Told.length) with q|q
     ·left;rw [q,f9p,f9o]
     ·right
      show w.Told++List.take (60-w.Told.length) _=_
      rw [f9r (by omega)]
    ·exact hself rfl rfl rfl fun x q=>b88 q
   ·exact hself rfl rfl rfl fun x q=>(a2O q).elim id fun q=>by rw [f8H.1 q];exact hmem
theorem e9E:TL R7:=by
 have hn:∀j,D3 j->u9 R7 j=D4 j:=fun j hj=>by
  rw [a2C hj];unfold D3 at hj;obtain rfl|rfl|rfl:j=0\/j=1\/j=2:=by omega
  all_goals rfl
 refine ⟨fun i hi => ?_,fun m hm=>(by cases hm),fun a ha=>(by cases ha),by simp [R7],fun t ht=>(by cases ht),by simp [R7]⟩;rw [hn i hi];exact ⟨by simp [D4],by simp [D4],by simp [D4],fun q=>absurd (show (0:Int)=3 from q) (by decide),fun q=>(by cases q),by simp [D4]⟩
section
variable {w:m5}
theorem f1y{α:Type}(z:α):∀{l:List α},l.length=3->l=[l.getD 0 z,l.getD 1 z,l.getD 2 z]
 | [a,b,c],_=>rfl
theorem c2l(h:WI w):w.a0=[u9 w 0,u9 w 1,u9 w 2]:=by
 have e0:u9 w 0=w.a0.getD 0 (D4 0):=a2C (j:=0) (by unfold D3;omega);have e1:u9 w 1=w.a0.getD 1 (D4 0):=a2C (j:=1) (by unfold D3;omega);have e2:u9 w 2=w.a0.getD 2 (D4 0):=a2C (j:=2) (by unfold D3;omega);rw [e0,e1,e2];exact f1y (D4 0) h.nl
theorem a9F(h:WI w){n:j6}(hn:n∈w.a0):∃i,D3 i/\n=u9 w i:=by
 rw [c2l h] at hn;simp only [f8J,g0M,or_false] at hn;rcases hn with q|q|q
 ·exact ⟨0,by unfold D3;omega,q⟩
 ·exact ⟨1,by unfold D3;omega,q⟩
 ·exact ⟨2,by unfold D3;omega,q⟩
theorem d0t(h:WI w){i:Nat}(hi:i<w.a0.length):w.a0[i]=u9 w (i:Int)/\i<3:=by
 have hl:=h.nl;rw [a2C (by unfold D3;omega)];unfold I1;rw [f9b,f8P,f8z hi];exact ⟨rfl,by omega⟩
theorem d3m(hp:PW w){i j:Int}(hi:D3 i)(hj:D3 j){s:Nat}{a b:m4}(ha:(u9 w i).a6[s]?=some a)(hb:(u9 w j).a6[s]?=some b):a=b:=by
 obtain ⟨V,P,M,h,_⟩:=hp;exact h.one (h.kn i s a hi ha) (h.kn j s b hj hb)
theorem e0o(a b c:j6)(x:List l8)(y:List x8)(z:List n6):∃n∈[a,b,c],u6 ⟨[a,b,c],x,y,z⟩=n.a6/\∀m∈[a,b,c],m.a6.length<=n.a6.length:=by
 have e:u6 ⟨[a,b,c],x,y,z⟩=(bif decide ((b.a6.length:Int)>(a.a6.length:Int)) then (bif decide ((c.a6.length:Int)>(b.a6.length:Int)) then c else b) else (bif decide ((c.a6.length:Int)>(a.a6.length:Int)) then c else a)).a6:=by
  unfold u6;simp only [best,f9J,g0n,f9L,f9T];have e0:decide ((a.a6.length:Int)>(a.a6.length:Int))=false:=by simp
  simp only [e0,g00,f9L];cases decide ((b.a6.length:Int)>(a.a6.length:Int))
  ·simp only [g00,f9L];cases decide ((c.a6.length:Int)>(a.a6.length:Int))<;>rfl
  ·simp only [g0Z,f9L,f9T];cases decide ((c.a6.length:Int)>(b.a6.length:Int))<;>rfl
 rw [e];cases h1:decide ((b.a6.length:Int)>(a.a6.length:Int))
 ·cases h2:decide ((c.a6.length:Int)>(a.a6.length:Int))
  ·exact ⟨a,by simp,rfl,by simp at h1 h2 ⊢;omega⟩
  ·exact ⟨c,by simp,rfl,by simp at h1 h2 ⊢;omega⟩
 ·cases h2:decide ((c.a6.length:Int)>(b.a6.length:Int))
  ·exact ⟨b,by simp,rfl,by simp at h1 h2 ⊢;omega⟩
  ·exact ⟨c,by simp,rfl,by simp at h1 h2 ⊢;omega⟩
theorem c6o(h:WI w):∃b,D3 b/\u6 w=(u9 w b).a6/\∀i,D3 i->(u9 w i).a6.length<=(u6 w).length:=by
 have hn:=c2l h;obtain ⟨n,n1,n2,n3⟩:=e0o (u9 w 0) (u9 w 1) (u9 w 2) w.d7 w.d8 w.Told;rw [<-hn] at n1 n2 n3;obtain ⟨b,hb,rfl⟩:=a9F h n1;refine ⟨b,hb,n2,fun i hi => ?_⟩;have n2':u6 w=(u9 w b).a6:=n2;rw [n2'];refine n3 _ ?_;rw [hn];unfold D3 at hi;obtain rfl|rfl|rfl:i=0\/i=1\/i=2:=by omega
 all_goals simp
theorem f7a(h:WI w)(hp:PW w){i:Int}(hi:D3 i):(u9 w i).a6=(u6 w).take (u9 w i).a6.length:=by
 obtain ⟨b,hb,h1,h2⟩:=c6o h;have hl:=h2 i hi;apply List.ext_getElem?;intro s;by_cases hs:s<(u9 w i).a6.length
 ·rw [g0k,if_pos hs];obtain ⟨y,hy⟩:∃y,(u6 w)[s]?=some y:=⟨_,f8z (show s<(u6 w).length by omega)⟩
  rw [hy,f8z hs];rw [h1] at hy;exact congrArg some (d3m hp hi hb (f8z hs) hy)
 ·rw [f8Y (by omega),f8Y (by rw [f8S];omega)]
theorem d5d(h:WI w)(hp:PW w){i:Int}(hi:D3 i):∃t,u6 w=(u9 w i).a6++t:=by
 refine ⟨(u6 w).drop (u9 w i).a6.length,?_⟩;conv=>rhs;lhs;rw [f7a h hp hi]
 rw [f9A]
theorem b1Q(h:WI w):G4 (u6 w)=true:=by
 obtain ⟨b,hb,h1,_⟩:=c6o h;rw [h1];exact (a6O h hb).1.list
theorem d6G(ht:TL w):a94 w.Told=true:=by
 unfold a94;rw [f8E];intro i hi;have hi:i<w.Told.length:=by simpa using hi
 rw [c8Y hi,f9h,f9q];intro s hs hq;obtain ⟨j,hj,rfl⟩:=f9G.1 hs;have hj:j<i:=by omega
 have he:w.Told[j].a5=w.Told[i].a5:=by
  have:F9 w.Told[j].a5=F9 w.Told[i].a5:=by simpa using hq
  rw [<-b1B];rw [d5U];simpa using this
 have:=f9t.1 ht.tu j i (by rw [f9u];omega) (by rw [f9u];omega) hj;apply this;rw [g0z,g0z];exact he
theorem d3F(h:WI w)(hp:PW w)(ht:TL w):w.Told.all (a3P (u6 w))=true:=by
 rw [f8E];intro t hm;obtain ⟨x1,x2,x3,x4,x5⟩:=ht.tn t hm;obtain ⟨tl,htl⟩:=d5d h hp x2;have hs:=x5.app (t:=tl) (by rw [<-htl];exact b1Q h);rw [<-htl] at hs;obtain ⟨k,k1,k2,k3⟩:=hs;unfold a3P;rw [k1];simp only [f8D,beq_iff_eq];refine ⟨k2.symm,?_⟩;rw [k3,k2];unfold Q5;rw [k1];try rfl
theorem e6V(h:WI w)(hp:PW w)(ht:TL w):b3B w=some true:=by rw [e3z h.ok (Y6.2 h),d3F h hp ht]
theorem e9a(h:WI w)(hp:PW w)(ht:TL w):b2a w=some true:=by rw [f2K h.ok (Y6.2 h),d3F h hp ht]
theorem e4M(h:WI w)(ht:TL w):b4Z w=some true:=by
 rw [e0z h.ok,d6G ht,Y6.2 h];rfl
theorem e34(h:WI w)(ht:TL w):b16 w=some true:=by
 rw [e9q h.ok,d6G ht,Y6.2 h];rfl
theorem c95(ht:TL w){a:x8}(ha:a∈w.d8):R8 w a.a5=(a.i6,true):=by
 unfold R8 b4H;have hex:∃b,w.d8.find? (fun x=>(([x.a5.b9,x.a5.Seq]:List Int)==[a.a5.b9,a.a5.Seq]))=some b:=by
  cases hf:w.d8.find? (fun x=>(([x.a5.b9,x.a5.Seq]:List Int)==[a.a5.b9,a.a5.Seq])) with
  | some b=>exact ⟨b,rfl⟩
  | none=>
   have:=g0V.1 hf a ha;simp at this
 obtain ⟨b,hb⟩:=hex;rw [hb];have hbm:=g0T hb;have hbr:=List.find?_some hb;have hbr:=b1B.1 hbr;obtain ⟨i,hi,rfl⟩:=f9a ha;obtain ⟨j,hj,rfl⟩:=f9a hbm;have hij:i=j:=by
  rcases Nat.lt_trichotomy i j with q|q|q
  ·exact absurd (by rw [g0z,g0z];exact hbr.symm) (f9t.1 ht.au i j (by rw [f9u];omega) (by rw [f9u];omega) q)
  ·exact q
  ·exact absurd (by rw [g0z,g0z];exact hbr) (f9t.1 ht.au j i (by rw [f9u];omega) (by rw [f9u];omega) q)
 subst hij;rfl
theorem d6B(h:WI w)(hp:PW w):(w.a0.all fun a=>w.a0.all fun b=>U6 a.a6 b.a6)=true:=by
 rw [f8E];intro a ha;rw [f8E];intro b hb;obtain ⟨i,hi,rfl⟩:=a9F h ha;obtain ⟨j,hj,rfl⟩:=a9F h hb;exact b5I.2 fun s h1 h2=>d3m hp hi hj (f8z h1) (f8z h2)
theorem f1L(h:WI w)(hp:PW w):b3H w=some true:=by
 rw [f4l h.ok,Y6.2 h,d6B h hp];rfl
theorem f5O(h:WI w)(hp:PW w):b47 w=some true:=by
 rw [f1S h.ok,e45 (p:=fun a b:j6=>U6 a.a6 b.a6) (fun x _=>b5I.2 fun i _ _=>rfl) (fun x _ y _ hxy=>b5I.2 fun i h1 h2=>(b5I.1 hxy i h2 h1).symm),d6B h hp,Y6.2 h];rfl
theorem c8v(h:WI w)(hp:PW w):(w.a0.all fun a=>w.a0.all fun b=>(a.Acc.a7.zip b.Acc.a7).all fun p=>a1j p.1 p.2)=true:=by
 rw [f8E];intro a ha;rw [f8E];intro b hb;rw [f8E];intro p hpm;obtain ⟨i,hi,rfl⟩:=a9F h ha;obtain ⟨j,hj,rfl⟩:=a9F h hb;obtain ⟨s,hs,rfl⟩:=f9a hpm;obtain ⟨s1,s2,e⟩:=b0g hs;rw [e,c2m];intro h0 he;obtain ⟨V,P,M,hx,_⟩:=hp;have hb1:(u9 w i).Acc.a7[s].a8>0:=by
  have:=((a6O h hi).1.vs _ (f8C s1)).1.bal;simp only at h0;omega
 have x1:=hx.cur i s _ hi (f8z s1) hb1;have x2:=hx.cur j s _ hj (f8z s2) (by simp only at he;omega);have p1:=(hx.vp _ _ _ _ x1).2.1;have p2:=(hx.vp _ _ _ _ x2).2.1;simp only at he;rw [he] at p1;exact hx.pu _ _ _ _ p1 p2
theorem e9f(h:WI w)(hp:PW w):b2B w=some true:=by
 rw [e3D h.ok,Y6.2 h,c8v h hp];rfl
theorem d9u(h:WI w)(hp:PW w):b3U w=some true:=by
 rw [f3s h.ok,Y6.2 h,<-f0V (Y6.2 h),c8v h hp];rfl
theorem d3s(h:WI w)(hp:PW w):w.a0.all (a2P w)=true:=by
 rw [f8E];intro n hn;obtain ⟨i,hi,rfl⟩:=a9F h hn;unfold a2P;rw [f8E];intro k hk;have hk:k<(u9 w i).a6.length:=by simpa using hk
 rw [c2L hk];obtain ⟨V,P,M,hx,_⟩:=hp;have hc:=hx.still (hx.kn i k _ hi (f8z hk));generalize (u9 w i).a6[k]=e at hc;have key:∀q,(∃v,(u9 w q).Acc.a7[k]?=some v/\v.a8>0/\v.g9=e)->a6D e (C3 (u9 w q) k)=true:=by
  rintro q ⟨v,v1,v2,v3⟩
  unfold a6D C3;rw [v1];simp only [f9P,f8D,decide_eq_true_eq];exact ⟨v2,a0Z _ _ |>.2 v3⟩
 have hm:V5 w.a0 k e=(([u9 w 0,u9 w 1,u9 w 2].filter fun n=>a6D e (C3 n k)).length):=by
  unfold V5;rw [<-c2l h]
 obtain ⟨a,b,ha,hb,hab,va,vb⟩:=hc;have va:=key a va;have vb:=key b vb;rw [hm,f9h,decide_eq_false_iff_not];unfold D3 at ha hb;obtain rfl|rfl|rfl:a=0\/a=1\/a=2:=by omega
 all_goals obtain rfl|rfl|rfl:b=0\/b=1\/b=2:=by omega
 all_goals first|(exact absurd rfl hab)|skip
 all_goals simp only [List.filter_cons,va,vb,if_true,List.filter_nil]
 all_goals split
 all_goals simp
theorem f5L(h:WI w)(hp:PW w):b3E w=some true:=by
 rw [f04 h.ok,Y6.2 h,d3s h hp];rfl
theorem e8V(h:WI w)(hp:PW w):b3I w=some true:=by
 rw [e7Y h.ok,Y6.2 h,d3s h hp];rfl
theorem d0N(h:WI w)(hp:PW w):((f8I w.a0.length).all (a4g w))=true:=by
 rw [f8E];intro i hi;have hi:i<w.a0.length:=by simpa using hi
 obtain ⟨e,hi3⟩:=d0t h hi;have hD:D3 (i:Int):=by unfold D3;omega
 obtain ⟨hni,hid⟩:=a6O h hD;unfold a4g;rw [f8z hi,e];simp only [f8D];constructor
 ·unfold a8R;cases hph:(u9 w (i:Int)).d6 != 3;case true=>rfl
  simp only [bne_eq_false_iff_eq] at hph;obtain ⟨V,P,M,hx,_⟩:=hp;obtain ⟨l1,l2,l3,l4⟩:=(hx.ld (i:Int) hD).l3 hph;have hm:(u9 w (i:Int)).a7[(u9 w (i:Int)).Id.toNat]?=some true:=by
   rcases hni.ld with q|q|q|q
   ·omega
   ·omega
   ·omega
   ·exact q.2.2.2.2.2.1
  rw [hid] at hm;have v1:=l4 (i:Int) hD hm;obtain ⟨v,y1,y2⟩:=hx.max _ _ _ _ v1;have hb:=(hx.vp _ _ _ _ v1).2.2.1;have v2:=hx.cur (i:Int) _ v hD y1 (by omega);unfold C3;rw [y1];simp only [f9P,g00,f8D,Bool.or_eq_true,decide_eq_true_eq];refine ⟨y2,?_⟩;rcases Int.lt_or_le (u9 w (i:Int)).a8 v.a8 with q|q
  ·exact .inl q
  ·right
   refine (a0Z _ _).2 (hx.pu _ _ _ _ ?_ l1);have:=(hx.vp _ _ _ _ v2).2.1;rwa [show v.a8=(u9 w (i:Int)).a8 by omega] at this
 ·rw [f8E];intro m hm;obtain ⟨j,hj,rfl⟩:=f9G.1 hm;have hji:j<i:=by omega
  obtain ⟨e2,hj3⟩:=d0t h (show j<w.a0.length by omega);have hDj:D3 (j:Int):=by unfold D3;omega
  obtain ⟨hnj,hidj⟩:=a6O h hDj;rw [e2,c1k];rintro ⟨b1,b2⟩
  have own:∀{n:j6},NI n->0<n.a8->Own n:=fun hn hb=>by
   refine hn.ld.own fun q => ?_
   rcases hn.ld with y|y|y|y
   ·omega
   all_goals exact absurd (y.1.symm.trans q) (by decide)
  have o1:=(own hni b1).mod;have o2:=(own hnj (by omega)).mod;rw [b2,o2,hid,hidj] at o1;omega
theorem e0Z(h:WI w)(hp:PW w):b3L w=some true:=by
 rw [e1V h.ok,Y6.2 h,d0N h hp];rfl
theorem e2W(h:WI w)(hp:PW w):b5o w=some true:=by
 rw [e4f h.ok,Y6.2 h,e8C (Y6.2 h),d0N h hp];rfl
end
theorem d7o(l:List m9)(i:n8)(regs:List Int)(rs:List r9)(ps:List p8):∀r∈rs,r∈(D8 l i regs rs ps).2.1:=by
 intro r hr;unfold D8;cases i.a9==1
 ·cases i.a9==2
  ·cases i.a9==3
   ·cases i.a9==4
    ·cases i.a9==5<;>exact hr
    ·exact hr
   ·exact hr
  ·exact hr
 ·simp only [g0Z];cases W5 ps i.B with
  | some k=>
   simp only;cases ps[k]?<;>exact hr
  | none=>
   simp only;cases l[i.B.toNat]? with
   | none=>exact hr
   | some b=>
    simp only;cases J7 rs i.B
    ·exact g0e _ hr
    ·exact hr
theorem c2x(l:List m9)(prog:List n8):∀(f k:Nat) (regs:List Int) (rs:List r9) (ps:List p8),∀r∈rs,r∈(T9 l prog f k regs rs ps).b5
 | 0,_,_,_,_,r,hr=>hr
 | f+1,k,regs,rs,ps,r,hr=>by
  unfold T9;cases prog[k]? with
  | none=>exact hr
  | some i=>
   simp only;cases i.a9==6
   ·cases i.a9==7
    ·cases (D8 l i regs rs ps).1.all H5
     ·exact d7o l i regs rs ps r hr
     ·exact c2x l prog f _ _ _ _ r (d7o l i regs rs ps r hr)
    ·exact hr
   ·exact c2x l prog f _ _ _ _ r hr
def AtB(l l':List m9)(rs:List r9):Prop := ∀r∈rs,l[r.i5.toNat]?=l'[r.i5.toNat]?
theorem d80{rs:List r9}{b:Int}(h:J7 rs b=true):∃r∈rs,r.i5=b:=by
 unfold J7 at h;obtain ⟨r,h1,h2⟩:=g0b.1 h;exact ⟨r,h1,by simpa using h2⟩
theorem e27{l l':List m9}(hl:l.length=l'.length)(i:n8)(regs:List Int)(rs:List r9)(ps:List p8)(h:AtB l l' (D8 l i regs rs ps).2.1):D8 l' i regs rs ps=D8 l i regs rs ps:=by
 unfold D8 at h ⊢;cases hk:i.a9==1
 ·rfl
 ·rw [hk] at h;simp only [g0Z] at h ⊢;cases hp:W5 ps i.B with
  | some k=>rfl
  | none=>
   rw [hp] at h;simp only at h ⊢;cases hb:l[i.B.toNat]? with
   | none=>
    have:l'.length<=i.B.toNat:=by rw [<-hl];exact List.getElem?_eq_none_iff.1 hb
    rw [f8Y this]
   | some b=>
    rw [hb] at h;simp only at h;have hin:∃r∈(bif J7 rs i.B then rs else rs++[⟨i.B,b.j4⟩]),r.i5=i.B:=by
     cases hs:J7 rs i.B
     ·exact ⟨⟨i.B,b.j4⟩,by simp,rfl⟩
     ·exact d80 hs
    obtain ⟨r,r1,r2⟩:=hin;have:=h r r1;rw [r2,hb] at this;rw [<-this]
theorem c3q{l l':List m9}(hl:l.length=l'.length)(prog:List n8):∀(f k:Nat) (regs:List Int) (rs:List r9) (ps:List p8),AtB l l' (T9 l prog f k regs rs ps).b5->T9 l' prog f k regs rs ps=T9 l prog f k regs rs ps
 | 0,_,_,_,_,_=>rfl
 | f+1,k,regs,rs,ps,h=>by
  unfold T9 at h ⊢;cases hp:prog[k]? with
  | none=>rfl
  | some i=>
   rw [hp] at h;simp only at h ⊢;cases h6:i.a9==6
   ·rw [h6] at h;cases h7:i.a9==7
    ·rw [h7] at h;simp only [g00] at h ⊢;have hE:D8 l' i regs rs ps=D8 l i regs rs ps:=e27 hl i regs rs ps fun r hr=>h r (by
      cases (D8 l i regs rs ps).1.all H5
      ·exact hr
      ·exact c2x l prog f _ _ _ _ r hr)
     rw [hE];cases ha:(D8 l i regs rs ps).1.all H5
     ·rfl
     ·rw [ha] at h;exact c3q hl prog f _ _ _ _ h
    ·rfl
   ·rw [h6] at h;simp only [g0Z] at h ⊢;exact c3q hl prog f _ _ _ _ h
theorem f3S{l l':List m9}(h1:C6 l=true)(h2:C6 l'=true){p:List n8}(h:AtB l l' (B3 l p).b5):B3 l' p=B3 l p:=by
 unfold B3 at h ⊢;rw [h1] at h;rw [h1,h2];cases hp:E4 p
 ·rfl
 ·rw [hp] at h;exact c3q ((a7r h1).trans (a7r h2).symm) p _ _ _ _ _ h
def b2I(l:List m9)(rs:List r9):Prop := ∀r∈rs,∃b,l[r.i5.toNat]?=some b/\b.j4=r.j4
theorem d1S{l:List m9}(i:n8)(regs:List Int)(rs:List r9)(ps:List p8)(h:b2I l rs):b2I l (D8 l i regs rs ps).2.1:=by
 unfold D8;cases i.a9==1
 ·cases i.a9==2
  ·cases i.a9==3
   ·cases i.a9==4
    ·cases i.a9==5<;>exact h
    ·exact h
   ·exact h
  ·exact h
 ·simp only [g0Z];cases W5 ps i.B with
  | some k=>
   simp only;cases ps[k]?<;>exact h
  | none=>
   simp only;cases hb:l[i.B.toNat]? with
   | none=>exact h
   | some b=>
    simp only;cases J7 rs i.B
    ·intro r hr;rcases f8B.1 hr with q|q
     ·exact h r q
     ·rw [f8H.1 q];exact ⟨b,hb,rfl⟩
    ·exact h
theorem c5j(l:List m9)(prog:List n8):∀(f k:Nat) (regs:List Int) (rs:List r9) (ps:List p8),b2I l rs->b2I l (T9 l prog f k regs rs ps).b5
 | 0,_,_,_,_,h=>h
 | f+1,k,regs,rs,ps,h=>by
  unfold T9;cases prog[k]? with
  | none=>exact h
  | some i=>
   simp only;cases i.a9==6
   ·cases i.a9==7
    ·cases (D8 l i regs rs ps).1.all H5
     ·exact d1S i regs rs ps h
     ·exact c5j l prog f _ _ _ _ (d1S i regs rs ps h)
    ·exact h
   ·exact c5j l prog f _ _ _ _ h
theorem e60(l:List m9)(p:List n8):b2I l (B3 l p).b5:=by
 unfold B3;cases C6 l&&E4 p
 ·intro r hr;cases hr
 ·exact c5j l p _ _ _ _ _ fun r hr=>by cases hr
theorem c3d{l:List m4}(hl:l.length<=40)(he:l.all z4=true){k:Nat}(hk:k<=l.length):C6 (p6 (l.take k)).1.g7=true:=(P5 hl he k hk).1.boxes
theorem e1G{l:List m4}(hl:l.length<=40)(he:l.all z4=true){j k:Nat}(hjk:j<=k)(hk:k<=l.length){b:Int}(hb:0<=b/\b<=3){x y:m9}(hx:(p6 (l.take j)).1.g7[b.toNat]?=some x)(hy:(p6 (l.take k)).1.g7[b.toNat]?=some y)(hv:x.j4=y.j4):x=y:=by
 by_cases hall:∀i,j<=i->i<k->a6H l (p6 l).2 b i=false
 ·have:=c8k hl he hb.1 k hjk hk hall;rw [hx,hy] at this;injection this with this;exact this.symm
 ·exfalso
  apply hall;intro i h1 h2;cases hp:a6H l (p6 l).2 b i
  ·rfl
  ·obtain ⟨_,hq⟩:=d01 hl he (show i<l.length by omega) hp;obtain ⟨z,z1,z2,z3⟩:=c27 hl he hb i (by omega);obtain ⟨v,hv1⟩:=hq z z1;have m1:=(d1s hl he h1 (show i<=l.length by omega)).2 b.toNat x z hx z1;have m2:=(d1s hl he (show i+1<=k by omega) hk).2 b.toNat _ y hv1 hy;simp only at m2;split at m2<;>omega
theorem d73{s:u5}{e:m4}(h:(apply s e).2=0):e.i7=false/\a0P s.g7 e.b6=true/\e.b6.Code=0/\(apply s e).1.g7=a0Q s.g7 e.b6.b7:=by
 have hf:(O3 s e).2=0->a0P s.g7 e.b6=true/\e.b6.Code=0/\(O3 s e).1.g7=a0Q s.g7 e.b6.b7:=by
  unfold O3;cases a0P s.g7 e.b6
  ·intro h;exact absurd h (by simp)
  ·cases hc:e.b6.Code==0
   ·intro h;exact absurd h (by simp)
   ·intro _;exact ⟨rfl,by simpa using hc,rfl⟩
 unfold apply at h ⊢;cases hn:e.i7
 ·rw [hn] at h;simp only [g00] at h ⊢;refine ⟨trivial,?_⟩;cases hd:s.i8.find? (fun d=>d.a5.b9==e.a5.b9) with
  | none=>rw [hd] at h;exact hf h
  | some d=>
   rw [hd] at h;simp only at h ⊢;cases h1:d.a5.Seq==e.a5.Seq
   ·rw [h1] at h;cases h2:decide (d.a5.Seq>e.a5.Seq)
    ·rw [h2] at h;exact hf h
    ·rw [h2] at h;exact absurd h (by simp)
   ·rw [h1] at h;exact absurd h (by simp)
 ·rw [hn] at h;exact absurd h (by simp)
theorem c8y:∀(ps:List (List n8)) (p:List n8) (b:List m9) (vs:List Int) {b':List m9} {vs':List Int},a1M ps b vs=(b',vs')->C6 b'=true->a1M (ps++[p]) b vs=bif (H0 b' p).2.2==3 then ([],[]) else ((H0 b' p).1,vs'++[(H0 b' p).2.1])
 | [],p,b,vs,b',vs',h,hb=>by
  have h:(b,vs)=(b',vs'):=h;injection h with h1 h2;subst h1;subst h2;rfl
 | q::ps,p,b,vs,b',vs',h,hb=>by
  unfold a1M at h;rw [g0y];unfold a1M;cases hq:(H0 b q).2.2==3
  ·rw [hq] at h;exact c8y ps p _ _ h hb
  ·rw [hq] at h;have h:(([],[]):List m9×List Int)=(b',vs'):=h;injection h with h1 h2;rw [<-h1] at hb;exact absurd hb (by decide)
section
variable {w:m5}
theorem e3r(h:WI w)(hp:PW w)(ht:TL w){k:Nat}(hk:k<(u6 w).length)(hn:((u6 w)[k]).i7=false):∃a∈w.d8,a.a5=((u6 w)[k]).a5/\∃j,j<=k/\((u6 w)[k]).b6=B3 (p6 ((u6 w).take j)).1.g7 a.i6:=by
 obtain ⟨b,hb,h1,_⟩:=c6o h;have hm:(u6 w)[k]∈(u9 w b).a6:=h1▸f8C hk;rcases (ht.nd b hb).kn _ hm with q|⟨a,a1,a2,j,j1,j2,j3⟩
 ·rw [hn] at q;cases q
 ·have hw:D3 ((u6 w)[k]).a5.b9:=by rw [<-a2];exact (ht.aq a a1).1
  have htk:(u9 w ((u6 w)[k]).a5.b9).a6.take j=(u6 w).take j:=by
   obtain ⟨t,ht'⟩:=d5d h hp hw;conv=>rhs;rw [ht']
   rw [f9s j1]
  rw [htk] at j2 j3;refine ⟨a,a1,a2,j,?_,j3⟩;rcases Nat.lt_or_ge k j with q|q
  ·exfalso
   have:=j2 (u6 w)[k] (f9G.2 ⟨k,by omega,rfl⟩);unfold D6 at this;rw [hn] at this;simp at this
  ·exact q
theorem e1c(h:WI w)(hp:PW w)(ht:TL w){k:Nat}(hk:k<(u6 w).length)(h0:(apply (p6 ((u6 w).take k)).1 (u6 w)[k]).2=0):∃a∈w.d8,a.a5=((u6 w)[k]).a5/\B3 (p6 ((u6 w).take k)).1.g7 a.i6=((u6 w)[k]).b6:=by
 obtain ⟨z1,z2,z3,_⟩:=d73 h0;obtain ⟨hl,he⟩:=W8 (b1Q h);obtain ⟨a,a1,a2,j,j1,j2⟩:=e3r h hp ht hk z1;refine ⟨a,a1,a2,?_⟩;rw [j2];refine f3S (c3d hl he (by omega)) (c3d hl he (by omega)) ?_;intro r hr;obtain ⟨x,x1,x2⟩:=e60 _ _ r hr;rw [<-j2] at hr;have hbx:=(a2W (a3V (f8E.1 he _ (f8C hk)) z1).2.2.1).2.2.2.1 r hr;obtain ⟨y,y1,y2,_⟩:=c27 hl he (b:=r.i5) (by omega) k (by omega);have hfr:=f8E.1 z2 r hr;rw [y1] at hfr;have hfr:y.j4=r.j4:=by simpa using hfr
 rw [x1,y1,e1G hl he j1 (by omega) (b:=r.i5) (by omega) x1 y1 (by omega)]
theorem d1n(ht:TL w):∀(qs:List n5) (o:List (List n8)),(∀q∈qs,∃a∈w.d8,a.a5=q)->a2d w qs o=some (o++qs.map fun q=>(R8 w q).1)
 | [],o,_=>by simp [a2d]
 | q::qs,o,h=>by
  obtain ⟨a,a1,a2⟩:=h q (by simp);have hp:=c95 ht a1;rw [a2] at hp;unfold a2d;rw [hp];simp only [g0Z];rw [d1n ht qs _ fun x hx=>h x (by simp [hx])];simp [hp]
theorem d63(h:WI w)(hp:PW w)(ht:TL w):∀n,n<=(u6 w).length->(∀q∈told (u6 w) (p6 (u6 w)).2 n,∃a∈w.d8,a.a5=q)/\
  a1M ((told (u6 w) (p6 (u6 w)).2 n).map fun q=>(R8 w q).1) W0 []=((p6 ((u6 w).take n)).1.g7,(told (u6 w) (p6 (u6 w)).2 n).map (Q5 (u6 w)))
 | 0,_=>⟨by simp [told],rfl⟩
 | n+1,hn=>by
  obtain ⟨hl,he⟩:=W8 (b1Q h);have hlt:n<(u6 w).length:=by omega
  obtain ⟨ih1,ih2⟩:=d63 h hp ht n (by omega);have hc:=b1v hl he hlt;have hcl:(p6 (u6 w)).2.length=(u6 w).length:=by
   have:=(P5 hl he (u6 w).length (f8R _)).2.1;rwa [f8Q] at this
  have hn':n<(p6 (u6 w)).2.length:=by omega
  rw [f8z hn'] at hc;injection hc with hc;have hbx:=c3d hl he (k:=n) (by omega);have hst:(p6 ((u6 w).take (n+1))).1=(apply (p6 ((u6 w).take n)).1 (u6 w)[n]).1:=by rw [a0K hlt];rfl
  unfold told;rw [b2b hlt hn',hc,hst];rcases c5m (P5 hl he n (by omega)).1 (f8E.1 he _ (f8C hlt)) with ⟨b1,b2,b3⟩|⟨b1,b2⟩
  ·obtain ⟨a,a1,a2,a3⟩:=e1c h hp ht hlt b1;obtain ⟨z1,z2,z3,_⟩:=d73 b1;have hpf:=c95 ht a1;rw [a2] at hpf;rw [b1,b3];simp only [beq_self_eq_true,g0Z];refine ⟨fun q hq => ?_,?_⟩
   ·rcases f8B.1 hq with q'|q'
    ·exact ih1 q q'
    ·rw [f8H.1 q'];exact ⟨a,a1,a2⟩
   ·rw [f9R,f9R,List.map_singleton,List.map_singleton,c8y _ _ _ _ ih2 hbx,hpf];have hs:H0 (p6 ((u6 w).take n)).1.g7 a.i6=(a0Q (p6 ((u6 w).take n)).1.g7 ((u6 w)[n]).b6.b7,((u6 w)[n]).b6.d9,0):=by
     unfold H0;rw [a3,z3];rfl
    simp only [hs];have hv:Q5 (u6 w) ((u6 w)[n]).a5=((u6 w)[n]).b6.d9:=by
     unfold Q5;have hf:(u6 w).findIdx? (D6 ((u6 w)[n]).a5)=some n:=by
      rw [f9x];refine ⟨hlt,?_,fun i hi => ?_⟩
      ·unfold D6;rw [b2];simp
      ·intro hq;unfold D6 at hq;simp only [f8D,f9h] at hq;have:=e9L hl he hi hlt hq.1 (b1B.1 hq.2).symm;rw [f8z hn',hc,b1] at this;exact this rfl
     rw [hf];simp only [f8z hlt]
    rw [hv];rfl
  ·rw [b2,show ((apply (p6 ((u6 w).take n)).1 (u6 w)[n]).2==0)=false by simpa using b1];simp only [g00,f9o];exact ⟨ih1,ih2⟩
theorem e3J(l:List m9):a5E l l=true:=by
 unfold a5E;simp only [beq_self_eq_true,f8K];rw [f8E];intro k hk;have hk:k<l.length:=by simpa using hk
 rw [f8z hk];simp
theorem d4e(h:WI w)(hp:PW w)(ht:TL w):a2x w=true:=by
 obtain ⟨hl,he⟩:=W8 (b1Q h);obtain ⟨g1,g2⟩:=d63 h hp ht (u6 w).length (f8R _);have hd:z9 (u6 w)=told (u6 w) (p6 (u6 w)).2 (u6 w).length:=by unfold z9;rw [b1Q h];rfl
 rw [<-hd] at g1 g2;rw [f8Q] at g2;unfold a2x;rw [Y6.2 h,d1n ht _ _ g1,f9y];simp only [f8K];have hlen:((z9 (u6 w)).map fun q=>(R8 w q).1).length<=100:=by
  have hcl:(p6 (u6 w)).2.length=(u6 w).length:=by
   have:=(P5 hl he (u6 w).length (f8R _)).2.1;rwa [f8Q] at this
  have h1:=b6c (l:=u6 w) hcl (u6 w).length (f8R _);have h2:=c6V ((p6 (u6 w)).2.take (u6 w).length) 0;rw [f9u,hd];rw [f8S] at h2;omega
 have hs:F5 W0 ((z9 (u6 w)).map fun q=>(R8 w q).1)=((p6 (u6 w)).1.g7,(z9 (u6 w)).map (Q5 (u6 w))):=by
  unfold F5;rw [b8D,decide_eq_true hlen];exact g2
 unfold b5F;rw [hs];simp only [f9u,beq_self_eq_true,f8K,e3J];unfold c0D;rw [f8E];intro i hi;have hi:i<(z9 (u6 w)).length:=by simpa using hi
 rw [f9D,f8z hi];simp
end
structure AW(w:m5):Prop where
 wi:WI w
 pw:PW w
 tl:TL w
theorem e5u:AW R7:=⟨WI.open,f4v,e9E⟩
theorem f08{w:m5}(h:AW w){e:s6}(he:R9 e):AW (E8 w e):=⟨d4W h.wi he,e6M h.wi h.pw he,f6T h.wi h.tl he⟩
theorem d8h{w:m5}(h:AW w):b2d w=some true:=by
 obtain ⟨h,hp,ht⟩:=h;unfold b2d;simp only [f1L h hp,e9f h hp,e8V h hp,e2W h hp,f3h h.ok,d4e h hp ht,e9a h hp ht,e34 h ht,f8y,g0Z]
theorem e98{w:m5}(h:AW w):b9j w=some true:=by
 obtain ⟨h,hp,ht⟩:=h;unfold b9j;simp only [f5O h hp,d9u h hp,f5L h hp,e0Z h hp,f0R h.ok,d4e h hp ht,e6V h hp ht,e4M h ht,f8y,g0Z]
theorem d8L{code:List Int}(h:A2 1 a50 code):c6t code=some true:=by
 unfold c6t;cases decide ((code.length:Int)>1048576);case true=>rfl
 obtain ⟨l,a1,a2,a3⟩:=e5o h.2;have hf:s8 l:=by unfold s8;omega
 have hl:((R7.a0.length:Int) != 3)=false:=rfl;simp only [g00,a1,e1L,f8y,hl];have go:∀(d k:Nat) (w:m5),AW w->l.length-k=d->∃x,AW x/\o8 (fun s:Int×m5=>a64 l s.1 s.2) ((k:Int),w)=some (.brk x):=by
  intro d;induction d with
  | zero=>
   intro k w hw hd;refine ⟨w,hw,C8 (body:=fun s:Int×m5=>a64 l s.1 s.2) (b:=w) ?_⟩;unfold a64;rw [show decide ((k:Int)<(l.length:Int))=false by simp;omega];rfl
  | succ d ih=>
   intro k w hw hd;have hlt:k<l.length:=by omega
   have hek:=a2 _ (f8C hlt);have hw':=f08 hw hek;obtain ⟨x,x1,x3⟩:=ih (k+1) (E8 w l[k]) hw' (by omega);refine ⟨x,x1,?_⟩;rw [E7 (body:=fun s:Int×m5=>a64 l s.1 s.2) (t:=(((k+1:Nat):Int),E8 w l[k])) ?_]
   ·exact x3
   ·unfold a64;simp only [w6 _ k hlt,t0 hlt,g0Z,f8y,e7U hw.wi hek,d8h hw',f8F,g00];cases f9c (k:Int) 5==4<;>simp only [g0Z,g00,f8y,l9.go,c3R,E6 hf hlt]
 obtain ⟨x,x1,x3⟩:=go l.length 0 R7 e5u rfl;rw [show o8 (fun s:Int×m5=>a64 l s.1 s.2) (0,R7)=_ from x3];simp only [f8y,l9.go,c67,d8h x1,e98 x1,g0Z]
end
end Go.Proofs.YtmceicmlkgpmpaaGreat
