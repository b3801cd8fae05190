/- What the law leans on, part 6. -/
import Derived.Test.YtijjifellblecaaGreatP5
set_option linter.unusedVariables false
set_option linter.unusedSimpArgs false
set_option linter.unnecessarySimpa false
namespace Go.Proofs.YtijjifellblecaaGreat
open Go
open Option renaming bind_some->f5Y,getD_some->f7s
open List renaming getElem?_eq_getElem->f5Z,replicate->f6a,mem_append->f6b,getElem_mem->f6c,all_eq_true->f6e,mem_singleton->f6h,range->f6i,mem_cons->f6j,nodup_append->f6k,length_append->f6l,eq_nil_of_length_eq_zero->f6m,mem_of_getElem?->f6o,getD_eq_getElem?_getD->f6p,length_take->f6t,take_length->f6u,getElem?_set_ne->f6v,getElem?_append_left->f6x,getElem?_eq_none->f6z,mem_map->f6G,any_eq_false->f6O,append_nil->f6P,getElem_of_mem->f6Q,take_zero->f6R,take_of_length_le->f6S,take_append_of_le_length->f6T,pairwise_iff_getElem->f6U,nil_append->f6V,length_map->f6W,mem_replicate->f6X,findIdx?_eq_some_iff_getElem->f6Y,take_append_drop->f7a,mem_flatten->f7b,getElem?_map->f7c,mem_of_mem_drop->f7d,mem_take_iff_getElem->f7f,length_cons->f7j,getElem?_cons_zero->f7l,getElem?_set_self->f7p,map_append->f7q,getElem?_cons_succ->f7r,length_set->f7y,any_eq_true->f7B,mem_append_left->f7D,getElem?_take->f7I,length_nil->f7L,cons_append->f7V,length_drop->f7W,getElem_map->f7X,set_getElem_self->f8g,not_mem_nil->f8k,mem_of_find?_eq_some->f8r,find?_eq_none->f8s
open Bool renaming and_eq_true->f6d,not_true->f6f,true_and->f6n,not_eq_true'->f6J,or_eq_false_iff->f7o
open Nat renaming le_refl->f6s
open Int renaming toNat_natCast->f6A,le_refl->f6B,le_trans->f6Z
noncomputable section
section
variable {L:m6->Prop} {n:j7} {m:l9}
theorem Act.same(h:ND L n):Act L n n [] []:=⟨rfl,rfl,⟨[],by simp⟩,.inl ⟨rfl,rfl⟩,h,by simp,.inl rfl⟩
theorem Act.of{x:j7}{l:List l9}(e1:x.Id=n.Id)(e2:x.Seq=n.Seq)(e3:x.a5=n.a5)(e4:x.i9=n.i9)(e5:x.b7=n.b7)(h:ND L x)(hm:∀m∈l,ML L m):Act L n x l []:=
 ⟨e1,e2,⟨[],by rw [e3];simp⟩,.inl ⟨e4,e5⟩,h,hm,.inl rfl⟩
theorem ML.plain(h1:m.a9≠3)(h2:m.a9≠5)(h3:m.a9≠7)(hv:m.a7=[]):ML L m:=⟨fun h=>by omega,by rw [hv];simp⟩
theorem ML.has(hv:m.a7=[])(h:L m.i0):ML L m:=⟨fun _=>h,by rw [hv];simp⟩
theorem ML.all{id:Int}{x:l9}(h:ML L m)(hx:x∈I6 id m):ML L x:=by
 unfold I6 at hx;obtain ⟨t,_,rfl⟩:=f6G.1 hx;exact ⟨h.en,h.vs⟩
theorem ND.down(h:ND L n):ND L (a3K n):=⟨h.kn,h.av,by simp [a3K],fun q=>absurd (show (0:Int)=3 from q) (by decide),h.wt,h.qu⟩
theorem ND.yield(h:ND L n)(b:Int):ND L (N3 n b):=by
 unfold N3;cases n.d8 != 0&&decide (b>n.a8)
 ·exact h
 ·exact h.down
theorem c02(n:j7)(b:Int):(N3 n b).Seq=n.Seq/\(N3 n b).a5=n.a5/\(N3 n b).i9=n.i9/\(N3 n b).b7=n.b7:=by
 unfold N3;cases n.d8 != 0&&decide (b>n.a8)<;>exact ⟨rfl,rfl,rfl,rfl⟩
theorem ND.next(h:ND L n)(h0:L eN){e:m6}(hn:a2L n e):L e:=by
 cases hn with
 | best v hv hb=>exact h.bv v (f6o hv) hb
 | gap=>exact h0
 | want hb=>exact h.wt hb
 | queue e he=>exact h.qu e he
theorem d3n{a x:z4}{b s:Int}{e:m6}(hc:K3 a b s e=some x)(h:∀v∈a.a7,v.a8>0->L v.i0)(he:L e):∀v∈x.a7,v.a8>0->L v.i0:=by
 obtain ⟨k,rfl,_,_,_,_,_,rfl⟩:=b5B hc;intro v hv hb;rcases d3b hv with q|q
 ·rcases c4t q with q|q
  ·exact h v q hb
  ·rw [q] at hb;exact absurd hb (by decide)
 ·rw [q];exact he
theorem Act.propose(h:ND L n)(h0:L eN):Act L n (L3 n).1 (L3 n).2 []:=by
 unfold L3;cases n.d8 != 2||decide (40<=n.a5.length)
 case true=>exact .same h
 simp only [f8w];obtain ⟨q,hq,hql,hqm,hqe⟩:=a9w n;cases hx:a0O n with
 | mk x o=>
 rw [hx] at hq hqe;have hq:x={n with d9:=q}:=hq;subst hq;have hQ:ND L {n with d9:=q}:=⟨h.kn,h.av,h.bv,h.cu,h.wt,fun e he=>h.qu e (hqm e he)⟩
 cases o with
 | none=>exact .of rfl rfl rfl rfl rfl hQ (by simp)
 | some e=>
  have he:=h.next h0 (hqe e rfl);simp only [a5O];cases hc:K3 n.Acc n.a8 (n.a5.length:Int) e with
  | none=>exact .of rfl rfl rfl rfl rfl hQ.down (by simp)
  | some a=>exact .of rfl rfl rfl rfl rfl ⟨h.kn,d3n hc h.av he,h.bv,fun _=>he,h.wt,hQ.qu⟩ fun m hm=>(ML.has rfl he).all hm
theorem Act.thenP{a:j7}{l:List l9}{ts:List n5}(h:Act L n a l ts)(h0:L eN):Act L n (L3 a).1 (l++(L3 a).2) ts:=by
 have hp:=Act.propose h.nd h0;have hk:=b73 a;obtain ⟨t,ht⟩:=h.kn;refine ⟨hk.id.trans h.id,hk.seq.trans h.sq,⟨t,hk.known.trans ht⟩,h.bw.imp (fun q=>⟨hk.busy.trans q.1,hk.want.trans q.2⟩) fun q=>hk.busy.trans q,hp.nd,fun m hm=>(f6b.1 hm).elim (h.ml m) (hp.ml m),?_⟩;unfold TO;rw [hk.known,hk.busy];exact h.to
theorem Act.know{e:m6}(h:ND L n)(he:L e):Act L n (U8 (E2 n e)).1 [] (U8 (E2 n e)).2:=by
 have k1:(E2 n e).Id=n.Id:=b8G n e;have k2:(E2 n e).Seq=n.Seq:=by unfold E2;cases n.d8==3<;>rfl
 have k3:(E2 n e).a5=n.a5++[e]:=c2F n e;have k4:(E2 n e).i9=n.i9/\(E2 n e).b7=n.b7:=by unfold E2;cases n.d8==3<;>exact ⟨rfl,rfl⟩
 have kk:∀x∈n.a5++[e],L x:=fun x hx=>(f6b.1 hx).elim (h.kn x) fun q=>by rw [f6h.1 q];exact he
 have hnd:ND L (E2 n e):=by
  unfold E2;cases hp:n.d8==3
  ·exact ⟨kk,h.av,h.bv,h.cu,h.wt,h.qu⟩
  ·exact ⟨kk,h.av,h.bv,fun q=>absurd (show (2:Int)=3 from q) (by decide),h.wt,h.qu⟩
 rcases a9p (E2 n e) with q|⟨k,q1,q2,q⟩<;>rw [q]
 ·exact ⟨k1,k2,⟨[e],k3⟩,.inl k4,hnd,by simp,.inl rfl⟩
 ·refine ⟨k1,k2,⟨[e],k3⟩,.inr rfl,⟨hnd.kn,hnd.av,hnd.bv,hnd.cu,fun q=>(by cases q),hnd.qu⟩,by simp,.inr ⟨by rw [<-k4.1];exact q1,rfl,k,by rw [<-k4.2];exact q2,?_⟩⟩;rw [<-k4.2,<-k1];rfl
theorem Act.learn{e:m6}(h:ND L n)(h0:L eN)(he:L e):Act L n (Y3 n e).1 (Y3 n e).2.1 (Y3 n e).2.2:=by
 have:=(Act.know h he).thenP h0;rw [f6V] at this;exact this
theorem e3Y{α:Type}{l:List α}{k:Nat}{x:α}(h:x∈l.drop k):x∈l:=f7d h
theorem Act.take(h:ND L n)(h0:L eN)(hm:ML L m)(hmi:MI m):Act L n (W2 n m).1 (W2 n m).2.1 (W2 n m).2.2:=by
 unfold W2;by_cases k1:m.a9=1
 ·rw [show (m.a9==1)=true by simpa using k1];simp only [f8v];unfold a15;cases hp:I3 n.Acc m.a8 with
  | none=>exact .of rfl rfl rfl rfl rfl h fun x hx=>by rw [f6h.1 hx];exact .plain (by simp [L9]) (by simp [L9]) (by simp [L9]) rfl
  | some a=>
   obtain ⟨rfl,_⟩:=a3L hp;obtain ⟨y1,y2,y3,y4⟩:=c02 {n with Acc:=⟨m.a8,n.Acc.a7⟩} m.a8;have hg:ND L {n with Acc:=⟨m.a8,n.Acc.a7⟩}:=⟨h.kn,h.av,h.bv,h.cu,h.wt,h.qu⟩
   refine .of (a6T _ _) y1 y2 y3 y4 (hg.yield _) fun x hx => ?_
   rw [f6h.1 hx];exact ⟨fun q=>by simp [L9] at q,fun v hv=>h.av v (e3Y hv)⟩
 rw [show (m.a9==1)=false by simpa using k1];by_cases k2:m.a9=2
 ·rw [show (m.a9==2)=true by simpa using k2];simp only [f8v,f8w];unfold a1W;have hb:∀v∈E1 n.i5 (f6a m.g8.toNat v0++m.a7),v.a8>0->L v.i0:=fun v hv hb=>by
   rcases a9M hv with q|q
   ·exact h.bv v q hb
   ·rcases f6b.1 q with q|q
    ·rw [(f6X.1 q).2] at hb;exact absurd hb (by decide)
    ·exact hm.vs v q hb
  cases n.d8 != 1||m.a8 != n.a8
  ·simp only [f8w];cases N1 (n.c9.set m.c9.toNat true)
   ·exact .of rfl rfl rfl rfl rfl ⟨h.kn,h.av,hb,h.cu,h.wt,h.qu⟩ (by simp)
   ·simp only [f8v];have h1:Act L n {n with c9:=[],i5:=E1 n.i5 (f6a m.g8.toNat v0++m.a7),d8:=2} [] []:=.of rfl rfl rfl rfl rfl ⟨h.kn,h.av,hb,fun q=>absurd (show (2:Int)=3 from q) (by decide),h.wt,h.qu⟩ (by simp);have h2:=h1.thenP h0;rw [f6V] at h2;exact h2
  ·exact .same h
 rw [show (m.a9==2)=false by simpa using k2];by_cases k3:m.a9=3
 ·rw [show (m.a9==3)=true by simpa using k3];simp only [f8v,f8w];unfold a1U;cases hp:K3 n.Acc m.a8 m.g8 m.i0 with
  | none=>exact .of rfl rfl rfl rfl rfl h fun x hx=>by rw [f6h.1 hx];exact .plain (by simp [L9]) (by simp [L9]) (by simp [L9]) rfl
  | some a=>
   obtain ⟨y1,y2,y3,y4⟩:=c02 {n with Acc:=a} m.a8;have hg:ND L {n with Acc:=a}:=⟨h.kn,d3n hp h.av (hm.en (.inl k3)),h.bv,h.cu,h.wt,h.qu⟩
   refine .of (a6T _ _) y1 y2 y3 y4 (hg.yield _) fun x hx => ?_
   rw [f6h.1 hx];exact .plain (by simp [L9]) (by simp [L9]) (by simp [L9]) rfl
 rw [show (m.a9==3)=false by simpa using k3];by_cases k4:m.a9=4
 ·rw [show (m.a9==4)=true by simpa using k4];simp only [f8v,f8w];unfold a2F;cases hc:n.d8 != 3||(m.a8 != n.a8||m.g8 != (n.a5.length:Int))
  ·simp only [f8w];simp only [f7o,bne_eq_false_iff_eq] at hc;have hcu:=h.cu hc.1;have h1:ND L {n with a7:=n.a7.set m.c9.toNat true}:=⟨h.kn,h.av,h.bv,h.cu,h.wt,h.qu⟩
   cases N1 (n.a7.set m.c9.toNat true)
   ·exact .of rfl rfl rfl rfl rfl h1 (by simp)
   ·simp only [f8v];have h2:=Act.learn h1 h0 hcu;exact ⟨h2.id,h2.sq,h2.kn,h2.bw,h2.nd,fun x hx=>(f6b.1 hx).elim (fun q=>(ML.has rfl hcu).all q) (h2.ml x),h2.to⟩
  ·exact .same h
 rw [show (m.a9==4)=false by simpa using k4];by_cases k5:m.a9=5
 ·rw [show (m.a9==5)=true by simpa using k5];simp only [f8v,f8w];unfold a2M;cases decide (m.g8<(n.a5.length:Int))
  ·cases decide (m.g8>(n.a5.length:Int))
   ·exact .learn h h0 (hm.en (.inr (.inl k5)))
   ·exact .of rfl rfl rfl rfl rfl h fun x hx=>by rw [f6h.1 hx];exact .plain (by simp [L9]) (by simp [L9]) (by simp [L9]) rfl
  ·exact .same h
 rw [show (m.a9==5)=false by simpa using k5];by_cases k6:m.a9=6
 ·rw [show (m.a9==6)=true by simpa using k6];simp only [f8v,f8w];have hg:ND L {n with Acc:=(I3 n.Acc m.a8).getD n.Acc}:=by
   cases hp:I3 n.Acc m.a8 with
   | none=>exact h
   | some a=>
    obtain ⟨rfl,_⟩:=a3L hp;exact ⟨h.kn,h.av,h.bv,h.cu,h.wt,h.qu⟩
  obtain ⟨y1,y2,y3,y4⟩:=c02 {n with Acc:=(I3 n.Acc m.a8).getD n.Acc} m.a8;exact .of (a6T _ _) y1 y2 y3 y4 (hg.yield _) (by simp)
 rw [show (m.a9==6)=false by simpa using k6];by_cases k7:m.a9=7
 ·rw [show (m.a9==7)=true by simpa using k7];simp only [f8v,f8w];unfold a2b;cases n.d8==0||(decide (4<=n.d9.length)||N0 n.a5 m.i0.a0)
  ·simp only [f8w];have h1:Act L n {n with d9:=n.d9++[m.i0]} [] []:=.of rfl rfl rfl rfl rfl ⟨h.kn,h.av,h.bv,h.cu,h.wt,fun e he=>(f6b.1 he).elim (h.qu e) fun q=>by rw [f6h.1 q];exact hm.en (.inr (.inr k7))⟩ (by simp);have h2:=h1.thenP h0;rw [f6V] at h2;exact h2
  ·exact .same h
 rw [show (m.a9==7)=false by simpa using k7];cases m.a9==8
 ·exact .same h
 ·refine .of rfl rfl rfl rfl rfl h fun x hx => ?_
  obtain ⟨l,hl,hx⟩:=f7b.1 hx;obtain ⟨j,hj,rfl⟩:=f6G.1 hl;unfold a1n at hx;cases hk:n.a5[m.g8.toNat+j]? with
  | none=>rw [hk] at hx;cases hx
  | some e=>
   rw [hk] at hx;rw [f6h.1 hx];exact .has rfl (h.kn e (f6o hk))
theorem Act.rise(h:ND L n):Act L n (X5 n).1 (X5 n).2 []:=by
 unfold X5;cases decide (M7 n.Acc.i4 n.Id<0)
 ·refine .of rfl rfl rfl rfl rfl ⟨h.kn,h.av,h.av,fun q=>absurd (show (1:Int)=3 from q) (by decide),h.wt,h.qu⟩ fun x hx=>(ML.plain (by simp) (by simp) (by simp) rfl).all hx
 ·exact .same h
theorem Act.retry(h:ND L n)(h0:L eN):Act L n (V6 n).1 (V6 n).2 []:=by
 have hn:∀x∈I6 n.Id ⟨8,0,0,0,(n.a5.length:Int),zE,[]⟩,ML L x:=fun x hx=>(ML.plain (by simp) (by simp) (by simp) rfl).all hx
 have N1:∀{l:List l9},(∀x∈l,ML L x)->Act L n n (I6 n.Id ⟨8,0,0,0,(n.a5.length:Int),zE,[]⟩++l) []:=fun {l} hl=>.of rfl rfl rfl rfl rfl h fun x hx=>(f6b.1 hx).elim (hn x) (hl x)
 unfold V6;by_cases h1:n.d8=1
 ·rw [show (n.d8==1)=true by simpa using h1];exact N1 fun x hx=>(ML.plain (by simp) (by simp) (by simp) rfl).all hx
 rw [show (n.d8==1)=false by simpa using h1];by_cases h2:n.d8=2
 ·rw [show (n.d8==2)=true by simpa using h2];have hp:Act L n n (I6 n.Id ⟨8,0,0,0,(n.a5.length:Int),zE,[]⟩) []:=.of rfl rfl rfl rfl rfl h hn;exact hp.thenP h0
 rw [show (n.d8==2)=false by simpa using h2];by_cases h3:n.d8=3
 ·rw [show (n.d8==3)=true by simpa using h3];exact N1 fun x hx=>(ML.has rfl (h.cu h3)).all hx
 rw [show (n.d8==3)=false by simpa using h3];cases hb:n.i9
 ·exact .of rfl rfl rfl rfl rfl h hn
 ·exact N1 fun x hx=>(ML.has rfl (h.wt hb)).all hx
theorem Act.fall(h:ND L n):Act L n (a0l n) [] []:=⟨rfl,rfl,⟨[],by simp [a0l,C6]⟩,.inr rfl,⟨h.kn,h.av,by simp [a0l,C6],fun q=>absurd (show (0:Int)=3 from q) (by decide),fun q=>(by cases q),by simp [a0l,C6]⟩,by simp,.inl rfl⟩
theorem ND.mono{L':m6->Prop}(h:ND L n)(hi:∀e,L e->L' e):ND L' n:=⟨fun e q=>hi e (h.kn e q),fun v q b=>hi _ (h.av v q b),fun v q b=>hi _ (h.bv v q b),fun q=>hi _ (h.cu q),fun q=>hi _ (h.wt q),fun e q=>hi e (h.qu e q)⟩
theorem ML.mono{L':m6->Prop}(h:ML L m)(hi:∀e,L e->L' e):ML L' m:=⟨fun q=>hi _ (h.en q),fun v q b=>hi _ (h.vs v q b)⟩
end
def a05(w:m4)(e:m6):Prop:=e.i8=true\/∃a∈w.d7,a.a0=e.a0/\∃j,j<=(u5 w e.a0.c8).a5.length/\(∀x∈(u5 w e.a0.c8).a5.take j,F4 e.a0 x=false)/\e.b8=C2 (s5 ((u5 w e.a0.c8).a5.take j)).1.g9 a.i7
def a77(l:List m6)(t:n5):Prop := ∃k,l.findIdx? (F4 t.a0)=some k/\t.Code=Q4 l k/\t.g7=bif Q4 l k==0 then U2 l t.a0 else 0
structure TL(w:m4):Prop where
 nd:∀i,D3 i->ND (a05 w) (u5 w i)
 ml:∀m∈w.b9,ML (a05 w) m
 aq:∀a∈w.d7,D3 a.a0.c8/\1<=a.a0.Seq/\a.a0.Seq<=(u5 w a.a0.c8).Seq
 au:(w.d7.map (·.a0)).Nodup
 tn:∀t∈w.Told,t.Node=t.a0.c8/\D3 t.Node/\(∃a∈w.d7,a.a0=t.a0)/\((u5 w t.Node).i9=true->t.a0.Seq<(u5 w t.Node).Seq)/\a77 (u5 w t.Node).a5 t
 tu:(w.Told.map (·.a0)).Nodup
theorem c7o{l t:List m6}{q:o7}{k:Nat}(h:l.findIdx? (F4 q)=some k):(l++t).findIdx? (F4 q)=some k:=by
 rw [List.findIdx?_append,h];rfl
theorem d6q{l t:List m6}{k:Nat}(h:G6 (l++t)=true)(hk:k<l.length):Q4 (l++t) k=Q4 l k:=by
 have hl:G6 l=true:=by
  unfold G6 at h⊢;simp only [f6l,List.all_append,f6d,decide_eq_true_eq] at h⊢;exact ⟨by omega,h.2.1⟩
 rw [c2m h (by rw [f6l];omega),c2m hl hk,f6T (by omega),List.getElem_append_left hk]
theorem e2j{l t:List m6}{q:o7}{k:Nat}(h:l.findIdx? (F4 q)=some k):U2 (l++t) q=U2 l q:=by
 obtain ⟨hk,_⟩:=b2U h;unfold U2;rw [c7o h,h];simp only [f6x hk]
theorem a77.app{l t:List m6}{x:n5}(h:a77 l x)(hl:G6 (l++t)=true):a77 (l++t) x:=by
 obtain ⟨k,h1,h2,h3⟩:=h;obtain ⟨hk,_⟩:=b2U h1;exact ⟨k,c7o h1,by rw [d6q hl hk];exact h2,by rw [d6q hl hk,e2j h1];exact h3⟩
theorem a6p{w:m4}(h:WI w){i:Int}(hi:D3 i):NI (u5 w i)/\(u5 w i).Id=i:=by
 rw [a17 hi];unfold D3 at hi;obtain ⟨k,rfl⟩:∃k:Nat,i=(k:Int):=⟨i.toNat,by omega⟩
 obtain ⟨n,_,h2,h3,h4,_⟩:=a4o h (i:=k) (by omega);rw [h2];exact ⟨h4,h3⟩
theorem b9u{w w':m4}(hl:w.a6.length=3){i:Nat}(hi:i<3)(n:j7)(hw:w'.a6=w.a6.set i n)(j:Int):u5 w' j=if j=(i:Int) then n else u5 w j:=by
 unfold u5 G8;rw [hw];by_cases hj:0<=j/\j<=2
 ·rw [if_pos hj,if_pos hj];by_cases q:j=(i:Int)
  ·subst q;rw [if_pos rfl,f6A,f6p,f7p (by omega)];rfl
  ·rw [if_neg q,f6p,f6v (by omega),<-f6p]
 ·rw [if_neg hj,if_neg hj,if_neg (by omega)]
theorem a05.mono{w w':m4}(hk:∀j,∃t,(u5 w' j).a5=(u5 w j).a5++t)(ha:∀a∈w.d7,a∈w'.d7){e:m6}(h:a05 w e):a05 w' e:=by
 rcases h with h|⟨a,h1,h2,j,h3,h4,h5⟩
 ·exact .inl h
 ·obtain ⟨t,ht⟩:=hk e.a0.c8;refine .inr ⟨a,ha a h1,h2,j,by rw [ht,f6l];omega,?_,?_⟩
  ·rw [ht,f6T h3];exact h4
  ·rw [ht,f6T h3];exact h5
theorem TL.step{w w':m4}(h:TL w)(hl:w.a6.length=3){i:Nat}(hi:i<3)(hni:NI (u5 w (i:Int)))(hid:(u5 w (i:Int)).Id=(i:Int)){n':j7}{l:List l9}{ts:List n5}(hn':NI n')(ha:Act (a05 w) (u5 w (i:Int)) n' l ts)(hn:w'.a6=w.a6.set i n')(hm:∀m∈w'.b9,m∈w.b9\/m∈l)(hk:w'.d7=w.d7)(ht:w'.Told=w.Told\/w'.Told=w.Told++ts):TL w':=by
 have hJ:=b9u hl hi n' hn;have hD:D3 (i:Int):=by unfold D3;omega
 have hJi:u5 w' (i:Int)=n':=by rw [hJ,if_pos rfl]
 have hkn:∀j,∃t,(u5 w' j).a5=(u5 w j).a5++t:=fun j=>by
  rw [hJ];split
  ·rename_i q;subst q;exact ha.kn
  ·exact ⟨[],by simp⟩
 have hmo:∀e,a05 w e->a05 w' e:=fun e=>a05.mono hkn (by rw [hk];exact fun _ q=>q)
 have hsq:∀j,(u5 w' j).Seq=(u5 w j).Seq:=fun j=>by
  rw [hJ];split
  ·rename_i q;subst q;exact ha.sq
  ·rfl
 have hls:∀j,D3 j->NI (u5 w j)->∀t,(u5 w' j).a5=(u5 w j).a5++t->G6 ((u5 w j).a5++t)=true\/(u5 w' j).a5=(u5 w j).a5:=fun j hj hjn t ht=>by
  by_cases q:j=(i:Int)
  ·subst q;rw [hJi] at ht;left;rw [<-ht];exact hn'.list
  ·right;rw [hJ,if_neg q]
 have old:∀t∈w.Told,t.Node=t.a0.c8/\D3 t.Node/\(∃a∈w'.d7,a.a0=t.a0)/\((u5 w' t.Node).i9=true->t.a0.Seq<(u5 w' t.Node).Seq)/\a77 (u5 w' t.Node).a5 t:=by
  intro t q;obtain ⟨x1,x2,x3,x4,x5⟩:=h.tn t q;refine ⟨x1,x2,by rw [hk];exact x3,fun hb => ?_,?_⟩
  ·rw [hsq];refine x4 ?_;rw [hJ] at hb;split at hb
   ·rename_i q;rw [q];rcases ha.bw with ⟨b,_⟩|b
    ·rw [<-b];exact hb
    ·rw [b] at hb;cases hb
   ·exact hb
  ·obtain ⟨t',ht'⟩:=hkn t.Node;rw [ht'];by_cases q:t.Node=(i:Int)
   ·refine x5.app ?_;rw [<-ht',q,hJi];exact hn'.list
   ·have:t'=[]:=by
     rw [hJ,if_neg q] at ht';have:=congrArg List.length ht';rw [f6l] at this;exact f6m (by omega)
    rw [this,f6P];exact x5
 have new:∀t∈ts,(t.Node=t.a0.c8/\D3 t.Node/\(∃a∈w'.d7,a.a0=t.a0)/\((u5 w' t.Node).i9=true->t.a0.Seq<(u5 w' t.Node).Seq)/\a77 (u5 w' t.Node).a5 t)/\ts=[t]/\(u5 w (i:Int)).i9=true/\t.a0=⟨(i:Int),(u5 w (i:Int)).Seq⟩:=by
  intro t q;rcases ha.to with e|⟨b1,b2,k,b3,b4⟩
  ·rw [e] at q;cases q
  ·rw [b4] at q;have q:=f6h.1 q;have hw:(u5 w (i:Int)).b7.a0=⟨(i:Int),(u5 w (i:Int)).Seq⟩/\(u5 w (i:Int)).b7.i8=false:=by
    rcases hni.wt with y|y
    ·exact ⟨by rw [y.2.2.2.2,hid],y.2.2.2.1⟩
    ·rw [b1] at y;cases y.1
   have hlg:=(h.nd (i:Int) hD).wt b1;rcases hlg with y|⟨a,a1,a2,_⟩
   ·rw [hw.2] at y;cases y
   ·subst q;refine ⟨⟨?_,by show D3 _;rw [hid];exact hD,⟨a,by rw [hk];exact a1,a2⟩,?_,?_⟩,b4,b1,hw.1⟩
    ·show (u5 w (i:Int)).Id=(u5 w (i:Int)).b7.a0.c8
     rw [hw.1,hid]
    ·show (u5 w' (u5 w (i:Int)).Id).i9=true->_
     rw [hid,hJi,b2];intro y;cases y
    ·show a77 (u5 w' (u5 w (i:Int)).Id).a5 _
     rw [hid,hJi];exact ⟨k,b3,rfl,rfl⟩
 refine ⟨fun j hj => ?_,fun m q => ?_,fun a q => ?_,by rw [hk];exact h.au,fun t q => ?_,?_⟩
 ·rw [hJ];split
  ·exact ha.nd.mono hmo
  ·exact (h.nd j hj).mono hmo
 ·exact (hm m q).elim (fun q=>(h.ml m q).mono hmo) fun q=>(ha.ml m q).mono hmo
 ·rw [hk] at q;obtain ⟨x1,x2,x3⟩:=h.aq a q;exact ⟨x1,x2,by rw [hsq];exact x3⟩
 ·rcases ht with e|e
  ·rw [e] at q;exact old t q
  ·rw [e] at q;exact (f6b.1 q).elim (old t) fun q=>(new t q).1
 ·rcases ht with e|e
  ·rw [e];exact h.tu
  ·rw [e,f7q];refine f6k.2 ⟨h.tu,?_,?_⟩
   ·cases hts:ts with
    | nil=>simp
    | cons t r=>
     have:=(new t (by rw [hts];simp)).2.1;rw [hts] at this;injection this with _ hr;rw [hr];simp
   ·intro a ha' b hb' hab;obtain ⟨x,hx,rfl⟩:=f6G.1 ha';obtain ⟨y,hy,rfl⟩:=f6G.1 hb';obtain ⟨_,_,n3,n4⟩:=new y hy;obtain ⟨o1,o2,o3,o4,o5⟩:=h.tn x hx;rw [n4] at hab;have:x.Node=(i:Int):=by rw [o1,hab]
    have:=o4 (by rw [this];exact n3);rw [‹x.Node=(i:Int)›,hab] at this;simp only at this;omega
theorem TL.asked{w w':m4}(h:TL w)(hw:WI w){i:Nat}(hi:i<3){p:List n9}(hc:K7 (u5 w (i:Int)) p=true)(hn:w'.a6=w.a6.set i (Q0 (u5 w (i:Int)) p))(hm:w'.b9=w.b9)(hk:w'.d7=w.d7++[⟨⟨(i:Int),(u5 w (i:Int)).Seq+1⟩,p⟩])(ht:w'.Told=w.Told):TL w':=by
 have hJ:=b9u hw.nl hi _ hn;have hD:D3 (i:Int):=by unfold D3;omega
 obtain ⟨hni,hid⟩:=a6p hw hD;have hJi:u5 w' (i:Int)=Q0 (u5 w (i:Int)) p:=by rw [hJ,if_pos rfl]
 have hkn:∀j,(u5 w' j).a5=(u5 w j).a5:=fun j=>by
  rw [hJ];split
  ·rename_i q;subst q;rfl
  ·rfl
 have hsq:∀j,(u5 w j).Seq<=(u5 w' j).Seq:=fun j=>by
  rw [hJ];split
  ·rename_i q;subst q;show _<=(u5 w (i:Int)).Seq+1;omega
  ·exact f6B _
 have hmo:∀e,a05 w e->a05 w' e:=fun e=>a05.mono (fun j=>⟨[],by rw [hkn,f6P]⟩) (by rw [hk];exact fun a q=>f7D _ q)
 have hnew:∀e,a05 w e->F4 ⟨(i:Int),(u5 w (i:Int)).Seq+1⟩ e=false:=fun e he=>by
  cases hq:F4 ⟨(i:Int),(u5 w (i:Int)).Seq+1⟩ e
  ·rfl
  ·unfold F4 at hq;simp only [f6d,f6J] at hq;have hr:e.a0=⟨(i:Int),(u5 w (i:Int)).Seq+1⟩:=(b1k (b:=⟨(i:Int),(u5 w (i:Int)).Seq+1⟩)).1 hq.2;rcases he with he|⟨a,a1,a2,_⟩
   ·rw [hq.1] at he;cases he
   ·have:=(h.aq a a1).2.2;rw [a2,hr] at this;simp only at this;omega
 have hnd:=h.nd (i:Int) hD;refine ⟨fun j hj => ?_,fun m q=>(h.ml m (hm▸q)).mono hmo,fun a q => ?_,?_,fun t q => ?_,by rw [ht];exact h.tu⟩
 ·rw [hJ];split
  ·refine ⟨fun e q=>hmo e (hnd.kn e q),fun v q b=>hmo _ (hnd.av v q b),fun v q b=>hmo _ (hnd.bv v q b),fun q=>hmo _ (hnd.cu q),fun _ => ?_,fun e q=>hmo e (hnd.qu e q)⟩;refine .inr ⟨⟨⟨(i:Int),(u5 w (i:Int)).Seq+1⟩,p⟩,by rw [hk];simp,?_,(u5 w (i:Int)).a5.length,?_,?_,?_⟩
   ·show _=(⟨(u5 w (i:Int)).Id,(u5 w (i:Int)).Seq+1⟩:o7)
    rw [hid]
   ·show _<=(u5 w' (u5 w (i:Int)).Id).a5.length
    rw [hid,hkn];exact f6s _
   ·show ∀x∈(u5 w' (u5 w (i:Int)).Id).a5.take _,F4 (⟨(u5 w (i:Int)).Id,(u5 w (i:Int)).Seq+1⟩:o7) x=false
    rw [hid,hkn,f6u];exact fun x hx=>hnew x (hnd.kn x hx)
   ·show _=C2 (s5 ((u5 w' (u5 w (i:Int)).Id).a5.take _)).1.g9 p
    rw [hid,hkn,f6u];rfl
  ·exact (h.nd j hj).mono hmo
 ·rw [hk] at q;rcases f6b.1 q with q|q
  ·obtain ⟨x1,x2,x3⟩:=h.aq a q;exact ⟨x1,x2,f6Z x3 (hsq _)⟩
  ·rw [f6h.1 q];refine ⟨hD,by have:=hni.sq;show 1<=(u5 w (i:Int)).Seq+1;omega,?_⟩;show _<=(u5 w' (i:Int)).Seq
   rw [hJi];exact f6B _
 ·rw [hk,f7q];refine f6k.2 ⟨h.au,by simp,?_⟩;intro a ha b hb hab;obtain ⟨x,hx,rfl⟩:=f6G.1 ha;rw [List.map_singleton,f6h] at hb;have:=(h.aq x hx).2.2;rw [hab,hb] at this;simp only at this;omega
 ·rw [ht] at q;obtain ⟨x1,x2,⟨a,a1,a2⟩,x4,x5⟩:=h.tn t q;refine ⟨x1,x2,⟨a,by rw [hk];exact f7D _ a1,a2⟩,fun hb => ?_,by rw [hkn];exact x5⟩;rw [hJ] at hb⊢;split
  ·rename_i q;have:=(h.aq a a1).2.2;rw [a2,<-x1,q] at this;show _<(u5 w (i:Int)).Seq+1
   omega
  ·rename_i q;rw [if_neg q] at hb;exact x4 hb
theorem e6k{w:m4}(h:WI w)(ht:TL w){e:q9}(he:K0 e):TL (C0 w e):=by
 have h0:a05 w eN:=.inl rfl;unfold C0;cases hk:e.a9==2||(e.a9==3||e.a9==4)
 ·simp only [f8w];cases hA:q8 e.A 0 2
  ·exact ht
  simp only [f6f,f8w];rw [H8] at hA;obtain ⟨i,hi⟩:∃i:Nat,e.A=(i:Int):=⟨e.A.toNat,by omega⟩
  have hi3:i<3:=by omega
  have hD:D3 (i:Int):=by unfold D3;omega
  rw [hi];have hN:u5 w (i:Int)=G8 w (i:Int):=a17 hD;obtain ⟨hni,hid⟩:=a6p h hD;have hnd:=ht.nd (i:Int) hD;rw [<-hN];cases e.a9==1
  ·cases e.a9==5
   ·cases e.a9==6
    ·cases e.a9==7
     ·exact ht
     ·exact ht.step h.nl hi3 hni hid hni.fall (.fall hnd) rfl (fun m q=>.inl q) rfl (.inl rfl)
    ·exact ht.step h.nl hi3 hni hid (a9u hni).ni (.retry hnd h0) rfl (fun m q=>a2B (w:=N5 w _ _) q) rfl (.inl rfl)
   ·exact ht.step h.nl hi3 hni hid (b0Z hni).ni (.rise hnd) rfl (fun m q=>a2B (w:=N5 w _ _) q) rfl (.inl rfl)
  ·simp only [f8v];unfold a4g;cases hal:decide (60<=w.d7.length)
   ·rw [<-hN];simp only [f8w];rw [c3G];cases hc:K7 (u5 w (i:Int)) e.i7
    ·simp only [f8w];rw [a2k,hc];exact ht.step h.nl hi3 hni hid hni (.same hnd) rfl (fun m q=>a2B (w:=N5 w _ _) q) rfl (.inl rfl)
    ·simp only [f8v];have hf:t0 e.i7:=A3.fits he (by decide);have hwq:(K5 (u5 w (i:Int)) e.i7).1.b7.a0=⟨(i:Int),(u5 w (i:Int)).Seq+1⟩:=by
      rw [b41 hc];show (⟨(u5 w (i:Int)).Id,_⟩:o7)=_;rw [hid]
     rw [hwq];have h1:TL ⟨w.a6.set i (Q0 (u5 w (i:Int)) e.i7),w.b9,w.d7++[⟨⟨(i:Int),(u5 w (i:Int)).Seq+1⟩,e.i7⟩],w.Told⟩:=ht.asked h hi3 hc rfl rfl rfl rfl;have hJ:=b9u (w':=⟨w.a6.set i (Q0 (u5 w (i:Int)) e.i7),w.b9,w.d7++[⟨⟨(i:Int),(u5 w (i:Int)).Seq+1⟩,e.i7⟩],w.Told⟩) h.nl hi3 _ rfl (i:Int);rw [if_pos rfl] at hJ;have hnd1:=h1.nd (i:Int) hD;rw [hJ] at hnd1;have hni1:=hni.asked hf hc;have hcan:=hc;refine h1.step (i:=i) (n':=(K5 (u5 w (i:Int)) e.i7).1) (l:=(K5 (u5 w (i:Int)) e.i7).2) (ts:=[]) (by show (w.a6.set i _).length=3;rw [f7y];exact h.nl) hi3 (by rw [hJ];exact hni1) (by rw [hJ];exact hid) (b0w hni hf).ni ?_ ?_ (fun m q=>a2B (w:=N5 ⟨w.a6,w.b9,w.d7++[_],w.Told⟩ _ _) q) rfl (.inl rfl)
     ·rw [hJ];rw [a2k,hc];have h0':a05 ⟨w.a6.set i (Q0 (u5 w (i:Int)) e.i7),w.b9,w.d7++[⟨⟨(i:Int),(u5 w (i:Int)).Seq+1⟩,e.i7⟩],w.Told⟩ eN:=.inl rfl;simp only [f8v];cases (u5 w (i:Int)).d8==2
      ·refine .of rfl rfl rfl rfl rfl hnd1 fun x hx => ?_
       simp only [f8w] at hx;cases hp0:(u5 w (i:Int)).d8==0
       ·rw [hp0] at hx;cases hx
       ·rw [hp0] at hx;exact (ML.has rfl (hnd1.wt rfl)).all hx
      ·exact .propose hnd1 h0'
     ·show w.a6.set _ _=(w.a6.set i _).set i _
      rw [List.set_set];rfl
   ·exact ht
 ·simp only [f8v];unfold a1d;cases hA:decide (0<=e.A)
  ·exact ht
  simp only [f8v];cases hm:w.b9[e.A.toNat]? with
  | none=>exact ht
  | some m=>
   have hmem:=f6o hm;have hmi:=h.ms m hmem;have hself:∀{w':m4},w'.a6=w.a6->w'.d7=w.d7->w'.Told=w.Told->(∀x∈w'.b9,x∈w.b9)->TL w':=fun {w'} e1 e2 e3 e4=>by
    obtain ⟨hni,hid⟩:=a6p h (i:=0) (by unfold D3;omega);refine ht.step (i:=0) h.nl (by omega) hni hid hni (.same (ht.nd 0 (by unfold D3;omega))) ?_ (fun x q=>.inl (e4 x q)) e2 (.inl e3);rw [e1];have hl:=h.nl;have:u5 w ((0:Nat):Int)=w.a6[0]:=by
     rw [a17 (by unfold D3;omega)];show w.a6.getD 0 _=_
     rw [f6p,f5Z (by omega)];rfl
    rw [show u5 w 0=w.a6[0] from this,f8g]
   simp only;cases e.a9==4
   ·cases e.a9==3
    ·simp only [f8w];have hto:=hmi.to;obtain ⟨t,htt⟩:∃t:Nat,m.To=(t:Int):=⟨m.To.toNat,by omega⟩
     have hD:D3 (t:Int):=by unfold D3;omega
     have hN:u5 w (t:Int)=G8 w (t:Int):=a17 hD;obtain ⟨hni,hid⟩:=a6p h hD;rw [htt,<-hN];have hact:=Act.take (ht.nd (t:Int) hD) h0 (ht.ml m hmem) hmi;refine ht.step h.nl (i:=t) (by omega) hni hid (b4t hni hmi).ni hact rfl (fun x q=>(a2B (w:=N5 (a3c w e.A) _ _) q).imp (fun q=>b78 q) id) rfl ?_;show (w.Told++List.take (60-w.Told.length) _=w.Told\/_)
     have hl1:=(b69 hni m).2;rcases Nat.eq_zero_or_pos (60-w.Told.length) with q|q
     ·left;rw [q,f6R,f6P]
     ·right
      show w.Told++List.take (60-w.Told.length) _=_
      rw [f6S (by omega)]
    ·exact hself rfl rfl rfl fun x q=>b78 q
   ·exact hself rfl rfl rfl fun x q=>(a2B q).elim id fun q=>by rw [f6h.1 q];exact hmem
theorem e1C:TL M4:=by
 have hn:∀j,D3 j->u5 M4 j=C6 j:=fun j hj=>by
  rw [a17 hj];unfold D3 at hj;obtain rfl|rfl|rfl:j=0\/j=1\/j=2:=by omega
  all_goals rfl
 refine ⟨fun i hi => ?_,fun m hm=>(by cases hm),fun a ha=>(by cases ha),by simp [M4],fun t ht=>(by cases ht),by simp [M4]⟩;rw [hn i hi];exact ⟨by simp [C6],by simp [C6],by simp [C6],fun q=>absurd (show (0:Int)=3 from q) (by decide),fun q=>(by cases q),by simp [C6]⟩
section
variable {w:m4}
theorem e7f{α:Type}(z:α):∀{l:List α},l.length=3->l=[l.getD 0 z,l.getD 1 z,l.getD 2 z]
 | [a,b,c],_=>rfl
theorem c0A(h:WI w):w.a6=[u5 w 0,u5 w 1,u5 w 2]:=by
 have e0:u5 w 0=w.a6.getD 0 (C6 0):=a17 (j:=0) (by unfold D3;omega);have e1:u5 w 1=w.a6.getD 1 (C6 0):=a17 (j:=1) (by unfold D3;omega);have e2:u5 w 2=w.a6.getD 2 (C6 0):=a17 (j:=2) (by unfold D3;omega);rw [e0,e1,e2];exact e7f (C6 0) h.nl
theorem a9o(h:WI w){n:j7}(hn:n∈w.a6):∃i,D3 i/\n=u5 w i:=by
 rw [c0A h] at hn;simp only [f6j,f8k,or_false] at hn;rcases hn with q|q|q
 ·exact ⟨0,by unfold D3;omega,q⟩
 ·exact ⟨1,by unfold D3;omega,q⟩
 ·exact ⟨2,by unfold D3;omega,q⟩
theorem b5W(h:WI w){i:Nat}(hi:i<w.a6.length):w.a6[i]=u5 w (i:Int)/\i<3:=by
 have hl:=h.nl;rw [a17 (by unfold D3;omega)];unfold G8;rw [f6A,f6p,f5Z hi];exact ⟨rfl,by omega⟩
theorem c9H(hp:PW w){i j:Int}(hi:D3 i)(hj:D3 j){s:Nat}{a b:m6}(ha:(u5 w i).a5[s]?=some a)(hb:(u5 w j).a5[s]?=some b):a=b:=by
 obtain ⟨V,P,M,h,_⟩:=hp;exact h.one (h.kn i s a hi ha) (h.kn j s b hj hb)
theorem e9M(a b c:j7)(x:List l9)(y:List x6)(z:List n5):∃n∈[a,b,c],z0 ⟨[a,b,c],x,y,z⟩=n.a5/\∀m∈[a,b,c],m.a5.length<=n.a5.length:=by
 have e:z0 ⟨[a,b,c],x,y,z⟩=(bif decide ((b.a5.length:Int)>(a.a5.length:Int)) then (bif decide ((c.a5.length:Int)>(b.a5.length:Int)) then c else b) else (bif decide ((c.a5.length:Int)>(a.a5.length:Int)) then c else a)).a5:=by
  unfold z0;simp only [best,f7j,f7L,f7l,f7r];have e0:decide ((a.a5.length:Int)>(a.a5.length:Int))=false:=by simp
  simp only [e0,f8w,f7l];cases decide ((b.a5.length:Int)>(a.a5.length:Int))
  ·simp only [f8w,f7l];cases decide ((c.a5.length:Int)>(a.a5.length:Int))<;>rfl
  ·simp only [f8v,f7l,f7r];cases decide ((c.a5.length:Int)>(b.a5.length:Int))<;>rfl
 rw [e];cases h1:decide ((b.a5.length:Int)>(a.a5.length:Int))
 ·cases h2:decide ((c.a5.length:Int)>(a.a5.length:Int))
  ·exact ⟨a,by simp,rfl,by simp at h1 h2⊢;omega⟩
  ·exact ⟨c,by simp,rfl,by simp at h1 h2⊢;omega⟩
 ·cases h2:decide ((c.a5.length:Int)>(b.a5.length:Int))
  ·exact ⟨b,by simp,rfl,by simp at h1 h2⊢;omega⟩
  ·exact ⟨c,by simp,rfl,by simp at h1 h2⊢;omega⟩
theorem c1g(h:WI w):∃b,D3 b/\z0 w=(u5 w b).a5/\∀i,D3 i->(u5 w i).a5.length<=(z0 w).length:=by
 have hn:=c0A h;obtain ⟨n,n1,n2,n3⟩:=e9M (u5 w 0) (u5 w 1) (u5 w 2) w.b9 w.d7 w.Told;rw [<-hn] at n1 n2 n3;obtain ⟨b,hb,rfl⟩:=a9o h n1;refine ⟨b,hb,n2,fun i hi => ?_⟩;have n2':z0 w=(u5 w b).a5:=n2;rw [n2'];refine n3 _ ?_;rw [hn];unfold D3 at hi;obtain rfl|rfl|rfl:i=0\/i=1\/i=2:=by omega
 all_goals simp
theorem e0l(h:WI w)(hp:PW w){i:Int}(hi:D3 i):(u5 w i).a5=(z0 w).take (u5 w i).a5.length:=by
 obtain ⟨b,hb,h1,h2⟩:=c1g h;have hl:=h2 i hi;apply List.ext_getElem?;intro s;by_cases hs:s<(u5 w i).a5.length
 ·rw [f7I,if_pos hs];obtain ⟨y,hy⟩:∃y,(z0 w)[s]?=some y:=⟨_,f5Z (show s<(z0 w).length by omega)⟩
  rw [hy,f5Z hs];rw [h1] at hy;exact congrArg some (c9H hp hi hb (f5Z hs) hy)
 ·rw [f6z (by omega),f6z (by rw [f6t];omega)]
theorem d4L(h:WI w)(hp:PW w){i:Int}(hi:D3 i):∃t,z0 w=(u5 w i).a5++t:=by
 refine ⟨(z0 w).drop (u5 w i).a5.length,?_⟩;conv=>rhs;lhs;rw [e0l h hp hi]
 rw [f7a]
theorem b4u(h:WI w):G6 (z0 w)=true:=by
 obtain ⟨b,hb,h1,_⟩:=c1g h;rw [h1];exact (a6p h hb).1.list
theorem d9J(ht:TL w):b8O w.Told=true:=by
 unfold b8O;rw [f6e];intro i hi;have hi:i<w.Told.length:=by simpa using hi
 rw [d6g hi,f6J,f6O];intro s hs hq;obtain ⟨j,hj,rfl⟩:=f7f.1 hs;have hj:j<i:=by omega
 have he:w.Told[j].a0=w.Told[i].a0:=by
  have:H5 w.Told[j].a0=H5 w.Told[i].a0:=by simpa using hq
  rw [<-b1k];rw [e6K];simpa using this
 have:=f6U.1 ht.tu j i (by rw [f6W];omega) (by rw [f6W];omega) hj;apply this;rw [f7X,f7X];exact he
theorem d8t(h:WI w)(hp:PW w)(ht:TL w):w.Told.all (a9s (z0 w))=true:=by
 rw [f6e];intro t hm;obtain ⟨x1,x2,x3,x4,x5⟩:=ht.tn t hm;obtain ⟨tl,htl⟩:=d4L h hp x2;have hs:=x5.app (t:=tl) (by rw [<-htl];exact b4u h);rw [<-htl] at hs;obtain ⟨k,k1,k2,k3⟩:=hs;unfold a9s;rw [k1];simp only [f6d,beq_iff_eq];refine ⟨k2.symm,?_⟩;rw [k3,k2];unfold U2;rw [k1];try rfl
theorem e4E(h:WI w)(hp:PW w)(ht:TL w):b3f w=some true:=by rw [e00 h.ok (a0v.2 h),d8t h hp ht]
theorem e7T(h:WI w)(ht:TL w):b3N w=some true:=by
 rw [d7H h.ok,d9J ht,a0v.2 h];rfl
theorem d1A(ht:TL w){a:x6}(ha:a∈w.d7):Z7 w a.a0=(a.i7,true):=by
 unfold Z7 b59;have hex:∃b,w.d7.find? (fun x=>(([x.a0.c8,x.a0.Seq]:List Int)==[a.a0.c8,a.a0.Seq]))=some b:=by
  cases hf:w.d7.find? (fun x=>(([x.a0.c8,x.a0.Seq]:List Int)==[a.a0.c8,a.a0.Seq])) with
  | some b=>exact ⟨b,rfl⟩
  | none=>
   have:=f8s.1 hf a ha;simp at this
 obtain ⟨b,hb⟩:=hex;rw [hb];have hbm:=f8r hb;have hbr:=List.find?_some hb;have hbr:=b1k.1 hbr;obtain ⟨i,hi,rfl⟩:=f6Q ha;obtain ⟨j,hj,rfl⟩:=f6Q hbm;have hij:i=j:=by
  rcases Nat.lt_trichotomy i j with q|q|q
  ·exact absurd (by rw [f7X,f7X];exact hbr.symm) (f6U.1 ht.au i j (by rw [f6W];omega) (by rw [f6W];omega) q)
  ·exact q
  ·exact absurd (by rw [f7X,f7X];exact hbr) (f6U.1 ht.au j i (by rw [f6W];omega) (by rw [f6W];omega) q)
 subst hij;rfl
theorem e5a(h:WI w)(hp:PW w):(w.a6.all fun a=>w.a6.all fun b=>beg a.a5 b.a5)=true:=by
 rw [f6e];intro a ha;rw [f6e];intro b hb;obtain ⟨i,hi,rfl⟩:=a9o h ha;obtain ⟨j,hj,rfl⟩:=a9o h hb;exact f1D.2 fun s h1 h2=>c9H hp hi hj (f5Z h1) (f5Z h2)
theorem f2U(h:WI w)(hp:PW w):b1N w=some true:=by
 rw [f0r h.ok,a0v.2 h,e5a h hp];rfl
theorem f3D(h:WI w)(hp:PW w):(w.a6.all fun a=>w.a6.all fun b=>(a.Acc.a7.zip b.Acc.a7).all fun p=>a1E p.1 p.2)=true:=by
 rw [f6e];intro a ha;rw [f6e];intro b hb;rw [f6e];intro p hpm;obtain ⟨i,hi,rfl⟩:=a9o h ha;obtain ⟨j,hj,rfl⟩:=a9o h hb;obtain ⟨s,hs,rfl⟩:=f6Q hpm;obtain ⟨s1,s2,e⟩:=b6v hs;rw [e,e9J];intro h0 he;obtain ⟨V,P,M,hx,_⟩:=hp;have hb1:(u5 w i).Acc.a7[s].a8>0:=by
  have:=((a6p h hi).1.vs _ (f6c s1)).1.bal;simp only at h0;omega
 have x1:=hx.cur i s _ hi (f5Z s1) hb1;have x2:=hx.cur j s _ hj (f5Z s2) (by simp only at he;omega);have p1:=(hx.vp _ _ _ _ x1).2.1;have p2:=(hx.vp _ _ _ _ x2).2.1;simp only at he;rw [he] at p1;exact hx.pu _ _ _ _ p1 p2
theorem e5Q(h:WI w)(hp:PW w):b19 w=some true:=by
 rw [e0y h.ok,a0v.2 h,f3D h hp];rfl
theorem f5B(h:WI w)(hp:PW w):w.a6.all (a8N w)=true:=by
 rw [f6e];intro n hn;obtain ⟨i,hi,rfl⟩:=a9o h hn;unfold a8N;rw [f6e];intro k hk;have hk:k<(u5 w i).a5.length:=by simpa using hk
 rw [c66 hk];obtain ⟨V,P,M,hx,_⟩:=hp;have hc:=hx.still (hx.kn i k _ hi (f5Z hk));generalize (u5 w i).a5[k]=e at hc;have key:∀q,(∃v,(u5 w q).Acc.a7[k]?=some v/\v.a8>0/\v.i0=e)->a8X e (S7 (u5 w q) k)=true:=by
  rintro q ⟨v,v1,v2,v3⟩
  unfold a8X S7;rw [v1];simp only [f7s,f6d,decide_eq_true_eq];exact ⟨v2,a1b _ _ |>.2 v3⟩
 have hm:a0S w.a6 k e=(([u5 w 0,u5 w 1,u5 w 2].filter fun n=>a8X e (S7 n k)).length):=by
  unfold a0S;rw [<-c0A h]
 obtain ⟨a,b,ha,hb,hab,va,vb⟩:=hc;have va:=key a va;have vb:=key b vb;rw [hm,f6J,decide_eq_false_iff_not];unfold D3 at ha hb;obtain rfl|rfl|rfl:a=0\/a=1\/a=2:=by omega
 all_goals obtain rfl|rfl|rfl:b=0\/b=1\/b=2:=by omega
 all_goals first|(exact absurd rfl hab)|skip
 all_goals simp only [List.filter_cons,va,vb,if_true,List.filter_nil]
 all_goals split
 all_goals simp
theorem e9i(h:WI w)(hp:PW w):b3k w=some true:=by
 rw [e4S h.ok,a0v.2 h,f5B h hp];rfl
theorem e5L(h:WI w)(hp:PW w):((f6i w.a6.length).all (b0s w))=true:=by
 rw [f6e];intro i hi;have hi:i<w.a6.length:=by simpa using hi
 obtain ⟨e,hi3⟩:=b5W h hi;have hD:D3 (i:Int):=by unfold D3;omega
 obtain ⟨hni,hid⟩:=a6p h hD;unfold b0s;rw [f5Z hi,e];simp only [f6d];constructor
 ·unfold b8D;cases hph:(u5 w (i:Int)).d8 != 3;case true=>rfl
  simp only [bne_eq_false_iff_eq] at hph;obtain ⟨V,P,M,hx,_⟩:=hp;obtain ⟨l1,l2,l3,l4⟩:=(hx.ld (i:Int) hD).l3 hph;have hm:(u5 w (i:Int)).a7[(u5 w (i:Int)).Id.toNat]?=some true:=by
   rcases hni.ld with q|q|q|q
   ·omega
   ·omega
   ·omega
   ·exact q.2.2.2.2.2.1
  rw [hid] at hm;have v1:=l4 (i:Int) hD hm;obtain ⟨v,y1,y2⟩:=hx.max _ _ _ _ v1;have hb:=(hx.vp _ _ _ _ v1).2.2.1;have v2:=hx.cur (i:Int) _ v hD y1 (by omega);unfold S7;rw [y1];simp only [f7s,f8w,f6d,Bool.or_eq_true,decide_eq_true_eq];refine ⟨y2,?_⟩;rcases Int.lt_or_le (u5 w (i:Int)).a8 v.a8 with q|q
  ·exact .inl q
  ·right
   refine (a1b _ _).2 (hx.pu _ _ _ _ ?_ l1);have:=(hx.vp _ _ _ _ v2).2.1;rwa [show v.a8=(u5 w (i:Int)).a8 by omega] at this
 ·rw [f6e];intro m hm;obtain ⟨j,hj,rfl⟩:=f7f.1 hm;have hji:j<i:=by omega
  obtain ⟨e2,hj3⟩:=b5W h (show j<w.a6.length by omega);have hDj:D3 (j:Int):=by unfold D3;omega
  obtain ⟨hnj,hidj⟩:=a6p h hDj;rw [e2,c5b];rintro ⟨b1,b2⟩
  have own:∀{n:j7},NI n->0<n.a8->Own n:=fun hn hb=>by
   refine hn.ld.own fun q => ?_
   rcases hn.ld with y|y|y|y
   ·omega
   all_goals exact absurd (y.1.symm.trans q) (by decide)
  have o1:=(own hni b1).mod;have o2:=(own hnj (by omega)).mod;rw [b2,o2,hid,hidj] at o1;omega
theorem f5K(h:WI w)(hp:PW w):b4G w=some true:=by
 rw [e04 h.ok,a0v.2 h,d9E (a0v.2 h),e5L h hp];rfl
end
theorem d3i(l:List n8)(i:n9)(regs:List Int)(rs:List r9)(ps:List p7):∀r∈rs,r∈(D7 l i regs rs ps).2.1:=by
 intro r hr;unfold D7;cases i.a9==1
 ·cases i.a9==2
  ·cases i.a9==3
   ·cases i.a9==4
    ·cases i.a9==5<;>exact hr
    ·exact hr
   ·exact hr
  ·exact hr
 ·simp only [f8v];cases V8 ps i.B with
  | some k=>
   simp only;cases ps[k]?<;>exact hr
  | none=>
   simp only;cases l[i.B.toNat]? with
   | none=>exact hr
   | some b=>
    simp only;cases J2 rs i.B
    ·exact f7D _ hr
    ·exact hr
theorem c0W(l:List n8)(prog:List n9):∀(f k:Nat) (regs:List Int) (rs:List r9) (ps:List p7),∀r∈rs,r∈(S9 l prog f k regs rs ps).b5
 | 0,_,_,_,_,r,hr=>hr
 | f+1,k,regs,rs,ps,r,hr=>by
  unfold S9;cases prog[k]? with
  | none=>exact hr
  | some i=>
   simp only;cases i.a9==6
   ·cases i.a9==7
    ·cases (D7 l i regs rs ps).1.all H1
     ·exact d3i l i regs rs ps r hr
     ·exact c0W l prog f _ _ _ _ r (d3i l i regs rs ps r hr)
    ·exact hr
   ·exact c0W l prog f _ _ _ _ r hr
def AtB(l l':List n8)(rs:List r9):Prop := ∀r∈rs,l[r.i6.toNat]?=l'[r.i6.toNat]?
theorem e8T{rs:List r9}{b:Int}(h:J2 rs b=true):∃r∈rs,r.i6=b:=by
 unfold J2 at h;obtain ⟨r,h1,h2⟩:=f7B.1 h;exact ⟨r,h1,by simpa using h2⟩
theorem f0E{l l':List n8}(hl:l.length=l'.length)(i:n9)(regs:List Int)(rs:List r9)(ps:List p7)(h:AtB l l' (D7 l i regs rs ps).2.1):D7 l' i regs rs ps=D7 l i regs rs ps:=by
 unfold D7 at h⊢;cases hk:i.a9==1
 ·rfl
 ·rw [hk] at h;simp only [f8v] at h⊢;cases hp:V8 ps i.B with
  | some k=>rfl
  | none=>
   rw [hp] at h;simp only at h⊢;cases hb:l[i.B.toNat]? with
   | none=>
    have:l'.length<=i.B.toNat:=by rw [<-hl];exact List.getElem?_eq_none_iff.1 hb
    rw [f6z this]
   | some b=>
    rw [hb] at h;simp only at h;have hin:∃r∈(bif J2 rs i.B then rs else rs++[⟨i.B,b.j5⟩]),r.i6=i.B:=by
     cases hs:J2 rs i.B
     ·exact ⟨⟨i.B,b.j5⟩,by simp,rfl⟩
     ·exact e8T hs
    obtain ⟨r,r1,r2⟩:=hin;have:=h r r1;rw [r2,hb] at this;rw [<-this]
theorem c4H{l l':List n8}(hl:l.length=l'.length)(prog:List n9):∀(f k:Nat) (regs:List Int) (rs:List r9) (ps:List p7),AtB l l' (S9 l prog f k regs rs ps).b5->S9 l' prog f k regs rs ps=S9 l prog f k regs rs ps
 | 0,_,_,_,_,_=>rfl
 | f+1,k,regs,rs,ps,h=>by
  unfold S9 at h⊢;cases hp:prog[k]? with
  | none=>rfl
  | some i=>
   rw [hp] at h;simp only at h⊢;cases h6:i.a9==6
   ·rw [h6] at h;cases h7:i.a9==7
    ·rw [h7] at h;simp only [f8w] at h⊢;have hE:D7 l' i regs rs ps=D7 l i regs rs ps:=f0E hl i regs rs ps fun r hr=>h r (by
      cases (D7 l i regs rs ps).1.all H1
      ·exact hr
      ·exact c0W l prog f _ _ _ _ r hr)
     rw [hE];cases ha:(D7 l i regs rs ps).1.all H1
     ·rfl
     ·rw [ha] at h;exact c4H hl prog f _ _ _ _ h
    ·rfl
   ·rw [h6] at h;simp only [f8v] at h⊢;exact c4H hl prog f _ _ _ _ h
theorem e30{l l':List n8}(h1:D1 l=true)(h2:D1 l'=true){p:List n9}(h:AtB l l' (C2 l p).b5):C2 l' p=C2 l p:=by
 unfold C2 at h⊢;rw [h1] at h;rw [h1,h2];cases hp:E4 p
 ·rfl
 ·rw [hp] at h;exact c4H ((a7K h1).trans (a7K h2).symm) p _ _ _ _ _ h
def b2O(l:List n8)(rs:List r9):Prop := ∀r∈rs,∃b,l[r.i6.toNat]?=some b/\b.j5=r.j5
theorem d3m{l:List n8}(i:n9)(regs:List Int)(rs:List r9)(ps:List p7)(h:b2O l rs):b2O l (D7 l i regs rs ps).2.1:=by
 unfold D7;cases i.a9==1
 ·cases i.a9==2
  ·cases i.a9==3
   ·cases i.a9==4
    ·cases i.a9==5<;>exact h
    ·exact h
   ·exact h
  ·exact h
 ·simp only [f8v];cases V8 ps i.B with
  | some k=>
   simp only;cases ps[k]?<;>exact h
  | none=>
   simp only;cases hb:l[i.B.toNat]? with
   | none=>exact h
   | some b=>
    simp only;cases J2 rs i.B
    ·intro r hr;rcases f6b.1 hr with q|q
     ·exact h r q
     ·rw [f6h.1 q];exact ⟨b,hb,rfl⟩
    ·exact h
theorem c4q(l:List n8)(prog:List n9):∀(f k:Nat) (regs:List Int) (rs:List r9) (ps:List p7),b2O l rs->b2O l (S9 l prog f k regs rs ps).b5
 | 0,_,_,_,_,h=>h
 | f+1,k,regs,rs,ps,h=>by
  unfold S9;cases prog[k]? with
  | none=>exact h
  | some i=>
   simp only;cases i.a9==6
   ·cases i.a9==7
    ·cases (D7 l i regs rs ps).1.all H1
     ·exact d3m i regs rs ps h
     ·exact c4q l prog f _ _ _ _ (d3m i regs rs ps h)
    ·exact h
   ·exact c4q l prog f _ _ _ _ h
theorem e9m(l:List n8)(p:List n9):b2O l (C2 l p).b5:=by
 unfold C2;cases D1 l&&E4 p
 ·intro r hr;cases hr
 ·exact c4q l p _ _ _ _ _ fun r hr=>by cases hr
theorem c1y{l:List m6}(hl:l.length<=40)(he:l.all z5=true){k:Nat}(hk:k<=l.length):D1 (s5 (l.take k)).1.g9=true:=(T2 hl he k hk).1.boxes
theorem e8E{l:List m6}(hl:l.length<=40)(he:l.all z5=true){j k:Nat}(hjk:j<=k)(hk:k<=l.length){b:Int}(hb:0<=b/\b<=3){x y:n8}(hx:(s5 (l.take j)).1.g9[b.toNat]?=some x)(hy:(s5 (l.take k)).1.g9[b.toNat]?=some y)(hv:x.j5=y.j5):x=y:=by
 by_cases hall:∀i,j<=i->i<k->a67 l (s5 l).2 b i=false
 ·have:=d2c hl he hb.1 k hjk hk hall;rw [hx,hy] at this;injection this with this;exact this.symm
 ·exfalso
  apply hall;intro i h1 h2;cases hp:a67 l (s5 l).2 b i
  ·rfl
  ·obtain ⟨_,hq⟩:=c6l hl he (show i<l.length by omega) hp;obtain ⟨z,z1,z2,z3⟩:=c1a hl he hb i (by omega);obtain ⟨v,hv1⟩:=hq z z1;have m1:=(d2H hl he h1 (show i<=l.length by omega)).2 b.toNat x z hx z1;have m2:=(d2H hl he (show i+1<=k by omega) hk).2 b.toNat _ y hv1 hy;simp only at m2;split at m2<;>omega
theorem c87{s:u7}{e:m6}(h:(apply s e).2=0):e.i8=false/\a0V s.g9 e.b8=true/\e.b8.Code=0/\(apply s e).1.g9=a0P s.g9 e.b8.b6:=by
 have hf:(O0 s e).2=0->a0V s.g9 e.b8=true/\e.b8.Code=0/\(O0 s e).1.g9=a0P s.g9 e.b8.b6:=by
  unfold O0;cases a0V s.g9 e.b8
  ·intro h;exact absurd h (by simp)
  ·cases hc:e.b8.Code==0
   ·intro h;exact absurd h (by simp)
   ·intro _;exact ⟨rfl,by simpa using hc,rfl⟩
 unfold apply at h⊢;cases hn:e.i8
 ·rw [hn] at h;simp only [f8w] at h⊢;refine ⟨trivial,?_⟩;cases hd:s.j4.find? (fun d=>d.a0.c8==e.a0.c8) with
  | none=>rw [hd] at h;exact hf h
  | some d=>
   rw [hd] at h;simp only at h⊢;cases h1:d.a0.Seq==e.a0.Seq
   ·rw [h1] at h;cases h2:decide (d.a0.Seq>e.a0.Seq)
    ·rw [h2] at h;exact hf h
    ·rw [h2] at h;exact absurd h (by simp)
   ·rw [h1] at h;exact absurd h (by simp)
 ·rw [hn] at h;exact absurd h (by simp)
theorem c6z:∀(ps:List (List n9)) (p:List n9) (b:List n8) (vs:List Int) {b':List n8} {vs':List Int},a3C ps b vs=(b',vs')->D1 b'=true->a3C (ps++[p]) b vs=bif (N9 b' p).2.2==3 then ([],[]) else ((N9 b' p).1,vs'++[(N9 b' p).2.1])
 | [],p,b,vs,b',vs',h,hb=>by
  have h:(b,vs)=(b',vs'):=h;injection h with h1 h2;subst h1;subst h2;rfl
 | q::ps,p,b,vs,b',vs',h,hb=>by
  unfold a3C at h;rw [f7V];unfold a3C;cases hq:(N9 b q).2.2==3
  ·rw [hq] at h;exact c6z ps p _ _ h hb
  ·rw [hq] at h;have h:(([],[]):List n8×List Int)=(b',vs'):=h;injection h with h1 h2;rw [<-h1] at hb;exact absurd hb (by decide)
section
variable {w:m4}
theorem e4V(h:WI w)(hp:PW w)(ht:TL w){k:Nat}(hk:k<(z0 w).length)(hn:((z0 w)[k]).i8=false):∃a∈w.d7,a.a0=((z0 w)[k]).a0/\∃j,j<=k/\((z0 w)[k]).b8=C2 (s5 ((z0 w).take j)).1.g9 a.i7:=by
 obtain ⟨b,hb,h1,_⟩:=c1g h;have hm:(z0 w)[k]∈(u5 w b).a5:=h1▸f6c hk;rcases (ht.nd b hb).kn _ hm with q|⟨a,a1,a2,j,j1,j2,j3⟩
 ·rw [hn] at q;cases q
 ·have hw:D3 ((z0 w)[k]).a0.c8:=by rw [<-a2];exact (ht.aq a a1).1
  have htk:(u5 w ((z0 w)[k]).a0.c8).a5.take j=(z0 w).take j:=by
   obtain ⟨t,ht'⟩:=d4L h hp hw;conv=>rhs;rw [ht']
   rw [f6T j1]
  rw [htk] at j2 j3;refine ⟨a,a1,a2,j,?_,j3⟩;rcases Nat.lt_or_ge k j with q|q
  ·exfalso
   have:=j2 (z0 w)[k] (f7f.2 ⟨k,by omega,rfl⟩);unfold F4 at this;rw [hn] at this;simp at this
  ·exact q
theorem e74(h:WI w)(hp:PW w)(ht:TL w){k:Nat}(hk:k<(z0 w).length)(h0:(apply (s5 ((z0 w).take k)).1 (z0 w)[k]).2=0):∃a∈w.d7,a.a0=((z0 w)[k]).a0/\C2 (s5 ((z0 w).take k)).1.g9 a.i7=((z0 w)[k]).b8:=by
 obtain ⟨z1,z2,z3,_⟩:=c87 h0;obtain ⟨hl,he⟩:=a07 (b4u h);obtain ⟨a,a1,a2,j,j1,j2⟩:=e4V h hp ht hk z1;refine ⟨a,a1,a2,?_⟩;rw [j2];refine e30 (c1y hl he (by omega)) (c1y hl he (by omega)) ?_;intro r hr;obtain ⟨x,x1,x2⟩:=e9m _ _ r hr;rw [<-j2] at hr;have hbx:=(a3r (a3Q (f6e.1 he _ (f6c hk)) z1).2.2.1).2.2.2.1 r hr;obtain ⟨y,y1,y2,_⟩:=c1a hl he (b:=r.i6) (by omega) k (by omega);have hfr:=f6e.1 z2 r hr;rw [y1] at hfr;have hfr:y.j5=r.j5:=by simpa using hfr
 rw [x1,y1,e8E hl he j1 (by omega) (b:=r.i6) (by omega) x1 y1 (by omega)]
theorem d3a(ht:TL w):∀(qs:List o7) (o:List (List n9)),(∀q∈qs,∃a∈w.d7,a.a0=q)->a3J w qs o=some (o++qs.map fun q=>(Z7 w q).1)
 | [],o,_=>by simp [a3J]
 | q::qs,o,h=>by
  obtain ⟨a,a1,a2⟩:=h q (by simp);have hp:=d1A ht a1;rw [a2] at hp;unfold a3J;rw [hp];simp only [f8v];rw [d3a ht qs _ fun x hx=>h x (by simp [hx])];simp [hp]
theorem d2Y(h:WI w)(hp:PW w)(ht:TL w):∀n,n<=(z0 w).length->(∀q∈told (z0 w) (s5 (z0 w)).2 n,∃a∈w.d7,a.a0=q)/\
  a3C ((told (z0 w) (s5 (z0 w)).2 n).map fun q=>(Z7 w q).1) a1h []=((s5 ((z0 w).take n)).1.g9,(told (z0 w) (s5 (z0 w)).2 n).map (U2 (z0 w)))
 | 0,_=>⟨by simp [told],rfl⟩
 | n+1,hn=>by
  obtain ⟨hl,he⟩:=a07 (b4u h);have hlt:n<(z0 w).length:=by omega
  obtain ⟨ih1,ih2⟩:=d2Y h hp ht n (by omega);have hc:=b4L hl he hlt;have hcl:(s5 (z0 w)).2.length=(z0 w).length:=by
   have:=(T2 hl he (z0 w).length (f6s _)).2.1;rwa [f6u] at this
  have hn':n<(s5 (z0 w)).2.length:=by omega
  rw [f5Z hn'] at hc;injection hc with hc;have hbx:=c1y hl he (k:=n) (by omega);have hst:(s5 ((z0 w).take (n+1))).1=(apply (s5 ((z0 w).take n)).1 (z0 w)[n]).1:=by rw [a19 hlt];rfl
  unfold told;rw [b7y hlt hn',hc,hst];rcases c4d (T2 hl he n (by omega)).1 (f6e.1 he _ (f6c hlt)) with ⟨b1,b2,b3⟩|⟨b1,b2⟩
  ·obtain ⟨a,a1,a2,a3⟩:=e74 h hp ht hlt b1;obtain ⟨z1,z2,z3,_⟩:=c87 b1;have hpf:=d1A ht a1;rw [a2] at hpf;rw [b1,b3];simp only [beq_self_eq_true,f8v];refine ⟨fun q hq => ?_,?_⟩
   ·rcases f6b.1 hq with q'|q'
    ·exact ih1 q q'
    ·rw [f6h.1 q'];exact ⟨a,a1,a2⟩
   ·rw [f7q,f7q,List.map_singleton,List.map_singleton,c6z _ _ _ _ ih2 hbx,hpf];have hs:N9 (s5 ((z0 w).take n)).1.g9 a.i7=(a0P (s5 ((z0 w).take n)).1.g9 ((z0 w)[n]).b8.b6,((z0 w)[n]).b8.g7,0):=by
     unfold N9;rw [a3,z3];rfl
    simp only [hs];have hv:U2 (z0 w) ((z0 w)[n]).a0=((z0 w)[n]).b8.g7:=by
     unfold U2;have hf:(z0 w).findIdx? (F4 ((z0 w)[n]).a0)=some n:=by
      rw [f6Y];refine ⟨hlt,?_,fun i hi => ?_⟩
      ·unfold F4;rw [b2];simp
      ·intro hq;unfold F4 at hq;simp only [f6d,f6J] at hq;have:=d8j hl he hi hlt hq.1 (b1k.1 hq.2).symm;rw [f5Z hn',hc,b1] at this;exact this rfl
     rw [hf];simp only [f5Z hlt]
    rw [hv];rfl
  ·rw [b2,show ((apply (s5 ((z0 w).take n)).1 (z0 w)[n]).2==0)=false by simpa using b1];simp only [f8w,f6P];exact ⟨ih1,ih2⟩
theorem e3I(l:List n8):a9Y l l=true:=by
 unfold a9Y;simp only [beq_self_eq_true,f6n];rw [f6e];intro k hk;have hk:k<l.length:=by simpa using hk
 rw [f5Z hk];simp
theorem e0u(h:WI w)(hp:PW w)(ht:TL w):a7Z w=true:=by
 obtain ⟨hl,he⟩:=a07 (b4u h);obtain ⟨g1,g2⟩:=d2Y h hp ht (z0 w).length (f6s _);have hd:C3 (z0 w)=told (z0 w) (s5 (z0 w)).2 (z0 w).length:=by unfold C3;rw [b4u h];rfl
 rw [<-hd] at g1 g2;rw [f6u] at g2;unfold a7Z;rw [a0v.2 h,d3a ht _ _ g1,f6V];simp only [f6n];have hlen:((C3 (z0 w)).map fun q=>(Z7 w q).1).length<=100:=by
  have hcl:(s5 (z0 w)).2.length=(z0 w).length:=by
   have:=(T2 hl he (z0 w).length (f6s _)).2.1;rwa [f6u] at this
  have h1:=b83 (l:=z0 w) hcl (z0 w).length (f6s _);have h2:=c0s ((s5 (z0 w)).2.take (z0 w).length) 0;rw [f6W,hd];rw [f6t] at h2;omega
 have hs:O1 a1h ((C3 (z0 w)).map fun q=>(Z7 w q).1)=((s5 (z0 w)).1.g9,(C3 (z0 w)).map (U2 (z0 w))):=by
  unfold O1;rw [c3Y,decide_eq_true hlen];exact g2
 unfold c08;rw [hs];simp only [f6W,beq_self_eq_true,f6n,e3I];unfold c4w;rw [f6e];intro i hi;have hi:i<(C3 (z0 w)).length:=by simpa using hi
 rw [f7c,f5Z hi];simp
end
structure AW(w:m4):Prop where
 wi:WI w
 pw:PW w
 tl:TL w
theorem f0Q:AW M4:=⟨WI.open,f2F,e1C⟩
theorem c1m{w:m4}(h:AW w){e:q9}(he:K0 e):AW (C0 w e):=⟨b51 h.wi he,e4C h.wi h.pw he,e6k h.wi h.tl he⟩
theorem d44:∀{l:List q9} {w:m4},AW w->(∀e∈l,K0 e)->AW (a0J w l)
 | [],_,h,_=>h
 | e::l,w,h,he=>d44 (l:=l) (w:=C0 w e) (c1m h (he e (by simp))) fun x hx=>he x (by simp [hx])
theorem e9Z{w:m4}(h:AW w):b6U w=some true:=by
 obtain ⟨h,hp,ht⟩:=h;unfold b6U;simp only [f2U h hp,e5Q h hp,e9i h hp,f5K h hp,f3o h.ok,e0u h hp ht,e4E h hp ht,e7T h ht,f5Y,f8v]
theorem ev3(k a:Int):K0 ⟨k,a,[]⟩:=⟨by show ([]:List n9).length*32<=_;simp,fun _ _=>trivial⟩
theorem d2W:∀(d:Nat) {w:m4},AW w->w.b9.length=d->∃x,AW x/\x.a6=w.a6/\x.Told=w.Told/\o9 (fun s:m4=>a8R s) w=some (.brk x)
 | 0,w,h,hd=>by
  refine ⟨w,h,rfl,rfl,C8 (body:=fun s:m4=>a8R s) ?_⟩;unfold a8R;rw [hd];rfl
 | d+1,w,h,hd=>by
  have h1:=c1m h (ev3 3 0);have hl:=c6y (w:=w) (by omega);have hn:(C0 w ⟨3,0,[]⟩).b9.length=d:=by
   rw [hl];show (w.b9.take 0++w.b9.drop 1).length=d
   rw [f6R,f6V,f7W];omega
  obtain ⟨x,x1,x2,x3,x4⟩:=d2W d h1 hn;rw [hl] at x2 x3;refine ⟨x,x1,x2,x3,?_⟩;rw [D9 (body:=fun s:m4=>a8R s) (t:=C0 w ⟨3,0,[]⟩) ?_]
  ·exact x4
  ·unfold a8R;rw [show decide ((w.b9.length:Int)>0)=true by simp;omega,f8v,d1F h.wi (ev3 3 0)];rfl
theorem f5p(x:m4){i:Nat}(hi:i<3):C0 x ⟨7,(i:Int),[]⟩=N5 x (i:Int) (a0l (G8 x (i:Int))):=by
 have hr:q8 (i:Int) 0 2=true:=H8.2 (by omega);unfold C0;simp only [hr];rfl
structure c0B(w x:m4)(k:Nat):Prop where
 aw:AW x
 told:x.Told=w.Told
 kn:∀i:Int,D3 i->(u5 x i).a5=(u5 w i).a5
 dn:∀i:Nat,i<k->(u5 x (i:Int)).i9=false/\(u5 x (i:Int)).d8=0
theorem c0O{w x:m4}{k:Nat}(h:c0B w x k)(hk:k<3):c0B w (C0 x ⟨7,(k:Int),[]⟩) (k+1):=by
 have hd:=f5p x hk;have hJ:=b9u (w:=x) (w':=C0 x ⟨7,(k:Int),[]⟩) h.aw.wi.nl hk (a0l (G8 x (k:Int))) (by rw [hd];rfl);have hDk:D3 (k:Int):=by unfold D3;omega
 have hn:G8 x (k:Int)=u5 x (k:Int):=(a17 hDk).symm;rw [hn] at hJ;refine ⟨c1m h.aw (ev3 7 _),by rw [hd];exact h.told,fun i hi => ?_,fun i hi => ?_⟩
 ·rw [hJ];split
  ·rename_i q;subst q;exact h.kn _ hDk
  ·exact h.kn i hi
 ·rw [hJ];split
  ·exact ⟨rfl,rfl⟩
  ·rename_i q;exact h.dn i (by omega)
theorem d8R{code:List Int}(h:A3 1 a6z code):c4N code=some true:=by
 unfold c4N;cases decide ((code.length:Int)>1048576);case true=>rfl
 obtain ⟨l,a1,a2,a3⟩:=e5D h.2;obtain ⟨p1,p2,hw⟩:=e6H a2 a3;have ha:AW (a0J M4 l):=d44 f0Q a2;simp only [f8w,a1,d8W,c9C,p1,p2,f5Y,d7R hw.ok,f6f];generalize a0J M4 l=w at hw ha;have hn3:((w.a6.length:Int) != 3)=false:=by rw [hw.nl];rfl
 rw [hn3,f8w];obtain ⟨x,x1,x2,x3,x4⟩:=d2W _ ha rfl;rw [x4,f5Y];have f0:c0B w x 0:=⟨x1,x3,fun i hi=>by unfold u5 G8;rw [x2],fun i hi=>by omega⟩
 have f1:=c0O f0 (by omega);have f2:=c0O f1 (by omega);have f3:=c0O f2 (by omega);have step:∀(k:Nat) (y:m4),k<3->AW y->a4c (k:Int) y=some (.nxt (((k+1:Nat):Int),C0 y ⟨7,(k:Int),[]⟩)):=by
  intro k y hk hy;unfold a4c;rw [show decide ((k:Int)<3)=true by simp;omega,f8v,d1F hy.wi (ev3 7 _),f5Y,C5 (by omega) (by omega)];congr 3
 have b3:∀y,a4c 3 y=some (.brk y):=fun y=>by unfold a4c;rfl
 simp only [m5.go];unfold c3p;rw [D9 (body:=fun s:Int×m4=>a4c s.1 s.2) (s:=(0,x)) (step 0 x (by omega) f0.aw),D9 (body:=fun s:Int×m4=>a4c s.1 s.2) (step 1 _ (by omega) f1.aw),D9 (body:=fun s:Int×m4=>a4c s.1 s.2) (step 2 _ (by omega) f2.aw),C8 (body:=fun s:Int×m4=>a4c s.1 s.2) (b3 _),f5Y];simp only [m5.go];generalize C0 (C0 (C0 x ⟨7,((0:Nat):Int),[]⟩) ⟨7,((0+1:Nat):Int),[]⟩) ⟨7,((0+1+1:Nat):Int),[]⟩=y at f3;show b7m w y=_
 unfold b7m;have l1:o9 (fun s:Int=>a54 w y s) 0=some (.brk ()):=by
  have:=W7 (body:=fun s:Int=>a54 w y s) (fun k=>(k:Int)) 3 fun k hk=>by
   show a54 w y (k:Int)=_
   have hky:k<y.a6.length:=by rw [f3.aw.wi.nl];exact hk
   have hkw:k<w.a6.length:=by rw [hw.nl];exact hk
   obtain ⟨e1,_⟩:=b5W f3.aw.wi hky;obtain ⟨e2,_⟩:=b5W hw hkw;obtain ⟨d1,d2⟩:=f3.dn k hk;have hkn:=f3.kn (k:Int) (by unfold D3;omega);unfold a54;rw [show decide ((k:Int)<3)=true by simp;omega,f8v,t9 hky,f5Y,t9 hkw,f5Y,e1,e2,hkn,d1,d2,C5 (by omega) (by omega)];simp only [bne_self_eq_false,f8w];rfl
  refine (show o9 _ ((0:Nat):Int)=_ from this).trans (C8 ?_);show a54 w y 3=_
  unfold a54;rfl
 rw [l1,f5Y];simp only [m5.go];unfold c3b;rw [e9Z f3.aw,f5Y,f8v,f3.told];simp
end
end Go.Proofs.YtijjifellblecaaGreat
