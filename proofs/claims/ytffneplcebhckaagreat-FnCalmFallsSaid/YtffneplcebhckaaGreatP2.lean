/- What the law leans on, part 2. -/
import Derived.Test.YtffneplcebhckaaGreatP1
import Derived.WideKeyRuns
import Derived.Below
import Derived.Carry
import Derived.ChangeArms
import Derived.Deep.Slices
import Derived.WideShapes
import Derived.Test.YtffneplcebhckaaGreatProg
set_option linter.unusedVariables false
set_option linter.unusedSimpArgs false
set_option linter.unnecessarySimpa false
set_option linter.defProp false
namespace Go.Proofs.YtffneplcebhckaaGreat
open Go
open List renaming getElem?_eq_getElem->g0Y,mem_append->g0Z,replicate->g00,getElem_mem->g01,mem_singleton->g03,all_eq_true->g05,getElem?_eq_some_iff->g06,length_append->g08,range->g09,mem_cons->g1a,nodup_append->g1b,eq_nil_of_length_eq_zero->g1c,append_assoc->g1d,mem_of_getElem?->g1e,getD_eq_getElem?_getD->g1f,append_nil->g1i,getElem?_append_right->g1j,getElem?_set_ne->g1k,mem_map->g1m,getElem?_append_left->g1o,drop_eq_getElem_cons->g1q,flatten_cons->g1t,map_cons->g1v,nil_append->g1z,take_of_length_le->g1A,mem_or_eq_of_mem_set->g1F,mem_flatten->g1H,length_map->g1J,take_append_drop->g1V,map_append->g1W,mem_range->g1X,getElem?_map->g1Z,mem_filter->g12,getElem?_cons_zero->g14,cons_append->g17,getElem?_cons_succ->g19,any_eq_true->g2e,pairwise_cons->g2f,nodup_cons->g2h,map_map->g2o,sublist_append_right->g2z,pairwise_append->g2B,Perm->g2E,drop_drop->g2F,size_toArray->g2P,toArray->g2Q,Sublist->g2R,not_mem_nil->g2U,any_cons->g2X,flatten_append->g2Y
open Bool renaming and_eq_true->g02,true_and->g1h,not_false->g1y,not_eq_true'->g1D,false_or->g1I,false_eq_true->g2d,and_eq_false_iff->g2v,and_assoc->g2G
open Nat renaming le_refl->g07,mul_le_mul_right->g1x,eq_of_beq_eq_true->g1B,le_trans->g1C,zero_add->g1U,succ_mul->g15,add_zero->g2n,le_mul_of_pos_right->g2r,zero_le->g2D
open Int renaming tmod->g1w,tdiv->g2V
open Option.some renaming inj->g1Y
open Option renaming getD_some->g13,map_some->g2c,map_eq_some_iff->g2t
open Option renaming some->U,none->Z
open Bool renaming false->W,true->Y
open List renaming length->O
noncomputable section
section
variable {cx:Cx} {J:U2} {F:Nat->Prop} {G:Nat->Nat->Value} {S S':St} {a:Act} {w:World}
def RV.inv_mp{D:Nat->Prop}{g j:Nat}{c:Value}(h:RV w F D G (.mp g j) c):D g/\∃b,G g j=.map (U b)/\c=.map (U b):=by
 cases h with
 |one v c h=>cases h with
  |cell v c h=>cases h with
   |fv v c h=>cases h
   |mp g j b h1 h2=>exact⟨h1,b,h2,rfl⟩
def c8s(cx:Cx)(grp ty:Nat):Option E0:=
 match cx.M ty with
 |some (_,m,_)=>U {v:=.mp grp 0,new:=U [.map ty m []]}
 |none=>Z
def e9h(h:A2 J F G S a w){grp:Nat}(hg:grp<(O S.h))(hn:¬S.D grp){ob:Oper}{ty:Nat}(ho:ob.op=.makeMap ty Z){out:E0}(hp:c8s cx grp ty=U out):a0n cx.P J G S grp ob out a w:=by
 unfold c8s at hp;split at hp<;>try (cases hp;done)
 injection hp with hp;subst hp;rename_i kt m z hM;have hrun:(execOp a.eval ob).run cx.P w=.ok (.value (.map (U w.heap.size))) (w.alloc (.map #[] 0)):=by
  simp only[execOp,ho,Option.map_none];rfl
 have hrel:=h.new1 hg hn (a54 w (.map #[] 0)) (ent:=.map ty m []) (c0:=.map (U w.heap.size))
  (by intro k hk;simp[EB,E1]at hk;omega) ⟨w.heap.size,#[],0,rfl,b0E w _,rfl,λp hp=>by cases hp⟩
 refine⟨_,_,_,F,R3 G grp (.map (U w.heap.size)),hrun,.inl rfl,?_⟩;exact hrel.put ob.dst (.cell (.mp grp 0 w.heap.size (a11 hg) V3))
def b5h(cx:Cx)(ty:Nat)(x ix:V):m7 E0:=
 match cx.M ty with
 |none=>m7.no
 |some (kt,m,z)=>match x,ix with
  | .mp g j,.agg ks=>match a3H ks with
   |some xs=>m7.bind (m7.rd g j) λe=>match e with
    | .map t' m' es=>if m'=m/\(O xs)=m then m7.pure {v:=a4x es xs z}else m7.no
    |_=>m7.no
   |none=>m7.no
  |_,_=>m7.no
def d48{xs:List Int}{z:V}(hz:z.simple=Y):∀{es:List (List Int×V)},(∀p∈es,p.2.simple=Y)->(a4x es xs z).simple=Y
 | [],_=>hz
 |p::es,h=>by
  unfold a4x;split
  ·exact h p (by simp)
  ·exact d48 hz λp hp=>h p (by simp[hp])
def f8E(h:A2 J F G S a w){grp:Nat}{ob:Oper}{ty:Nat}{x ix:Operand}(ho:ob.op=.lookup ty x ix W){out:E0}{lg:List (Nat×Nat)}(hp:b5h cx ty (z6 S.t x) (z6 S.t ix) S.ent=U (out,lg)):a0n cx.P J G S grp ob out a w:=by
 have hx:=H6 h.tmps x;have hi:=H6 h.tmps ix;unfold b5h at hp;cases hM:cx.M ty with
 |none=>rw[hM]at hp;cases hp
 |some q=>
 obtain⟨kt,m,z⟩:=q;rw[hM]at hp;simp only at hp;generalize z6 S.t x=xv at hp hx;generalize z6 S.t ix=iv at hp hi;cases xv<;>try (cases hp;done)
 cases iv<;>try (cases hp;done)
 rename_i g j ks;simp only at hp;cases hks:a3H ks with
 |none=>rw[hks]at hp;cases hp
 |some xs=>
 rw[hks]at hp;obtain⟨e,l1,l2,hrd,hp',hl12⟩:=m7.bind_some hp;clear hp;have he:=(m7.rd_some hrd).1;simp only at he hp';cases e<;>try (cases hp';done)
 rename_i t' m' es;simp only at hp';split at hp'<;>try (cases hp';done)
 rename_i hcond;obtain⟨rfl,hlen⟩:=hcond;have:=m7.pure_some hp';injection this with h2 h3;subst h2;obtain⟨hD,b,hι,hc⟩:=hx.inv_mp;obtain⟨ds,hds,hall⟩:=hi.inv_agg;have hints:=b9N hall hks;subst hints;obtain⟨b',arr,clock,hb,hheap,hes,hok⟩:=h.ents g j _ he;rw[hι]at hb;injection hb with hb;injection hb with hb;subst hb;obtain⟨vt,hu,hE,hwide,hz,hzs,hck⟩:=cx.hM ty kt m' z hM;have hck':∀em,(Instr.checkKey em 10000 kt (kv xs)).run cx.P w=.ok () w:=λem=>hck em xs w hlen
 have hfind:(Instr.findKey kt (kv xs) arr.toList).run cx.P w=.ok (a1O es xs 0) w:=by
  rw[run_findKey_eq w (by unfold c2l at hwide;exact hwide)];exact c4D (λxs ys w h1 h2=>cx.hE kt m' hE xs ys w h1 h2) hlen es arr.toList 0 hes λp hp=>(hok p hp).1
 have hrun:(execOp a.eval ob).run cx.P w=.ok (.value (a4x es xs z).conc) w:=by
  rw[d4j z xs es 0];simp only[execOp,ho,hc,hds,Instr.lookup,Sem.run_bind,run_underlying hu,Result.andThen_ok,run_getObj_map w b arr clock hheap];rw[show(Value.agg (xs.map (Value.int .i64)).toArray)=kv xs from rfl];simp only[Sem.run_pure,Sem.run_bind,hck',Result.andThen_ok,hfind];cases a1O es xs 0 with
  |none=>simp[hz,Sem.run_bind]
  |some q=>simp
 have hs:=d48 (xs:=xs) hzs λp hp=>(hok p hp).2
 refine⟨_,_,w,F,G,hrun,.inl rfl,?_⟩;rw[a7n];exact h.put ob.dst (.fv (FV.conc hs))
def b3s(cx:Cx)(ty:Nat)(x ix y:V):m7 E0:=
 match cx.M ty with
 |none=>m7.no
 |some (kt,m,z)=>match x,ix with
  | .mp g j,.agg ks=>match a3H ks with
   |some xs=>m7.bind (m7.rd g j) λe=>match e with
    | .map t' m' es=>if m'=m/\(O xs)=m/\y.simple=Y then m7.pure {v:=.bot,upd:=[((g,j),.map t' m (a3e es xs y))]}else m7.no
    |_=>m7.no
   |none=>m7.no
  |_,_=>m7.no
def f4m(h:A2 J F G S a w){grp:Nat}{ob:Oper}{ty:Nat}{x ix y:Operand}(ho:ob.op=.mapUpdate ty x ix y)(hd:ob.dst=Z){out:E0}{lg:List (Nat×Nat)}(hp:b3s cx ty (z6 S.t x) (z6 S.t ix) (z6 S.t y) S.ent=U (out,lg)):a0n cx.P J G S grp ob out a w:=by
 have hx:=H6 h.tmps x;have hi:=H6 h.tmps ix;have hy:=H6 h.tmps y;unfold b3s at hp;cases hM:cx.M ty with
 |none=>rw[hM]at hp;cases hp
 |some q=>
 obtain⟨kt,m,z⟩:=q;rw[hM]at hp;simp only at hp;generalize z6 S.t x=xv at hp hx;generalize z6 S.t ix=iv at hp hi;generalize z6 S.t y=yv at hp hy;cases xv<;>try (cases hp;done)
 cases iv<;>try (cases hp;done)
 rename_i g j ks;simp only at hp;cases hks:a3H ks with
 |none=>rw[hks]at hp;cases hp
 |some xs=>
 rw[hks]at hp;obtain⟨e,l1,l2,hrd,hp',hl12⟩:=m7.bind_some hp;clear hp;have he:=(m7.rd_some hrd).1;simp only at he hp';cases e<;>try (cases hp';done)
 rename_i t' m' es;simp only at hp';split at hp'<;>try (cases hp';done)
 rename_i hcond;obtain⟨rfl,hlen,hys⟩:=hcond;have:=m7.pure_some hp';injection this with h2 h3;subst h2;obtain⟨hD,b,hι,hc⟩:=hx.inv_mp;obtain⟨ds,hds,hall⟩:=hi.inv_agg;have hints:=b9N hall hks;subst hints;have hyc:=hy.simple hys;obtain⟨b',arr,clock,hb,hheap,hes,hok⟩:=h.ents g j _ he;rw[hι]at hb;injection hb with hb;injection hb with hb;subst hb;obtain⟨vt,hu,hE,hwide,hz,hzs,hck⟩:=cx.hM ty kt m' z hM;have hck':∀em,(Instr.checkKey em 10000 kt (kv xs)).run cx.P w=.ok () w:=λem=>hck em xs w hlen
 have hfind:(Instr.findKey kt (kv xs) arr.toList).run cx.P w=.ok (a1O es xs 0) w:=by
  rw[run_findKey_eq w (by unfold c2l at hwide;exact hwide)];exact c4D (λxs ys w h1 h2=>cx.hE kt m' hE xs ys w h1 h2) hlen es arr.toList 0 hes λp hp=>(hok p hp).1
 have hlt:b<w.heap.size:=(Array.getElem?_eq_some_iff.1 hheap).1;obtain⟨arr',clock',hrun,hes'⟩:∃arr' clock',(execOp a.eval ob).run cx.P w=.ok .skip {w with heap:=w.heap.setIfInBounds b (.map arr' clock')}/\arr'.toList.map (λe=>(e.key,e.val))=(a3e es xs yv).map (λp=>(kv p.1,p.2.conc)):=by
  have e0:(Value.agg (xs.map (Value.int .i64)).toArray)=kv xs:=rfl;cases hf:a1O es xs 0 with
  |none=>
   refine⟨arr.push {key:=kv xs,val:=yv.conc,born:=clock},clock+1,?_,?_⟩
   ·simp only[execOp,ho,hc,hds,hyc,Instr.mapUpdate,Sem.run_bind,run_underlying hu,Result.andThen_ok,run_getObj_map w b arr clock hheap];rw[e0];simp only[Sem.run_pure,Sem.run_bind,hck',Result.andThen_ok,hfind,hf,d7j _ hheap]
   ·rw[c9M hf];simp[hes]
  |some q=>
   obtain⟨i,v⟩:=q;obtain⟨⟨e,he1,he2⟩,he3⟩:=d9C (x:=yv) hes hf;rw[Nat.sub_zero]at he1 he3;have hkey:((arr[i]?).map (·.key)).getD (kv xs)=kv xs:=by
    have:arr[i]?=U e:=by simpa using he1
    rw[this];exact he2
   refine⟨arr.modify i λe=>{e with key:=kv xs,val:=yv.conc},clock,?_,?_⟩
   ·simp only[execOp,ho,hc,hds,hyc,Instr.mapUpdate,Sem.run_bind,run_underlying hu,Result.andThen_ok,run_getObj_map w b arr clock hheap];rw[e0];simp only[Sem.run_pure,Sem.run_bind,hck',Result.andThen_ok,hfind,hf,hkey,Instr.keyThatStays,g0f 9998,if_true,d7j _ hheap]
   ·rw[Array.toList_modify];exact he3
 refine⟨_,undef,_,F,G,hrun,.inr ⟨rfl,rfl⟩,?_⟩;rw[hd,b4T,b4u];have hsz:(w.heap.setIfInBounds b (.map arr' clock')).size=w.heap.size:=by simp
 refine h.write he rfl ⟨rfl,rfl,rfl⟩ hsz (λk hk => ?_) (λ_ => ?_) (λk hk=>hk)
 ·refine(c8J hheap).2 k λq=>hk ?_
  rw[q,hι];rfl
 ·exact⟨b,arr',clock',hι,(c8J hheap).1,hes',d2p hok (λq hq=>⟨(hok q hq).1,hys⟩) ⟨hlen,hys⟩⟩
end
def c6Z{C:Type}(key:C->List Int)(k:List Int):∀l:List C,a4x (l.map λx=>(key x,.b Y)) k (.b W)=.b (l.any λx=>k==key x)
 | []=>rfl
 |x::l=>by
  simp only[g1v,a4x,g2X];by_cases q:(k==key x)=Y
  ·simp[q]
  ·simp only[q,if_false,g1I,c6Z key k l];rfl
def a9C{C:Type}(key:C->List Int)(l:List C)(y:C):List C:=if l.any (λx=>key y==key x)then l else l++[y]
def d56{C:Type}(key:C->List Int)(y:C):∀l:List C,a3e (l.map λx=>(key x,.b Y)) (key y) (.b Y)=(a9C key l y).map λx=>(key x,.b Y)
 | []=>rfl
 |x::l=>by
  have ih:=d56 key y l;unfold a9C at ih⊢;simp only[g1v,a3e,g2X];by_cases q:(key y==key x)=Y
  ·simp[q]
  ·have q':(key y==key x)=W:=by simpa using q
   simp only[q',g1I];rw[if_neg (by simp),ih];by_cases c:(l.any λx=>key y==key x)=Y
   ·rw[if_pos c,if_pos c];rfl
   ·rw[if_neg c,if_neg c];rfl
section
variable {cx:Cx} {J:U2} {F:Nat->Prop} {G:Nat->Nat->Value} {S S':St} {a:Act} {w:World}
def A2.killsR:∀{ks:List (Nat×Nat)} {S:St},A2 J F G S a w->(∀id∈ks,∃e,S.ent id.1 id.2=U e)->A2 J F G (S.upds (J3 ks)) a w
 | [],S,h,_=>h
 |id::ks,S,h,hk=>by
  obtain⟨e,he⟩:=hk id (by simp);refine A2.killsR (S:=S.setE id.1 id.2 .dead) (h.kill he) λid' hid => ?_
  obtain⟨e',he'⟩:=hk id' (by simp[hid]);rw[W5 he];split
  ·exact⟨_,rfl⟩
  ·exact⟨e',he'⟩
def M6.flatB{rows:List (List V)}(h:M6 rows):rows.flatten.all (λv => !v.isRef)=Y:=by
 rw[g05];intro v hv;obtain⟨r,hr,hv⟩:=g1H.1 hv;rw[h r hr v hv];rfl
def A2.layDeep(h:A2 J F G S a w){grp:Nat}(hgl:grp<(O S.h))(hn:¬S.D grp){X:Option Nat}{w':World}(hgr:w.grownBy w' X)(hX:∀k,X=U k->¬F k/\(J.own k\/J.w0.heap.size<=k)/\∀g j e,S.ent g j=U e->e.live=Y->¬EB w e (G g j) k){e sz n:Nat}{rows:List (List V)}{sv:Value}{flat:List Value}{fs:List Nat}(hown:w'.ownsRow 0 e sz sv n flat)(hbl:BL w F rows.flatten flat fs)(hlen:(O rows)=n)(hl:∀r∈rows,(O r)=sz)(hsv:∀k,E1 sv=U k->X=U k\/w.heap.size<=k)(hfs:∀k∈fs,¬F k/\(J.own k\/J.w0.heap.size<=k)/\(∀g j e,S.ent g j=U e->e.live=Y->¬EB w e (G g j) k)/\X≠U k)(hnd:fs.Nodup) :
  A2 J F (R3 G grp sv) (S.lay grp [.deep W e sz n rows]) a w'/\RC w' F (S.lay grp [.deep W e sz n rows]).D (R3 G grp sv) (.own grp 0 sz 0 n) sv:=by
 have hs:M7 w w' F:=a2D λg hF=>hgr.block g (h.F1 g hF) λq=>(hX g q.symm).1 hF
 have hlt:=hbl.lt;have hbl':BL w' F rows.flatten flat fs:=hbl.mono hs (λ_ x=>x) λk hk=>hgr.block k (hlt k hk) λq=>(hfs k hk).2.2.2 q.symm
 have hkl:∀{D:Nat->Prop} {G:Nat->Nat->Value},KL w' F D G rows.flatten flat fs:=hbl'.kl
 have hEB:∀k,EB w' (.deep W e sz n rows) sv k->(X=U k\/w.heap.size<=k)\/k∈fs:=by
  intro k hk;rcases g0Z.1 ((EB.deep_iff (D:=λ_=>True) (G:=λ_ _=>.nilFunc) hown hkl).1 hk)with q|q
  ·exact .inl (hsv k (X1.1 q))
  ·exact .inr q
 have h':=h.world2 hgr hX;have hback:∀{g' j' e' k},S.ent g' j'=U e'->e'.live=Y->EB w' e' (G g' j') k->EB w e' (G g' j') k:=λhe' hl' hk'=>
  (h.ents _ _ _ he').back (λk q=>hgr.block k (h.lt he' hl' q) λz=>(hX k z.symm).2.2 _ _ _ he' hl' q) hk'
 refine⟨h'.lay hgl hn (λg j q=>b1U q) ?_ ?_ ?_ ?_,RC.wholeO (a11 hgl) V3 hown⟩
 ·intro j e1 he;cases j with
  |succ j=>simp at he
  |zero=>
   simp at he;subst he;rw[V3];refine⟨flat,fs,hown,hkl,hlen,hl,g1b.2 ⟨c5g sv,hnd,?_⟩,λ_=>M6.of_flat hbl.noRef⟩;intro k hk k' hk' hkk;subst hkk;rcases hsv k (X1.1 hk)with q|q
   ·exact(hfs k hk').2.2.2 q
   ·have:=hlt k hk';omega
 ·intro j e1 k he hl1 hk;rw[V3]at hk;cases j with
  |succ j=>simp at he
  |zero=>
   simp at he;subst he;rcases hEB k hk with(q|q)|q
   ·exact⟨(hX k q).1,(hX k q).2.1⟩
   ·refine⟨λhF => ?_,.inr (g1C h.kept.size q)⟩;have:=h.F1 k hF;omega
   ·exact⟨(hfs k q).1,(hfs k q).2.1⟩
 ·intro j e1 j' e1' k he he' _ _ _ _;cases j<;>cases j'<;>simp_all
 ·intro j e1 g' j' e' k he he' _ hl' hk hk';rw[V3]at hk;cases j with
  |succ j=>simp at he
  |zero=>
   simp at he;subst he;have hk2:=hback he' hl' hk';rcases hEB k hk with(q|q)|q
   ·exact(hX k q).2.2 g' j' e' he' hl' hk2
   ·have:=h.lt he' hl' hk2;omega
   ·exact(hfs k q).2.2.1 g' j' e' he' hl' hk2
def b3b:V->V
 | .osl .. | .dsl .. => .bot
 |v=>v
def KL.holes:∀{vs:List V} {cs:List Value} {f:List Nat} {D:Nat->Prop} {G:Nat->Nat->Value},KL w F D G vs cs f->vs.all (λv => !v.isRef)=Y->KL w F D G (vs.map b3b) cs []
 |_,_,_,_,_,.nil,_=>.nil
 |_,_,_,D,G,.cons v c f vs cs fs h t,hv=>by
  simp only[List.all_cons,g02]at hv;have h1:KC w F D G (b3b v) c []:=by
   have hone:=h.one;cases h with
   |rc h=>
    have:b3b v=v:=by
     cases h with
     |fv v c h=>cases h<;>rfl
     |_=>rfl
    rw[this];exact .rc _ _ h
   |bc _ h=>cases h with
    |fv _ _ h=>
     have:b3b v=v:=by cases h<;>rfl
     rw[this];exact .rc _ _ (.fv _ _ h)
    |_=>exact .rc _ _ (.fv _ _ (.bot _ hone))
  exact .cons _ _ [] _ _ [] h1 (KL.holes t hv.2)
def b6N(cx:Cx)(grp ty:Nat)(x:V)(r:List V):m7 E0:=
 match cx.T ty with
 |none=>m7.no
 |some ti=>match x with
  | .eptr g j sz idx off=>m7.bind (m7.rd g j) λe=>match e with
   | .deep _ t sz' n rows=>
    let m:=if ti.agg then ti.size else 1
    let y:=Q6 grp 0 ((r.drop off).take m);if sz'=sz/\off+m<=sz/\((r.drop off).take m).all (λv => !v.isRef)then
     match Y0 ti y.1 with
     |some v=>m7.pure {v:=v,new:=U y.2,upd:=[((g,j),.deep Y t sz n (rows.set idx (C7 r off (((r.drop off).take m).map b3b))))],obl:=[rows[idx]?=U r]}
     |none=>m7.no
    else m7.no
   |_=>m7.no
  |_=>m7.no
set_option maxHeartbeats 800000 in
def e2h(h:A2 J F G S a w){grp:Nat}(hg:grp<(O S.h))(hn:¬S.D grp){ob:Oper}{ty:Nat}{x:Operand}{r:List V}(ho:ob.op=.load ty x){out:E0}{lg:List (Nat×Nat)}(hp:b6N cx grp ty (z6 S.t x) r S.ent=U (out,lg))(hob:∀p∈out.obl,p):a0n cx.P J G S grp ob out a w:=by
 have hx:=H6 h.tmps x;unfold b6N at hp;cases hti:cx.T ty with
 |none=>rw[hti]at hp;cases hp
 |some ti=>
 rw[hti]at hp;obtain⟨i,d,z,htf⟩:=cx.tf hti;generalize z6 S.t x=xv at hp hx;cases xv<;>try (cases hp;done)
 case eptr g j sz idx off=>
  obtain⟨hD,b,hι,hc⟩:=hx.inv_eptr;obtain⟨e,l1,l2,hrd,hp',hl12⟩:=m7.bind_some hp;clear hp;have he:=(m7.rd_some hrd).1;simp only at he;cases e<;>try (cases hp';done)
  rename_i o t sz' n rows;simp only at hp';obtain⟨m,hm⟩:∃m,(if ti.agg=Y then ti.size else 1)=m:=⟨_,rfl⟩
  rw[hm]at hp';split at hp'<;>try (cases hp';done)
  rename_i hcond;obtain⟨rfl,hc1,hc2⟩:=hcond;obtain⟨y,hy⟩:∃y,Q6 grp 0 ((r.drop off).take m)=y:=⟨_,rfl⟩
  rw[hy]at hp';cases hrv:Y0 ti y.1 with
  |none=>rw[hrv]at hp';cases hp'
  |some v=>
  rw[hrv]at hp';have:=m7.pure_some hp';injection this with h2 h3;subst h2;have hr:rows[idx]?=U r:=hob _ (by simp);obtain⟨flat,fs,hor,hkl,hrn,hl,hnd,hnr⟩:=h.ents g j _ he;obtain⟨hseg,hmid,hle⟩:=c5Q hor hrn hl hι hr hc1;have hrl:=hl r (g1e hr);have hml:((r.drop off).take m).length=m:=by simp;omega
  have hgg:g≠grp:=λq=>hn (q▸hD)
  obtain⟨k,hk⟩:∃k,idx*sz'+off=k:=⟨_,rfl⟩
  rw[hk]at hseg hmid hle;obtain⟨fa,fm,fb,rfl,ka,km,kb⟩:=hkl.cut (k:=k) (m:=m) hle;rw[hmid]at km;have hbl:=km.toBL hc2;have hds:(flat.drop k).take m=((flat.drop k).take m):=rfl;have hflen:(O flat)=(O rows.flatten):=hkl.len.symm;have hspl:∀us:List V,(O us)=m->(rows.set idx (C7 r off us)).flatten=rows.flatten.take k++(us++rows.flatten.drop (k+m)):=by
   intro us hus;rw[a9b hl hr (by omega),hk];unfold C7;rw[hus,g1d]
  have hfs:flat=flat.take k++((flat.drop k).take m++flat.drop (k+m)):=by
   rw[<-g2F,g1V,g1V]
  have hrl':∀us:List V,(O us)=m->∀q∈rows.set idx (C7 r off us),(O q)=sz':=by
   intro us hus q hq;rcases g1F hq with hq|rfl
   ·exact hl q hq
   ·rw[a4f _ _ _ (by omega)];exact hrl
  have hnd2:(H5 (G g j)++(fa++fb)).Nodup:=List.Nodup.sublist (g2R.append_left (g2R.append_left (g2z _ _) _) _) hnd;have hndm:fm.Nodup:=(g1b.1 (g1b.1 (g1b.1 hnd).2.1).2.1).1;have hdm:∀k∈fm,k ∉ H5 (G g j)++(fa++fb):=by
   intro q hq hq';have hp:=(a9q (Ξ:=H5 (G g j)) (a9q (Ξ:=fa) (g2E.refl (fm++fb)))).nodup_iff.1 hnd;exact(g1b.1 hp).2.2 q hq q hq' rfl
  obtain⟨us0,hus0⟩:∃us:List V,us=((r.drop off).take m).map b3b:=⟨_,rfl⟩
  have hus0l:(O us0)=m:=by rw[hus0,g1J,hml]
  have kl0:∀{D':Nat->Prop} {ι':Nat->Nat->Value},(∀k,S.D k->D' k)->(∀g j,S.D g->ι' g j=G g j)->∀{us:List V},(O us)=m->KL w F D' ι' us ((flat.drop k).take m) []->KL w F D' ι' (rows.set idx (C7 r off us)).flatten flat (fa++([]++fb)):=by
   intro D' ι' h1 h2 us hus hku;rw[hspl us hus,hfs];have l1:(flat.take k).length=k:=by simp;omega
   have e1:(flat.take k++((flat.drop k).take m++flat.drop (k+m)))=flat:=hfs.symm;exact(ka.mono (λ_ _ _=>rfl) (λ_ x=>x) h1 h2 (λ_ _=>rfl)).app (hku.app (kb.mono (λ_ _ _=>rfl) (λ_ x=>x) h1 h2 (λ_ _=>rfl)))
  have hmem0:∀q,q∈H5 (G g j)++(fa++([]++fb))->q∈H5 (G g j)++(fa++(fm++fb)):=by
   intro q hq;simp only[g0Z,g2U,false_or]at hq⊢;rcases hq with x|x|x<;>simp[x]
  have rel1:A2 J F G (S.setE g j (.deep Y t sz' n (rows.set idx (C7 r off us0)))) a w:=by
   have k1:=kl0 (D':=S.D) (ι':=G) (λ_ x=>x) (λ_ _ _=>rfl) hus0l (hus0▸km.holes hc2);refine h.write he rfl ⟨rfl,rfl,rfl⟩ rfl (λ_ _=>rfl) (λ_ => ?_) ?_
   ·exact⟨flat,_,hor,k1.mono (λ_ _ _=>rfl) (λ_ x=>x) (λk x=>W6.2 x) (λ_ _ _=>rfl) (λ_ _=>rfl),by simpa using hrn,hrl' _ hus0l,by simpa using hnd2,λq=>by cases q⟩
   ·intro q hq;exact(EB.deep_iff hor hkl).2 (hmem0 q ((EB.deep_iff hor k1).1 hq))
  have he1:(S.setE g j (.deep Y t sz' n (rows.set idx (C7 r off us0)))).ent g j=U (.deep Y t sz' n (rows.set idx (C7 r off us0))):=by rw[W5 he];simp
  obtain⟨bs,hbsl,hhas,hth⟩:=a80 (grp:=grp) hbl 0;rw[hy]at hbsl hhas hth;obtain⟨ι',hι'⟩:∃ι',ι'=a6Q G grp bs:=⟨_,rfl⟩
  have hne:∀g j,g≠grp->ι' g j=G g j:=λg j q=>by rw[hι'];exact c8H q
  have hlenS:grp<(S.setE g j (.deep Y t sz' n (rows.set idx (C7 r off us0)))).h.length:=by rw[b1x];exact hg
  have hnD:¬(S.setE g j (.deep Y t sz' n (rows.set idx (C7 r off us0)))).D grp:=λq=>hn (W6.1 q)
  have hDg:=a11 (S:=S.setE g j (.deep Y t sz' n (rows.set idx (C7 r off us0)))) (new:=y.2) hlenS;obtain⟨hrc,hlie⟩:=hth ((S.setE g j (.deep Y t sz' n (rows.set idx (C7 r off us0)))).lay grp y.2).D ι' hDg (λq c hq=>by rw[hι',g1U];exact a6D hq) hndm;have hvb:∀(q:Nat) (e:x8),y.2[q]?=U e->bs[q]?=U (ι' grp q):=by
   intro q e hq;have hlt:q<(O bs):=by rw[hbsl];exact(g06.1 hq).1
   have hv:ι' grp q=bs[q]:=by rw[hι'];exact a6D (g0Y hlt)
   rw[hv];exact g0Y hlt
  have hmB:∀k∈fm,EB w (.deep o t sz' n rows) (G g j) k:=λk hk=>(EB.deep_iff hor hkl).2 (by simp[hk])
  have k1:=kl0 (D':=S.D) (ι':=G) (λ_ x=>x) (λ_ _ _=>rfl) hus0l (hus0▸km.holes hc2);have rel2:=rel1.lay hlenS hnD (new:=y.2) (ι':=ι') hne (λq e he=>hlie q e _ he (hvb q e he))
   (λq e k he hl hk=>h.sep _ _ _ k ‹S.ent g j=U (.deep o t sz' n rows)› rfl (hmB k (hhas.mem he (hvb q e he) hk)))
   (λq e q' e' k he he' hl hl' hk hk'=>hhas.inj hndm he (hvb q e he) hk he' (hvb q' e' he') hk')
   (λq e g' j' e' k he0 he' hl hl' hk hk'=>by
    have hkm:=hhas.mem he0 (hvb q e he0) hk;rw[W5 he]at he';split at he'
    ·rename_i qq;obtain⟨rfl,rfl⟩:=qq;injection he' with he';subst he';exact hdm k hkm (by simpa using(EB.deep_iff hor k1).1 hk')
    ·rename_i qq;exact qq (h.inj _ _ _ _ _ _ k he' he hl' rfl hk' (hmB k hkm)))
  have he2:((S.setE g j (.deep Y t sz' n (rows.set idx (C7 r off us0)))).lay grp y.2).ent g j=U (.deep Y t sz' n (rows.set idx (C7 r off us0))):=by rw[a82 hgg];exact he1
  obtain⟨c,hrd',hvc⟩:=a8I hrc hrv;refine⟨_,c,w,F,ι',a7O ho htf (by rw[hc,hk]) hseg hrd',.inl rfl,?_⟩;have hput:=rel2.put ob.dst hvc;rw[hus0]at hput;exact hput
def A2.shut(h:A2 J F G S a w){g j t sz n:Nat}{o:Bool}{rows:List (List V)}(he:S.ent g j=U (.deep o t sz n rows))(hn:M6 rows):A2 J F G (S.setE g j (.deep W t sz n rows)) a w:=by
 refine h.write he rfl ⟨rfl,rfl,rfl⟩ rfl (λ_ _=>rfl) (λ_ => ?_) (λk hk=>hk);obtain⟨flat,fs,q1,q2,q3,q4,q5,q6⟩:=h.ents g j _ he;exact⟨flat,fs,q1,q2.mono (λ_ _ _=>rfl) (λ_ x=>x) (λk x=>W6.2 x) (λ_ _ _=>rfl) (λ_ _=>rfl),q3,q4,q5,λ_=>hn⟩
def c6Y{g j:Nat}:∀{us:List U0} {S:St} {e:x8},S.ent g j=U e->∃e',(S.upds us).ent g j=U e'
 | [],_,e,h=>⟨e,h⟩
 | ((g',j'),e')::us,S,e,h=>by
  cases hx:S.ent g' j' with
  |none=>
   have:(S.setE g' j' e').ent g j=U e:=by
    by_cases q:g=g'/\j=j'
    ·rw[q.1,q.2,hx]at h;cases h
    ·rw[a7T q];exact h
   exact c6Y (us:=us) (S:=S.setE g' j' e') this
  |some e0=>
   have:∃e1,(S.setE g' j' e').ent g j=U e1:=by
    rw[W5 hx];split
    ·exact⟨_,rfl⟩
    ·exact⟨e,h⟩
   obtain⟨e1,h1⟩:=this;exact c6Y (us:=us) (S:=S.setE g' j' e') h1
def b6z(cx:Cx)(ty:Nat)(x y:V)(r:List V)(ck om:List (Option Nat)):m7 E0:=
 m7.bind (b17 cx ty x y r ck om) λo=>match o.new,o.upd.reverse with
  |none,((g,j),.deep b t sz n rows)::us=>m7.bind (m7.rd g j) λ_=>m7.pure {v:=o.v,upd:=o.upd++[((g,j),.deep W t sz n rows)],obl:=M6 rows::o.obl}
  |_,_=>m7.no
def f3F{S:St}{g j:Nat}{e:x8}{t:List V}:({S with t:=t}:St).setE g j e={S.setE g j e with t:=t}:=by
 unfold St.setE;cases S.h[g]? with
 |none=>rfl
 |some o=>cases o<;>rfl
def f4W(h:A2 J F G S a w){grp:Nat}{ob:Oper}{ty:Nat}{x y:Operand}{r:List V}{ck om:List (Option Nat)}(ho:ob.op=.store ty x y)(hd:ob.dst=Z){out:E0}{lg:List (Nat×Nat)}(hp:b6z cx ty (z6 S.t x) (z6 S.t y) r ck om S.ent=U (out,lg))(hob:∀p∈out.obl,p):a0n cx.P J G S grp ob out a w:=by
 unfold b6z at hp;obtain⟨o,l1,l2,hd1,hp',_⟩:=m7.bind_some hp;clear hp;simp only at hp';cases hnew:o.new with
 |some _=>rw[hnew]at hp';cases hp'
 |none=>
 rw[hnew]at hp';cases hrev:o.upd.reverse with
 |nil=>rw[hrev]at hp';cases hp'
 |cons u us=>
 rw[hrev]at hp';obtain⟨⟨g,j⟩,e⟩:=u;cases e<;>try (cases hp';done)
 rename_i b t sz n rows;simp only at hp';obtain⟨e0,l3,l4,hrd,hp'',_⟩:=m7.bind_some hp';have he0:=(m7.rd_some hrd).1;simp only at he0;have:=m7.pure_some hp'';injection this with h2 h3;subst h2;have hnr:M6 rows:=hob _ (by simp);obtain⟨nx,c,w',F',ι',hrun,hnx,hrel⟩:=d6U h (grp:=grp) ho hd hd1 (λp hp=>hob p (by simp[hp]));refine⟨nx,c,w',F',ι',hrun,hnx,?_⟩;have hu:o.upd=us.reverse++[((g,j),.deep b t sz n rows)]:=by
  have:=congrArg List.reverse hrev;simpa using this
 have happ:S.apply grp ob.dst o={S.upds o.upd with t:=Z3 S.t ob.dst o.v}:=by
  unfold St.apply;rw[hnew];simp only[St.upds_t]
 rw[happ]at hrel;have hent:({S.upds o.upd with t:=Z3 S.t ob.dst o.v}:St).ent g j=U (.deep b t sz n rows):=by
  show(S.upds o.upd).ent g j=_
  rw[hu,St.upds_append];obtain⟨e1,he1⟩:=c6Y (us:=us.reverse) he0;show((S.upds us.reverse).setE g j _).ent g j=_
  rw[W5 he1];simp
 have hs:=hrel.shut hent hnr;rw[f3F]at hs;unfold St.apply;simp only[St.upds_append,St.upds_t];exact hs
def b5I(cx:Cx)(grp ty len:Nat)(parts:List (Nat×V))(ck om:List (Option Nat)):m7 E0:=
 match cx.T ty with
 |some ti=>match ti.sl with
  |some e=>match cx.T e with
   |some ei=>match parts with
    | [(0,x)]=>match x.cells with
     |some cs=>m7.bind (a2X ck om cs) λf=>
      if len=1/\(O cs)=ei.size/\(O ei.zero)=ei.size/\0<ei.size/\ei.size<=16777216/\a4Z f.ks=Y/\f.ls.isEmpty=Y then
       m7.pure {v:=.own grp 0 ei.size 0 1,new:=U [.deep W e ei.size 1 [f.v]],upd:=J3 f.ks,obl:=f.obl}
      else m7.no
     |none=>m7.no
    | []=>
     if len=0/\(O ei.zero)=ei.size/\0<ei.size/\ei.size<=16777216 then
      m7.pure {v:=.own grp 0 ei.size 0 0,new:=U [.deep W e ei.size 0 []]}
     else m7.no
    |_=>m7.no
   |none=>m7.no
  |none=>m7.no
 |none=>m7.no
def e79{u:Value}{ds:Array Value}{sz:Nat}(hu:u.cells.size=sz)(hd:ds.size=sz):∃es:Array Value,Instr.fill (λi=>U (i*sz,sz)) ds [(0,u)]=U es/\es.toList=u.cells.toList:=by
 have hout:=c6d u.cells.toList 0 (0*sz) ds (by simp only[Array.length_toList];omega);refine⟨u.cells.toList.zipIdx.foldl (λ(cs:Array Value) (x:Value×Nat)=>cs.setIfInBounds (0*sz+x.2) x.1) ds,?_,?_⟩
 ·have hcond':(u.cells.size≠sz||0*sz+u.cells.size>ds.size)=W:=by
   simp[hu];omega
  simp only[Instr.fill,hcond'];simp only[g2d,if_false];congr 1
  rw[<-Array.foldl_toList,Array.toList_zipIdx]
 ·rw[hout,Nat.zero_mul,g2n,d0x];simp only[Array.length_toList];omega
def f8L(h:A2 J F G S a w){grp:Nat}(hg:grp<(O S.h))(hn:¬S.D grp){ob:Oper}{ty len:Nat}{parts:Array (Nat×Operand)}{ck om:List (Option Nat)}(ho:ob.op=.buildSlice ty len parts){out:E0}{lg:List (Nat×Nat)}(hp:b5I cx grp ty len (parts.toList.map λ(i,x)=>(i,z6 S.t x)) ck om S.ent=U (out,lg))(hob:∀p∈out.obl,p):a0n cx.P J G S grp ob out a w:=by
 unfold b5I at hp;cases hti:cx.T ty with
 |none=>rw[hti]at hp;cases hp
 |some ti=>
 rw[hti]at hp;simp only at hp;cases hsl:ti.sl with
 |none=>rw[hsl]at hp;cases hp
 |some e=>
 rw[hsl]at hp;simp only at hp;cases hei:cx.T e with
 |none=>rw[hei]at hp;cases hp
 |some ei=>
 rw[hei]at hp;simp only at hp;have hrel:=c6E h.tmps parts.toList;generalize hpl:(parts.toList.map λ(i,x)=>(i,z6 S.t x))=pl at hp hrel;generalize hql:(parts.toList.map λ(i,x)=>(i,a.eval x))=ql at hrel;cases hrel with
 |nil=>
  simp only at hp;split at hp<;>try (cases hp;done)
  rename_i hcond;obtain⟨rfl,hc2,hc3,hc4⟩:=hcond;have:=m7.pure_some hp;injection this with h3 h4;subst h3;obtain⟨ti',d,z,htf⟩:=cx.tf hti;obtain⟨ti2,d',z',hef⟩:=cx.tf hei;obtain rfl:=htf.isSl hsl;have hmd:(madeCells z'.cells (0*ei.size)) = #[]:=by simp[madeCells]
  have hrun:(execOp a.eval ob).run cx.P w=.ok (.value (.slice (U ⟨w.heap.size,0,Z⟩) 0 0)) (w.alloc (.cells #[] e)):=by
   have:=c27 (w:=w) (len:=0) htf rfl hef (by omega) (qs:=parts.map λ(i,x)=>(i,a.eval x)) (es := #[]) (by rw[Array.toList_map,hql,hmd];rfl);simp[execOp,ho,this]
  have hgr:=a54 w (.cells #[] e);have hown:(w.alloc (.cells #[] e)).ownsRow 0 e ei.size (.slice (U ⟨w.heap.size,0,Z⟩) 0 0) 0 []:=
   ⟨by simp,.inr ⟨w.heap.size,0,#[],rfl,g2D _,b0E w _,g07 _,by simp,by simp,by simp⟩⟩
  obtain⟨r1,r2⟩:=h.layDeep hg hn hgr (λk q=>by cases q) (rows:=[]) (sv:=.slice (U ⟨w.heap.size,0,Z⟩) 0 0) hown (show BL w F [].flatten [] []from .nil) rfl (by simp) (by intro k hk;simp[E1]at hk;exact .inr (by omega)) (by simp) .nil;exact⟨_,_,_,F,R3 G grp (.slice (U ⟨w.heap.size,0,Z⟩) 0 0),hrun,.inl rfl,r1.put ob.dst (.cell r2)⟩
 | @cons p q pl ql hpq ht=>
 obtain⟨i,x⟩:=p;obtain⟨i',u⟩:=q;obtain⟨hii,hxu⟩:=hpq;simp only at hii hxu;subst hii;cases ht with
 |cons _ _=>cases i<;>cases hp
 |nil=>
 cases i with
 |succ i=>cases hp
 |zero=>
 simp only at hp;cases hcs:x.cells with
 |none=>rw[hcs]at hp;cases hp
 |some cs=>
 rw[hcs]at hp;obtain⟨f,l1,l2,hf,hp',_⟩:=m7.bind_some hp;clear hp;split at hp'<;>try (cases hp';done)
 rename_i hcond;obtain⟨rfl,hc1,hc2,hc3,hc4,hc5,hc6⟩:=hcond;have:=m7.pure_some hp';injection this with h3 h4;subst h3;obtain⟨ti',d,z,htf⟩:=cx.tf hti;obtain⟨ti2,d',z',hef⟩:=cx.tf hei;obtain rfl:=htf.isSl hsl;have hrc:=hxu.cells hcs;obtain⟨fp,hbl,hfps,hh⟩:=b42 (F1:=F) h (λ_ x=>x) hrc hf hob (by rw[List.isEmpty_iff.1 hc6];intro id hid;cases hid);have hul:u.cells.size=ei.size:=by rw[<-hc1,hrc.length];simp
 have hzs:z'.cells.size=ei.size:=by rw[<-hc2,<-hef.zeros];simp
 have hmd:(madeCells z'.cells (1*ei.size)).size=ei.size:=by simp[madeCells]
 obtain⟨es,hfill,hes⟩:=e79 (u:=u) (ds:=madeCells z'.cells (1*ei.size)) hul hmd;have hel:es.size=1*ei.size:=by
  have:=congrArg List.length hes;simp only[Array.length_toList]at this;omega
 have hrun:(execOp a.eval ob).run cx.P w=.ok (.value (.slice (U ⟨w.heap.size,0,Z⟩) 1 1)) (w.alloc (.cells es e)):=by
  have:=c27 (w:=w) (len:=1) htf rfl hef (by omega) (qs:=parts.map λ(i,x)=>(i,a.eval x)) (es:=es) (by rw[Array.toList_map,hql];exact hfill);simp[execOp,ho,this]
 have hgr:=a54 w (.cells es e);have hown:(w.alloc (.cells es e)).ownsRow 0 e ei.size (.slice (U ⟨w.heap.size,0,Z⟩) 1 1) 1 u.cells.toList:=by
  refine⟨by simp only[Array.length_toList];omega,.inr ⟨w.heap.size,1,es,rfl,g2D _,b0E w _,g07 _,by unfold maxLen;omega,hel,?_⟩⟩;rw[hes,g1A (by simp only[Array.length_toList];omega)]
 have hkl:=h.killsR (λid hid=>(hfps.live id hid).imp λ_ x=>x.1);have hnd:=R7.nodup h hfps (a6k hc5);have hgk:grp<(S.upds (J3 f.ks)).h.length:=by rw[St.upds_len];exact hg
 have hnk:¬(S.upds (J3 f.ks)).D grp:=λq=>hn ((a1z S grp _).1 q)
 obtain⟨r1,r2⟩:=hkl.layDeep hgk hnk hgr (λk q=>by cases q) (rows:=[f.v]) (sv:=.slice (U ⟨w.heap.size,0,Z⟩) 1 1) hown (by simpa using hbl) rfl (by
   intro r hr;rw[g03.1 hr,hbl.len];simp only[Array.length_toList];exact hul) (by intro k hk;simp[E1]at hk;exact .inr (by omega)) (by
   intro k hk;obtain⟨id,hid,e1,he1,hl1,hk1⟩:=hfps.mem hk;obtain⟨x1,x2⟩:=h.sep _ _ _ k he1 hl1 hk1;refine⟨x1,x2,?_,by simp⟩;intro g' j' e' he' hl' hk';rcases b2I _ he' with⟨_,rfl⟩|⟨hni,he2⟩
   ·cases hl'
   ·obtain⟨y1,y2⟩:=h.inj _ _ _ _ _ _ k he2 he1 hl' hl1 hk' hk1;exact hni (by rw[y1,y2];exact hid)) hnd
 exact⟨_,_,_,F,R3 G grp (.slice (U ⟨w.heap.size,0,Z⟩) 1 1),hrun,.inl rfl,r1.put ob.dst (.cell r2)⟩
def b3l(cx:Cx)(grp ty:Nat)(s x:V):m7 E0:=
 match cx.T ty with
 |some ti=>match ti.sl with
  |some e=>match cx.T e with
   |some ei=>match x with
    | .own g2 j2 sz2 0 m=>m7.bind (m7.rd g2 j2) λe2=>match e2 with
     | .deep W t2 sz2' m' rows2=>
      if t2=e/\sz2=ei.size/\sz2'=ei.size/\0<ei.size/\0<ei.bytes/\(O ei.zero)=ei.size/\0<m' then
       match s with
       | .nil=>m7.pure {v:=.own grp 0 ei.size 0 m',new:=U [.deep W e ei.size m' rows2],upd:=J3 [(g2,j2)],obl:=[m=m',m'*ei.bytes<=140737488355328]}
       | .own g j sz 0 n=>m7.bind (m7.rd g j) λe1=>match e1 with
        | .deep W t sz' n' rows=>
         if t=e/\sz=ei.size/\sz'=ei.size/\a4Z [(g,j),(g2,j2)]=Y then
          m7.pure {v:=.own grp 0 ei.size 0 (n'+m'),new:=U [.deep W e ei.size (n'+m') (rows++rows2)],upd:=J3 [(g,j),(g2,j2)],obl:=[n=n',(n'+m')*ei.bytes<=140737488355328,m=m']}
         else m7.no
        |_=>m7.no
       |_=>m7.no
      else m7.no
     |_=>m7.no
    |_=>m7.no
   |none=>m7.no
  |none=>m7.no
 |none=>m7.no
def c3g{g j sz n e sz':Nat}{c:Value}{flat:List Value}(hs:RV w F S.D G (.own g j sz 0 n) c)(hown:w.ownsRow 0 e sz' (G g j) n flat):c=G g j:=by
 obtain⟨hD,⟨b,nn,cap,hι,hlo,hb0,hb1,hc⟩|⟨hl0',_⟩⟩:=hs.inv_own;case inr=>omega
 rcases hown.2 with⟨hv,hz⟩|⟨g0,cap0,cur,hv,_⟩
 ·rw[hι]at hv;injection hv with e1 e2 e3;subst e1;subst e2;subst e3;subst hz;rw[hc,hι];simp
 ·rw[hι]at hv;injection hv with e1 e2 e3;subst e1;subst e2;subst e3;rw[hc,hι];by_cases q:cap=0
  ·simp[q]
  ·simp[q,Addr.add]
def d6O{P:Program}{ty e:Nat}{ti ei:TI}{i i':TypeInfo}{d d':TypeDesc}{z z':Value}(htf:TF P ty ti i d z)(hd:d=.slice e)(hef:TF P e ei i' d' z')(h0:0<ei.size)(hb0:0<ei.bytes)(hzl:(O ei.zero)=ei.size){sv sv2:Value}{n m:Nat}{flat flat2:List Value}(hown:w.ownsRow 0 e ei.size sv n flat)(hown2:w.ownsRow 0 e ei.size sv2 m flat2)(hm:0<m)(hone:∀u∈flat2,u.oneCell'=Y)(hb:(n+m)*ei.bytes<=140737488355328)(rt:Nat) :
  ∃v' w',(Builtin.append_ #[ty,ty] rt #[sv,sv2]).run P w=.ok v' w'/\w'.ownsRow 0 e ei.size v' (n+m) (flat++flat2)/\w.grownBy w' sv.ownBlock/\(v'.ownBlock=sv.ownBlock\/v'.ownBlock=U w.heap.size):=by
 subst hd;have hzs:z'.cells.size=ei.size:=by rw[<-hzl,<-hef.zeros];simp
 have hm63:n+m<=maxLen:=by
  have:n+m<=140737488355328:=g1C (g2r _ hb0) hb;unfold maxLen;omega
 rcases hown2.2 with⟨_,q⟩|⟨g2,cap2,cur2,rfl,_,hg2,hnc2,_,hcs2,ht2⟩
 ·omega
 ·have hseg:T8 w g2 0 flat2:=by
   rw[<-ht2];have:=(a8y hg2 0).take (m*ei.size);simpa using this
  obtain⟨v',w',h1,h2,h3,_,h5⟩:=run_append_own_at (P:=P) w 0 ty rt e i' z' ei.size ei.bytes htf.und hef.info hef.zero hef.size hef.bytes hzs h0 sv n flat hown ⟨g2,0,Z⟩ m cap2 flat2 hown2.1 (by
   intro j u hu;rw[a4z];exact hseg j u hu) hone hm63 hb (g2D _)
  exact⟨v',w',h1,h2,h3,h5⟩
def BL.ones:∀{vs:List V} {cs:List Value} {f:List Nat},BL w F vs cs f->∀u∈cs,u.oneCell'=Y
 |_,_,_,.cons v c f vs cs fs h t,u,hu=>by
  rcases g1a.1 hu with rfl|hu
  ·exact h.one
  ·exact BL.ones t u hu
def BL.app:∀{vs vs':List V} {cs cs':List Value} {f f':List Nat},BL w F vs cs f->BL w F vs' cs' f'->BL w F (vs++vs') (cs++cs') (f++f')
 |_,_,_,_,_,_,.nil,k=>k
 |_,_,_,_,_,_,.cons v c f vs cs fs h t,k=>by
  rw[g1d];exact .cons v c f _ _ _ h (BL.app t k)
def f8C(h:A2 J F G S a w){grp:Nat}(hg:grp<(O S.h))(hn:¬S.D grp){ob:Oper}{ty:Nat}{s x:Operand}(ho:ob.op=.call {callee:=.builtin .append,args := #[s,x],argTypes := #[ty,ty]}){out:E0}{lg:List (Nat×Nat)}(hp:b3l cx grp ty (z6 S.t s) (z6 S.t x) S.ent=U (out,lg))(hob:∀p∈out.obl,p):a0n cx.P J G S grp ob out a w:=by
 have hs:=H6 h.tmps s;have hx:=H6 h.tmps x;unfold b3l at hp;cases hti:cx.T ty with
 |none=>rw[hti]at hp;cases hp
 |some ti=>
 rw[hti]at hp;simp only at hp;cases hsl:ti.sl with
 |none=>rw[hsl]at hp;cases hp
 |some e=>
 rw[hsl]at hp;simp only at hp;cases hei:cx.T e with
 |none=>rw[hei]at hp;cases hp
 |some ei=>
 rw[hei]at hp;simp only at hp;obtain⟨i,d,z,htf⟩:=cx.tf hti;obtain⟨i',d',z',hef⟩:=cx.tf hei;have hd:=htf.isSl hsl;generalize z6 S.t s=sv at hp hs;generalize z6 S.t x=xv at hp hx;cases xv<;>try (cases hp;done)
 rename_i g2 j2 sz2 lo2 m;cases lo2 with
 |succ q=>cases hp
 |zero=>
 simp only at hp;obtain⟨e2,l1,l2,hrd2,hp',_⟩:=m7.bind_some hp;clear hp;have he2:=(m7.rd_some hrd2).1;simp only at he2;cases e2<;>try (cases hp';done)
 rename_i o2 t2 sz2' m' rows2;cases o2 with
 |true=>cases hp'
 |false=>
 simp only at hp';split at hp'<;>try (cases hp';done)
 rename_i hcond;obtain⟨rfl,rfl,rfl,hc3,hc4,hc5,hc6⟩:=hcond;obtain⟨flat2,fs2,hown2,hkl2,hlen2,hl2,hnd2,hnr2⟩:=h.ents g2 j2 _ he2;have hbl2:=hkl2.toBL (hnr2 rfl).flatB;have hin2:∀k∈H5 (G g2 j2)++fs2,EB w (.deep W t2 ei.size m' rows2) (G g2 j2) k:=λk hk=>(EB.deep_iff hown2 hkl2).2 hk
 cases sv<;>try (cases hp';done)
 case nil=>
  have:=m7.pure_some hp';injection this with h3 h4;subst h3;obtain hcs:=hs.inv_nil;have hmm:m=m':=hob _ (by simp);subst hmm;have hb:m*ei.bytes<=140737488355328:=hob _ (by simp);obtain⟨v',w',hr,hown,hgr,hat⟩:=d6O htf hd hef hc3 hc4 hc5 (World.ownsRow_nil w 0 t2 ei.size) hown2 hc6 hbl2.ones (by simpa using hb) ob.type;have hxc:=c3g hx hown2;have hrun:(execOp a.eval ob).run cx.P w=.ok (.value v') w':=by
   simp[execOp,ho,resolve,invoke,builtin,hcs,hxc,hr]
  have hkl:=h.killsR (ks:=[(g2,j2)]) (λid hid=>by rw[g03.1 hid];exact⟨_,he2⟩);have hgk:grp<(S.upds (J3 [(g2,j2)])).h.length:=by rw[St.upds_len];exact hg
  have hnk:¬(S.upds (J3 [(g2,j2)])).D grp:=λq=>hn ((a1z S grp _).1 q)
  simp only[g1U,g1z]at hown;obtain⟨r1,r2⟩:=hkl.layDeep hgk hnk hgr (λk q=>by cases q) hown hbl2 hlen2 hl2 (by
   intro k hk;rw[<-b1S hown]at hk;rcases hat with q|q
   ·rw[q]at hk;cases hk
   ·rw[q]at hk;injection hk with hk;exact .inr (by omega)) (by
   intro k hk;have hk1:=hin2 k (g0Z.2 (.inr hk));obtain⟨x1,x2⟩:=h.sep _ _ _ k he2 rfl hk1;refine⟨x1,x2,?_,by intro q;cases q⟩;intro g' j' e' he' hl' hk';rcases b2I _ he' with⟨_,rfl⟩|⟨hni,he3⟩
   ·cases hl'
   ·obtain⟨y1,y2⟩:=h.inj _ _ _ _ _ _ k he3 he2 hl' rfl hk' hk1;exact hni (by rw[y1,y2];simp)) (g1b.1 hnd2).2.1
  exact⟨_,_,_,F,R3 G grp v',hrun,.inl rfl,r1.put ob.dst (.cell r2)⟩
 case own g j sz lo n=>
  cases lo with
  |succ q=>cases hp'
  |zero=>
  simp only at hp';obtain⟨e1,l3,l4,hrd1,hp'',_⟩:=m7.bind_some hp';clear hp';have he1:=(m7.rd_some hrd1).1;simp only at he1;cases e1<;>try (cases hp'';done)
  rename_i o1 t1 sz1 n' rows;cases o1 with
  |true=>cases hp''
  |false=>
  simp only at hp'';split at hp''<;>try (cases hp'';done)
  rename_i hcond;obtain⟨rfl,rfl,rfl,hnod⟩:=hcond;have:=m7.pure_some hp'';injection this with h3 h4;subst h3;have hnn:n=n':=hob _ (by simp);subst hnn;have hb:(n+m')*ei.bytes<=140737488355328:=hob _ (by simp);have hmm:m=m':=hob _ (by simp);subst hmm;obtain⟨flat1,fs1,hown1,hkl1,hlen1,hl1,hnd1,hnr1⟩:=h.ents g j _ he1;have hbl1:=hkl1.toBL (hnr1 rfl).flatB;have hin1:∀k∈H5 (G g j)++fs1,EB w (.deep W t1 ei.size n rows) (G g j) k:=λk hk=>(EB.deep_iff hown1 hkl1).2 hk
  have hne:¬(g=g2/\j=j2):=by
   have:=a6k hnod;rw[g2h]at this;intro q;exact this.1 (by rw[q.1,q.2];simp)
  obtain⟨v',w',hr,hown,hgr,hat⟩:=d6O htf hd hef hc3 hc4 hc5 hown1 hown2 hc6 hbl2.ones hb ob.type;have hxc:=c3g hx hown2;have hsc:=c3g hs hown1;have hrun:(execOp a.eval ob).run cx.P w=.ok (.value v') w':=by
   simp[execOp,ho,resolve,invoke,builtin,hsc,hxc,hr]
  have hkl:=h.killsR (ks:=[(g,j),(g2,j2)]) (λid hid=>by
   rcases g1a.1 hid with rfl|hid
   ·exact⟨_,he1⟩
   ·rw[g03.1 hid];exact⟨_,he2⟩)
  have hgk:grp<(S.upds (J3 [(g,j),(g2,j2)])).h.length:=by rw[St.upds_len];exact hg
  have hnk:¬(S.upds (J3 [(g,j),(g2,j2)])).D grp:=λq=>hn ((a1z S grp _).1 q)
  have hob1:∀k,(G g j).ownBlock=U k->k∈H5 (G g j):=λk hk=>X1.2 (by rw[<-b1S hown1];exact hk)
  have free1:∀k∈H5 (G g j)++fs1,∀g' j' e',(S.upds (J3 [(g,j),(g2,j2)])).ent g' j'=U e'->e'.live=Y->¬EB w e' (G g' j') k:=by
   intro k hk g' j' e' he' hl' hk';rcases b2I _ he' with⟨_,rfl⟩|⟨hni,he3⟩
   ·cases hl'
   ·obtain⟨y1,y2⟩:=h.inj _ _ _ _ _ _ k he3 he1 hl' rfl hk' (hin1 k hk);exact hni (by rw[y1,y2];simp)
  have free2:∀k∈H5 (G g2 j2)++fs2,∀g' j' e',(S.upds (J3 [(g,j),(g2,j2)])).ent g' j'=U e'->e'.live=Y->¬EB w e' (G g' j') k:=by
   intro k hk g' j' e' he' hl' hk';rcases b2I _ he' with⟨_,rfl⟩|⟨hni,he3⟩
   ·cases hl'
   ·obtain⟨y1,y2⟩:=h.inj _ _ _ _ _ _ k he3 he2 hl' rfl hk' (hin2 k hk);exact hni (by rw[y1,y2];simp)
  have hdis:∀k,k∈H5 (G g j)++fs1->k∈H5 (G g2 j2)++fs2->False:=by
   intro k q1 q2;obtain⟨y1,y2⟩:=h.inj _ _ _ _ _ _ k he1 he2 rfl rfl (hin1 k q1) (hin2 k q2);exact hne ⟨y1,y2⟩
  obtain⟨r1,r2⟩:=hkl.layDeep hgk hnk hgr (λk q=>by
   have hk:k∈H5 (G g j)++fs1:=g0Z.2 (.inl (hob1 k q));obtain⟨x1,x2⟩:=h.sep _ _ _ k he1 rfl (hin1 k hk);exact⟨x1,x2,free1 k hk⟩) (rows:=rows++rows2) hown (by rw[g2Y];exact hbl1.app hbl2) (by rw[g08,hlen1,hlen2]) (by
   intro r hr';rcases g0Z.1 hr' with q|q
   ·exact hl1 r q
   ·exact hl2 r q) (by
   intro k hk;rw[<-b1S hown]at hk;rcases hat with q|q
   ·rw[q]at hk;exact .inl hk
   ·rw[q]at hk;injection hk with hk;exact .inr (by omega)) (by
   intro k hk;rcases g0Z.1 hk with q|q
   ·have hk1:k∈H5 (G g j)++fs1:=g0Z.2 (.inr q);obtain⟨x1,x2⟩:=h.sep _ _ _ k he1 rfl (hin1 k hk1);exact⟨x1,x2,free1 k hk1,λz=>(g1b.1 hnd1).2.2 k (hob1 k z) k q rfl⟩
   ·have hk2:k∈H5 (G g2 j2)++fs2:=g0Z.2 (.inr q);obtain⟨x1,x2⟩:=h.sep _ _ _ k he2 rfl (hin2 k hk2);exact⟨x1,x2,free2 k hk2,λz=>hdis k (g0Z.2 (.inl (hob1 k z))) hk2⟩) (by
   rw[g1b];exact⟨(g1b.1 hnd1).2.1,(g1b.1 hnd2).2.1,λk q k' q' z=>by
    subst z;exact hdis k (g0Z.2 (.inr q)) (g0Z.2 (.inr q'))⟩)
  exact⟨_,_,_,F,R3 G grp v',hrun,.inl rfl,r1.put ob.dst (.cell r2)⟩
end
structure Q5 where
 a:U8:=.none
 d:Option Bool:=Z
 v:Option V:=Z
 e:Option x8:=Z
def c8b(d:Option Bool)(o:E0):Option E0:=
 match d with
 |some d=>match o.v with
  | .b x=>U {o with v:=.b d,obl:=(x=d)::o.obl}
  |_=>Z
 |none=>U o
def b83(v:Option V)(o:E0):Option E0:=
 match v with
 |some v=>U {o with v:=v,obl:=(o.v=v)::o.obl}
 |none=>U o
def b40(e:x8):List ((Nat×Nat)×x8)->Option (List ((Nat×Nat)×x8)×Prop)
 | []=>Z
 | [u]=>U ([(u.1,e)],u.2=e)
 |u::us=>match b40 e us with
  |some (us',p)=>U (u::us',p)
  |none=>Z
def b7D(e:Option x8)(o:E0):Option E0:=
 match e with
 |some e=>match o.new with
  |some [e0]=>U {o with new:=U [e],obl:=(e0=e)::o.obl}
  |some _=>Z
  |none=>match b40 e o.upd with
   |some (us,p)=>U {o with upd:=us,obl:=p::o.obl}
   |none=>Z
 |none=>U o
def c49(T:Q5)(o:E0):Option E0:=
 match b7D T.e o with
 |some o1=>match b83 T.v o1 with
  |some o2=>c8b T.d o2
  |none=>Z
 |none=>Z
def opM(cx:Cx)(grp:Nat)(ob:Oper)(t:List V)(A:U8):m7 E0:=
 match ob.op with
 | .alloc e=>m7.lift (c7s cx grp e)
 | .box e x=>m7.lift (c7x cx grp e (z6 t x))
 | .buildSlice ty len parts=>match A with
  | .dck ck om=>b5I cx grp ty len (parts.toList.map λ(i,x)=>(i,z6 t x)) ck om
  |A=>b57 cx grp ty len (parts.toList.map λ(i,x)=>(i,z6 t x)) A
 | .makeSlice ty l c=>match A with
  | .dck ck om=>b3t cx grp ty (z6 t l) (z6 t c) ck om
  |A=>m7.lift (c3E cx grp ty (z6 t l) (z6 t c) (f9D A))
 | .load ty x=>match A with
  | .drow r=>b6D cx grp ty (z6 t x) r
  | .prow r=>b6M cx ty (z6 t x) r
  | .dtak r=>b6N cx grp ty (z6 t x) r
  |A=>b5P cx ty (z6 t x) A
 | .store ty x y=>match ob.dst with
  |none=>match A with
   | .dst r ck om=>b17 cx ty (z6 t x) (z6 t y) r ck om
   | .dsc r ck om=>b6z cx ty (z6 t x) (z6 t y) r ck om
   |A=>b4n cx ty (z6 t x) (z6 t y) A
  |some _=>m7.no
 | .makeMap ty Z=>m7.lift (c8s cx grp ty)
 | .lookup ty x ix W=>b5h cx ty (z6 t x) (z6 t ix)
 | .mapUpdate ty x ix y=>match ob.dst with
  |none=>b3s cx ty (z6 t x) (z6 t ix) (z6 t y)
  |some _=>m7.no
 | .call c=>match c.callee,c.args.toList,c.argTypes.toList with
  | .builtin .append,[s,x],[ty,ty']=>if ty=ty' then(match A with
   | .dck _ _=>b3l cx grp ty (z6 t s) (z6 t x)
   | .part=>b1I Y cx grp ty (z6 t s) (z6 t x)
   |_=>b1I W cx grp ty (z6 t s) (z6 t x))else m7.no
  | .builtin .copy,[s,x],[ty,_]=>b5m cx ty (z6 t s) (z6 t x)
  | .value fop,args,_=>match z6 t fop with
   | .fn f=>b4M cx.P grp f (args.map (z6 t)) A
   |_=>m7.no
  |_,_,_=>m7.lift ((X8 cx ob.op t A).map λq=>{v:=q.1,obl:=q.2})
 |_=>m7.lift ((X8 cx ob.op t A).map λq=>{v:=q.1,obl:=q.2})
section
variable {cx:Cx} {J:U2} {F:Nat->Prop} {G:Nat->Nat->Value} {S:St} {a:Act} {w:World}
def c4F(P:Program)(J:U2)(S':St)(ob:Oper)(a:Act)(w:World):Prop:=
 (∃nx c w' F' ι',(execOp a.eval ob).run P w=.ok nx w'/\(nx=.value c\/(nx=.skip/\c=undef))/\A2 J F' ι' S' (a.put ob.dst c) w')\/
 (∃f args,(execOp a.eval ob).run P w=.ok (.enter f args) w/\Calls P f args w λe w' => ∃c F' ι',e=.returned c/\A2 J F' ι' S' (a.put ob.dst c) w')
def f5B(h:A2 J F G S a w){grp:Nat}(hg:grp<(O S.h))(hn:¬S.D grp){ob:Oper}{A:U8}{out:E0}{lg:List (Nat×Nat)}(hp:opM cx grp ob S.t A S.ent=U (out,lg))(hob:∀p∈out.obl,p):c4F cx.P J (S.apply grp ob.dst out) ob a w:=by
 have pure:∀{op:Op} {out:E0} {lg},ob.op=op->m7.lift ((X8 cx op S.t A).map λq=>({v:=q.1,obl:=q.2}:E0)) S.ent=U (out,lg)->(∀p∈out.obl,p)->c4F cx.P J (S.apply grp ob.dst out) ob a w:=by
  intro op out lg hop hp hob;subst hop;obtain⟨h1,_⟩:=m7.lift_some hp;obtain⟨q,hq,he⟩:=g2t.1 h1;simp only at he;subst he;obtain⟨c,hr,hv⟩:=f4L h.tmps hq hob;exact .inl ⟨_,c,w,F,G,hr,.inl rfl,by rw[a7n];exact h.put ob.dst hv⟩
 unfold opM at hp;cases ho:ob.op;case alloc e=>
  rw[ho]at hp;exact .inl (e8V h hg hn ho (m7.lift_some hp).1 hob)
 case box e x=>
  rw[ho]at hp;exact .inl (e7Y h hg hn ho (m7.lift_some hp).1)
 case buildSlice ty len parts=>
  rw[ho]at hp;cases A;case dck ck om=>exact .inl (f8L h hg hn ho hp hob)
  all_goals exact .inl (e4o h hg hn ho hp hob)
 case makeSlice ty l c=>
  rw[ho]at hp;cases A;case dck ck om=>exact .inl (e1u h hg hn ho hp hob)
  all_goals exact .inl (e6u h hg hn ho (m7.lift_some hp).1 hob)
 case load ty x=>
  rw[ho]at hp;cases A;case drow r=>exact .inl (f7F h hg hn ho hp hob)
  case prow r=>exact .inl (e8W h ho hp hob)
  case dtak r=>exact .inl (e2h h hg hn ho hp hob)
  all_goals exact .inl (f1h h ho hp hob)
 case store ty x y=>
  rw[ho]at hp;cases hd:ob.dst with
  |some d=>rw[hd]at hp;cases hp
  |none=>
   rw[hd]at hp;have:a0n cx.P J G S grp ob out a w:=by
    cases A;case dst r ck om=>exact d6U h (grp:=grp) ho hd hp hob
    case dsc r ck om=>exact f4W h (grp:=grp) ho hd hp hob
    all_goals exact e3E h (grp:=grp) ho hd hp hob
   rw[<-hd];exact .inl this
 case makeMap ty r=>
  rw[ho]at hp;cases r with
  |none=>exact .inl (e9h h hg hn ho (m7.lift_some hp).1)
  |some r=>exact pure ho hp hob
 case lookup ty x ix ok=>
  rw[ho]at hp;cases ok with
  |false=>exact .inl (f8E h ho hp)
  |true=>exact pure ho hp hob
 case mapUpdate ty x ix y=>
  rw[ho]at hp;cases hd:ob.dst with
  |some d=>rw[hd]at hp;cases hp
  |none=>
   rw[hd]at hp;have:a0n cx.P J G S grp ob out a w:=f4m h (grp:=grp) ho hd hp;rw[<-hd];exact .inl this
 case call c=>
  rw[ho]at hp;obtain⟨callee,args,tys⟩:=c;simp only at hp;cases callee with
  |invoke x m=>exact pure ho hp hob
  |value fop=>
   simp only at hp;generalize hfe:z6 S.t fop=fv at hp;cases fv<;>try (cases hp;done)
   rename_i f;obtain⟨h1,h2⟩:=e7J h hg hn ho hfe hp hob;exact .inr ⟨f,_,h1,h2⟩
  |builtin b=>
   cases b;case append=>
    generalize hargs:args.toList=al at hp;generalize htys:tys.toList=tl at hp;rcases al with _|⟨s,_|⟨x,_|⟨y,al⟩⟩⟩<;>rcases tl with _|⟨ty,_|⟨ty',_|⟨ty3,tl⟩⟩⟩<;>try exact pure ho hp hob
    have ha:args = #[s,x]:=by simpa using congrArg g2Q hargs
    have hy:tys = #[ty,ty']:=by simpa using congrArg g2Q htys
    subst ha;subst hy;simp only at hp;by_cases q:ty=ty'
    ·subst q;rw[if_pos rfl]at hp;cases A;case dck ck om=>exact .inl (f8C h hg hn ho hp hob)
     all_goals exact .inl (f1N (rt:=0) h hg hn ho hp hob)
    ·rw[if_neg q]at hp;cases hp
   case copy=>
    generalize hargs:args.toList=al at hp;generalize htys:tys.toList=tl at hp;rcases al with _|⟨s,_|⟨x,_|⟨y,al⟩⟩⟩<;>rcases tl with _|⟨ty,_|⟨ty',_|⟨ty3,tl⟩⟩⟩<;>try exact pure ho hp hob
    have ha:args = #[s,x]:=by simpa using congrArg g2Q hargs
    have hy:tys = #[ty,ty']:=by simpa using congrArg g2Q htys
    subst ha;subst hy;exact .inl (f7u h ho hp hob)
   all_goals exact pure ho hp hob
 all_goals
  rw[ho]at hp;exact pure ho hp hob
def d41{e:x8}:∀{us us':List ((Nat×Nat)×x8)} {p:Prop},b40 e us=U (us',p)->p->us'=us
 | [],_,_,h,_=>by cases h
 | [u],us',p,h,hp=>by
  unfold b40 at h;injection h with h;injection h with h1 h2;subst h1;subst h2;have:u.2=e:=hp;subst this;rfl
 |u::u2::us,us',p,h,hp=>by
  unfold b40 at h;split at h<;>try (cases h;done)
  rename_i us1 p1 h1;injection h with h;injection h with h2 h3;subst h2;subst h3;rw[d41 h1 hp]
def e9H{d:Option Bool}{o o':E0}(hd:c8b d o=U o')(hob:∀p∈o'.obl,p):(∀p∈o.obl,p)/\o'.new=o.new/\o'.upd=o.upd/\o'.v=o.v:=by
 unfold c8b at hd;split at hd
 ·split at hd<;>try (cases hd;done)
  rename_i d _ x hv;injection hd with hd;subst hd;have hx:x=d:=hob _ (by simp);exact⟨λp hp=>hob p (by simp[hp]),rfl,rfl,by simp[hv,hx]⟩
 ·injection hd with hd;subst hd;exact⟨hob,rfl,rfl,rfl⟩
def e5o{v:Option V}{o o':E0}(hd:b83 v o=U o')(hob:∀p∈o'.obl,p):(∀p∈o.obl,p)/\o'.new=o.new/\o'.upd=o.upd/\o'.v=o.v:=by
 unfold b83 at hd;split at hd
 ·rename_i v;injection hd with hd;subst hd;have hx:o.v=v:=hob _ (by simp);exact⟨λp hp=>hob p (by simp[hp]),rfl,rfl,hx.symm⟩
 ·injection hd with hd;subst hd;exact⟨hob,rfl,rfl,rfl⟩
def f3m{e:Option x8}{o o':E0}(hd:b7D e o=U o')(hob:∀p∈o'.obl,p):(∀p∈o.obl,p)/\o'.new=o.new/\o'.upd=o.upd/\o'.v=o.v:=by
 unfold b7D at hd;split at hd
 ·rename_i e;split at hd
  ·rename_i e0 hn;injection hd with hd;subst hd;have hx:e0=e:=hob _ (by simp);exact⟨λp hp=>hob p (by simp[hp]),by rw[hn,hx],rfl,rfl⟩
  ·cases hd
  ·split at hd<;>try (cases hd;done)
   rename_i us p h1;injection hd with hd;subst hd;have hx:p:=hob _ (by simp);exact⟨λp hp=>hob p (by simp[hp]),rfl,d41 h1 hx,rfl⟩
 ·injection hd with hd;subst hd;exact⟨hob,rfl,rfl,rfl⟩
def e1K{T:Q5}{o o':E0}(hd:c49 T o=U o')(hob:∀p∈o'.obl,p):(∀p∈o.obl,p)/\o'.new=o.new/\o'.upd=o.upd/\o'.v=o.v:=by
 unfold c49 at hd;cases h1:b7D T.e o with
 |none=>rw[h1]at hd;cases hd
 |some o1=>
 rw[h1]at hd;simp only at hd;cases h2:b83 T.v o1 with
 |none=>rw[h2]at hd;cases hd
 |some o2=>
 rw[h2]at hd;obtain⟨a1,a2,a3,a4⟩:=e9H hd hob;obtain⟨b1,b2,b3,b4⟩:=e5o h2 a1;obtain⟨c1,c2,c3,c4⟩:=f3m h1 b1;exact⟨c1,a2.trans (b2.trans c2),a3.trans (b3.trans c3),a4.trans (b4.trans c4)⟩
def b12(cx:Cx)(grp:Nat)(ob:Oper)(t:List V)(A:Q5):m7 E0:=m7.bind (opM cx grp ob t A.a) λo=>m7.lift (c49 A o)
def f4q{S:St}{grp:Nat}{dst:Option Nat}{o o':E0}(h1:o'.new=o.new)(h2:o'.upd=o.upd)(h3:o'.v=o.v):S.apply grp dst o'=S.apply grp dst o:=by
 unfold St.apply;rw[h1,h2,h3]
def e5J(h:A2 J F G S a w){grp:Nat}(hg:grp<(O S.h))(hn:¬S.D grp){ob:Oper}{A:Q5}{out:E0}{lg:List (Nat×Nat)}(hp:b12 cx grp ob S.t A S.ent=U (out,lg))(hob:∀p∈out.obl,p):c4F cx.P J (S.apply grp ob.dst out) ob a w:=by
 obtain⟨o,l1,l2,h1,h2,_⟩:=m7.bind_some hp;obtain⟨h3,_⟩:=m7.lift_some h2;simp only at h3;obtain⟨h4,h5,h6,h7⟩:=e1K h3 hob;rw[f4q h5 h6 h7];exact f5B h hg hn h1 h4
def a7o(ops:Array Oper)(o:Oper)(t:List V):Option Bool:=
 match o.guard with
 |none=>U Y
 |some (j,want)=>match (ops[j]?).bind (·.dst)with
  |some d=>match t[d]? with
   |some (.b x)=>U (x==want)
   |some (.tup [])=>U W
   |_=>Z
  |none=>Z
def d71{ops:Array Oper}{o:Oper}{b:Bool}{D:Nat->Prop}{t:List V}(ht:B5 (RV w F D G) t a.tmps.toList)(h:a7o ops o t=U b):Region.wanted o (yielded ops a.tmps)=b:=by
 unfold a7o at h;unfold Region.wanted;split at h
 ·rename_i hg;rw[hg];injection h
 ·rename_i j want hg;rw[hg];simp only;cases hd:(ops[j]?).bind (·.dst)with
  |none=>rw[hd]at h;cases h
  |some d=>
   rw[hd]at h;simp only at h;split at h<;>try (cases h;done)
   rename_i x hx;injection h with h;obtain⟨c,hc,hv⟩:=ht.get hx;obtain rfl:=hv.inv_b;have:yielded ops a.tmps j=U x:=by
    unfold yielded;simp only[hd];rw[Array.getElem?_toList]at hc;simp[hc]
   rw[this,<-h];cases x<;>cases want<;>rfl
   ·rename_i hx;injection h with h;obtain⟨c,hc,hv⟩:=ht.get hx;have hcc:c=undef:=by
     cases hv with
     |one v c hv=>cases hv with|cell v c hv=>cases hv with|fv v c hv=>cases hv
     |tup cs ds hv=>cases hv;rfl
    subst hcc;have:yielded ops a.tmps j=Z:=by
     unfold yielded;simp only[hd];rw[Array.getElem?_toList]at hc;simp[hc,undef]
    rw[this,<-h];rfl
end
structure a1c where
 rd:List (Nat×Nat)
 wr:List (Nat×Nat)
def a1r(cx:Cx)(ops:Array Oper)(base:Nat)(A:Nat->Q5)(i:Nat)(S:St):Option (St×List Prop×a1c):=
 match ops[i]? with
 |none=>Z
 |some o=>match a7o ops o S.t with
  |some Y=>match b12 cx (base+i) o S.t (A i) S.ent with
   |some (out,lg)=>U (S.apply (base+i) o.dst out,out.obl,⟨lg,out.upd.map (·.1)⟩)
   |none=>Z
  |some W=>U ({S with t:=Z3 S.t o.dst (.tup [])},[],⟨[],[]⟩)
  |none=>Z
section
variable {cx:Cx} {J:U2} {F:Nat->Prop} {G:Nat->Nat->Value} {S S':St} {a:Act} {w:World} {ops:Array Oper} {base:Nat} {A:Nat->Q5}
def f0w{grp:Nat}{dst:Option Nat}{out:E0}{g:Nat}(h:(S.apply grp dst out).D g):S.D g\/g=grp:=by
 unfold St.apply at h;simp only at h;split at h
 ·exact .inl ((a1z S g _).1 h)
 ·rename_i new hnew;by_cases q:g=grp
  ·exact .inr q
  ·left
   obtain⟨l,hl⟩:=h;simp only[St.lay,g1k (Ne.symm q)]at hl;exact(a1z S g _).1 ⟨l,hl⟩
def f3M{grp:Nat}{dst:Option Nat}{out:E0}:(S.apply grp dst out).h.length=(O S.h):=by
 unfold St.apply;simp only;split
 ·exact St.upds_len S _
 ·simp[St.lay,St.upds_len]
def d0N{i:Nat}{ps:List Prop}{ft:a1c}(h:a1r cx ops base A i S=U (S',ps,ft)):(∀g,S'.D g->S.D g\/g=base+i)/\(O S'.h)=(O S.h):=by
 unfold a1r at h;split at h<;>try (cases h;done)
 split at h<;>try (cases h;done)
 ·split at h<;>try (cases h;done)
  injection h with h;injection h with h1 h2;subst h1;exact⟨λg x=>f0w x,f3M⟩
 ·injection h with h;injection h with h1 h2;subst h1;exact⟨λg x=>.inl x,rfl⟩
def c8L{Q:Exit->Act->World->Prop}{K:Act->World->Prop}{i:Nat}{ps:List Prop}{ft:a1c}(h:A2 J F G S a w)(hg:base+i<(O S.h))(hn:¬S.D (base+i))(hs:a1r cx ops base A i S=U (S',ps,ft))(hob:∀p∈ps,p)(hK:∀a' w' F' ι',A2 J F' ι' S' a' w'->K a' w'):wpOp cx.P ops Q i K a w:=by
 unfold a1r at hs;unfold wpOp;split at hs<;>try (cases hs;done)
 rename_i o ho;rw[ho];simp only;split at hs<;>try (cases hs;done)
 ·rename_i hw;have hwant:=d71 h.tmps hw;rw[hwant];simp only[if_true];split at hs<;>try (cases hs;done)
  rename_i out lg hop;injection hs with hs;injection hs with h1 h2;injection h2 with h2 h3;subst h1;subst h2;left
  unfold Oper.wp;rcases e5J h hg hn hop hob with⟨nx,c,w',F',ι',hr,hnx,hrel⟩|⟨f,args,hr,hcalls⟩
  ·rw[hr];rcases hnx with rfl|⟨rfl,rfl⟩
   ·exact hK _ _ _ _ hrel
   ·exact hK _ _ _ _ hrel
  ·rw[hr];refine hcalls.mono ?_;rintro e w' ⟨c,F',ι',rfl,hrel⟩
   exact hK _ _ _ _ hrel
 ·rename_i hw;have hwant:=d71 h.tmps hw;rw[hwant];simp only[g2d,if_false];injection hs with hs;injection hs with h1 h2;subst h1;exact hK _ _ _ _ (h.put o.dst (.tup [] [] .nil))
def a2q(cx:Cx)(ops:Array Oper)(base:Nat)(A:Nat->Q5):List Nat->St->Option (St×List (List Prop×a1c))
 | [],S=>U (S,[])
 |i::l,S=>match a1r cx ops base A i S with
  |some (S1,r)=>match a2q cx ops base A l S1 with
   |some (S2,rs)=>U (S2,r::rs)
   |none=>Z
  |none=>Z
def b47{i:Nat}{l:List Nat}{rs:List (List Prop×a1c)}(h:a2q cx ops base A (i::l) S=U (S',rs)):∃S1 r rs',a1r cx ops base A i S=U (S1,r)/\a2q cx ops base A l S1=U (S',rs')/\rs=r::rs':=by
 unfold a2q at h;split at h<;>try (cases h;done)
 rename_i S1 r h1;split at h<;>try (cases h;done)
 rename_i S2 rs' h2;injection h with h;injection h with h3 h4;subst h3;subst h4;exact⟨S1,r,rs',h1,h2,rfl⟩
def d3t{Q:Exit->Act->World->Prop}:∀{l:List Nat} {S:St} {F:Nat->Prop} {G:Nat->Nat->Value} {a:Act} {w:World} {rs:List (List Prop×a1c)},A2 J F G S a w->l.Nodup->(∀i∈l,base+i<(O S.h)/\¬S.D (base+i))->a2q cx ops base A l S=U (S',rs)->(∀r∈rs,∀p∈r.1,p)->
  (∀a' w' F' ι',A2 J F' ι' S' a' w'->Q .normal a' w')->wpOps cx.P ops Q l a w
 | [],S,F,G,a,w,rs,h,_,_,hr,_,hQ=>by
  unfold a2q at hr;injection hr with hr;injection hr with h1 h2;subst h1;exact hQ _ _ _ _ h
 |i::l,S,F,G,a,w,rs,h,hn,hfree,hr,hob,hQ=>by
  obtain⟨S1,r,rs',h1,h2,rfl⟩:=b47 hr;rw[wpOps_cons];have hn':=g2h.1 hn;obtain⟨hD,hl⟩:=d0N (ps:=r.1) (ft:=r.2) h1;refine c8L h (hfree i (by simp)).1 (hfree i (by simp)).2 (ps:=r.1) (ft:=r.2) h1 (hob r (by simp)) λa' w' F' ι' hrel => ?_
  refine d3t hrel hn'.2 (λj hj => ?_) h2 (λr' hr'=>hob r' (by simp[hr'])) hQ;refine⟨by rw[hl];exact(hfree j (by simp[hj])).1,λx => ?_⟩;rcases hD _ x with y|y
  ·exact(hfree j (by simp[hj])).2 y
  ·have:i=j:=by omega
   exact hn'.1 (this▸hj)
end
def C0{C:Type}(m:m7 C):Prop := ∀(H H':Hp) r lg,m H=U (r,lg)->(∀id∈lg,H' id.1 id.2=H id.1 id.2)->m H'=U (r,lg)
namespace C0
variable {C β:Type}
def pure(a:C):C0 (m7.pure a):=λ_ _ _ _ h _=>h
def no:C0 (m7.no:m7 C):=λ_ _ _ _ h _=>h
def lift(o:Option C):C0 (m7.lift o):=by
 intro H H' r lg h _;unfold m7.lift at h⊢;exact h
def rd(g j:Nat):C0 (m7.rd g j):=by
 intro H H' r lg h hH;obtain⟨h1,h2⟩:=m7.rd_some h;simp only at h1 h2;subst h2;have:=hH (g,j) (by simp);unfold m7.rd;simp only at this;rw[this,h1]
def bind{m:m7 C}{f:C->m7 β}(hm:C0 m)(hf:∀a,C0 (f a)):C0 (m7.bind m f):=by
 intro H H' r lg h hH;obtain⟨a,l,l',h1,h2,h3⟩:=m7.bind_some h;simp only at h2 h3;subst h3;unfold m7.bind;rw[hm H H' a l h1 (λid hid=>hH id (g0Z.2 (.inl hid)))];simp only;rw[hf a H H' r l' h2 (λid hid=>hH id (g0Z.2 (.inr hid)))]
def ite{c:Prop}[Decidable c]{m n:m7 C}(hm:C0 m)(hn:C0 n):C0 (if c then m else n):=by
 split<;>assumption
end C0
def f2f(ck:Option Nat)(v:V):C0 (fzP ck v):=by
 unfold fzP;cases v<;>try exact C0.no
 case own g j sz lo n=>
  refine .bind (.rd g j) λe => ?_
  cases e<;>first|exact C0.no|exact .ite (.pure _) .no
 case nil=>cases ck<;>exact .pure _
 all_goals exact .pure _
def c25:∀(vs:List V) (ck:List (Option Nat)),C0 (b4V ck vs)
 | [],ck=>by cases ck<;>exact .pure _
 |v::vs,ck=>.bind (f2f _ _) λx=>.bind (c25 vs _) λy=>.pure _
def f5C(cx:Cx)(ty:Nat)(x:V)(A:U8):C0 (b5P cx ty x A):=by
 unfold b5P;cases cx.T ty with
 |none=>exact .no
 |some ti=>
  cases x<;>try exact C0.no
  case ptr g j off=>
   refine .bind (.rd g j) λe => ?_
   cases e<;>try exact C0.no
   case var e cs=>simp only;cases Y0 ti (cs.drop off)<;>first|exact .no|exact .pure _
   case arr e sz n rows=>exact .ite (.pure _) .no
  case eptr g j sz idx off=>
   refine .bind (.rd g j) λe => ?_
   cases A<;>try exact C0.no
   case row r=>
    simp only;cases Y0 ti (r.drop off)with
    |none=>exact .no
    |some v=>cases e<;>first|exact C0.no|exact .ite (.pure _) .no
  case fptr cs=>simp only;cases Y0 ti cs<;>first|exact .no|exact .pure _
def e6w(cx:Cx)(ty:Nat)(x y:V)(A:U8):C0 (b4n cx ty x y A):=by
 unfold b4n;cases cx.T ty with
 |none=>exact .no
 |some ti=>
  cases y.cells with
  |none=>exact .no
  |some vs=>
   cases x<;>try exact C0.no
   case ptr g j off=>
    refine .bind (.rd g j) λe => ?_
    cases e<;>first|exact C0.no|exact .ite (.pure _) .no
   case eptr g j sz idx off=>
    refine .bind (.rd g j) λe => ?_
    cases A<;>try exact C0.no
    case rowck r ck=>
     refine .bind (c25 _ _) λf => ?_
     cases e<;>first|exact C0.no|exact .ite (.pure _) .no
def d0w(pt:Bool)(x:V):C0 (b2D pt x):=by
 unfold b2D;cases x<;>try first|exact C0.no|exact C0.pure _
 case own g j sz lo n=>
  refine .bind (.rd g j) λe => ?_
  cases e<;>first|exact C0.no|exact .ite (.pure _) .no
def f4c(pt:Bool)(cx:Cx)(grp ty:Nat)(s x:V):C0 (b1I pt cx grp ty s x):=by
 unfold b1I;cases cx.T ty with
 |none=>exact .no
 |some ti=>
  simp only;cases ti.sl with
  |none=>exact .no
  |some e=>
   simp only;cases cx.T e with
   |none=>exact .no
   |some ei=>
    refine .bind (d0w _ x) λq=>.ite ?_ .no
    cases s<;>try first|exact C0.no|exact C0.pure _
    case own g j sz lo n=>
     cases lo with
     |succ k=>exact .no
     |zero=>
      refine .bind (.rd g j) λe => ?_
      cases e<;>first|exact C0.no|exact .ite (.pure _) .no
def f7S(cx:Cx)(ty:Nat)(s x:V):C0 (b5m cx ty s x):=by
 unfold b5m;cases cx.T ty with
 |none=>exact .no
 |some ti=>
  simp only;cases ti.sl with
  |none=>exact .no
  |some e=>
   simp only;cases cx.T e with
   |none=>exact .no
   |some ei=>
    refine .bind (d0w _ x) λq => ?_
    cases s<;>try exact C0.no
    case own g j sz lo n=>
     cases lo with
     |succ k=>exact .no
     |zero=>
      refine .bind (.rd g j) λe => ?_
      cases e<;>first|exact C0.no|exact .ite (.pure _) .no
def d4y(ck:List (Option Nat)):∀ps:List (Nat×V),C0 (b1r ck ps)
 | []=>.pure _
 | (i,v)::ps=>by
  unfold b1r;cases v.cells with
  |none=>exact .no
  |some cs=>exact .bind (c25 _ _) λx=>.bind (d4y ck ps) λy=>.pure _
def f9x(cx:Cx)(grp ty len:Nat)(parts:List (Nat×V))(A:U8):C0 (b57 cx grp ty len parts A):=by
 unfold b57;cases cx.T ty with
 |none=>exact .no
 |some ti=>
  simp only;cases ti.sl with
  |none=>exact .no
  |some e=>
   simp only;cases cx.T e with
   |none=>exact .no
   |some ei=>
    cases A<;>try exact C0.no
    case ck ck=>
     refine .bind (d4y _ _) λq => ?_
     cases a7c ei.size (g00 len ei.zero) q.1 with
     |none=>exact .no
     |some rows=>exact .ite (.pure _) .no
def d81(ck om:Option Nat)(v:V):C0 (Y5 ck om v):=by
 unfold Y5;cases om with
 |some e=>
  refine .ite (.pure _) (.ite ?_ ?_)
  ·cases v<;>try exact C0.no
   case own g j sz lo n=>
    refine .bind (.rd g j) λe => ?_
    cases e<;>first|exact C0.no|exact .ite (.pure _) .no|(rename_i o _ _ _ _;cases o<;>first|exact C0.no|exact .ite (.pure _) .no)
  cases v<;>try first|exact C0.no|exact C0.pure _
  case own g j sz lo n=>
   cases lo with
   |succ k=>exact .no
   |zero=>
    refine .bind (.rd g j) λe => ?_
    cases e<;>first|exact C0.no|exact .ite (.pure _) .no|(rename_i o _ _ _ _;cases o<;>first|exact C0.no|exact .ite (.pure _) .no)
 |none=>
  cases v<;>try first|exact C0.no|exact C0.pure _
  case own g j sz lo n=>
   refine .bind (.rd g j) λe => ?_
   cases e<;>first|exact C0.no|exact .ite (.pure _) .no|(rename_i o _ _ _ _;cases o<;>first|exact C0.no|exact .ite (.pure _) .no)
  case nil=>cases ck<;>exact .pure _
def b01:∀(vs:List V) (ck om:List (Option Nat)),C0 (a2X ck om vs)
 | [],ck,om=>by cases ck<;>cases om<;>exact .pure _
 |v::vs,ck,om=>.bind (d81 _ _ _) λx=>.bind (b01 vs _ _) λy=>.pure _
def f0M(m:PM)(v:V):C0 (a2E m v):=by
 unfold a2E;cases m with
 |val ck om=>
  cases v<;>try first|exact C0.no|exact d81 _ _ _
  case agg cs=>exact .bind (b01 _ _ _) λx=>.pure _
 |ptr ck om=>
  cases v<;>try exact C0.no
  case ptr g j off=>
   cases off with
   |succ k=>exact .no
   |zero=>
    refine .bind (.rd g j) λe => ?_
    cases e<;>try exact C0.no
    case var e cs=>exact .bind (b01 _ _ _) λx=>.pure _
 |row=>
  cases v<;>try exact C0.no
  case own g j sz lo n=>
   cases lo with
   |succ k=>exact .no
   |zero=>
    refine .bind (.rd g j) λe => ?_
    cases e<;>first|exact C0.no|exact .ite (.pure _) .no|(rename_i o _ _ _ _;cases o<;>first|exact C0.no|exact .ite (.pure _) .no)
 |part=>
  cases v<;>try exact C0.no
  case own g j sz lo n=>
   refine .bind (.rd g j) λe => ?_
   cases e<;>first|exact C0.no|exact .ite (.pure _) .no|(rename_i o _ _ _ _;cases o<;>first|exact C0.no|exact .ite (.pure _) .no)
def d4Q:∀(vs:List V) (ms:List PM),C0 (a26 ms vs)
 | [],ms=>by cases ms<;>exact .pure _
 |v::vs,[]=>.no
 |v::vs,m::ms=>.bind (f0M m v) λx=>.bind (d4Q vs ms) λy=>.pure _
def c3f:∀ids:List (Nat×Nat),C0 (a6d ids)
 | []=>.pure _
 | (g,j)::ids=>by
  unfold a6d;refine .bind (.rd g j) λe => ?_
  cases e<;>try exact C0.no
  case row t sz n rows=>exact .bind (c3f ids) λus=>.pure _
  case deep o t sz n rows=>
   cases o
   ·exact .bind (c3f ids) λus=>.pure _
   ·exact .no
def c9V(grp:Nat)(args:List V)(ms:List PM)(fr:Bool)(res:V)(outs:List (Option V))(p:List V->Prop):C0 (a9H grp args ms fr res outs p):=by
 unfold a9H;refine .bind (d4Q _ _) λr=>.bind (c3f _) λfz => ?_
 simp only;cases W8 grp (M0 grp 0 res).2.length ms args outs with
 |none=>exact .no
 |some ue=>exact .ite (.pure _) .no
def f1d(P:Program)(grp f:Nat)(args:List V)(A:U8):C0 (b4M P grp f args A):=by
 unfold b4M;cases A<;>try exact C0.no
 case call ms fr res outs=>exact c9V _ _ _ _ _ _ _
 case callr k q ms fr res outs=>
  simp only;split
  ·split
   ·exact .bind (c9V _ _ _ _ _ _ _) λo=>.pure _
   ·exact .no
  ·exact .no
def d54(cx:Cx)(ty:Nat)(x y:V)(r:List V)(ck om:List (Option Nat)):C0 (b17 cx ty x y r ck om):=by
 unfold b17;cases cx.T ty with
 |none=>exact .no
 |some ti=>
  cases y.cells with
  |none=>exact .no
  |some vs=>
   cases x<;>try exact C0.no
   case eptr g j sz idx off=>
    refine .bind (.rd g j) λe=>.bind (b01 _ _ _) λf => ?_
    cases e<;>try exact C0.no
    exact .ite (.pure _) .no
def f3x(cx:Cx)(grp ty:Nat)(x:V)(r:List V):C0 (b6D cx grp ty x r):=by
 unfold b6D;cases cx.T ty with
 |none=>exact .no
 |some ti=>
  cases x<;>try exact C0.no
  case eptr g j sz idx off=>
   refine .bind (.rd g j) λe => ?_
   cases e<;>try exact C0.no
   simp only;refine .ite ?_ .no;cases Y0 ti (Q6 grp 0 ((r.drop off).take (if ti.agg=Y then ti.size else 1))).1 with
   |none=>exact .no
   |some v=>exact .pure _
def f9Y(cx:Cx)(grp ty:Nat)(x:V)(r:List V):C0 (b6N cx grp ty x r):=by
 unfold b6N;cases cx.T ty with
 |none=>exact .no
 |some ti=>
  cases x<;>try exact C0.no
  case eptr g j sz idx off=>
   refine .bind (.rd g j) λe => ?_
   cases e<;>try exact C0.no
   simp only;refine .ite ?_ .no;cases Y0 ti (Q6 grp 0 ((r.drop off).take (if ti.agg=Y then ti.size else 1))).1 with
   |none=>exact .no
   |some v=>exact .pure _
def e5L(cx:Cx)(ty:Nat)(x y:V)(r:List V)(ck om:List (Option Nat)):C0 (b6z cx ty x y r ck om):=by
 unfold b6z;refine .bind (d54 _ _ _ _ _ _ _) λo => ?_
 split
 ·exact .bind (.rd _ _) λ_=>.pure _
 ·exact .no
def f8j(cx:Cx)(ty:Nat)(x:V)(r:List V):C0 (b6M cx ty x r):=by
 unfold b6M;cases cx.T ty with
 |none=>exact .no
 |some ti=>
  cases x<;>try exact C0.no
  case eptr g j sz idx off=>
   refine .bind (.rd g j) λe => ?_
   cases e<;>try exact C0.no
   simp only;refine .ite ?_ .no;cases Y0 ti ((r.drop off).take (if ti.agg=Y then ti.size else 1))with
   |none=>exact .no
   |some v=>exact .pure _
def f8e(cx:Cx)(grp ty:Nat)(l c:V)(ck om:List (Option Nat)):C0 (b3t cx grp ty l c ck om):=by
 unfold b3t;cases cx.T ty with
 |none=>exact .no
 |some ti=>
  simp only;cases ti.sl with
  |none=>exact .no
  |some e=>
   simp only;cases cx.T e with
   |none=>exact .no
   |some ei=>
    cases l<;>try exact C0.no
    cases c<;>try exact C0.no
    exact .bind (b01 _ _ _) λf=>.ite (.pure _) .no
def g0I(cx:Cx)(grp ty len:Nat)(parts:List (Nat×V))(ck om:List (Option Nat)):C0 (b5I cx grp ty len parts ck om):=by
 unfold b5I;cases cx.T ty with
 |none=>exact .no
 |some ti=>
  simp only;cases ti.sl with
  |none=>exact .no
  |some e=>
   simp only;cases cx.T e with
   |none=>exact .no
   |some ei=>
    simp only;split
    ·split
     ·exact .bind (b01 _ _ _) λf=>.ite (.pure _) .no
     ·exact .no
    ·exact .ite (.pure _) .no
    ·exact .no
def e8l(cx:Cx)(grp ty:Nat)(s x:V):C0 (b3l cx grp ty s x):=by
 unfold b3l;cases cx.T ty with
 |none=>exact .no
 |some ti=>
  simp only;cases ti.sl with
  |none=>exact .no
  |some e=>
   simp only;cases cx.T e with
   |none=>exact .no
   |some ei=>
    simp only;split
    ·refine .bind (.rd _ _) λe2 => ?_
     split
     ·refine .ite ?_ .no;split
      ·exact .pure _
      ·refine .bind (.rd _ _) λe1 => ?_
       split
       ·exact .ite (.pure _) .no
       ·exact .no
      ·exact .no
     ·exact .no
    ·exact .no
def e7o(cx:Cx)(ty:Nat)(x ix:V):C0 (b5h cx ty x ix):=by
 unfold b5h;cases cx.M ty with
 |none=>exact .no
 |some q=>
  obtain⟨kt,m,z⟩:=q;cases x<;>try exact C0.no
  cases ix<;>try exact C0.no
  rename_i g j ks;simp only;cases a3H ks with
  |none=>exact .no
  |some xs=>
   refine .bind (.rd g j) λe => ?_
   cases e<;>try exact C0.no
   exact .ite (.pure _) .no
def f0I(cx:Cx)(ty:Nat)(x ix y:V):C0 (b3s cx ty x ix y):=by
 unfold b3s;cases cx.M ty with
 |none=>exact .no
 |some q=>
  obtain⟨kt,m,z⟩:=q;cases x<;>try exact C0.no
  cases ix<;>try exact C0.no
  rename_i g j ks;simp only;cases a3H ks with
  |none=>exact .no
  |some xs=>
   refine .bind (.rd g j) λe => ?_
   cases e<;>try exact C0.no
   exact .ite (.pure _) .no
def e0W(cx:Cx)(grp:Nat)(ob:Oper)(t:List V)(A:U8):C0 (opM cx grp ob t A):=by
 unfold opM;cases ob.op<;>try exact C0.lift _
 case buildSlice ty len parts=>cases A<;>first|exact g0I _ _ _ _ _ _ _|exact f9x _ _ _ _ _ _
 case makeSlice ty l c=>cases A<;>first|exact f8e _ _ _ _ _ _ _|exact C0.lift _
 case load ty x=>cases A<;>first|exact f3x _ _ _ _ _|exact f9Y _ _ _ _ _|exact f8j _ _ _ _|exact f5C _ _ _ _
 case store ty x y=>
  cases ob.dst
  ·cases A<;>first|exact d54 _ _ _ _ _ _ _|exact e5L _ _ _ _ _ _ _|exact e6w _ _ _ _ _
  ·exact .no
 case makeMap ty r=>cases r<;>exact C0.lift _
 case lookup ty x ix ok=>cases ok<;>first|exact e7o _ _ _ _|exact C0.lift _
 case mapUpdate ty x ix y=>
  cases ob.dst
  ·exact f0I _ _ _ _ _
  ·exact .no
 case call c=>
  obtain⟨callee,args,tys⟩:=c;simp only;split
  ·refine .ite ?_ .no;cases A<;>first|exact e8l _ _ _ _ _|exact f4c _ _ _ _ _ _
  ·exact f7S _ _ _ _
  ·cases z6 t _<;>first|exact f1d _ _ _ _ _|exact C0.no
  ·exact .lift _
def f8o(cx:Cx)(grp:Nat)(ob:Oper)(t:List V)(A:Q5):C0 (b12 cx grp ob t A):=.bind (e0W _ _ _ _ _) λo=>.lift _
def d6a{t t':List V}:∀{xs:List Operand},(∀x∈xs,z6 t' x=z6 t x)->xs.map (z6 t')=xs.map (z6 t)
 | [],_=>rfl
 |x::xs,h=>by simp only[g1v];rw[h x (by simp),d6a λy hy=>h y (by simp[hy])]
def c5J{t t':List V}:∀{ps:List (Nat×Operand)},(∀x∈ps.map (·.2),z6 t' x=z6 t x)->(ps.map λ(i,x)=>(i,z6 t' x))=(ps.map λ(i,x)=>(i,z6 t x))
 | [],_=>rfl
 |p::ps,h=>by
  simp only[g1v];rw[h p.2 (by simp),c5J λy hy=>h y (by simp[hy])]
def d0a{t t':List V}{o:Option Operand}(h:∀x∈o.toList,z6 t' x=z6 t x):o.map (z6 t')=o.map (z6 t):=by
 cases o with
 |none=>rfl
 |some x=>simp only[g2c];rw[h x (by simp)]
def e46{cx:Cx}{op:Op}{t t':List V}{A:U8}(h:∀x∈op.operands.toList,z6 t' x=z6 t x):X8 cx op t' A=X8 cx op t A:=by
 cases op<;>try rfl
 case makeFunc fn first captured=>cases fn<;>rfl
 case move x=>simp only[X8];rw[h x (by simp[Op.operands])]
 case assign x=>simp only[X8];rw[h x (by simp[Op.operands])]
 case pick c x y=>simp only[X8];rw[h c (by simp[Op.operands]),h x (by simp[Op.operands]),h y (by simp[Op.operands])]
 case nilCheck x=>simp only[X8];rw[h x (by simp[Op.operands])]
 case binOp o ty x y ty'=>simp only[X8];rw[h x (by simp[Op.operands]),h y (by simp[Op.operands])]
 case unOp o ty x=>simp only[X8];rw[h x (by simp[Op.operands])]
 case convert s d x=>simp only[X8];rw[h x (by simp[Op.operands])]
 case extract x k=>simp only[X8];rw[h x (by simp[Op.operands])]
 case field ty x f=>simp only[X8];rw[h x (by simp[Op.operands])]
 case fieldAddr ty x f=>simp only[X8];rw[h x (by simp[Op.operands])]
 case build ty parts=>simp only[X8];rw[c5J (by simpa[Op.operands]using h)]
 case indexAddr ty x y=>simp only[X8];rw[h x (by simp[Op.operands]),h y (by simp[Op.operands])]
 case index ty x y=>simp only[X8];rw[h x (by simp[Op.operands]),h y (by simp[Op.operands])]
 case slice ty x lo hi mx=>
  cases mx with
  |some m=>rfl
  |none=>
   simp only[X8];rw[h x (by simp[Op.operands]),d0a (o:=lo) (λy hy=>h y (by simp[Op.operands]at hy⊢;simp[hy])),d0a (o:=hi) (λy hy=>h y (by simp[Op.operands]at hy⊢;simp[hy]))]
 case call c=>
  obtain⟨callee,args,tys⟩:=c;simp only[X8];cases callee with
  |value x=>rfl
  |invoke x m=>rfl
  |builtin b=>
   have ha:∀x∈args.toList,z6 t' x=z6 t x:=λx hx=>h x (by simpa[Op.operands,Call.operands]using hx)
   cases b<;>try rfl
   all_goals
    generalize args.toList=al at ha;generalize tys.toList=tl;rcases al with _|⟨s,_|⟨x,_|⟨y,al⟩⟩⟩<;>rcases tl with _|⟨ty,_|⟨ty',tl⟩⟩<;>try rfl
    all_goals simp only[ha s (by simp)]
    all_goals try simp only[ha x (by simp)]
def e9i{cx:Cx}{grp:Nat}{ob:Oper}{t t':List V}{A:U8}(h:∀x∈ob.op.operands.toList,z6 t' x=z6 t x):opM cx grp ob t' A=opM cx grp ob t A:=by
 have hp:=e46 (cx:=cx) (A:=A) h;unfold opM;cases ho:ob.op<;>rw[ho]at h hp<;>simp only[hp]
 case box e x=>rw[h x (by simp[Op.operands])]
 case buildSlice ty len parts=>rw[c5J (by simpa[Op.operands]using h)]
 case makeSlice ty l c=>rw[h l (by simp[Op.operands]),h c (by simp[Op.operands])]
 case load ty x=>rw[h x (by simp[Op.operands])]
 case store ty x y=>rw[h x (by simp[Op.operands]),h y (by simp[Op.operands])]
 case makeMap ty r=>cases r<;>simp only[hp]
 case lookup ty x ix ok=>
  have h1:=h x (by simp[Op.operands]);have h2:=h ix (by simp[Op.operands]);cases ok<;>simp only[hp,h1,h2]
 case mapUpdate ty x ix y=>rw[h x (by simp[Op.operands]),h ix (by simp[Op.operands]),h y (by simp[Op.operands])]
 case call c=>
  obtain⟨callee,args,tys⟩:=c;cases callee with
  |invoke x m=>rfl
  |value fop=>
   have h1:z6 t' fop=z6 t fop:=h fop (by simp[Op.operands,Call.operands]);have h2:args.toList.map (z6 t')=args.toList.map (z6 t):=d6a λx hx=>h x (by simp[Op.operands,Call.operands]at hx⊢;simp[hx])
   simp only[h1,h2]
  |builtin b=>
   have ha:∀x∈args.toList,z6 t' x=z6 t x:=λx hx=>h x (by simpa[Op.operands,Call.operands]using hx)
   cases b<;>try rfl
   all_goals
    generalize args.toList=al at ha;generalize tys.toList=tl;rcases al with _|⟨s,_|⟨x,_|⟨y,al⟩⟩⟩<;>rcases tl with _|⟨ty,_|⟨ty',_|⟨ty3,tl⟩⟩⟩<;>try rfl
    all_goals simp only[ha s (by simp),ha x (by simp)]
def d6w{t:List V}{dst:Option Nat}{v:V}{x:Operand}(h:∀d,dst=U d->x ≠ .tmp d):z6 (Z3 t dst v) x=z6 t x:=by
 cases dst with
 |none=>rfl
 |some d=>
  cases x with
  |tmp k=>
   have:d≠k:=λq=>h d rfl (by rw[q])
   simp[z6,Z3,g1k this]
  |_=>rfl
def f0E{S:St}{g j g' j':Nat}{e e':x8}(h:¬(g=g'/\j=j')):(S.setE g j e).setE g' j' e'=(S.setE g' j' e').setE g j e:=by
 by_cases q:g=g'
 ·subst q;have hj:j≠j':=λz=>h ⟨rfl,z⟩
  cases hx:S.h[g]? with
  |none=>unfold St.setE;simp[hx]
  |some o=>cases o with
   |none=>unfold St.setE;simp[hx]
   |some l=>
    have hlt:=(g06.1 hx).1;rw[a4s hx,a4s hx,a4s (l:=l.set j e) (by simp[hlt]),a4s (l:=l.set j' e') (by simp[hlt])];simp only[List.set_set];rw[List.set_comm _ _ hj]
 ·unfold St.setE;cases hx:S.h[g]? with
  |none=>
   cases hy:S.h[g']? with
   |none=>simp[hx,hy]
   |some o=>cases o with
    |none=>simp[hx,hy]
    |some l=>simp[hx,hy,g1k (Ne.symm q)]
  |some o=>cases o with
   |none=>
    cases hy:S.h[g']? with
    |none=>simp[hx,hy]
    |some o=>cases o with
     |none=>simp[hx,hy]
     |some l=>simp[hx,hy,g1k (Ne.symm q)]
   |some l=>
    cases hy:S.h[g']? with
    |none=>simp[hx,hy,g1k q]
    |some o=>cases o with
     |none=>simp[hx,hy,g1k q]
     |some l'=>simp[hx,hy,g1k q,g1k (Ne.symm q),List.set_comm _ _ q]
def d04{g j:Nat}{e:x8}:∀{us:List U0} {S:St},(∀u∈us,¬(g=u.1.1/\j=u.1.2))->(S.setE g j e).upds us=(S.upds us).setE g j e
 | [],_,_=>rfl
 | ((g',j'),e')::us,S,h=>by
  simp only[St.upds];rw[f0E (h ((g',j'),e') (by simp)),d04 λu hu=>h u (by simp[hu])]
def b4g:∀{us vs:List U0} {S:St},(∀u∈us,∀v∈vs,u.1≠v.1)->(S.upds us).upds vs=(S.upds vs).upds us
 | [],_,_,_=>rfl
 | ((g,j),e)::us,vs,S,h=>by
  simp only[St.upds];rw[b4g λu hu=>h u (by simp[hu]),d04 λv hv q=>h ((g,j),e) (by simp) v hv (Prod.ext q.1 q.2)]
def f1m{S:St}{g g':Nat}{n n':List x8}(h:g≠g'):(S.lay g n).lay g' n'=(S.lay g' n').lay g n:=by
 simp[St.lay,List.set_comm _ _ h]
def f6T{t:List V}{d d':Option Nat}{v v':V}(h:∀k,d=U k->d'≠U k):Z3 (Z3 t d v) d' v'=Z3 (Z3 t d' v') d v:=by
 cases d with
 |none=>rfl
 |some k=>cases d' with
  |none=>rfl
  |some k'=>
   have:k≠k':=λq=>h k rfl (by rw[q])
   simp[Z3,List.set_comm _ _ this]
def a5K(S:St)(t:List V):St:={S with t:=t}
def hp(S:St)(grp:Nat)(o:E0):St:=match o.new with
 |none=>S.upds o.upd
 |some new=>(S.upds o.upd).lay grp new
def c4r(S:St)(grp:Nat)(dst:Option Nat)(o:E0):S.apply grp dst o=a5K (hp S grp o) (Z3 S.t dst o.v):=by
 unfold St.apply hp a5K;cases o.new with
 |none=>simp only[St.upds_t]
 |some new=>simp only[St.lay,St.upds_t]
def e2f(S:St)(t:List V)(g j:Nat)(e:x8):(a5K S t).setE g j e=a5K (S.setE g j e) t:=by
 unfold a5K St.setE;simp only;split<;>rfl
def c3o(t:List V):∀(us:List U0) (S:St),(a5K S t).upds us=a5K (S.upds us) t
 | [],_=>rfl
 | ((g,j),e)::us,S=>by simp only[St.upds];rw[e2f,c3o]
def e9B(S:St)(t:List V)(grp:Nat)(o:E0):hp (a5K S t) grp o=a5K (hp S grp o) t:=by
 unfold hp;cases o.new with
 |none=>simp only[c3o]
 |some new=>simp only[c3o];rfl
def e2k{S:St}{g g':Nat}{o o':E0}(hg:g≠g')(h1:∀u∈o.upd,∀v∈o'.upd,u.1≠v.1)(h2:∀u∈o.upd,u.1.1≠g')(h3:∀u∈o'.upd,u.1.1≠g):hp (hp S g o) g' o'=hp (hp S g' o') g o:=by
 unfold hp;cases o.new with
 |none=>cases o'.new with
  |none=>simp only;exact b4g h1
  |some n'=>simp only;rw[<-b0V o.upd _ h2,b4g h1]
 |some n=>cases o'.new with
  |none=>simp only;rw[<-b0V o'.upd _ h3,b4g h1]
  |some n'=>
   simp only;rw[<-b0V o'.upd _ h3,<-b0V o.upd _ h2,b4g h1,f1m hg]
def f5A{S:St}{grp:Nat}{o:E0}{g j:Nat}(h1:g≠grp)(h2:∀u∈o.upd,u.1≠(g,j)):(hp S grp o).ent g j=S.ent g j:=by
 have:(S.upds o.upd).ent g j=S.ent g j:=by
  refine c0A ?_;unfold b1B;rw[g05];intro u hu;have:=h2 u hu;simp only[g1D,g2v,beq_eq_false_iff_ne];by_cases q:g=u.1.1
  ·right
   intro z;exact this (Prod.ext q.symm z.symm)
  ·exact .inl q
 unfold hp;cases o.new with
 |none=>exact this
 |some new=>simp only;rw[a82 h1];exact this
section
variable {cx:Cx} {ops:Array Oper} {base:Nat} {A:Nat->Q5}
def d3x{i:Nat}{S S':St}{ps:List Prop}{ft:a1c}(h:a1r cx ops base A i S=U (S',ps,ft)):∃o out,ops[i]?=U o/\S'=S.apply (base+i) o.dst out/\ft.wr=out.upd.map (·.1)/\
  ∀T:St,(∀x∈o.op.operands.toList,z6 T.t x=z6 S.t x)->a7o ops o T.t=a7o ops o S.t->(∀id∈ft.rd,T.ent id.1 id.2=S.ent id.1 id.2)->a1r cx ops base A i T=U (T.apply (base+i) o.dst out,ps,ft):=by
 unfold a1r at h;split at h<;>try (cases h;done)
 rename_i o ho;split at h<;>try (cases h;done)
 ·rename_i hw;split at h<;>try (cases h;done)
  rename_i out lg hop;injection h with h;injection h with h1 h2;injection h2 with h2 h3;subst h1;subst h2;subst h3;refine⟨o,out,ho,rfl,rfl,?_⟩;intro T hx hwT hent;have hst:b12 cx (base+i) o T.t (A i)=b12 cx (base+i) o S.t (A i):=by
   unfold b12;rw[e9i hx]
  have:=f8o cx (base+i) o S.t (A i) S.ent T.ent out lg hop hent;unfold a1r;rw[ho];simp only[hwT,hw,hst,this]
 ·rename_i hw;injection h with h;injection h with h1 h2;injection h2 with h2 h3;subst h1;subst h2;subst h3;refine⟨o,{v:=.tup []},ho,rfl,rfl,?_⟩;intro T hx hwT hent;unfold a1r;rw[ho];simp only[hwT,hw];rfl
structure Ind(ops:Array Oper)(base:Nat)(x i:Nat)(f1 f2:a1c):Prop where
 ne:x≠i
 apart:∀o1 o2,ops[x]?=U o1->ops[i]?=U o2->o1.apart ops o2=Y
 w1:∀id∈f1.wr,id ∉ f2.rd/\id ∉ f2.wr
 w2:∀id∈f2.wr,id ∉ f1.rd
 g1:∀id∈f2.rd++f2.wr,id.1≠base+x
 g2:∀id∈f1.rd++f1.wr,id.1≠base+i
def d4A{o:Oper}{x:Operand}(hx:x∈o.op.operands.toList){d:Nat}(hd:d ∉ o.looksAt ops):x ≠ .tmp d:=by
 intro q;subst q;apply hd;unfold Oper.looksAt;exact g0Z.2 (.inl (List.mem_filterMap.2 ⟨_,hx,rfl⟩))
def c94{o:Oper}{t:List V}{dst:Option Nat}{v:V}(hd:∀d,dst=U d->d ∉ o.looksAt ops):a7o ops o (Z3 t dst v)=a7o ops o t:=by
 unfold a7o;split
 ·rfl
 ·rename_i j want hg;cases hj:(ops[j]?).bind (·.dst)with
  |none=>rfl
  |some d=>
   simp only;cases dst with
   |none=>rfl
   |some k=>
    have hk:k≠d:=by
     intro q;subst q;apply hd k rfl;unfold Oper.looksAt;rw[hg];exact g0Z.2 (.inr (by simp[hj]))
    simp only[Z3,g1k hk]
def b7F{S:St}{grp:Nat}{dst:Option Nat}{o:E0}:(S.apply grp dst o).t=Z3 S.t dst o.v:=by rw[c4r];rfl
def d2P{S:St}{grp:Nat}{dst:Option Nat}{o:E0}{g j:Nat}(h1:g≠grp)(h2:(g,j) ∉ o.upd.map (·.1)):(S.apply grp dst o).ent g j=S.ent g j:=by
 rw[c4r];show(hp S grp o).ent g j=_
 exact f5A h1 λu hu q=>h2 (g1m.2 ⟨u,hu,q⟩)
def f06{x i:Nat}{S S1 S2:St}{p1 p2:List Prop}{f1 f2:a1c}(hx:a1r cx ops base A x S=U (S1,p1,f1))(hi:a1r cx ops base A i S1=U (S2,p2,f2))(h:Ind ops base x i f1 f2) :
  ∃S1',a1r cx ops base A i S=U (S1',p2,f2)/\a1r cx ops base A x S1'=U (S2,p1,f1):=by
 obtain⟨o1,out1,ho1,rfl,hw1,hr1⟩:=d3x hx;obtain⟨o2,out2,ho2,rfl,hw2,hr2⟩:=d3x hi;obtain⟨a1,a2,a3⟩:=Oper.apart_spec (h.apart o1 o2 ho1 ho2);have e1:=hr2 S (λz hz=>by rw[b7F,d6w λd hd=>d4A (ops:=ops) hz (a1 d hd)]) (by rw[b7F,c94 a1]) (λid hid=>by
  refine(d2P (h.g1 id (g0Z.2 (.inl hid))) ?_).symm;rw[<-hw1];exact λq=>(h.w1 id q).1 hid)
 refine⟨_,e1,?_⟩;have e2:=hr1 (S.apply (base+i) o2.dst out2) (λz hz=>by rw[b7F,d6w λd hd=>d4A (ops:=ops) hz (a3 d hd)]) (by rw[b7F,c94 a3]) (λid hid=>by
  refine d2P (h.g2 id (g0Z.2 (.inl hid))) ?_;rw[<-hw2];exact λq=>h.w2 id q hid)
 rw[e2];congr 2
 simp only[c4r,e9B];have hh:hp (hp S (base+x) out1) (base+i) out2=hp (hp S (base+i) out2) (base+x) out1:=by
  refine e2k (λq=>h.ne (by omega)) ?_ ?_ ?_
  ·intro u hu v hv q;have m1:u.1∈f1.wr:=by rw[hw1];exact g1m.2 ⟨u,hu,rfl⟩
   have m2:v.1∈f2.wr:=by rw[hw2];exact g1m.2 ⟨v,hv,rfl⟩
   exact(h.w1 _ m1).2 (q▸m2)
  ·intro u hu;exact h.g2 _ (g0Z.2 (.inr (by rw[hw1];exact g1m.2 ⟨u,hu,rfl⟩)))
  ·intro u hu;exact h.g1 _ (g0Z.2 (.inr (by rw[hw2];exact g1m.2 ⟨u,hu,rfl⟩)))
 rw[hh];unfold a5K;simp only;rw[f6T (λk hk q=>a2 k hk q)]
abbrev Rc:=Nat->List Prop×a1c
def d6p{rc:Rc}{i:Nat}:∀{l m:List Nat} {S S':St},(∀x∈l,Ind ops base x i (rc x).2 (rc i).2)->a2q cx ops base A (l++i::m) S=U (S',(l++i::m).map rc)->a2q cx ops base A (i::(l++m)) S=U (S',(i::(l++m)).map rc)
 | [],m,S,S',_,h=>h
 |x::l,m,S,S',hind,h=>by
  obtain⟨S1,r,rs,h1,h2,h3⟩:=b47 h;simp only[g17,g1v]at h3;injection h3 with h3 h4;subst h3;subst h4;have h5:=d6p (λy hy=>hind y (by simp[hy])) h2;obtain⟨S2,r2,rs2,h6,h7,h8⟩:=b47 h5;simp only[g1v]at h8;injection h8 with h8 h9;subst h8;subst h9;obtain⟨S1',e1,e2⟩:=f06 (p1:=(rc x).1) (f1:=(rc x).2) (p2:=(rc i).1) (f2:=(rc i).2) h1 h6 (hind x (by simp));have e2':a1r cx ops base A x S1'=U (S2,rc x):=e2;have e1':a1r cx ops base A i S=U (S1',rc i):=e1;simp only[g17,a2q,e1',e2',h7,g1v]
end
def a4A(ops:Array Oper)(i:Nat):List Nat:=
 match ops[i]? with
 |some o=>(o.after.toList.filter (Region.binds .any)).map (·.on)
 |none=>[]
def a5i(ops:Array Oper):Nat->List (List Nat)
 | 0=>[]
 |k+1=>let L:=a5i ops k;L++[(a4A ops k).flatMap λe=>e::L.getD e []]
def a93(ops:Array Oper)(i:Nat):List Nat:=(a5i ops (i+1)).getD i []
def b0C(ops:Array Oper):∀k,(a5i ops k).length=k
 | 0=>rfl
 |k+1=>by simp[a5i,b0C ops k]
def c4X(ops:Array Oper)(i:Nat):∀k,i<k->(a5i ops k).getD i []=a93 ops i
 |k+1,h=>by
  by_cases q:i=k
  ·subst q;rfl
  ·have:i<k:=by omega
   rw[<-c4X ops i k this];simp only[a5i,g1f];rw[g1o (by rw[b0C];exact this)]
def f2h(ops:Array Oper)(i:Nat):a93 ops i=(a4A ops i).flatMap λe=>e::(a5i ops i).getD e []:=by
 unfold a93;simp only[a5i,g1f];rw[g1j (by rw[b0C];omega),b0C];simp
def c9I{ops:Array Oper}{a1o:Array Bool}{i:Nat}(h:i∈Region.ready .any ops a1o):i<ops.size/\a1o.getD i Y=W/\∀e∈a4A ops i,a1o.getD e W=Y:=by
 unfold Region.ready at h;obtain⟨h1,h2⟩:=g12.1 h;have hlt:=g1X.1 h1;simp only[g02,g1D]at h2;refine⟨hlt,h2.1,?_⟩;intro e he;unfold a4A at he;rw[Array.getElem?_eq_getElem hlt]at he h2;simp only[g1m,g12]at he;obtain⟨ed,⟨hm,hb⟩,rfl⟩:=he;have:=h2.2;simp only[g2c,g13,Array.all_eq_true_iff_forall_mem]at this;have:=this ed (by simpa using hm);simpa[hb]using this
def f1k{ops:Array Oper}{a1o:Array Bool}{i:Nat}(hlt:i<ops.size)(hl:a1o.getD i Y=W)(he:∀e∈a4A ops i,a1o.getD e W=Y):i∈Region.ready .any ops a1o:=by
 unfold Region.ready;refine g12.2 ⟨g1X.2 hlt,?_⟩;rw[Array.getElem?_eq_getElem hlt];simp only[hl,g1y,g2c,g13,g1h,Array.all_eq_true_iff_forall_mem];intro ed hm;by_cases hb:Region.binds .any ed=Y
 ·have:ed.on∈a4A ops i:=by
   unfold a4A;rw[Array.getElem?_eq_getElem hlt];exact g1m.2 ⟨ed,g12.2 ⟨by simpa using hm,hb⟩,rfl⟩
  simp[he _ this]
 ·simp[hb]
section
variable {cx:Cx} {J:U2} {ops:Array Oper} {base:Nat} {A:Nat->Q5} {Q:Exit->Act->World->Prop} {S':St} {rc:Rc}
def f6H(e0a:∀i,i<ops.size->∀e∈a4A ops i,e<i)(hind:∀x i,x<i->i<ops.size->x ∉ a93 ops i->Ind ops base x i (rc x).2 (rc i).2)(hob:∀i,i<ops.size->∀p∈(rc i).1,p)(hQ:∀a' w' F' ι',A2 J F' ι' S' a' w'->Q .normal a' w'):∀(fuel:Nat) (R:List Nat) (a1o:Array Bool) (S:St) (F:Nat->Prop) (G:Nat->Nat->Value) (a:Act) (w:World),
  (O R)=fuel->a1o.size=ops.size->R.Pairwise (· < ·)->(∀i,i<ops.size->(a1o.getD i Y=W↔i∈R))->(∀i∈R,i<ops.size)->(∀i,i<ops.size->i ∉ R->∀x∈a93 ops i,x ∉ R)->
  A2 J F G S a w->(∀i∈R,base+i<(O S.h)/\¬S.D (base+i))->a2q cx ops base A R S=U (S',R.map rc)->wpAny cx.P .any ops Q fuel a1o a w:=by
 intro fuel;induction fuel with
 |zero=>
  intro R a1o S F G a w hR hsz hpw hlist hlt hdown hrel hfree hrun;have:R=[]:=g1c hR;subst this;unfold a2q at hrun;injection hrun with hrun;injection hrun with h1 h2;subst h1;refine⟨?_,hQ _ _ _ _ hrel⟩;rw[List.eq_nil_iff_forall_not_mem];intro i hi;obtain⟨h1,h2,_⟩:=c9I hi;have:=(hlist i h1).1 h2;simp at this
 |succ fuel ih=>
  intro R a1o S F G a w hR hsz hpw hlist hlt hdown hrel hfree hrun;refine⟨λf05 => ?_,λi hi => ?_⟩
  ·exfalso
   cases R with
   |nil=>simp at hR
   |cons r R=>
    have hr:=hlt r (by simp);have hrd:r∈Region.ready .any ops a1o:=by
     refine f1k hr ((hlist r hr).2 (by simp)) ?_;intro e he;have hlt':=e0a r hr e he;have hen:e ∉ r::R:=by
      intro q;rcases g1a.1 q with q|q
      ·omega
      ·have:=(g2f.1 hpw).1 e q;omega
     have:=mt (hlist e (by omega)).1 hen;have hes:e<a1o.size:=by omega
     simp only[Array.getD_eq_getD_getElem?,Array.getElem?_eq_getElem hes,g13]at this⊢;simpa using this
    rw[f05]at hrd;simp at hrd
  ·obtain⟨hi1,hi2,hi3⟩:=c9I hi;have hiR:=(hlist i hi1).1 hi2;obtain⟨A1,B1,hAB⟩:=List.append_of_mem hiR;have hpw':=hpw;rw[hAB]at hpw';obtain⟨hpA,hpB,hpAB⟩:=g2B.1 hpw';have hcl:∀x∈a93 ops i,x ∉ R:=by
    intro x hx;rw[f2h]at hx;obtain⟨e,he,hx⟩:=List.mem_flatMap.1 hx;have hel:=e0a i hi1 e he;have heR:e ∉ R:=by
     intro q;have h1:=(hlist e (by omega)).2 q;have h2:=hi3 e he;have hes:e<a1o.size:=by omega
     simp only[Array.getD_eq_getD_getElem?,Array.getElem?_eq_getElem hes,g13]at h1 h2;rw[h1]at h2;cases h2
    rcases g1a.1 hx with rfl|hx
    ·exact heR
    ·rw[c4X ops e i hel]at hx;exact hdown e (by omega) heR x hx
   have hfront:=d6p (cx:=cx) (A:=A) (rc:=rc) (i:=i) (l:=A1) (m:=B1) (S:=S) (S':=S') (λx hx=>by
    have hxR:x∈R:=by rw[hAB];simp[hx]
    exact hind x i (hpAB x hx i (by simp)) hi1 (λq=>hcl x q hxR)) (by rw[<-hAB];exact hrun)
   obtain⟨S1,r,rs,h1,h2,h3⟩:=b47 hfront;simp only[g1v]at h3;injection h3 with h3 h4;subst h3;subst h4;obtain⟨hD,hl⟩:=d0N (ps:=(rc i).1) (ft:=(rc i).2) h1;refine c8L hrel (hfree i hiR).1 (hfree i hiR).2 (ps:=(rc i).1) (ft:=(rc i).2) h1 (hob i hi1) λa' w' F' ι' hrel' => ?_
   have hsub:∀j,j∈A1++B1↔(j∈R/\j≠i):=by
    intro j;rw[hAB];simp only[g0Z,g1a];constructor
    ·intro hj;refine⟨by rcases hj with q|q<;>simp[q],?_⟩;rintro rfl
     rcases hj with q|q
     ·have:=hpAB j q j (by simp);omega
     ·have:=(g2f.1 hpB).1 j q;omega
    ·rintro⟨q|rfl|q,hne⟩
     ·exact .inl q
     ·exact absurd rfl hne
     ·exact .inr q
   refine ih (A1++B1) _ S1 F' ι' a' w' ?_ (by simp[hsz]) ?_ ?_ ?_ ?_ hrel' ?_ h2
   ·rw[hAB]at hR;simp at hR⊢;omega
   ·refine g2B.2 ⟨hpA,(g2f.1 hpB).2,λx hx y hy=>hpAB x hx y (by simp[hy])⟩
   ·intro j hj;rw[hsub];have hjs:j<a1o.size:=by omega
    simp only[Array.getD_eq_getD_getElem?];by_cases q:j=i
    ·subst q;simp[hjs]
    ·rw[Array.getElem?_setIfInBounds_ne (Ne.symm q),<-hlist j hj,Array.getD_eq_getD_getElem?];simp[q]
   ·intro j hj;exact hlt j ((hsub j).1 hj).1
   ·intro j hj hjn x hx hxm;have hxR:=((hsub x).1 hxm).1;by_cases q:j=i
    ·subst q;exact hcl x hx hxR
    ·exact hdown j hj (λz=>hjn ((hsub j).2 ⟨z,q⟩)) x hx hxR
   ·intro j hj;have hjR:=((hsub j).1 hj)
    refine⟨by rw[hl];exact(hfree j hjR.1).1,λx => ?_⟩;rcases hD _ x with y|y
    ·exact(hfree j hjR.1).2 y
    ·exact hjR.2 (by omega)
end
def b7H(l:List Nat)(x:Nat):Bool:=l.any λy=>y==x
def e1Z{l:List Nat}{x:Nat}:b7H l x=Y↔x∈l:=by
 unfold b7H;rw[g2e];constructor
 ·rintro⟨y,hy,h⟩
  simp at h;exact h▸hy
 ·intro h;exact⟨x,h,by simp⟩
def dnN:List Nat->List Nat
 | []=>[]
 |x::xs=>if b7H (dnN xs) x then dnN xs else x::dnN xs
def c3D{x:Nat}:∀{l:List Nat},x∈dnN l->x∈l
 |y::l,h=>by
  unfold dnN at h;split at h
  ·exact g1a.2 (.inr (c3D h))
  ·rcases g1a.1 h with rfl|h
   ·simp
   ·exact g1a.2 (.inr (c3D h))
def b0v(ops:Array Oper):Nat->List (List Nat)
 | 0=>[]
 |k+1=>let L:=b0v ops k;L++[dnN ((a4A ops k).flatMap λe=>e::L.getD e [])]
def b9L(ops:Array Oper):∀k,(b0v ops k).length=k
 | 0=>rfl
 |k+1=>by simp[b0v,b9L ops k]
def c77(ops:Array Oper):∀k i,∀x∈(b0v ops k).getD i [],x∈(a5i ops k).getD i []
 | 0,i,x,h=>by simp[b0v]at h
 |k+1,i,x,h=>by
  simp only[b0v,a5i,g1f]at h⊢;by_cases q:i<k
  ·rw[g1o (by rw[b9L];exact q)]at h;rw[g1o (by rw[b0C];exact q)];have:=c77 ops k i x (by rw[g1f];exact h);rwa[g1f]at this
  ·rw[g1j (by rw[b9L];omega),b9L]at h;rw[g1j (by rw[b0C];omega),b0C];by_cases q':i=k
   ·subst q';simp only[Nat.sub_self,g14,g13]at h⊢;obtain⟨e,he,hx⟩:=List.mem_flatMap.1 (c3D h);refine List.mem_flatMap.2 ⟨e,he,?_⟩;rcases g1a.1 hx with rfl|hx
    ·simp
    ·have:=c77 ops i e x (by rw[g1f];exact hx);rw[g1f]at this;exact g1a.2 (.inr this)
   ·have:i-k=(i-k-1)+1:=by omega
    rw[this]at h;simp at h
def c4s(ops:Array Oper)(base x i:Nat)(f1 f2:a1c):Bool:=
  (match ops[x]?,ops[i]? with
   |some o1,U o2=>o1.apart ops o2
   |_,_=>W) &&
  f1.wr.all (λid => !a21 f2.rd id && !a21 f2.wr id)&&f2.wr.all (λid => !a21 f1.rd id) &&
  f2.rd.all (λid => !(id.1==base+x))&&f2.wr.all (λid => !(id.1==base+x)) &&
  f1.rd.all (λid => !(id.1==base+i))&&f1.wr.all (λid => !(id.1==base+i))
def b81{l:List (Nat×Nat)}{x:Nat×Nat}(h:(!a21 l x)=Y):x ∉ l:=by
 intro q;rw[a7J.2 q]at h;cases h
def e8t{ops:Array Oper}{base x i:Nat}{f1 f2:a1c}(hne:x<i)(h:c4s ops base x i f1 f2=Y):Ind ops base x i f1 f2:=by
 unfold c4s at h;simp only[g02]at h;obtain⟨⟨⟨⟨⟨⟨h1,h2⟩,h3⟩,h4⟩,h5⟩,h6⟩,h7⟩:=h;refine⟨by omega,?_,?_,?_,?_,?_⟩
 ·intro o1 o2 e1 e2;rw[e1,e2]at h1;exact h1
 ·intro id hid;have:=g05.1 h2 id hid;simp only[g02]at this;exact⟨b81 this.1,b81 this.2⟩
 ·intro id hid;exact b81 (g05.1 h3 id hid)
 ·intro id hid;rcases g0Z.1 hid with q|q
  ·have:=g05.1 h4 id q;simpa using this
  ·have:=g05.1 h5 id q;simpa using this
 ·intro id hid;rcases g0Z.1 hid with q|q
  ·have:=g05.1 h6 id q;simpa using this
  ·have:=g05.1 h7 id q;simpa using this
def c9H(ops:Array Oper)(base:Nat)(L:List (List Nat))(fs:List a1c):Bool:=
 (g09 ops.size).all λi=>
  (a4A ops i).all (λe=>Nat.blt e i) &&
  (g09 i).all λx=>b7H (L.getD i []) x||c4s ops base x i (fs.getD x ⟨[],[]⟩) (fs.getD i ⟨[],[]⟩)
def c6y(A:List (Nat×Q5))(i:Nat):Q5:=
 match A with
 | []=>{}
 | (j,x)::A=>if j==i then x else c6y A i
def c0P:List (List Prop×a1c)->List Prop
 | []=>[]
 |r::rs=>r.1++c0P rs
def d5U{rs:List (List Prop×a1c)}(h:∀p∈c0P rs,p):∀r∈rs,∀p∈r.1,p:=by
 induction rs with
 |nil=>intro r hr;cases hr
 |cons r rs ih=>
  intro r' hr p hp;rcases g1a.1 hr with rfl|hr
  ·exact h p (g0Z.2 (.inl hp))
  ·exact ih (λp hp=>h p (g0Z.2 (.inr hp))) r' hr p hp
def a5e:Nat->List (Option (List x8))
 | 0=>[]
 |n+1=>Z::a5e n
def d5Q:∀(n i:Nat) (l:List x8),(a5e n)[i]?≠U (U l)
 | 0,i,l=>by simp[a5e]
 |n+1,0,l=>by simp[a5e]
 |n+1,i+1,l=>by simpa[a5e]using d5Q n i l
def d6t:∀n,(a5e n).length=n
 | 0=>rfl
 |n+1=>by simp[a5e,d6t n]
def St.more(S:St)(n:Nat):St:={S with h:=S.h++a5e n}
def c2t{S:St}{n g:Nat}{l:List x8}:(S.more n).h[g]?=U (U l)↔S.h[g]?=U (U l):=by
 unfold St.more;simp only;by_cases q:g<(O S.h)
 ·rw[g1o q]
 ·rw[g1j (by omega)];constructor
  ·intro h;exact absurd h (d5Q _ _ _)
  ·intro h;have:=(g06.1 h).1;omega
def b2A{S:St}{n g:Nat}:(S.more n).D g↔S.D g:=by
 unfold St.D;constructor
 ·rintro⟨l,h⟩
  exact⟨l,c2t.1 h⟩
 ·rintro⟨l,h⟩
  exact⟨l,c2t.2 h⟩
def b4d{S:St}{n g j:Nat}:(S.more n).ent g j=S.ent g j:=by
 have key:∀e,(S.more n).ent g j=U e↔S.ent g j=U e:=by
  intro e;constructor
  ·intro h;obtain⟨l,hl⟩:=St.D_of_ent h;rw[a3p hl]at h;rw[a3p (c2t.1 hl)];exact h
  ·intro h;obtain⟨l,hl⟩:=St.D_of_ent h;rw[a3p hl]at h;rw[a3p (c2t.2 hl)];exact h
 cases h:S.ent g j with
 |some e=>exact(key e).2 h
 |none=>
  cases h':(S.more n).ent g j with
  |none=>rfl
  |some e=>rw[(key e).1 h']at h;cases h
def A2.more{J:U2}{F:Nat->Prop}{G:Nat->Nat->Value}{S:St}{a:Act}{w:World}(h:A2 J F G S a w)(n:Nat):A2 J F G (S.more n) a w:=
  { F0:=h.F0,F1:=h.F1,F2:=h.F2,kept:=h.kept
    tmps:=h.tmps.imp λ_ _ x=>x.mono (λ_ _ _=>rfl) (λ_ y=>y) (λg y=>b2A.2 y) (λ_ _ _=>rfl)
    ents:=λg j e he=>(h.ents g j e (b4d▸he)).mono (λ_ _ _=>rfl) (λ_ y=>y) (λg y=>b2A.2 y) (λ_ _ _=>rfl) (λ_ _ _=>rfl)
    sep:=λg j e k he=>h.sep g j e k (b4d▸he)
    inj:=λg j e g' j' e' k he he'=>h.inj g j e g' j' e' k (b4d▸he) (b4d▸he')
    defers:=h.defers
    pins:=λj c hc=>⟨b2A.2 (h.pins j c hc).1,(h.pins j c hc).2⟩}
def c3x(cx:Cx)(ops:Array Oper)(draw:Bool)(A:List (Nat×Q5))(S:St):Option (St×List Prop):=
 match a2q cx ops (O S.h) (c6y A) (g09 ops.size) (S.more ops.size)with
 |none=>Z
 |some (S',rs)=>if draw then if c9H ops (O S.h) (b0v ops ops.size) (rs.map (·.2))then U (S',c0P rs)else Z else U (S',c0P rs)
section
variable {cx:Cx} {J:U2} {F:Nat->Prop} {G:Nat->Nat->Value} {S S':St} {a:Act} {w:World} {ops:Array Oper} {A:List (Nat×Q5)}
def d8P{base:Nat}{B:Nat->Q5}:∀{l:List Nat} {S S':St} {rs:List (List Prop×a1c)},a2q cx ops base B l S=U (S',rs)->(O rs)=(O l)
 | [],S,S',rs,h=>by
  unfold a2q at h;injection h with h;injection h with h1 h2;subst h2;rfl
 |i::l,S,S',rs,h=>by
  obtain⟨S1,r,rs',h1,h2,rfl⟩:=b47 h;simp[d8P h2]
def f6g{C:Type}(d:C):∀{rs:List C} {n:Nat},(O rs)=n->rs=(g09 n).map λi=>rs.getD i d:=by
 intro rs n h;apply List.ext_getElem
 ·simp[h]
 ·intro i h1 h2;simp[g1f,h1]
def f7Z{draw:Bool}{id:Nat}{ps:List Prop}{Q:Exit->Act->World->Prop}(h:A2 J F G S a w)(hr:c3x cx ops draw A S=U (S',ps))(hob:∀p∈ps,p)(hQ:∀a' w' F' ι',A2 J F' ι' S' a' w'->Q .normal a' w'):(Code.region id ops draw).wp cx.P Q a w:=by
 unfold c3x at hr;split at hr<;>try (cases hr;done)
 rename_i S1 rs hrun;have hfree:∀i∈g09 ops.size,(O S.h)+i<(S.more ops.size).h.length/\¬(S.more ops.size).D ((O S.h)+i):=by
  intro i hi;refine⟨by simp[St.more,d6t,g1X.1 hi],λq => ?_⟩;obtain⟨l,hl⟩:=b2A.1 q;have:=(g06.1 hl).1;omega
 cases draw with
 |false=>
  simp only[g2d,if_false]at hr;injection hr with hr;injection hr with h1 h2;subst h1;subst h2;exact wp_region (d3t (h.more ops.size) List.nodup_range hfree hrun (d5U hob) hQ)
 |true=>
  simp only[if_true]at hr;split at hr<;>try (cases hr;done)
  rename_i hap;injection hr with hr;injection hr with h1 h2;subst h1;subst h2;have hw:A2 J F G (S.more ops.size) a {w with drawn:=w.drawn+1}:=(h.more ops.size).world ⟨rfl,rfl,rfl⟩ (g07 _) (λ_ _=>rfl);have hlen:=d8P hrun;rw[List.length_range]at hlen;have hrs:=f6g (([],⟨[],[]⟩):List Prop×a1c) hlen;unfold c9H at hap;rw[g05]at hap;have hap':∀i,i<ops.size->(∀e∈a4A ops i,e<i)/\∀x,x<i->x ∉ a93 ops i->Ind ops (O S.h) x i ((rs.getD x ([],⟨[],[]⟩)).2) ((rs.getD i ([],⟨[],[]⟩)).2):=by
   intro i hi;have:=hap i (g1X.2 hi);simp only[g02]at this;refine⟨λe he => ?_,λx hx hc => ?_⟩
   ·have:=g05.1 this.1 e he;rwa[Nat.blt_eq]at this
   ·have h2:=g05.1 this.2 x (g1X.2 hx);rcases Bool.or_eq_true_iff.1 h2 with q|q
    ·exfalso
     apply hc;have:=c77 ops ops.size i x (e1Z.1 q);rwa[c4X ops i ops.size hi]at this
    ·have:=e8t hx q;have hm:∀j,j<(O rs)->(rs.map (·.2)).getD j ⟨[],[]⟩=(rs.getD j ([],⟨[],[]⟩)).2:=by
      intro j hj;simp[g1f,hj]
     rw[hm x (by omega),hm i (by omega)]at this;exact this
  refine wp_region_any cx.mixed ?_;have hrange:∀i,i<ops.size->rs.getD i ([],⟨[],[]⟩)∈rs:=by
   intro i hi;have:i<(O rs):=by omega
   simp[g1f,this]
  refine f6H (rc:=λi=>rs.getD i ([],⟨[],[]⟩)) (base:=(O S.h)) (A:=c6y A) (λi hi=>(hap' i hi).1) (λx i hx hi hc=>(hap' i hi).2 x hx hc) (λi hi p hp=>d5U hob _ (hrange i hi) p hp) hQ
   ops.size (g09 ops.size) _ _ F G a _ (by simp) (by simp) ?_ ?_ ?_ ?_ hw hfree ?_
  ·exact List.pairwise_lt_range
  ·intro i hi;simp[g1X,hi,Array.getD_eq_getD_getElem?]
  ·intro i hi;exact g1X.1 hi
  ·intro i hi hn;exact absurd (g1X.2 hi) hn
  ·rw[<-hrs];exact hrun
end
def mvM(t:List V):List Item->Option (List Item)
 | .code .skip::k=>U k
 | .inBlock _::k=>U k
 | .code (.seq x y)::k=>U (.code x :: .code y::k)
 | .code (.cond c x y)::k=>match z6 t c with
  | .b Y=>U (.code x::k)
  | .b W=>U (.code y::k)
  |_=>Z
 | .code (.block id c)::k=>U (.code c :: .inBlock id::k)
 | .code (.loop c)::k=>U (.code c :: .inLoop c::k)
 | .inLoop c::k=>U (.code c :: .inLoop c::k)
 | .code (.exit id)::k=>exitTo id k
 |_=>Z
abbrev Z1:=List (List (Nat×Q5))
def goM(cx:Cx):Nat->List Item->St->Z1->Option (List Item×St×List Prop)
 | 0,_,_,_=>Z
 |n+1,k,S,sc=>
  match k with
  | .code (.region id ops draw)::k'=>match sc with
   | []=>U (k,S,[])
   |A::sc'=>match c3x cx ops draw A S with
    |some (S1,ps)=>match goM cx n k' S1 sc' with
     |some (k2,S2,qs)=>U (k2,S2,ps++qs)
     |none=>Z
    |none=>Z
  |k=>match mvM S.t k with
   |some k1=>goM cx n k1 S sc
   |none=>match sc with
    | []=>U (k,S,[])
    |_::_=>Z
section
variable {cx:Cx} {J:U2} {F:Nat->Prop} {G:Nat->Nat->Value} {S S':St} {a:Act} {w:World} {b:Frame} {cs:List Frame} {k k':List Item}
def e7v(h:A2 J F G S a w)(hm:mvM S.t k=U k'):step cx.P (lone (b.at a k) cs w)=.next (lone (b.at a k') cs w):=by
 unfold mvM at hm;split at hm
 ·injection hm with hm;subst hm;exact step_skip
 ·injection hm with hm;subst hm;exact step_inBlock
 ·injection hm with hm;subst hm;exact step_seq
 ·rename_i c x y k0;have hc:=H6 h.tmps c;split at hm<;>try (cases hm;done)
  ·rename_i hx;injection hm with hm;subst hm;rw[hx]at hc;have:=step_cond (P:=cx.P) (b:=b) (k:=k0) (cs:=cs) (w:=w) (x:=x) (y:=y) hc.inv_b;simpa using this
  ·rename_i hx;injection hm with hm;subst hm;rw[hx]at hc;have:=step_cond (P:=cx.P) (b:=b) (k:=k0) (cs:=cs) (w:=w) (x:=x) (y:=y) hc.inv_b;simpa using this
 ·injection hm with hm;subst hm;exact step_block
 ·injection hm with hm;subst hm;exact step_loop
 ·injection hm with hm;subst hm;exact step_inLoop
 ·exact step_exit hm
 ·cases hm
def f6t:∀{n:Nat} {k:List Item} {S:St} {F:Nat->Prop} {G:Nat->Nat->Value} {a:Act} {w:World} {sc:Z1} {ps:List Prop},A2 J F G S a w->goM cx n k S sc=U (k',S',ps)->(∀p∈ps,p)->
  ∃a' w' F' ι',Steps cx.P (lone (b.at a k) cs w) (lone (b.at a' k') cs w')/\A2 J F' ι' S' a' w':=by
 intro n;induction n with
 |zero=>intro k S F G a w sc ps h hg hob;cases hg
 |succ n ih=>
  intro k S F G a w sc ps h hg hob;unfold goM at hg;split at hg
  ·rename_i id ops draw k0;split at hg
   ·injection hg with hg;injection hg with h1 h2;injection h2 with h2 h3;subst h1;subst h2;exact⟨a,w,F,G,.refl _ _,h⟩
   ·rename_i A sc';split at hg<;>try (cases hg;done)
    rename_i S1 qs hr;split at hg<;>try (cases hg;done)
    rename_i k2 S2 rs hg2;injection hg with hg;injection hg with h1 h2;injection h2 with h2 h3;subst h1;subst h2;subst h3;have hwp:=f7Z (cx:=cx) (draw:=draw) (id:=id) (Q:=λe a' w'=>e=.normal/\∃F' ι',A2 J F' ι' S1 a' w') h hr (λp hp=>hob p (g0Z.2 (.inl hp)))
     (λa' w' F' ι' hrel=>⟨rfl,F',ι',hrel⟩)
    obtain⟨e,a1,w1,⟨he,F1,ι1,h1⟩,harr⟩:=hwp b k0 cs;subst he;obtain⟨a2,w2,F2,ι2,hs,h2⟩:=ih h1 hg2 (λp hp=>hob p (g0Z.2 (.inr hp)));exact⟨a2,w2,F2,ι2,Steps.trans harr hs,h2⟩
  ·split at hg
   ·rename_i k1 hm;obtain⟨a2,w2,F2,ι2,hs,h2⟩:=ih h hg hob;exact⟨a2,w2,F2,ι2,.head (e7v h hm) hs,h2⟩
   ·split at hg<;>try (cases hg;done)
    injection hg with hg;injection hg with h1 h2;injection h2 with h2 h3;subst h1;subst h2;exact⟨a,w,F,G,.refl _ _,h⟩
end
structure U7 where
 f:Nat
 fn:Func
 rms:List PM
 oms:List (Option (Nat×PM))
def c8U(w:World)(F:Nat->Prop)(fp:List Nat)(cargs:List Value)(res:V)(outs:List (Option V))(e:Ending)(w':World):Prop:=
 ∃ c F' fr fo,e=.returned c/\a5G (· ∈ fp) w w'/\(∀k,F k->F' k)/\(∀k,F' k->(F k\/k∈fp\/w.heap.size<=k)/\k<w'.heap.size)/\
   BR w' F' res c fr/\BO w' F' outs cargs fo/\(fr++fo).Nodup/\∀k∈fr++fo,¬F' k/\(k∈fp\/w.heap.size<=k)/\k<w'.heap.size
def PM.isVal:PM->Bool
 | .val .. => Y
 |_=>W
def a68(bs:List Value):List (Option Nat)->Nat->List Value->Prop
 | [],_,[]=>True
 |none::om,j,d::ds=>d.oneCell'=Y/\a68 bs om j ds
 |some _::om,j,d::ds=>bs[j]?=U d/\a68 bs om (j+1) ds
 |_,_,_=>False
inductive a3s:List (Option (Nat×PM))->List Value->List Value->Prop
 |nil (bs):a3s [] [] bs
 |skip (oms c cs bs) (t:a3s oms cs bs):a3s (Z::oms) (c::cs) bs
 |pin (j m oms c cs bs) (hm:m.isVal=W) (h:bs[j]?=U c) (t:a3s oms cs bs):a3s (U (j,m)::oms) (c::cs) bs
 |agg (j ck om oms ds cs bs) (h:a68 bs om j ds) (t:a3s oms cs bs):a3s (U (j,.val ck om)::oms) (.agg ds.toArray::cs) bs
def P5(cx:Cx)(X:U7)(res:V)(outs:List (Option V))(k:List Item)(S:St):Prop:=
 ∀(w0:World) (F0:Nat->Prop) (fp:List Nat) (cargs bs:List Value),a3s X.oms cargs bs->(∀k,F0 k->k<w0.heap.size)->
 ∀(F:Nat->Prop) (G:Nat->Nat->Value) (a:Act) (w:World) (b:Frame) (cs:List Frame),A2 ⟨w0,F0,(· ∈ fp),bs⟩ F G S a w->b.fn=X.f->b.kind=.normal->
  ∃e w' fr,c8U w0 F0 fp cargs res outs e w'/\Comes cx.P (lone (b.at a k) cs w) (lone fr cs w') e/\fr.fn=X.f/\fr.leaving cx.P w' e
def P5.go{cx:Cx}{X:U7}{res:V}{outs:List (Option V)}{k k':List Item}{S S':St}{n:Nat}{sc:Z1}{ps:List Prop}(hg:goM cx n k S sc=U (k',S',ps))(hob:∀p∈ps,p)(h:P5 cx X res outs k' S'):P5 cx X res outs k S:=by
 intro w0 F0 fp cargs bs hp hF0 F G a w b cs hrel hb1 hb2;obtain⟨a',w',F',ι',hs,hrel'⟩:=f6t (b:=b) (cs:=cs) hrel hg hob;obtain⟨e,w2,fr,h1,h2,h3,h4⟩:=h w0 F0 fp cargs bs hp hF0 F' ι' a' w' b cs hrel' hb1 hb2;exact⟨e,w2,fr,h1,.of_steps hs h2,h3,h4⟩
def c4R(cx:Cx)(t:List V)(r:ResultVar):m7 V:=
 match r with
 | .tmp k=>m7.pure (t.getD k .bot)
 | .cell a ty=>match cx.T ty with
  |some ti=>match t.getD a .bot with
   | .ptr g j off=>m7.bind (m7.rd g j) λe=>match e with
    | .var _ cs=>match Y0 ti (cs.drop off)with
     |some v=>m7.pure v
     |none=>m7.no
    |_=>m7.no
   |_=>m7.no
  |none=>m7.no
def c6W(cx:Cx)(t:List V):List ResultVar->m7 (List V)
 | []=>m7.pure []
 |r::rs=>m7.bind (c4R cx t r) λv=>m7.bind (c6W cx t rs) λvs=>m7.pure (v::vs)
def c1F:List (Option Nat)->Nat->m7 (List V)
 | [],_=>m7.pure []
 |none::om,j=>m7.bind (c1F om j) λvs=>m7.pure (.bot::vs)
 |some _::om,j=>m7.bind (m7.rd 0 j) λe=>m7.bind (c1F om (j+1)) λvs=>match e with
  | .row _ sz n _=>m7.pure (.own 0 j sz 0 n::vs)
  | .deep W _ sz n _=>m7.pure (.own 0 j sz 0 n::vs)
  |_=>m7.no
def b0I:List (Option (Nat×PM))->m7 (List V×List PM)
 | []=>m7.pure ([],[])
 |none::os=>b0I os
 |some (j,.val ck om)::os=>m7.bind (c1F om j) λcs=>m7.bind (b0I os) λx=>m7.pure (.agg cs::x.1,.val ck om::x.2)
 |some (j,m)::os=>m7.bind (m7.rd 0 j) λe=>match m,e with
  | .ptr _ _,.var _ _=>m7.bind (b0I os) λx=>m7.pure (.ptr 0 j 0::x.1,m::x.2)
  | .row,.row _ sz n _=>m7.bind (b0I os) λx=>m7.pure (.own 0 j sz 0 n::x.1,m::x.2)
  | .row,.deep W _ sz n _=>m7.bind (b0I os) λx=>m7.pure (.own 0 j sz 0 n::x.1,m::x.2)
  |_,_=>m7.no
def b9g:List V->V
 | [v]=>v
 |vs=>.tup vs
def a8Y:List (Option (Nat×PM))->List V->List (Option V)
 | [],_=>[]
 |none::os,vs=>Z::a8Y os vs
 |some _::os,v::vs=>U v::a8Y os vs
 |some _::os,[]=>Z::a8Y os []
def c66(cx:Cx)(X:U7)(t:List V):m7 (AR (List V)×Nat):=
 m7.bind (c6W cx t X.fn.results.toList) λrv=>m7.bind (b0I X.oms) λov=>m7.bind (a26 (X.rms++ov.2) (rv++ov.1)) λr=>
  if a4Z r.ks&&r.ls.all (λid => !a21 r.ks id)&&Nat.beq (O rv) (O X.rms)then m7.pure (r,(O rv))else m7.no
def c5D(cx:Cx)(X:U7)(k:List Item)(S:St):Option (V×List (Option V)×List Prop):=
 match k with
 | .code .ret::_|[]=>match c66 cx X S.t S.ent with
  |some ((r,n),_)=>U (b9g (r.v.take n),a8Y X.oms (r.v.drop n),r.obl)
  |none=>Z
 |_=>Z
section
variable {cx:Cx} {J:U2} {F:Nat->Prop} {G:Nat->Nat->Value} {S S':St} {a:Act} {w:World} {b:Frame} {cs:List Frame} {k k':List Item}
def c8X(h:A2 J F G S a w)(k:Nat):RV w F S.D G (S.t.getD k .bot) (a.tmps.getD k undef):=H6 h.tmps (.tmp k)
def c0k(P:Program)(tmps:Array Value)(w:World)(r:ResultVar)(c:Value):Prop:=
  ((match r with
    | .tmp t=>pure (tmps.getD t undef)
    | .cell a t=>do loadVar t (<-asAddr (tmps.getD a undef))):Sem Value).run P w=.ok c w
def e8f(h:A2 J F G S a w){r:ResultVar}{v:V}{lg:List (Nat×Nat)}(hr:c4R cx S.t r S.ent=U (v,lg)):∃c,c0k cx.P a.tmps w r c/\RV w F S.D G v c:=by
 unfold c4R at hr;cases r with
 |tmp k=>
  have:=m7.pure_some hr;injection this with this h9;subst this;exact⟨_,rfl,c8X h k⟩
 |cell ad ty=>
  simp only at hr;cases hti:cx.T ty with
  |none=>rw[hti]at hr;cases hr
  |some ti=>
  rw[hti]at hr;obtain⟨i,d,z,htf⟩:=cx.tf hti;have hx:=c8X h ad;generalize S.t.getD ad .bot=xv at hr hx;cases xv<;>try (cases hr;done)
  case ptr g j off=>
   obtain⟨hD,b,hι,hc⟩:=hx.inv_ptr;obtain⟨e,l1,l2,hrd,hp',hl12⟩:=m7.bind_some hr;clear hr;have he:=(m7.rd_some hrd).1;simp only at he;have hre:=h.ents g j e he;split at hp'<;>try (cases hp';done)
   ·rename_i e0 cs;obtain⟨g0,cur,h1,hg,hcs⟩:=hre;rw[hι]at h1;injection h1 with h1;injection h1 with h1;injection h1 with h1;subst h1;cases hrv:Y0 ti (cs.drop off)with
    |none=>rw[hrv]at hp';cases hp'
    |some v'=>
    rw[hrv]at hp';have:=m7.pure_some hp';injection this with this h9;subst this;obtain⟨c,hrd',hvc⟩:=a8I (hcs.drop off) hrv;refine⟨c,?_,hvc⟩;unfold c0k;simp only[hc,asAddr];have:=d8E htf (a8y hg off) hrd';simpa[Sem.run_bind]using this
def d5h(h:A2 J F G S a w):∀{rs:List ResultVar} {vs:List V} {lg:List (Nat×Nat)},c6W cx S.t rs S.ent=U (vs,lg)->∃cs,B5 (c0k cx.P a.tmps w) rs cs/\B5 (RV w F S.D G) vs cs
 | [],vs,lg,hr=>by
  have:=m7.pure_some hr;injection this with this h9;subst this;exact⟨[],.nil,.nil⟩
 |r::rs,vs,lg,hr=>by
  obtain⟨v,l1,l2,h1,h2,_⟩:=m7.bind_some hr;obtain⟨vs',l3,l4,h3,h4,_⟩:=m7.bind_some h2;have:=m7.pure_some h4;injection this with this h9;subst this;obtain⟨c,e1,e2⟩:=e8f h h1;obtain⟨cs,e3,e4⟩:=d5h h h3;exact⟨c::cs,.cons e1 e3,.cons e2 e4⟩
def b3U:List Value->Value
 | [c]=>c
 |cs=>.tuple cs.toArray
def d9o{P:Program}{w:World}{C:Type}{f:C->Sem Value}:∀{l:List C} {cs:List Value},B5 (λr c=>(f r).run P w=.ok c w) l cs->(l.mapM f).run P w=.ok cs w
 |_,_,.nil=>by simp[Sem.run]
 |_,_,.cons h t=>by
  rw[List.mapM_cons];have:=d9o t;simp[Sem.run_bind,h,this]
def e9V{P:Program}{fn:Func}{tmps:Array Value}{w:World}{cs:List Value}(h:B5 (c0k P tmps w) fn.results.toList cs):(results fn tmps).run P w=.ok (b3U cs) w:=by
 unfold results;have hm:=d9o (f:=λr:ResultVar=>match r with
  | .tmp t=>pure (tmps.getD t undef)
  | .cell a t=>do loadVar t (<-asAddr (tmps.getD a undef))) (h.imp λr c x=>x)
 have he:fn.results=fn.results.toList.toArray:=by simp
 rw[he,List.mapM_toArray];have hp:(if hh:cs.toArray.size=1 then cs.toArray[0]else Value.tuple cs.toArray)=b3U cs:=by
  rcases cs with _|⟨c,_|⟨c',cs⟩⟩
  ·rfl
  ·rfl
  ·have:¬(c::c'::cs).toArray.size=1:=by simp
   rw[dif_neg this];rfl
 simp only[map_eq_pure_bind,Sem.run_bind,bind_assoc,pure_bind];refine(congrArg (λr=>Result.andThen r _) hm).trans ?_;simp only[Result.andThen];rw[<-hp];rfl
def c7Q(h:A2 J F G S a w):∀{om:List (Option Nat)} {j:Nat} {ds:List Value} {vs:List V} {lg:List (Nat×Nat)},a68 J.pins om j ds->c1F om j S.ent=U (vs,lg)->B5 (RC w F S.D G) vs ds
 | [],j,[],vs,lg,_,hr=>by
  have:=m7.pure_some hr;injection this with h1 h2;subst h1;exact .nil
 |none::om,j,d::ds,vs,lg,hc,hr=>by
  obtain⟨xs,l1,l2,h1,h2,_⟩:=m7.bind_some hr;have:=m7.pure_some h2;injection this with h3 h4;subst h3;exact .cons (.fv _ _ (.bot _ hc.1)) (c7Q h hc.2 h1)
 |some _::om,j,d::ds,vs,lg,hc,hr=>by
  obtain⟨e,l1,l2,hrd,hp,_⟩:=m7.bind_some hr;have he:=(m7.rd_some hrd).1;simp only at he;have hD:=St.D_of_ent he;have hι:=(h.pins j d hc.1).2;have hre:=h.ents 0 j e he;obtain⟨xs,l3,l4,h1,h2,_⟩:=m7.bind_some hp;have ht:=c7Q h hc.2 h1;split at h2<;>try (cases h2;done)
  ·have:=m7.pure_some h2;injection this with h3 h4;subst h3;refine .cons ?_ ht;have:=RC.whole hD rfl hre;rwa[hι]at this
  ·have:=m7.pure_some h2;injection this with h3 h4;subst h3;refine .cons ?_ ht;obtain⟨flat,fs,ho,_⟩:=hre;have:=RC.wholeO (F:=F) (D:=S.D) hD rfl ho;rwa[hι]at this
 | [],_,_::_,_,_,hc,_=>hc.elim
 |none::_,_,[],_,_,hc,_=>hc.elim
 |some _::_,_,[],_,_,hc,_=>hc.elim
def b1K(h:A2 J F G S a w):∀{oms:List (Option (Nat×PM))} {cargs:List Value} {vs:List V} {ms:List PM} {lg:List (Nat×Nat)},a3s oms cargs J.pins->b0I oms S.ent=U ((vs,ms),lg)->∃cs,B5 (RV w F S.D G) vs cs/\
  ∀{F1:Nat->Prop} {us:List V} {f:List Nat},BS w F1 us cs f->BO w F1 (a8Y oms us) cargs f
 | [],_,vs,ms,lg,.nil _,hr=>by
  have:=m7.pure_some hr;injection this with h1 h2;injection h1 with h1 h3;subst h1;exact⟨[],.nil,λhb=>by cases hb;exact .nil⟩
 |none::oms,_,vs,ms,lg,.skip _ c cs _ t,hr=>by
  obtain⟨cs',e1,e2⟩:=b1K h t hr;exact⟨cs',e1,λ{F1 us f} hb=>.skip _ _ _ _ (e2 hb)⟩
 |some (j,.val ck om)::oms,_,vs,ms,lg,.agg _ _ _ _ ds cs _ hc t,hr=>by
  obtain⟨xs,l1,l2,hxs,hp,_⟩:=m7.bind_some hr;obtain⟨x,l3,l4,h1,h2,_⟩:=m7.bind_some hp;have:=m7.pure_some h2;injection this with h3 h4;injection h3 with h3 h5;subst h3;obtain⟨cs',e1,e2⟩:=b1K h t h1;refine⟨.agg ds.toArray::cs',.cons (.one _ _ (.agg _ _ (c7Q h hc hxs))) e1,?_⟩;intro F1 us f hb;cases hb with
  |cons v c f vs cs fs h t=>exact .cons _ _ _ _ _ _ h (e2 t)
 |some (j,.val ck om)::oms,_,vs,ms,lg,.pin _ _ _ c cs _ hm hc t,hr=>by cases hm
 |some (j,.part)::oms,_,vs,ms,lg,.pin _ _ _ c cs _ hm hc t,hr=>by
  obtain⟨e,l1,l2,hrd,hp,_⟩:=m7.bind_some hr;cases e<;>cases hp
 |some (j,.ptr ck om)::oms,_,vs,ms,lg,.pin _ _ _ c cs _ hm hc t,hr=>by
  obtain⟨e,l1,l2,hrd,hp,_⟩:=m7.bind_some hr;have he:=(m7.rd_some hrd).1;simp only at he;have hD:=St.D_of_ent he;have hι:=(h.pins j c hc).2;have hre:=h.ents 0 j e he;cases e<;>try (cases hp;done)
  obtain⟨x,l3,l4,h1,h2,_⟩:=m7.bind_some hp;have:=m7.pure_some h2;injection this with h3 h4;injection h3 with h3 h5;subst h3;obtain⟨cs',e1,e2⟩:=b1K h t h1;obtain⟨g,cur,q1,q2,q3⟩:=hre;refine⟨c::cs',.cons (.one _ _ (.cell _ _ ?_)) e1,?_⟩
  ·rw[<-hι,q1];exact .ptr 0 j 0 g hD q1
  ·intro F1 us f hb;cases hb with
   |cons v c f vs cs fs h t=>exact .cons _ _ _ _ _ _ h (e2 t)
 |some (j,.row)::oms,_,vs,ms,lg,.pin _ _ _ c cs _ hm hc t,hr=>by
  obtain⟨e,l1,l2,hrd,hp,_⟩:=m7.bind_some hr;have he:=(m7.rd_some hrd).1;simp only at he;have hD:=St.D_of_ent he;have hι:=(h.pins j c hc).2;have hre:=h.ents 0 j e he;cases e<;>try (cases hp;done)
  case row=>
   obtain⟨x,l3,l4,h1,h2,_⟩:=m7.bind_some hp;have:=m7.pure_some h2;injection this with h3 h4;injection h3 with h3 h5;subst h3;obtain⟨cs',e1,e2⟩:=b1K h t h1;refine⟨c::cs',.cons (.one _ _ (.cell _ _ ?_)) e1,?_⟩
   ·have:=RC.whole hD rfl hre;rwa[hι]at this
   ·intro F1 us f hb;cases hb with
    |cons v c f vs cs fs h t=>exact .cons _ _ _ _ _ _ h (e2 t)
  case deep o _ _ _ _=>
   cases o<;>try (cases hp;done)
   obtain⟨x,l3,l4,h1,h2,_⟩:=m7.bind_some hp;have:=m7.pure_some h2;injection this with h3 h4;injection h3 with h3 h5;subst h3;obtain⟨cs',e1,e2⟩:=b1K h t h1;obtain⟨flat,fs,ho,_⟩:=hre;refine⟨c::cs',.cons (.one _ _ (.cell _ _ ?_)) e1,?_⟩
   ·have:=RC.wholeO (F:=F) (D:=S.D) hD rfl ho;rwa[hι]at this
   ·intro F1 us f hb;cases hb with
    |cons v c f vs cs fs h t=>exact .cons _ _ _ _ _ _ h (e2 t)
def B5.app{C β:Type}{R:C->β->Prop}:∀{D9 bs cs ds},B5 R D9 bs->B5 R cs ds->B5 R (D9++cs) (bs++ds)
 |_,_,_,_,.nil,k=>k
 |_,_,_,_,.cons hx t,k=>.cons hx (t.app k)
def BS.split:∀{c1 c2:List Value} {vs:List V} {f:List Nat},BS w F vs (c1++c2) f->∃f1 f2,f=f1++f2/\BS w F (vs.take (O c1)) c1 f1/\BS w F (vs.drop (O c1)) c2 f2
 | [],c2,vs,f,h=>⟨[],f,rfl,by simpa using .nil,by simpa using h⟩
 |c::c1,c2,_,_,.cons v _ f vs _ fs h t=>by
  obtain⟨f1,f2,rfl,h1,h2⟩:=BS.split t;exact⟨f++f1,f2,by simp,.cons _ _ _ _ _ _ h h1,h2⟩
def BS.pack{vs:List V}{cs:List Value}{f:List Nat}(h:BS w F vs cs f):BR w F (b9g vs) (b3U cs) f:=by
 cases h with
 |nil=>exact .tup _ _ _ .nil
 |cons v c f vs cs fs h t=>
  cases t with
  |nil=>rw[g1i];exact .one _ _ _ h
  |cons v' c' f' vs' cs' fs' h' t'=>exact .tup _ _ _ (.cons _ _ _ _ _ _ h (.cons _ _ _ _ _ _ h' t'))
def P5.ret{X:U7}{res:V}{outs:List (Option V)}{ps:List Prop}(hf:cx.P.funcs[X.f]?=U X.fn)(hr:c5D cx X k S=U (res,outs,ps))(hob:∀p∈ps,p):P5 cx X res outs k S:=by
 obtain⟨r,n,lg,hR,rfl,rfl,rfl,hk⟩:∃r n lg,c66 cx X S.t S.ent=U ((r,n),lg)/\b9g (r.v.take n)=res/\a8Y X.oms (r.v.drop n)=outs/\r.obl=ps/\(k=[]\/∃k',k=.code .ret::k'):=by
  unfold c5D at hr;split at hr<;>try (cases hr;done)
  all_goals
   split at hr<;>try (cases hr;done)
   rename_i r n lg hR;injection hr with hr;injection hr with h1 h2;injection h2 with h2 h3;first|exact⟨r,n,lg,hR,h1,h2,h3,.inr ⟨_,rfl⟩⟩|exact⟨r,n,lg,hR,h1,h2,h3,.inl rfl⟩
 intro w0 F0 fp cargs bs hp hF0 F G a w b cs h hb1 hb2;unfold c66 at hR;obtain⟨rv,l1,l2,g1,g2,_⟩:=m7.bind_some hR;obtain⟨⟨ov,om⟩,l3,l4,g3,g4,_⟩:=m7.bind_some g2;obtain⟨r',l5,l6,g5,g6,_⟩:=m7.bind_some g4;simp only at g6;split at g6<;>try (cases g6;done)
 rename_i hchk;have:=m7.pure_some g6;injection this with e1 e2;injection e1 with e1 e3;subst e1;subst e3;simp only[g02]at hchk;obtain⟨⟨hnk,hls⟩,hlen⟩:=hchk;have hnk':=a6k hnk;have hdis:∀id∈r.ls,id ∉ r.ks:=λid hid=>b81 (g05.1 hls id hid)
 obtain⟨rcs,q1,q2⟩:=d5h h g1;obtain⟨ocs,q3,q4⟩:=b1K h hp g3;let F1:Nat->Prop:=λk=>F k\/∃id∈r.ls,∃e,S.ent id.1 id.2=U e/\EB w e (G id.1 id.2) k
 obtain⟨fpx,hbs,hfps,hhk,hhl⟩:=d47 (F1:=F1) h (λk x=>.inl x) (q2.app q3) g5 hob (λid hid e k he hk=>.inr ⟨id,hid,e,he,hk⟩);obtain⟨f1,f2,hf12,b1,b2⟩:=hbs.split;have hl2:(O rcs)=(O rv):=q2.length.symm;rw[hl2]at b1 b2;have hfpn:=R7.nodup h hfps hnk';have hF1lt:∀k,F1 k->k<w.heap.size:=by
  rintro k (x|⟨id,hid,e,he,hb⟩)
  ·exact h.F1 k x
  ·obtain⟨e',he',hl'⟩:=hhl id hid;have:e=e':=by rw[he]at he';injection he'
   subst this;exact h.lt he hl' hb
 have hfin:c8U w0 F0 fp cargs (b9g (r.v.take (O rv))) (a8Y X.oms (r.v.drop (O rv))) (.returned (b3U rcs)) w:=by
  refine⟨b3U rcs,F1,f1,f2,rfl,h.kept,λk x=>.inl (h.F0 k x),?_,b1.pack,q4 b2,?_,?_⟩
  ·rintro k x
   refine⟨?_,hF1lt k x⟩;rcases x with x|⟨id,hid,e,he,hb⟩
   ·exact h.F2 k x
   ·obtain⟨e',he',hl'⟩:=hhl id hid;have:e=e':=by rw[he]at he';injection he'
    subst this;exact .inr (h.sep _ _ _ k he hl' hb).2
  ·rw[<-hf12];exact hfpn
  ·intro k hk;rw[<-hf12]at hk;obtain⟨id,hid,e,he,hl,hb⟩:=hfps.mem hk;obtain⟨z1,z2⟩:=h.sep _ _ e k he hl hb;refine⟨?_,z2,h.lt he hl hb⟩;rintro(x|⟨id',hid',e0,he0,hb'⟩)
   ·exact z1 x
   ·obtain⟨e',he',hl'⟩:=hhl id' hid';have:e0=e':=by rw[he0]at he';injection he'
    subst this;obtain⟨y1,y2⟩:=h.inj _ _ e _ _ _ k he he' hl hl' hb hb';have:id=id':=Prod.ext y1 y2;exact hdis id' hid' (this▸hid)
 have hres:=e9V (P:=cx.P) q1;rcases hk with rfl|⟨k',rfl⟩
 ·exact⟨_,w,_,hfin,.one step_end,hb1,rfl,h.defers,hb2,X.fn,by show cx.P.funcs[b.fn]?=_;rw[hb1];exact hf,hres⟩
 ·exact⟨_,w,_,hfin,.one step_ret,hb1,rfl,h.defers,hb2,X.fn,by show cx.P.funcs[b.fn]?=_;rw[hb1];exact hf,hres⟩
end
inductive Loc where
 |tmp (t:Nat)
 |sub (t i:Nat)
 |cell (g j i:Nat)
def St.get(S:St):Loc->Option V
 | .tmp t=>S.t[t]?
 | .sub t i=>match S.t[t]? with
  |some (.agg cs)=>cs[i]?
  |_=>Z
 | .cell g j i=>match S.ent g j with
  |some (.var _ cs)=>cs[i]?
  |_=>Z
def St.put(S:St)(l:Loc)(v:V):St:=
 match l with
 | .tmp t=>{S with t:=S.t.set t v}
 | .sub t i=>match S.t[t]? with
  |some (.agg cs)=>{S with t:=S.t.set t (.agg (cs.set i v))}
  |_=>S
 | .cell g j i=>match S.ent g j with
  |some (.var e cs)=>S.setE g j (.var e (cs.set i v))
  |_=>S
inductive Fix where
 |own (l:Loc) (e sz:Nat)
 |frz (l:Loc) (ck:Option Nat)
 |is (l:Loc) (v:V)
 |ent (g j:Nat) (e:x8)
 |plug (g j idx off:Nat) (r:List V) (e:Nat)
 |shut (g j n:Nat) (rows:List (List V))
 |ownD (l:Loc) (e sz:Nat)
 |kill (g j:Nat)
def V.isCell:V->Bool
 | .agg _ | .tup _ | .bot=>W
 |_=>Y
def a7G(f:Fix)(S:St):Option (St×List Prop):=
 match f with
 | .own l e sz=>match S.get l with
  |some .nil=>U (((S.more 1).lay (O S.h) [.row e sz 0 []]).put l (.own (O S.h) 0 sz 0 0),[])
  |_=>Z
 | .frz l ck=>match S.get l with
  |some v=>if v.isCell then match fzP ck v S.ent with
   |some ((v',us,ps),_)=>U ((S.upds us).put l v',ps)
   |none=>Z else Z
  |none=>Z
 | .is l v'=>match S.get l with
  |some v=>if v.isCell then U (S.put l v',[v=v'])else Z
  |none=>Z
 | .ent g j e'=>match S.ent g j with
  |some e=>U (S.setE g j e',[e=e'])
  |none=>Z
 | .plug g j idx off r e=>match S.ent g j,r[off]? with
  |some (.deep o t sz n rows),U (.own g' j' sz' lo n')=>match Y5 Z (U e) (.own g' j' sz' lo n') S.ent with
   |some (f,_)=>if(off+1<=sz/\a4Z f.ks/\a21 f.ks (g,j)=W)/\e≠b2B then U (S.upds (J3 f.ks++[((g,j),.deep o t sz n (rows.set idx (C7 r off [f.v])))]),(rows[idx]?=U r)::f.obl)else Z
   |none=>Z
  |_,_=>Z
 | .kill g j=>match S.ent g j with
  |some _=>U (S.setE g j .dead,[])
  |none=>Z
 | .shut g j n' rows'=>match S.ent g j with
  |some (.deep o t sz n rows)=>U (S.setE g j (.deep W t sz n' rows'),[rows=rows',M6 rows',n=n'])
  |_=>Z
 | .ownD l e sz=>match S.get l with
  |some .nil=>U (((S.more 1).lay (O S.h) [.deep W e sz 0 []]).put l (.own (O S.h) 0 sz 0 0),[])
  |_=>Z
def b4e:List Fix->St->Option (St×List Prop)
 | [],S=>U (S,[])
 |f::fs,S=>match a7G f S with
  |some (S1,ps)=>match b4e fs S1 with
   |some (S2,qs)=>U (S2,ps++qs)
   |none=>Z
  |none=>Z
section
variable {cx:Cx} {J:U2} {F:Nat->Prop} {G:Nat->Nat->Value} {S S':St} {a:Act} {w:World}
def RV.isCell{D:Nat->Prop}{v:V}{c:Value}(h:RV w F D G v c)(hv:v.isCell=Y):RC w F D G v c:=by
 cases h with
 |one v c h=>
  cases h with
  |cell v c h=>exact h
  |agg cs ds h=>cases hv
 |tup cs ds h=>cases hv
 |any c=>cases hv
def A2.withT(h:A2 J F G S a w){t:List V}(ht:B5 (RV w F S.D G) t a.tmps.toList):A2 J F G {S with t:=t} a w:=
 {F0:=h.F0,F1:=h.F1,F2:=h.F2,kept:=h.kept,tmps:=ht,ents:=h.ents,sep:=h.sep,inj:=h.inj,defers:=h.defers,pins:=h.pins}
def B5.set_left{C β:Type}{R:C->β->Prop}{D9:List C}{bs:List β}(h:B5 R D9 bs){i:Nat}{x y:C}(hx:D9[i]?=U x)(hy:∀b,R x b->R y b):B5 R (D9.set i y) bs:=by
 obtain⟨b,hb,hr⟩:=h.get hx;have:=h.set i (hy b hr);rwa[a1I hb]at this
def A2.putL(h:A2 J F G S a w){l:Loc}{v v':V}(hg:S.get l=U v)(hc:v.isCell=Y)(hr:∀c,RC w F S.D G v c->RC w F S.D G v' c):A2 J F G (S.put l v') a w:=by
 cases l with
 |tmp t=>
  exact h.withT (h.tmps.set_left hg λc hv=>.one _ _ (.cell _ _ (hr c (hv.isCell hc))))
 |sub t i=>
  unfold St.get at hg;unfold St.put;simp only at hg⊢;split at hg<;>try (cases hg;done)
  rename_i cs hcs;try rw[hcs]
  refine h.withT (h.tmps.set_left hcs λc hv => ?_);cases hv with
  |one v c hv=>
   cases hv with
   |cell v c hv=>cases hv with|fv v c hv=>cases hv
   |agg cs ds hv=>exact .one _ _ (.agg _ _ (hv.set_left hg hr))
 |cell g j i=>
  unfold St.get at hg;unfold St.put;simp only at hg⊢;split at hg<;>try (cases hg;done)
  rename_i e cs hcs;try rw[hcs]
  try simp only
  refine h.write hcs rfl ⟨rfl,rfl,rfl⟩ rfl (λ_ _=>rfl) (λ_ => ?_) (λ_ hk=>hk);obtain⟨g0,cur,h1,h2,h3⟩:=h.ents g j _ hcs;exact⟨g0,cur,h1,h2,(h3.set_left hg hr).imp λ_ _ x=>x.mono (λ_ _ _=>rfl) (λ_ y=>y) (λk y=>W6.2 y) (λ_ _ _=>rfl)⟩
def c9Y{grp:Nat}{new:List x8}{l:Loc}{v:V}(h:S.get l=U v)(hn:¬S.D grp):(S.lay grp new).get l=U v:=by
 cases l with
 |tmp t=>exact h
 |sub t i=>exact h
 |cell g j i=>
  unfold St.get at h⊢;simp only at h⊢;split at h<;>try (cases h;done)
  rename_i e cs hcs;have:g≠grp:=λq=>hn (q▸St.D_of_ent hcs)
  rw[a82 this,hcs];exact h
def d4R{n:Nat}{l:Loc}{v:V}(h:S.get l=U v):(S.more n).get l=U v:=by
 cases l with
 |tmp t=>exact h
 |sub t i=>exact h
 |cell g j i=>
  unfold St.get at h⊢;simp only at h⊢;rw[b4d];exact h
def f2n{e:Nat}{v:V}{H:Hp}{f:AR V}{lg:List (Nat×Nat)}(he:e≠b2B)(h:Y5 Z (U e) v H=U (f,lg)):f.ls=[]:=by
 unfold Y5 at h;simp only at h;split at h
 ·have:=m7.pure_some h;injection this with h1 h2;rw[h1]
 (try rw[if_neg he]at h)
 cases v<;>try (cases h;done)
 case nil=>
  have:=m7.pure_some h;injection this with h1 h2;rw[h1]
 case own g j sz lo n=>
  cases lo with
  |succ q=>cases h
  |zero=>
   simp only at h;obtain⟨en,l1,l2,hrd,hp,_⟩:=m7.bind_some h;cases en<;>try (cases hp;done)
   case row=>
    simp only at hp;split at hp<;>try (cases hp;done)
    have:=m7.pure_some hp;injection this with h1 h2;rw[h1]
   case deep o _ _ _ _=>
    cases o<;>try (cases hp;done)
    simp only at hp;split at hp<;>try (cases hp;done)
    have:=m7.pure_some hp;injection this with h1 h2;rw[h1]
def f9L{g j idx off e:Nat}{r:List V}{ps:List Prop}(h:A2 J F G S a w)(hf:a7G (.plug g j idx off r e) S=U (S',ps))(hob:∀p∈ps,p):A2 J F G S' a w:=by
 unfold a7G at hf;simp only at hf;split at hf<;>try (cases hf;done)
 rename_i o t sz n rows g' j' sz' lo n' he hv;split at hf<;>try (cases hf;done)
 rename_i f lg hm;split at hf<;>try (cases hf;done)
 rename_i hcond;injection hf with hf;injection hf with h1 h2;subst h1;subst h2;obtain⟨⟨hoff,hks,hgj⟩,hpe⟩:=hcond;have hr:rows[idx]?=U r:=hob _ (by simp);obtain⟨flat,fs,hor,hkl,hrn,hl,hnd,hnr⟩:=h.ents g j _ he;have hidx:=(g06.1 hr).1;have hpos:idx*sz+sz<=n*sz:=by rw[<-g15];exact g1x _ (by omega)
 have hle:idx*sz+off+1<=(O rows.flatten):=by rw[a5H hl,hrn];omega
 have hmid:(rows.flatten.drop (idx*sz+off)).take 1=[.own g' j' sz' lo n']:=by
  have:(rows.flatten.drop (idx*sz+off)).take 1=(r.drop off).take 1:=by
   rw[<-b5B hl hr,List.drop_take,List.take_take,g2F];congr 1
   omega
  rw[this];obtain⟨hlt,hv'⟩:=g06.1 hv;rw[g1q hlt,hv'];rfl
 obtain⟨fa,fm,fb,rfl,ka,km,kb⟩:=hkl.cut hle;rw[hmid]at km;obtain⟨c,hc,hkc⟩:∃c,(flat.drop (idx*sz+off)).take 1=[c]/\RC w F S.D G (.own g' j' sz' lo n') c:=by
  generalize (flat.drop (idx*sz+off)).take 1=cs at km;cases km with
  |cons v c f vs cs fs h t=>
   cases t;refine⟨c,rfl,?_⟩;cases h with
   |rc h=>exact h
   |bc _ h=>cases h with
    |fv _ _ h=>exact .fv _ _ h
 obtain⟨fp,hb,hfps,_⟩:=c4U (F1:=F) h (λ_ x=>x) hkc hm (λp hp=>hob p (g1a.2 (.inr hp))) (by rw[f2n hpe hm];intro id hid;cases hid);have hbl:BL w F [f.v] [c] fp:=by
  have:=BL.cons _ _ _ _ _ _ hb .nil;simpa using this
 refine h.dput he hr (by simpa using hoff) hbl hfps (a6k hks) (λq=>by rw[a7J.2 q]at hgj;cases hgj) ⟨rfl,rfl,rfl⟩ rfl (λ_ _=>rfl) ?_;intro flat2 ho2;have:=b28 ho2 hor (λ_ _=>rfl);subst this;have e1:C7 flat2 (idx*sz+off) [c]=flat2:=by
  unfold C7;rw[<-hc,g1d];have hl1:((flat2.drop (idx*sz+off)).take 1).length=1:=by rw[hc];rfl
  rw[hl1];have e2:∀k:Nat,flat2.take k++((flat2.drop k).take 1++flat2.drop (k+1))=flat2:=λk=>by
   rw[<-g2F,g1V,g1V]
  exact e2 _
 rw[e1];exact ho2
def e3C{g j n':Nat}{rows':List (List V)}{ps:List Prop}(h:A2 J F G S a w)(hf:a7G (.shut g j n' rows') S=U (S',ps))(hob:∀p∈ps,p):A2 J F G S' a w:=by
 unfold a7G at hf;simp only at hf;split at hf<;>try (cases hf;done)
 rename_i o t sz n rows he;injection hf with hf;injection hf with h1 h2;subst h1;subst h2;have hrr:rows=rows':=hob _ (by simp);have hnr:M6 rows':=hob _ (by simp);have hnn:n=n':=hob _ (by simp);subst hrr;subst hnn;refine h.write he rfl ⟨rfl,rfl,rfl⟩ rfl (λ_ _=>rfl) (λ_ => ?_) (λk hk=>hk);obtain⟨flat,fs,q1,q2,q3,q4,q5,q6⟩:=h.ents g j _ he;exact⟨flat,fs,q1,q2.mono (λ_ _ _=>rfl) (λ_ x=>x) (λk x=>W6.2 x) (λ_ _ _=>rfl) (λ_ _=>rfl),q3,q4,q5,λ_=>hnr⟩
def e7N{f:Fix}{ps:List Prop}(h:A2 J F G S a w)(hf:a7G f S=U (S',ps))(hob:∀p∈ps,p):∃F' ι',A2 J F' ι' S' a w:=by
 unfold a7G at hf;split at hf
 ·rename_i l e sz;split at hf<;>try (cases hf;done)
  rename_i hg;injection hf with hf;injection hf with hf hf2;subst hf;have hn:¬(S.more 1).D (O S.h):=λq=>by
   obtain⟨x,hx⟩:=b2A.1 q;have:=(g06.1 hx).1;omega
  have hlen:(O S.h)<(S.more 1).h.length:=by simp[St.more,a5e]
  have hor:OR w F e sz (.slice Z 0 0) 0 []:=⟨[],⟨by simp,.inl ⟨rfl,rfl⟩⟩,.nil,rfl,by simp⟩
  have hno:∀(j:Nat) (e':x8) (k:Nat),([.row e sz 0 []]:List x8)[j]?=U e'->EB w e' (R3 G (O S.h) (.slice Z 0 0) (O S.h) j) k->False:=by
   intro j e' k he hk;rw[V3]at hk;cases j with
   |zero=>
    simp at he;subst he;cases hk
   |succ j=>simp at he
  have h1:=(h.more 1).lay hlen hn (new:=[.row e sz 0 []]) (ι':=R3 G (O S.h) (.slice Z 0 0)) (λg j q=>b1U q)
   (λj e' he=>by
    cases j with
    |zero=>
     simp at he;subst he;rw[V3];exact hor
    |succ j=>simp at he)
   (λj e' k he hl hk=>(hno j e' k he hk).elim)
   (λj e' j' e'' k he he' hl hl' hk hk'=>(hno j e' k he hk).elim)
   (λj e' g' j' e'' k he he' hl hl' hk=>(hno j e' k he hk).elim)
  refine⟨F,_,h1.putL (c9Y (d4R hg) hn) rfl λc hc => ?_⟩;have hcn:c=.slice Z 0 0:=by
   cases hc with
   |fv v c hc=>cases hc;rfl
  subst hcn;exact RC.whole (a11 hlen) V3 hor
 ·rename_i l ck;split at hf<;>try (cases hf;done)
  rename_i v hg;split at hf<;>try (cases hf;done)
  rename_i hcell;split at hf<;>try (cases hf;done)
  rename_i v' us fps lg hz;injection hf with hf;injection hf with hf hf2;subst hf;subst hf2;have hfr:∀c,RC w F S.D G v c->∃F',(∀k,F k->F' k)/\A2 J F' G (S.upds us) a w/\Frz S (S.upds us)/\FV w F' v' c:=λc hc=>b6e h (Frz.refl S) hc hz hob
  have hat:∃c,RC w F S.D G v c:=by
   cases l with
   |tmp t=>
    obtain⟨c,_,hv⟩:=h.tmps.get hg;exact⟨c,hv.isCell hcell⟩
   |sub t i=>
    unfold St.get at hg;simp only at hg;split at hg<;>try (cases hg;done)
    rename_i cs hcs;obtain⟨c,_,hv⟩:=h.tmps.get hcs;cases hv with
    |one v c hv=>
     cases hv with
     |cell v c hv=>cases hv with|fv v c hv=>cases hv
     |agg cs ds hv=>
      obtain⟨c,_,hv⟩:=hv.get hg;exact⟨c,hv⟩
   |cell g j i=>
    unfold St.get at hg;simp only at hg;split at hg<;>try (cases hg;done)
    rename_i e cs hcs;obtain⟨g0,cur,h1,h2,h3⟩:=h.ents g j _ hcs;obtain⟨c,_,hv⟩:=h3.get hg;exact⟨c,hv⟩
  obtain⟨c0,hc0⟩:=hat;obtain⟨F',hF,hrel,hfz,hfv⟩:=hfr c0 hc0;clear hfr hfv;cases l with
  |tmp t=>
   obtain⟨c,hct,hv⟩:=h.tmps.get hg;obtain⟨F',hF,hrel,hfz,hfv⟩:=b6e h (Frz.refl S) (hv.isCell hcell) hz hob;refine⟨F',G,?_⟩;have ht:(S.upds us).t=S.t:=hfz.2.2.1;show A2 J F' G {S.upds us with t:=(S.upds us).t.set t v'} a w
   refine hrel.withT ?_;have:=hrel.tmps.set t (b:=c) (.one _ _ (.cell _ _ (.fv _ _ hfv)));rwa[a1I hct]at this
  |sub t i=>
   unfold St.get at hg;simp only at hg;split at hg<;>try (cases hg;done)
   rename_i cs hcs;obtain⟨c,hct,hv⟩:=h.tmps.get hcs;cases hv with
   |one v c hv=>
    cases hv with
    |cell v c hv=>cases hv with|fv v c hv=>cases hv
    |agg cs ds hv=>
     obtain⟨c,hci,hvi⟩:=hv.get hg;obtain⟨F',hF,hrel,hfz,hfv⟩:=b6e h (Frz.refl S) hvi hz hob;refine⟨F',G,?_⟩;have ht:(S.upds us).t=S.t:=hfz.2.2.1;unfold St.put;simp only[ht,hcs];have h2:=hrel.tmps;rw[ht]at h2;have:=hrel.withT (t:=S.t.set t (.agg (cs.set i v'))) ?_
     ·exact this
     ·have hagg:=h2.get hcs;obtain⟨c',hct',hv'⟩:=hagg;rw[hct]at hct';injection hct' with hct';have hv2:B5 (RC w F' (S.upds us).D G) cs ds:=by
       refine hv.imp λ_ _ x=>x.mono (λ_ _ _=>rfl) hF (λk y=>(a1z S k us).2 y) (λ_ _ _=>rfl)
      have hset:=hv2.set i (b:=c) (.fv _ _ hfv);rw[a1I hci]at hset;have:=h2.set t (b:=.agg ds.toArray) (.one _ _ (.agg _ _ hset));rwa[a1I hct]at this
  |cell g j i=>
   unfold St.get at hg;simp only at hg;split at hg<;>try (cases hg;done)
   rename_i e cs hcs;obtain⟨g0,cur,q1,q2,q3⟩:=h.ents g j _ hcs;obtain⟨c,hci,hvi⟩:=q3.get hg;obtain⟨F',hF,hrel,hfz,hfv⟩:=b6e h (Frz.refl S) hvi hz hob;refine⟨F',G,?_⟩;have hcs':(S.upds us).ent g j=U (.var e cs):=by
    rcases hfz.2.2.2 _ _ _ hcs with q|⟨e',sz,n,rows,q,_⟩
    ·exact q
    ·cases q
   unfold St.put;simp only[hcs'];refine hrel.write hcs' rfl ⟨rfl,rfl,rfl⟩ rfl (λ_ _=>rfl) (λ_ => ?_) (λ_ hk=>hk);have hset:=(q3.imp λ_ _ x=>RC.mono (D':=((S.upds us).setE g j (.var e (cs.set i v'))).D) (F':=F') (w':=w) (ι':=G) (λ_ _ _=>rfl) hF (λk y=>W6.2 ((a1z S k us).2 y)) (λ_ _ _=>rfl) x).set i (b:=c) (.fv _ _ hfv);rw[a1I hci]at hset;exact⟨g0,cur,q1,q2,hset⟩
 ·rename_i l v';split at hf<;>try (cases hf;done)
  rename_i v hg;split at hf<;>try (cases hf;done)
  rename_i hcell;injection hf with hf;injection hf with hf hf2;subst hf;subst hf2;have:v=v':=hob _ (by simp);subst this;exact⟨F,G,h.putL hg hcell λ_ x=>x⟩
 ·rename_i g j e';split at hf<;>try (cases hf;done)
  rename_i e he;injection hf with hf;injection hf with hf hf2;subst hf;subst hf2;have:e=e':=hob _ (by simp);subst this;have hset:S.setE g j e=S:=by
   obtain⟨l,hl⟩:=St.D_of_ent he;rw[a4s hl];rw[a3p hl]at he;rw[a1I he,a1I hl]
  rw[hset];exact⟨F,G,h⟩
 ·rename_i g j idx off r e;exact⟨F,G,f9L (g:=g) (j:=j) (idx:=idx) (off:=off) (r:=r) (e:=e) h hf hob⟩
 ·rename_i g j;split at hf<;>try (cases hf;done)
  rename_i e he;injection hf with hf;injection hf with hf hf2;subst hf;exact⟨F,G,h.kill he⟩
 ·rename_i g j n' rows';exact⟨F,G,e3C (g:=g) (j:=j) (n':=n') (rows':=rows') h hf hob⟩
 ·rename_i l e sz;split at hf<;>try (cases hf;done)
  rename_i hg;injection hf with hf;injection hf with hf hf2;subst hf;have hn:¬(S.more 1).D (O S.h):=λq=>by
   obtain⟨x,hx⟩:=b2A.1 q;have:=(g06.1 hx).1;omega
  have hlen:(O S.h)<(S.more 1).h.length:=by simp[St.more,a5e]
  have hor:OR w F e sz (.slice Z 0 0) 0 []:=⟨[],⟨by simp,.inl ⟨rfl,rfl⟩⟩,.nil,rfl,by simp⟩
  have hno:∀(j:Nat) (e':x8) (k:Nat),([.deep W e sz 0 []]:List x8)[j]?=U e'->EB w e' (R3 G (O S.h) (.slice Z 0 0) (O S.h) j) k->False:=by
   intro j e' k he hk;rw[V3]at hk;cases j with
   |zero=>
    simp at he;subst he;have:=(EB.deep_iff (F:=F) (D:=S.D) (G:=G) (flat:=[]) (fs:=[]) ⟨by simp,.inl ⟨rfl,rfl⟩⟩ .nil).1 hk;simp[H5,E1]at this
   |succ j=>simp at he
  have h1:=(h.more 1).lay hlen hn (new:=[.deep W e sz 0 []]) (ι':=R3 G (O S.h) (.slice Z 0 0)) (λg j q=>b1U q)
   (λj e' he=>by
    cases j with
    |zero=>
     simp at he;subst he;rw[V3];exact⟨[],[],⟨by simp,.inl ⟨rfl,rfl⟩⟩,.nil,rfl,by simp,by simp[H5,E1],λ_=>by simp[M6]⟩
    |succ j=>simp at he)
   (λj e' k he hl hk=>(hno j e' k he hk).elim)
   (λj e' j' e'' k he he' hl hl' hk hk'=>(hno j e' k he hk).elim)
   (λj e' g' j' e'' k he he' hl hl' hk=>(hno j e' k he hk).elim)
  refine⟨F,_,h1.putL (c9Y (d4R hg) hn) rfl λc hc => ?_⟩;have hcn:c=.slice Z 0 0:=by
   cases hc with
   |fv v c hc=>cases hc;rfl
  subst hcn;exact RC.whole (a11 hlen) V3 hor
def f3k(fs:List Fix):∀{S:St} {F:Nat->Prop} {G:Nat->Nat->Value} {ps:List Prop},A2 J F G S a w->b4e fs S=U (S',ps)->(∀p∈ps,p)->∃F' ι',A2 J F' ι' S' a w:=by
 induction fs with
 |nil=>
  intro S F G ps h hf hob;injection hf with hf;injection hf with hf hf2;subst hf;exact⟨F,G,h⟩
 |cons f fs ih=>
  intro S F G ps h hf hob;unfold b4e at hf;cases h1:a7G f S with
  |none=>rw[h1]at hf;cases hf
  |some x1=>
  obtain⟨S1,ps1⟩:=x1;rw[h1]at hf;simp only at hf;cases h2:b4e fs S1 with
  |none=>rw[h2]at hf;cases hf
  |some x2=>
  obtain⟨S2,ps2⟩:=x2;rw[h2]at hf;simp only at hf;injection hf with hf;injection hf with hf hf2;subst hf;subst hf2;obtain⟨F1,ι1,h3⟩:=e7N h h1 (λp hp=>hob p (g0Z.2 (.inl hp)));exact ih h3 h2 (λp hp=>hob p (g0Z.2 (.inr hp)))
end
def a8X:List (Nat×Nat)->Nat×Nat->Nat->Option Nat
 | [],_,_=>Z
 |y::l,x,i=>if y.1==x.1&&y.2==x.2 then U i else a8X l x (i+1)
def b2y(gs:List (Nat×Nat))(g j:Nat):Option (Nat×Nat):=
 match a8X gs (g,j) 1 with
 |some i=>U (i,0)
 |none=>match g with
  | 0=>U (0,j)
  |_+1=>Z
def a0F(gs:List (Nat×Nat))(v:V):V:=
 match v with
 | .own g j sz lo n=>match b2y gs g j with
  |some (g',j')=>.own g' j' sz lo n
  |none=>.bot
 | .ptr g j off=>match b2y gs g j with
  |some (g',j')=>.ptr g' j' off
  |none=>.bot
 | .eptr g j sz idx off=>match b2y gs g j with
  |some (g',j')=>.eptr g' j' sz idx off
  |none=>.bot
 | .fptr _=>.bot
 | .mp g j=>match b2y gs g j with
  |some (g',j')=>.mp g' j'
  |none=>.bot
 |v=>v
def b5U(gs:List (Nat×Nat))(v:V):V:=
 match v with
 | .agg cs=>.agg (cs.map (a0F gs))
 |v=>a0F gs v
def c6n(gs:List (Nat×Nat))(v:V):V:=
 match v with
 | .tup cs=>.tup (cs.map (b5U gs))
 |v=>b5U gs v
def a8V(gs:List (Nat×Nat))(e:x8):x8:=
 match e with
 | .var e cs=>.var e (cs.map (a0F gs))
 | .deep Y _ _ _ _=>.dead
 |e=>e
def b0d(gs:List (Nat×Nat)):Nat->List Nat->List V->List V
 |_,_,[]=>[]
 |i,[],_::vs=>.bot::b0d gs (i+1) [] vs
 |i,k::ks,v::vs=>if Nat.beq k i then c6n gs v::b0d gs (i+1) ks vs else .bot::b0d gs (i+1) (k::ks) vs
def a9d(S:St)(gs0:List (Nat×Nat)):List (Nat×Nat)->List (Option (List x8))
 | []=>[]
 |id::gs=>U [match S.ent id.1 id.2 with
  |some e=>a8V gs0 e
  |none=>.dead]::a9d S gs0 gs
def b0S(gs:List (Nat×Nat)):Nat->List x8->List x8
 |_,[]=>[]
 |j,e::es=>(match a8X gs (0,j) 1 with
  |some _=>.dead
  |none=>a8V gs e)::b0S gs (j+1) es
def a2r(keep:List Nat)(gs:List (Nat×Nat))(S:St):Option St:=
 if a4Z gs then
  U {t:=b0d gs 0 keep S.t,h:=(match S.h with
   |some l::_=>U (b0S gs 0 l)
   |_=>Z)::a9d S gs gs}
 else Z
section
variable {cx:Cx} {J:U2} {F:Nat->Prop} {G:Nat->Nat->Value} {S S':St} {a:Act} {w:World} {keep:List Nat}
def d2I:∀{l:List (Nat×Nat)} {x:Nat×Nat} {i k:Nat},a8X l x i=U k->i<=k/\l[k-i]?=U x
 | [],x,i,k,h=>by cases h
 |y::l,x,i,k,h=>by
  unfold a8X at h;split at h
  ·rename_i q;injection h with h;subst h;simp at q;have:y=x:=Prod.ext q.1 q.2;exact⟨g07 _,by simp[this]⟩
  ·obtain⟨h1,h2⟩:=d2I h;refine⟨by omega,?_⟩;have:k-i=(k-(i+1))+1:=by omega
   rw[this];simpa using h2
def a5X(G:Nat->Nat->Value)(gs:List (Nat×Nat))(g j:Nat):Value:=
 match g with
 | 0=>G 0 j
 |g+1=>match gs[g]? with
  |some id=>G id.1 id.2
  |none=>.nilFunc
def c3J{gs0:List (Nat×Nat)}:∀{gs:List (Nat×Nat)} {i:Nat} {id:Nat×Nat},gs[i]?=U id->(a9d S gs0 gs)[i]?=U (U [match S.ent id.1 id.2 with
  |some e=>a8V gs0 e
  |none=>.dead])
 |id'::gs,0,id,h=>by simp at h;subst h;simp[a9d]
 |id'::gs,i+1,id,h=>by simp at h;simp[a9d,c3J h]
def d1H{gs0:List (Nat×Nat)}:∀{gs:List (Nat×Nat)},(a9d S gs0 gs).length=(O gs)
 | []=>rfl
 |_::gs=>by simp[a9d,d1H]
def d64{gs:List (Nat×Nat)}(hp:a2r keep gs S=U S')(hD:S.D 0):S'.D 0:=by
 unfold a2r at hp;split at hp<;>try (cases hp;done)
 injection hp with hp;subst hp;obtain⟨l,hl⟩:=hD;have:∃t,S.h=U l::t:=by
  cases hh:S.h with
  |nil=>rw[hh]at hl;simp at hl
  |cons x t=>rw[hh]at hl;simp at hl;exact⟨t,by rw[hl]⟩
 obtain⟨t,ht⟩:=this;rw[ht];exact⟨_,rfl⟩
def b4c{gs:List (Nat×Nat)}(hp:a2r keep gs S=U S'){g j g' j':Nat}(hn:b2y gs g j=U (g',j'))(hD:S.D g):S'.D g'/\a5X G gs g' j'=G g j:=by
 unfold b2y at hn;split at hn
 ·rename_i i hi;injection hn with hn;injection hn with h1 h2;subst h1;subst h2;unfold a2r at hp;split at hp<;>try (cases hp;done)
  injection hp with hp;subst hp;obtain⟨h3,h4⟩:=d2I hi;obtain⟨m,rfl⟩:∃m,i=m+1:=⟨i-1,by omega⟩
  simp only[Nat.add_sub_cancel]at h4;refine⟨⟨_,(g19).trans (c3J h4)⟩,?_⟩;simp[a5X,h4]
 ·split at hn<;>try (cases hn;done)
  injection hn with hn;injection hn with h1 h2;subst h1;subst h2;exact⟨d64 hp hD,rfl⟩
def c99:∀{l:List (Nat×Nat)} {x:Nat×Nat} {i:Nat},a8X l x i=Z->x ∉ l
 | [],x,i,_=>by simp
 |y::l,x,i,h=>by
  unfold a8X at h;split at h
  ·cases h
  ·rename_i q;intro hx;rcases g1a.1 hx with rfl|hx
   ·simp at q
   ·exact c99 h hx
def d3d{gs:List (Nat×Nat)}:∀{l:List x8} {i j:Nat} {e:x8},(b0S gs i l)[j]?=U e->e=.dead\/∃e0,l[j]?=U e0/\e=a8V gs e0/\(0,i+j) ∉ gs
 | [],i,j,e,h=>by simp[b0S]at h
 |e1::l,i,0,e,h=>by
  simp only[b0S,g14]at h;injection h with h;split at h
  ·exact .inl h.symm
  ·rename_i hq;exact .inr ⟨e1,rfl,h.symm,by simpa using c99 hq⟩
 |e1::l,i,j+1,e,h=>by
  simp only[b0S,g19]at h;rcases d3d h with h1|⟨e0,h1,h2,h3⟩
  ·exact .inl h1
  ·exact .inr ⟨e0,by simpa using h1,h2,by rw[show i+(j+1)=i+1+j by omega];exact h3⟩
def RC.ren{gs:List (Nat×Nat)}(hp:a2r keep gs S=U S'){v:V}{c:Value}(h:RC w F S.D G v c):RC w F S'.D (a5X G gs) (a0F gs v) c:=by
 cases h with
 |fv v c h=>
  have:a0F gs v=v:=by cases h<;>rfl
  rw[this];exact .fv _ _ h
 |own g j sz lo n b nn cap hD hι hlo hb0 hb1=>
  unfold a0F;simp only;split
  ·rename_i g' j' hn;obtain⟨h1,h2⟩:=b4c (G:=G) hp hn hD;exact .own g' j' sz lo n b nn cap h1 (h2.trans hι) hlo hb0 hb1
  ·exact .fv _ _ (.bot _ rfl)
 |own0 g j sz lo b cap hD hlo=>
  unfold a0F;simp only;split
  ·rename_i g' j' hn;obtain⟨h1,h2⟩:=b4c (G:=G) hp hn hD;exact .own0 g' j' sz lo b cap h1 hlo
  ·exact .fv _ _ (.bot _ rfl)
 |ptr g j off E1 hD hι=>
  unfold a0F;simp only;split
  ·rename_i g' j' hn;obtain⟨h1,h2⟩:=b4c (G:=G) hp hn hD;exact .ptr g' j' off E1 h1 (h2.trans hι)
  ·exact .fv _ _ (.bot _ rfl)
 |eptr g j sz idx off b hD hι=>
  unfold a0F;simp only;split
  ·rename_i g' j' hn;obtain⟨h1,h2⟩:=b4c (G:=G) hp hn hD;exact .eptr g' j' sz idx off b h1 (by rw[h2];exact hι)
  ·exact .fv _ _ (.bot _ rfl)
 |fptr cs g o ds hF h hs=>exact .fv _ _ (.bot _ rfl)
 |mp g j E1 hD hι=>
  unfold a0F;simp only;split
  ·rename_i g' j' hn;obtain⟨h1,h2⟩:=b4c (G:=G) hp hn hD;exact .mp g' j' E1 h1 (h2.trans hι)
  ·exact .fv _ _ (.bot _ rfl)
def B5.maps{C α' β:Type}{R:C->β->Prop}{R':α'->β->Prop}(f:C->α')(hf:∀x y,R x y->R' (f x) y):∀{D9 bs},B5 R D9 bs->B5 R' (D9.map f) bs
 |_,_,.nil=>.nil
 |_,_,.cons h t=>.cons (hf _ _ h) (t.maps f hf)
def RA.ren{gs:List (Nat×Nat)}(hp:a2r keep gs S=U S'){v:V}{c:Value}(h:RA w F S.D G v c):RA w F S'.D (a5X G gs) (b5U gs v) c:=by
 cases h with
 |cell v c h=>
  have:b5U gs v=a0F gs v:=by
   cases h with
   |fv v c h=>cases h<;>rfl
   |_=>rfl
  rw[this];exact .cell _ _ (h.ren hp)
 |agg cs ds h=>exact .agg _ _ (h.maps _ λ_ _ x=>x.ren hp)
def RV.ren{gs:List (Nat×Nat)}(hp:a2r keep gs S=U S'){v:V}{c:Value}(h:RV w F S.D G v c):RV w F S'.D (a5X G gs) (c6n gs v) c:=by
 cases h with
 |one v c h=>
  have:c6n gs v=b5U gs v:=by
   cases h with
   |cell v c h=>
    cases h with
    |fv v c h=>cases h<;>rfl
    |_=>rfl
   |agg cs ds h=>rfl
  rw[this];exact .one _ _ (h.ren hp)
 |tup cs ds h=>exact .tup _ _ (h.maps _ λ_ _ x=>x.ren hp)
 |any c=>exact .any c
def b9a{gs:List (Nat×Nat)}(hp:a2r keep gs S=U S'):∀{vs:List V} {cs:List Value},B5 (RV w F S.D G) vs cs->∀(i:Nat) (ks:List Nat),B5 (RV w F S'.D (a5X G gs)) (b0d gs i ks vs) cs
 |_,_,.nil,i,ks=>by cases ks<;>exact .nil
 |_,_,.cons h t,i,[]=>.cons (.any _) (b9a hp t _ _)
 |_,_,.cons h t,i,k::ks=>by
  unfold b0d;split
  ·exact .cons (h.ren hp) (b9a hp t _ _)
  ·exact .cons (.any _) (b9a hp t _ _)
def c1e{gs:List (Nat×Nat)}(hp:a2r keep gs S=U S'){g j:Nat}{e:x8}(he:S'.ent g j=U e):e=.dead\/∃g0 j0 e0,S.ent g0 j0=U e0/\e=a8V gs e0/\a5X G gs g j=G g0 j0/\((g=0/\g0=0/\j=j0/\(0,j) ∉ gs)\/(∃i,g=i+1/\j=0/\gs[i]?=U (g0,j0))):=by
 unfold a2r at hp;split at hp<;>try (cases hp;done)
 injection hp with hp;subst hp;cases g with
 |zero=>
  unfold St.ent at he;simp only[g14]at he;split at he<;>try (cases he;done)
  rename_i l hl;injection hl with hl;split at hl<;>try (cases hl;done)
  rename_i l0 t hh;injection hl with hl;subst hl;rcases d3d he with h1|⟨e0,h1,h2,h3⟩
  ·exact .inl h1
  ·exact .inr ⟨0,j,e0,by unfold St.ent;rw[hh];exact h1,h2,rfl,.inl ⟨rfl,rfl,rfl,by simpa using h3⟩⟩
 |succ i=>
  unfold St.ent at he;simp only[g19]at he;split at he<;>try (cases he;done)
  rename_i l hl;have hlt:i<(O gs):=by
   have:=(g06.1 hl).1;rwa[d1H]at this
  have hgi:gs[i]?=U gs[i]:=g0Y hlt;generalize gs[i]=id at hgi;rw[c3J hgi]at hl;injection hl with hl;injection hl with hl;subst hl;cases j with
  |succ j=>simp at he
  |zero=>
   simp only[g14]at he;injection he with he;cases hx:S.ent id.1 id.2 with
   |none=>rw[hx]at he;exact .inl he.symm
   |some e0=>
    rw[hx]at he;exact .inr ⟨id.1,id.2,e0,hx,he.symm,by simp[a5X,hgi],.inr ⟨i,rfl,rfl,hgi⟩⟩
def f7N{C:Type}{l:List C}(h:l.Nodup){i j:Nat}{x:C}(hi:l[i]?=U x)(hj:l[j]?=U x):i=j:=by
 obtain⟨h1,h2⟩:=g06.1 hi;obtain⟨h3,h4⟩:=g06.1 hj;exact(List.getElem_inj h).1 (h2.trans h4.symm)
def e7w{gs:List (Nat×Nat)}(h:A2 J F G S a w)(hp:a2r keep gs S=U S'):∃ι',A2 J F ι' S' a w:=by
  have hnd:gs.Nodup:=by
    unfold a2r at hp;split at hp<;>try (cases hp;done)
    rename_i hchk;exact a6k hchk
  have hlive:∀e:x8,(a8V gs e).live=Y->e.live=Y/\∀c k,EB w (a8V gs e) c k->EB w e c k:=by
    intro e he;cases e with
    | deep o e sz n rows=>
      cases o with
      |true=>cases he
      |false=>exact⟨rfl,λ_ _ hk=>hk⟩
    |_=>exact⟨he,λ_ _ hk=>hk⟩
  have ht:S'.t=b0d gs 0 keep S.t:=by
    unfold a2r at hp;split at hp<;>try (cases hp;done)
    injection hp with hp;subst hp;rfl
  refine⟨a5X G gs,?_⟩;exact
    { F0:=h.F0,F1:=h.F1,F2:=h.F2,kept:=h.kept
      tmps:=by rw[ht];exact b9a hp h.tmps 0 keep
      ents:=λg j e he=>by
        rcases c1e (G:=G) hp he with rfl|⟨g0,j0,e0,h0,rfl,h2,_⟩
        . trivial
        . rw[h2];have hr:=h.ents _ _ _ h0;cases e0 with
          | var e cs=>
            obtain⟨g1,cur,q1,q2,q3⟩:=hr;exact⟨g1,cur,q1,q2,q3.maps _ λ_ _ x=>x.ren hp⟩
          |dead=>exact hr
          |arr e sz n rows=>exact hr
          |row e sz n rows=>exact hr
          |frz sz n rows=>exact hr
          |map t m es=>exact hr
          | deep o e sz n rows=>
            cases o with
            |true=>trivial
            | false=>
              obtain⟨flat,fs,q1,q2,q3,q4,q5,q6⟩:=hr;exact⟨flat,fs,q1,(q2.blOf (q6 rfl).flat).kl,q3,q4,q5,q6⟩
      sep:=λg j e k he hl hk=>by
        rcases c1e (G:=G) hp he with rfl|⟨g0,j0,e0,h0,rfl,h2,_⟩
        . cases hl
        . rw[h2]at hk;exact h.sep _ _ _ k h0 (hlive _ hl).1 ((hlive _ hl).2 _ _ hk)
      inj:=λg1 j1 e1 g2 j2 e2 k he1 he2 hl1 hl2 hk1 hk2=>by
        rcases c1e (G:=G) hp he1 with rfl|⟨x1,y1,z1,a1,rfl,b1,c1⟩
        . cases hl1
        rcases c1e (G:=G) hp he2 with rfl|⟨x2,y2,z2,a2,rfl,b2,c2⟩
        . cases hl2
        rw[b1]at hk1;rw[b2]at hk2;obtain⟨q1,q2⟩:=h.inj _ _ _ _ _ _ k a1 a2 (hlive _ hl1).1 (hlive _ hl2).1 ((hlive _ hl1).2 _ _ hk1) ((hlive _ hl2).2 _ _ hk2);rcases c1 with⟨u1,u2,u3,u4⟩|⟨i1,u1,u2,u3⟩<;>rcases c2 with⟨v1,v2,v3,v4⟩|⟨i2,v1,v2,v3⟩
        . exact⟨by omega,by omega⟩
        . refine absurd (g1e v3) ?_;rw[<-q1,<-q2,u2,<-u3];exact u4
        . refine absurd (g1e u3) ?_;rw[q1,q2,v2,<-v3];exact v4
        . rw[q1,q2]at u3;have:=f7N hnd u3 v3;exact⟨by omega,by omega⟩
      defers:=h.defers
      pins:=λj c hc=>by
        obtain⟨h1,h2⟩:=h.pins j c hc;exact⟨d64 hp h1,h2⟩}
end
def b1m(cx:Cx)(k:List Item)(S:St)(sc:Z1)(fs:List Fix)(keep:List Nat)(gs:List (Nat×Nat)):Option (List Item×St×List Prop):=
 match goM cx 4000 k S sc with
 |some (k1,S1,ps)=>match b4e fs S1 with
  |some (S2,qs)=>match a2r keep gs S2 with
   |some S3=>U (k1,S3,ps++qs)
   |none=>Z
  |none=>Z
 |none=>Z
def P5.seg0{cx:Cx}{X:U7}{res:V}{outs:List (Option V)}{k k':List Item}{S S':St}{sc:Z1}{fs:List Fix}{keep:List Nat}{gs:List (Nat×Nat)}{ps:List Prop}(hg:b1m cx k S sc fs keep gs=U (k',S',ps))(hob:∀p∈ps,p)(h:P5 cx X res outs k' S'):P5 cx X res outs k S:=by
 unfold b1m at hg;split at hg<;>try (cases hg;done)
 rename_i k1 S1 ps' h1;split at hg<;>try (cases hg;done)
 rename_i S2 qs h2;split at hg<;>try (cases hg;done)
 rename_i S3 h3;injection hg with hg;injection hg with e1 e2;injection e2 with e2 e3;subst e1;subst e2;subst e3;refine P5.go h1 (λp hp=>hob p (g0Z.2 (.inl hp))) ?_;intro w0 F0 fp cargs bs hp hF0 F G a w b cs hrel hb1 hb2;obtain⟨F',ι',hrel'⟩:=f3k fs hrel h2 (λp hp=>hob p (g0Z.2 (.inr hp)));obtain⟨ι2,hrel2⟩:=e7w hrel' h3;exact h w0 F0 fp cargs bs hp hF0 F' ι2 a w b cs hrel2 hb1 hb2
def b2p(cx:Cx)(X:U7)(k:List Item)(S:St)(sc:Z1):Option (V×List (Option V)×List Prop):=
 match goM cx 4000 k S sc with
 |some (k1,S1,ps)=>match c5D cx X k1 S1 with
  |some (res,outs,qs)=>U (res,outs,ps++qs)
  |none=>Z
 |none=>Z
def P5.fin0{cx:Cx}{X:U7}{res:V}{outs:List (Option V)}{k:List Item}{S:St}{sc:Z1}{ps:List Prop}(hf:cx.P.funcs[X.f]?=U X.fn)(hg:b2p cx X k S sc=U (res,outs,ps))(hob:∀p∈ps,p):P5 cx X res outs k S:=by
 unfold b2p at hg;split at hg<;>try (cases hg;done)
 rename_i k1 S1 ps' h1;split at hg<;>try (cases hg;done)
 rename_i r o qs h2;injection hg with hg;injection hg with e1 e2;injection e2 with e2 e3;subst e1;subst e2;subst e3;exact P5.go h1 (λp hp=>hob p (g0Z.2 (.inl hp))) (P5.ret hf h2 λp hp=>hob p (g0Z.2 (.inr hp)))
def V7:List Prop->Prop
 | []=>True
 |p::ps=>p/\V7 ps
def V7.mem:∀{ps:List Prop},V7 ps->∀p∈ps,p
 |_::_,h,p,hp=>by
  rcases g1a.1 hp with rfl|hp
  ·exact h.1
  ·exact V7.mem h.2 p hp
def V7.nil:V7 []:=trivial
def P5.seg{cx:Cx}{X:U7}{res:V}{outs:List (Option V)}{k k':List Item}{S S':St}(sc:Z1)(fs:List Fix)(keep:List Nat)(gs:List (Nat×Nat))(ps:List Prop)(hob:V7 ps)(h:P5 cx X res outs k' S')(hg:b1m cx k S sc fs keep gs=U (k',S',ps)):P5 cx X res outs k S:=
 P5.seg0 hg hob.mem h
def P5.fin{cx:Cx}{X:U7}{res:V}{outs:List (Option V)}{k:List Item}{S:St}(hf:cx.P.funcs[X.f]?=U X.fn)(sc:Z1)(ps:List Prop)(hob:V7 ps)(hg:b2p cx X k S sc=U (res,outs,ps)):P5 cx X res outs k S:=
 P5.fin0 hf hg hob.mem
def a8K:V->Bool
 | .osl .. | .dsl .. | .optr .. => Y
 |_=>W
def a3d:List (Option Nat)->List V->Bool
 | [],[]=>Y
 |none::om,.osl .. :: _=>W
 |none::om,.dsl .. :: _=>W
 |none::om,_::vs=>a3d om vs
 |some _::om,.osl .. :: vs=>a3d om vs
 |some _::om,.dsl .. :: vs=>a3d om vs
 |_,_=>W
def d6V:PM->V->Bool
 | .val _ om,.agg vs=>a3d om vs
 | .val ..,_=>W
 | .part,_=>W
 |_,v=>a8K v
def a5p:Nat->List (Option (Nat×PM))->List V->Bool
 |_,[],[]=>Y
 |j,Z::os,v::vs=>a5p (j+(Q0 0 j v).2.length) os vs
 |j,U (j',m)::os,v::vs=>Nat.beq j' j&&d6V m v&&a5p (j+(Q0 0 j v).2.length) os vs
 |_,_,_=>W
def b7i:Nat->List V
 | 0=>[]
 |n+1=>.bot::b7i n
def b2t(X:U7)(args:List V):St:=
 let x:=a0T 0 0 args
 {t:=x.1++b7i (X.fn.ntmps-(O args)),h:=[U x.2]}
section
variable {w:World} {F:Nat->Prop}
def f8n{v:V}{c:Value}{f:List Nat}(h:BA w F v c f)(j:Nat):∃bs:List Value,(O bs)=(Q0 0 j v).2.length/\L8 w (Q0 0 j v).2 bs f/\(a8K v=Y->bs.head?=U c)/\
  ∀(D:Nat->Prop) (G:Nat->Nat->Value),D 0->At G 0 j bs->f.Nodup->RA w F D G (Q0 0 j v).1 c/\Lie w F D G (Q0 0 j v).2 bs:=by
 by_cases ho:a8K v=Y
 ·cases h with
  |cell v c f h=>
   cases h with
   |fv v c h=>cases h<;>cases ho
   |osl e sz n rows c h=>
    refine⟨[c],rfl,.one λk hk=>X1.2 hk,λ_=>rfl,λD G hD hat _=>⟨.cell _ _ (RC.whole hD (hat 0 c rfl) h),?_⟩⟩;intro k e' b he hb;cases k with
    |zero=>
     simp[Q0,O8]at he hb;subst he;subst hb;exact h
    |succ k=>simp[Q0,O8]at he
   |dsl e sz n rows c flat fs h1 h2 h3 h4=>
    obtain⟨bs,q1,q2,q3⟩:=c1W (grp:=0) (BC.dsl e sz n rows c flat fs h1 h2 h3 h4) j;refine⟨[c],rfl,.one λk hk=>(EB.deep_iff (D:=λ_=>True) (G:=λ_ _=>.nilFunc) h1 h2.kl).1 hk,λ_=>rfl,λD G hD hat hnd=>⟨.cell _ _ (RC.wholeO hD (hat 0 c rfl) h1),?_⟩⟩;intro k e' b he hb;cases k with
    |zero=>
     simp[Q0,O8]at he hb;subst he;subst hb;exact⟨flat,fs,h1,h2.kl,h3,h4,hnd,λ_=>M6.of_flat h2.noRef⟩
    |succ k=>simp[Q0,O8]at he
  |agg cs ds f h=>cases ho
  |optr e cs g cur f hg h=>
   obtain⟨bs,h1,h2,h3⟩:=a80 (grp:=0) h (j+1);refine⟨.pointer (U ⟨g,0,Z⟩)::bs,by simp[Q0,h1],?_,λ_=>rfl,λD G hD hat hnd => ?_⟩
   ·exact L8.cons (w:=w) (e:=.var e (Q6 0 (j+1) cs).1) (b:=.pointer (U ⟨g,0,Z⟩)) (f1:=[g]) (λk hk=>by
     have hk:E1 (.pointer (U ⟨g,0,Z⟩))=U k:=hk;simp[E1]at hk;simp[hk]) h2
   have hat':At G 0 (j+1) bs:=λk b hb=>by
    have:=hat (k+1) b (by simpa using hb);rw[<-this];congr 1;omega
   obtain⟨x,y⟩:=h3 D G hD hat' (g2h.1 hnd).2;refine⟨.cell _ _ (.ptr 0 j 0 g hD (hat 0 _ rfl)),?_⟩;intro k e' b he hb;cases k with
   |zero=>
    simp[Q0]at he hb;subst he;subst hb;exact⟨g,cur,rfl,hg,x⟩
   |succ k=>exact y k e' b (by simpa[Q0]using he) (by simpa using hb)
 ·obtain⟨bs,h1,h2,h3⟩:=c2Y (grp:=0) h j;exact⟨bs,h1,h2,λq=>absurd q ho,h3⟩
def c7M{pre b1 b2:List Value}:∀{om:List (Option Nat)} {j:Nat} {ds:List Value},a68 (pre++b1) om j ds->a68 (pre++(b1++b2)) om j ds
 | [],_,[],_=>trivial
 |none::om,j,d::ds,h=>⟨h.1,c7M h.2⟩
 |some _::om,j,d::ds,h=>by
  refine⟨?_,c7M h.2⟩;have h1:=h.1;rw[<-g1d,g1o (g06.1 h1).1];exact h1
 | [],_,_::_,h=>h.elim
 |none::_,_,[],h=>h.elim
 |some _::_,_,[],h=>h.elim
def d2x:∀{vs:List V} {cs:List Value} {f:List Nat},BL w F vs cs f->∀j,∃bs:List Value,(O bs)=(Q6 0 j vs).2.length/\L8 w (Q6 0 j vs).2 bs f/\
    (∀(om:List (Option Nat)) (pre:List Value),(O pre)=j->a3d om vs=Y->a68 (pre++bs) om j cs)/\
    ∀(D:Nat->Prop) (G:Nat->Nat->Value),D 0->At G 0 j bs->f.Nodup->B5 (RC w F D G) (Q6 0 j vs).1 cs/\Lie w F D G (Q6 0 j vs).2 bs
  |_,_,_,.nil,j=>⟨[],rfl,.nil,λom pre _ h=>by cases om with|nil=>trivial|cons o om=>cases o<;>simp[a3d]at h,λD G hD hat _=>⟨.nil,λk e b he=>by simp[Q6]at he⟩⟩
  | _,_,_,.cons v c f vs cs fs h t,j=>by
    have hone:=h.one;have hb:∃b1:List Value,(O b1)=(O8 0 j v).2.length/\L8 w (O8 0 j v).2 b1 f/\(a8K v=Y->b1=[c])/\(a8K v=W->b1=[])/\∀(D:Nat->Prop) (G:Nat->Nat->Value),D 0->At G 0 j b1->f.Nodup->RC w F D G (O8 0 j v).1 c/\Lie w F D G (O8 0 j v).2 b1:=by
      cases h with
      | fv v c h=>
        obtain⟨b1,q1,q2,q3⟩:=c1W (grp:=0) (BC.fv (w:=w) v c h) j;have hv:(O8 0 j v).2=[]/\a8K v=W:=by cases h<;>exact⟨rfl,rfl⟩
        have:b1=[]:=g1c (by rw[q1,hv.1];rfl);exact⟨b1,q1,q2,λq=>by(rw[hv.2]at q;cases q),λ_=>this,q3⟩
      | osl e sz n rows c h=>
        refine⟨[c],rfl,.one λk hk=>X1.2 hk,λ_=>rfl,(λq=>by cases q),λD G hD hat _=>⟨RC.whole hD (hat 0 c rfl) h,?_⟩⟩;intro k e' b he hb;cases k with
        | zero=>
          simp[O8]at he hb;subst he;subst hb;exact h
        |succ k=>simp[O8]at he
      | dsl e sz n rows c flat fs h1 h2 h3 h4=>
        refine⟨[c],rfl,.one λk hk=>(EB.deep_iff (D:=λ_=>True) (G:=λ_ _=>.nilFunc) h1 h2.kl).1 hk,λ_=>rfl,(λq=>by cases q),λD G hD hat hnd=>⟨RC.wholeO hD (hat 0 c rfl) h1,?_⟩⟩;intro k e' b he hb;cases k with
        | zero=>
          simp[O8]at he hb;subst he;subst hb;exact⟨flat,fs,h1,h2.kl,h3,h4,hnd,λ_=>M6.of_flat h2.noRef⟩
        |succ k=>simp[O8]at he
    obtain⟨b1,hl1,hf1,hi1,hi0,h1⟩:=hb;obtain⟨b2,hl2,hf2,hp2,h2⟩:=d2x t (j+(O8 0 j v).2.length);refine⟨b1++b2,by simp[Q6,hl1,hl2],hf1.append hf2 hl1,?_,λD G hD hat hnd => ?_⟩
    . intro om pre hpre hok;have hnext:∀om,a3d om vs=Y->a68 (pre++(b1++b2)) om (j+(O8 0 j v).2.length) cs:=by
        intro om hok;have:=hp2 om (pre++b1) (by simp[hpre,hl1]) hok;rwa[g1d]at this
      cases om with
      |nil=>simp[a3d]at hok
      | cons o om=>
        by_cases hv:a8K v=Y
        . obtain rfl:=hi1 hv;have hlen:(O8 0 j v).2.length=1:=by rw[<-hl1];rfl
          rw[hlen]at hnext;cases o with
          | none => cases v<;>first|(cases hv;done)|(simp[a3d]at hok;done)|skip
                    cases h;rename_i h;cases h
          | some e=>
            refine⟨?_,hnext om ?_⟩
            . rw[g1j (by omega)];simp[hpre]
            . cases v<;>first|(cases hv;done)|(simpa[a3d]using hok)|(simp[a3d]at hok;done)
        . have hv:a8K v=W:=by simpa using hv
          obtain rfl:=hi0 hv;have hlen:(O8 0 j v).2.length=0:=by rw[<-hl1];rfl
          rw[hlen]at hnext;cases o with
          | none=>
            refine⟨hone,hnext om ?_⟩;cases v<;>first|(cases hv;done)|(simpa[a3d]using hok)
          |some e=>cases v<;>first|(cases hv;done)|(simp[a3d]at hok;done)
    . rw[g1b]at hnd;obtain⟨x1,y1⟩:=h1 D G hD hat.left hnd.1;obtain⟨x2,y2⟩:=h2 D G hD (by rw[<-hl1];exact hat.right) hnd.2.1;exact⟨.cons x1 x2,y1.append y2 hl1.symm⟩
def f6O{v:V}{c:Value}{f:List Nat}(h:BA w F v c f)(j:Nat):∃bs:List Value,(O bs)=(Q0 0 j v).2.length/\L8 w (Q0 0 j v).2 bs f/\
  (∀(m:PM) (oms:List (Option (Nat×PM))) (cs pre b2:List Value),(O pre)=j->d6V m v=Y->a3s oms cs (pre++(bs++b2))->a3s (U (j,m)::oms) (c::cs) (pre++(bs++b2)))/\
  ∀(D:Nat->Prop) (G:Nat->Nat->Value),D 0->At G 0 j bs->f.Nodup->RA w F D G (Q0 0 j v).1 c/\Lie w F D G (Q0 0 j v).2 bs:=by
 by_cases hv:∃cs,v=.agg cs
 ·obtain⟨cs,rfl⟩:=hv;cases h with
  |cell v c f h=>cases h with|fv v c h=>cases h
  |agg cs ds f h=>
   obtain⟨bs,h1,h2,hp,h3⟩:=d2x h j;refine⟨bs,h1,h2,?_,λD G hD hat hnd=>⟨.agg _ _ (h3 D G hD hat hnd).1,(h3 D G hD hat hnd).2⟩⟩;intro m oms cs' pre b2 hpre hm t;cases m with
   |val ck om=>exact .agg _ _ _ _ _ _ _ (c7M (hp om pre hpre hm)) t
   |ptr ck om=>cases hm
   |row=>cases hm
   |part=>cases hm
 ·obtain⟨bs,h1,h2,hh,h3⟩:=f8n h j;refine⟨bs,h1,h2,?_,h3⟩;intro m oms cs' pre b2 hpre hm t;cases m with
  |val ck om=>cases v<;>first|exact absurd ⟨_,rfl⟩ hv|cases hm
  |part=>cases hm
  |ptr ck om=>
   refine .pin _ _ _ _ _ _ rfl ?_ t;have:=hh hm;cases bs with
   |nil=>cases this
   |cons b b1=>
    injection this with this;subst this;rw[g1j (by omega)];simp[hpre]
  |row=>
   refine .pin _ _ _ _ _ _ rfl ?_ t;have:=hh hm;cases bs with
   |nil=>cases this
   |cons b b1=>
    injection this with this;subst this;rw[g1j (by omega)];simp[hpre]
def e7k{vs:List V}{cs:List Value}{f:List Nat}(h:BS w F vs cs f):∀j,∃bs:List Value,(O bs)=(a0T 0 j vs).2.length/\L8 w (a0T 0 j vs).2 bs f/\
  (∀(oms:List (Option (Nat×PM))) (pre:List Value),(O pre)=j->a5p j oms vs=Y->a3s oms cs (pre++bs))/\
  ∀(D:Nat->Prop) (G:Nat->Nat->Value),D 0->At G 0 j bs->f.Nodup->B5 (RA w F D G) (a0T 0 j vs).1 cs/\Lie w F D G (a0T 0 j vs).2 bs:=by
 induction h with
 |nil=>
  refine λj=>⟨[],rfl,.nil,λoms pre _ hp => ?_,λD G hD hat _=>⟨.nil,λk e b he=>by simp[a0T]at he⟩⟩
  cases oms with
  |nil=>exact .nil _
  |cons o oms=>cases o<;>simp[a5p]at hp
 |cons v c f vs cs fs h t ih=>
  intro j;obtain⟨b1,hl1,hf1,hh1,h1⟩:=f6O h j;obtain⟨b2,hl2,hf2,hp2,h2⟩:=ih (j+(Q0 0 j v).2.length);refine⟨b1++b2,by simp[a0T,hl1,hl2],hf1.append hf2 hl1,?_,λD G hD hat hnd => ?_⟩
  ·intro oms pre hpre hp;cases oms with
   |nil=>simp[a5p]at hp
   |cons o oms=>
    have hnext:∀oms,a5p (j+(Q0 0 j v).2.length) oms vs=Y->a3s oms cs (pre++(b1++b2)):=by
     intro oms hp;have:=hp2 oms (pre++b1) (by simp[hpre,hl1]) hp;rwa[g1d]at this
    cases o with
    |none=>exact .skip _ _ _ _ (hnext oms (by simpa[a5p]using hp))
    |some q=>
     obtain⟨j',m⟩:=q;simp only[a5p,g02]at hp;obtain⟨⟨e1,e2⟩,e3⟩:=hp;have hj:j'=j:=g1B e1;subst hj;exact hh1 m oms cs pre b2 hpre e2 (hnext oms e3)
  ·rw[g1b]at hnd;obtain⟨x1,y1⟩:=h1 D G hD hat.left hnd.1;obtain⟨x2,y2⟩:=h2 D G hD (by rw[<-hl1];exact hat.right) hnd.2.1;exact⟨.cons x1 x2,y1.append y2 hl1.symm⟩
def d9q{D:Nat->Prop}{G:Nat->Nat->Value}:∀n,B5 (RV w F D G) (b7i n) (g00 n undef)
 | 0=>.nil
 |n+1=>.cons (.any _) (d9q n)
def BS.len{vs:List V}{cs:List Value}{f:List Nat}(h:BS w F vs cs f):(O vs)=(O cs):=by
 induction h with
 |nil=>rfl
 |cons _ _ _ _ _ _ _ _ ih=>simp[ih]
end
theorem a1n.of{cx:Cx}{X:U7}{args:List V}{res:V}{outs:List (Option V)}{c:Code}(hf:cx.P.funcs[X.f]?=some X.fn)(hb:X.fn.body=some c) (hn:(X.fn.name == "runtime.NumGoroutine")=false) (ho:a5p 0 X.oms args=true)
    (h:P5 cx X res outs [.code c] (b2t X args)):a1n cx.P X.f args res outs:=by
  refine ⟨⟨X.fn,hf,hn,by rw [hb];rfl⟩,?_⟩;intro w F cargs fp hbs hfpn hfp hF;obtain ⟨bs,hl,hbf,hpin,hlie⟩:=e7k hbs 0;have hpin':=hpin X.oms [] rfl ho;rw [g1z] at hpin';obtain ⟨hargs,hents⟩:=hlie (b2t X args).D (a6Q (fun _ _=>.nilFunc) 0 bs) ⟨_,rfl⟩ (fun k b hb=>by rw [g1U];exact a6D hb) hfpn;have hent:∀g j e,(b2t X args).ent g j=some e->g=0/\(a0T 0 0 args).2[j]?=some e:=by
    intro g j e he;unfold St.ent b2t at he;cases g with
    | zero=>exact ⟨rfl,he⟩
    | succ g=>simp at he
  have hget:∀j e,(a0T 0 0 args).2[j]?=some e->∃b,bs[j]?=some b/\a6Q (fun _ _=>.nilFunc) 0 bs 0 j=b:=by
    intro j e he;have hj:j<bs.length:=by rw [hl];exact (g06.1 he).1
    exact ⟨bs[j],g0Y hj,a6D (g0Y hj)⟩
  have hrel:A2 ⟨w,F,(· ∈ fp),bs⟩ F (a6Q (fun _ _=>.nilFunc) 0 bs) (b2t X args) {tmps:=cargs.toArray++Array.replicate (X.fn.ntmps-cargs.toArray.size) undef,defers:=[]} w:=
    { F0:=fun _ x=>x,F1:=hF,F2:=fun _ x=>.inl x,kept:=.refl _ _
      tmps:=by
        show B5 _ ((a0T 0 0 args).1++b7i (X.fn.ntmps-args.length)) _
        simp only [Array.toList_append,Array.toList_replicate,g2P];rw [hbs.len];exact (hargs.imp fun _ _ x=>RV.one _ _ x).app (d9q _)
      ents:=fun g j e he=>by
        obtain ⟨rfl,he⟩:=hent g j e he;obtain ⟨b,hb,hv⟩:=hget j e he;rw [hv];exact hents j e b he hb
      sep:=fun g j e k he hl' hk=>by
        obtain ⟨rfl,he⟩:=hent g j e he;obtain ⟨b,hb,hv⟩:=hget j e he;rw [hv] at hk;have:=hbf.mem he hb hk;exact ⟨(hfp k this).1,.inl this⟩
      inj:=fun g j e g' j' e' k he he' hl1 hl2 hk hk'=>by
        obtain ⟨rfl,he⟩:=hent g j e he;obtain ⟨rfl,he'⟩:=hent g' j' e' he';obtain ⟨b,hb,hv⟩:=hget j e he;obtain ⟨b',hb',hv'⟩:=hget j' e' he';rw [hv] at hk;rw [hv'] at hk';exact ⟨rfl,hbf.inj hfpn he hb hk he' hb' hk'⟩
      defers:=rfl
      pins:=fun j c hc=>⟨⟨_,rfl⟩,a6D hc⟩}
  intro cs;let b:Frame:={ (default:Frame) with fn:=X.f,kind:=.normal}
  have henter:Frame.enter cx.P X.f cargs.toArray .normal =
      b.at {tmps:=cargs.toArray++Array.replicate (X.fn.ntmps-cargs.toArray.size) undef,defers:=[]} [.code c]:=by
    simp [Frame.enter,Frame.at,hf,hb,b]
  obtain ⟨e,w',fr,h1,h2,h3,h4⟩:=h w F fp cargs bs hpin' hF F _ _ w b cs hrel rfl rfl;rw [<-henter] at h2;exact ⟨e,w',fr,h1,h2,h3,h4⟩
inductive n6 (R S B:Type) where
 |ret (r:R)
 |brk (b:B)
 |nxt (s:S)
inductive r9 (R B:Type) where
 |ret (r:R)
 |brk (b:B)
def a17{R S B:Type}(body:S->Option (n6 R S B)):Nat->S->Option (r9 R B)
 | 0,_=>Z
 |n+1,s=>match body s with
  |some (.ret r)=>U (.ret r)
  |some (.brk s)=>U (.brk s)
  |some (.nxt s)=>a17 body n s
  |none=>Z
open Classical in
def u5{R S B:Type}(body:S->Option (n6 R S B))(s:S):Option (r9 R B):=
 if h:∃n r,a17 body n s=U r then U h.choose_spec.choose else Z
def c3y{R S B:Type}{body:S->Option (n6 R S B)}:∀{n:Nat} {s:S} {r:r9 R B},a17 body n s=U r->∀m,n<=m->a17 body m s=U r
 | 0,s,r,h,_,_=>by cases h
 |n+1,s,r,h,0,hm=>by omega
 |n+1,s,r,h,m+1,hm=>by
  unfold a17 at h⊢;cases hb:body s with
  |none=>rw[hb]at h;cases h
  |some st=>
   rw[hb]at h;cases st with
   |ret x=>exact h
   |brk x=>exact h
   |nxt x=>exact c3y h m (by omega)
def c6N{R S B:Type}{body:S->Option (n6 R S B)}{s:S}{r:r9 R B}:u5 body s=U r ↔ ∃n,a17 body n s=U r:=by
 unfold u5;constructor
 ·intro h;split at h
  ·rename_i hx;injection h with h;exact⟨_,h▸hx.choose_spec.choose_spec⟩
  ·cases h
 ·rintro⟨n,h⟩
  have hx:∃n r,a17 body n s=U r:=⟨n,r,h⟩
  rw[dif_pos hx];have h1:=hx.choose_spec.choose_spec;have h2:=c3y h1 _ (Nat.le_max_left _ n);have h3:=c3y h _ (Nat.le_max_right hx.choose n);rw[h2]at h3;exact h3
def c68{R S B:Type}(body:S->Option (n6 R S B))(s:S):u5 body s=match body s with
  |some (.ret r)=>U (.ret r)
  |some (.brk s)=>U (.brk s)
  |some (.nxt s)=>u5 body s
  |none=>Z:=by
 apply Option.ext;intro r;rw[c6N];cases hb:body s with
 |none=>
  constructor
  ·rintro⟨n,h⟩
   cases n with
   |zero=>cases h
   |succ n=>unfold a17 at h;rw[hb]at h;cases h
  ·intro h;cases h
 |some st=>
  cases st with
  |ret x=>
   constructor
   ·rintro⟨n,h⟩
    cases n with
    |zero=>cases h
    |succ n=>unfold a17 at h;rw[hb]at h;exact h
   ·intro h;exact⟨1,by unfold a17;rw[hb];exact h⟩
  |brk x=>
   constructor
   ·rintro⟨n,h⟩
    cases n with
    |zero=>cases h
    |succ n=>unfold a17 at h;rw[hb]at h;exact h
   ·intro h;exact⟨1,by unfold a17;rw[hb];exact h⟩
  |nxt x=>
   simp only;rw[c6N];constructor
   ·rintro⟨n,h⟩
    cases n with
    |zero=>cases h
    |succ n=>unfold a17 at h;rw[hb]at h;exact⟨n,h⟩
   ·rintro⟨n,h⟩
    exact⟨n+1,by unfold a17;rw[hb];exact h⟩
def b0P{R S B:Type}(r:r9 R B)(I:S->Prop):n6 R S B->Prop
 | .ret x=>r=.ret x
 | .brk s=>r=.brk s
 | .nxt s=>I s
def f9S{R S B:Type}{body:S->Option (n6 R S B)}{I:S->Prop}{s:S}{r:r9 R B}(h:u5 body s=U r)(step:∀s st,body s=U st->b0P r I st->I s):I s:=by
 obtain⟨n,h1⟩:=c6N.1 h;clear h;have h:=h1;clear h1;induction n generalizing s with
 |zero=>cases h
 |succ n ih=>
  unfold a17 at h;cases hb:body s with
  |none=>rw[hb]at h;cases h
  |some st=>
   rw[hb]at h;refine step s st hb ?_;cases st with
   |ret x=>injection h with h;exact h.symm
   |brk x=>injection h with h;exact h.symm
   |nxt x=>exact ih h
def r9.go{R B β:Type}(x:r9 R B)(kr:R->Option β)(ks:B->Option β):Option β:=
 match x with
 | .ret r=>kr r
 | .brk s=>ks s
def JC{B Δ:Type}(I:Δ->Prop)(r:B):r9 B Δ->Prop
 | .ret v=>U v=U r
 | .brk j=>I j
def idx{C:Type}(l:List C)(i:Int):Option C:=if 0<=i then l[i.toNat]? else Z
def z5{β:Type}(p:Prop)[Decidable p](k:Option β):Option β:=if p then k else Z
def c0u{C:Type}{l:List C}{i:Int}{x:C}(h:idx l i=U x):0<=i/\i<(O l)/\l[i.toNat]?=U x:=by
 unfold idx at h;split at h
 ·rename_i hi;refine⟨hi,?_,h⟩;have:=(g06.1 h).1;omega
 ·cases h
section
variable {Φ:Prop} {C β R S:Type}
def D6{m:Option C}{f:C->Option β}{r:β}(h:m.bind f=U r)(k:∀x,m=U x->f x=U r->Φ):Φ:=by
 cases m with
 |none=>cases h
 |some x=>exact k x rfl h
def z9{p:Prop}[Decidable p]{a:Option β}{r:β}(h:z5 p a=U r)(k:p->a=U r->Φ):Φ:=by
 unfold z5 at h;split at h
 ·rename_i hp;exact k hp h
 ·cases h
def f8S{B:Type}{I:S->Prop}{r:r9 R B}{x:R}{st:n6 R S B}(h:U (n6.ret x)=U st)(hc:b0P r I st)(k:r=.ret x->Φ):Φ:=by
 injection h with h;subst h;exact k hc
def f5O{B:Type}{I:S->Prop}{r:r9 R B}{x:B}{st:n6 R S B}(h:U (n6.brk x)=U st)(hc:b0P r I st)(k:r=.brk x->Φ):Φ:=by
 injection h with h;subst h;exact k hc
def e62{B:Type}{I:S->Prop}{r:r9 R B}{x:S}{st:n6 R S B}(h:U (n6.nxt x)=U st)(hc:b0P r I st)(k:I x->Φ):Φ:=by
 injection h with h;subst h;exact k hc
def f7q{B:Type}{I:S->Prop}{r:r9 R B}{x:R}{st:n6 R S B}(h:U (n6.ret x)=U st)(hc:b0P r I st):r=.ret x:=f8S h hc id
def D5{B Δ:Type}{T:Option (r9 B Δ)}{K:Δ->Option B}{r:B}{I:Δ->Prop}(h:(T.bind λx=>x.go U K)=U r)(rest:∀j,K j=U r->I j)(e7u:∀x,T=U x->JC I r x->Φ):Φ:=by
 cases T with
 |none=>cases h
 |some x=>
  refine e7u x rfl ?_;cases x with
  |ret v=>exact h
  |brk j=>exact rest j h
def E3{B Δ:Type}{I:Δ->Prop}{r v:B}{x:r9 B Δ}(h:U (r9.ret v)=U x)(hc:JC I r x)(k:U v=U r->Φ):Φ:=by
 injection h with h;subst h;exact k hc
def f1v{B Δ:Type}{I:Δ->Prop}{r v:B}{x:r9 B Δ}(h:U (r9.ret v)=U x)(hc:JC I r x):U v=U r:=E3 h hc id
def u6{B Δ:Type}{I:Δ->Prop}{r:B}{x:r9 B Δ}{j:Δ}(h:U (r9.brk j)=U x)(hc:JC I r x)(k:I j->Φ):Φ:=by
 injection h with h;subst h;exact k hc
def f2G{B:Type}{body:S->Option (n6 R S B)}{s:S}{kr:R->Option β}{ks:B->Option β}{r:β}(h:((u5 body s).bind λx=>x.go kr ks)=U r)(k:∀x,u5 body s=U x->(∀v,x=.ret v->kr v=U r)->(∀b,x=.brk b->ks b=U r)->Φ):Φ:=by
 cases hl:u5 body s with
 |none=>rw[hl]at h;cases h
 |some x=>
  rw[hl]at h;refine k x hl ?_ ?_
  ·intro v hv;subst hv;exact h
  ·intro b hb;subst hb;exact h
end
def P5.is{cx:Cx}{X:U7}{res b3H:V}{outs b6h:List (Option V)}{k:List Item}{S:St}(h:P5 cx X b3H b6h k S)(h1:res=b3H)(h2:outs=b6h):P5 cx X res outs k S:=by
 subst h1;subst h2;exact h
def vi(n:Int):V:=.i .i64 n
def bs:Nat->List V->List V
 | 0,l=>l
 |n+1,l=>.bot::bs n l
def n7{C:Type}(sz:Nat)(enc:C->List V)(l:List C):V:=.sl sz (O l) (l.map enc)
def A5{C:Type}(e sz:Nat)(enc:C->List V)(l:List C):V:=.osl e sz (O l) (l.map enc)
def s5{C:Type}(e sz:Nat)(enc:C->List V)(l:List C):x8:=.row e sz (O l) (l.map enc)
def b3v{C:Type}(sz:Nat)(enc:C->List V)(l:List C):x8:=.frz sz (O l) (l.map enc)
section
variable {C:Type} {enc:C->List V} {l:List C} {i:Int} {x:C}
def a0i(h:idx l i=U x):(l.map enc)[i.toNat]?=U (enc x):=by
 rw[g1Z,(c0u h).2.2];rfl
def b5H(h:idx l i=U x):(l.map enc)[0+i.toNat]?=U (enc x):=by
 rw[g1U];exact a0i h
def U1(h:idx l i=U x):0<=i:=(c0u h).1
def b5D(h:idx l i=U x):i<(O l:Nat):=(c0u h).2.1
def e08{e sz:Nat}{y:C}{cs:List V}(h:cs=enc y):x8.row e sz ((O l)+1) (l.map enc++[cs])=s5 e sz enc (l++[y]):=by
 subst h;simp[s5]
def c5C{e sz:Nat}{l':List C}{n:Nat}{rows:List (List V)}(h1:n=(O l'))(h2:rows=l'.map enc):x8.row e sz ((O l)+n) (l.map enc++rows)=s5 e sz enc (l++l'):=by
 subst h1;subst h2;simp[s5]
def e55{e sz:Nat}{k:Nat}{y:C}{cs:List V}(h:cs=enc y):x8.row e sz (O l) ((l.map enc).set (0+k) cs)=s5 e sz enc (l.set k y):=by
 subst h;simp[s5,List.map_set]
def d1u{sz:Nat}{a b:Nat}(ha:a<=b)(hb:b<=(O l)):V.sl sz (b-a) (((l.map enc).drop a).take (b-a))=n7 sz enc ((l.drop a).take (b-a)):=by
 have:min (b-a) ((O l)-a)=b-a:=by omega
 simp[n7,List.map_take,List.map_drop,this]
end
def e4N(f:Func):Code:=match f.body with
 |some c=>c
 |none=>.skip
def a5b:Nat->Nat->List Bool->List Item->List Item
 | 0,_,_,k=>k
 |f+1,n,cs,k=>match k with
  | .code (.region id ops dr)::k'=>match n with
   | 0=>.code (.region id ops dr)::k'
   |n+1=>a5b f n cs k'
  | .code .skip::k'=>a5b f n cs k'
  | .inBlock _::k'=>a5b f n cs k'
  | .code (.seq x y)::k'=>a5b f n cs (.code x :: .code y::k')
  | .code (.cond o x y)::k'=>match cs with
   |c::cs=>a5b f n cs (.code (bif c then x else y)::k')
   | []=>.code (.cond o x y)::k'
  | .code (.block id c)::k'=>a5b f n cs (.code c :: .inBlock id::k')
  | .code (.loop c)::k'=>a5b f n cs (.code c :: .inLoop c::k')
  | .inLoop c::k'=>a5b f n cs (.code c :: .inLoop c::k')
  | .code (.exit id)::k'=>match exitTo id k' with
   |some k2=>a5b f n cs k2
   |none=>.code (.exit id)::k'
  |k=>k
def td(i:Nat)(d:Bool):Nat×Q5:=(i,{d:=U d})
def tr(i:Nat)(cs:List V):Nat×Q5:=(i,{a:=.row cs})
def s6(n:Int):Int:=IntKind.wrap .i64 n
section
variable {C:Type} {enc:C->List V} {l l':List C} {n:Nat} {x y:C} {cs:List V} {e sz:Nat}
def e5Z(h:cs=enc x):x8.row e sz n (g00 n cs)=s5 e sz enc (g00 n x):=by
 subst h;simp[s5]
def a2s(h:(O l)=n):x8.row e sz n (l.map enc)=s5 e sz enc l:=by
 subst h;rfl
def a99{k:Nat}(h:cs=enc y):x8.arr e sz n ((l.map enc).set k cs)=.arr e sz n ((l.set k y).map enc):=by
 subst h;simp[List.map_set]
def F7(e sz:Nat)(enc:C->List V)(l:List C):x8:=.deep W e sz (O l) (l.map enc)
def b1o(e sz:Nat)(enc:C->List V)(l:List C):V:=.dsl e sz (O l) (l.map enc)
def a10{k:Nat}(h:cs=enc y):(l.map enc).set (0+k) cs=(l.set k y).map enc:=by
 subst h;simp[List.map_set]
def a9h{rows:List (List V)}(h:rows=l.map enc)(hn:∀x,∀v∈enc x,v.isRef=W):M6 rows:=h▸M6.map hn l
def b0J{rows:List (List V)}{n:Nat}(h:rows=l.map enc)(hl:n=(O l)):x8.deep W e sz n rows=F7 e sz enc l:=by
 subst h;subst hl;rfl
def c5r(h:cs=enc y):x8.deep W e sz ((O l)+1) (l.map enc++[cs])=F7 e sz enc (l++[y]):=by
 subst h;simp[F7]
def c36{L l1:List C}{lo n:Nat}(h:lo+n<=(O L)):x8.row e sz ((O l1)+n) (l1.map enc++((L.map enc).drop lo).take n)=s5 e sz enc (l1++(L.drop lo).take n):=by
 have:((L.drop lo).take n).length=n:=by simp;omega
 simp[s5,List.map_take,List.map_drop];omega
def c3l{L l1:List C}{lo n g:Nat}(h:lo+n<=(O L)):V.own g 0 sz 0 ((O l1)+n)=V.own g 0 sz 0 (l1++(L.drop lo).take n).length:=by
 congr 1
 simp;omega
def a0I{rows X:List (List V)}{k:Nat}{c c':List V}(h:rows.set k c'=X):(rows.set k c).set k c'=X:=by rw[List.set_set];exact h
def a3l{rows:List (List V)}{k:Nat}(h:k<(O rows)):(rows.set k cs)[k]?=U cs:=by simp[h]
def a5M{rows:List (List V)}{k j:Nat}(h:k<(O rows)):k<(rows.set j cs).length:=by simpa using h
def a2U{i:Int}(h:idx l i=U y):0+i.toNat<(l.map enc).length:=by
 have:=(b5D h)
 have:=(U1 h)
 rw[g1J];omega
def c7a{i:Int}{f:C->V}(hf:∀x,enc x=[f x])(h:idx l i=U y):(l.map enc).flatten[i.toNat]?=U (f y):=by
 have e:(l.map enc).flatten=l.map f:=by
  induction l with
  |nil=>rfl
  |cons x l ih=>
   have ih':(l.map enc).flatten=l.map f:=by
    clear ih h;induction l with
    |nil=>rfl
    |cons x l ih=>simp[hf,ih]
   simp[hf,ih']
 rw[e,g1Z];unfold idx at h;split at h
 ·rw[h];rfl
 ·cases h
def b87{hi:Int}(h:0<=hi/\hi<=(O l:Nat)):V.sl sz (hi.toNat-0) (((l.map enc).drop 0).take (hi.toNat-0))=n7 sz enc ((l.drop 0).take (hi.toNat-0)):=
 d1u (by omega) (by omega)
def b5i{lo:Int}(h:0<=lo/\lo<=(O l:Nat)):V.sl sz ((O l)-lo.toNat) (((l.map enc).drop lo.toNat).take ((O l)-lo.toNat))=n7 sz enc ((l.drop lo.toNat).take ((O l)-lo.toNat)):=
 d1u (by omega) (by omega)
end
def c5v:Nat->List (Option V)
 | 0=>[]
 |n+1=>Z::c5v n
def W1:∀n,a48 (c5v n)
 | 0=>λv h=>by cases h
 |n+1=>λv h=>by
  rcases g1a.1 h with q|q
  ·cases q
  ·exact W1 n v q
section
variable {P:Program} {d:Nat} {xs ys:Array Value} {f:Field} {fs:List Field} {a b:Value} {r s:Bool} {w:World}
def b20:(Op.eqFields d xs ys []).run P w=.ok Y w:=by simp[Op.eqFields]
theorem a1A (hn:(f.name == "_")=false) (ha:(part f.type xs f.offset).run P w=.ok a w) (hb:(part f.type ys f.offset).run P w=.ok b w) (he:(Op.equalIn d f.type a b).run P w=.ok r w) (hr:(Op.eqFields d xs ys fs).run P w=.ok s w):(Op.eqFields d xs ys (f::fs)).run P w=.ok (r&&s) w:=by
 have hn':f.name ≠ "_" := by simpa using hn
 rw [Op.eqFields];simp only [if_pos hn',Sem.run_bind,ha,hb,he,Result.andThen_ok];cases r
 ·simp
 ·simpa using hr
def b2W{t:TypeId}{fs:Array Field}(hu:P.underlying t=U (.struct fs))(hp:P.stoodInHeld t=W)(h:(Op.eqFields d xs ys fs.toList).run P w=.ok r w):(Op.equalIn (d+1) t (.agg xs) (.agg ys)).run P w=.ok r w:=by
 have hf:P.fieldsOf t=fs:=by simp[Program.fieldsOf,hu]
 rw[run_equalIn_struct (P:=P) w d t xs ys (by rw[hf];exact hu) hp,hf];exact h
def a2m{t:TypeId}{k:IntKind}{m n:Int}(h:P.underlying t=U (.int k)):(Op.equalIn (d+1) t (.int .i64 m) (.int .i64 n)).run P w=.ok (m==n) w:=run_equalIn_int w d t .i64 k m n h
end
structure Pt(cx:Cx)(X:U7)(res:V)(outs:List (Option V))(k:List Item)(S:St)(sc:Z1)(ps:List Prop):Prop where
 f:V7 ps->P5 cx X res outs k S
def d5m{C:Type}:List C->List C->List C
 | [],b=>b
 |a::l,b=>d5m l (a::b)
def scO:Z1->Z1->Z1
 | [],b=>b
 |r::l,b=>scO l (d5m r []::b)
def psO:List Prop->List Prop->List Prop
 | [],b=>b
 |p::l,b=>psO l (p::b)
def c7j{ps:List Prop}:∀{qs:List Prop},V7 ps->V7 qs->V7 (psO ps qs):=by
 induction ps with
 |nil=>exact λ_ h=>h
 |cons p ps ih=>exact λh h'=>ih h.2 ⟨h.1,h'⟩
def a6J{C β:Type}(m:Option C)(f:C->Option β)(g:Option β):Option β:=
 match m with
 |some x=>f x
 |none=>g
def dt(t:Nat×Q5)(d:Bool):Nat×Q5:=(t.1,{t.2 with d:=U d})
section
variable {cx:Cx} {X:U7} {res:V} {outs:List (Option V)} {k:List Item} {S:St} {sc:Z1} {ps:List Prop} {r:List (Nat×Q5)} {C β:Type} {v:β}
def P0(h:Pt cx X res outs k S [] []):P5 cx X res outs k S:=h.f V7.nil
def rg(h:Pt cx X res outs k S ([]::sc) ps):Pt cx X res outs k S sc ps:=⟨h.f⟩
def t5(h:Pt cx X res outs k S ([]::[]::sc) ps):Pt cx X res outs k S sc ps:=⟨h.f⟩
def T1(h:Pt cx X res outs k S ([]::[]::[]::sc) ps):Pt cx X res outs k S sc ps:=⟨h.f⟩
def rg4(h:Pt cx X res outs k S ([]::[]::[]::[]::sc) ps):Pt cx X res outs k S sc ps:=⟨h.f⟩
def tl(t:Nat×Q5)(h:Pt cx X res outs k S ((t::r)::sc) ps):Pt cx X res outs k S (r::sc) ps:=⟨h.f⟩
def ob{p:Prop}(q:p)(h:Pt cx X res outs k S sc (p::ps)):Pt cx X res outs k S sc ps:=⟨λa=>h.f ⟨q,a⟩⟩
def om(p:Prop)(q:p)(h:Pt cx X res outs k S sc (p::ps)):Pt cx X res outs k S sc ps:=ob q h
def cdT(t:Nat×Q5){e:Bool}{a b:Option β}(h:cond e a b=U v)(k1:e=Y->a=U v->Pt cx X res outs k S ((dt t Y::r)::sc) ((e=Y)::ps))(k2:e=W->b=U v->Pt cx X res outs k S ((dt t W::r)::sc) ((e=W)::ps)):Pt cx X res outs k S (r::sc) ps:=by
 cases e with
 |true=>exact ob rfl (tl _ (k1 rfl h))
 |false=>exact ob rfl (tl _ (k2 rfl h))
def l9(i:Nat){e:Bool}{a b:Option β}(h:cond e a b=U v)(k1:a=U v->Pt cx X res outs k S ((td i Y::r)::sc) ((e=Y)::ps))(k2:b=U v->Pt cx X res outs k S ((td i W::r)::sc) ((e=W)::ps)):Pt cx X res outs k S (r::sc) ps:=by
 cases e with
 |true=>exact ob rfl (tl _ (k1 h))
 |false=>exact ob rfl (tl _ (k2 h))
def cb(t:Nat->Bool->C->Nat×Q5){m:Option C}{p:C->Prop}(ok:∀x,m=U x->p x)(i:Nat)(fr:Bool){f:C->Option β}(h:m.bind f=U v)(g:∀x,f x=U v->Pt cx X res outs k S ((t i fr x::r)::sc) (p x::ps)):Pt cx X res outs k S (r::sc) ps:=
 D6 h λx hx h=>ob (ok x hx) (tl _ (g x h))
def cbA(t:Nat->Bool->C->Nat×Q5){m:Option C}{p:C->Prop}(ok:∀x,m=U x->p x)(i:Nat)(fr:Bool){f:C->Option β}{e:Option β}(h:a6J m f e=U v)(g:∀x,f x=U v->Pt cx X res outs k S ((t i fr x::r)::sc) (p x::ps))(g2:e=U v->Pt cx X res outs k S (r::sc) ps):Pt cx X res outs k S (r::sc) ps:=by
 cases m with
 |none=>exact g2 h
 |some x=>exact ob (ok x rfl) (tl _ (g x h))
def cbE(t:Nat->Bool->C->Nat×Q5){m:Option C}{p:C->Prop}(ok:∀x,m=U x->p x){f:C->Option β}(h:m.bind f=U v)(g:∀x,p x->f x=U v->Pt cx X res outs k S sc ps):Pt cx X res outs k S sc ps:=
 D6 h λx hx h=>g x (ok x hx) h
section
variable {enc:C->List V} {l l':List C} {I:Int} {x y z:C}
def A3(enc:C->List V)(i:Nat){f:C->Option β}(h:(idx l I).bind f=U v)(g:∀y,idx l I=U y->f y=U v->Pt cx X res outs k S ((tr i (enc y)::r)::sc) (((l.map enc)[I.toNat]?=U (enc y))::(I<((O l:Nat):Int))::((0:Int)<=I)::ps)):Pt cx X res outs k S (r::sc) ps:=
 D6 h λy hy h=>ob (U1 hy) (ob (b5D hy) (ob (a0i hy) (tl _ (g y hy h))))
def P7(enc:C->List V)(i:Nat)(hy:idx l I=U y)(g:Pt cx X res outs k S ((tr i (enc y)::r)::sc) (((l.map enc)[I.toNat]?=U (enc y))::(I<((O l:Nat):Int))::((0:Int)<=I)::ps)):Pt cx X res outs k S (r::sc) ps:=
 ob (U1 hy) (ob (b5D hy) (ob (a0i hy) (tl _ g)))
def E2(hy:idx l I=U y)(g:Pt cx X res outs k S sc ((I<((O l:Nat):Int))::((0:Int)<=I)::ps)):Pt cx X res outs k S sc ps:=ob (U1 hy) (ob (b5D hy) g)
def M4(enc:C->List V)(i:Nat)(hy:idx l I=U y)(g:Pt cx X res outs k S ((tr i (enc y)::r)::sc) (((l.map enc)[0+I.toNat]?=U (enc y))::ps)):Pt cx X res outs k S (r::sc) ps:=
 ob (b5H hy) (tl _ g)
def W3(e sz:Nat)(enc:C->List V)(i:Nat)(ck:List (Option Nat))(y:C)(hz:idx l I=U z)(g:Pt cx X res outs k S (((i,{a:=.rowck (enc z) ck,e:=U (s5 e sz enc (l.set I.toNat y))})::r)::sc) (((l.map enc)[0+I.toNat]?=U (enc z))::(x8.row e sz (O l) ((l.map enc).set (0+I.toNat) (enc y))=s5 e sz enc (l.set I.toNat y))::ps)):Pt cx X res outs k S (r::sc) ps:=
 ob (e55 rfl) (ob (b5H hz) (tl _ g))
def Z0(i w t sz b:Nat)(enc:C->List V)(z:C)(T:TI)(a:U8){N:Int}(e1:0<=N/\N*((b:Nat):Int)<=140737488355328)(hb:0<b)(hl:(O T.zero)=sz)(g:Pt cx X res outs k S (((i,{a:=a,e:=U (s5 t sz enc (g00 N.toNat z)),v:=U (.own w 0 sz 0 (g00 N.toNat z).length)})::r)::sc)
   (((O T.zero)=sz)::(N*((b:Nat):Int)<=140737488355328/\0<b)::(N=N)::((0:Int)<=N)::(x8.row t sz N.toNat (g00 N.toNat (enc z))=s5 t sz enc (g00 N.toNat z))::(V.own w 0 sz 0 N.toNat=.own w 0 sz 0 (g00 N.toNat z).length)::ps)):Pt cx X res outs k S (r::sc) ps:=
 ob (by simp) (ob (e5Z rfl) (ob e1.1 (ob rfl (ob ⟨e1.2,hb⟩ (ob hl (tl _ g))))))
def J4(i w t sz b:Nat)(enc:C->List V)(l:List C)(x:C)(h:((O l)+1)*b<=140737488355328)(g:Pt cx X res outs k S (((i,{v:=U (.own w 0 sz 0 (l++[x]).length),e:=U (s5 t sz enc (l++[x]))})::r)::sc)
   ((((O l)+1)*b<=140737488355328)::((O l)=(O l))::(x8.row t sz ((O l)+1) (l.map enc++[enc x])=s5 t sz enc (l++[x]))::(V.own w 0 sz 0 ((O l)+1)=.own w 0 sz 0 (l++[x]).length)::ps)):Pt cx X res outs k S (r::sc) ps:=
 ob (by simp) (ob (e08 rfl) (ob rfl (ob h (tl _ g))))
def apL(i w t sz b:Nat)(enc:C->List V)(l l':List C)(h:((O l)+(O l'))*b<=140737488355328)(g:Pt cx X res outs k S (((i,{v:=U (.own w 0 sz 0 (l++l').length),e:=U (s5 t sz enc (l++l'))})::r)::sc)
   ((((O l)+(O l'))*b<=140737488355328)::((O l)=(O l))::(x8.row t sz ((O l)+(O l')) (l.map enc++l'.map enc)=s5 t sz enc (l++l'))::(V.own w 0 sz 0 ((O l)+(O l'))=.own w 0 sz 0 (l++l').length)::ps)):Pt cx X res outs k S (r::sc) ps:=
 ob (by simp) (ob (c5C rfl rfl) (ob rfl (ob h (tl _ g))))
end
def sg(fs:List Fix)(keep:List Nat)(gs:List (Nat×Nat)){k':List Item}{S':St}(h:P5 cx X res outs k' S')(hg:b1m cx k S (scO sc []) fs keep gs=U (k',S',psO ps []):=by kernel_rfl):Pt cx X res outs k S sc ps:=
 ⟨λa=>P5.seg _ fs keep gs _ (c7j a V7.nil) h hg⟩
def reT:List (Nat×V)->St->St×List Prop
 | [],S=>(S,[])
 | (i,v)::l,S=>match S.t[i]? with
  |some u=>match reT l {S with t:=S.t.set i v}with
   | (S',ps)=>(S',(u=v)::ps)
  |none=>reT l S
def c7T:∀{l:List (Nat×V)} {S:St},V7 (reT l S).2->(reT l S).1=S
 | [],_,_=>rfl
 | (i,v)::l,S,h=>by
  unfold reT at h⊢;split at h
  ·rename_i u hu;have h1:u=v:=h.1;have h2:=c7T (l:=l) h.2;simp only;rw[h2,<-h1,a1I hu]
  ·exact c7T h
def V7.split:∀{ps qs:List Prop},V7 (ps++qs)->V7 ps/\V7 qs
 | [],_,h=>⟨trivial,h⟩
 |_::_,_,h=>⟨⟨h.1,(V7.split h.2).1⟩,(V7.split h.2).2⟩
def c8z(cx:Cx)(k:List Item)(S:St)(sc:Z1)(fs:List Fix)(keep:List Nat)(gs:List (Nat×Nat))(ts:List (Nat×V)):Option (List Item×St×List Prop):=
 match b1m cx k S sc fs keep gs with
 |some (k',S',ps)=>U (k',(reT ts S').1,ps++(reT ts S').2)
 |none=>Z
def sgT(fs:List Fix)(keep:List Nat)(gs:List (Nat×Nat))(ts:List (Nat×V)){k':List Item}{S':St}(h:P5 cx X res outs k' S')(hg:c8z cx k S (scO sc []) fs keep gs ts=U (k',S',psO ps []):=by kernel_rfl):Pt cx X res outs k S sc ps:=by
 refine⟨λa => ?_⟩;unfold c8z at hg;split at hg<;>try (cases hg;done)
 rename_i k1 S1 ps1 h1;injection hg with hg;injection hg with e1 e2;injection e2 with e2 e3;have ha:=c7j a V7.nil;rw[<-e3]at ha;obtain⟨a1,a2⟩:=V7.split ha;rw[<-e2,<-e1,c7T a2]at h;exact P5.seg _ fs keep gs _ a1 h h1
def a9L{C:Type}{enc:C->List V}{gs:List (Nat×Nat)}(h:∀x,(enc x).map (a0F gs)=enc x):∀l:List C,((l.map enc).flatten.map (a0F gs))=(l.map enc).flatten
 | []=>rfl
 |x::l=>by
  simp only[g1v,g1t,g1W,h,a9L h l]
def fn0{b3H:V}{b6h:List (Option V)}(hf:cx.P.funcs[X.f]?=U X.fn)(h:res=b3H/\outs=b6h)(hg:b2p cx X k S (scO sc [])=U (b3H,b6h,psO ps []):=by kernel_rfl):Pt cx X res outs k S sc ps:=
 ⟨λa=>(P5.fin hf _ _ (c7j a V7.nil) hg).is h.1 h.2⟩
end
def N5(n:Int):Prop := -9223372036854775808<=n/\n<=9223372036854775807
def C4{C:Type}(bytes:Nat)(ok:C->Prop)(l:List C):Prop:=(O l)*bytes<=140737488351232/\∀x∈l,ok x
def okT{C:Type}(x:C):Prop:=True
def Old(w:World)(k:Nat):Prop:=k<w.heap.size
def b1c(P:Program){C:Type}(t:TypeId)(enc:C->List V)(ok:C->Prop):Prop:=
 ∀{H:Type} (ec:TypeId×Value->H) (w:World) (fuel:Nat) (cs:List Value) (x:DataW H×List MemPlace),DataW.trod ec P w 0 (λ_=>Y) Y fuel t cs=U x->(x.1.weights P t).all (·<=reachBytes)=Y->
  ∃y,FL w (Old w) (enc y) cs/\ok y
section
variable {P:Program} {C:Type} {t e:TypeId} {enc:C->List V} {ok:C->Prop}
def a7b(n:Int):Prop:=0<=n/\n<=255
def f1A(ht:P.underlying t=U (.int .u8)):b1c P t (λn:Int=>[.i .u8 n]) a7b:=by
 intro H ec w fuel cs x h _;obtain⟨n,rfl,rfl,hw⟩:=DataW.trod_int ht h;refine⟨n,.cons _ _ _ _ (.i _ _) .nil,?_⟩;simp only[Lit.wf,g02,decide_eq_true_eq]at hw;exact hw
def d7k{H:Type}{P:Program}{e:TypeId}{p:Nat->Bool}:∀{ds:List (DataW H)},(DataW.weightsAll P e ds).all p=Y->∀d∈ds,(d.weights P e).all p=Y
 | [],_,d,hd=>by cases hd
 |d0::ds,h,d,hd=>by
  rw[DataW.weightsAll,List.all_append,g02]at h;rcases g1a.1 hd with rfl|hd
  ·exact h.1
  ·exact d7k h.2 d hd
def FL.flat{w:World}{F:Nat->Prop}(vs:Nat->List V)(cs:Nat->List Value):∀n,(∀i,i<n->FL w F (vs i) (cs i))->FL w F ((g09 n).flatMap vs) ((g09 n).flatMap cs)
 | 0,_=>.nil
 |n+1,h=>by
  rw[List.range_succ,List.flatMap_append,List.flatMap_append];refine FL.append (FL.flat vs cs n λi hi=>h i (by omega)) ?_;simpa using h n (by omega)
def c1j{sz:Nat}(cs:Nat->List Value):∀n,(∀i,i<n->(cs i).length=sz)->∀i,i<n->∀j,j<sz->((g09 n).flatMap cs)[i*sz+j]?=(cs i)[j]?/\((g09 n).flatMap cs).length=n*sz
 | 0,_,i,hi,_,_=>by omega
 |n+1,h,i,hi,j,hj=>by
  have hl:((g09 n).flatMap cs).length=n*sz:=by
   cases n with
   |zero=>simp
   |succ m=>exact(c1j cs (m+1) (λi hi=>h i (by omega)) 0 (by omega) j hj).2
  rw[List.range_succ,List.flatMap_append];simp only[List.flatMap_cons,List.flatMap_nil,g1i];constructor
  ·by_cases hin:i<n
   ·have:i*sz+j<n*sz:=by
     have:(i+1)*sz<=n*sz:=g1x _ hin;rw[Nat.add_mul]at this;omega
    rw[g1o (by omega)];exact(c1j cs n (λi hi=>h i (by omega)) i hin j hj).1
   ·have:i=n:=by omega
    subst this;rw[g1j (by omega),hl];congr 1
    omega
  ·rw[g08,hl,h n (by omega),Nat.add_mul,Nat.one_mul]
def f8m{β:Type}{n:Nat}{p:Nat->β->Prop}(d:β)(h:∀i,i<n->∃x,p i x):∃f:Nat->β,∀i,i<n->p i (f i):=by
 classical
 refine⟨λi=>if hi:i<n then(h i hi).choose else d,λi hi => ?_⟩;simp only[dif_pos hi];exact(h i hi).choose_spec
def f2R{sz bytes:Nat}(ht:P.underlying t=U (.slice e))(he:b1c P e enc ok)(hsz:P.cellsOf e=sz)(h0:0<sz)(hb:P.bytesOf e=bytes)(hl:∀y,(enc y).length=sz):b1c P t (λl:List C=>[n7 sz enc l]) (C4 bytes ok):=by
 intro H ec w fuel cs x h hw;rcases DataW.trod_slice ht h with⟨rfl,rfl⟩|⟨a,len,cap,elems,rest,n,_,rfl,rfl,hbs,hlc,hcm,hlen,hel,hsp,hns⟩
 ·exact⟨[],.cons _ _ _ _ (.sl0 sz Z 0) .nil,by simp,by simp⟩
 simp only[DataW.weights,ht,List.all_cons,List.all_append,g02,decide_eq_true_eq,g1J]at hw;obtain⟨hw0,hw1,hw2⟩:=hw;have hrest:(O rest)=cap-len:=by
  cases hs:(λ_:Nat=>Y) a.block with
  |true=>exact(hsp rfl).1
  |false=>cases hs
 have hlen2:len*bytes<=140737488351232:=by
  rw[hb]at hw0;have:len*bytes<=((O elems)+(O rest))*bytes:=g1x _ (by omega);have h2:reachBytes=140737488351232:=rfl;omega
 cases Nat.eq_zero_or_pos len with
 |inl hz=>
  subst hz;exact⟨[],.cons _ _ _ _ (.sl0 sz _ cap) .nil,by simp,by simp⟩
 |inr hpos=>
  have key:∀i,i<len->∃cy:List Value×C,w.cells? 0 (a.add (i*sz)) sz=U cy.1/\FL w (Old w) (enc cy.2) cy.1/\ok cy.2:=by
   intro i hi;have h1:=hel i hi;have hi':i<(O elems):=by omega
   rw[g0Y hi',hsz]at h1;obtain⟨ci,h2,h3⟩:=Option.bind_eq_some_iff.1 h1;obtain⟨y,h4,h5⟩:=he ec w n ci _ h3 (d7k hw1 _ (g1m.2 ⟨_,g01 hi',rfl⟩));exact⟨(ci,y),h2,h4,h5⟩
  obtain⟨cy0,_⟩:=key 0 hpos;obtain⟨f,hf⟩:=f8m cy0 key;have hcl:∀i,i<len->(f i).1.length=sz:=λi hi=>(World.cells?_some (hf i hi).1).2.1
  have hspot:a.spot=Z:=by
   have:=(World.cells?_some (hf 0 hpos).1).2.2 0 h0;rw[g0Y (by rw[hcl 0 hpos];exact h0)]at this;have:=World.cell?_spot this;simpa[Addr.add]using this
  have hold:Old w a.block:=by
   have:=(World.cells?_some (hf 0 hpos).1).2.2 0 h0;rw[g0Y (by rw[hcl 0 hpos];exact h0)]at this;unfold World.cell? at this;unfold Old;split at this
   ·rename_i c _ _ hh;simpa[Addr.add]using(Array.getElem?_eq_some_iff.1 hh).1
   ·cases this
  refine⟨(g09 len).map λi=>(f i).2,?_,?_,?_⟩
  ·have haddr:a=⟨a.block,a.off,Z⟩:=by cases a;simp_all
   rw[show(Value.slice (U a) len cap)=.slice (U ⟨a.block,a.off,Z⟩) len cap from by rw[<-haddr]];refine .cons _ _ _ _ ?_ .nil;unfold n7;rw[g1J,List.length_range];refine .sl sz len _ _ _ cap ((g09 len).flatMap λi=>(f i).1) hold ?_ ?_ ?_ hlc ?_
   ·have:=FL.flat (w:=w) (F:=Old w) (λi=>enc (f i).2) (λi=>(f i).1) len λi hi=>(hf i hi).2.1
    rw[g2o,<-List.flatMap_def];exact this
   ·simp
   ·intro r hr;rw[g2o]at hr;obtain⟨i,_,rfl⟩:=g1m.1 hr;exact hl _
   ·intro j u hu;have hlf:=(c1j (λi=>(f i).1) len hcl 0 hpos 0 h0).2;have hj:j<len*sz:=by
     have:=(g06.1 hu).1;omega
    have hq:j / sz<len:=Nat.div_lt_of_lt_mul (by rw[Nat.mul_comm];exact hj);have hr:j % sz<sz:=Nat.mod_lt _ h0;have hjs:j=j / sz*sz+j % sz:=by rw[Nat.mul_comm];exact(Nat.div_add_mod j sz).symm
    have hget:=(c1j (λi=>(f i).1) len hcl _ hq _ hr).1;rw[<-hjs,hu]at hget;have hcell:=(World.cells?_some (hf _ hq).1).2.2 _ hr;rw[<-hget]at hcell;rw[<-hcell];have hadd:(a.add (j / sz*sz)).add (j % sz)=a.add j:=by
     rw[show(a.add (j / sz*sz)).add (j % sz)=a.add (j / sz*sz+j % sz)from Go.Deep.add_add a _ _,<-hjs]
    rw[hadd];congr 1
    unfold Addr.add;split
    ·rename_i h;subst h;exact haddr.symm
    ·rfl
  ·simpa using hlen2
  ·intro y hy;obtain⟨i,hi,rfl⟩:=g1m.1 hy;exact(hf i (by simpa using hi)).2.2
section
variable {α':Type} {H:Type} {ec:TypeId×Value->H} {w:World} {base:Nat} {r:Reach} {v:Value} {d:DataW H} {p:List MemPlace}
def BA.of1{F:Nat->Prop}{x:V}{c:Value}(h:FL w F [x] [c]):BA w F x c []:=by
 cases h with
 |cons _ _ _ _ h _=>exact .cell _ _ _ (.fv _ _ h)
def f4F{f:C->V}(ht:P.underlying t=U (.slice e))(ho:b1c P t (λy=>[f y]) ok)(hv:Value.okWide P w r base t v)(h:DataW.Trod ec P w 0 (λ_=>Y) Y t v d p)(hw:(d.weights P t).all (·<=reachBytes)=Y):∃y,BA w (Old w) (f y) v []/\ok y:=by
 obtain⟨a,l,c,rfl⟩:=WideShapes.okWide_slice ht hv;obtain⟨fuel,hf⟩:=h;obtain⟨y,h1,h2⟩:=ho ec w fuel _ _ hf hw;exact⟨y,BA.of1 h1,h2⟩
end
def f6e{f:FuncId}{args:List V}{outs:List (Option V)}{vs:List Value}{Ω:World}(h:a1n P f args (.b Y) outs)(hb:BS Ω (Old Ω) args vs []) :
  Calls P f vs.toArray Ω λe W'=>e=.returned (.bool Y)/\RowKit.Below Ω.heap.size Ω W':=by
 refine(h.2 Ω (Old Ω) vs [] hb List.nodup_nil (by simp) (λk hk=>hk)).mono ?_;rintro e W' ⟨c,F',fr,fo,rfl,hk,_,_,hr,_,_,_⟩
 refine⟨?_,hk.os,hk.tape,hk.output,hk.size,λk hk'=>hk.block k hk' (by simp)⟩;cases hr with
 |one _ _ _ h=>
  cases h with
  |cell _ _ _ h=>
   cases h with
   |fv _ _ h=>cases h;rfl
end
abbrev LOV:=List (Option V)
abbrev KS:=List Item×St
def FK(cx:Cx)(X:U7)(res:V)(outs:LOV)(s:KS):Prop:=P5 cx X res outs s.1 s.2
abbrev E.{u}(a:Type u):Type u:=List a
abbrev jk:List x8:=[.var 59 [vi 0,vi 0,.nil,.nil,vi 0,vi 0,vi 0,.nil,.nil,.b W,vi 0,vi 0,.nil,.nil,vi 0,vi 0,.nil,.b W,.nil,.b W,vi 0,vi 0,.nil,.nil,vi 0,vi 0,.nil]]
abbrev jq:List x8:=[.var 28 [.nil,.nil,.nil,.nil]]
abbrev jv:List (Nat×Nat):=[(1,0)]
abbrev jy:List (Nat×Nat):=[(1,0),(2,0)]
abbrev jz:List (Nat×Nat):=[(1,0),(2,0),(3,0),(4,0),(5,0),(6,0)]
abbrev jJ:List (Nat×Nat):=[(1,0),(2,0),(3,0),(4,0),(5,0),(6,0),(7,0)]
abbrev jK:List x8:=[.var 50 [.b W,vi 0,vi 0,.nil,.nil,vi 0,vi 0]]
abbrev jQ:List x8:=[.var 135 [vi 0,.nil,.nil]]
abbrev jW:List (Nat×Nat):=[(1,0),(4,0),(5,0),(2,0),(3,0),(6,0),(7,0)]
abbrev jX:List (Nat×Nat):=[(3,0),(6,0),(5,0),(5,1),(5,2),(5,3)]
abbrev jY:List (Nat×Nat):=[(1,0),(2,0),(3,0)]
abbrev jZ:List x8:=[.var 48 [.nil,.nil,vi 0,vi 0]]
abbrev j_:List (Nat×Nat):=[(1,0),(2,0),(3,0),(4,0),(5,0)]
abbrev Jj:List (Nat×Nat):=[(1,0),(0,0),(0,1),(2,0),(3,0)]
abbrev Jk:List (Nat×Nat):=[(1,0),(3,0),(2,0)]
abbrev Jq:List (Nat×Nat):=[(1,0),(2,0),(4,0),(5,0),(3,0)]
abbrev Jv:List (Nat×Nat):=[(2,0)]
abbrev Jy:List x8:=[.var 56 [vi 0,.nil]]
abbrev Jz:List (Nat×Nat):=[(2,0),(10,0)]
abbrev JJ:List (Nat×Nat):=[(1,0),(2,0),(3,0),(5,0)]
abbrev JK:List (Nat×Nat):=[(2,0),(9,0),(28,0),(28,1),(28,2),(28,3),(28,4)]
abbrev JQ:List (Nat×Nat):=[(2,0),(9,0),(38,0),(38,1),(38,2),(38,3),(38,4)]
abbrev JW:List (Nat×Nat):=[(1,0),(0,0),(0,1),(0,2),(0,3),(0,4),(3,0)]
abbrev JX:List (Nat×Nat):=[(7,0),(1,0),(6,0),(5,0),(4,0),(3,0),(2,0)]
abbrev JY:List (Nat×Nat):=[(27,0),(27,1),(27,2),(27,3),(27,4),(1,0)]
abbrev JZ:List (Nat×Nat):=[(1,0),(29,0),(29,1),(29,2),(29,3),(3,0)]
abbrev J_:List (Nat×Nat):=[(1,0),(10,0)]
abbrev Wj:List (Nat×Nat):=[(1,0),(2,0),(3,0),(4,0),(5,0),(9,0)]
abbrev Wk:List (Nat×Nat):=[(1,0),(0,0),(0,1),(0,2),(0,3),(3,0)]
abbrev Wq:List (Nat×Nat):=[(1,0),(5,0)]
abbrev Wv:List x8:=[.var 198 [vi 0,vi 0,vi 0,vi 0]]
abbrev Wy:List (Nat×Nat):=[(1,0),(3,0),(4,0),(5,0),(9,0)]
abbrev Wz:List (Nat×Nat):=[(1,0),(2,0),(3,0),(14,0)]
abbrev WJ:List (Nat×Nat):=[(1,0),(2,0),(3,0),(16,0)]
abbrev WK:List (Nat×Nat):=[(1,0),(2,0),(3,0),(4,0)]
abbrev WQ:List (Nat×Nat):=[(1,0),(0,0),(3,0),(4,0)]
abbrev WW:List (Nat×Nat):=[(1,0),(2,0),(3,0),(7,0)]
abbrev WX:List (Nat×Nat):=[(1,0),(2,0),(4,0),(3,0)]
structure LC(cx:Cx)(X:U7){R P Υ:Type}(fR:R->V)(fO:R->LOV)(SE:Υ->KS)(S:P->KS) where
 res:V
 outs:LOV
 x:r9 R Υ
 hb:∀s:Υ,x=.brk s->FK cx X res outs (SE s)
 hr:∀v:R,x=.ret v->res=fR v/\outs=fO v
 st:n6 R P Υ
 hc:b0P x (λs=>FK cx X res outs (S s)) st
section
variable {cx:Cx} {X:U7} {R P Υ Δ:Type} {fR:R->V} {fO:R->LOV} {SE:Υ->KS} {SP:P->KS} {Φ:Prop} {C β:Type}
abbrev LB(cx:Cx)(X:U7)(fR:R->V)(fO:R->LOV)(SE:Υ->KS)(SP:P->KS)(b:P->Option (n6 R P Υ)):Prop := ∀(c:LC cx X fR fO SE SP) (s:P),b s=U c.st->FK cx X c.res c.outs (SP s)
abbrev NL(c:LC cx X fR fO SE SP)(S:Δ->KS)(f:Δ->Option (n6 R P Υ)):Prop := ∀s,f s=U c.st->FK cx X c.res c.outs (S s)
def LC.nx(c:LC cx X fR fO SE SP){s:P}(h:U (n6.nxt s)=U c.st)(g:FK cx X c.res c.outs (SP s)->Φ):Φ:=e62 h c.hc g
def LC.bk(c:LC cx X fR fO SE SP){s:Υ}(h:U (n6.brk s)=U c.st)(g:FK cx X c.res c.outs (SE s)->Φ):Φ:=f5O h c.hc λe=>g (c.hb _ e)
def LC.rt(c:LC cx X fR fO SE SP){r:R}(h:U (n6.ret r)=U c.st):c.res=fR r/\c.outs=fO r:=c.hr _ (f7q h c.hc)
variable {res:V} {outs:LOV} {k:List Item} {S:St} {sc:Z1} {ps:List Prop} {r:List (Nat×Q5)} {v:β} {s:KS}
def PK(h:Pt cx X res outs s.1 s.2 [] []):FK cx X res outs s:=h.f V7.nil
def sk(fs:List Fix)(keep:List Nat)(gs:List (Nat×Nat))(h:FK cx X res outs s)(hg:b1m cx k S (scO sc []) fs keep gs=U (s.1,s.2,psO ps []):=by kernel_rfl):Pt cx X res outs k S sc ps:=sg fs keep gs h hg
def skT(fs:List Fix)(keep:List Nat)(gs:List (Nat×Nat))(ts:List (Nat×V))(h:FK cx X res outs s)(hg:c8z cx k S (scO sc []) fs keep gs ts=U (s.1,s.2,psO ps []):=by kernel_rfl):Pt cx X res outs k S sc ps:=sgT fs keep gs ts h hg
def lp{b:P->Option (n6 R P Υ)}(B:LB cx X fR fO SE SP b){d0e:P}{g1:R->Option β}{g2:Υ->Option β}(h:((u5 b d0e).bind λx=>x.go g1 g2)=U v)(h1:∀r,g1 r=U v->res=fR r/\outs=fO r)(h2:∀s,g2 s=U v->FK cx X res outs (SE s))(hs:FK cx X res outs (SP d0e)->Pt cx X res outs k S sc ps):Pt cx X res outs k S sc ps:=
 f2G h λx hl hr hb=>hs (f9S (I:=λs=>FK cx X res outs (SP s)) hl λs st h hc=>B ⟨res,outs,x,λs e=>h2 s (hb s e),λv e=>h1 v (hr v e),st,hc⟩ s h)
def z0{C:Type}(a:List C)(h:Pt cx X res outs k S sc (((O a)=(O a))::ps)):Pt cx X res outs k S sc ps:=ob rfl h
def G6{C β:Type}(a:List C)(b:List β)(h:Pt cx X res outs k S sc (((O b)=(O b))::((O a)=(O a))::ps)):Pt cx X res outs k S sc ps:=ob rfl (ob rfl h)
def ol3{C β γ:Type}(a:List C)(b:List β)(c:List γ)(h:Pt cx X res outs k S sc (((O c)=(O c))::((O b)=(O b))::((O a)=(O a))::ps)):Pt cx X res outs k S sc ps:=ob rfl (ob rfl (ob rfl h))
def L0{C β γ δ:Type}(a:List C)(b:List β)(c:List γ)(d:List δ)(h:Pt cx X res outs k S sc (((O d)=(O d))::((O c)=(O c))::((O b)=(O b))::((O a)=(O a))::ps)):Pt cx X res outs k S sc ps:=ob rfl (ob rfl (ob rfl (ob rfl h)))
def E7(C:Type)(h:Pt cx X res outs k S sc ((0=([]:List C).length)::ps)):Pt cx X res outs k S sc ps:=ob rfl h
def I2{C:Type}(x:C)(h:Pt cx X res outs k S sc ((1=[x].length)::ps)):Pt cx X res outs k S sc ps:=ob rfl h
def tk(i:Nat)(c:List (Option Nat))(h:Pt cx X res outs k S (((i,{a:=.ck c})::r)::sc) ps):Pt cx X res outs k S (r::sc) ps:=tl _ h
def oa(g j sz:Nat){C:Type}(a b:List C)(h:Pt cx X res outs k S sc ((V.own g j sz 0 ((O a)+(O b))=.own g j sz 0 (a++b).length)::ps)):Pt cx X res outs k S sc ps:=ob (congrArg (V.own g j sz 0) g08.symm) h
def oz(e sz:Nat){C:Type}(f:C->List V)(a b:List C)(h:Pt cx X res outs k S sc ((x8.row e sz ((O a)+(O b)) (a.map f++b.map f)=s5 e sz f (a++b))::ps)):Pt cx X res outs k S sc ps:=ob (c5C rfl rfl) h
end
def eI(x:Int):List V:=[vi x]
def P4(x:Int):List V:=[.i .u8 x]
def eB(x:Bool):List V:=[.b x]
structure u0 where
 i0:Int
 Seq:Int
def N8(x:u0):List V:=[vi x.i0,vi x.Seq]
structure w8 where
 j7:Int
 l8:Int
def A7(x:w8):List V:=[vi x.j7,vi x.l8]
structure u9 where
 j7:Int
 i8:Int
def A8(x:u9):List V:=[vi x.j7,vi x.i8]
structure s9 where
 d8:List w8
 f0:List u9
 i8:Int
 Code:Int
def X0(x:s9):List V:=[n7 2 A7 x.d8,n7 2 A8 x.f0,vi x.i8,vi x.Code]
structure p9 where
 j9:Bool
 b6:u0
 g8:s9
def x9(x:p9):List V:=[.b x.j9,vi x.b6.i0,vi x.b6.Seq,n7 2 A7 x.g8.d8,n7 2 A8 x.g8.f0,vi x.g8.i8,vi x.g8.Code]
structure s7 where
 b5:Int
 i9:p9
def w6(x:s7):List V:=[vi x.b5,.b x.i9.j9,vi x.i9.b6.i0,vi x.i9.b6.Seq,n7 2 A7 x.i9.g8.d8,n7 2 A8 x.i9.g8.f0,vi x.i9.g8.i8,vi x.i9.g8.Code]
structure B4 where
 i7:Int
 b8:List s7
def a1h(x:B4):List V:=[vi x.i7,n7 8 w6 x.b8]
structure t8 where
 b7:Int
 A:Int
 B:Int
 N:Int
def C2(x:t8):List V:=[vi x.b7,vi x.A,vi x.B,vi x.N]
structure m4 where
 Id:Int
 Acc:B4
 a9:List p9
 Seq:Int
 d6:Int
 b5:Int
 d7:List Bool
 j5:List s7
 g9:p9
 b8:List Bool
 j6:Bool
 j8:List t8
 d9:p9
 i5:List p9
def B3(x:m4):List V:=[vi x.Id,vi x.Acc.i7,n7 8 w6 x.Acc.b8,n7 7 x9 x.a9,vi x.Seq,vi x.d6,vi x.b5,n7 1 eB x.d7,n7 8 w6 x.j5,.b x.g9.j9,vi x.g9.b6.i0,vi x.g9.b6.Seq,n7 2 A7 x.g9.g8.d8,n7 2 A8 x.g9.g8.f0,vi x.g9.g8.i8,vi x.g9.g8.Code,n7 1 eB x.b8,.b x.j6,n7 4 C2 x.j8,.b x.d9.j9,vi x.d9.b6.i0,vi x.d9.b6.Seq,n7 2 A7 x.d9.g8.d8,n7 2 A8 x.d9.g8.f0,vi x.d9.g8.i8,vi x.d9.g8.Code,n7 7 x9 x.i5]
structure m9 where
 b7:Int
 d7:Int
 To:Int
 b5:Int
 i6:Int
 i9:p9
 b8:List s7
def x7(x:m9):List V:=[vi x.b7,vi x.d7,vi x.To,vi x.b5,vi x.i6,.b x.i9.j9,vi x.i9.b6.i0,vi x.i9.b6.Seq,n7 2 A7 x.i9.g8.d8,n7 2 A8 x.i9.g8.f0,vi x.i9.g8.i8,vi x.i9.g8.Code,n7 8 w6 x.b8]
structure B2 where
 b6:u0
 j8:List t8
def C9(x:B2):List V:=[vi x.b6.i0,vi x.b6.Seq,n7 4 C2 x.j8]
structure s8 where
 Node:Int
 b6:u0
 Code:Int
 i8:Int
def B6(x:s8):List V:=[vi x.Node,vi x.b6.i0,vi x.b6.Seq,vi x.Code,vi x.i8]
structure m6 where
 b9:List m4
 c9:List m9
 i4:List B2
 Told:List s8
def N0(x:m6):List V:=[n7 27 B3 x.b9,n7 13 x7 x.c9,n7 3 C9 x.i4,n7 5 B6 x.Told]
structure v6 where
 b7:Int
 A:Int
 j8:List t8
def L2(x:v6):List V:=[vi x.b7,vi x.A,n7 4 C2 x.j8]
structure z7 where
 b:List Int
 p:Int
def a1p(x:z7):List V:=[n7 1 P4 x.b,vi x.p]
structure t7 where
 l8:Int
 i8:Int
def B9(x:t7):List V:=[vi x.l8,vi x.i8]
structure x6 where
 b6:u0
 Code:Int
 i8:Int
abbrev WY:m4:=(m4.mk 0 (B4.mk 0 []) [] 0 0 0 [] [] (p9.mk W (u0.mk 0 0) (s9.mk [] [] 0 0)) [] W [] (p9.mk W (u0.mk 0 0) (s9.mk [] [] 0 0)) [])
abbrev WZ:m9:=(m9.mk 0 0 0 0 0 (p9.mk W (u0.mk 0 0) (s9.mk [] [] 0 0)) [])
abbrev W_:s7:=(s7.mk 0 (p9.mk W (u0.mk 0 0) (s9.mk [] [] 0 0)))
abbrev Yj:p9:=(p9.mk W (u0.mk 0 0) (s9.mk [] [] 0 0))
abbrev Yk:s8:=(s8.mk 0 (u0.mk 0 0) 0 0)
abbrev Yq:x6:=(x6.mk (u0.mk 0 0) 0 0)
abbrev Yv:B2:=(B2.mk (u0.mk 0 0) [])
abbrev Yy:s9:=(s9.mk [] [] 0 0)
abbrev Yz:t8:=(t8.mk 0 0 0 0)
def E4(x:x6):List V:=[vi x.b6.i0,vi x.b6.Seq,vi x.Code,vi x.i8]
structure A4 where
 At:Int
 j4:List t7
 l7:List x6
def a9S(x:A4):List V:=[vi x.At,n7 2 B9 x.j4,n7 4 E4 x.l7]
structure u7 where
 n:m4
 out:List m9
 told:List s8
def d4S(x:u7):List V:=[vi x.n.Id,vi x.n.Acc.i7,n7 8 w6 x.n.Acc.b8,n7 7 x9 x.n.a9,vi x.n.Seq,vi x.n.d6,vi x.n.b5,n7 1 eB x.n.d7,n7 8 w6 x.n.j5,.b x.n.g9.j9,vi x.n.g9.b6.i0,vi x.n.g9.b6.Seq,n7 2 A7 x.n.g9.g8.d8,n7 2 A8 x.n.g9.g8.f0,vi x.n.g9.g8.i8,vi x.n.g9.g8.Code,n7 1 eB x.n.b8,.b x.n.j6,n7 4 C2 x.n.j8,.b x.n.d9.j9,vi x.n.d9.b6.i0,vi x.n.d9.b6.Seq,n7 2 A7 x.n.d9.g8.d8,n7 2 A8 x.n.d9.g8.f0,vi x.n.d9.g8.i8,vi x.n.d9.g8.Code,n7 7 x9 x.n.i5,n7 13 x7 x.out,n7 5 B6 x.told]
def B8(x:m4):List V:=[vi x.Id,vi x.Acc.i7,A5 121 8 w6 x.Acc.b8,A5 50 7 x9 x.a9,vi x.Seq,vi x.d6,vi x.b5,A5 4 1 eB x.d7,n7 8 w6 x.j5,.b x.g9.j9,vi x.g9.b6.i0,vi x.g9.b6.Seq,n7 2 A7 x.g9.g8.d8,n7 2 A8 x.g9.g8.f0,vi x.g9.g8.i8,vi x.g9.g8.Code,A5 4 1 eB x.b8,.b x.j6,n7 4 C2 x.j8,.b x.d9.j9,vi x.d9.b6.i0,vi x.d9.b6.Seq,n7 2 A7 x.d9.g8.d8,n7 2 A8 x.d9.g8.f0,vi x.d9.g8.i8,vi x.d9.g8.Code,A5 50 7 x9 x.i5]
def a8M(x:m4):∀v∈B8 x,v.isRef=W:=by simp[B8,V.isRef,vi,n7,A5,b1o]
def b3f(x:m4):a28 (B8 x)=B3 x:=by simp[B8,B3,a28,a9i,vi,n7,A5,b1o]
def a2l(x:s7):List V:=[vi x.b5,.b x.i9.j9,vi x.i9.b6.i0,vi x.i9.b6.Seq,A5 116 2 A7 x.i9.g8.d8,A5 119 2 A8 x.i9.g8.f0,vi x.i9.g8.i8,vi x.i9.g8.Code]
def e5w(x:s7):a28 (a2l x)=w6 x:=by simp[a2l,w6,a28,a9i,vi,n7,A5,b1o]
def b1N(l:List t8):List V:=[n7 4 C2 l]
def L7(x:u0):List Int:=[x.i0,x.Seq]
def e1v(x_:m4):List V:=[vi x_.Id,vi x_.Acc.i7,n7 8 w6 x_.Acc.b8,A5 50 7 x9 x_.a9,vi x_.Seq,vi x_.d6,vi x_.b5,A5 4 1 eB x_.d7,n7 8 w6 x_.j5,.b x_.g9.j9,vi x_.g9.b6.i0,vi x_.g9.b6.Seq,n7 2 A7 x_.g9.g8.d8,n7 2 A8 x_.g9.g8.f0,vi x_.g9.g8.i8,vi x_.g9.g8.Code,A5 4 1 eB x_.b8,.b x_.j6,n7 4 C2 x_.j8,.b x_.d9.j9,vi x_.d9.b6.i0,vi x_.d9.b6.Seq,n7 2 A7 x_.d9.g8.d8,n7 2 A8 x_.d9.g8.f0,vi x_.d9.g8.i8,vi x_.d9.g8.Code,A5 50 7 x9 x_.i5]
def a9x(x_:m6):List V:=[A5 59 27 B3 x_.b9,A5 70 13 x7 x_.c9,A5 72 3 C9 x_.i4,A5 66 5 B6 x_.Told]
def K8(x_:m4):List V:=[vi x_.Id,vi x_.Acc.i7,A5 121 8 w6 x_.Acc.b8,A5 50 7 x9 x_.a9,vi x_.Seq,vi x_.d6,vi x_.b5,A5 4 1 eB x_.d7,n7 8 w6 x_.j5,.b x_.g9.j9,vi x_.g9.b6.i0,vi x_.g9.b6.Seq,n7 2 A7 x_.g9.g8.d8,n7 2 A8 x_.g9.g8.f0,vi x_.g9.g8.i8,vi x_.g9.g8.Code,A5 4 1 eB x_.b8,.b x_.j6,n7 4 C2 x_.j8,.b x_.d9.j9,vi x_.d9.b6.i0,vi x_.d9.b6.Seq,n7 2 A7 x_.d9.g8.d8,n7 2 A8 x_.d9.g8.f0,vi x_.d9.g8.i8,vi x_.d9.g8.Code,A5 50 7 x9 x_.i5]
def Y2(x_:m6):List V:=[b1o 59 27 B8 x_.b9,A5 70 13 x7 x_.c9,A5 72 3 C9 x_.i4,A5 66 5 B6 x_.Told]
def a7H(x_:s9):List V:=[A5 116 2 A7 x_.d8,A5 119 2 A8 x_.f0,vi x_.i8,vi x_.Code]
def g0z(x_:p9):List V:=[.b x_.j9,vi x_.b6.i0,vi x_.b6.Seq,A5 116 2 A7 x_.g8.d8,A5 119 2 A8 x_.g8.f0,vi x_.g8.i8,vi x_.g8.Code]
def d42(x_:s7):List V:=[vi x_.b5,.b x_.i9.j9,vi x_.i9.b6.i0,vi x_.i9.b6.Seq,n7 2 A7 x_.i9.g8.d8,n7 2 A8 x_.i9.g8.f0,vi x_.i9.g8.i8,vi x_.i9.g8.Code]
def a9B(x_:m4):List V:=[vi x_.Id,vi x_.Acc.i7,.own 0 0 8 0 (O x_.Acc.b8),.own 0 1 7 0 (O x_.a9),vi x_.Seq,vi x_.d6,vi x_.b5,.own 0 2 1 0 (O x_.d7),n7 8 w6 x_.j5,.b x_.g9.j9,vi x_.g9.b6.i0,vi x_.g9.b6.Seq,n7 2 A7 x_.g9.g8.d8,n7 2 A8 x_.g9.g8.f0,vi x_.g9.g8.i8,vi x_.g9.g8.Code,.own 0 3 1 0 (O x_.b8),.b x_.j6,n7 4 C2 x_.j8,.b x_.d9.j9,vi x_.d9.b6.i0,vi x_.d9.b6.Seq,n7 2 A7 x_.d9.g8.d8,n7 2 A8 x_.d9.g8.f0,vi x_.d9.g8.i8,vi x_.d9.g8.Code,.own 0 4 7 0 (O x_.i5)]
def a0z(x_:m4):List V:=[vi x_.Id,vi x_.Acc.i7,n7 8 w6 x_.Acc.b8,n7 7 x9 x_.a9,vi x_.Seq,vi x_.d6,vi x_.b5,n7 1 eB x_.d7,n7 8 w6 x_.j5,.b x_.g9.j9,vi x_.g9.b6.i0,vi x_.g9.b6.Seq,n7 2 A7 x_.g9.g8.d8,n7 2 A8 x_.g9.g8.f0,vi x_.g9.g8.i8,vi x_.g9.g8.Code,n7 1 eB x_.b8,.b x_.j6,n7 4 C2 x_.j8,.b x_.d9.j9,vi x_.d9.b6.i0,vi x_.d9.b6.Seq,n7 2 A7 x_.d9.g8.d8,n7 2 A8 x_.d9.g8.f0,vi x_.d9.g8.i8,vi x_.d9.g8.Code,n7 7 x9 x_.i5]
def a5Z(x_:m9):List V:=[vi x_.b7,vi x_.d7,vi x_.To,vi x_.b5,vi x_.i6,.b x_.i9.j9,vi x_.i9.b6.i0,vi x_.i9.b6.Seq,n7 2 A7 x_.i9.g8.d8,n7 2 A8 x_.i9.g8.f0,vi x_.i9.g8.i8,vi x_.i9.g8.Code,n7 8 w6 x_.b8]
def a4D(x_:p9):List V:=[.b x_.j9,vi x_.b6.i0,vi x_.b6.Seq,n7 2 A7 x_.g8.d8,n7 2 A8 x_.g8.f0,vi x_.g8.i8,vi x_.g8.Code]
def b4J(x_:A4):List V:=[vi x_.At,A5 165 2 B9 x_.j4,n7 4 E4 x_.l7]
def f7Y(x_:m4):List V:=[.bot,.bot,A5 121 8 w6 x_.Acc.b8,A5 50 7 x9 x_.a9,.bot,.bot,.bot,A5 4 1 eB x_.d7,.bot,.bot,.bot,.bot,.bot,.bot,.bot,.bot,A5 4 1 eB x_.b8,.bot,.bot,.bot,.bot,.bot,.bot,.bot,.bot,.bot,A5 50 7 x9 x_.i5]
def e1O(x_:m4):List V:=[vi x_.Id,vi x_.Acc.i7,.own 3 0 8 0 (O x_.Acc.b8),.own 4 0 7 0 (O x_.a9),vi x_.Seq,vi x_.d6,vi x_.b5,.own 5 0 1 0 (O x_.d7),n7 8 w6 x_.j5,.b x_.g9.j9,vi x_.g9.b6.i0,vi x_.g9.b6.Seq,n7 2 A7 x_.g9.g8.d8,n7 2 A8 x_.g9.g8.f0,vi x_.g9.g8.i8,vi x_.g9.g8.Code,.own 6 0 1 0 (O x_.b8),.b x_.j6,n7 4 C2 x_.j8,.b x_.d9.j9,vi x_.d9.b6.i0,vi x_.d9.b6.Seq,n7 2 A7 x_.d9.g8.d8,n7 2 A8 x_.d9.g8.f0,vi x_.d9.g8.i8,vi x_.d9.g8.Code,.own 7 0 7 0 (O x_.i5)]
def b93(x_:u7):List V:=[vi x_.n.Id,vi x_.n.Acc.i7,n7 8 w6 x_.n.Acc.b8,A5 50 7 x9 x_.n.a9,vi x_.n.Seq,vi x_.n.d6,vi x_.n.b5,A5 4 1 eB x_.n.d7,n7 8 w6 x_.n.j5,.b x_.n.g9.j9,vi x_.n.g9.b6.i0,vi x_.n.g9.b6.Seq,n7 2 A7 x_.n.g9.g8.d8,n7 2 A8 x_.n.g9.g8.f0,vi x_.n.g9.g8.i8,vi x_.n.g9.g8.Code,A5 4 1 eB x_.n.b8,.b x_.n.j6,n7 4 C2 x_.n.j8,.b x_.n.d9.j9,vi x_.n.d9.b6.i0,vi x_.n.d9.b6.Seq,n7 2 A7 x_.n.d9.g8.d8,n7 2 A8 x_.n.d9.g8.f0,vi x_.n.d9.g8.i8,vi x_.n.d9.g8.Code,A5 50 7 x9 x_.n.i5,A5 70 13 x7 x_.out,A5 66 5 B6 x_.told]
def b4h(x_:A4):List V:=[vi x_.At,A5 165 2 B9 x_.j4,A5 198 4 E4 x_.l7]
def c32(x_:u7):List V:=[vi x_.n.Id,vi x_.n.Acc.i7,n7 8 w6 x_.n.Acc.b8,.own 0 1 7 0 (O x_.n.a9),vi x_.n.Seq,vi x_.n.d6,vi x_.n.b5,.own 0 2 1 0 (O x_.n.d7),n7 8 w6 x_.n.j5,.b x_.n.g9.j9,vi x_.n.g9.b6.i0,vi x_.n.g9.b6.Seq,n7 2 A7 x_.n.g9.g8.d8,n7 2 A8 x_.n.g9.g8.f0,vi x_.n.g9.g8.i8,vi x_.n.g9.g8.Code,.own 0 3 1 0 (O x_.n.b8),.b x_.n.j6,n7 4 C2 x_.n.j8,.b x_.n.d9.j9,vi x_.n.d9.b6.i0,vi x_.n.d9.b6.Seq,n7 2 A7 x_.n.d9.g8.d8,n7 2 A8 x_.n.d9.g8.f0,vi x_.n.d9.g8.i8,vi x_.n.d9.g8.Code,n7 7 x9 x_.n.i5,.own 0 4 13 0 (O x_.out),.own 0 5 5 0 (O x_.told)]
def S4(x_:u7):List V:=[vi x_.n.Id,vi x_.n.Acc.i7,n7 8 w6 x_.n.Acc.b8,A5 50 7 x9 x_.n.a9,vi x_.n.Seq,vi x_.n.d6,vi x_.n.b5,A5 4 1 eB x_.n.d7,n7 8 w6 x_.n.j5,.b x_.n.g9.j9,vi x_.n.g9.b6.i0,vi x_.n.g9.b6.Seq,n7 2 A7 x_.n.g9.g8.d8,n7 2 A8 x_.n.g9.g8.f0,vi x_.n.g9.g8.i8,vi x_.n.g9.g8.Code,A5 4 1 eB x_.n.b8,.b x_.n.j6,n7 4 C2 x_.n.j8,.b x_.n.d9.j9,vi x_.n.d9.b6.i0,vi x_.n.d9.b6.Seq,n7 2 A7 x_.n.d9.g8.d8,n7 2 A8 x_.n.d9.g8.f0,vi x_.n.d9.g8.i8,vi x_.n.d9.g8.Code,n7 7 x9 x_.n.i5,A5 70 13 x7 x_.out,A5 66 5 B6 x_.told]
def b6A(x_:u7):List V:=[vi x_.n.Id,vi x_.n.Acc.i7,n7 8 w6 x_.n.Acc.b8,.own 1 0 7 0 (O x_.n.a9),vi x_.n.Seq,vi x_.n.d6,vi x_.n.b5,.own 2 0 1 0 (O x_.n.d7),n7 8 w6 x_.n.j5,.b x_.n.g9.j9,vi x_.n.g9.b6.i0,vi x_.n.g9.b6.Seq,n7 2 A7 x_.n.g9.g8.d8,n7 2 A8 x_.n.g9.g8.f0,vi x_.n.g9.g8.i8,vi x_.n.g9.g8.Code,.own 3 0 1 0 (O x_.n.b8),.b x_.n.j6,n7 4 C2 x_.n.j8,.b x_.n.d9.j9,vi x_.n.d9.b6.i0,vi x_.n.d9.b6.Seq,n7 2 A7 x_.n.d9.g8.d8,n7 2 A8 x_.n.d9.g8.f0,vi x_.n.d9.g8.i8,vi x_.n.d9.g8.Code,n7 7 x9 x_.n.i5,.own 4 0 13 0 (O x_.out),.own 5 0 5 0 (O x_.told)]
def f0F(x_:u7):List V:=[vi x_.n.Id,vi x_.n.Acc.i7,n7 8 w6 x_.n.Acc.b8,.own 6 0 7 0 (O x_.n.a9),vi x_.n.Seq,vi x_.n.d6,vi x_.n.b5,.own 5 0 1 0 (O x_.n.d7),n7 8 w6 x_.n.j5,.b x_.n.g9.j9,vi x_.n.g9.b6.i0,vi x_.n.g9.b6.Seq,n7 2 A7 x_.n.g9.g8.d8,n7 2 A8 x_.n.g9.g8.f0,vi x_.n.g9.g8.i8,vi x_.n.g9.g8.Code,.own 4 0 1 0 (O x_.n.b8),.b x_.n.j6,n7 4 C2 x_.n.j8,.b x_.n.d9.j9,vi x_.n.d9.b6.i0,vi x_.n.d9.b6.Seq,n7 2 A7 x_.n.d9.g8.d8,n7 2 A8 x_.n.d9.g8.f0,vi x_.n.d9.g8.i8,vi x_.n.d9.g8.Code,n7 7 x9 x_.n.i5,.own 3 0 13 0 (O x_.out),.own 2 0 5 0 (O x_.told)]
def b4b(x_:u7):List V:=[vi x_.n.Id,vi x_.n.Acc.i7,n7 8 w6 x_.n.Acc.b8,.own 3 0 7 0 (O x_.n.a9),vi x_.n.Seq,vi x_.n.d6,vi x_.n.b5,.own 4 0 1 0 (O x_.n.d7),n7 8 w6 x_.n.j5,.b x_.n.g9.j9,vi x_.n.g9.b6.i0,vi x_.n.g9.b6.Seq,n7 2 A7 x_.n.g9.g8.d8,n7 2 A8 x_.n.g9.g8.f0,vi x_.n.g9.g8.i8,vi x_.n.g9.g8.Code,.own 5 0 1 0 (O x_.n.b8),.b x_.n.j6,n7 4 C2 x_.n.j8,.b x_.n.d9.j9,vi x_.n.d9.b6.i0,vi x_.n.d9.b6.Seq,n7 2 A7 x_.n.d9.g8.d8,n7 2 A8 x_.n.d9.g8.f0,vi x_.n.d9.g8.i8,vi x_.n.d9.g8.Code,n7 7 x9 x_.n.i5,.own 6 0 13 0 (O x_.out),.own 7 0 5 0 (O x_.told)]
def d2T(x_:u7):List V:=[vi x_.n.Id,vi x_.n.Acc.i7,n7 8 w6 x_.n.Acc.b8,.own 1 0 7 0 (O x_.n.a9),vi x_.n.Seq,vi x_.n.d6,vi x_.n.b5,.own 0 2 1 0 (O x_.n.d7),n7 8 w6 x_.n.j5,.b x_.n.g9.j9,vi x_.n.g9.b6.i0,vi x_.n.g9.b6.Seq,n7 2 A7 x_.n.g9.g8.d8,n7 2 A8 x_.n.g9.g8.f0,vi x_.n.g9.g8.i8,vi x_.n.g9.g8.Code,.own 2 0 1 0 (O x_.n.b8),.b x_.n.j6,n7 4 C2 x_.n.j8,.b x_.n.d9.j9,vi x_.n.d9.b6.i0,vi x_.n.d9.b6.Seq,n7 2 A7 x_.n.d9.g8.d8,n7 2 A8 x_.n.d9.g8.f0,vi x_.n.d9.g8.i8,vi x_.n.d9.g8.Code,n7 7 x9 x_.n.i5,.own 0 4 13 0 (O x_.out),.own 0 5 5 0 (O x_.told)]
def e1R(x_:u7):List V:=[vi x_.n.Id,vi x_.n.Acc.i7,n7 8 w6 x_.n.Acc.b8,.own 1 0 7 0 (O x_.n.a9),vi x_.n.Seq,vi x_.n.d6,vi x_.n.b5,.own 0 2 1 0 (O x_.n.d7),n7 8 w6 x_.n.j5,.b x_.n.g9.j9,vi x_.n.g9.b6.i0,vi x_.n.g9.b6.Seq,n7 2 A7 x_.n.g9.g8.d8,n7 2 A8 x_.n.g9.g8.f0,vi x_.n.g9.g8.i8,vi x_.n.g9.g8.Code,.own 2 0 1 0 (O x_.n.b8),.b x_.n.j6,n7 4 C2 x_.n.j8,.b x_.n.d9.j9,vi x_.n.d9.b6.i0,vi x_.n.d9.b6.Seq,n7 2 A7 x_.n.d9.g8.d8,n7 2 A8 x_.n.d9.g8.f0,vi x_.n.d9.g8.i8,vi x_.n.d9.g8.Code,n7 7 x9 x_.n.i5,.own 0 4 13 0 (O x_.out),.own 3 0 5 0 (O x_.told)]
def f6d(x_:u7):List V:=[vi x_.n.Id,vi x_.n.Acc.i7,n7 8 w6 x_.n.Acc.b8,.own 4 0 7 0 (O x_.n.a9),vi x_.n.Seq,vi x_.n.d6,vi x_.n.b5,.own 5 0 1 0 (O x_.n.d7),n7 8 w6 x_.n.j5,.b x_.n.g9.j9,vi x_.n.g9.b6.i0,vi x_.n.g9.b6.Seq,n7 2 A7 x_.n.g9.g8.d8,n7 2 A8 x_.n.g9.g8.f0,vi x_.n.g9.g8.i8,vi x_.n.g9.g8.Code,.own 6 0 1 0 (O x_.n.b8),.b x_.n.j6,n7 4 C2 x_.n.j8,.b x_.n.d9.j9,vi x_.n.d9.b6.i0,vi x_.n.d9.b6.Seq,n7 2 A7 x_.n.d9.g8.d8,n7 2 A8 x_.n.d9.g8.f0,vi x_.n.d9.g8.i8,vi x_.n.d9.g8.Code,n7 7 x9 x_.n.i5,.own 7 0 13 0 (O x_.out),.own 8 0 5 0 (O x_.told)]
def a9E(x_:m4):List x8:=[s5 121 8 w6 x_.Acc.b8,s5 50 7 x9 x_.a9,s5 4 1 eB x_.d7,s5 4 1 eB x_.b8,s5 50 7 x9 x_.i5]
def f7m(x_:m4):List (Option (List x8)):=[U [s5 121 8 w6 x_.Acc.b8],U [s5 50 7 x9 x_.a9],U [s5 4 1 eB x_.d7],U [s5 4 1 eB x_.b8],U [s5 50 7 x9 x_.i5]]
def c7O(x_:u7):List x8:=[s5 50 7 x9 x_.n.a9,s5 4 1 eB x_.n.d7,s5 4 1 eB x_.n.b8,s5 70 13 x7 x_.out,s5 66 5 B6 x_.told]
def a4T(x_:u7):List (Option (List x8)):=[U [s5 50 7 x9 x_.n.a9],U [s5 4 1 eB x_.n.d7],U [s5 4 1 eB x_.n.b8],U [s5 70 13 x7 x_.out],U [s5 66 5 B6 x_.told]]
def e8o(x_:u7):List (Option (List x8)):=[U [s5 66 5 B6 x_.told],U [s5 70 13 x7 x_.out],U [s5 4 1 eB x_.n.b8],U [s5 4 1 eB x_.n.d7],U [s5 50 7 x9 x_.n.a9]]
def c90(x_:u7):List x8:=[s5 70 13 x7 x_.out,s5 66 5 B6 x_.told]
def c81(x_:u7):List (Option (List x8)):=[U [s5 50 7 x9 x_.n.a9],U [s5 4 1 eB x_.n.b8]]
def e7r(x_:u7):List (Option (List x8)):=[U [s5 50 7 x9 x_.n.a9],U [s5 4 1 eB x_.n.b8],U [s5 66 5 B6 x_.told]]
def om1:List (Option Nat):=[Z,Z,Z,U 50,Z,Z,Z,U 4,Z,Z,Z,Z,Z,Z,Z,Z,U 4,Z,Z,Z,Z,Z,Z,Z,Z,Z,U 50]
def om2:List (Option Nat):=[U 59,U 70,U 72,U 66]
def K4:List (Option Nat):=[Z,Z,U 121,U 50,Z,Z,Z,U 4,Z,Z,Z,Z,Z,Z,Z,Z,U 4,Z,Z,Z,Z,Z,Z,Z,Z,Z,U 50]
def Z2:List (Option Nat):=[U 1000059,U 70,U 72,U 66]
def om5:List (Option Nat):=[U 116,U 119,Z,Z]
def om6:List (Option Nat):=[Z,Z,Z,U 116,U 119,Z,Z]
def om7:List (Option Nat):=[Z,Z,Z,U 50,Z,Z,Z,U 4,Z,Z,Z,Z,Z,Z,Z,Z,U 4,Z,Z,Z,Z,Z,Z,Z,Z,Z,U 50,U 70,U 66]
def S6:List (Option Nat):=[Z,Z,Z,U 50,Z,Z,Z,U 4,Z,Z,Z,Z,Z,Z,Z,Z,U 4,Z,Z,Z,Z,Z,Z,Z,Z,Z,Z,U 70,U 66]
def F4:List (Option Nat):=[U 27,U 13,U 3,U 5]
def U4:List (Option Nat):=[U 2,U 2,Z,Z]
def Q2:List (Option Nat):=[Z,Z,Z,U 2,U 2,Z,Z]
def D1:List (Option Nat):=[Z,Z,U 8,U 7,Z,Z,Z,U 1,U 8,Z,Z,Z,U 2,U 2,Z,Z,U 1,Z,U 4,Z,Z,Z,U 2,U 2,Z,Z,U 7]
def E5:List (Option Nat):=[Z,Z,Z,Z,Z,Z,Z,Z,U 2,U 2,Z,Z,U 8]
def a0p:List (Option Nat):=[Z,Z,Z,Z,U 2,U 2,Z,Z]
def N1:List (Option Nat):=[Z,Z,U 8,U 7,Z,Z,Z,U 1,U 8,Z,Z,Z,U 2,U 2,Z,Z,U 1,Z,U 4,Z,Z,Z,U 2,U 2,Z,Z,U 7,U 13,U 5]
def d0q(d:Nat)(w:World)(x0 x1 y0 y1:Int):(Op.equalIn (d+2) 44 (.agg #[.int .i64 x0,.int .i64 x1]) (.agg #[.int .i64 y0,.int .i64 y1])).run Tryz.prog w=.ok ((x0==y0)&&((x1==y1)&&Y)) w:=by
 refine b2W Tryz.underlying44 Tryz.stoodInHeld44 ?_;refine a1A (by rfl) (by first|(go_simp;done)|(go_simp;rfl)) (by first|(go_simp;done)|(go_simp;rfl)) (a2m Tryz.underlying3) ?_;refine a1A (by rfl) (by first|(go_simp;done)|(go_simp;rfl)) (by first|(go_simp;done)|(go_simp;rfl)) (a2m Tryz.underlying3) ?_;exact b20
def e5f(xs ys:List Int)(w:World)(hx:(O xs)=2)(hy:(O ys)=2):(Op.equal 44 (.agg (xs.map (Value.int .i64)).toArray) (.agg (ys.map (Value.int .i64)).toArray)).run Tryz.prog w=.ok (xs==ys) w:=by
 match xs,ys,hx,hy with
 | [x0,x1],[y0,y1],_,_=>
  have h:=d0q 9998 w x0 x1 y0 y1;have e:((x0==y0)&&((x1==y1)&&Y))=([x0,x1]==([y0,y1]:List Int)):=by simp[g2G]
  rw[e]at h;exact h
def f9t(d:Nat)(w:World)(x0 x1 x2 x3 x4 y0 y1 y2 y3 y4:Int):(Op.equalIn (d+3) 66 (.agg #[.int .i64 x0,.int .i64 x1,.int .i64 x2,.int .i64 x3,.int .i64 x4]) (.agg #[.int .i64 y0,.int .i64 y1,.int .i64 y2,.int .i64 y3,.int .i64 y4])).run Tryz.prog w=.ok ((x0==y0)&&(((x1==y1)&&((x2==y2)&&Y))&&((x3==y3)&&((x4==y4)&&Y)))) w:=by
 refine b2W Tryz.underlying66 Tryz.stoodInHeld66 ?_;refine a1A (by rfl) (by first|(go_simp;done)|(go_simp;rfl)) (by first|(go_simp;done)|(go_simp;rfl)) (a2m Tryz.underlying3) ?_;refine a1A (by rfl) (by first|(go_simp;done)|(go_simp;rfl)) (by first|(go_simp;done)|(go_simp;rfl)) (d0q (d+0) w x1 x2 y1 y2) ?_;refine a1A (by rfl) (by first|(go_simp;done)|(go_simp;rfl)) (by first|(go_simp;done)|(go_simp;rfl)) (a2m Tryz.underlying3) ?_;refine a1A (by rfl) (by first|(go_simp;done)|(go_simp;rfl)) (by first|(go_simp;done)|(go_simp;rfl)) (a2m Tryz.underlying3) ?_;exact b20
def e87(xs ys:List Int)(w:World)(hx:(O xs)=5)(hy:(O ys)=5):(Op.equal 66 (.agg (xs.map (Value.int .i64)).toArray) (.agg (ys.map (Value.int .i64)).toArray)).run Tryz.prog w=.ok (xs==ys) w:=by
 match xs,ys,hx,hy with
 | [x0,x1,x2,x3,x4],[y0,y1,y2,y3,y4],_,_=>
  have h:=f9t 9997 w x0 x1 x2 x3 x4 y0 y1 y2 y3 y4;have e:((x0==y0)&&(((x1==y1)&&((x2==y2)&&Y))&&((x3==y3)&&((x4==y4)&&Y))))=([x0,x1,x2,x3,x4]==([y0,y1,y2,y3,y4]:List Int)):=by simp[g2G]
  rw[e]at h;exact h
def f4v(d:Nat)(w:World)(x0 x1 x2 x3 y0 y1 y2 y3:Int):(Op.equalIn (d+2) 88 (.agg #[.int .i64 x0,.int .i64 x1,.int .i64 x2,.int .i64 x3]) (.agg #[.int .i64 y0,.int .i64 y1,.int .i64 y2,.int .i64 y3])).run Tryz.prog w=.ok ((x0==y0)&&((x1==y1)&&((x2==y2)&&((x3==y3)&&Y)))) w:=by
 refine b2W Tryz.underlying88 Tryz.stoodInHeld88 ?_;refine a1A (by rfl) (by first|(go_simp;done)|(go_simp;rfl)) (by first|(go_simp;done)|(go_simp;rfl)) (a2m Tryz.underlying3) ?_;refine a1A (by rfl) (by first|(go_simp;done)|(go_simp;rfl)) (by first|(go_simp;done)|(go_simp;rfl)) (a2m Tryz.underlying3) ?_;refine a1A (by rfl) (by first|(go_simp;done)|(go_simp;rfl)) (by first|(go_simp;done)|(go_simp;rfl)) (a2m Tryz.underlying3) ?_;refine a1A (by rfl) (by first|(go_simp;done)|(go_simp;rfl)) (by first|(go_simp;done)|(go_simp;rfl)) (a2m Tryz.underlying3) ?_;exact b20
def e88(xs ys:List Int)(w:World)(hx:(O xs)=4)(hy:(O ys)=4):(Op.equal 88 (.agg (xs.map (Value.int .i64)).toArray) (.agg (ys.map (Value.int .i64)).toArray)).run Tryz.prog w=.ok (xs==ys) w:=by
 match xs,ys,hx,hy with
 | [x0,x1,x2,x3],[y0,y1,y2,y3],_,_=>
  have h:=f4v 9998 w x0 x1 x2 x3 y0 y1 y2 y3;have e:((x0==y0)&&((x1==y1)&&((x2==y2)&&((x3==y3)&&Y))))=([x0,x1,x2,x3]==([y0,y1,y2,y3]:List Int)):=by simp[g2G]
  rw[e]at h;exact h
def f2N(d:Nat)(w:World)(x0 x1 y0 y1:Int):(Op.equalIn (d+2) 116 (.agg #[.int .i64 x0,.int .i64 x1]) (.agg #[.int .i64 y0,.int .i64 y1])).run Tryz.prog w=.ok ((x0==y0)&&((x1==y1)&&Y)) w:=by
 refine b2W Tryz.underlying116 Tryz.stoodInHeld116 ?_;refine a1A (by rfl) (by first|(go_simp;done)|(go_simp;rfl)) (by first|(go_simp;done)|(go_simp;rfl)) (a2m Tryz.underlying3) ?_;refine a1A (by rfl) (by first|(go_simp;done)|(go_simp;rfl)) (by first|(go_simp;done)|(go_simp;rfl)) (a2m Tryz.underlying3) ?_;exact b20
def f6A(xs ys:List Int)(w:World)(hx:(O xs)=2)(hy:(O ys)=2):(Op.equal 116 (.agg (xs.map (Value.int .i64)).toArray) (.agg (ys.map (Value.int .i64)).toArray)).run Tryz.prog w=.ok (xs==ys) w:=by
 match xs,ys,hx,hy with
 | [x0,x1],[y0,y1],_,_=>
  have h:=f2N 9998 w x0 x1 y0 y1;have e:((x0==y0)&&((x1==y1)&&Y))=([x0,x1]==([y0,y1]:List Int)):=by simp[g2G]
  rw[e]at h;exact h
def e2q(d:Nat)(w:World)(x0 x1 y0 y1:Int):(Op.equalIn (d+2) 119 (.agg #[.int .i64 x0,.int .i64 x1]) (.agg #[.int .i64 y0,.int .i64 y1])).run Tryz.prog w=.ok ((x0==y0)&&((x1==y1)&&Y)) w:=by
 refine b2W Tryz.underlying119 Tryz.stoodInHeld119 ?_;refine a1A (by rfl) (by first|(go_simp;done)|(go_simp;rfl)) (by first|(go_simp;done)|(go_simp;rfl)) (a2m Tryz.underlying3) ?_;refine a1A (by rfl) (by first|(go_simp;done)|(go_simp;rfl)) (by first|(go_simp;done)|(go_simp;rfl)) (a2m Tryz.underlying3) ?_;exact b20
def f1L(xs ys:List Int)(w:World)(hx:(O xs)=2)(hy:(O ys)=2):(Op.equal 119 (.agg (xs.map (Value.int .i64)).toArray) (.agg (ys.map (Value.int .i64)).toArray)).run Tryz.prog w=.ok (xs==ys) w:=by
 match xs,ys,hx,hy with
 | [x0,x1],[y0,y1],_,_=>
  have h:=e2q 9998 w x0 x1 y0 y1;have e:((x0==y0)&&((x1==y1)&&Y))=([x0,x1]==([y0,y1]:List Int)):=by simp[g2G]
  rw[e]at h;exact h
def f0o(d:Nat)(w:World)(x0 x1 y0 y1:Int):(Op.equalIn (d+2) 165 (.agg #[.int .i64 x0,.int .i64 x1]) (.agg #[.int .i64 y0,.int .i64 y1])).run Tryz.prog w=.ok ((x0==y0)&&((x1==y1)&&Y)) w:=by
 refine b2W Tryz.underlying165 Tryz.stoodInHeld165 ?_;refine a1A (by rfl) (by first|(go_simp;done)|(go_simp;rfl)) (by first|(go_simp;done)|(go_simp;rfl)) (a2m Tryz.underlying3) ?_;refine a1A (by rfl) (by first|(go_simp;done)|(go_simp;rfl)) (by first|(go_simp;done)|(go_simp;rfl)) (a2m Tryz.underlying3) ?_;exact b20
def e6V(xs ys:List Int)(w:World)(hx:(O xs)=2)(hy:(O ys)=2):(Op.equal 165 (.agg (xs.map (Value.int .i64)).toArray) (.agg (ys.map (Value.int .i64)).toArray)).run Tryz.prog w=.ok (xs==ys) w:=by
 match xs,ys,hx,hy with
 | [x0,x1],[y0,y1],_,_=>
  have h:=f0o 9998 w x0 x1 y0 y1;have e:((x0==y0)&&((x1==y1)&&Y))=([x0,x1]==([y0,y1]:List Int)):=by simp[g2G]
  rw[e]at h;exact h
def ti3:TI:={size:=1,bytes:=8,agg:=W,zero:=[vi 0],sl:=Z,arr:=Z,ik:=U .i64,fs:=Z,str:=W,ptr:=Z,bl:=W}
def ti4:TI:={size:=1,bytes:=1,agg:=W,zero:=[.b W],sl:=Z,arr:=Z,ik:=Z,fs:=Z,str:=W,ptr:=Z,bl:=Y}
def ti5:TI:={size:=1,bytes:=1,agg:=W,zero:=[.i .u8 0],sl:=Z,arr:=Z,ik:=U .u8,fs:=Z,str:=W,ptr:=Z,bl:=W}
def d3z:TI:={size:=1,bytes:=24,agg:=W,zero:=[.nil],sl:=U 5,arr:=Z,ik:=Z,fs:=Z,str:=W,ptr:=Z,bl:=W}
def d7N:TI:={size:=1,bytes:=24,agg:=W,zero:=[.nil],sl:=U 59,arr:=Z,ik:=Z,fs:=Z,str:=W,ptr:=Z,bl:=W}
def d2C:TI:={size:=1,bytes:=24,agg:=W,zero:=[.nil],sl:=U 70,arr:=Z,ik:=Z,fs:=Z,str:=W,ptr:=Z,bl:=W}
def d9E:TI:={size:=1,bytes:=24,agg:=W,zero:=[.nil],sl:=U 72,arr:=Z,ik:=Z,fs:=Z,str:=W,ptr:=Z,bl:=W}
def d7d:TI:={size:=1,bytes:=24,agg:=W,zero:=[.nil],sl:=U 66,arr:=Z,ik:=Z,fs:=Z,str:=W,ptr:=Z,bl:=W}
def d46:TI:={size:=4,bytes:=96,agg:=Y,zero:=[.nil,.nil,.nil,.nil],sl:=Z,arr:=Z,ik:=Z,fs:=U [(0,23),(1,24),(2,25),(3,26)],str:=W,ptr:=Z,bl:=W}
def d3G:TI:={size:=1,bytes:=24,agg:=W,zero:=[.nil],sl:=U 39,arr:=Z,ik:=Z,fs:=Z,str:=W,ptr:=Z,bl:=W}
def d7R:TI:={size:=1,bytes:=24,agg:=W,zero:=[.nil],sl:=U 50,arr:=Z,ik:=Z,fs:=Z,str:=W,ptr:=Z,bl:=W}
def d2G:TI:={size:=1,bytes:=24,agg:=W,zero:=[.nil],sl:=U 88,arr:=Z,ik:=Z,fs:=Z,str:=W,ptr:=Z,bl:=W}
def d9f:TI:={size:=3,bytes:=40,agg:=Y,zero:=[vi 0,vi 0,.nil],sl:=Z,arr:=Z,ik:=Z,fs:=U [(0,3),(1,3),(2,37)],str:=W,ptr:=Z,bl:=W}
def c5X:TI:={size:=2,bytes:=16,agg:=Y,zero:=[vi 0,vi 0],sl:=Z,arr:=Z,ik:=Z,fs:=U [(0,3),(1,3)],str:=W,ptr:=Z,bl:=W}
def d37:TI:={size:=1,bytes:=24,agg:=W,zero:=[.nil],sl:=U 116,arr:=Z,ik:=Z,fs:=Z,str:=W,ptr:=Z,bl:=W}
def e0d:TI:={size:=1,bytes:=24,agg:=W,zero:=[.nil],sl:=U 119,arr:=Z,ik:=Z,fs:=Z,str:=W,ptr:=Z,bl:=W}
def d1I:TI:={size:=4,bytes:=64,agg:=Y,zero:=[.nil,.nil,vi 0,vi 0],sl:=Z,arr:=Z,ik:=Z,fs:=U [(0,45),(1,46),(2,3),(3,3)],str:=W,ptr:=Z,bl:=W}
def c35:TI:={size:=7,bytes:=88,agg:=Y,zero:=[.b W,vi 0,vi 0,.nil,.nil,vi 0,vi 0],sl:=Z,arr:=Z,ik:=Z,fs:=U [(0,4),(1,44),(3,48)],str:=W,ptr:=Z,bl:=W}
def d7w:TI:={size:=1,bytes:=24,agg:=W,zero:=[.nil],sl:=U 121,arr:=Z,ik:=Z,fs:=Z,str:=W,ptr:=Z,bl:=W}
def d1j:TI:={size:=2,bytes:=32,agg:=Y,zero:=[vi 0,.nil],sl:=Z,arr:=Z,ik:=Z,fs:=U [(0,3),(1,54)],str:=W,ptr:=Z,bl:=W}
def c84:TI:={size:=1,bytes:=24,agg:=W,zero:=[.nil],sl:=U 4,arr:=Z,ik:=Z,fs:=Z,str:=W,ptr:=Z,bl:=W}
def c5O:TI:={size:=27,bytes:=392,agg:=Y,zero:=[vi 0,vi 0,.nil,.nil,vi 0,vi 0,vi 0,.nil,.nil,.b W,vi 0,vi 0,.nil,.nil,vi 0,vi 0,.nil,.b W,.nil,.b W,vi 0,vi 0,.nil,.nil,vi 0,vi 0,.nil],sl:=Z,arr:=Z,ik:=Z,fs:=U [(0,3),(1,56),(3,34),(4,3),(5,3),(6,3),(7,57),(8,54),(9,50),(16,57),(17,4),(18,37),(19,50),(26,34)],str:=W,ptr:=Z,bl:=W}
def c5b:TI:={size:=5,bytes:=40,agg:=Y,zero:=[vi 0,vi 0,vi 0,vi 0,vi 0],sl:=Z,arr:=Z,ik:=Z,fs:=U [(0,3),(1,44),(3,3),(4,3)],str:=W,ptr:=Z,bl:=W}
def c4i:TI:={size:=13,bytes:=152,agg:=Y,zero:=[vi 0,vi 0,vi 0,vi 0,vi 0,.b W,vi 0,vi 0,.nil,.nil,vi 0,vi 0,.nil],sl:=Z,arr:=Z,ik:=Z,fs:=U [(0,3),(1,3),(2,3),(3,3),(4,3),(5,50),(12,54)],str:=W,ptr:=Z,bl:=W}
def c2N:TI:={size:=3,bytes:=40,agg:=Y,zero:=[vi 0,vi 0,.nil],sl:=Z,arr:=Z,ik:=Z,fs:=U [(0,44),(2,37)],str:=W,ptr:=Z,bl:=W}
def c3U:TI:={size:=4,bytes:=32,agg:=Y,zero:=[vi 0,vi 0,vi 0,vi 0],sl:=Z,arr:=Z,ik:=Z,fs:=U [(0,3),(1,3),(2,3),(3,3)],str:=W,ptr:=Z,bl:=W}
def d4l:TI:={size:=1,bytes:=24,agg:=W,zero:=[.nil],sl:=U 3,arr:=Z,ik:=Z,fs:=Z,str:=W,ptr:=Z,bl:=W}
def d6c:TI:={size:=2,bytes:=32,agg:=Y,zero:=[.nil,vi 0],sl:=Z,arr:=Z,ik:=Z,fs:=U [(0,22),(1,3)],str:=W,ptr:=Z,bl:=W}
def c2T:TI:={size:=2,bytes:=16,agg:=Y,zero:=[vi 0,vi 0],sl:=Z,arr:=Z,ik:=Z,fs:=U [(0,3),(1,3)],str:=W,ptr:=Z,bl:=W}
def c3s:TI:={size:=2,bytes:=16,agg:=Y,zero:=[vi 0,vi 0],sl:=Z,arr:=Z,ik:=Z,fs:=U [(0,3),(1,3)],str:=W,ptr:=Z,bl:=W}
def b3n:TI:={size:=8,bytes:=96,agg:=Y,zero:=[vi 0,.b W,vi 0,vi 0,.nil,.nil,vi 0,vi 0],sl:=Z,arr:=Z,ik:=Z,fs:=U [(0,3),(1,50)],str:=W,ptr:=Z,bl:=W}
def d6Z:TI:={size:=1,bytes:=24,agg:=W,zero:=[.nil],sl:=U 44,arr:=Z,ik:=Z,fs:=Z,str:=W,ptr:=Z,bl:=W}
def d3k:TI:={size:=1,bytes:=24,agg:=W,zero:=[.nil],sl:=U 37,arr:=Z,ik:=Z,fs:=Z,str:=W,ptr:=Z,bl:=W}
def d8p:TI:={size:=1,bytes:=24,agg:=W,zero:=[.nil],sl:=U 165,arr:=Z,ik:=Z,fs:=Z,str:=W,ptr:=Z,bl:=W}
def d9m:TI:={size:=1,bytes:=24,agg:=W,zero:=[.nil],sl:=U 198,arr:=Z,ik:=Z,fs:=Z,str:=W,ptr:=Z,bl:=W}
def d3j:TI:={size:=3,bytes:=56,agg:=Y,zero:=[vi 0,.nil,.nil],sl:=Z,arr:=Z,ik:=Z,fs:=U [(0,3),(1,128),(2,133)],str:=W,ptr:=Z,bl:=W}
def b4r:TI:={size:=2,bytes:=16,agg:=Y,zero:=[vi 0,vi 0],sl:=Z,arr:=Z,ik:=Z,fs:=U [(0,3),(1,3)],str:=W,ptr:=Z,bl:=W}
def d0o:TI:={size:=29,bytes:=440,agg:=Y,zero:=[vi 0,vi 0,.nil,.nil,vi 0,vi 0,vi 0,.nil,.nil,.b W,vi 0,vi 0,.nil,.nil,vi 0,vi 0,.nil,.b W,.nil,.b W,vi 0,vi 0,.nil,.nil,vi 0,vi 0,.nil,.nil,.nil],sl:=Z,arr:=Z,ik:=Z,fs:=U [(0,59),(27,24),(28,26)],str:=W,ptr:=Z,bl:=W}
def c4x:TI:={size:=4,bytes:=32,agg:=Y,zero:=[vi 0,vi 0,vi 0,vi 0],sl:=Z,arr:=Z,ik:=Z,fs:=U [(0,44),(2,3),(3,3)],str:=W,ptr:=Z,bl:=W}
def d43:TI:={size:=4,bytes:=4,agg:=Y,zero:=[.b W,.b W,.b W,.b W],sl:=Z,arr:=U (4,4),ik:=Z,fs:=Z,str:=W,ptr:=Z,bl:=W}
def d0P:TI:={size:=4,bytes:=32,agg:=Y,zero:=[vi 0,vi 0,vi 0,vi 0],sl:=Z,arr:=U (4,3),ik:=Z,fs:=Z,str:=W,ptr:=Z,bl:=W}
def c6c:List (Nat×TI):=[(3,ti3),(4,ti4),(5,ti5),(22,d3z),(23,d7N),(24,d2C),(25,d9E),(26,d7d),(28,d46),(31,d3G),(34,d7R),(37,d2G),(39,d9f),(44,c5X),(45,d37),(46,e0d),(48,d1I),(50,c35),(54,d7w),(56,d1j),(57,c84),(59,c5O),(66,c5b),(70,c4i),(72,c2N),(88,c3U),(94,d4l),(98,d6c),(116,c2T),(119,c3s),(121,b3n),(123,d6Z),(125,d3k),(128,d8p),(133,d9m),(135,d3j),(165,b4r),(179,d0o),(198,c4x),(200,d43),(201,d0P)]
def b9F:List (Nat×TI)->Nat->Option TI
 | [],_=>Z
 | (k,x)::l,t=>if Nat.beq k t then U x else b9F l t
def e5M{l:List (Nat×TI)}{t:Nat}{x:TI}(h:b9F l t=U x):(t,x)∈l:=by
 induction l with
 |nil=>cases h
 |cons p l ih=>
  obtain⟨k,y⟩:=p;unfold b9F at h;split at h
  ·rename_i hk;have:k=t:=g1B hk;injection h with h;subst this;subst h;simp
  ·exact g1a.2 (.inr (ih h))
def e4s:J1 Tryz.prog 3=U ti3:=by kernel_rfl
def f9R:J1 Tryz.prog 4=U ti4:=by kernel_rfl
def e9R:J1 Tryz.prog 5=U ti5:=by kernel_rfl
def f3P:J1 Tryz.prog 22=U d3z:=by kernel_rfl
def f2b:J1 Tryz.prog 23=U d7N:=by kernel_rfl
def e9k:J1 Tryz.prog 24=U d2C:=by kernel_rfl
def f8U:J1 Tryz.prog 25=U d9E:=by kernel_rfl
def e0D:J1 Tryz.prog 26=U d7d:=by kernel_rfl
def e75:J1 Tryz.prog 28=U d46:=by kernel_rfl
def e1q:J1 Tryz.prog 31=U d3G:=by kernel_rfl
def e04:J1 Tryz.prog 34=U d7R:=by kernel_rfl
def f0H:J1 Tryz.prog 37=U d2G:=by kernel_rfl
def f2H:J1 Tryz.prog 39=U d9f:=by kernel_rfl
def e94:J1 Tryz.prog 44=U c5X:=by kernel_rfl
def f1T:J1 Tryz.prog 45=U d37:=by kernel_rfl
def f1g:J1 Tryz.prog 46=U e0d:=by kernel_rfl
def e2b:J1 Tryz.prog 48=U d1I:=by kernel_rfl
def f1C:J1 Tryz.prog 50=U c35:=by kernel_rfl
def e0Q:J1 Tryz.prog 54=U d7w:=by kernel_rfl
def e7q:J1 Tryz.prog 56=U d1j:=by kernel_rfl
def e6l:J1 Tryz.prog 57=U c84:=by kernel_rfl
def e4J:J1 Tryz.prog 59=U c5O:=by kernel_rfl
def e6v:J1 Tryz.prog 66=U c5b:=by kernel_rfl
def f8z:J1 Tryz.prog 70=U c4i:=by kernel_rfl
def f02:J1 Tryz.prog 72=U c2N:=by kernel_rfl
def f00:J1 Tryz.prog 88=U c3U:=by kernel_rfl
def f2Y:J1 Tryz.prog 94=U d4l:=by kernel_rfl
def f5w:J1 Tryz.prog 98=U d6c:=by kernel_rfl
def f0W:J1 Tryz.prog 116=U c2T:=by kernel_rfl
def e3q:J1 Tryz.prog 119=U c3s:=by kernel_rfl
def f4y:J1 Tryz.prog 121=U b3n:=by kernel_rfl
def f4s:J1 Tryz.prog 123=U d6Z:=by kernel_rfl
def e2B:J1 Tryz.prog 125=U d3k:=by kernel_rfl
def f4o:J1 Tryz.prog 128=U d8p:=by kernel_rfl
def e58:J1 Tryz.prog 133=U d9m:=by kernel_rfl
def f9e:J1 Tryz.prog 135=U d3j:=by kernel_rfl
def e91:J1 Tryz.prog 165=U b4r:=by kernel_rfl
def f5m:J1 Tryz.prog 179=U d0o:=by kernel_rfl
def e1a:J1 Tryz.prog 198=U c4x:=by kernel_rfl
def f4n:J1 Tryz.prog 200=U d43:=by kernel_rfl
def e3v:J1 Tryz.prog 201=U d0P:=by kernel_rfl
def f7C:∀p∈c6c,J1 Tryz.prog p.1=U p.2:=by
 intro p hp;simp only[c6c,g1a,g2U,or_false]at hp;rcases hp with rfl|rfl|rfl|rfl|rfl|rfl|rfl|rfl|rfl|rfl|rfl|rfl|rfl|rfl|rfl|rfl|rfl|rfl|rfl|rfl|rfl|rfl|rfl|rfl|rfl|rfl|rfl|rfl|rfl|rfl|rfl|rfl|rfl|rfl|rfl|rfl|rfl|rfl|rfl|rfl|rfl
 ·exact e4s
 ·exact f9R
 ·exact e9R
 ·exact f3P
 ·exact f2b
 ·exact e9k
 ·exact f8U
 ·exact e0D
 ·exact e75
 ·exact e1q
 ·exact e04
 ·exact f0H
 ·exact f2H
 ·exact e94
 ·exact f1T
 ·exact f1g
 ·exact e2b
 ·exact f1C
 ·exact e0Q
 ·exact e7q
 ·exact e6l
 ·exact e4J
 ·exact e6v
 ·exact f8z
 ·exact f02
 ·exact f00
 ·exact f2Y
 ·exact f5w
 ·exact f0W
 ·exact e3q
 ·exact f4y
 ·exact f4s
 ·exact e2B
 ·exact f4o
 ·exact e58
 ·exact f9e
 ·exact e91
 ·exact f5m
 ·exact e1a
 ·exact f4n
 ·exact e3v
def b2N(t:Nat):Option Nat:=if Nat.beq t 44 then U 2 else if Nat.beq t 66 then U 5 else if Nat.beq t 88 then U 4 else if Nat.beq t 116 then U 2 else if Nat.beq t 119 then U 2 else if Nat.beq t 165 then U 2 else  Z
def e0U(t m:Nat)(h:b2N t=U m)(xs ys:List Int)(w:World)(hx:(O xs)=m)(hy:(O ys)=m):(Op.equal t (.agg (xs.map (Value.int .i64)).toArray) (.agg (ys.map (Value.int .i64)).toArray)).run Tryz.prog w=.ok (xs==ys) w:=by
 unfold b2N at h;split at h
 ·rename_i hk;have hm:2=m:=g1Y h;rw[g1B hk];exact e5f xs ys w (hx.trans hm.symm) (hy.trans hm.symm)
 split at h
 ·rename_i hk;have hm:5=m:=g1Y h;rw[g1B hk];exact e87 xs ys w (hx.trans hm.symm) (hy.trans hm.symm)
 split at h
 ·rename_i hk;have hm:4=m:=g1Y h;rw[g1B hk];exact e88 xs ys w (hx.trans hm.symm) (hy.trans hm.symm)
 split at h
 ·rename_i hk;have hm:2=m:=g1Y h;rw[g1B hk];exact f6A xs ys w (hx.trans hm.symm) (hy.trans hm.symm)
 split at h
 ·rename_i hk;have hm:2=m:=g1Y h;rw[g1B hk];exact f1L xs ys w (hx.trans hm.symm) (hy.trans hm.symm)
 split at h
 ·rename_i hk;have hm:2=m:=g1Y h;rw[g1B hk];exact e6V xs ys w (hx.trans hm.symm) (hy.trans hm.symm)
 cases h
def e7c(t m:Nat)(h:b2N t=U m):Tryz.prog.eqGuardType Tryz.prog.depth t=W:=by
 unfold b2N at h;split at h
 ·rename_i hk;have hm:2=m:=g1Y h;rw[g1B hk];exact Tryz.eqGuardType44
 split at h
 ·rename_i hk;have hm:5=m:=g1Y h;rw[g1B hk];exact Tryz.eqGuardType66
 split at h
 ·rename_i hk;have hm:4=m:=g1Y h;rw[g1B hk];exact Tryz.eqGuardType88
 split at h
 ·rename_i hk;have hm:2=m:=g1Y h;rw[g1B hk];exact Tryz.eqGuardType116
 split at h
 ·rename_i hk;have hm:2=m:=g1Y h;rw[g1B hk];exact Tryz.eqGuardType119
 split at h
 ·rename_i hk;have hm:2=m:=g1Y h;rw[g1B hk];exact Tryz.eqGuardType165
 cases h
def f0f:Tryz.prog.underlying 140=U (.map 44 4):=by kernel_rfl
def f0Y(w:World):(zeroValue 4).run Tryz.prog w=.ok (.bool W) w:=by kernel_rfl
def f3u(em:Bool)(xs:List Int)(w:World)(h:(O xs)=2):(Instr.checkKey em 10000 44 (kv xs)).run Tryz.prog w=.ok () w:=by
 match xs,h with
 | [x0,x1],_=>
  refine f9P (n:=9999) Tryz.underlying44 λf hf => ?_
  simp only[g1a,g2U,or_false]at hf;rcases hf with rfl|rfl
  ·exact⟨.int .i64 x0,by first|(go_simp;done)|(go_simp;rfl),d9J (n:=9998) Tryz.underlying3⟩
  ·exact⟨.int .i64 x1,by first|(go_simp;done)|(go_simp;rfl),d9J (n:=9998) Tryz.underlying3⟩
def c6J(t:Nat):Option (Nat×Nat×V):=if Nat.beq t 140 then U (44,2,.b W)else  Z
def e1e(t kt m:Nat)(z:V)(h:c6J t=U (kt,m,z)):∃vt,Tryz.prog.underlying t=U (.map kt vt)/\b2N kt=U m/\c2l (Tryz.prog.underlying kt)=Y/\(∀w,(zeroValue vt).run Tryz.prog w=.ok z.conc w)/\z.simple=Y/\∀(em:Bool) (xs:List Int) (w:World),(O xs)=m->(Instr.checkKey em 10000 kt (kv xs)).run Tryz.prog w=.ok () w:=by
 unfold c6J at h;split at h
 ·rename_i hk;injection h with h;injection h with h1 h;injection h with h2 h3;subst h1;subst h2;subst h3;obtain rfl:=g1B hk;exact⟨4,f0f,rfl,by rw[Tryz.underlying44];rfl,f0Y,rfl,f3u⟩
 cases h
def f3H:Tryz.prog.follows .mixedOrders=Y:=by kernel_rfl
def cx:Cx where
 P:=Tryz.prog
 mixed:=f3H
 T:=b9F c6c
 hT:=λt ti h=>f7C (t,ti) (e5M h)
 Υ:=b2N
 hE:=e0U
 hG:=e7c
 M:=c6J
 hM:=e1e
structure FS(C:Type) where
 f:Nat
 fn:Func
 m:List PM
 o:List (Option (Nat×PM))
 ms:List PM
 R:C->V
 Θ:C->LOV
 h:cx.P.funcs[f]?=U fn
def FS.X{C:Type}(q:FS C):U7:=⟨q.f,q.fn,q.m,q.o⟩
def FS.c{C:Type}(q:FS C):Code:=e4N q.fn
def FS.t{C:Type}(q:FS C)(i:Nat)(fr:Bool)(r:C):Nat×Q5:=(i,{a:=.call q.ms fr (q.R r) (q.Θ r)})
def FS.k{C:Type}(q:FS C)(i:Nat)(l:E Bool):E Item:=a5b 2000 i l [.code q.c]
def noK:Unit->KS:=λ_=>([],⟨[],[]⟩)
section
variable {C β Δ P Υ:Type}
abbrev OK(q:FS C)(args:E V)(m:Option C):Prop := ∀r,m=U r->a1n cx.P q.f args (q.R r) (q.Θ r)
abbrev NG(q:FS C)(r:C)(S:Δ->KS)(f:Δ->Option β)(v:β):Prop := ∀s,f s=U v->FK cx q.X (q.R r) (q.Θ r) (S s)
abbrev NF(q:FS C)(r:C)(S:Δ->KS)(f:Δ->Option C):Prop:=NG q r S f r
abbrev J2(q:FS C)(SE:Υ->KS)(S:P->KS):=LC cx q.X q.R q.Θ SE S
abbrev LQ(q:FS C)(SE:Υ->KS)(S:P->KS)(b:P->Option (n6 C P Υ)):Prop:=LB cx q.X q.R q.Θ SE S b
theorem t9(q:FS C){args:E V}{m:Option C}(h:∀r,m=some r->Pt cx q.X (q.R r) (q.Θ r) [.code q.c] (b2t q.X args) [] [])(hb:q.X.fn.body=some q.c:=by kernel_rfl) (hn:(q.X.fn.name == "runtime.NumGoroutine")=false:=by kernel_rfl) (ho:a5p 0 q.X.oms args=true:=by kernel_rfl):OK q args m:=
 fun r hm=>a1n.of (X:=q.X) q.h hb hn ho (P0 (h r hm))
def FS.rt(q:FS C){x y:C}(h:U x=U y):q.R y=q.R x/\q.Θ y=q.Θ x:=by
 injection h with h;subst h;exact⟨rfl,rfl⟩
variable {X:U7} {res:V} {outs:LOV} {k:List Item} {S:St} {sc:Z1} {ps:List Prop} {t:List (Nat×Q5)} {v:β}
def fE{q:FS C}{x y:C}(h:U x=U y)(hg:b2p cx q.X k S (scO sc [])=U (q.R x,q.Θ x,psO ps []):=by kernel_rfl):Pt cx q.X (q.R y) (q.Θ y) k S sc ps:=fn0 q.h (q.rt h) hg
def fL{q:FS C}{SE:Υ->KS}{SP:P->KS}(c:J2 q SE SP){x:C}(h:U (n6.ret x)=U c.st)(hg:b2p cx q.X k S (scO sc [])=U (q.R x,q.Θ x,psO ps []):=by kernel_rfl):Pt cx q.X c.res c.outs k S sc ps:=fn0 q.h (c.rt h) hg
def n9(q:FS C){m:Option C}{p:C->Prop}(ok:∀x,m=U x->p x)(i:Nat){f:C->Option β}(h:m.bind f=U v)(g:∀x,f x=U v->Pt cx X res outs k S ((q.t i W x::t)::sc) (p x::ps)):Pt cx X res outs k S (t::sc) ps:=cb q.t ok i W h g
def cbS(q:FS C){m:Option C}{p:C->Prop}(ok:∀x,m=U x->p x)(i:Nat){f:C->Option β}(a:∀x,Q9 (q.R x))(b:∀x,a48 (q.Θ x))(h:m.bind f=U v)(g:∀x,f x=U v->Pt cx X res outs k S ((q.t i Y x::t)::sc) ((Q9 (q.R x)/\a48 (q.Θ x))::p x::ps)):Pt cx X res outs k S (t::sc) ps:=
 cb q.t ok i Y h λx h=>ob ⟨a x,b x⟩ (g x h)
def X9(q:FS C){m:Option C}{p:C->Prop}(ok:∀x,m=U x->p x)(i n:Nat){f:C->Option β}(h:m.bind f=U v)(g:∀x,f x=U v->Pt cx X res outs k S ((q.t i Y x::t)::sc) ((Q9 (q.R x)/\a48 (q.Θ x))::p x::ps))(a:∀x,Q9 (q.R x):=by exact λ_=>rfl)(b:∀x,q.Θ x=c5v n:=by exact λ_=>rfl):Pt cx X res outs k S (t::sc) ps:=cbS q ok i a (λx=>b x▸W1 n) h g
def osc(q:FS C)(x:C)(a:Q9 (q.R x))(b:a48 (q.Θ x))(h:Pt cx X res outs k S sc ((Q9 (q.R x)/\a48 (q.Θ x))::ps)):Pt cx X res outs k S sc ps:=ob ⟨a,b⟩ h
end
def G3{X:U7}{res:V}{outs:LOV}{k:List Item}{S:St}{sc:Z1}{ps:List Prop}(x:u7)(h:Pt cx X res outs k S sc (((O x.told)=(O x.told))::((O x.out)=(O x.out))::((O x.n.b8)=(O x.n.b8))::((O x.n.d7)=(O x.n.d7))::((O x.n.a9)=(O x.n.a9))::ps)):Pt cx X res outs k S sc ps:=ob rfl (ob rfl (ob rfl (ob rfl (ob rfl (h)))))
def O6{X:U7}{res:V}{outs:LOV}{k:List Item}{S:St}{sc:Z1}{ps:List Prop}(x:m4)(h:Pt cx X res outs k S sc (((O x.i5)=(O x.i5))::((O x.b8)=(O x.b8))::((O x.d7)=(O x.d7))::((O x.a9)=(O x.a9))::ps)):Pt cx X res outs k S sc ps:=ob rfl (ob rfl (ob rfl (ob rfl (h))))
def C5{X:U7}{res:V}{outs:LOV}{k:List Item}{S:St}{sc:Z1}{ps:List Prop}(x:m4)(h:Pt cx X res outs k S sc (((O x.i5)=(O x.i5))::((O x.b8)=(O x.b8))::((O x.d7)=(O x.d7))::((O x.a9)=(O x.a9))::((O x.Acc.b8)=(O x.Acc.b8))::ps)):Pt cx X res outs k S sc ps:=ob rfl (ob rfl (ob rfl (ob rfl (ob rfl (h)))))
def olR{X:U7}{res:V}{outs:LOV}{k:List Item}{S:St}{sc:Z1}{ps:List Prop}(x:s9)(h:Pt cx X res outs k S sc (((O x.f0)=(O x.f0))::((O x.d8)=(O x.d8))::ps)):Pt cx X res outs k S sc ps:=ob rfl (ob rfl (h))
def D4{X:U7}{res:V}{outs:LOV}{k:List Item}{S:St}{sc:Z1}{ps:List Prop}(x:m6)(h:Pt cx X res outs k S sc (((O x.Told)=(O x.Told))::((O x.i4)=(O x.i4))::((O x.c9)=(O x.c9))::((O x.b9)=(O x.b9))::ps)):Pt cx X res outs k S sc ps:=ob rfl (ob rfl (ob rfl (ob rfl (h))))
def a8o(x_:m4):E V:=[vi x_.Id,vi x_.Acc.i7,A5 121 8 w6 x_.Acc.b8,A5 50 7 x9 x_.a9,vi x_.Seq,vi x_.d6,vi x_.b5,A5 4 1 eB x_.d7,n7 8 w6 x_.j5,.b x_.g9.j9,vi x_.g9.b6.i0,vi x_.g9.b6.Seq,n7 2 A7 x_.g9.g8.d8,n7 2 A8 x_.g9.g8.f0,vi x_.g9.g8.i8,vi x_.g9.g8.Code,A5 4 1 eB x_.b8,.b x_.j6,n7 4 C2 x_.j8,.b x_.d9.j9,vi x_.d9.b6.i0,vi x_.d9.b6.Seq,n7 2 A7 x_.d9.g8.d8,n7 2 A8 x_.d9.g8.f0,vi x_.d9.g8.i8,vi x_.d9.g8.Code,A5 50 7 x9 x_.i5]
def b2u(x_:m4):E V:=[A5 50 7 x9 x_.a9,vi x_.Seq,vi x_.d6,vi x_.b5,A5 4 1 eB x_.d7,n7 8 w6 x_.j5,.b x_.g9.j9,vi x_.g9.b6.i0,vi x_.g9.b6.Seq,n7 2 A7 x_.g9.g8.d8,n7 2 A8 x_.g9.g8.f0,vi x_.g9.g8.i8,vi x_.g9.g8.Code,A5 4 1 eB x_.b8,.b x_.j6,n7 4 C2 x_.j8,.b x_.d9.j9,vi x_.d9.b6.i0,vi x_.d9.b6.Seq,n7 2 A7 x_.d9.g8.d8,n7 2 A8 x_.d9.g8.f0,vi x_.d9.g8.i8,vi x_.d9.g8.Code,A5 50 7 x9 x_.i5]
def a7S(x_:m4):E V:=[n7 8 w6 x_.j5,.b x_.g9.j9,vi x_.g9.b6.i0,vi x_.g9.b6.Seq,n7 2 A7 x_.g9.g8.d8,n7 2 A8 x_.g9.g8.f0,vi x_.g9.g8.i8,vi x_.g9.g8.Code]
def a5j(x_:m4):E V:=[.b x_.j6,n7 4 C2 x_.j8,.b x_.d9.j9,vi x_.d9.b6.i0,vi x_.d9.b6.Seq,n7 2 A7 x_.d9.g8.d8,n7 2 A8 x_.d9.g8.f0,vi x_.d9.g8.i8,vi x_.d9.g8.Code]
def a1R(x_:s9):E V:=[n7 2 A7 x_.d8,n7 2 A8 x_.f0,vi x_.i8,vi x_.Code]
def F9(x_:m6):E V:=[n7 27 B3 x_.b9,n7 13 x7 x_.c9,n7 3 C9 x_.i4,n7 5 B6 x_.Told]
def H0:FS (Bool):=⟨32,Tryz.f32,[.val [] []],[Z,Z,Z],[.val [] [],.val [] [],.val [] []],λr=>.b r,λ_=>[Z,Z,Z],Tryz.func32⟩
def H2(n:Int)(low:Int)(high:Int):Option Bool:=
 (bif decide (n>=low)then U (decide (n<=high))else U W)
def H9{n low high}:OK H0 [vi n,vi low,vi high] (H2 n low high):=
 t9 _ λr h=>t5<|l9 3 h (λh=>fE h) (λh=>fE h)
def d2W:FS (m4):=⟨20,Tryz.f20,[.val D1 []],[Z],[.val [] []],λr=>.agg (B3 r),λ_=>[Z],Tryz.func20⟩
def c09(id:Int):Option m4:=
 ((H2 id 0 2).bind λin_=>bif(!in_)then U (m4.mk 0 (B4.mk 0 []) [] 0 0 0 [] [] (p9.mk W (u0.mk 0 0) (s9.mk [] [] 0 0)) [] W [] (p9.mk W (u0.mk 0 0) (s9.mk [] [] 0 0)) [])else U (m4.mk id (B4.mk 0 []) [] 0 0 0 [] [] (p9.mk W (u0.mk 0 0) (s9.mk [] [] 0 0)) [] W [] (p9.mk W (u0.mk 0 0) (s9.mk [] [] 0 0)) []))
def f6k{id}:OK d2W [vi id] (c09 id):=
 t9 _ λr h=>t5<|n9 H0 H9 1 h λin_ h=>l9 2 h (λh=>rg<|fE h) (λh=>rg<|fE h)
def d36:FS (E m4):=⟨46,Tryz.f46,[.val [U 27] [U 59]],[Z],[.val [U 27] []],λr=>A5 59 27 B3 r,λ_=>[Z],Tryz.func46⟩
def c3d(list:E m4):Option (E m4):=
 (bif((O list:Int)==0)then U []else z5 (0<=(O list:Int)/\(O list:Int)*392<=140737488355328) (z5 ((O list)=(g00 (O list:Int).toNat (m4.mk 0 (B4.mk 0 []) [] 0 0 0 [] [] (p9.mk W (u0.mk 0 0) (s9.mk [] [] 0 0)) [] W [] (p9.mk W (u0.mk 0 0) (s9.mk [] [] 0 0)) [])).length) (U list)))
def e1d{list}:OK d36 [n7 27 B3 list] (c3d list):=
 t9 _ λr h=>t5<|l9 2 h (λh=>rg<|fE h) (λh=>rg<|z9 h λe1 h=>Z0 2 7 59 27 392 B3 WY c5O (.ck D1) e1 (by decide) (by rfl)<|rg<|z9 h λe2 h=>om (x8.row 59 27 (g00 (O list:Int).toNat WY).length (list.map B3)=s5 59 27 B3 list) (a2s e2)<|z0 (g00 (O list:Int).toNat WY)<|ob e2<|tl (2,{e:=U (s5 59 27 B3 list)})<|rg<|om ((g00 (O list:Int).toNat WY).length=(O list)) (by simp)<|fE h)
def d09:FS (E m9):=⟨100,Tryz.f100,[.val [U 13] [U 70]],[Z],[.val [U 13] []],λr=>A5 70 13 x7 r,λ_=>[Z],Tryz.func100⟩
def c61(list:E m9):Option (E m9):=
 (bif((O list:Int)==0)then U []else z5 (0<=(O list:Int)/\(O list:Int)*152<=140737488355328) (z5 ((O list)=(g00 (O list:Int).toNat (m9.mk 0 0 0 0 0 (p9.mk W (u0.mk 0 0) (s9.mk [] [] 0 0)) [])).length) (U list)))
def f4u{list}:OK d09 [n7 13 x7 list] (c61 list):=
 t9 _ λr h=>t5<|l9 2 h (λh=>rg<|fE h) (λh=>rg<|z9 h λe1 h=>Z0 2 7 70 13 152 x7 WZ c4i (.ck E5) e1 (by decide) (by rfl)<|rg<|z9 h λe2 h=>om (x8.row 70 13 (g00 (O list:Int).toNat WZ).length (list.map x7)=s5 70 13 x7 list) (a2s e2)<|z0 (g00 (O list:Int).toNat WZ)<|ob e2<|tl (2,{e:=U (s5 70 13 x7 list)})<|rg<|om ((g00 (O list:Int).toNat WZ).length=(O list)) (by simp)<|fE h)
def a3z:FS (E w8):=⟨190,Tryz.f190,[.val [U 2] [U 116]],[Z],[.val [U 2] []],λr=>A5 116 2 A7 r,λ_=>[Z],Tryz.func190⟩
def a4q(list:E w8):Option (E w8):=
 (bif((O list:Int)==0)then U []else z5 (0<=(O list:Int)/\(O list:Int)*16<=140737488355328) (z5 ((O list)=(g00 (O list:Int).toNat (w8.mk 0 0)).length) (U list)))
def b18{list}:OK a3z [n7 2 A7 list] (a4q list):=
 t9 _ λr h=>t5<|l9 2 h (λh=>rg<|fE h) (λh=>rg<|z9 h λe1 h=>Z0 2 7 116 2 16 A7 (w8.mk 0 0) c2T (.none) e1 (by decide) (by rfl)<|rg<|z9 h λe2 h=>om (x8.row 116 2 (g00 (O list:Int).toNat (w8.mk 0 0)).length (list.map A7)=s5 116 2 A7 list) (a2s e2)<|z0 (g00 (O list:Int).toNat (w8.mk 0 0))<|ob e2<|tl (2,{e:=U (s5 116 2 A7 list)})<|rg<|om ((g00 (O list:Int).toNat (w8.mk 0 0)).length=(O list)) (by simp)<|fE h)
def b9I:FS (E u9):=⟨191,Tryz.f191,[.val [U 2] [U 119]],[Z],[.val [U 2] []],λr=>A5 119 2 A8 r,λ_=>[Z],Tryz.func191⟩
def b0i(list:E u9):Option (E u9):=
 (bif((O list:Int)==0)then U []else z5 (0<=(O list:Int)/\(O list:Int)*16<=140737488355328) (z5 ((O list)=(g00 (O list:Int).toNat (u9.mk 0 0)).length) (U list)))
def d1M{list}:OK b9I [n7 2 A8 list] (b0i list):=
 t9 _ λr h=>t5<|l9 2 h (λh=>rg<|fE h) (λh=>rg<|z9 h λe1 h=>Z0 2 7 119 2 16 A8 (u9.mk 0 0) c3s (.none) e1 (by decide) (by rfl)<|rg<|z9 h λe2 h=>om (x8.row 119 2 (g00 (O list:Int).toNat (u9.mk 0 0)).length (list.map A8)=s5 119 2 A8 list) (a2s e2)<|z0 (g00 (O list:Int).toNat (u9.mk 0 0))<|ob e2<|tl (2,{e:=U (s5 119 2 A8 list)})<|rg<|om ((g00 (O list:Int).toNat (u9.mk 0 0)).length=(O list)) (by simp)<|fE h)
def d2t:FS (s9):=⟨136,Tryz.f136,[.val U4 []],[Z],[.val U4 []],λr=>.agg (X0 r),λ_=>[Z],Tryz.func136⟩
def c54(r_:s9):Option s9:=
 ((a4q r_.d8).bind λread=>(b0i r_.f0).bind λput=>U (s9.mk read put r_.i8 r_.Code))
def f5D{r_}:OK d2t [.agg (X0 r_)] (c54 r_):=
 t9 _ λr h=>t5<|n9 a3z b18 2 h λread h=>n9 b9I d1M 5 h λput h=>G6 read put<|fE h
def b2n:FS (p9):=⟨80,Tryz.f80,[.val Q2 []],[Z],[.val Q2 []],λr=>.agg (x9 r),λ_=>[Z],Tryz.func80⟩
def a7a(e_:p9):Option p9:=
 ((c54 e_.g8).bind λc9i=>U (p9.mk e_.j9 e_.b6 c9i))
def b5g{e_}:OK b2n [.agg (x9 e_)] (a7a e_):=
 t9 _ λr h=>t5<|n9 d2t f5D 6 h λc9i h=>fE h
def d9s:FS (E s7):=⟨151,Tryz.f151,[.val [U 8] [U 121]],[Z],[.val [U 8] []],λr=>A5 121 8 w6 r,λ_=>[Z],Tryz.func151⟩
def c4E(list:E s7):Option (E s7):=
 (bif((O list:Int)==0)then U []else z5 (0<=(O list:Int)/\(O list:Int)*96<=140737488355328) (z5 ((O list)=(g00 (O list:Int).toNat (s7.mk 0 (p9.mk W (u0.mk 0 0) (s9.mk [] [] 0 0)))).length) (U list)))
def e2S{list}:OK d9s [n7 8 w6 list] (c4E list):=
 t9 _ λr h=>t5<|l9 2 h (λh=>rg<|fE h) (λh=>rg<|z9 h λe1 h=>Z0 2 7 121 8 96 w6 W_ b3n (.ck a0p) e1 (by decide) (by rfl)<|rg<|z9 h λe2 h=>om (x8.row 121 8 (g00 (O list:Int).toNat W_).length (list.map w6)=s5 121 8 w6 list) (a2s e2)<|z0 (g00 (O list:Int).toNat W_)<|ob e2<|tl (2,{e:=U (s5 121 8 w6 list)})<|rg<|om ((g00 (O list:Int).toNat W_).length=(O list)) (by simp)<|fE h)
def a5P:FS (E s7):=⟨104,Tryz.f104,[.val [U 8] [U 121]],[Z],[.val [U 8] []],λr=>A5 121 8 w6 r,λ_=>[Z],Tryz.func104⟩
def d0g:(E s7)->KS:=λout1=>⟨a5P.k 4 [W],bs 3 (.own 1 0 8 0 (O out1)::bs 20 []),[U [],U [s5 121 8 w6 out1]]⟩
def c9q(out1:E s7):Option (E s7):=
 U out1
def g0D(r):NF a5P r d0g (λs=>c9q s):=λout1 h=>PK<|rg<|z0 out1<|fE h
def f7H(vote:E s7):((E s7)×Int)->KS:=λ(out,v9)=>⟨a5P.k 3 [],bs 3 (.own 1 0 8 0 (O out)::bs 4 (vi (O vote:Int)::(vi v9::bs 14 []))),[U [],U [s5 121 8 w6 out]]⟩
def c1J(vote:E s7)(out:E s7)(v9:Int):Option (n6 (E s7) ((E s7)×Int) (E s7)):=
 (bif decide (v9<(O vote:Int))then(idx out v9).bind λT9=>(a7a T9.i9).bind λa05=>U (n6.nxt (out.set v9.toNat (s7.mk T9.b5 a05),s6 (v9+1)))else U (n6.brk out))
def e9q(vote):LQ a5P d0g (f7H vote) (λs=>c1J vote s.1 s.2):=λlc (out,v9) h=>PK<|rg<|l9 0 h (λh=>t5<|D6 h λT9 a3w h=>E2 a3w<|M4 w6 6 a3w<|n9 b2n b5g 7 h λa05 h=>E2 a3w<|W3 121 8 w6 10 Q2 (s7.mk T9.b5 a05) a3w<|rg<|(lc.nx h λhI=>om ((.own 1 0 8 0 (O out):V)=.own 1 0 8 0 (out.set v9.toNat (s7.mk T9.b5 a05)).length) (by simp)<|sk [.is (.tmp 3) (.own 1 0 8 0 (out.set v9.toNat (s7.mk T9.b5 a05)).length)] [3,8,9] jv hI)) (λh=>lc.bk h λhI=>sk [] [3] jv hI)
def b0f(list:E s7):Option (E s7):=
 ((c4E list).bind λvote=>(u5 (λs:(E s7)×Int=>c1J vote s.1 s.2) (vote,0)).bind λx=>x.go (λr=>U r) λs=>c9q s)
def c2p{list}:OK a5P [n7 8 w6 list] (b0f list):=
 t9 _ λr h=>t5<|n9 d9s e2S 1 h λvote h=>rg<|lp (e9q vote) h (λ_ h=>a5P.rt h) (g0D r) λhI=>sk [] [3,8,9] [(3,0)] hI
def d9i:FS (m9):=⟨101,Tryz.f101,[.val E5 []],[Z],[.val E5 []],λr=>.agg (x7 r),λ_=>[Z],Tryz.func101⟩
def b8S(m:m9):Option m9:=
 ((a7a m.i9).bind λa05=>(b0f m.b8).bind λa1U=>U (m9.mk m.b7 m.d7 m.To m.b5 m.i6 a05 a1U))
def f0q{m}:OK d9i [.agg (x7 m)] (b8S m):=
 t9 _ λr h=>T1<|n9 b2n b5g 2 h λa05 h=>rg<|n9 a5P c2p 2 h λa1U h=>rg<|z0 a1U<|fE h
def a7f:FS (E m9):=⟨47,Tryz.f47,[.val [U 13] [U 70]],[Z],[.val [U 13] []],λr=>A5 70 13 x7 r,λ_=>[Z],Tryz.func47⟩
def d5N:(E m9)->KS:=λout1=>⟨a7f.k 4 [W],bs 3 (.own 1 0 13 0 (O out1)::bs 18 []),[U [],U [s5 70 13 x7 out1]]⟩
def d7G(out1:E m9):Option (E m9):=
 U out1
def f5a(r):NF a7f r d5N (λs=>d7G s):=λout1 h=>PK<|rg<|z0 out1<|fE h
def f3d(msg:E m9):((E m9)×Int)->KS:=λ(out,v9)=>⟨a7f.k 3 [],bs 3 (.own 1 0 13 0 (O out)::bs 4 (vi (O msg:Int)::(vi v9::bs 12 []))),[U [],U [s5 70 13 x7 out]]⟩
def b94(msg:E m9)(out:E m9)(v9:Int):Option (n6 (E m9) ((E m9)×Int) (E m9)):=
 (bif decide (v9<(O msg:Int))then(idx out v9).bind λb6P=>(b8S b6P).bind λb3K=>U (n6.nxt (out.set v9.toNat b3K,s6 (v9+1)))else U (n6.brk out))
def f1R(msg):LQ a7f d5N (f3d msg) (λs=>b94 msg s.1 s.2):=λlc (out,v9) h=>PK<|rg<|l9 0 h (λh=>t5<|D6 h λb6P b4G h=>E2 b4G<|M4 x7 5 b4G<|n9 d9i f0q 6 h λb3K h=>E2 b4G<|W3 70 13 x7 8 E5 b3K b4G<|rg<|(lc.nx h λhI=>om ((.own 1 0 13 0 (O out):V)=.own 1 0 13 0 (out.set v9.toNat b3K).length) (by simp)<|sk [.is (.tmp 3) (.own 1 0 13 0 (out.set v9.toNat b3K).length)] [3,8,9] jv hI)) (λh=>lc.bk h λhI=>sk [] [3] jv hI)
def b31(list:E m9):Option (E m9):=
 ((c61 list).bind λmsg=>(u5 (λs:(E m9)×Int=>b94 msg s.1 s.2) (msg,0)).bind λx=>x.go (λr=>U r) λs=>d7G s)
def d5d{list}:OK a7f [n7 13 x7 list] (b31 list):=
 t9 _ λr h=>t5<|n9 d09 f4u 1 h λmsg h=>rg<|lp (f1R msg) h (λ_ h=>a7f.rt h) (f5a r) λhI=>sk [] [3,8,9] [(3,0)] hI
def d1c:FS (E B2):=⟨48,Tryz.f48,[.val [U 3] [U 72]],[Z],[.val [U 3] []],λr=>A5 72 3 C9 r,λ_=>[Z],Tryz.func48⟩
def c4y(list:E B2):Option (E B2):=
 (bif((O list:Int)==0)then U []else z5 (0<=(O list:Int)/\(O list:Int)*40<=140737488355328) (z5 ((O list)=(g00 (O list:Int).toNat (B2.mk (u0.mk 0 0) [])).length) (U list)))
def e3V{list}:OK d1c [n7 3 C9 list] (c4y list):=
 t9 _ λr h=>t5<|l9 2 h (λh=>rg<|fE h) (λh=>rg<|z9 h λe1 h=>Z0 2 7 72 3 40 C9 Yv c2N (.ck [Z,Z,U 4]) e1 (by decide) (by rfl)<|rg<|z9 h λe2 h=>om (x8.row 72 3 (g00 (O list:Int).toNat Yv).length (list.map C9)=s5 72 3 C9 list) (a2s e2)<|z0 (g00 (O list:Int).toNat Yv)<|ob e2<|tl (2,{e:=U (s5 72 3 C9 list)})<|rg<|om ((g00 (O list:Int).toNat Yv).length=(O list)) (by simp)<|fE h)
def c6I:FS (E s8):=⟨49,Tryz.f49,[.val [U 5] [U 66]],[Z],[.val [U 5] []],λr=>A5 66 5 B6 r,λ_=>[Z],Tryz.func49⟩
def b9C(list:E s8):Option (E s8):=
 (bif((O list:Int)==0)then U []else z5 (0<=(O list:Int)/\(O list:Int)*40<=140737488355328) (z5 ((O list)=(g00 (O list:Int).toNat (s8.mk 0 (u0.mk 0 0) 0 0)).length) (U list)))
def d4e{list}:OK c6I [n7 5 B6 list] (b9C list):=
 t9 _ λr h=>t5<|l9 2 h (λh=>rg<|fE h) (λh=>rg<|z9 h λe1 h=>Z0 2 7 66 5 40 B6 Yk c5b (.none) e1 (by decide) (by rfl)<|rg<|z9 h λe2 h=>om (x8.row 66 5 (g00 (O list:Int).toNat Yk).length (list.map B6)=s5 66 5 B6 list) (a2s e2)<|z0 (g00 (O list:Int).toNat Yk)<|ob e2<|tl (2,{e:=U (s5 66 5 B6 list)})<|rg<|om ((g00 (O list:Int).toNat Yk).length=(O list)) (by simp)<|fE h)
def a9r:FS (B4):=⟨102,Tryz.f102,[.val [Z,U 8] [Z,U 121]],[Z],[.val [Z,U 8] []],λr=>.agg [vi r.i7,A5 121 8 w6 r.b8],λ_=>[Z],Tryz.func102⟩
def a6u(a:B4):Option B4:=
 ((b0f a.b8).bind λa1U=>U (B4.mk a.i7 a1U))
def b2M{a}:OK a9r [.agg (a1h a)] (a6u a):=
 t9 _ λr h=>t5<|n9 a5P c2p 4 h λa1U h=>z0 a1U<|fE h
def d0S:FS (E p9):=⟨79,Tryz.f79,[.val [U 7] [U 50]],[Z],[.val [U 7] []],λr=>A5 50 7 x9 r,λ_=>[Z],Tryz.func79⟩
def c1K(list:E p9):Option (E p9):=
 (bif((O list:Int)==0)then U []else z5 (0<=(O list:Int)/\(O list:Int)*88<=140737488355328) (z5 ((O list)=(g00 (O list:Int).toNat (p9.mk W (u0.mk 0 0) (s9.mk [] [] 0 0))).length) (U list)))
def e6J{list}:OK d0S [n7 7 x9 list] (c1K list):=
 t9 _ λr h=>t5<|l9 2 h (λh=>rg<|fE h) (λh=>rg<|z9 h λe1 h=>Z0 2 7 50 7 88 x9 Yj c35 (.ck Q2) e1 (by decide) (by rfl)<|rg<|z9 h λe2 h=>om (x8.row 50 7 (g00 (O list:Int).toNat Yj).length (list.map x9)=s5 50 7 x9 list) (a2s e2)<|z0 (g00 (O list:Int).toNat Yj)<|ob e2<|tl (2,{e:=U (s5 50 7 x9 list)})<|rg<|om ((g00 (O list:Int).toNat Yj).length=(O list)) (by simp)<|fE h)
def a6e:FS (E p9):=⟨31,Tryz.f31,[.val [U 7] [U 50]],[Z],[.val [U 7] []],λr=>A5 50 7 x9 r,λ_=>[Z],Tryz.func31⟩
def d4G:(E p9)->KS:=λout1=>⟨a6e.k 4 [W],bs 3 (.own 1 0 7 0 (O out1)::bs 18 []),[U [],U [s5 50 7 x9 out1]]⟩
def d14(out1:E p9):Option (E p9):=
 U out1
def f6u(r):NF a6e r d4G (λs=>d14 s):=λout1 h=>PK<|rg<|z0 out1<|fE h
def f6S(entry:E p9):((E p9)×Int)->KS:=λ(out,v9)=>⟨a6e.k 3 [],bs 3 (.own 1 0 7 0 (O out)::bs 4 (vi (O entry:Int)::(vi v9::bs 12 []))),[U [],U [s5 50 7 x9 out]]⟩
def b6j(entry:E p9)(out:E p9)(v9:Int):Option (n6 (E p9) ((E p9)×Int) (E p9)):=
 (bif decide (v9<(O entry:Int))then(idx out v9).bind λa4W=>(a7a a4W).bind λa05=>U (n6.nxt (out.set v9.toNat a05,s6 (v9+1)))else U (n6.brk out))
def e63(entry):LQ a6e d4G (f6S entry) (λs=>b6j entry s.1 s.2):=λlc (out,v9) h=>PK<|rg<|l9 0 h (λh=>t5<|D6 h λa4W b0D h=>E2 b0D<|M4 x9 5 b0D<|n9 b2n b5g 6 h λa05 h=>E2 b0D<|W3 50 7 x9 8 Q2 a05 b0D<|rg<|(lc.nx h λhI=>om ((.own 1 0 7 0 (O out):V)=.own 1 0 7 0 (out.set v9.toNat a05).length) (by simp)<|sk [.is (.tmp 3) (.own 1 0 7 0 (out.set v9.toNat a05).length)] [3,8,9] jv hI)) (λh=>lc.bk h λhI=>sk [] [3] jv hI)
def b21(list:E p9):Option (E p9):=
 ((c1K list).bind λentry=>(u5 (λs:(E p9)×Int=>b6j entry s.1 s.2) (entry,0)).bind λx=>x.go (λr=>U r) λs=>d14 s)
def c3b{list}:OK a6e [n7 7 x9 list] (b21 list):=
 t9 _ λr h=>t5<|n9 d0S e6J 1 h λentry h=>rg<|lp (e63 entry) h (λ_ h=>a6e.rt h) (f6u r) λhI=>sk [] [3,8,9] [(3,0)] hI
def c7m:FS (E Bool):=⟨103,Tryz.f103,[.val [U 1] [U 4]],[Z],[.val [U 1] []],λr=>A5 4 1 eB r,λ_=>[Z],Tryz.func103⟩
def b7J(list:E Bool):Option (E Bool):=
 (bif((O list:Int)==0)then U []else z5 (0<=(O list:Int)/\(O list:Int)*1<=140737488355328) (z5 ((O list)=(g00 (O list:Int).toNat W).length) (U list)))
def d50{list}:OK c7m [n7 1 eB list] (b7J list):=
 t9 _ λr h=>t5<|l9 2 h (λh=>rg<|fE h) (λh=>rg<|z9 h λe1 h=>Z0 2 7 4 1 1 eB W ti4 (.none) e1 (by decide) (by rfl)<|rg<|z9 h λe2 h=>om (x8.row 4 1 (g00 (O list:Int).toNat W).length (list.map eB)=s5 4 1 eB list) (a2s e2)<|z0 (g00 (O list:Int).toNat W)<|ob e2<|tl (2,{e:=U (s5 4 1 eB list)})<|rg<|om ((g00 (O list:Int).toNat W).length=(O list)) (by simp)<|fE h)
def b7v:FS (E t8):=⟨51,Tryz.f51,[.val [U 4] [U 88]],[Z],[.val [U 4] []],λr=>A5 88 4 C2 r,λ_=>[Z],Tryz.func51⟩
def a9a(list:E t8):Option (E t8):=
 (bif((O list:Int)==0)then U []else z5 (0<=(O list:Int)/\(O list:Int)*32<=140737488355328) (z5 ((O list)=(g00 (O list:Int).toNat (t8.mk 0 0 0 0)).length) (U list)))
def c40{list}:OK b7v [n7 4 C2 list] (a9a list):=
 t9 _ λr h=>t5<|l9 2 h (λh=>rg<|fE h) (λh=>rg<|z9 h λe1 h=>Z0 2 7 88 4 32 C2 Yz c3U (.none) e1 (by decide) (by rfl)<|rg<|z9 h λe2 h=>om (x8.row 88 4 (g00 (O list:Int).toNat Yz).length (list.map C2)=s5 88 4 C2 list) (a2s e2)<|z0 (g00 (O list:Int).toNat Yz)<|ob e2<|tl (2,{e:=U (s5 88 4 C2 list)})<|rg<|om ((g00 (O list:Int).toNat Yz).length=(O list)) (by simp)<|fE h)
def b4R:FS (m4):=⟨50,Tryz.f50,[.val D1 om1],[Z],[.val D1 []],λr=>.agg (e1v r),λ_=>[Z],Tryz.func50⟩
def b0p(n:m4):Option m4:=
 ((a6u n.Acc).bind λX5=>(b21 n.a9).bind λa9T=>(b7J n.d7).bind λbool=>(b0f n.j5).bind λa1U=>(a7a n.g9).bind λa05=>(b7J n.b8).bind λb2h=>(a9a n.j8).bind λins=>(a7a n.d9).bind λd9d=>(b21 n.i5).bind λc33=>U (m4.mk n.Id X5 a9T n.Seq n.d6 n.b5 bool a1U a05 b2h n.j6 ins d9d c33))
def b8V{n}:OK b4R [.agg (B3 n)] (b0p n):=
 t9 _ λr h=>T1<|n9 a9r b2M 2 h λX5 h=>rg<|n9 a6e c3b 2 h λa9T h=>rg<|n9 c7m d50 2 h λbool h=>rg<|n9 a5P c2p 2 h λa1U h=>rg<|n9 b2n b5g 2 h λa05 h=>rg<|n9 c7m d50 2 h λb2h h=>rg<|n9 b7v c40 2 h λins h=>rg<|n9 b2n b5g 2 h λd9d h=>rg<|n9 a6e c3b 2 h λc33 h=>rg<|L0 X5.b8 a9T bool a1U<|ol3 b2h ins c33<|fE h
def a0C:FS (m6):=⟨18,Tryz.f18,[.val F4 om2],[Z],[.val F4 []],λr=>.agg (a9x r),λ_=>[Z],Tryz.func18⟩
def d3l(msgsCopy:E m9)(asked:E B2)(told:E s8):(E m4)->KS:=λNodes1=>⟨a0C.k 4 [W],bs 2 (.ptr 1 0 0::(.ptr 2 0 0::bs 52 [])),[U [],U jq,U [.var 28 [.own 3 0 27 0 (O Nodes1),.own 4 0 13 0 (O msgsCopy),.own 5 0 3 0 (O asked),.own 6 0 5 0 (O told)]],U [s5 59 27 B3 Nodes1],U [s5 70 13 x7 msgsCopy],U [s5 72 3 C9 asked],U [s5 66 5 B6 told]]⟩
def d99(msgsCopy:E m9)(told:E s8)(Nodes1:E m4):(E B2)->KS:=λAsked1=>⟨a0C.k 6 [W,W],bs 2 (.ptr 1 0 0::(.ptr 2 0 0::bs 52 [])),[U [],U jq,U [.var 28 [.own 3 0 27 0 (O Nodes1),.own 4 0 13 0 (O msgsCopy),.own 5 0 3 0 (O Asked1),.own 6 0 5 0 (O told)]],U [s5 59 27 B3 Nodes1],U [s5 70 13 x7 msgsCopy],U [s5 72 3 C9 Asked1],U [s5 66 5 B6 told]]⟩
def d0H(msgsCopy:E m9)(told:E s8)(Nodes1:E m4)(Asked1:E B2):Option m6:=
 U (m6.mk Nodes1 msgsCopy Asked1 told)
def e8L(msgsCopy told Nodes1)(r):NF a0C r (d99 msgsCopy told Nodes1) (λs=>d0H msgsCopy told Nodes1 s):=λAsked1 h=>PK<|rg<|L0 Nodes1 msgsCopy Asked1 told<|fE h
def f9H(msgsCopy:E m9)(asked:E B2)(told:E s8)(Nodes1:E m4):((E B2)×Int)->KS:=λ(i4,v39)=>⟨a0C.k 5 [W],bs 2 (.ptr 1 0 0::(.ptr 2 0 0::bs 34 (vi (O asked:Int)::(vi v39::bs 16 [])))),[U [],U jq,U [.var 28 [.own 3 0 27 0 (O Nodes1),.own 4 0 13 0 (O msgsCopy),.own 5 0 3 0 (O i4),.own 6 0 5 0 (O told)]],U [s5 59 27 B3 Nodes1],U [s5 70 13 x7 msgsCopy],U [s5 72 3 C9 i4],U [s5 66 5 B6 told]]⟩
def b7x(asked:E B2)(i4:E B2)(v39:Int):Option (n6 m6 ((E B2)×Int) (E B2)):=
 (bif decide (v39<(O asked:Int))then(idx i4 v39).bind λa4V=>(a9a a4V.j8).bind λins=>U (n6.nxt (i4.set v39.toNat (B2.mk a4V.b6 ins),s6 (v39+1)))else U (n6.brk i4))
def f9i(msgsCopy asked told Nodes1):LQ a0C (d99 msgsCopy told Nodes1) (f9H msgsCopy asked told Nodes1) (λs=>b7x asked s.1 s.2):=λlc (i4,v39) h=>PK<|rg<|l9 0 h (λh=>t5<|D6 h λa4V b2o h=>E2 b2o<|M4 C9 8 b2o<|n9 b7v c40 9 h λins h=>E2 b2o<|W3 72 3 C9 12 [U 4] (B2.mk a4V.b6 ins) b2o<|z0 ins<|rg<|(lc.nx h λhI=>om ((.own 5 0 3 0 (O i4):V)=.own 5 0 3 0 (i4.set v39.toNat (B2.mk a4V.b6 ins)).length) (by simp)<|sk [.is (.cell 2 0 2) (.own 5 0 3 0 (i4.set v39.toNat (B2.mk a4V.b6 ins)).length)] [2,3,38,39] jz hI)) (λh=>lc.bk h λhI=>sk [] [2,3] jz hI)
def c46(msgsCopy:E m9)(asked:E B2)(told:E s8)(Nodes1:E m4):Option m6:=
 ((u5 (λs:(E B2)×Int=>b7x asked s.1 s.2) (asked,0)).bind λx=>x.go (λr=>U r) λs=>d0H msgsCopy told Nodes1 s)
def f5o(msgsCopy asked told)(r):NF a0C r (d3l msgsCopy asked told) (λs=>c46 msgsCopy asked told s):=λNodes1 h=>PK<|rg<|lp (f9i msgsCopy asked told Nodes1) h (λ_ h=>a0C.rt h) (e8L msgsCopy told Nodes1 r) λhI=>sk [] [2,3,38,39] jz hI
def f4U(node:E m4)(msgsCopy:E m9)(asked:E B2)(told:E s8):((E m4)×Int)->KS:=λ(b9,v22)=>⟨a0C.k 3 [],bs 2 (.ptr 1 0 0::(.ptr 2 0 0::bs 17 (vi (O node:Int)::(vi v22::bs 33 [])))),[U [],U jq,U [.var 28 [.own 3 0 27 0 (O b9),.own 4 0 13 0 (O msgsCopy),.own 5 0 3 0 (O asked),.own 6 0 5 0 (O told)]],U [s5 59 27 B3 b9],U [s5 70 13 x7 msgsCopy],U [s5 72 3 C9 asked],U [s5 66 5 B6 told]]⟩
def c0b(node:E m4)(b9:E m4)(v22:Int):Option (n6 m6 ((E m4)×Int) (E m4)):=
 (bif decide (v22<(O node:Int))then(idx b9 v22).bind λnode1=>(b0p node1).bind λa00=>U (n6.nxt (b9.set v22.toNat a00,s6 (v22+1)))else U (n6.brk b9))
def f4E(node msgsCopy asked told):LQ a0C (d3l msgsCopy asked told) (f4U node msgsCopy asked told) (λs=>c0b node s.1 s.2):=λlc (b9,v22) h=>PK<|rg<|l9 0 h (λh=>t5<|D6 h λnode1 a2P h=>E2 a2P<|M4 B3 7 a2P<|n9 b4R b8V 8 h λa00 h=>E2 a2P<|W3 59 27 B3 10 D1 a00 a2P<|O6 a00<|rg<|(lc.nx h λhI=>om ((.own 3 0 27 0 (O b9):V)=.own 3 0 27 0 (b9.set v22.toNat a00).length) (by simp)<|sk [.is (.cell 2 0 0) (.own 3 0 27 0 (b9.set v22.toNat a00).length)] [2,3,21,22] jz hI)) (λh=>lc.bk h λhI=>sk [] [2,3] jz hI)
def a2A(w:m6):Option m6:=
 ((c3d w.b9).bind λnode=>(b31 w.c9).bind λmsgsCopy=>(c4y w.i4).bind λasked=>(b9C w.Told).bind λtold=>(u5 (λs:(E m4)×Int=>c0b node s.1 s.2) (node,0)).bind λx=>x.go (λr=>U r) λs=>c46 msgsCopy asked told s)
def a7m{w}:OK a0C [.agg (N0 w)] (a2A w):=
 t9 _ λr h=>t5<|n9 d36 e1d 2 h λnode h=>n9 a7f d5d 5 h λmsgsCopy h=>n9 d1c e3V 8 h λasked h=>n9 c6I d4e 11 h λtold h=>rg<|lp (f4E node msgsCopy asked told) h (λ_ h=>a0C.rt h) (f5o msgsCopy asked told r) λhI=>sk [] [2,3,21,22] [(2,0),(16,0),(5,0),(8,0),(11,0),(14,0)] hI
def a9J:FS (m6):=⟨5,Tryz.f5,[.val F4 []],[],[],λr=>.agg (N0 r),λ_=>[],Tryz.func5⟩
def d9t:(E m4)->KS:=λNodes1=>⟨a9J.k 4 [W],.ptr 1 0 0::(.ptr 2 0 0::bs 15 []),[U [],U jq,U [.var 28 [.own 3 0 27 0 (O Nodes1),.nil,.nil,.nil]],U [s5 59 27 B3 Nodes1]]⟩
def e0v(Nodes1:E m4):Option m6:=
 ((a2A (m6.mk Nodes1 [] [] [])).bind λJ5=>U J5)
def f7U(r):NF a9J r d9t (λs=>e0v s):=λNodes1 h=>PK<|rg<|n9 a0C a7m 1 h λJ5 h=>z0 Nodes1<|D4 J5<|fE h
def f5d:((E m4)×Int)->KS:=λ(b9,id)=>⟨a9J.k 3 [],.ptr 1 0 0::(.ptr 2 0 0::(vi id::bs 14 [])),[U [],U jq,U [.var 28 [.own 3 0 27 0 (O b9),.nil,.nil,.nil]],U [s5 59 27 B3 b9]]⟩
def b1i(b9:E m4)(id:Int):Option (n6 m6 ((E m4)×Int) (E m4)):=
 (bif decide (id<3)then(c09 id).bind λa04=>z5 (((O b9)+1)*392<=140737488355328) (U (n6.nxt (b9++[a04],s6 (id+1))))else U (n6.brk b9))
def f8H:LQ a9J d9t f5d (λs=>b1i s.1 s.2):=λlc (b9,id) h=>PK<|rg<|l9 1 h (λh=>rg<|n9 d2W f6k 3 h λa04 h=>tk 4 D1<|z9 h λe1 h=>J4 5 11 59 27 392 B3 b9 a04 e1<|I2 a04<|rg<|(lc.nx h λhI=>sk [] [0,1,2] [(1,0),(2,0),(11,0)] hI)) (λh=>lc.bk h λhI=>sk [] [0,1] jY hI)
def c0K:Option m6:=
 ((u5 (λs:(E m4)×Int=>b1i s.1 s.2) ([],0)).bind λx=>x.go (λr=>U r) λs=>e0v s)
def e23:OK a9J [] c0K:=
 t9 _ λr h=>T1<|lp (f8H) h (λ_ h=>a9J.rt h) (f7U r) λhI=>sk [.own (.cell 3 0 0) 59 27] [0,1,2] [(1,0),(3,0),(6,0)] hI
def c0g:FS (z7):=⟨22,Tryz.f22,[.ptr [U 1,Z] []],[Z],[.val [U 1] []],λr=>.optr 98 (a1p r),λ_=>[Z],Tryz.func22⟩
def e0z:(E Int)->KS:=λc2e=>⟨c0g.k 3 [Y],n7 1 P4 c2e::bs 10 [],[U []]⟩
def c3X(c2e:E Int):Option z7:=
 U (z7.mk c2e 0)
def g0r(r):NF c0g r e0z (λs=>c3X s):=λc2e h=>PK<|rg<|fE h
def b9R(code:E Int):Option z7:=
 (((bif decide ((O code:Int)>2000)then z5 ((0:Int)<=2000/\2000<=(O code:Int)) (U (r9.brk ((code.drop 0).take ((2000:Int).toNat-0))))else U (r9.brk code)):Option (r9 z7 (E Int))).bind λx=>x.go U λj=>c3X j)
def f6v{code}:OK c0g [n7 1 P4 code] (b9R code):=
 t9 _ λr h=>rg<|D5 h (g0r r) λx1 h hc1=>rg<|l9 2 h (λh=>rg<|z9 h λe1 h=>om (V.sl 1 ((2000:Int).toNat-0) (((code.map P4).drop 0).take ((2000:Int).toNat-0))=n7 1 P4 ((code.drop 0).take ((2000:Int).toNat-0))) (b87 e1)<|ob e1.1<|ob e1.2<|tl (1,{v:=U (n7 1 P4 ((code.drop 0).take ((2000:Int).toNat-0)))})<|(u6 h hc1 λhI=>sk [] [0] [] hI)) (λh=>u6 h hc1 λhI=>sk [] [0] [] hI)
def d8k:FS (m4):=⟨30,Tryz.f30,[.val D1 K4],[Z],[.val [] []],λr=>.agg (K8 r),λ_=>[Z],Tryz.func30⟩
def c3S(id:Int):Option m4:=
 (bif decide (id<0)then U (m4.mk 0 (B4.mk 0 []) [] 0 0 0 [] [] (p9.mk W (u0.mk 0 0) (s9.mk [] [] 0 0)) [] W [] (p9.mk W (u0.mk 0 0) (s9.mk [] [] 0 0)) [])else bif decide (id>=3)then U (m4.mk 0 (B4.mk 0 []) [] 0 0 0 [] [] (p9.mk W (u0.mk 0 0) (s9.mk [] [] 0 0)) [] W [] (p9.mk W (u0.mk 0 0) (s9.mk [] [] 0 0)) [])else U (m4.mk id (B4.mk 0 []) [] 0 0 0 [] [] (p9.mk W (u0.mk 0 0) (s9.mk [] [] 0 0)) [] W [] (p9.mk W (u0.mk 0 0) (s9.mk [] [] 0 0)) []))
def e4X{id}:OK d8k [vi id] (c3S id):=
 t9 _ λr h=>t5<|l9 2 h (λh=>rg<|fE h) (λh=>l9 5 h (λh=>rg<|fE h) (λh=>rg<|fE h))
def a63:FS (m6):=⟨9,Tryz.f9,[.val F4 Z2],[],[],λr=>.agg (Y2 r),λ_=>[],Tryz.func9⟩
def d8t:(E m4)->KS:=λNodes1=>⟨a63.k 4 [W],.ptr 1 0 0::(.ptr 2 0 0::bs 14 []),[U [],U jq,U [.var 28 [.own 3 0 27 0 (O Nodes1),.nil,.nil,.nil]],U [F7 59 27 B8 Nodes1]]⟩
def d2w(Nodes1:E m4):Option m6:=
 U (m6.mk Nodes1 [] [] [])
def f7W(r):NF a63 r d8t (λs=>d2w s):=λNodes1 h=>PK<|rg<|z0 Nodes1<|fE h
def f1M:((E m4)×Int)->KS:=λ(b9,i)=>⟨a63.k 3 [],.ptr 1 0 0::(.ptr 2 0 0::(vi i::bs 13 [])),[U [],U jq,U [.var 28 [.own 3 0 27 0 (O b9),.nil,.nil,.nil]],U [F7 59 27 B8 b9]]⟩
def e4p(a04:m4):E V:=(a8o a04)
def a5x(b9:E m4)(i:Int):Option (n6 m6 ((E m4)×Int) (E m4)):=
 (bif decide (i<3)then(c3S i).bind λa04=>z5 (((O b9)+1)*392<=140737488355328) (U (n6.nxt (b9++[a04],s6 (i+1))))else U (n6.brk b9))
def f4O:LQ a63 d8t f1M (λs=>a5x s.1 s.2):=λlc (b9,i) h=>PK<|rg<|l9 1 h (λh=>rg<|n9 d8k e4X 3 h λa04 h=>om (x8.deep W 59 27 1 [e4p a04]=F7 59 27 B8 [a04]) rfl<|C5 a04<|tl (4,{a:=.dck [Z,Z,U 8,U 7,Z,Z,Z,U 1,U 8,Z,Z,Z,U 2,U 2,Z,Z,U 1,Z,U 4,Z,Z,Z,U 2,U 2,Z,Z,U 7] [Z,Z,U 121,U 50,Z,Z,Z,U 4,Z,Z,Z,Z,Z,Z,Z,Z,U 4,Z,Z,Z,Z,Z,Z,Z,Z,Z,U 50],e:=U (F7 59 27 B8 [a04])})<|z9 h λe1 h=>om (V.own 11 0 27 0 ((O b9)+1)=.own 11 0 27 0 (b9++[a04]).length) (by simp)<|om (x8.deep W 59 27 ((O b9)+1) (b9.map B8++[B8 a04])=F7 59 27 B8 (b9++[a04])) (c5r rfl)<|z0 b9<|ob e1<|om (1=1) rfl<|tl (5,{a:=.dck [] [],v:=U (.own 11 0 27 0 (b9++[a04]).length),e:=U (F7 59 27 B8 (b9++[a04]))})<|rg<|(lc.nx h λhI=>sk [] [0,1,2] [(1,0),(2,0),(11,0)] hI)) (λh=>lc.bk h λhI=>sk [] [0,1] jY hI)
def b3y:Option m6:=
 ((u5 (λs:(E m4)×Int=>a5x s.1 s.2) ([],0)).bind λx=>x.go (λr=>U r) λs=>d2w s)
def d91:OK a63 [] b3y:=
 t9 _ λr h=>T1<|lp (f4O) h (λ_ h=>a63.rt h) (f7W r) λhI=>sk [.ownD (.cell 3 0 0) 59 27] [0,1,2] [(1,0),(3,0),(6,0)] hI
def J7:FS (Int×z7):=⟨55,Tryz.f55,[.val [] []],[U (0,.ptr [U 1,Z] []),Z],[.ptr [U 1,Z] [],.val [] []],λr=>vi r.1,λr=>[U (.optr 98 (a1p r.2)),Z],Tryz.func55⟩
def I7(r_:z7)(n:Int):Option (Int×z7):=
 (bif decide (n<1)then U (0,(z7.mk r_.b (s6 (r_.p+1))))else bif((O r_.b:Int)==0)then U (0,(z7.mk r_.b (s6 (r_.p+1))))else bif decide ((s6 ((s6 (r_.p+1))-1))<(O r_.b:Int))then(idx r_.b (s6 ((s6 (r_.p+1))-1))).bind λy=>z5 (n≠0) (U (g1w (s6 y) n,(z7.mk r_.b (s6 (r_.p+1)))))else z5 ((O r_.b:Int)≠0) (((idx r_.b (g1w (s6 ((s6 (r_.p+1))-1)) (O r_.b:Int))).bind λy1=>z5 ((O r_.b:Int)≠0) (((idx r_.b (g1w (s6 ((s6 ((s6 ((s6 (r_.p+1))-1))*7))+3)) (O r_.b:Int))).bind λy2=>z5 ((O r_.b:Int)≠0) (z5 (n≠0) (U (g1w (a7Q .i64 (s6 ((s6 ((s6 ((s6 ((s6 y1)*131))+(s6 ((s6 y2)*1117))))+(s6 ((s6 ((s6 (r_.p+1))-1))*29))))+(s6 ((s6 (g2V (s6 ((s6 (r_.p+1))-1)) (O r_.b:Int)))*53)))) (s6 (g2V (s6 ((s6 ((s6 ((s6 ((s6 y1)*131))+(s6 ((s6 y2)*1117))))+(s6 ((s6 ((s6 (r_.p+1))-1))*29))))+(s6 ((s6 (g2V (s6 ((s6 (r_.p+1))-1)) (O r_.b:Int)))*53)))) 64))) n,(z7.mk r_.b (s6 (r_.p+1)))))))))))
def K0{r_ n}:OK J7 [.optr 98 (a1p r_),vi n] (I7 r_ n):=
 t9 _ λr h=>T1<|l9 2 h (λh=>rg<|fE h) (λh=>l9 9 h (λh=>rg<|fE h) (λh=>t5<|l9 6 h (λh=>rg<|A3 P4 5 h λy hy h=>z9 h λe1 h=>ob e1<|fE h) (λh=>rg<|z9 h λe2 h=>ob e2<|A3 P4 11 h λy1 hy1 h=>z9 h λe3 h=>ob e3<|A3 P4 28 h λy2 hy2 h=>z9 h λe4 h=>ob e4<|rg<|om (64≠(0:Int)) (by decide)<|rg<|z9 h λe5 h=>ob e5<|fE h)))
def e0b:FS (s9):=⟨177,Tryz.f177,[.val U4 []],[Z],[.val U4 []],λr=>.agg (X0 r),λ_=>[Z],Tryz.func177⟩
def c2O(r_:s9):Option s9:=
 (z5 ((([]:E w8).length+(O r_.d8))*16<=140737488355328) (z5 ((([]:E u9).length+(O r_.f0))*16<=140737488355328) (U (s9.mk (([]:E w8)++r_.d8) (([]:E u9)++r_.f0) r_.i8 r_.Code))))
def e2Z{r_}:OK e0b [.agg (X0 r_)] (c2O r_):=
 t9 _ λr h=>t5<|tk 0 []<|z9 h λe1 h=>oa 6 0 2 ([]:E w8) r_.d8<|oz 116 2 A7 ([]:E w8) r_.d8<|E7 w8<|ob e1<|tl (3,{v:=U (.own 6 0 2 0 (([]:E w8)++r_.d8).length),e:=U (s5 116 2 A7 (([]:E w8)++r_.d8))})<|tk 4 []<|z9 h λe2 h=>oa 10 0 2 ([]:E u9) r_.f0<|oz 119 2 A8 ([]:E u9) r_.f0<|E7 u9<|ob e2<|tl (7,{v:=U (.own 10 0 2 0 (([]:E u9)++r_.f0).length),e:=U (s5 119 2 A8 (([]:E u9)++r_.f0))})<|G6 (([]:E w8)++r_.d8) (([]:E u9)++r_.f0)<|fE h
def a1B:FS (p9):=⟨127,Tryz.f127,[.val Q2 []],[Z],[.val Q2 []],λr=>.agg (x9 r),λ_=>[Z],Tryz.func127⟩
def a03(e_:p9):Option p9:=
 ((c2O e_.g8).bind λc8N=>U (p9.mk e_.j9 e_.b6 c8N))
def a13{e_}:OK a1B [.agg (x9 e_)] (a03 e_):=
 t9 _ λr h=>t5<|n9 e0b e2Z 6 h λc8N h=>fE h
def a5w:FS (E s7):=⟨126,Tryz.f126,[.val [U 8] [U 121]],[Z],[.val [U 8] []],λr=>A5 121 8 w6 r,λ_=>[Z],Tryz.func126⟩
def d2h:(E s7)->KS:=λout1=>⟨a5w.k 4 [W],bs 3 (.own 1 0 8 0 (O out1)::bs 24 []),[U [],U [s5 121 8 w6 out1]]⟩
def d4a(out1:E s7):Option (E s7):=
 U out1
def g0b(r):NF a5w r d2h (λs=>d4a s):=λout1 h=>PK<|rg<|z0 out1<|fE h
def e8a(list:E s7):((E s7)×Int)->KS:=λ(out,i)=>⟨a5w.k 3 [],n7 8 w6 list::bs 2 (.own 1 0 8 0 (O out)::(vi i::bs 23 [])),[U [],U [s5 121 8 w6 out]]⟩
def b3X(list:E s7)(out:E s7)(i:Int):Option (n6 (E s7) ((E s7)×Int) (E s7)):=
 (bif decide (i<(O list:Int))then(idx list i).bind λvote=>(a03 vote.i9).bind λl5Entry=>z5 (((O out)+1)*96<=140737488355328) (U (n6.nxt (out++[s7.mk vote.b5 l5Entry],s6 (i+1))))else U (n6.brk out))
def e0R(list):LQ a5w d2h (e8a list) (λs=>b3X list s.1 s.2):=λlc (out,i) h=>PK<|rg<|l9 3 h (λh=>rg<|A3 w6 3 h λvote N9 h=>P7 w6 8 N9<|n9 a1B a13 11 h λl5Entry h=>tk 13 a0p<|z9 h λe1 h=>J4 14 20 121 8 96 w6 out (s7.mk vote.b5 l5Entry) e1<|I2 (s7.mk vote.b5 l5Entry)<|rg<|(lc.nx h λhI=>sk [] [0,3,4] [(20,0)] hI)) (λh=>lc.bk h λhI=>sk [] [3] jv hI)
def a9k(list:E s7):Option (E s7):=
 ((u5 (λs:(E s7)×Int=>b3X list s.1 s.2) (([]:E s7),0)).bind λx=>x.go (λr=>U r) λs=>d4a s)
def c2i{list}:OK a5w [n7 8 w6 list] (a9k list):=
 t9 _ λr h=>t5<|tk 0 a0p<|rg<|lp (e0R list) h (λ_ h=>a5w.rt h) (g0b r) λhI=>om ((.own 2 0 8 0 0:V)=.own 2 0 8 0 ([]:E s7).length) (by simp)<|sk [.is (.tmp 3) (.own 2 0 8 0 ([]:E s7).length)] [0,3,4] Jv hI
def b5T:FS (m9):=⟨71,Tryz.f71,[.val E5 []],[Z],[.val E5 []],λr=>.agg (x7 r),λ_=>[Z],Tryz.func71⟩
def a9P(m:m9):Option m9:=
 ((a03 m.i9).bind λl5Entry=>(a9k m.b8).bind λa0Q=>U (m9.mk m.b7 m.d7 m.To m.b5 m.i6 l5Entry a0Q))
def c1G{m}:OK b5T [.agg (x7 m)] (a9P m):=
 t9 _ λr h=>T1<|n9 a1B a13 2 h λl5Entry h=>rg<|n9 a5w c2i 2 h λa0Q h=>rg<|z0 a0Q<|fE h
def a2M:FS (m6):=⟨78,Tryz.f78,[.val F4 Z2],[Z,Z],[.val F4 Z2,.val [U 13] []],λr=>.agg (Y2 r),λ_=>[Z,Z],Tryz.func78⟩
def d96(w:m6):(E m9)->KS:=λNet1=>⟨a2M.k 3 [W],bs 2 (.ptr 1 0 0::bs 1 (.ptr 3 0 0::bs 24 [])),[U [F7 59 27 B8 w.b9,.dead,s5 72 3 C9 w.i4,s5 66 5 B6 w.Told],U [.var 28 [.own 0 0 27 0 (O w.b9),.own 2 0 13 0 (O Net1),.own 0 2 3 0 (O w.i4),.own 0 3 5 0 (O w.Told)]],U [s5 70 13 x7 Net1],U jq]⟩
def d3Q(w:m6)(Net1:E m9):Option m6:=
 U (m6.mk w.b9 Net1 w.i4 w.Told)
def e0Z(w)(r):NF a2M r (d96 w) (λs=>d3Q w s):=λNet1 h=>PK<|rg<|L0 w.b9 Net1 w.i4 w.Told<|fE h
def g0i(w:m6)(list:E m9):((E m9)×Int)->KS:=λ(c9,i)=>⟨a2M.k 2 [],bs 1 (n7 13 x7 list::(.ptr 1 0 0::bs 1 (.ptr 2 0 0::(vi i::bs 23 [])))),[U [F7 59 27 B8 w.b9,.dead,s5 72 3 C9 w.i4,s5 66 5 B6 w.Told],U [.var 28 [.own 0 0 27 0 (O w.b9),.own 3 0 13 0 (O c9),.own 0 2 3 0 (O w.i4),.own 0 3 5 0 (O w.Told)]],U jq,U [s5 70 13 x7 c9]]⟩
def a38(list:E m9)(c9:E m9)(i:Int):Option (n6 m6 ((E m9)×Int) (E m9)):=
 (bif decide (i<(O list:Int))then bif decide ((O c9:Int)<40)then(idx list i).bind λmsg=>(a9P msg).bind λJ8=>z5 (((O c9)+1)*152<=140737488355328) (U (n6.nxt (c9++[J8],s6 (i+1))))else U (n6.brk c9)else U (n6.brk c9))
def e28(w list):LQ a2M (d96 w) (g0i w list) (λs=>a38 list s.1 s.2):=λlc (c9,i) h=>PK<|rg<|l9 4 h (λh=>l9 9 h (λh=>rg<|A3 x7 4 h λmsg hmsg h=>n9 b5T c1G 6 h λJ8 h=>tk 7 E5<|z9 h λe1 h=>J4 8 22 70 13 152 x7 c9 J8 e1<|I2 J8<|rg<|(lc.nx h λhI=>sk [] [1,2,4,5] [(1,0),(2,0),(22,0)] hI)) (λh=>lc.bk h λhI=>sk [] [2,4] Jk hI)) (λh=>lc.bk h λhI=>sk [] [2,4] Jk hI)
def a4b(w:m6)(list:E m9):Option m6:=
 ((u5 (λs:(E m9)×Int=>a38 list s.1 s.2) (w.c9,0)).bind λx=>x.go (λr=>U r) λs=>d3Q w s)
def a70{w list}:OK a2M [.agg (Y2 w),n7 13 x7 list] (a4b w list):=
 t9 _ λr h=>t5<|lp (e28 w list) h (λ_ h=>a2M.rt h) (e0Z w r) λhI=>sk [] [1,2,4,5] [(1,0),(2,0),(0,1)] hI
def c4l:FS (m6):=⟨128,Tryz.f128,[.val F4 Z2],[Z,Z],[.val F4 Z2,.val [] []],λr=>.agg (Y2 r),λ_=>[Z,Z],Tryz.func128⟩
def b49(w:m6)(i:Int):Option m6:=
 (z5 ((0:Int)<=i/\i<=(O w.c9:Int)) (z5 ((([]:E m9).length+(i.toNat-0))*152<=140737488355328) (z5 ((0:Int)<=s6 (i+1)/\s6 (i+1)<=(O w.c9:Int)) (z5 (((([]:E m9)++(w.c9.drop (0+0)).take (i.toNat-0)).length+((O w.c9)-(s6 (i+1)).toNat))*152<=140737488355328) (U (m6.mk w.b9 ((([]:E m9)++(w.c9.drop (0+0)).take (i.toNat-0))++(w.c9.drop (0+(s6 (i+1)).toNat)).take ((O w.c9)-(s6 (i+1)).toNat)) w.i4 w.Told))))))
set_option maxRecDepth 20000 in
def c9t{w i}:OK c4l [.agg (Y2 w),vi i] (b49 w i):=
 t9 _ λr h=>t5<|tk 0 E5<|z9 h λe1 h=>ob e1.1<|ob e1.2<|z9 h λe2 h=>om (V.own 8 0 13 0 (([]:E m9).length+(i.toNat-0))=.own 8 0 13 0 (([]:E m9)++(w.c9.drop (0+0)).take (i.toNat-0)).length) (c3l (by omega))<|om (x8.row 70 13 (([]:E m9).length+(i.toNat-0)) (([]:E m9).map x7++((w.c9.map x7).drop (0+0)).take (i.toNat-0))=s5 70 13 x7 (([]:E m9)++(w.c9.drop (0+0)).take (i.toNat-0))) (c36 (by omega))<|E7 m9<|ob e2<|om ((0+0)+(i.toNat-0)<=(O w.c9)) (by omega)<|tl (5,{a:=.part,v:=U (.own 8 0 13 0 (([]:E m9)++(w.c9.drop (0+0)).take (i.toNat-0)).length),e:=U (s5 70 13 x7 (([]:E m9)++(w.c9.drop (0+0)).take (i.toNat-0)))})<|z9 h λe3 h=>ob e3.1<|ob e3.2<|z9 h λe4 h=>om (V.own 14 0 13 0 ((([]:E m9)++(w.c9.drop (0+0)).take (i.toNat-0)).length+((O w.c9)-(s6 (i+1)).toNat))=.own 14 0 13 0 ((([]:E m9)++(w.c9.drop (0+0)).take (i.toNat-0))++(w.c9.drop (0+(s6 (i+1)).toNat)).take ((O w.c9)-(s6 (i+1)).toNat)).length) (c3l (by omega))<|om (x8.row 70 13 ((([]:E m9)++(w.c9.drop (0+0)).take (i.toNat-0)).length+((O w.c9)-(s6 (i+1)).toNat)) ((([]:E m9)++(w.c9.drop (0+0)).take (i.toNat-0)).map x7++((w.c9.map x7).drop (0+(s6 (i+1)).toNat)).take ((O w.c9)-(s6 (i+1)).toNat))=s5 70 13 x7 ((([]:E m9)++(w.c9.drop (0+0)).take (i.toNat-0))++(w.c9.drop (0+(s6 (i+1)).toNat)).take ((O w.c9)-(s6 (i+1)).toNat))) (c36 (by omega))<|z0 (([]:E m9)++(w.c9.drop (0+0)).take (i.toNat-0))<|ob e4<|om ((0+(s6 (i+1)).toNat)+((O w.c9)-(s6 (i+1)).toNat)<=(O w.c9)) (by omega)<|tl (11,{a:=.part,v:=U (.own 14 0 13 0 ((([]:E m9)++(w.c9.drop (0+0)).take (i.toNat-0))++(w.c9.drop (0+(s6 (i+1)).toNat)).take ((O w.c9)-(s6 (i+1)).toNat)).length),e:=U (s5 70 13 x7 ((([]:E m9)++(w.c9.drop (0+0)).take (i.toNat-0))++(w.c9.drop (0+(s6 (i+1)).toNat)).take ((O w.c9)-(s6 (i+1)).toNat)))})<|rg<|L0 w.b9 ((([]:E m9)++(w.c9.drop (0+0)).take (i.toNat-0))++(w.c9.drop (0+(s6 (i+1)).toNat)).take ((O w.c9)-(s6 (i+1)).toNat)) w.i4 w.Told<|fE h
def a27:FS (Bool):=⟨120,Tryz.f120,[.val [] []],[Z],[.val [] []],λr=>.b r,λ_=>[Z],Tryz.func120⟩
def a2O(n:Int):Option Bool:=
 (bif decide (n>=1)then U (decide (n<=3000))else U W)
def a3x{n}:OK a27 [vi n] (a2O n):=
 t9 _ λr h=>t5<|l9 2 h (λh=>fE h) (λh=>fE h)
def a77:FS (B4×Bool):=⟨133,Tryz.f133,[.val [Z,U 8] [Z,U 9000000],.val [] []],[Z,Z],[.val [Z,U 8] [],.val [] []],λr=>.tup [.agg [vi r.1.i7,.bot],.b r.2],λ_=>[Z,Z],Tryz.func133⟩
def b2q(a:B4)(bal:Int):Option (B4×Bool):=
 ((a2O bal).bind λa1i=>bif(!a1i)then U (a,W)else bif decide (bal<a.i7)then U (a,W)else Z)
def c4f{a bal}:OK a77 [.agg (a1h a),vi bal] (b2q a bal):=
 t9 _ λr h=>t5<|n9 a27 a3x 1 h λa1i h=>l9 3 h (λh=>rg<|fE h) (λh=>l9 8 h (λh=>rg<|fE h) (λh=>nomatch h))
def a5J:FS (E m9):=⟨206,Tryz.f206,[.val [U 13] []],[Z,Z],[.val E5 [],.val E5 []],λr=>n7 13 x7 r,λ_=>[Z,Z],Tryz.func206⟩
def a6O(m:m9)(out:m9):Option (E m9):=
 U [m9.mk out.b7 m.To m.d7 out.b5 out.i6 out.i9 out.b8]
def b0y{m out}:OK a5J [.agg (x7 m),.agg (x7 out)] (a6O m out):=
 t9 _ λr h=>rg4<|tk 1 E5<|I2 (m9.mk out.b7 m.To m.d7 out.b5 out.i6 out.i9 out.b8)<|fE h
def d1o(rv:Value):FS (m4):=⟨132,Tryz.f132,[.val D1 om1],[Z],[.val D1 om1],λr=>.agg ([vi r.Id,vi r.Acc.i7,.raw rv]++b2u r),λ_=>[Z],Tryz.func132⟩
def d3m(n:m4):Option m4:=
 U (m4.mk n.Id n.Acc n.a9 n.Seq 0 0 [] [] (p9.mk W (u0.mk 0 0) (s9.mk [] [] 0 0)) [] n.j6 n.j8 n.d9 n.i5)
def f6F{n}(rv):OK (d1o rv) [.agg ([vi n.Id,vi n.Acc.i7,.raw rv]++b2u n)] (d3m n):=
 t9 _ λr h=>rg4<|rg4<|G6 n.a9 n.i5<|fE h
def b3g(rv:Value):FS (m4):=⟨183,Tryz.f183,[.val D1 om1],[Z,Z],[.val D1 om1,.val [] []],λr=>.agg ([vi r.Id,vi r.Acc.i7,.raw rv]++b2u r),λ_=>[Z,Z],Tryz.func183⟩
def e81(i:Nat)(fr:Bool)(r:m4):Nat×Q5:=(i,{a:=.callr 0 2 [.val D1 om1,.val [] []] fr (.agg ([vi r.Id,vi r.Acc.i7,.hole]++b2u r)) [Z,Z]})
def e6h(rv:Value)(n:m4):Unit->KS:=λ_=>⟨(b3g rv).k 2 [W],bs 2 (.ptr 1 0 0::bs 1 (.ptr 2 0 0::bs 12 [])),[U [s5 50 7 x9 n.a9,s5 4 1 eB n.d7,s5 4 1 eB n.b8,s5 50 7 x9 n.i5],U [.var 59 ([vi n.Id,vi n.Acc.i7,.raw rv,.own 0 0 7 0 (O n.a9),vi n.Seq,vi n.d6,vi n.b5,.own 0 1 1 0 (O n.d7)]++a7S n++[.own 0 2 1 0 (O n.b8)]++a5j n++[.own 0 3 7 0 (O n.i5)])],U jk]⟩
def d4C(n:m4):Option m4:=
 U n
def e6H(rv n)(r):NF (b3g rv) r (e6h rv n) (λs=>d4C n):=λ_ h=>PK<|rg<|O6 n<|fE h
def b3I(n:m4)(bal:Int):Option m4:=
 (((bif(n.d6 != 0)then bif decide (bal>n.b5)then(d3m n).bind λr_=>U (r9.ret r_)else U (r9.brk ())else U (r9.brk ())):Option (r9 m4 Unit)).bind λx=>x.go U λj=>d4C n)
def e2A{n bal}(rv):OK (b3g rv) [.agg ([vi n.Id,vi n.Acc.i7,.raw rv]++b2u n),vi bal] (b3I n bal):=
 t9 _ λr h=>rg<|D5 h (e6H rv n r) λx1 h hc1=>rg<|l9 3 h (λh=>l9 8 h (λh=>rg<|cb (d1o rv).t (f6F rv) 1 W h λr_ h=>O6 n<|(E3 h hc1 λh=>O6 r_<|fE h)) (λh=>u6 h hc1 λhI=>sk [] [2,4] jy hI)) (λh=>u6 h hc1 λhI=>sk [] [2,4] jy hI)
def f5Z{n bal}(r)(h:b3I n bal=U r):∀c,a1n cx.P 183 [.agg ([vi n.Id,vi n.Acc.i7,.raw c]++b2u n),vi bal] ((b3g c).R r) ((b3g c).Θ r):=λc=>e2A c r h
def b3P:FS (B4×Bool):=⟨133,Tryz.f133,[.val [Z,U 8] [Z,U 121],.val [] []],[Z,Z],[.val [Z,U 8] [Z,U 121],.val [] []],λr=>.tup [.agg [vi r.1.i7,A5 121 8 w6 r.1.b8],.b r.2],λ_=>[Z,Z],Tryz.func133⟩
def a90(a:B4)(bal:Int):Option (B4×Bool):=
 ((a2O bal).bind λa1i=>bif(!a1i)then U (a,W)else bif decide (bal<a.i7)then U (a,W)else U ((B4.mk bal a.b8),Y))
def b7a{a bal}:OK b3P [.agg [vi a.i7,A5 121 8 w6 a.b8],vi bal] (a90 a bal):=
 t9 _ λr h=>t5<|n9 a27 a3x 1 h λa1i h=>l9 3 h (λh=>rg<|z0 a.b8<|fE h) (λh=>l9 8 h (λh=>rg<|z0 a.b8<|fE h) (λh=>t5<|z0 a.b8<|fE h))
def d7E:FS (s9):=⟨177,Tryz.f177,[.val U4 om5],[Z],[.val U4 []],λr=>.agg (a7H r),λ_=>[Z],Tryz.func177⟩
def c3A(r_:s9):Option s9:=
 (z5 ((([]:E w8).length+(O r_.d8))*16<=140737488355328) (z5 ((([]:E u9).length+(O r_.f0))*16<=140737488355328) (U (s9.mk (([]:E w8)++r_.d8) (([]:E u9)++r_.f0) r_.i8 r_.Code))))
def e9y{r_}:OK d7E [.agg (X0 r_)] (c3A r_):=
 t9 _ λr h=>t5<|tk 0 []<|z9 h λe1 h=>oa 6 0 2 ([]:E w8) r_.d8<|oz 116 2 A7 ([]:E w8) r_.d8<|E7 w8<|ob e1<|tl (3,{v:=U (.own 6 0 2 0 (([]:E w8)++r_.d8).length),e:=U (s5 116 2 A7 (([]:E w8)++r_.d8))})<|tk 4 []<|z9 h λe2 h=>oa 10 0 2 ([]:E u9) r_.f0<|oz 119 2 A8 ([]:E u9) r_.f0<|E7 u9<|ob e2<|tl (7,{v:=U (.own 10 0 2 0 (([]:E u9)++r_.f0).length),e:=U (s5 119 2 A8 (([]:E u9)++r_.f0))})<|G6 (([]:E w8)++r_.d8) (([]:E u9)++r_.f0)<|fE h
def c9S:FS (p9):=⟨127,Tryz.f127,[.val Q2 om6],[Z],[.val Q2 []],λr=>.agg (g0z r),λ_=>[Z],Tryz.func127⟩
def b80(e_:p9):Option p9:=
 ((c3A e_.g8).bind λd=>U (p9.mk e_.j9 e_.b6 d))
def e4v{e_}:OK c9S [.agg (x9 e_)] (b80 e_):=
 t9 _ λr h=>t5<|n9 d7E e9y 6 h λd h=>olR d<|fE h
def a4F:FS (E s7):=⟨126,Tryz.f126,[.val [U 8] [U 1000121]],[Z],[.part],λr=>b1o 121 8 a2l r,λ_=>[Z],Tryz.func126⟩
def d7U:(E s7)->KS:=λout1=>⟨a4F.k 4 [W],bs 3 (.own 1 0 8 0 (O out1)::bs 24 []),[U [],U [F7 121 8 a2l out1]]⟩
def d8T(out1:E s7):Option (E s7):=
 U out1
def e4a(r):NF a4F r d7U (λs=>d8T s):=λout1 h=>PK<|rg<|z0 out1<|fE h
def f0O(list:E s7):((E s7)×Int)->KS:=λ(out,i)=>⟨a4F.k 3 [],n7 8 w6 list::bs 2 (.own 1 0 8 0 (O out)::(vi i::bs 23 [])),[U [],U [F7 121 8 a2l out]]⟩
def e5W(vote:s7)(d:p9):E V:=[vi vote.b5,.b d.j9,vi d.b6.i0,vi d.b6.Seq,A5 116 2 A7 d.g8.d8,A5 119 2 A8 d.g8.f0,vi d.g8.i8,vi d.g8.Code]
def b38(list:E s7)(out:E s7)(i:Int):Option (n6 (E s7) ((E s7)×Int) (E s7)):=
 (bif decide (i<(O list:Int))then(idx list i).bind λvote=>(b80 vote.i9).bind λd=>z5 (((O out)+1)*96<=140737488355328) (U (n6.nxt (out++[s7.mk vote.b5 d],s6 (i+1))))else U (n6.brk out))
def e5R(list):LQ a4F d7U (f0O list) (λs=>b38 list s.1 s.2):=λlc (out,i) h=>PK<|rg<|l9 3 h (λh=>rg<|A3 w6 3 h λvote N9 h=>P7 w6 8 N9<|n9 c9S e4v 11 h λd h=>om (x8.deep W 121 8 1 [e5W vote d]=F7 121 8 a2l [s7.mk vote.b5 d]) rfl<|olR d.g8<|tl (13,{a:=.dck [Z,Z,Z,Z,U 2,U 2,Z,Z] [Z,Z,Z,Z,U 116,U 119,Z,Z],e:=U (F7 121 8 a2l [s7.mk vote.b5 d])})<|z9 h λe1 h=>om (V.own 20 0 8 0 ((O out)+1)=.own 20 0 8 0 (out++[s7.mk vote.b5 d]).length) (by simp)<|om (x8.deep W 121 8 ((O out)+1) (out.map a2l++[a2l (s7.mk vote.b5 d)])=F7 121 8 a2l (out++[s7.mk vote.b5 d])) (c5r rfl)<|z0 out<|ob e1<|om (1=1) rfl<|tl (14,{a:=.dck [] [],v:=U (.own 20 0 8 0 (out++[s7.mk vote.b5 d]).length),e:=U (F7 121 8 a2l (out++[s7.mk vote.b5 d]))})<|rg<|(lc.nx h λhI=>sk [] [0,3,4] [(20,0)] hI)) (λh=>lc.bk h λhI=>sk [] [3] jv hI)
def b9W(list:E s7):Option (E s7):=
 ((u5 (λs:(E s7)×Int=>b38 list s.1 s.2) (([]:E s7),0)).bind λx=>x.go (λr=>U r) λs=>d8T s)
def e7R{list}:OK a4F [n7 8 w6 list] (b9W list):=
 t9 _ λr h=>t5<|om (x8.deep W 121 8 0 []=F7 121 8 a2l ([]:E s7)) rfl<|tl (0,{a:=.dck [] [],e:=U (F7 121 8 a2l ([]:E s7))})<|rg<|lp (e5R list) h (λ_ h=>a4F.rt h) (e4a r) λhI=>om ((.own 2 0 8 0 0:V)=.own 2 0 8 0 ([]:E s7).length) (by simp)<|sk [.is (.tmp 3) (.own 2 0 8 0 ([]:E s7).length)] [0,3,4] Jv hI
def d3W:FS (m4×E m9):=⟨178,Tryz.f178,[.val D1 K4,.val [U 13] []],[Z,Z],[.val D1 K4,.val E5 []],λr=>.tup [.agg (K8 r.1),n7 13 x7 r.2],λ_=>[Z,Z],Tryz.func178⟩
def b8w(n:m4)(m:m9):Option (m4×E m9):=
 (a6J (b2q n.Acc m.b5) (λno=>bif(!no.2)then(a6O m (m9.mk 6 0 0 n.Acc.i7 0 (p9.mk W (u0.mk 0 0) (s9.mk [] [] 0 0)) [])).bind λa3k=>U (n,a3k)else Z) (((a90 n.Acc m.b5).bind λl6Promise=>bif(!l6Promise.2)then Z else(b3I (m4.mk n.Id l6Promise.1 n.a9 n.Seq n.d6 n.b5 n.d7 n.j5 n.g9 n.b8 n.j6 n.j8 n.d9 n.i5) m.b5).bind λr_=>bif decide (m.i6<(O l6Promise.1.b8:Int))then z5 ((0:Int)<=m.i6/\m.i6<=(O l6Promise.1.b8:Int)) (((b9W ((l6Promise.1.b8.drop m.i6.toNat).take ((O l6Promise.1.b8)-m.i6.toNat))).bind λd=>(a6O m (m9.mk 2 0 0 m.b5 m.i6 (p9.mk W (u0.mk 0 0) (s9.mk [] [] 0 0)) d)).bind λa6l=>U ((m4.mk r_.Id (B4.mk r_.Acc.i7 l6Promise.1.b8) r_.a9 r_.Seq r_.d6 r_.b5 r_.d7 r_.j5 r_.g9 r_.b8 r_.j6 r_.j8 r_.d9 r_.i5),a6l)))else(a6O m (m9.mk 2 0 0 m.b5 m.i6 (p9.mk W (u0.mk 0 0) (s9.mk [] [] 0 0)) ([]:E s7))).bind λd6s=>U ((m4.mk r_.Id (B4.mk r_.Acc.i7 l6Promise.1.b8) r_.a9 r_.Seq r_.d6 r_.b5 r_.d7 r_.j5 r_.g9 r_.b8 r_.j6 r_.j8 r_.d9 r_.i5),d6s))))
set_option maxRecDepth 20000 in
def f0T{n m}:OK d3W [.agg (K8 n),.agg (x7 m)] (b8w n m):=
 t9 _ λr h=>t5<|cbA a77.t c4f 4 Y h (λno h=>osc a77 no (by simp[a77,Q9,Y3,U6,V.simple,vi,A5,a1h,eB,x9,eI,A8,A7,N8,X0,w6]) (W1 2)<|z0 n.Acc.b8<|rg<|l9 1 h (λh=>rg<|n9 a5J b0y 6 h λa3k h=>C5 n<|fE h) (λh=>nomatch h)) (λh=>n9 b3P b7a 4 h λl6Promise h=>z0 n.Acc.b8<|rg<|l9 1 h (λh=>nomatch h) (λh=>t5<|cb e81 f5Z 3 W h λr_ h=>O6 n<|rg<|tk 0 a0p<|rg<|l9 5 h (λh=>rg<|z9 h λe1 h=>ob e1.1<|ob e1.2<|D6 h λd hd h=>om (a1n cx.P 126 [.sl 8 ((O l6Promise.1.b8)-m.i6.toNat) (((l6Promise.1.b8.map w6).drop (0+m.i6.toNat)).take ((O l6Promise.1.b8)-m.i6.toNat))] (a4F.R d) (a4F.Θ d)) (by rw[g1U,b5i e1];exact(e7R d hd))<|osc a4F d (by simp[a4F,Q9,Y3,U6,V.simple,vi,A5,c2q,eB,x9,eI,A8,A7,N8,X0,w6,a2l,b1o]) (W1 1)<|om ((0+m.i6.toNat)+((O l6Promise.1.b8)-m.i6.toNat)<=(O l6Promise.1.b8)) (by omega)<|tl (a4F.t 5 Y d)<|rg<|D6 h λa6l e3p h=>om (a1n cx.P 206 [.agg (x7 m),.agg [vi 2,vi 0,vi 0,vi m.b5,vi m.i6,.b W,vi 0,vi 0,n7 2 A7 ([]:E w8),n7 2 A8 ([]:E u9),vi 0,vi 0,.sl 8 (O d) (a0R (d.map a2l))]] (a5J.R a6l) (a5J.Θ a6l)) (by simp only[b1w e5w];exact(b0y a6l e3p))<|z0 d<|tl (a5J.t 8 W a6l)<|z0 l6Promise.1.b8<|O6 r_<|fE h) (λh=>rg<|n9 a5J b0y 8 h λd6s h=>E7 s7<|z0 l6Promise.1.b8<|O6 r_<|fE h)))
def d9g:FS (E s7):=⟨208,Tryz.f208,[.val [U 8] [U 121]],[Z,Z],[.val [U 8] [],.val [] []],λr=>A5 121 8 w6 r,λ_=>[Z,Z],Tryz.func208⟩
def b8N(list:E s7)(slot:Int):Option (E s7):=
 (z5 (0<=slot/\slot*96<=140737488355328) (((a9k list).bind λa0Q=>z5 (((g00 slot.toNat (s7.mk 0 (p9.mk W (u0.mk 0 0) (s9.mk [] [] 0 0)))).length+(O a0Q))*96<=140737488355328) (U ((g00 slot.toNat (s7.mk 0 (p9.mk W (u0.mk 0 0) (s9.mk [] [] 0 0))))++a0Q)))))
def f5l{list slot}:OK d9g [n7 8 w6 list,vi slot] (b8N list slot):=
 t9 _ λr h=>t5<|z9 h λe1 h=>Z0 1 3 121 8 96 w6 W_ b3n (.ck a0p) e1 (by decide) (by rfl)<|rg<|n9 a5w c2i 2 h λa0Q h=>z9 h λe2 h=>apL 3 8 121 8 96 w6 (g00 slot.toNat W_) a0Q e2<|z0 a0Q<|z0 ((g00 slot.toNat W_)++a0Q)<|fE h
def a3a:FS (E s7):=⟨207,Tryz.f207,[.val [U 8] []],[Z,Z],[.val [U 8] [],.val [U 8] []],λr=>n7 8 w6 r,λ_=>[Z,Z],Tryz.func207⟩
def b3N:(E s7)->KS:=λout1=>⟨a3a.k 4 [W],bs 5 (.own 1 0 8 0 (O out1)::bs 52 []),[U [],U [s5 121 8 w6 out1]]⟩
def d33(out1:E s7):Option (E s7):=
 U out1
def e22(r):NF a3a r b3N (λs=>d33 s):=λout1 h=>PK<|rg<|z0 out1<|fE h
def c0j(a:E s7)(b:E s7):((E s7)×Int)->KS:=λ(out,i)=>⟨a3a.k 3 [],n7 8 w6 a::(n7 8 w6 b::bs 3 (.own 1 0 8 0 (O out)::(vi i::bs 51 []))),[U [],U [s5 121 8 w6 out]]⟩
def f0v(a:E s7)(b:E s7)(out:E s7)(i:Int):Unit->KS:=λ_=>⟨a3a.k 4 [Y],n7 8 w6 a::(n7 8 w6 b::bs 3 (.own 1 0 8 0 (O out)::(vi i::bs 51 []))),[U [],U [s5 121 8 w6 out]]⟩
def e4g(a:E s7)(b:E s7)(out:E s7)(i:Int):s7->KS:=λv_=>⟨a3a.k 7 [Y,Y],n7 8 w6 a::(n7 8 w6 b::bs 3 (.own 1 0 8 0 (O out)::(vi i::(.ptr 2 0 0::bs 50 [])))),[U [],U [s5 121 8 w6 out],U [.var 121 (d42 v_)]]⟩
def f0Z(a:E s7)(b:E s7)(out:E s7)(i:Int):s7->KS:=λv_1=>⟨a3a.k 9 [Y,Y,Y],n7 8 w6 a::(n7 8 w6 b::bs 3 (.own 1 0 8 0 (O out)::(vi i::(.ptr 2 0 0::bs 50 [])))),[U [],U [s5 121 8 w6 out],U [.var 121 (d42 v_1)]]⟩
def c1w(out:E s7)(i:Int)(v_1:s7):Option (n6 (E s7) ((E s7)×Int) (E s7)):=
 ((a03 v_1.i9).bind λl5Entry=>z5 (((O out)+1)*96<=140737488355328) (U (n6.nxt (out++[s7.mk v_1.b5 l5Entry],s6 (i+1)))))
def f5L(a b out i)(lc:J2 a3a b3N (c0j a b)):NL lc (f0Z a b out i) (λs=>c1w out i s):=λv_1 h=>PK<|rg<|n9 a1B a13 5 h λl5Entry h=>tk 7 a0p<|z9 h λe1 h=>J4 8 11 121 8 96 w6 out (s7.mk v_1.b5 l5Entry) e1<|I2 (s7.mk v_1.b5 l5Entry)<|rg<|(lc.nx h λhI=>sk [] [0,1,5,6] [(11,0)] hI)
def c1a(b:E s7)(out:E s7)(i:Int)(v_:s7):Option (n6 (E s7) ((E s7)×Int) (E s7)):=
 (((bif decide (i<(O b:Int))then(idx b i).bind λvote=>bif decide (vote.b5>v_.b5)then U (r9.brk vote)else U (r9.brk v_)else U (r9.brk v_)):Option (r9 (n6 (E s7) ((E s7)×Int) (E s7)) s7)).bind λx=>x.go U λj=>c1w out i j)
def e8b(a b out i)(lc:J2 a3a b3N (c0j a b)):NL lc (e4g a b out i) (λs=>c1a b out i s):=λv_ h=>PK<|D5 h (f5L a b out i lc) λx2 h hc2=>rg<|l9 4 h (λh=>A3 w6 7 h λvote N9 h=>l9 13 h (λh=>rg<|P7 w6 2 N9<|(u6 h hc2 λhI=>sk [] [0,1,5,6,7] [(1,0),(2,0)] hI)) (λh=>u6 h hc2 λhI=>sk [] [0,1,5,6,7] [(1,0),(2,0)] hI)) (λh=>u6 h hc2 λhI=>sk [] [0,1,5,6,7] [(1,0),(2,0)] hI)
def b7Q(a:E s7)(b:E s7)(out:E s7)(i:Int):Option (n6 (E s7) ((E s7)×Int) (E s7)):=
 (((bif decide (i<(O a:Int))then(idx a i).bind λT9=>U (r9.brk T9)else U (r9.brk (s7.mk 0 (p9.mk W (u0.mk 0 0) (s9.mk [] [] 0 0))))):Option (r9 (n6 (E s7) ((E s7)×Int) (E s7)) s7)).bind λx=>x.go U λj=>c1a b out i j)
def f4g(a b out i)(lc:J2 a3a b3N (c0j a b)):NL lc (f0v a b out i) (λs=>b7Q a b out i):=λ_ h=>PK<|rg<|D5 h (e8b a b out i lc) λx2 h hc2=>rg<|l9 3 h (λh=>rg<|A3 w6 2 h λT9 a3w h=>u6 h hc2 λhI=>sk [] [0,1,5,6,7] [(1,0),(3,0)] hI) (λh=>u6 h hc2 λhI=>sk [.frz (.cell 3 0 4) (U 2),.frz (.cell 3 0 5) (U 2)] [0,1,5,6,7] [(1,0),(3,0)] hI)
def a7R(a:E s7)(b:E s7)(out:E s7)(i:Int):Option (n6 (E s7) ((E s7)×Int) (E s7)):=
 (((bif decide (i<(O a:Int))then U (r9.brk ())else bif decide (i<(O b:Int))then U (r9.brk ())else U (r9.ret (n6.brk out))):Option (r9 (n6 (E s7) ((E s7)×Int) (E s7)) Unit)).bind λx=>x.go U λj=>b7Q a b out i)
def f2s(a b):LQ a3a b3N (c0j a b) (λs=>a7R a b s.1 s.2):=λlc (out,i) h=>PK<|D5 h (f4g a b out i lc) λx2 h hc2=>rg<|l9 4 h (λh=>u6 h hc2 λhI=>sk [] [0,1,5,6] jv hI) (λh=>l9 9 h (λh=>u6 h hc2 λhI=>sk [] [0,1,5,6] jv hI) (λh=>E3 h hc2 λh=>lc.bk h λhI=>sk [] [5] jv hI))
def b60(a:E s7)(b:E s7):Option (E s7):=
 ((u5 (λs:(E s7)×Int=>a7R a b s.1 s.2) (([]:E s7),0)).bind λx=>x.go (λr=>U r) λs=>d33 s)
def f7A{a b}:OK a3a [n7 8 w6 a,n7 8 w6 b] (b60 a b):=
 t9 _ λr h=>t5<|tk 0 a0p<|rg<|lp (f2s a b) h (λ_ h=>a3a.rt h) (e22 r) λhI=>om ((.own 2 0 8 0 0:V)=.own 2 0 8 0 ([]:E s7).length) (by simp)<|sk [.is (.tmp 5) (.own 2 0 8 0 ([]:E s7).length)] [0,1,5,6] Jv hI
def d84:FS (Int):=⟨216,Tryz.f216,[.val [] []],[Z],[.val [] []],λr=>vi r,λ_=>[Z],Tryz.func216⟩
def c6k(b:Bool):Option Int:=
 (bif b then U 1 else U 0)
def e8r{b}:OK d84 [.b b] (c6k b):=
 t9 _ λr h=>t5<|l9 0 h (λh=>rg<|fE h) (λh=>rg<|fE h)
def a8v:FS (Bool):=⟨209,Tryz.f209,[.val [] []],[Z],[.val [U 1] []],λr=>.b r,λ_=>[Z],Tryz.func209⟩
def d90:Int->KS:=λn1=>⟨a8v.k 4 [W],bs 3 (vi n1::bs 16 []),[U []]⟩
def c5V(n1:Int):Option Bool:=
 U (decide (n1>=2))
def f6U(r):NF a8v r d90 (λs=>c5V s):=λn1 h=>PK<|rg<|fE h
def e6S(list:E Bool):(Int×Int)->KS:=λ(n,i)=>⟨a8v.k 3 [],n7 1 eB list::bs 2 (vi n::(vi i::bs 15 [])),[U []]⟩
def a5W(list:E Bool)(n:Int)(i:Int):Option (n6 Bool (Int×Int) Int):=
 (bif decide (i<(O list:Int))then(idx list i).bind λy=>(c6k y).bind λd3S=>U (n6.nxt (s6 (n+d3S),s6 (i+1)))else U (n6.brk n))
def e43(list):LQ a8v d90 (e6S list) (λs=>a5W list s.1 s.2):=λlc (n,i) h=>PK<|rg<|l9 3 h (λh=>rg<|A3 eB 3 h λy hy h=>n9 d84 e8r 5 h λd3S h=>rg<|(lc.nx h λhI=>sk [] [0,3,4] [] hI)) (λh=>lc.bk h λhI=>sk [] [3] [] hI)
def b6g(list:E Bool):Option Bool:=
 ((u5 (λs:Int×Int=>a5W list s.1 s.2) (0,0)).bind λx=>x.go (λr=>U r) λs=>c5V s)
def d6n{list}:OK a8v [n7 1 eB list] (b6g list):=
 t9 _ λr h=>T1<|lp (e43 list) h (λ_ h=>a8v.rt h) (f6U r) λhI=>sk [] [0,3,4] [] hI
def a7x:FS (Bool):=⟨215,Tryz.f215,[.val [] []],[Z,Z],[.val [U 8] [],.val [] []],λr=>.b r,λ_=>[Z,Z],Tryz.func215⟩
def d3V:Unit->KS:=λ_=>⟨a7x.k 3 [W],bs 19 [],[U []]⟩
def d2X:Option Bool:=
 U W
def f1n(r):NF a7x r d3V (λs=>d2X):=λ_ h=>PK<|rg<|fE h
def f5q(list:E s7):Int->KS:=λi=>⟨a7x.k 2 [],n7 8 w6 list::bs 4 (vi i::bs 13 []),[U []]⟩
def b0A(list:E s7)(i:Int):Option (n6 Bool Int Unit):=
 (bif decide (i<(O list:Int))then(idx list i).bind λvote=>bif decide (vote.b5>0)then U (n6.ret Y)else U (n6.nxt (s6 (i+1)))else U (n6.brk ()))
def e5s(list):LQ a7x d3V (f5q list) (λs=>b0A list s):=λlc i h=>PK<|rg<|l9 3 h (λh=>rg<|A3 w6 2 h λvote N9 h=>l9 5 h (λh=>rg<|fL lc h) (λh=>rg<|(lc.nx h λhI=>sk [] [0,5] [] hI))) (λh=>lc.bk h λhI=>sk [] [] [] hI)
def b7K(list:E s7)(from_:Int):Option Bool:=
 ((u5 (λs:Int=>b0A list s) from_).bind λx=>x.go (λr=>U r) λs=>d2X)
def f1D{list from_}:OK a7x [n7 8 w6 list,vi from_] (b7K list from_):=
 t9 _ λr h=>t5<|lp (e5s list) h (λ_ h=>a7x.rt h) (f1n r) λhI=>sk [] [0,5] [] hI
def a3V:FS (Bool):=⟨211,Tryz.f211,[.val [] []],[Z,Z],[.val D1 [],.val [] []],λr=>.b r,λ_=>[Z,Z],Tryz.func211⟩
def c51:Unit->KS:=λ_=>⟨a3V.k 3 [W],bs 30 [],[U []]⟩
def d2f:Option Bool:=
 U W
def e3N(r):NF a3V r c51 (λs=>d2f):=λ_ h=>PK<|rg<|fE h
def c9D(n:m4)(q:u0):Int->KS:=λi=>⟨a3V.k 2 [],bs 2 (.ptr 1 0 0::(.ptr 2 0 0::bs 1 (vi i::bs 24 []))),[U [],U [.var 59 (a0z n)],U [.var 44 [vi q.i0,vi q.Seq]]]⟩
def f4K(n:m4)(q:u0)(i:Int):Unit->KS:=λ_=>⟨a3V.k 4 [Y,W],bs 2 (.ptr 1 0 0::(.ptr 2 0 0::bs 1 (vi i::bs 24 []))),[U [],U [.var 59 (a0z n)],U [.var 44 [vi q.i0,vi q.Seq]]]⟩
def c7h(i:Int):Option (n6 Bool Int Unit):=
 U (n6.nxt (s6 (i+1)))
def f1o(n q i)(lc:J2 a3V c51 (c9D n q)):NL lc (f4K n q i) (λs=>c7h i):=λ_ h=>PK<|rg<|(lc.nx h λhI=>sk [] [2,3,5] [(1,0),(2,0)] hI)
def b2r(n:m4)(q:u0)(i:Int):Option (n6 Bool Int Unit):=
 (bif decide (i<(O n.a9:Int))then(((idx n.a9 i).bind λentry=>bif(!entry.j9)then bif(([entry.b6.i0,entry.b6.Seq]:E Int)==[q.i0,q.Seq])then U (r9.ret (n6.ret Y))else U (r9.brk ())else U (r9.brk ())):Option (r9 (n6 Bool Int Unit) Unit)).bind λx=>x.go U λj=>c7h i else U (n6.brk ()))
def e1V(n q):LQ a3V c51 (c9D n q) (λs=>b2r n q s):=λlc i h=>PK<|rg<|l9 4 h (λh=>D5 h (f1o n q i lc) λx2 h hc2=>rg<|A3 x9 3 h λentry K6 h=>l9 7 h (λh=>P7 x9 11 K6<|l9 16 h (λh=>rg<|(E3 h hc2 λh=>fL lc h)) (λh=>u6 h hc2 λhI=>sk [] [2,3,5] jy hI)) (λh=>u6 h hc2 λhI=>sk [] [2,3,5] jy hI)) (λh=>lc.bk h λhI=>sk [] [] [] hI)
def a8R(n:m4)(q:u0):Option Bool:=
 ((u5 (λs:Int=>b2r n q s) 0).bind λx=>x.go (λr=>U r) λs=>d2f)
def c0d{n q}:OK a3V [.agg (B3 n),.agg (N8 q)] (a8R n q):=
 t9 _ λr h=>t5<|lp (e1V n q) h (λ_ h=>a3V.rt h) (e3N r) λhI=>sk [] [2,3,5] jy hI
def a4Q:FS (m4×p9×Bool):=⟨188,Tryz.f188,[.val D1 K4,.val Q2 [],.val [] []],[Z],[.val D1 K4],λr=>.tup [.agg (K8 r.1),.agg (x9 r.2.1),.b r.2.2],λ_=>[Z],Tryz.func188⟩
def e0M(n:m4):Unit->KS:=λ_=>⟨a4Q.k 3 [W],bs 1 (.ptr 1 0 0::(.ptr 2 0 0::(.ptr 3 0 0::bs 1 (vi (O n.a9:Int)::bs 69 [])))),[U (a9E n),U [.var 59 (a9B n)],U jk,U jK]⟩
def f1J(n:m4):Unit->KS:=λ_=>⟨a4Q.k 5 [W,W,W],bs 1 (.ptr 1 0 0::(.ptr 2 0 0::(.ptr 3 0 0::bs 71 []))),[U (a9E n),U [.var 59 (a9B n)],U jk,U jK]⟩
def d76(n:m4):(E p9)->KS:=λb05=>⟨a4Q.k 6 [W,W,W,W],bs 1 (.ptr 1 0 0::(.ptr 3 0 0::(.ptr 4 0 0::bs 71 []))),[U [s5 121 8 w6 n.Acc.b8,s5 50 7 x9 n.a9,s5 4 1 eB n.d7,s5 4 1 eB n.b8,.dead],U [.var 59 ([vi n.Id,vi n.Acc.i7,.own 0 0 8 0 (O n.Acc.b8),.own 0 1 7 0 (O n.a9),vi n.Seq,vi n.d6,vi n.b5,.own 0 2 1 0 (O n.d7)]++a7S n++[.own 0 3 1 0 (O n.b8)]++a5j n++[.own 2 0 7 0 (O b05)])],U [s5 50 7 x9 b05],U jk,U jK]⟩
def d8H(n:m4)(b05:E p9):Option (m4×p9×Bool):=
 U ((m4.mk n.Id n.Acc n.a9 n.Seq n.d6 n.b5 n.d7 n.j5 n.g9 n.b8 n.j6 n.j8 n.d9 b05),p9.mk W (u0.mk 0 0) (s9.mk [] [] 0 0),W)
def e2W(n)(r):NF a4Q r (d76 n) (λs=>d8H n s):=λb05 h=>PK<|rg<|z0 n.Acc.b8<|L0 n.a9 n.d7 n.b8 b05<|fE h
def e9E(n:m4):(E p9)->KS:=λi5=>⟨a4Q.k 5 [W,W,W],bs 1 (.ptr 1 0 0::(.ptr 2 0 0::(.ptr 3 0 0::bs 71 []))),[U [s5 121 8 w6 n.Acc.b8,s5 50 7 x9 n.a9,s5 4 1 eB n.d7,s5 4 1 eB n.b8,.dead],U [.var 59 ([vi n.Id,vi n.Acc.i7,.own 0 0 8 0 (O n.Acc.b8),.own 0 1 7 0 (O n.a9),vi n.Seq,vi n.d6,vi n.b5,.own 0 2 1 0 (O n.d7)]++a7S n++[.own 0 3 1 0 (O n.b8)]++a5j n++[.own 4 0 7 0 (O i5)])],U jk,U jK,U [s5 50 7 x9 i5]]⟩
def b2F(n:m4)(i5:E p9):Option (n6 (m4×p9×Bool) (E p9) (E p9)):=
 (bif decide ((O i5:Int)>0)then(idx i5 0).bind λentry=>z5 ((0:Int)<=1/\1<=(O i5:Int)) (z5 ((([]:E p9).length+((O i5)-(1:Int).toNat))*88<=140737488355328) (((a8R (m4.mk n.Id n.Acc n.a9 n.Seq n.d6 n.b5 n.d7 n.j5 n.g9 n.b8 n.j6 n.j8 n.d9 (([]:E p9)++(i5.drop (0+(1:Int).toNat)).take ((O i5)-(1:Int).toNat))) entry.b6).bind λa8l=>bif(!a8l)then U (n6.ret ((m4.mk n.Id n.Acc n.a9 n.Seq n.d6 n.b5 n.d7 n.j5 n.g9 n.b8 n.j6 n.j8 n.d9 (([]:E p9)++(i5.drop (0+(1:Int).toNat)).take ((O i5)-(1:Int).toNat))),entry,Y))else U (n6.nxt (([]:E p9)++(i5.drop (0+(1:Int).toNat)).take ((O i5)-(1:Int).toNat))))))else U (n6.brk i5))
def f5s(n):LQ a4Q (d76 n) (e9E n) (λs=>b2F n s):=λlc i5 h=>PK<|rg<|l9 3 h (λh=>rg<|D6 h λentry K6 h=>E2 K6<|M4 x9 3 K6<|rg<|tk 0 Q2<|z9 h λe1 h=>ob e1.1<|ob e1.2<|z9 h λe2 h=>om (V.own 19 0 7 0 (([]:E p9).length+((O i5)-(1:Int).toNat))=.own 19 0 7 0 (([]:E p9)++(i5.drop (0+(1:Int).toNat)).take ((O i5)-(1:Int).toNat)).length) (c3l (by omega))<|om (x8.row 50 7 (([]:E p9).length+((O i5)-(1:Int).toNat)) (([]:E p9).map x9++((i5.map x9).drop (0+(1:Int).toNat)).take ((O i5)-(1:Int).toNat))=s5 50 7 x9 (([]:E p9)++(i5.drop (0+(1:Int).toNat)).take ((O i5)-(1:Int).toNat))) (c36 (by omega))<|E7 p9<|ob e2<|om ((0+(1:Int).toNat)+((O i5)-(1:Int).toNat)<=(O i5)) (by omega)<|tl (4,{a:=.part,v:=U (.own 19 0 7 0 (([]:E p9)++(i5.drop (0+(1:Int).toNat)).take ((O i5)-(1:Int).toNat)).length),e:=U (s5 50 7 x9 (([]:E p9)++(i5.drop (0+(1:Int).toNat)).take ((O i5)-(1:Int).toNat)))})<|rg<|X9 a3V c0d 3 2 h λa8l h=>z0 n.Acc.b8<|L0 n.a9 n.d7 n.b8 (([]:E p9)++(i5.drop (0+(1:Int).toNat)).take ((O i5)-(1:Int).toNat))<|l9 4 h (λh=>rg<|z0 n.Acc.b8<|L0 n.a9 n.d7 n.b8 (([]:E p9)++(i5.drop (0+(1:Int).toNat)).take ((O i5)-(1:Int).toNat))<|fL lc h) (λh=>lc.nx h λhI=>sk [] [1,2,3] [(1,0),(2,0),(3,0),(19,0)] hI)) (λh=>lc.bk h λhI=>sk [] [1,2,3] [(1,0),(4,0),(2,0),(3,0)] hI)
def c2D(n:m4):Option (m4×p9×Bool):=
 ((u5 (λs:E p9=>b2F n s) n.i5).bind λx=>x.go (λr=>U r) λs=>d8H n s)
def f3o(n)(r):NF a4Q r (f1J n) (λs=>c2D n):=λ_ h=>PK<|lp (f5s n) h (λ_ h=>a4Q.rt h) (e2W n r) λhI=>sk [] [1,2,3] [(1,0),(2,0),(3,0),(0,4)] hI
def c0N(n:m4):Option (m4×p9×Bool):=
 ((b7K n.j5 (O n.a9:Int)).bind λc4K=>bif c4K then U (n,p9.mk Y (u0.mk 0 0) (s9.mk [] [] 0 0),Y)else((bif n.j6 then(a8R n n.d9.b6).bind λd6f=>bif(!d6f)then(a03 n.d9).bind λl5Entry=>U (r9.ret (n,l5Entry,Y))else U (r9.brk ())else U (r9.brk ())):Option (r9 (m4×p9×Bool) Unit)).bind λx=>x.go U λj=>c2D n)
def e6L(n)(r):NF a4Q r (e0M n) (λs=>c0N n):=λ_ h=>PK<|rg<|cbE a7x.t f1D h λc4K d5J h=>cdT (a7x.t 3 W c4K) h (λ_ h=>ob d5J<|rg<|C5 n<|fE h) (λ_ h=>ob d5J<|D5 h (f3o n r) λx1 h hc1=>rg<|l9 2 h (λh=>X9 a3V c0d 7 2 h λd6f h=>C5 n<|l9 9 h (λh=>rg<|n9 a1B a13 3 h λl5Entry h=>E3 h hc1 λh=>C5 n<|fE h) (λh=>u6 h hc1 λhI=>sk [] [1,2,3] jY hI)) (λh=>u6 h hc1 λhI=>sk [] [1,2,3] jY hI))
def c2f(n:m4):Option (m4×p9×Bool):=
 (((bif decide ((O n.a9:Int)<(O n.j5:Int))then(idx n.j5 (O n.a9:Int)).bind λvote=>bif decide (vote.b5>0)then(a03 vote.i9).bind λb4C=>U (r9.ret (n,b4C,Y))else U (r9.brk ())else U (r9.brk ())):Option (r9 (m4×p9×Bool) Unit)).bind λx=>x.go U λj=>c0N n)
def f7v{n}:OK a4Q [.agg (K8 n)] (c2f n):=
 t9 _ λr h=>t5<|D5 h (e6L n r) λx1 h hc1=>rg<|l9 5 h (λh=>A3 w6 9 h λvote N9 h=>l9 13 h (λh=>rg<|P7 w6 4 N9<|n9 a1B a13 7 h λb4C h=>E3 h hc1 λh=>C5 n<|fE h) (λh=>u6 h hc1 λhI=>sk [] [1,2,3,5] jY hI)) (λh=>u6 h hc1 λhI=>sk [] [1,2,3,5] jY hI)
def a2u:FS (Bool):=⟨172,Tryz.f172,[.val [] []],[Z,Z],[.val U4 [],.val U4 []],λr=>.b r,λ_=>[Z,Z],Tryz.func172⟩
def d67(a:s9)(b:s9):Unit->KS:=λ_=>⟨a2u.k 4 [W,W],bs 2 (.ptr 1 0 0::(.ptr 2 0 0::bs 69 [])),[U [],U [.var 48 (a1R a)],U [.var 48 (a1R b)]]⟩
def d9M:Unit->KS:=λ_=>⟨a2u.k 6 [W,W,W],bs 73 [],[U []]⟩
def d6L:Option Bool:=
 U Y
def e7Q(r):NF a2u r d9M (λs=>d6L):=λ_ h=>PK<|rg<|fE h
def e4O(a:s9)(b:s9):Int->KS:=λi1=>⟨a2u.k 5 [W,W],bs 2 (.ptr 1 0 0::(.ptr 2 0 0::bs 2 (vi i1::bs 66 []))),[U [],U [.var 48 (a1R a)],U [.var 48 (a1R b)]]⟩
def b5j(a:s9)(b:s9)(i1:Int):Option (n6 Bool Int Unit):=
 (bif decide (i1<(O a.f0:Int))then(idx a.f0 i1).bind λput=>(idx b.f0 i1).bind λput1=>bif(!(([put.j7,put.i8]:E Int)==[put1.j7,put1.i8]))then U (n6.ret W)else U (n6.nxt (s6 (i1+1)))else U (n6.brk ()))
def e7D(a b):LQ a2u d9M (e4O a b) (λs=>b5j a b s):=λlc i1 h=>PK<|rg<|l9 4 h (λh=>rg<|A3 A8 3 h λput hput h=>A3 A8 8 h λput1 b4I h=>l9 10 h (λh=>rg<|fL lc h) (λh=>rg<|(lc.nx h λhI=>sk [] [2,3,6] jy hI))) (λh=>lc.bk h λhI=>sk [] [] [] hI)
def c8B(a:s9)(b:s9):Option Bool:=
 ((u5 (λs:Int=>b5j a b s) 0).bind λx=>x.go (λr=>U r) λs=>d6L)
def e6j(a b)(r):NF a2u r (d67 a b) (λs=>c8B a b):=λ_ h=>PK<|rg<|lp (e7D a b) h (λ_ h=>a2u.rt h) (e7Q r) λhI=>sk [] [2,3,6] jy hI
def e7K(a:s9)(b:s9):Int->KS:=λi=>⟨a2u.k 3 [W],bs 2 (.ptr 1 0 0::(.ptr 2 0 0::bs 1 (vi i::bs 67 []))),[U [],U [.var 48 (a1R a)],U [.var 48 (a1R b)]]⟩
def b3W(a:s9)(b:s9)(i:Int):Option (n6 Bool Int Unit):=
 (bif decide (i<(O a.d8:Int))then(idx a.d8 i).bind λread=>(idx b.d8 i).bind λZ7=>bif(!(([read.j7,read.l8]:E Int)==[Z7.j7,Z7.l8]))then U (n6.ret W)else U (n6.nxt (s6 (i+1)))else U (n6.brk ()))
def e40(a b):LQ a2u (d67 a b) (e7K a b) (λs=>b3W a b s):=λlc i h=>PK<|rg<|l9 4 h (λh=>rg<|A3 A7 3 h λread a46 h=>A3 A7 8 h λZ7 d8I h=>l9 10 h (λh=>rg<|fL lc h) (λh=>rg<|(lc.nx h λhI=>sk [] [2,3,5] jy hI))) (λh=>lc.bk h λhI=>sk [] [2,3] jy hI)
def b2i(a:s9)(b:s9):Option Bool:=
 (bif(a.i8 != b.i8)then U W else bif(a.Code != b.Code)then U W else bif((O a.d8:Int) != (O b.d8:Int))then U W else bif((O a.f0:Int) != (O b.f0:Int))then U W else(u5 (λs:Int=>b3W a b s) 0).bind λx=>x.go (λr=>U r) λs=>c8B a b)
def c7G{a b}:OK a2u [.agg (X0 a),.agg (X0 b)] (b2i a b):=
 t9 _ λr h=>t5<|l9 5 h (λh=>rg<|fE h) (λh=>l9 12 h (λh=>rg<|fE h) (λh=>l9 21 h (λh=>rg<|fE h) (λh=>l9 29 h (λh=>rg<|fE h) (λh=>rg<|lp (e40 a b) h (λ_ h=>a2u.rt h) (e6j a b r) λhI=>sk [] [2,3,5] jy hI))))
def c01:FS (Bool):=⟨67,Tryz.f67,[.val [] []],[Z],[.val [] []],λr=>.b r,λ_=>[Z],Tryz.func67⟩
def b1y(q:u0):Option Bool:=
 (bif decide (q.i0>=0)then bif decide (q.i0<3)then bif decide (q.Seq>=1)then U (decide (q.Seq<=1000))else U W else U W else U W)
def c5G{q}:OK c01 [.agg (N8 q)] (b1y q):=
 t9 _ λr h=>t5<|l9 3 h (λh=>l9 8 h (λh=>l9 13 h (λh=>fE h) (λh=>fE h)) (λh=>fE h)) (λh=>fE h)
def a9m:FS (Bool):=⟨123,Tryz.f123,[.val [] []],[Z],[.val [] []],λr=>.b r,λ_=>[Z],Tryz.func123⟩
def a7W(n:Int):Option Bool:=
 (bif decide (n>=(-1000000))then U (decide (n<=1000000))else U W)
def b25{n}:OK a9m [vi n] (a7W n):=
 t9 _ λr h=>t5<|l9 2 h (λh=>fE h) (λh=>fE h)
def b5Z:FS (Bool):=⟨176,Tryz.f176,[.val [] []],[Z],[.val [] []],λr=>.b r,λ_=>[Z],Tryz.func176⟩
def b0j(n:Int):Option Bool:=
 (bif decide (n>=0)then U (decide (n<4))else U W)
def b9G{n}:OK b5Z [vi n] (b0j n):=
 t9 _ λr h=>t5<|l9 2 h (λh=>fE h) (λh=>fE h)
def a7L:FS (Bool):=⟨204,Tryz.f204,[.val [] []],[Z,Z],[.val [U 2] [],.val [] []],λr=>.b r,λ_=>[Z,Z],Tryz.func204⟩
def d5w:Unit->KS:=λ_=>⟨a7L.k 3 [W],bs 19 [],[U []]⟩
def d7m:Option Bool:=
 U W
def f8h(r):NF a7L r d5w (λs=>d7m):=λ_ h=>PK<|rg<|fE h
def f3q(list:E w8)(box:Int):Int->KS:=λi=>⟨a7L.k 2 [],n7 2 A7 list::(vi box::bs 3 (vi i::bs 13 [])),[U []]⟩
def c2A(list:E w8)(box:Int)(i:Int):Option (n6 Bool Int Unit):=
 (bif decide (i<(O list:Int))then(idx list i).bind λread=>bif(read.j7==box)then U (n6.ret Y)else U (n6.nxt (s6 (i+1)))else U (n6.brk ()))
def g0G(list box):LQ a7L d5w (f3q list box) (λs=>c2A list box s):=λlc i h=>PK<|rg<|l9 3 h (λh=>rg<|A3 A7 2 h λread a46 h=>l9 6 h (λh=>rg<|fL lc h) (λh=>rg<|(lc.nx h λhI=>sk [] [0,1,5] [] hI))) (λh=>lc.bk h λhI=>sk [] [] [] hI)
def b3u(list:E w8)(box:Int):Option Bool:=
 ((u5 (λs:Int=>c2A list box s) 0).bind λx=>x.go (λr=>U r) λs=>d7m)
def c9h{list box}:OK a7L [n7 2 A7 list,vi box] (b3u list box):=
 t9 _ λr h=>t5<|lp (g0G list box) h (λ_ h=>a7L.rt h) (f8h r) λhI=>sk [] [0,1,5] [] hI
end
end Go.Proofs.YtffneplcebhckaaGreat
