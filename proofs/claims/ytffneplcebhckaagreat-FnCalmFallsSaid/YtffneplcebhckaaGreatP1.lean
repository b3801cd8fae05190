/- What the law leans on, part 1. -/
import Derived.Deep.Draws
import Derived.KernelRfl
import Derived.Laws.MakeOwn
import Derived.Maps.AppendAt
import Derived.Orders
import Derived.ProofKit
import Derived.WalkKit
import Derived.WideKeyRuns
set_option linter.unusedVariables false
set_option linter.unusedSimpArgs false
set_option linter.unnecessarySimpa false
set_option linter.defProp false
namespace Go.Proofs.YtffneplcebhckaaGreat
open Go
open List renaming getElem?_eq_getElem->g0Y,mem_append->g0Z,replicate->g00,getElem_mem->g01,mem_singleton->g03,all_eq_true->g05,getElem?_eq_some_iff->g06,length_append->g08,mem_cons->g1a,nodup_append->g1b,eq_nil_of_length_eq_zero->g1c,append_assoc->g1d,mem_of_getElem?->g1e,getD_eq_getElem?_getD->g1f,append_nil->g1i,getElem?_append_right->g1j,getElem?_set_ne->g1k,length_take->g1l,mem_map->g1m,take_length->g1n,getElem?_append_left->g1o,drop_eq_getElem_cons->g1q,drop_eq_nil_of_le->g1r,getElem?_eq_none->g1s,flatten_cons->g1t,map_cons->g1v,nil_append->g1z,take_of_length_le->g1A,mem_or_eq_of_mem_set->g1F,length_cons->g1G,mem_flatten->g1H,length_map->g1J,take_append_of_le_length->g1L,mem_of_mem_take->g1M,mem_replicate->g1O,take_append_drop->g1V,map_append->g1W,getElem?_map->g1Z,mem_of_mem_drop->g10,cons_append->g17,getElem?_cons_succ->g19,drop_zero->g2a,length_set->g2b,any_eq_true->g2e,nodup_cons->g2h,getElem?_drop->g2l,map_map->g2o,getElem?_set->g2q,take_succ_cons->g2s,getElem?_take->g2u,sublist_append_right->g2z,getElem?_of_mem->g2A,Perm->g2E,drop_drop->g2F,replicate_succ->g2K,foldl_cons->g2L,drop_append_of_le_length->g2O,size_toArray->g2P,toArray->g2Q,Sublist->g2R,getElem?_append->g2T,not_mem_nil->g2U,flatten_append->g2Y
open Bool renaming and_eq_true->g02,true_and->g1h,false_eq_true->g2d
open Nat renaming le_refl->g07,mul_le_mul_right->g1x,le_trans->g1C,zero_add->g1U,succ_mul->g15,lt_of_lt_of_le->g2m,add_zero->g2n,le_mul_of_pos_right->g2r,zero_le->g2D
open Option renaming getD_some->g13,map_some->g2c,map_eq_some_iff->g2t
open Option renaming some->U,none->Z
open Bool renaming false->W,true->Y
open List renaming length->O
noncomputable section
theorem g25{α:Sort _}(a b:α):cond true a b=a:=rfl
theorem g26{α:Sort _}(a b:α):cond false a b=b:=rfl
inductive V where
 |bot
 |b (x:Bool)
 |i (k:IntKind) (n:Int)
 |s (x:ByteArray)
 |fn (f:FuncId)
 |nil
 |agg (cs:List V)
 |tup (cs:List V)
 |sl (sz n:Nat) (rows:List (List V))
 |osl (e sz n:Nat) (rows:List (List V))
 |dsl (e sz n:Nat) (rows:List (List V))
 |own (g j sz lo n:Nat)
 |ptr (g j off:Nat)
 |eptr (g j sz idx off:Nat)
 |fptr (cs:List V)
 |optr (e:Nat) (cs:List V)
 |mp (g j:Nat)
 |raw (c:Value)
 |hole
instance:Inhabited V:=⟨.bot⟩
def V.cells:V->Option (List V)
 | .agg cs=>U cs
 | .tup _=>Z
 | .bot=>Z
 |v=>U [v]
def T8(w:World)(g o:Nat)(ds:List Value):Prop := ∀j u,ds[j]?=U u->w.cell? ⟨g,o+j,Z⟩=U u
def T8.drop{w:World}{g o:Nat}{ds:List Value}(h:T8 w g o ds)(k:Nat):T8 w g (o+k) (ds.drop k):=by
 intro j u hu;rw[g2l]at hu;have:=h _ _ hu;rwa[<-Nat.add_assoc]at this
def T8.take{w:World}{g o:Nat}{ds:List Value}(h:T8 w g o ds)(k:Nat):T8 w g o (ds.take k):=by
 intro j u hu;rw[g2u]at hu;split at hu
 ·exact h _ _ hu
 ·cases hu
mutual
inductive FV (w:World) (F:Nat->Prop):V->Value->Prop
 |bot (c) (h:c.oneCell'=Y):FV w F .bot c
 |b (x):FV w F (.b x) (.bool x)
 |i (k n):FV w F (.i k n) (.int k n)
 |s (x):FV w F (.s x) (.string x)
 |fn (f):FV w F (.fn f) (.func (.func f) #[] #[])
 |nil:FV w F .nil (.slice Z 0 0)
 |raw (c) (h:c.oneCell'=Y):FV w F (.raw c) c
 |sl0 (sz a cap):FV w F (.sl sz 0 []) (.slice a 0 cap)
 | sl (sz n rows g o cap ds) (hF:F g) (hr:FL w F rows.flatten ds) (hn:(O rows)=n) (hs:∀r∈rows,(O r)=sz) (hc:n<=cap) (hseg:T8 w g o ds) :
   FV w F (.sl sz n rows) (.slice (U ⟨g,o,Z⟩) n cap)
inductive FL (w:World) (F:Nat->Prop):List V->List Value->Prop
 |nil:FL w F [] []
 |cons (v c vs cs) (h:FV w F v c) (t:FL w F vs cs):FL w F (v::vs) (c::cs)
end
def M7(w w':World)(F:Nat->Prop):Prop := ∀g o,F g->w'.cell? ⟨g,o,Z⟩=w.cell? ⟨g,o,Z⟩
def T8.same{w w':World}{F:Nat->Prop}(h:M7 w w' F){g o:Nat}(hF:F g){ds:List Value}(hs:T8 w g o ds):T8 w' g o ds:=
 λj u hu=>(h g (o+j) hF).trans (hs j u hu)
mutual
theorem FV.mono {w w':World} {F F':Nat->Prop} (hs:M7 w w' F) (hF:∀g,F g->F' g):∀{v c},FV w F v c->FV w' F' v c
 |_,_,.bot c h=>.bot c h
 |_,_,.b x=>.b x
 |_,_,.i k n=>.i k n
 |_,_,.s x=>.s x
 |_,_,.fn f=>.fn f
 |_,_,.nil=>.nil
 |_,_,.raw c h=>.raw c h
 |_,_,.sl0 sz a cap=>.sl0 sz a cap
 |_,_,.sl sz n rows g o cap ds h1 h2 h3 h4 h5 h6=>.sl sz n rows g o cap ds (hF g h1) (FL.mono hs hF h2) h3 h4 h5 (h6.same hs h1)
theorem FL.mono {w w':World} {F F':Nat->Prop} (hs:M7 w w' F) (hF:∀g,F g->F' g):∀{v c},FL w F v c->FL w' F' v c
 |_,_,.nil=>.nil
 |_,_,.cons v c vs cs h t=>.cons v c vs cs (FV.mono hs hF h) (FL.mono hs hF t)
end
def E1:Value->Option Nat
 | .pointer (U a)=>U a.block
 | .slice (U a) _ _=>U a.block
 | .map (U b)=>U b
 |_=>Z
inductive RC (w:World) (F:Nat->Prop) (D:Nat->Prop) (G:Nat->Nat->Value):V->Value->Prop
 |fv (v c) (h:FV w F v c):RC w F D G v c
 |own (g j sz lo n b nn cap) (hD:D g) (hι:G g j=.slice b nn cap) (hlo:lo+n<=cap) (hb0:b=Z->cap=0) (hb1:∀ad,b=U ad->ad=⟨ad.block,0,Z⟩):RC w F D G (.own g j sz lo n) (.slice (if cap=lo then b else b.map (·.add (lo*sz))) n (cap-lo))
 |own0 (g j sz lo b cap) (hD:D g) (hlo:0<lo):RC w F D G (.own g j sz lo 0) (.slice b 0 cap)
 |ptr (g j off E1) (hD:D g) (hι:G g j=.pointer (U ⟨E1,0,Z⟩)):RC w F D G (.ptr g j off) (.pointer (U ⟨E1,off,Z⟩))
 |eptr (g j sz idx off b) (hD:D g) (hι:E1 (G g j)=U b):RC w F D G (.eptr g j sz idx off) (.pointer (U ⟨b,idx*sz+off,Z⟩))
 |fptr (cs g o ds) (hF:F g) (h:FL w F cs ds) (hs:T8 w g o ds):RC w F D G (.fptr cs) (.pointer (U ⟨g,o,Z⟩))
 |mp (g j E1) (hD:D g) (hι:G g j=.map (U E1)):RC w F D G (.mp g j) (.map (U E1))
def RC.mono{w w':World}{F F':Nat->Prop}{D D':Nat->Prop}{G ι':Nat->Nat->Value}(hs:M7 w w' F)(hF:∀g,F g->F' g)(hD:∀g,D g->D' g)(hι:∀g j,D g->ι' g j=G g j){v c}(h:RC w F D G v c):RC w' F' D' ι' v c:=by
 cases h with
 |fv v c h=>exact .fv _ _ (h.mono hs hF)
 |own g j sz lo n b nn cap hg h1 h2 h3 h4=>exact .own g j sz lo n b nn cap (hD _ hg) (by rw[hι _ _ hg];exact h1) h2 h3 h4
 |own0 g j sz lo b cap hg h1=>exact .own0 g j sz lo b cap (hD _ hg) h1
 |ptr g j off E1 hg h1=>exact .ptr g j off E1 (hD _ hg) (by rw[hι _ _ hg];exact h1)
 |eptr g j sz idx off b hg h1=>exact .eptr g j sz idx off b (hD _ hg) (by rw[hι _ _ hg];exact h1)
 |fptr cs g o ds h1 h2 h3=>exact .fptr cs g o ds (hF _ h1) (h2.mono hs hF) (h3.same hs h1)
 |mp g j E1 hg h1=>exact .mp g j E1 (hD _ hg) (by rw[hι _ _ hg];exact h1)
inductive B5 {C β:Type} (R:C->β->Prop):List C->List β->Prop
 |nil:B5 R [] []
 |cons {a b D9 bs} (h:R a b) (t:B5 R D9 bs):B5 R (a::D9) (b::bs)
namespace B5
variable {C β:Type} {R R':C->β->Prop}
def imp(h:∀a b,R a b->R' a b):∀{D9 bs},B5 R D9 bs->B5 R' D9 bs
 |_,_,.nil=>.nil
 |_,_,.cons x t=>.cons (h _ _ x) (t.imp h)
def length:∀{D9 bs},B5 R D9 bs->(O D9)=(O bs)
 |_,_,.nil=>rfl
 |_,_,.cons _ t=>by simp[t.length]
def get:∀{D9 bs},B5 R D9 bs->∀{n:Nat} {a:C},D9[n]?=U a->∃b,bs[n]?=U b/\R a b
 |_,_,.nil,n,a,h=>by simp at h
 |_,_,.cons (a:=x) (b:=y) hx t,0,a,h=>by simp at h;subst h;exact⟨y,by simp,hx⟩
 |_,_,.cons _ t,n+1,a,h=>by simp at h;simpa using t.get h
def set:∀{D9 bs},B5 R D9 bs->∀(n:Nat) {a:C} {b:β},R a b->B5 R (D9.set n a) (bs.set n b)
 |_,_,.nil,n,a,b,h=>by simpa using .nil
 |_,_,.cons hx t,0,a,b,h=>.cons h t
 |_,_,.cons hx t,n+1,a,b,h=>.cons hx (t.set n h)
def append:∀{D9 bs cs ds},B5 R D9 bs->B5 R cs ds->B5 R (D9++cs) (bs++ds)
 |_,_,_,_,.nil,k=>k
 |_,_,_,_,.cons hx t,k=>.cons hx (t.append k)
def drop:∀{D9 bs},B5 R D9 bs->∀n,B5 R (D9.drop n) (bs.drop n)
 |_,_,h,0=>h
 |_,_,.nil,n+1=>.nil
 |_,_,.cons _ t,n+1=>t.drop n
def take:∀{D9 bs},B5 R D9 bs->∀n,B5 R (D9.take n) (bs.take n)
 |_,_,h,0=>.nil
 |_,_,.nil,n+1=>.nil
 |_,_,.cons hx t,n+1=>.cons hx (t.take n)
def split:∀{D9 bs cs},B5 R (D9++bs) cs->∃x y,cs=x++y/\B5 R D9 x/\B5 R bs y
 | [],bs,cs,h=>⟨[],cs,rfl,.nil,h⟩
 |a::D9,bs,_,.cons hx t=>by
  obtain⟨x,y,rfl,h1,h2⟩:=split (D9:=D9) t;exact⟨_::x,y,rfl,.cons hx h1,h2⟩
def replicate{a:C}{b:β}(h:R a b):∀n,B5 R (g00 n a) (g00 n b)
 | 0=>.nil
 |n+1=>.cons h (replicate h n)
end B5
def FL.all2{w:World}{F:Nat->Prop}:∀{vs cs},FL w F vs cs->B5 (FV w F) vs cs
 |_,_,.nil=>.nil
 |_,_,.cons _ _ _ _ h t=>.cons h t.all2
def FL.of{w:World}{F:Nat->Prop}:∀{vs cs},B5 (FV w F) vs cs->FL w F vs cs
 |_,_,.nil=>.nil
 |_,_,.cons h t=>.cons _ _ _ _ h (FL.of t)
inductive RA (w:World) (F:Nat->Prop) (D:Nat->Prop) (G:Nat->Nat->Value):V->Value->Prop
 |cell (v c) (h:RC w F D G v c):RA w F D G v c
 |agg (cs ds) (h:B5 (RC w F D G) cs ds):RA w F D G (.agg cs) (.agg ds.toArray)
inductive RV (w:World) (F:Nat->Prop) (D:Nat->Prop) (G:Nat->Nat->Value):V->Value->Prop
 |one (v c) (h:RA w F D G v c):RV w F D G v c
 |tup (cs ds) (h:B5 (RA w F D G) cs ds):RV w F D G (.tup cs) (.tuple ds.toArray)
 |any (c):RV w F D G .bot c
def RA.mono{w w':World}{F F':Nat->Prop}{D D':Nat->Prop}{G ι':Nat->Nat->Value}(hs:M7 w w' F)(hF:∀g,F g->F' g)(hD:∀g,D g->D' g)(hι:∀g j,D g->ι' g j=G g j){v c}(h:RA w F D G v c):RA w' F' D' ι' v c:=by
 cases h with
 |cell v c h=>exact .cell _ _ (h.mono hs hF hD hι)
 |agg cs ds h=>exact .agg _ _ (h.imp λ_ _ h=>h.mono hs hF hD hι)
def RV.mono{w w':World}{F F':Nat->Prop}{D D':Nat->Prop}{G ι':Nat->Nat->Value}(hs:M7 w w' F)(hF:∀g,F g->F' g)(hD:∀g,D g->D' g)(hι:∀g j,D g->ι' g j=G g j){v c}(h:RV w F D G v c):RV w' F' D' ι' v c:=by
 cases h with
 |one v c h=>exact .one _ _ (h.mono hs hF hD hι)
 |tup cs ds h=>exact .tup _ _ (h.imp λ_ _ h=>h.mono hs hF hD hι)
 |any c=>exact .any c
def OR(w:World)(F:Nat->Prop)(e sz:Nat)(sv:Value)(n:Nat)(rows:List (List V)):Prop:=
 ∃flat,w.ownsRow 0 e sz sv n flat/\FL w F rows.flatten flat/\(O rows)=n/\∀r∈rows,(O r)=sz
def H5(c:Value):List Nat:=match E1 c with|some k=>[k]|none=>[]
mutual
inductive BC (w:World) (F:Nat->Prop):V->Value->List Nat->Prop
 |fv (v c) (h:FV w F v c):BC w F v c []
 |osl (e sz n rows c) (h:OR w F e sz c n rows):BC w F (.osl e sz n rows) c (H5 c)
 |dsl (e sz n rows c flat fs) (ho:w.ownsRow 0 e sz c n flat) (hr:BL w F rows.flatten flat fs) (hn:(O rows)=n) (hl:∀r∈rows,(O r)=sz):BC w F (.dsl e sz n rows) c (H5 c++fs)
inductive BL (w:World) (F:Nat->Prop):List V->List Value->List Nat->Prop
 |nil:BL w F [] [] []
 |cons (v c f vs cs fs) (h:BC w F v c f) (t:BL w F vs cs fs):BL w F (v::vs) (c::cs) (f++fs)
end
inductive KC (w:World) (F:Nat->Prop) (D:Nat->Prop) (G:Nat->Nat->Value):V->Value->List Nat->Prop
 |rc (v c) (h:RC w F D G v c):KC w F D G v c []
 |bc (v c f) (h:BC w F v c f):KC w F D G v c f
inductive KL (w:World) (F:Nat->Prop) (D:Nat->Prop) (G:Nat->Nat->Value):List V->List Value->List Nat->Prop
 |nil:KL w F D G [] [] []
 |cons (v c f vs cs fs) (h:KC w F D G v c f) (t:KL w F D G vs cs fs):KL w F D G (v::vs) (c::cs) (f++fs)
def V.isRef:V->Bool
 | .own .. | .ptr .. | .eptr .. | .fptr _ | .mp .. => Y
 |_=>W
def M6(rows:List (List V)):Prop := ∀r∈rows,∀v∈r,v.isRef=W
inductive x8 where
 |dead
 |var (e:Nat) (cs:List V)
 |arr (e sz n:Nat) (rows:List (List V))
 |row (e sz n:Nat) (rows:List (List V))
 |frz (sz n:Nat) (rows:List (List V))
 |deep (o:Bool) (e sz n:Nat) (rows:List (List V))
 |map (t m:Nat) (es:List (List Int×V))
instance:Inhabited x8:=⟨.dead⟩
def x8.live:x8->Bool
 | .var .. | .arr .. | .row .. | .deep .. | .map .. => Y
 |_=>W
def V.conc:V->Value
 | .b x=>.bool x
 | .i k n=>.int k n
 | .s x=>.string x
 | .fn f=>.func (.func f) #[] #[]
 | .nil=>.slice Z 0 0
 |_=>.nilFunc
def V.simple:V->Bool
 | .b _ | .i _ _ | .s _ | .fn _ | .nil=>Y
 |_=>W
def kv(xs:List Int):Value:=.agg (xs.map (Value.int .i64)).toArray
def RE(w:World)(F:Nat->Prop)(D:Nat->Prop)(G:Nat->Nat->Value):x8->Value->Prop
 | .dead,_=>True
 | .var e cs,c => ∃g cur,c=.pointer (U ⟨g,0,Z⟩)/\w.heap[g]?=U (.cells cur e (0,0))/\B5 (RC w F D G) cs cur.toList
 | .arr e sz n rows,c => ∃g cur,c=.pointer (U ⟨g,0,Z⟩)/\w.heap[g]?=U (.cells cur e (0,0))/\FL w F rows.flatten cur.toList/\(O rows)=n/\∀r∈rows,(O r)=sz
 | .row e sz n rows,c=>OR w F e sz c n rows
 | .frz sz n rows,c=>FV w F (.sl sz n rows) c
 | .deep o e sz n rows,c => ∃flat fs,w.ownsRow 0 e sz c n flat/\KL w F D G rows.flatten flat fs/\(O rows)=n/\(∀r∈rows,(O r)=sz)/\(H5 c++fs).Nodup/\(o=W->M6 rows)
 | .map t m es,c => ∃g arr clock,c=.map (U g)/\w.heap[g]?=U (.map arr clock)/\arr.toList.map (λe=>(e.key,e.val))=es.map (λp=>(kv p.1,p.2.conc))/\∀p∈es,(O p.1)=m/\p.2.simple=Y
def EB(w:World):x8->Value->Nat->Prop
 | .deep _ e sz n rows,c,k=>E1 c=U k\/∃ (F D:Nat->Prop) (G:Nat->Nat->Value) (flat:List Value) (fs:List Nat),w.ownsRow 0 e sz c n flat/\KL w F D G rows.flatten flat fs/\k∈fs
 |_,c,k=>E1 c=U k
structure St where
 t:List V
 h:List (Option (List x8))
def St.ent(S:St)(g j:Nat):Option x8:=
 match S.h[g]? with
 |some (U l)=>l[j]?
 |_=>Z
def St.D(S:St)(g:Nat):Prop := ∃l,S.h[g]?=U (U l)
def St.D_of_ent{S:St}{g j:Nat}{e:x8}(h:S.ent g j=U e):S.D g:=by
 unfold St.ent at h;split at h
 ·exact⟨_,by assumption⟩
 ·cases h
structure U2 where
 w0:World
 F0:Nat->Prop
 own:Nat->Prop
 pins:List Value:=[]
structure a5G(own:Nat->Prop)(w w':World):Prop where
 os:w'.os=w.os
 tape:w'.tape=w.tape
 output:w'.output=w.output
 size:w.heap.size<=w'.heap.size
 block:∀k,k<w.heap.size->¬own k->w'.heap[k]?=w.heap[k]?
def a5G.refl(own:Nat->Prop)(w:World):a5G own w w:=⟨rfl,rfl,rfl,g07 _,λ_ _ _=>rfl⟩
def a5G.trans{own d58:Nat->Prop}{w w1 w2:World}(h:a5G own w w1)(k:a5G d58 w1 w2)(ho:∀g,d58 g->g<w.heap.size->own g):a5G own w w2:=
  ⟨k.os.trans h.os,k.tape.trans h.tape,k.output.trans h.output,g1C h.size k.size,
   λi hi hn=>(k.block i (g2m hi h.size) (λq=>hn (ho i q hi))).trans (h.block i hi hn)⟩
structure A2(J:U2)(F:Nat->Prop)(G:Nat->Nat->Value)(S:St)(a:Act)(w:World):Prop where
 F0:∀g,J.F0 g->F g
 F1:∀g,F g->g<w.heap.size
 F2:∀g,F g->J.F0 g\/J.own g\/J.w0.heap.size<=g
 kept:a5G J.own J.w0 w
 tmps:B5 (RV w F S.D G) S.t a.tmps.toList
 ents:∀g j e,S.ent g j=U e->RE w F S.D G e (G g j)
 sep:∀g j e k,S.ent g j=U e->e.live=Y->EB w e (G g j) k->¬F k/\(J.own k\/J.w0.heap.size<=k)
 inj:∀g j e g' j' e' k,S.ent g j=U e->S.ent g' j'=U e'->e.live=Y->e'.live=Y->EB w e (G g j) k->EB w e' (G g' j') k->g=g'/\j=j'
 defers:a.defers=[]
 pins:∀(j:Nat) (c:Value),J.pins[j]?=U c->S.D 0/\G 0 j=c
structure TI where
 size:Nat
 bytes:Nat
 agg:Bool
 zero:List V
 sl:Option Nat
 arr:Option (Nat×Nat)
 ik:Option IntKind
 fs:Option (List (Nat×Nat))
 str:Bool
 ptr:Option Nat
 bl:Bool
def FV.conc{w:World}{F:Nat->Prop}{v:V}(h:v.simple=Y):FV w F v v.conc:=by
 cases v<;>first|(simp[V.simple]at h;done)|constructor
def V.ofCell:Value->V
 | .bool x=>.b x
 | .int k n=>.i k n
 | .string x=>.s x
 | .slice a n cap=>match a,n,cap with
  | .none,0,0=>.nil
  |_,_,_=>.bot
 | .func g x y=>match g,x.toList,y.toList with
  | .func f,[],[]=>.fn f
  |_,_,_=>.bot
 |_=>.bot
def FV.ofCell{w:World}{F:Nat->Prop}(c:Value)(h1:c.oneCell'=Y):FV w F (V.ofCell c) c:=by
 cases c with
 |bool x=>exact .b x
 |int k n=>exact .i k n
 |string x=>exact .s x
 |slice a n cap=>cases a<;>cases n<;>cases cap<;>simp only[V.ofCell]<;>first|exact .nil|exact .bot _ h1
 |func g x y=>
  simp only[V.ofCell];split
  ·rename_i f q1 q2;have hx:x = #[]:=by simpa using q1
   have hy:y = #[]:=by simpa using q2
   subst hx;subst hy;exact .fn f
  ·exact .bot _ h1
 |_=>exact .bot _ h1
def FL.ofCells{w:World}{F:Nat->Prop}:∀cs:List Value,(∀c∈cs,c.oneCell'=Y)->FL w F (cs.map V.ofCell) cs
 | [],_=>.nil
 |c::cs,h=>.cons _ _ _ _ (.ofCell c (h c (by simp))) (FL.ofCells cs λd hd=>h d (by simp[hd]))
def a7t:TypeDesc->Bool
 | .struct _ | .array _ _=>Y
 |_=>W
def dSl:TypeDesc->Option Nat
 | .slice e=>U e
 |_=>Z
def a8A:TypeDesc->Option (Nat×Nat)
 | .array n e=>U (n,e)
 |_=>Z
def a64:TypeDesc->Option IntKind
 | .int k=>U k
 |_=>Z
def dFs:TypeDesc->Option (List (Nat×Nat))
 | .struct fs=>U (fs.toList.map λf=>(f.offset,f.type))
 |_=>Z
def a8f:TypeDesc->Bool
 | .string=>Y
 |_=>W
def dBl:TypeDesc->Bool
 | .bool=>Y
 |_=>W
def d6g:TypeDesc->Option Nat
 | .pointer e=>U e
 |_=>Z
def J1(P:Program)(t:Nat):Option TI:=
 match P.info? t,P.underlying t with
 |some i,U d=>
  match i.zero with
  |some z=>
   if z.cells.all (·.oneCell')then U {size:=i.size,bytes:=i.bytes,zero:=z.cells.toList.map V.ofCell,agg:=a7t d,sl:=dSl d,arr:=a8A d,ik:=a64 d,fs:=dFs d,str:=a8f d,ptr:=d6g d,bl:=dBl d}else Z
  |none=>Z
 |_,_=>Z
def c2l:Option TypeDesc->Bool
 |some (.array _ _)|some (.struct _)=>Y
 |_=>W
structure Cx where
 P:Program
 mixed:P.follows .mixedOrders=Y
 T:Nat->Option TI
 hT:∀t ti,T t=U ti->J1 P t=U ti
 Υ:Nat->Option Nat
 hE:∀t m,Υ t=U m->∀(xs ys:List Int) (w:World),(O xs)=m->(O ys)=m->
  (Op.equal t (.agg (xs.map (Value.int .i64)).toArray) (.agg (ys.map (Value.int .i64)).toArray)).run P w=.ok (xs==ys) w
 hG:∀t m,Υ t=U m->P.eqGuardType P.depth t=W
 M:Nat->Option (Nat×Nat×V)
 hM:∀t kt m z,M t=U (kt,m,z)->∃vt,P.underlying t=U (.map kt vt)/\Υ kt=U m/\c2l (P.underlying kt)=Y/\
  (∀w,(zeroValue vt).run P w=.ok z.conc w)/\z.simple=Y/\∀(em:Bool) (xs:List Int) (w:World),(O xs)=m->(Instr.checkKey em 10000 kt (kv xs)).run P w=.ok () w
abbrev Hp:=Nat->Nat->Option x8
def m7(C:Type):=Hp->Option (C×List (Nat×Nat))
namespace m7
def pure{C:Type}(a:C):m7 C:=λ_=>U (a,[])
def bind{C β:Type}(m:m7 C)(f:C->m7 β):m7 β:=λH=>
 match m H with
 |some (a,l)=>match f a H with
  |some (b,l')=>U (b,l++l')
  |none=>Z
 |none=>Z
instance:Monad m7 where
 pure:=m7.pure
 bind:=m7.bind
def rd(g j:Nat):m7 x8:=λH=>match H g j with
 |some e=>U (e,[(g,j)])
 |none=>Z
def lift{C:Type}(o:Option C):m7 C:=λ_=>match o with
 |some a=>U (a,[])
 |none=>Z
def no{C:Type}:m7 C:=λ_=>Z
end m7
inductive PM where
 |val (ck om:List (Option Nat))
 |ptr (ck om:List (Option Nat))
 |row
 |part
inductive U8 where
 |none
 |row (cs:List V)
 |val (v:V)
 |call (ms:List PM) (fr:Bool) (res:V) (outs:List (Option V))
 |dec (d:Bool)
 |ck (ck:List (Option Nat))
 |rowck (cs:List V) (ck:List (Option Nat))
 |drow (cs:List V)
 |dst (cs:List V) (ck om:List (Option Nat))
 |dck (ck om:List (Option Nat))
 |prow (cs:List V)
 |dtak (cs:List V)
 |dsc (cs:List V) (ck om:List (Option Nat))
 |part
 |callr (k q:Nat) (ms:List PM) (fr:Bool) (res:V) (outs:List (Option V))
structure E0 where
 v:V
 new:Option (List x8):=Z
 upd:List ((Nat×Nat)×x8):=[]
 obl:List Prop:=[]
def c2P:Value->V
 | .agg cs=>if cs.all (·.oneCell')then .agg (cs.toList.map V.ofCell)else .bot
 |v=>if v.oneCell' then V.ofCell v else .bot
def z6(t:List V):Operand->V
 | .tmp k=>t.getD k .bot
 | .const v=>c2P v
 | .func f=>.fn f
 | .global _=>.bot
def C7{C:Type}(cs:List C)(off:Nat)(vs:List C):List C:=cs.take off++vs++cs.drop (off+(O vs))
def b09(a51:Nat->Option (Nat×Nat))(a2x:List V):List (Nat×V)->Option (List V)
 | []=>U a2x
 | (i,v)::rest=>
  match a51 i with
  |none=>Z
  |some (off,size)=>
   match v.cells with
   |some cs=>if(O cs)=size/\off+size<=(O a2x)then b09 a51 (C7 a2x off cs) rest else Z
   |none=>Z
def a7Q(k:IntKind)(x y:Int):Int:=k.wrap (BitVec.ofInt k.bits x ^^^ BitVec.ofInt k.bits y).toNat
def c2U(op:BinOp)(k:IntKind)(x y:Int):Option (V×List Prop):=
 match op with
 | .add=>U (.i k (k.wrap (x+y)),[])
 | .sub=>U (.i k (k.wrap (x-y)),[])
 | .mul=>U (.i k (k.wrap (x*y)),[])
 | .quo=>U (.i k (k.wrap (x.tdiv y)),[y≠0])
 | .rem=>U (.i k (x.tmod y),[y≠0])
 | .eql=>U (.b (x==y),[])
 | .neq=>U (.b (x != y),[])
 | .lss=>U (.b (decide (x<y)),[])
 | .leq=>U (.b (decide (x<=y)),[])
 | .gtr=>U (.b (decide (x>y)),[])
 | .geq=>U (.b (decide (x>=y)),[])
 | .xor=>U (.i k (a7Q k x y),[])
 |_=>Z
def a3H:List V->Option (List Int)
 | []=>U []
 | .i .i64 n::vs=>(a3H vs).map (n :: ·)
 |_=>Z
def c2n{w w':World}{b:Nat}{e:TypeId}{sz n:Nat}{v:Value}{xs:List Value}(h:w.ownsRow b e sz v n xs)(hb:∀k,E1 v=U k->w'.heap[k]?=w.heap[k]?):w'.ownsRow b e sz v n xs:=by
 refine⟨h.1,?_⟩;rcases h.2 with hn|⟨g,cap,cur,rfl,hbg,hg,rest⟩
 ·exact .inl hn
 ·exact .inr ⟨g,cap,cur,rfl,hbg,(hb g rfl).trans hg,rest⟩
def b28{w w':World}{e:TypeId}{sz n:Nat}{v:Value}{xs ys:List Value}(h:w.ownsRow 0 e sz v n xs)(h':w'.ownsRow 0 e sz v n ys)(hb:∀k,E1 v=U k->w'.heap[k]?=w.heap[k]?):xs=ys:=by
 rcases h.2 with⟨hv,hn⟩|⟨g,cap,cur,hv,_,hg,_,_,_,ht⟩
 ·have h1:=h.1;have h2:=h'.1;subst hn;rw[Nat.zero_mul]at h1 h2;rw[g1c h1,g1c h2]
 ·rcases h'.2 with⟨hv',_⟩|⟨g',cap',cur',hv',_,hg',_,_,_,ht'⟩
  ·rw[hv]at hv';cases hv'
  ·rw[hv]at hv';injection hv' with e1 e2 e3;injection e1 with e1;injection e1 with e1;subst e1;have:=hb g (by rw[hv];rfl);rw[hg,hg']at this;injection this with this;injection this with this;subst this;rw[<-ht,<-ht']
def b7d{w:World}{e:TypeId}{sz n:Nat}{v:Value}{xs:List Value}(h:w.ownsRow 0 e sz v n xs){k:Nat}(hk:E1 v=U k):k<w.heap.size:=by
 rcases h.2 with⟨hv,_⟩|⟨g,cap,cur,hv,_,hg,_⟩
 ·rw[hv]at hk;cases hk
 ·rw[hv]at hk;injection hk with hk;subst hk;exact(Array.getElem?_eq_some_iff.1 hg).1
def X1{c:Value}{k:Nat}:k∈H5 c↔E1 c=U k:=by
 unfold H5;cases E1 c with
 |none=>simp
 |some q=>simp[eq_comm]
mutual
theorem BC.mono {w w':World} {F F':Nat->Prop} (hs:M7 w w' F) (hF:∀g,F g->F' g):∀{v c f},BC w F v c f->(∀k∈f,w'.heap[k]?=w.heap[k]?)->BC w' F' v c f
 |_,_,_,.fv v c h,_=>.fv _ _ (h.mono hs hF)
 |_,_,_,.osl e sz n rows c h,hb=>by
  obtain⟨flat,ho,hf,hn,hl⟩:=h;exact .osl _ _ _ _ _ ⟨flat,c2n ho (λk hk=>hb k (X1.2 hk)),hf.mono hs hF,hn,hl⟩
 |_,_,_,.dsl e sz n rows c flat fs ho hr hn hl,hb=>
  .dsl e sz n rows c flat fs (c2n ho (λk hk=>hb k (g0Z.2 (.inl (X1.2 hk))))) (BL.mono hs hF hr λk hk=>hb k (g0Z.2 (.inr hk))) hn hl
theorem BL.mono {w w':World} {F F':Nat->Prop} (hs:M7 w w' F) (hF:∀g,F g->F' g):∀{vs cs f},BL w F vs cs f->(∀k∈f,w'.heap[k]?=w.heap[k]?)->BL w' F' vs cs f
 |_,_,_,.nil,_=>.nil
 |_,_,_,.cons v c f vs cs fs h t,hb=>.cons v c f vs cs fs (BC.mono hs hF h λk hk=>hb k (g0Z.2 (.inl hk))) (BL.mono hs hF t λk hk=>hb k (g0Z.2 (.inr hk)))
end
mutual
theorem BC.det {w w':World} {F F':Nat->Prop}:∀{v c f f'},BC w F v c f->BC w' F' v c f'->(∀k∈f,w'.heap[k]?=w.heap[k]?)->f=f'
 |_,_,_,_,.fv v c h,h',_=>by
  cases h' with
  |fv=>rfl
  |osl=>cases h
  |dsl=>cases h
 |_,_,_,_,.osl e sz n rows c h,h',_=>by
  cases h' with
  |fv _ _ h'=>cases h'
  |osl=>rfl
 |_,_,_,_,.dsl e sz n rows c flat fs ho hr hn hl,h',hb=>by
  cases h' with
  |fv _ _ h'=>cases h'
  |dsl _ _ _ _ _ flat' fs' ho' hr' hn' hl'=>
   have hfl:=b28 ho ho' (λk hk=>hb k (g0Z.2 (.inl (X1.2 hk))));subst hfl;rw[BL.det hr hr' λk hk=>hb k (g0Z.2 (.inr hk))]
theorem BL.det {w w':World} {F F':Nat->Prop}:∀{vs cs f f'},BL w F vs cs f->BL w' F' vs cs f'->(∀k∈f,w'.heap[k]?=w.heap[k]?)->f=f'
 |_,_,_,_,.nil,h',_=>by cases h';rfl
 |_,_,_,_,.cons v c f vs cs fs h t,h',hb=>by
  cases h' with
  |cons _ _ f' _ _ fs' h2 t2=>rw[BC.det h h2 λk hk=>hb k (g0Z.2 (.inl hk)),BL.det t t2 λk hk=>hb k (g0Z.2 (.inr hk))]
end
mutual
theorem BC.lt {w:World} {F:Nat->Prop}:∀{v c f},BC w F v c f->∀k∈f,k<w.heap.size
 |_,_,_,.fv v c h,k,hk=>by cases hk
 |_,_,_,.osl e sz n rows c h,k,hk=>by
  obtain⟨flat,ho,_⟩:=h;exact b7d ho (X1.1 hk)
 |_,_,_,.dsl e sz n rows c flat fs ho hr hn hl,k,hk=>by
  rcases g0Z.1 hk with q|q
  ·exact b7d ho (X1.1 q)
  ·exact BL.lt hr k q
theorem BL.lt {w:World} {F:Nat->Prop}:∀{vs cs f},BL w F vs cs f->∀k∈f,k<w.heap.size
 |_,_,_,.nil,k,hk=>by cases hk
 |_,_,_,.cons v c f vs cs fs h t,k,hk=>by
  rcases g0Z.1 hk with q|q
  ·exact BC.lt h k q
  ·exact BL.lt t k q
end
def RC.notO{w:World}{F D:Nat->Prop}{G:Nat->Nat->Value}{v:V}{c:Value}(h:RC w F D G v c):(∀e sz n rows,v ≠ .osl e sz n rows)/\∀e sz n rows,v ≠ .dsl e sz n rows:=by
 cases h with
 |fv v c h=>cases h<;>exact⟨λ_ _ _ _=>by simp,λ_ _ _ _=>by simp⟩
 |_=>exact⟨λ_ _ _ _=>by simp,λ_ _ _ _=>by simp⟩
def BC.nilO{w:World}{F:Nat->Prop}{v:V}{c:Value}{f:List Nat}(h:BC w F v c f)(hv:(∀e sz n rows,v ≠ .osl e sz n rows)/\∀e sz n rows,v ≠ .dsl e sz n rows):f=[]:=by
 cases h with
 |fv=>rfl
 |osl e sz n rows=>exact absurd rfl (hv.1 e sz n rows)
 |dsl e sz n rows=>exact absurd rfl (hv.2 e sz n rows)
def KC.mono{w w':World}{F F' D D':Nat->Prop}{G ι':Nat->Nat->Value}(hs:M7 w w' F)(hF:∀g,F g->F' g)(hD:∀g,D g->D' g)(hι:∀g j,D g->ι' g j=G g j){v c f}(h:KC w F D G v c f)(hb:∀k∈f,w'.heap[k]?=w.heap[k]?):KC w' F' D' ι' v c f:=by
 cases h with
 |rc h=>exact .rc _ _ (h.mono hs hF hD hι)
 |bc _ h=>exact .bc _ _ _ (h.mono hs hF hb)
def KL.mono{w w':World}{F F' D D':Nat->Prop}{G ι':Nat->Nat->Value}(hs:M7 w w' F)(hF:∀g,F g->F' g)(hD:∀g,D g->D' g)(hι:∀g j,D g->ι' g j=G g j):∀{vs cs f},KL w F D G vs cs f->(∀k∈f,w'.heap[k]?=w.heap[k]?)->KL w' F' D' ι' vs cs f
 |_,_,_,.nil,_=>.nil
 |_,_,_,.cons v c f vs cs fs h t,hb=>.cons v c f vs cs fs (h.mono hs hF hD hι λk hk=>hb k (g0Z.2 (.inl hk))) (KL.mono hs hF hD hι t λk hk=>hb k (g0Z.2 (.inr hk)))
def KC.det{w w':World}{F F' D D':Nat->Prop}{G ι':Nat->Nat->Value}{v c f f'}(h:KC w F D G v c f)(h':KC w' F' D' ι' v c f')(hb:∀k∈f,w'.heap[k]?=w.heap[k]?):f=f':=by
 cases h with
 |rc h=>
  cases h' with
  |rc=>rfl
  |bc _ h'=>exact(h'.nilO h.notO).symm
 |bc _ h=>
  cases h' with
  |rc h'=>exact h.nilO h'.notO
  |bc _ h'=>exact h.det h' hb
def KL.det{w w':World}{F F' D D':Nat->Prop}{G ι':Nat->Nat->Value}:∀{vs cs f f'},KL w F D G vs cs f->KL w' F' D' ι' vs cs f'->(∀k∈f,w'.heap[k]?=w.heap[k]?)->f=f'
 |_,_,_,_,.nil,h',_=>by cases h';rfl
 |_,_,_,_,.cons v c f vs cs fs h t,h',hb=>by
  cases h' with
  |cons _ _ f' _ _ fs' h2 t2=>rw[h.det h2 λk hk=>hb k (g0Z.2 (.inl hk)),KL.det t t2 λk hk=>hb k (g0Z.2 (.inr hk))]
def KL.lt{w:World}{F D:Nat->Prop}{G:Nat->Nat->Value}:∀{vs cs f},KL w F D G vs cs f->∀k∈f,k<w.heap.size
 |_,_,_,.nil,k,hk=>by cases hk
 |_,_,_,.cons v c f vs cs fs h t,k,hk=>by
  rcases g0Z.1 hk with q|q
  ·cases h with
   |rc=>cases q
   |bc _ h=>exact h.lt k q
  ·exact KL.lt t k q
def EB.top{w:World}{e:x8}{c:Value}{k:Nat}(h:E1 c=U k):EB w e c k:=by
 cases e<;>first|exact h|exact .inl h
def EB.deep_iff{w:World}{F D:Nat->Prop}{G:Nat->Nat->Value}{e sz n:Nat}{rows:List (List V)}{c:Value}{flat:List Value}{fs:List Nat}(ho:w.ownsRow 0 e sz c n flat)(hk:KL w F D G rows.flatten flat fs){o:Bool}{k:Nat}:EB w (.deep o e sz n rows) c k↔k∈H5 c++fs:=by
 rw[g0Z,X1];constructor
 ·rintro(h|⟨F',D',ι',flat',fs',ho',hk',h⟩)
  ·exact .inl h
  ·have:=b28 ho ho' (λ_ _=>rfl);subst this;rw[hk.det hk' (λ_ _=>rfl)];exact .inr h
 ·rintro(h|h)
  ·exact .inl h
  ·exact .inr ⟨F,D,G,flat,fs,ho,hk,h⟩
def RE.back{w w':World}{F D:Nat->Prop}{G:Nat->Nat->Value}{e:x8}{c:Value}(h:RE w F D G e c)(hb:∀k,EB w e c k->w'.heap[k]?=w.heap[k]?){k:Nat}(hk:EB w' e c k):EB w e c k:=by
 cases e with
 |deep o e sz n rows=>
  obtain⟨flat,fs,ho,hkl,_⟩:=h;have hb':∀k∈H5 c++fs,w'.heap[k]?=w.heap[k]?:=λk q=>hb k ((EB.deep_iff ho hkl).2 q)
  rcases hk with q|⟨F',D',ι',flat',fs',ho',hk',q⟩
  ·exact .inl q
  ·have:=b28 ho ho' (λk hk=>hb' k (g0Z.2 (.inl (X1.2 hk))));subst this;rw[<-hkl.det hk' λk hk=>hb' k (g0Z.2 (.inr hk))]at q;exact .inr ⟨F,D,G,flat,fs,ho,hkl,q⟩
 |_=>exact hk
def RE.mono{w w':World}{F F' D D':Nat->Prop}{G ι':Nat->Nat->Value}(hs:M7 w w' F)(hF:∀g,F g->F' g)(hD:∀g,D g->D' g)(hι:∀g j,D g->ι' g j=G g j){e:x8}{c:Value}(hb:∀k,e.live=Y->EB w e c k->w'.heap[k]?=w.heap[k]?)(h:RE w F D G e c):RE w' F' D' ι' e c:=by
 cases e with
 |deep o e sz n rows=>
  obtain⟨flat,fs,ho,hkl,hn,hl,hd,hnr⟩:=h;have hb':∀k∈H5 c++fs,w'.heap[k]?=w.heap[k]?:=λk q=>hb k rfl ((EB.deep_iff ho hkl).2 q)
  exact⟨flat,fs,c2n ho (λk hk=>hb' k (g0Z.2 (.inl (X1.2 hk)))),hkl.mono hs hF hD hι λk hk=>hb' k (g0Z.2 (.inr hk)),hn,hl,hd,hnr⟩
 |dead=>trivial
 |var e cs=>
  obtain⟨g,cur,rfl,hg,hc⟩:=h;exact⟨g,cur,rfl,(hb g rfl rfl).trans hg,hc.imp λ_ _ x=>x.mono hs hF hD hι⟩
 |arr e sz n rows=>
  obtain⟨g,cur,rfl,hg,hc,hn,hl⟩:=h;exact⟨g,cur,rfl,(hb g rfl rfl).trans hg,hc.mono hs hF,hn,hl⟩
 |row e sz n rows=>
  obtain⟨flat,ho,hf,hn,hl⟩:=h;exact⟨flat,c2n ho (λk hk=>hb k rfl hk),hf.mono hs hF,hn,hl⟩
 |frz sz n rows=>exact FV.mono hs hF h
 |map t m es=>
  obtain⟨g,arr,clock,rfl,hg,hc⟩:=h;exact⟨g,arr,clock,rfl,(hb g rfl rfl).trans hg,hc⟩
def a2D{w w':World}{F:Nat->Prop}(h:∀g,F g->w'.heap[g]?=w.heap[g]?):M7 w w' F:=by
 intro g o hg;simp[World.cell?,h g hg]
def e8F(a:Act)(dst:Option Tmp)(v:Value):(a.put dst v).tmps.toList=match dst with|some d=>a.tmps.toList.set d v|none=>a.tmps.toList:=by
 cases dst<;>simp[Act.put]
def e3a(a:Act)(dst:Option Tmp)(v:Value):(a.put dst v).defers=a.defers:=by
 cases dst<;>simp[Act.put]
def Z3(t:List V)(dst:Option Nat)(v:V):List V:=
 match dst with
 |some d=>t.set d v
 |none=>t
def B5.put{R:V->Value->Prop}{t:List V}{a:Act}(h:B5 R t a.tmps.toList)(dst:Option Nat){v:V}{c:Value}(hv:R v c):B5 R (Z3 t dst v) (a.put dst c).tmps.toList:=by
 rw[e8F];cases dst with
 |none=>exact h
 |some d=>exact h.set d hv
def St.lay(S:St)(grp:Nat)(new:List x8):St:={S with h:=S.h.set grp (U new)}
def St.setE(S:St)(g j:Nat)(e:x8):St:=
 match S.h[g]? with
 |some (U l)=>{S with h:=S.h.set g (U (l.set j e))}
 |_=>S
def St.upds(S:St):List ((Nat×Nat)×x8)->St
 | []=>S
 | ((g,j),e)::us=>(S.setE g j e).upds us
def a82{S:St}{grp:Nat}{new:List x8}{g j:Nat}(h:g≠grp):(S.lay grp new).ent g j=S.ent g j:=by
 simp[St.lay,St.ent,g1k (Ne.symm h)]
def e0r{S:St}{grp:Nat}{new:List x8}{j:Nat}(h:grp<(O S.h)):(S.lay grp new).ent grp j=new[j]?:=by
 simp[St.lay,St.ent,h]
def b97{S:St}{grp:Nat}{new:List x8}{g:Nat}(h:S.D g):(S.lay grp new).D g:=by
 obtain⟨l,hl⟩:=h;by_cases e:g=grp
 ·subst e;exact⟨new,by simp[St.lay,(g06.1 hl).1]⟩
 ·exact⟨l,by simp[St.lay,g1k (Ne.symm e),hl]⟩
def a11{S:St}{grp:Nat}{new:List x8}(h:grp<(O S.h)):(S.lay grp new).D grp:=⟨new,by simp[St.lay,h]⟩
def a4s{S:St}{g j:Nat}{e:x8}{l:List x8}(hl:S.h[g]?=U (U l)):S.setE g j e={S with h:=S.h.set g (U (l.set j e))}:=by
 unfold St.setE;rw[hl]
def a3p{S:St}{g j:Nat}{l:List x8}(hl:S.h[g]?=U (U l)):S.ent g j=l[j]?:=by
 unfold St.ent;rw[hl]
def W5{S:St}{g j:Nat}{e e0:x8}(h:S.ent g j=U e0)(g' j':Nat):(S.setE g j e).ent g' j'=if g'=g/\j'=j then U e else S.ent g' j':=by
 obtain⟨l,hl⟩:=St.D_of_ent h;rw[a3p hl]at h;have hlt:=(g06.1 hl).1;have hj:=(g06.1 h).1;rw[a4s hl];by_cases hg:g'=g
 ·subst hg;rw[a3p (S:={S with h:=S.h.set g' (U (l.set j e))}) (l:=l.set j e) (by simp[hlt]),a3p hl];by_cases hjj:j'=j
  ·subst hjj;simp[hj]
  ·simp[hjj,g1k (Ne.symm hjj)]
 ·simp[St.ent,hg,g1k (Ne.symm hg)]
def W6{S:St}{g j:Nat}{e:x8}{g':Nat}:(S.setE g j e).D g'↔S.D g':=by
 unfold St.setE;split
 ·rename_i l hl;by_cases hg:g'=g
  ·subst hg;constructor
   ·intro _;exact⟨l,hl⟩
   ·intro _;exact⟨l.set j e,by simp[(g06.1 hl).1]⟩
  ·simp[St.D,g1k (Ne.symm hg)]
 ·rfl
def a85{S:St}{g j:Nat}{e:x8}:(S.setE g j e).t=S.t:=by
 unfold St.setE;split<;>rfl
def b1x{S:St}{g j:Nat}{e:x8}:(S.setE g j e).h.length=(O S.h):=by
 unfold St.setE;split<;>simp
section
variable {J:U2} {F:Nat->Prop} {G:Nat->Nat->Value} {S:St} {a:Act} {w:World}
def A2.put(h:A2 J F G S a w)(dst:Option Nat){v:V}{c:Value}(hv:RV w F S.D G v c):A2 J F G {S with t:=Z3 S.t dst v} (a.put dst c) w where
 F0:=h.F0
 F1:=h.F1
 F2:=h.F2
 kept:=h.kept
 tmps:=B5.put h.tmps dst hv
 ents:=h.ents
 sep:=h.sep
 inj:=h.inj
 defers:=by rw[e3a];exact h.defers
 pins:=h.pins
def RE.lt{F D:Nat->Prop}{e:x8}{c:Value}(hr:RE w F D G e c)(hl:e.live=Y){k:Nat}(hk':EB w e c k):k<w.heap.size:=by
 cases e with
 |dead=>cases hl
 |frz sz n rows=>cases hl
 |var e cs=>
  obtain⟨g',cur,hc,hg,_⟩:=hr;have hk':E1 c=U k:=hk';rw[hc]at hk';simp[E1]at hk';subst hk';exact(Array.getElem?_eq_some_iff.1 hg).1
 |arr e sz n rows=>
  obtain⟨g',cur,hc,hg,_⟩:=hr;have hk':E1 c=U k:=hk';rw[hc]at hk';simp[E1]at hk';subst hk';exact(Array.getElem?_eq_some_iff.1 hg).1
 |row e sz n rows=>
  obtain⟨flat,ho,_⟩:=hr;exact b7d ho hk'
 |deep o e sz n rows=>
  obtain⟨flat,fs,ho,hkl,_⟩:=hr;rcases g0Z.1 ((EB.deep_iff ho hkl).1 hk')with q|q
  ·exact b7d ho (X1.1 q)
  ·exact hkl.lt k q
 |map t m es=>
  obtain⟨g',arr,clock,hc,hg,_⟩:=hr;have hk':E1 c=U k:=hk';rw[hc]at hk';simp[E1]at hk';subst hk';exact(Array.getElem?_eq_some_iff.1 hg).1
def A2.lt(h:A2 J F G S a w){g j:Nat}{e:x8}{k:Nat}(he:S.ent g j=U e)(hl:e.live=Y)(hk':EB w e (G g j) k):k<w.heap.size:=(h.ents g j e he).lt hl hk'
def A2.world(h:A2 J F G S a w){w':World}(hk:w'.os=w.os/\w'.tape=w.tape/\w'.output=w.output)(hsz:w.heap.size<=w'.heap.size)(hb:∀k,k<w.heap.size->w'.heap[k]?=w.heap[k]?):A2 J F G S a w':=by
  have hs:M7 w w' F:=a2D λg hg=>hb g (h.F1 g hg)
  have hbk:∀g j e,S.ent g j=U e->e.live=Y->∀k,EB w e (G g j) k->w'.heap[k]?=w.heap[k]?:=λg j e he hl k hk'=>hb k (h.lt he hl hk')
  exact
    { F0:=h.F0
      F1:=λg hg=>g2m (h.F1 g hg) hsz
      F2:=h.F2
      kept:=⟨hk.1.trans h.kept.os,hk.2.1.trans h.kept.tape,hk.2.2.trans h.kept.output,g1C h.kept.size hsz,λk hk' hn=>(hb k (g2m hk' h.kept.size)).trans (h.kept.block k hk' hn)⟩
      tmps:=h.tmps.imp λ_ _ x=>x.mono hs (λ_ y=>y) (λ_ y=>y) (λ_ _ _=>rfl)
      ents:=λg j e he=>(h.ents g j e he).mono hs (λ_ y=>y) (λ_ y=>y) (λ_ _ _=>rfl) (λk hl hk'=>hbk g j e he hl k hk')
      sep:=λg j e k he hl hk'=>h.sep g j e k he hl ((h.ents g j e he).back (hbk g j e he hl) hk')
      inj:=λg j e g' j' e' k he he' hl hl' hk1 hk2=>h.inj g j e g' j' e' k he he' hl hl' ((h.ents g j e he).back (hbk g j e he hl) hk1) ((h.ents g' j' e' he').back (hbk g' j' e' he' hl') hk2)
      defers:=h.defers
      pins:=h.pins}
def A2.lay(h:A2 J F G S a w){grp:Nat}(hg:grp<(O S.h))(hn:¬S.D grp){new:List x8}{ι':Nat->Nat->Value}(hι:∀g j,g≠grp->ι' g j=G g j)(hnew:∀j e,new[j]?=U e->RE w F (S.lay grp new).D ι' e (ι' grp j))(hsep:∀j e k,new[j]?=U e->e.live=Y->EB w e (ι' grp j) k->¬F k/\(J.own k\/J.w0.heap.size<=k))(hin:∀j e j' e' k,new[j]?=U e->new[j']?=U e'->e.live=Y->e'.live=Y->EB w e (ι' grp j) k->EB w e' (ι' grp j') k->j=j')(hout:∀j e g' j' e' k,new[j]?=U e->S.ent g' j'=U e'->e.live=Y->e'.live=Y->EB w e (ι' grp j) k->¬EB w e' (G g' j') k) :
    A2 J F ι' (S.lay grp new) a w:=by
  have hne:∀g,S.D g->g≠grp:=λg hg' e=>hn (e▸hg')
  have hD:∀g,S.D g->(S.lay grp new).D g:=λg x=>b97 x
  have hi:∀g j,S.D g->ι' g j=G g j:=λg j x=>hι g j (hne g x)
  have hs:M7 w w F:=λ_ _ _=>rfl
  have old:∀g j e,(S.lay grp new).ent g j=U e->(g=grp/\new[j]?=U e)\/(g≠grp/\S.ent g j=U e):=by
    intro g j e he;by_cases q:g=grp
    . subst q;rw[e0r hg]at he;exact .inl ⟨rfl,he⟩
    . rw[a82 q]at he;exact .inr ⟨q,he⟩
  exact
    { F0:=h.F0,F1:=h.F1,F2:=h.F2,kept:=h.kept
      tmps:=h.tmps.imp λ_ _ x=>x.mono hs (λ_ y=>y) hD hi
      ents:=λg j e he=>by
        rcases old g j e he with⟨rfl,hx⟩|⟨q,hx⟩
        . exact hnew j e hx
        . rw[hι g j q];exact(h.ents g j e hx).mono hs (λ_ y=>y) hD hi (λ_ _ _=>rfl)
      sep:=λg j e k he hl hk=>by
        rcases old g j e he with⟨rfl,hx⟩|⟨q,hx⟩
        . exact hsep j e k hx hl hk
        . rw[hι g j q]at hk;exact h.sep g j e k hx hl hk
      inj:=λg j e g' j' e' k he he' hl hl' hk hk'=>by
        rcases old g j e he with⟨q1,hx⟩|⟨q,hx⟩
        . rcases old g' j' e' he' with⟨q2,hy⟩|⟨q',hy⟩
          . subst q1;subst q2;exact⟨rfl,hin j e j' e' k hx hy hl hl' hk hk'⟩
          . rw[hι g' j' q']at hk';subst q1;exact absurd hk' (hout j e g' j' e' k hx hy hl hl' hk)
        . rw[hι g j q]at hk;rcases old g' j' e' he' with⟨q2,hy⟩|⟨q',hy⟩
          . subst q2;exact absurd hk (hout j' e' g j e k hy hx hl' hl hk')
          . rw[hι g' j' q']at hk';exact h.inj g j e g' j' e' k hx hy hl hl' hk hk'
      defers:=h.defers
      pins:=λj c hc=>⟨hD _ (h.pins j c hc).1,(hi 0 j (h.pins j c hc).1).trans (h.pins j c hc).2⟩}
def A2.write(h:A2 J F G S a w){g j:Nat}{e e':x8}(he:S.ent g j=U e)(hl:e.live=Y){w':World}(hk:w'.os=w.os/\w'.tape=w.tape/\w'.output=w.output)(hsz:w'.heap.size=w.heap.size)(hb:∀k,¬EB w e (G g j) k->w'.heap[k]?=w.heap[k]?)(hn:M7 w w' F->RE w' F (S.setE g j e').D G e' (G g j))(hin:∀k,EB w' e' (G g j) k->EB w e (G g j) k):A2 J F G (S.setE g j e') a w':=by
  have hs:M7 w w' F:=a2D λk hF=>hb k λq=>(h.sep g j e k he hl q).1 hF
  have hD:∀k,S.D k->(S.setE g j e').D k:=λk x=>W6.2 x
  have hoth:∀g' j' e'',S.ent g' j'=U e''->e''.live=Y->¬(g'=g/\j'=j)->∀k,EB w e'' (G g' j') k->w'.heap[k]?=w.heap[k]?:=λg' j' e'' he'' hl'' q k a3n=>hb k λq'=>q (h.inj g' j' e'' g j e k he'' he hl'' hl a3n q')
  exact
    { F0:=h.F0
      F1:=λk hF=>hsz▸h.F1 k hF
      F2:=h.F2
      kept:=⟨hk.1.trans h.kept.os,hk.2.1.trans h.kept.tape,hk.2.2.trans h.kept.output,hsz▸h.kept.size,λk hk' hno=>by
        rw[hb k λq => ?_]
        . exact h.kept.block k hk' hno
        . rcases(h.sep g j e k he hl q).2 with x|x
          . exact hno x
          . omega⟩
      tmps:=by rw[a85];exact h.tmps.imp λ_ _ x=>x.mono hs (λ_ y=>y) hD (λ_ _ _=>rfl)
      ents:=λg' j' e'' he''=>by
        rw[W5 he]at he'';split at he''
        . rename_i q;obtain⟨rfl,rfl⟩:=q;injection he'' with he'';subst he'';exact hn hs
        . rename_i q;exact(h.ents g' j' e'' he'').mono hs (λ_ y=>y) hD (λ_ _ _=>rfl) λk hl'' a3n=>hoth g' j' e'' he'' hl'' q k a3n
      sep:=λg' j' e'' k he'' hl'' a3n=>by
        rw[W5 he]at he'';split at he''
        . rename_i q;obtain⟨rfl,rfl⟩:=q;injection he'' with he'';subst he'';exact h.sep g' j' e k he hl (hin k a3n)
        . rename_i q;exact h.sep g' j' e'' k he'' hl'' ((h.ents g' j' e'' he'').back (hoth g' j' e'' he'' hl'' q) a3n)
      inj:=λg1 j1 e1 g2 j2 e2 k h1 h2 l1 l2 k1 k2=>by
        rw[W5 he]at h1 h2;split at h1<;>split at h2
        . rename_i q1 q2;exact⟨q1.1.trans q2.1.symm,q1.2.trans q2.2.symm⟩
        . rename_i q1 q2;obtain⟨rfl,rfl⟩:=q1;injection h1 with h1;subst h1;exact h.inj g1 j1 e g2 j2 e2 k he h2 hl l2 (hin k k1) ((h.ents g2 j2 e2 h2).back (hoth g2 j2 e2 h2 l2 q2) k2)
        . rename_i q1 q2;obtain⟨rfl,rfl⟩:=q2;injection h2 with h2;subst h2;exact h.inj g1 j1 e1 g2 j2 e k h1 he l1 hl ((h.ents g1 j1 e1 h1).back (hoth g1 j1 e1 h1 l1 q1) k1) (hin k k2)
        . rename_i q1 q2;exact h.inj g1 j1 e1 g2 j2 e2 k h1 h2 l1 l2 ((h.ents g1 j1 e1 h1).back (hoth g1 j1 e1 h1 l1 q1) k1) ((h.ents g2 j2 e2 h2).back (hoth g2 j2 e2 h2 l2 q2) k2)
      defers:=h.defers
      pins:=λj c hc=>⟨hD _ (h.pins j c hc).1,(h.pins j c hc).2⟩}
def A2.kill(h:A2 J F G S a w){g j:Nat}{e:x8}(he:S.ent g j=U e):A2 J F G (S.setE g j .dead) a w:=by
  have hD:∀k,S.D k->(S.setE g j .dead).D k:=λk x=>W6.2 x
  have hs:M7 w w F:=λ_ _ _=>rfl
  have old:∀g' j' e',(S.setE g j .dead).ent g' j'=U e'->e'=.dead\/S.ent g' j'=U e':=by
    intro g' j' e' h';rw[W5 he]at h';split at h'
    . injection h' with h';exact .inl h'.symm
    . exact .inr h'
  exact
    { F0:=h.F0,F1:=h.F1,F2:=h.F2,kept:=h.kept
      tmps:=by rw[a85];exact h.tmps.imp λ_ _ x=>x.mono hs (λ_ y=>y) hD (λ_ _ _=>rfl)
      ents:=λg' j' e' h'=>by
        rcases old g' j' e' h' with rfl|h'
        . trivial
        . exact(h.ents g' j' e' h').mono hs (λ_ y=>y) hD (λ_ _ _=>rfl) (λ_ _ _=>rfl)
      sep:=λg' j' e' k h' hl hk=>by
        rcases old g' j' e' h' with rfl|h'
        . cases hl
        . exact h.sep g' j' e' k h' hl hk
      inj:=λg1 j1 e1 g2 j2 e2 k h1 h2 l1 l2 k1 k2=>by
        rcases old g1 j1 e1 h1 with rfl|h1
        . cases l1
        . rcases old g2 j2 e2 h2 with rfl|h2
          . cases l2
          . exact h.inj g1 j1 e1 g2 j2 e2 k h1 h2 l1 l2 k1 k2
      defers:=h.defers
      pins:=λj c hc=>⟨hD _ (h.pins j c hc).1,(h.pins j c hc).2⟩}
def A2.freeze(h:A2 J F G S a w){g j e sz n:Nat}{rows:List (List V)}(he:S.ent g j=U (.row e sz n rows)) :
    ∃F',(∀k,F k->F' k)/\(∀k,F' k->F k\/E1 (G g j)=U k)/\A2 J F' G (S.setE g j (.frz sz n rows)) a w:=by
  have hD:∀k,S.D k->(S.setE g j (.frz sz n rows)).D k:=λk x=>W6.2 x
  have hF:∀k,F k->F k\/E1 (G g j)=U k:=λ_ x=>.inl x
  have hs:M7 w w F:=λ_ _ _=>rfl
  refine⟨λk=>F k\/E1 (G g j)=U k,hF,λ_ x=>x,?_⟩;have old:∀g' j' e',(S.setE g j (.frz sz n rows)).ent g' j'=U e'->(g'=g/\j'=j/\e'=.frz sz n rows)\/(¬(g'=g/\j'=j)/\S.ent g' j'=U e'):=by
    intro g' j' e' h';rw[W5 he]at h';split at h'
    . rename_i q;injection h' with h';exact .inl ⟨q.1,q.2,h'.symm⟩
    . rename_i q;exact .inr ⟨q,h'⟩
  exact
    { F0:=λk x=>.inl (h.F0 k x)
      F1:=λk x=>x.elim (h.F1 k) λy=>h.lt he rfl y
      F2:=λk x=>x.elim (h.F2 k) λy=>.inr (h.sep g j _ k he rfl y).2
      kept:=h.kept
      tmps:=by rw[a85];exact h.tmps.imp λ_ _ x=>x.mono hs hF hD (λ_ _ _=>rfl)
      ents:=λg' j' e' h'=>by
        rcases old g' j' e' h' with⟨rfl,rfl,rfl⟩|⟨_,h'⟩
        . obtain⟨flat,ho,hf,hn,hl⟩:=h.ents _ _ _ he;rcases ho.2 with⟨hv,h0⟩|⟨g0,cap,cur,hv,_,hg,hnc,hcm,hcs,ht⟩
          . rw[hv];subst h0;have:rows=[]:=g1c hn;subst this;exact .sl0 sz Z 0
          . rw[hv];refine .sl sz n rows g0 0 cap flat (.inr rfl) (hf.mono hs λk x=>.inl x) hn hl hnc ?_;intro j u hu;rw[cell_of_row w g0 (0+j) cur e (0,0) hg,g1U];rw[<-ht,g2u]at hu;split at hu
            . simpa using hu
            . cases hu
        . exact(h.ents g' j' e' h').mono hs hF hD (λ_ _ _=>rfl) (λ_ _ _=>rfl)
      sep:=λg' j' e' k h' hl hk=>by
        rcases old g' j' e' h' with⟨rfl,rfl,rfl⟩|⟨q,h'⟩
        . cases hl
        . obtain⟨x,y⟩:=h.sep g' j' e' k h' hl hk;exact⟨λz=>z.elim x λz=>q (h.inj g' j' e' g j _ k h' he hl rfl hk z),y⟩
      inj:=λg1 j1 e1 g2 j2 e2 k h1 h2 l1 l2 k1 k2=>by
        rcases old g1 j1 e1 h1 with⟨rfl,rfl,rfl⟩|⟨_,h1⟩
        . cases l1
        . rcases old g2 j2 e2 h2 with⟨rfl,rfl,rfl⟩|⟨_,h2⟩
          . cases l2
          . exact h.inj g1 j1 e1 g2 j2 e2 k h1 h2 l1 l2 k1 k2
      defers:=h.defers
      pins:=λj c hc=>⟨hD _ (h.pins j c hc).1,(h.pins j c hc).2⟩}
end
structure TF(P:Program)(t:Nat)(ti:TI)(i:TypeInfo)(d:TypeDesc)(z:Value):Prop where
 info:P.info? t=U i
 und:P.underlying t=U d
 zero:i.zero=U z
 size:i.size=ti.size
 bytes:i.bytes=ti.bytes
 zeros:z.cells.toList.map V.ofCell=ti.zero
 one:∀c∈z.cells.toList,c.oneCell'=Y
 agg:a7t d=ti.agg
 sl:dSl d=ti.sl
 arr:a8A d=ti.arr
 ik:a64 d=ti.ik
 fs:dFs d=ti.fs
 str:a8f d=ti.str
 ptr:d6g d=ti.ptr
 bl:dBl d=ti.bl
def Cx.tf(cx:Cx){t:Nat}{ti:TI}(h:cx.T t=U ti):∃i d z,TF cx.P t ti i d z:=by
 have:=cx.hT t ti h;unfold J1 at this;split at this
 ·rename_i i d hi hd;split at this
  ·rename_i z hz;split at this
   ·rename_i h1;injection this with this;subst this;exact⟨i,d,z,hi,hd,hz,rfl,rfl,rfl,λc hc=>Array.all_eq_true_iff_forall_mem.1 h1 c (by simpa using hc),rfl,rfl,rfl,rfl,rfl,rfl,rfl,rfl⟩
   ·cases this
  ·cases this
 ·cases this
section
variable {P:Program} {t:Nat} {ti:TI} {i:TypeInfo} {d:TypeDesc} {z:Value} {w:World}
def TF.sizeOf(h:TF P t ti i d z):(sizeOf t).run P w=.ok ti.size w:=by
 simp[Go.sizeOf,typeInfo,h.info,h.size]
def TF.zeroValue(h:TF P t ti i d z):(zeroValue t).run P w=.ok z w:=by
 simp[Go.zeroValue,typeInfo,h.info,h.zero]
def TF.isAgg(h:TF P t ti i d z):(isAgg t).run P w=.ok ti.agg w:=by
 have ha:=h.agg;unfold Go.isAgg;rw[Sem.run_bind,run_underlying h.und w];cases d<;>simp_all [a7t,dSl,a8A,a64,dFs,a8f]
def TF.underlying(h:TF P t ti i d z):(underlying t).run P w=.ok d w:=run_underlying h.und w
def TF.isSl(h:TF P t ti i d z){e:Nat}(hs:ti.sl=U e):d=.slice e:=by
 have:=h.sl;rw[hs]at this;cases d<;>simp_all [a7t,dSl,a8A,a64,dFs,a8f]
def TF.isArr(h:TF P t ti i d z){n e:Nat}(hs:ti.arr=U (n,e)):d=.array n e:=by
 have:=h.arr;rw[hs]at this;cases d<;>simp_all [a7t,dSl,a8A,a64,dFs,a8f]
def TF.isInt(h:TF P t ti i d z){k:IntKind}(hs:ti.ik=U k):d=.int k:=by
 have:=h.ik;rw[hs]at this;cases d<;>simp_all [a7t,dSl,a8A,a64,dFs,a8f]
def TF.isStruct(h:TF P t ti i d z){l:List (Nat×Nat)}(hs:ti.fs=U l):∃fs:Array Field,d=.struct fs/\fs.toList.map (λf=>(f.offset,f.type))=l:=by
 have:=h.fs;rw[hs]at this;cases d<;>simp_all [a7t,dSl,a8A,a64,dFs,a8f]
def TF.isBl(h:TF P t ti i d z)(hs:ti.bl=Y):d=.bool:=by
 have:=h.bl;rw[hs]at this;cases d<;>simp_all [dBl]
def TF.isStr(h:TF P t ti i d z)(hs:ti.str=Y):d=.string:=by
 have:=h.str;rw[hs]at this;cases d<;>simp_all [a7t,dSl,a8A,a64,dFs,a8f]
end
def a4z(g o n:Nat):(⟨g,o,Z⟩:Addr).add n=⟨g,o+n,Z⟩:=by
 unfold Addr.add;split<;>simp_all
def e1F{P:Program}{w:World}{g o:Nat}{ds:List Value}(h:T8 w g o ds):(loadCells ⟨g,o,Z⟩ (O ds)).run P w=.ok ds.toArray w:=
 run_loadCells_list (P:=P) w ⟨g,o,Z⟩ ds (λj v hv=>by rw[a4z];exact h j v hv)
def e8J{P:Program}{w:World}{g o:Nat}{c:Value}(h:w.cell? ⟨g,o,Z⟩=U c):(load ⟨g,o,Z⟩).run P w=.ok c w:=by
 simp[load,Sem.run,h]
def b15(ti:TI)(ds:List Value):Option Value:=
 if ti.agg then if ti.size<=(O ds)then U (.agg (ds.take ti.size).toArray)else Z else ds[0]?
def d8E{P:Program}{t:Nat}{ti:TI}{i:TypeInfo}{d:TypeDesc}{z:Value}{w:World}(h:TF P t ti i d z){g o:Nat}{ds:List Value}(hs:T8 w g o ds){c:Value}(hc:b15 ti ds=U c) :
  (loadVar t ⟨g,o,Z⟩).run P w=.ok c w:=by
 unfold b15 at hc;unfold loadVar;simp only[Sem.run_bind,h.isAgg,Result.andThen_ok];by_cases ha:ti.agg=Y
 ·rw[if_pos ha]at hc;rw[if_pos ha];split at hc
  ·rename_i hle;injection hc with hc;have:=e1F (P:=P) (hs.take ti.size);rw[g1l,Nat.min_eq_left hle]at this;simp[Sem.run_bind,h.sizeOf,this,hc]
  ·cases hc
 ·rw[if_neg ha]at hc;rw[if_neg ha];exact e8J (by simpa using hs 0 c hc)
def RC.one{w:World}{F D:Nat->Prop}{G:Nat->Nat->Value}{v:V}{c:Value}(h:RC w F D G v c):c.oneCell'=Y:=by
 cases h with
 |fv v c h=>cases h<;>first|rfl|assumption
 |_=>rfl
section
variable {w:World} {F D:Nat->Prop} {G:Nat->Nat->Value} {t:List V} {a:Act}
def RV.ofFL{cs:List V}{ds:List Value}(h:FL w F cs ds):RV w F D G (.agg cs) (.agg ds.toArray):=
 .one _ _ (.agg _ _ (h.all2.imp λ_ _ x=>.fv _ _ x))
def RV.cell{v:V}{c:Value}(h:RC w F D G v c):RV w F D G v c:=.one _ _ (.cell _ _ h)
def RV.fv{v:V}{c:Value}(h:FV w F v c):RV w F D G v c:=.one _ _ (.cell _ _ (.fv _ _ h))
def e1s(c:Value):RV w F D G (c2P c) c:=by
 unfold c2P;split
 ·rename_i cs;split
  ·rename_i h;have:=RV.ofFL (D:=D) (G:=G) (FL.ofCells (w:=w) (F:=F) cs.toList λc hc=>Array.all_eq_true_iff_forall_mem.1 h c (by simpa using hc));simpa using this
  ·exact .any _
 ·rename_i v hv;split
  ·rename_i h;exact .fv (.ofCell _ h)
  ·exact .any _
def H6(h:B5 (RV w F D G) t a.tmps.toList)(x:Operand):RV w F D G (z6 t x) (a.eval x):=by
 cases x with
 |tmp k=>
  simp only[z6,Act.eval];rw[g1f];cases hk:t[k]? with
  |none=>exact .any _
  |some v=>
   obtain⟨c,hc,hv⟩:=h.get hk;have:a.tmps.getD k undef=c:=by
    rw[Array.getD_eq_getD_getElem?];rw[Array.getElem?_toList]at hc;rw[hc];rfl
   rw[this];exact hv
 |const v=>exact e1s v
 |global g=>exact .any _
 |func f=>exact .fv (.fn f)
def RV.inv_b{x:Bool}{c:Value}(h:RV w F D G (.b x) c):c=.bool x:=by
 cases h with
 |one v c h=>cases h with
  |cell v c h=>cases h with
   |fv v c h=>cases h;rfl
def RV.inv_i{k:IntKind}{n:Int}{c:Value}(h:RV w F D G (.i k n) c):c=.int k n:=by
 cases h with
 |one v c h=>cases h with
  |cell v c h=>cases h with
   |fv v c h=>cases h;rfl
def RV.inv_s{x:ByteArray}{c:Value}(h:RV w F D G (.s x) c):c=.string x:=by
 cases h with
 |one v c h=>cases h with
  |cell v c h=>cases h with
   |fv v c h=>cases h;rfl
def RV.inv_fn{f:FuncId}{c:Value}(h:RV w F D G (.fn f) c):c=.func (.func f) #[] #[]:=by
 cases h with
 |one v c h=>cases h with
  |cell v c h=>cases h with
   |fv v c h=>cases h;rfl
def RV.inv_nil{c:Value}(h:RV w F D G .nil c):c=.slice Z 0 0:=by
 cases h with
 |one v c h=>cases h with
  |cell v c h=>cases h with
   |fv v c h=>cases h;rfl
def RV.inv_sl{sz n:Nat}{rows:List (List V)}{c:Value}(h:RV w F D G (.sl sz n rows) c):FV w F (.sl sz n rows) c:=by
 cases h with
 |one v c h=>cases h with
  |cell v c h=>cases h with
   |fv v c h=>exact h
def RV.inv_agg{cs:List V}{c:Value}(h:RV w F D G (.agg cs) c):∃ds:List Value,c=.agg ds.toArray/\B5 (RC w F D G) cs ds:=by
 cases h with
 |one v c h=>cases h with
  |cell v c h=>cases h with
   |fv v c h=>cases h
  |agg cs ds h=>exact⟨ds,rfl,h⟩
def RV.inv_tup{cs:List V}{c:Value}(h:RV w F D G (.tup cs) c):∃ds:List Value,c=.tuple ds.toArray/\B5 (RA w F D G) cs ds:=by
 cases h with
 |one v c h=>cases h with
  |cell v c h=>cases h with
   |fv v c h=>cases h
 |tup cs ds h=>exact⟨ds,rfl,h⟩
def RV.inv_own{g j sz lo n:Nat}{c:Value}(h:RV w F D G (.own g j sz lo n) c):D g/\((∃b nn cap,G g j=.slice b nn cap/\lo+n<=cap/\(b=Z->cap=0)/\(∀ad,b=U ad->ad=⟨ad.block,0,Z⟩)/\c=.slice (if cap=lo then b else b.map (·.add (lo*sz))) n (cap-lo))\/(0<lo/\n=0/\∃b cap,c=.slice b 0 cap)):=by
 cases h with
 |one v c h=>cases h with
  |cell v c h=>cases h with
   |fv v c h=>cases h
   |own g j sz lo n b nn cap h1 h2 h3 h4 h5=>exact⟨h1,.inl ⟨b,nn,cap,h2,h3,h4,h5,rfl⟩⟩
   |own0 g j sz lo b cap h1 h2=>exact⟨h1,.inr ⟨h2,rfl,b,cap,rfl⟩⟩
def RV.inv_ptr{g j off:Nat}{c:Value}(h:RV w F D G (.ptr g j off) c):D g/\∃b,G g j=.pointer (U ⟨b,0,Z⟩)/\c=.pointer (U ⟨b,off,Z⟩):=by
 cases h with
 |one v c h=>cases h with
  |cell v c h=>cases h with
   |fv v c h=>cases h
   |ptr g j off b h1 h2=>exact⟨h1,b,h2,rfl⟩
def RV.inv_eptr{g j sz idx off:Nat}{c:Value}(h:RV w F D G (.eptr g j sz idx off) c):D g/\∃b,E1 (G g j)=U b/\c=.pointer (U ⟨b,idx*sz+off,Z⟩):=by
 cases h with
 |one v c h=>cases h with
  |cell v c h=>cases h with
   |fv v c h=>cases h
   |eptr g j sz idx off b h1 h2=>exact⟨h1,b,h2,rfl⟩
def RV.inv_fptr{cs:List V}{c:Value}(h:RV w F D G (.fptr cs) c):∃g o ds,F g/\FL w F cs ds/\T8 w g o ds/\c=.pointer (U ⟨g,o,Z⟩):=by
 cases h with
 |one v c h=>cases h with
  |cell v c h=>cases h with
   |fv v c h=>cases h
   |fptr cs g o ds h1 h2 h3=>exact⟨g,o,ds,h1,h2,h3,rfl⟩
def RV.cells{v:V}{c:Value}(h:RV w F D G v c){cs:List V}(hc:v.cells=U cs):B5 (RC w F D G) cs c.cells.toList:=by
 cases h with
 |one v c h=>cases h with
  |cell v c h=>
   have h1:c.cells.toList=[c]:=by
    have:=h.one;cases c<;>first|rfl|(simp[Value.oneCell']at this)
   rw[h1];have:cs=[v]:=by
    cases h with
    |fv v c h=>cases h<;>simp_all [V.cells]
    |_=>simp_all [V.cells]
   rw[this];exact .cons h .nil
  |agg cs' ds h=>
   simp[V.cells]at hc;subst hc;exact h
 |tup cs ds h=>simp[V.cells]at hc
 |any c=>simp[V.cells]at hc
def RA.toRV{v:V}{c:Value}(h:RA w F D G v c):RV w F D G v c:=.one _ _ h
end
def c6d(vs:List Value):∀(j off:Nat) (cs:Array Value),off+j+(O vs)<=cs.size->
  ((vs.zipIdx j).foldl (λ(cs:Array Value) (x:Value×Nat)=>cs.setIfInBounds (off+x.2) x.1) cs).toList=C7 cs.toList (off+j) vs:=by
 induction vs with
 |nil=>intro j off cs h;simp[C7]
 |cons v vs ih=>
  intro j off cs h;simp only[List.zipIdx_cons,g2L];rw[ih (j+1) off _ (by simp at h⊢;omega)];simp only[C7,Array.toList_setIfInBounds];simp at h;apply List.ext_getElem?;intro k;simp only[g2T,g08,g1l,g2b,g2u,g2l,g2q,g1G,Array.length_toList];by_cases h1:k<off+j
  ·simp[show k<min (off+j) cs.size by omega,show k<min (off+j) cs.size+((O vs)+1) by omega,show k<min (off+(j+1)) cs.size+(O vs) by omega,show k<min (off+(j+1)) cs.size by omega,h1,show k<off+(j+1) by omega,show ¬off+j=k by omega]
  ·by_cases h2:k=off+j
   ·subst h2;simp[show off+j<cs.size by omega,show off+j<min (off+(j+1)) cs.size by omega,show min (off+j) cs.size=off+j by omega,show off+j<min (off+(j+1)) cs.size+(O vs) by omega]
   ·by_cases h3:k<off+j+((O vs)+1)
    ·have e1:min (off+j) cs.size=off+j:=by omega
     have e2:min (off+(j+1)) cs.size=off+(j+1):=by omega
     simp[e1,e2,h1,show k<off+j+((O vs)+1) by omega,show k<off+(j+1)+(O vs) by omega,show ¬k<off+(j+1) by omega];rw[show k-(off+j)=(k-(off+(j+1)))+1 by omega,g19]
    ·have e1:min (off+j) cs.size=off+j:=by omega
     have e2:min (off+(j+1)) cs.size=off+(j+1):=by omega
     simp[e1,e2,h1,h3,show ¬k<off+j+((O vs)+1) by omega,show ¬k<off+(j+1)+(O vs) by omega,show ¬k<off+(j+1) by omega];rw[if_neg (by omega)];congr 1
     omega
def B5.splice{R:V->Value->Prop}{cs vs:List V}{ds us:List Value}(h:B5 R cs ds)(k:B5 R vs us)(off:Nat):B5 R (C7 cs off vs) (C7 ds off us):=by
 unfold C7;rw[k.length];exact((h.take off).append k).append (h.drop _)
def c9Z{w:World}{F D:Nat->Prop}{G:Nat->Nat->Value}{a51:Nat->Option (Nat×Nat)}:∀{ps:List (Nat×V)} {qs:List (Nat×Value)} {a2x:List V} {ds:Array Value} {out:List V},
  B5 (λ(x:Nat×V) (y:Nat×Value)=>x.1=y.1/\RV w F D G x.2 y.2) ps qs->B5 (RC w F D G) a2x ds.toList->b09 a51 a2x ps=U out->
  ∃es:Array Value,Instr.fill a51 ds qs=U es/\B5 (RC w F D G) out es.toList
 | [],_,a2x,ds,out,.nil,hc,h=>by
  simp[b09]at h;subst h;exact⟨ds,rfl,hc⟩
 | (i,v)::ps,(j,u)::qs,a2x,ds,out,.cons ⟨hij,hv⟩ t,hc,h=>by
  simp only at hij;subst hij;simp only[b09]at h;split at h
  ·cases h
  ·rename_i off size hp;split at h
   ·rename_i cs hcs;split at h
    ·rename_i hle;have hcell:=hv.cells hcs;have hlen:u.cells.size=size:=by
      have:=hcell.length;rw[<-hle.1,this];simp
     have hsz:(O a2x)=ds.size:=by simpa using hc.length
     have hout:=c6d u.cells.toList 0 off ds (by simp only[Array.length_toList];omega);obtain⟨es,he,hr⟩:=c9Z (ds:=(u.cells.toList.zipIdx.foldl (λ(cs:Array Value) (x:Value×Nat)=>cs.setIfInBounds (off+x.2) x.1) ds)) t (by
      rw[hout];exact hc.splice hcell off) h
     refine⟨es,?_,hr⟩;have hcond:(u.cells.size≠size||off+u.cells.size>ds.size)=W:=by
      simp[hlen];omega
     simp only[Instr.fill,hp,hcond];rw[<-he];simp only[g2d,if_false];congr 1
     rw[<-Array.foldl_toList,Array.toList_zipIdx]
    ·cases h
   ·cases h
def b6d(ti:TI)(cs:List V)(off:Nat):Option V:=
 if ti.agg then if off+ti.size<=(O cs)then U (.agg ((cs.drop off).take ti.size))else Z else cs[off]?
def b2T(cx:Cx)(s f:Nat):Option (Nat×TI):=
 match cx.T s with
 |some ti=>match ti.fs with
  |some fs=>match fs[f]? with
   |some (off,ft)=>match cx.T ft with
    |some fi=>if fi.size=0 then Z else U (off,fi)
    |none=>Z
   |none=>Z
  |none=>Z
 |none=>Z
def b8n(cx:Cx)(t:Nat)(i:Nat):Option (Nat×Nat):=
 match cx.T t with
 |some ti=>match ti.fs with
  |some fs=>match fs[i]? with
   |some (off,ft)=>match cx.T ft with
    |some fi=>U (off,fi.size)
    |none=>Z
   |none=>Z
  |none=>Z
 |none=>Z
def b73(cx:Cx)(ty:Nat)(a b:V):Option V:=
 match a,b with
 | .b x,.b y=>match cx.T ty with
  |some ti=>if ti.bl then U (.b (x==y))else Z
  |none=>Z
 | .agg cs,.agg ds=>match cx.Υ ty,a3H cs,a3H ds with
  |some m,U xs,U ys=>if(O xs)=m/\(O ys)=m then U (.b (xs==ys))else Z
  |_,_,_=>Z
 |_,_=>Z
def c6q(cx:Cx)(op:BinOp)(ty:Nat)(a b:V):Option (V×List Prop):=
 match a,b with
 | .i k x,.i k' y=>if k=k' then c2U op k x y else Z
 |a,b=>match op with
  | .eql=>(b73 cx ty a b).map (·,[])
  | .neq=>match b73 cx ty a b with
   |some (.b x)=>U (.b (!x),[])
   |_=>Z
  |_=>Z
def c6e:V->Option Int
 | .nil=>U 0
 | .sl _ n _=>U n
 | .own _ _ _ _ n=>U n
 |_=>Z
def d27(c x y:V):Option V:=
 match c with
 | .b Y=>U x
 | .b W=>U y
 |_=>Z
def d88(x:V):Option V:=
 match x with
 | .ptr g j o=>U (.ptr g j o)
 | .eptr g j s i o=>U (.eptr g j s i o)
 | .fptr cs=>U (.fptr cs)
 | .fn f=>U (.fn f)
 |_=>Z
def unV(op:UnOp)(x:V):Option V:=
 match op,x with
 | .not,.b v=>U (.b (!v))
 | .neg,.i k n=>U (.i k (k.wrap (0-n)))
 |_,_=>Z
def d2F(cx:Cx)(s d:Nat)(x:V):Option V:=
 match cx.T s,cx.T d,x with
 |some si,U di,.i _ n=>match si.ik,di.ik with
  |some _,U k'=>U (.i k' (k'.wrap n))
  |_,_=>Z
 |_,_,_=>Z
def c96(x:V)(k:Nat):Option V:=
 match x with
 | .tup cs=>cs[k]?
 |_=>Z
def d3C(cx:Cx)(ty f:Nat)(x:V):Option V:=
 match b2T cx ty f,x with
 |some (off,fi),.agg cs=>b6d fi cs off
 |_,_=>Z
def c5q(cx:Cx)(ty f:Nat)(x:V):Option V:=
 match b2T cx ty f,x with
 |some (off,_),.ptr g j o=>U (.ptr g j (o+off))
 |some (off,_),.eptr g j s i o=>U (.eptr g j s i (o+off))
 |some (off,_),.fptr cs=>U (.fptr (cs.drop off))
 |_,_=>Z
def c9R(cx:Cx)(l:List (Nat×Nat)):Bool:=l.all λf=>(cx.T f.2).isSome
def d7x(cx:Cx)(ty:Nat)(parts:List (Nat×V)):Option V:=
 match cx.T ty with
 |some ti=>match ti.fs with
  |some l=>if c9R cx l then match b09 (b8n cx ty) ti.zero parts with
   |some cs=>U (.agg cs)
   |none=>Z else Z
  |none=>Z
 |none=>Z
def c72(cx:Cx)(ty:Nat)(x:V):Option V:=
 match cx.T ty with
 |some ti=>match x with
  | .s b=>if ti.str then U (.i .i64 b.size)else Z
  |v=>match ti.sl with
   |some _=>match c6e v with
    |some n=>U (.i .i64 n)
    |none=>Z
   |none=>Z
 |none=>Z
def d7V(x y:V):Option V:=
 match x,y with
 | .i k a,.i k' b=>if k=k' then U (.i k (if b<a then b else a))else Z
 |_,_=>Z
def c6F(cx:Cx)(ty:Nat)(x ix:V)(A:U8):Option (V×List Prop):=
 match cx.T ty,ix with
 |some ti,.i _ n=>match ti.sl with
  |some e=>match cx.T e with
   |some ei=>match x with
    | .sl sz m rows=>match A with
     | .row cs=>if ei.size=sz then U (.fptr cs,[0<=n,n<m,rows[n.toNat]?=U cs])else Z
     |_=>Z
    | .own g j sz lo m=>if ei.size=sz then U (.eptr g j sz (lo+n.toNat) 0,[0<=n,n<m])else Z
    |_=>Z
   |none=>Z
  |none=>match ti.arr with
   |some (len,e)=>match cx.T e with
    |some ei=>match x with
     | .ptr g j 0=>U (.eptr g j ei.size n.toNat 0,[0<=n,n<len])
     |_=>Z
    |none=>Z
   |none=>Z
 |_,_=>Z
def c5F(cx:Cx)(ty:Nat)(x ix:V)(A:U8):Option (V×List Prop):=
 match cx.T ty,x,ix,A with
 |some ti,.agg cs,.i _ n,.val v=>match ti.arr with
  |some (len,e)=>match cx.T e with
   |some ei=>if ei.agg=W/\ei.size=1 then U (v,[0<=n,n<len,cs[n.toNat]?=U v])else Z
   |none=>Z
  |none=>Z
 |_,_,_,_=>Z
def a9O(lo hi:Option V)(m:Nat):Option (Nat×Nat×List Prop):=
 match lo,hi with
 |some (.i _ l),U (.i _ h)=>U (l.toNat,h.toNat,[0<=l,l<=h,h<=m])
 |none,U (.i _ h)=>U (0,h.toNat,[0<=h,h<=m])
 |some (.i _ l),Z=>U (l.toNat,m,[0<=l,l<=m])
 |none,Z=>U (0,m,[])
 |_,_=>Z
def c6a(cx:Cx)(ty:Nat)(x:V)(lo hi:Option V):Option (V×List Prop):=
 match cx.T ty with
 |some ti=>match ti.sl with
  |some e=>match cx.T e with
   |some ei=>match x with
    | .sl sz m rows=>match a9O lo hi m with
     |some (l,h,ps)=>if ei.size=sz then U (.sl sz (h-l) ((rows.drop l).take (h-l)),ps)else Z
     |none=>Z
    | .own g j sz lo0 m=>match a9O lo hi m with
     |some (l,h,ps)=>if ei.size=sz then U (.own g j sz (lo0+l) (h-l),ps)else Z
     |none=>Z
    |_=>Z
   |none=>Z
  |none=>Z
 |none=>Z
def a3G(o:Option V):Option (V×List Prop):=
 match o with
 |some v=>U (v,[])
 |none=>Z
def X8(cx:Cx)(op:Op)(t:List V)(A:U8):Option (V×List Prop):=
 match op with
 | .move x=>U (z6 t x,[])
 | .assign x=>U (z6 t x,[])
 | .pick c x y=>a3G (d27 (z6 t c) (z6 t x) (z6 t y))
 | .nilCheck x=>a3G (d88 (z6 t x))
 | .binOp o ty x y _=>c6q cx o ty (z6 t x) (z6 t y)
 | .unOp o _ x=>a3G (unV o (z6 t x))
 | .convert s d x=>a3G (d2F cx s d (z6 t x))
 | .makeFunc (.func f) first captured=>if first.toList.isEmpty&&captured.toList.isEmpty then U (.fn f,[])else Z
 | .extract x k=>a3G (c96 (z6 t x) k)
 | .field ty x f=>a3G (d3C cx ty f (z6 t x))
 | .fieldAddr ty x f=>a3G (c5q cx ty f (z6 t x))
 | .build ty parts=>a3G (d7x cx ty (parts.toList.map λ(i,x)=>(i,z6 t x)))
 | .call c=>match c.callee,c.args.toList,c.argTypes.toList with
  | .builtin .len,[x],[ty]=>a3G (c72 cx ty (z6 t x))
  | .builtin .min,[x,y],_=>a3G (d7V (z6 t x) (z6 t y))
  |_,_,_=>Z
 | .indexAddr ty x ix=>c6F cx ty (z6 t x) (z6 t ix) A
 | .index ty x ix=>c5F cx ty (z6 t x) (z6 t ix) A
 | .slice ty x lo hi Z=>c6a cx ty (z6 t x) (lo.map (z6 t)) (hi.map (z6 t))
 |_=>Z
def b9Q{C:Type}{sz:Nat}:∀{rows:List (List C)} (l:Nat),(∀r∈rows,(O r)=sz)->(rows.drop l).flatten=rows.flatten.drop (l*sz)
 | [],l,_=>by simp
 |r::rows,0,_=>by simp
 |r::rows,l+1,h=>by
  have hr:(O r)=sz:=h r (by simp);have e:(l+1)*sz-(O r)=l*sz:=by rw[hr,g15];omega
  have e':r.drop ((l+1)*sz)=[]:=g1r (by rw[hr,g15];omega);rw[List.drop_succ_cons,b9Q l (λx hx=>h x (by simp[hx])),g1t,List.drop_append,e,e',g1z]
def c3j{C:Type}{sz:Nat}:∀{rows:List (List C)} (l:Nat),(∀r∈rows,(O r)=sz)->(rows.take l).flatten=rows.flatten.take (l*sz)
 | [],l,_=>by simp
 |r::rows,0,_=>by simp
 |r::rows,l+1,h=>by
  have hr:(O r)=sz:=h r (by simp);have e:(l+1)*sz-(O r)=l*sz:=by rw[hr,g15];omega
  have e':r.take ((l+1)*sz)=r:=g1A (by rw[hr,g15];omega);rw[g2s,g1t,c3j l (λx hx=>h x (by simp[hx])),g1t,List.take_append,e,e']
def a5H{C:Type}{sz:Nat}:∀{rows:List (List C)},(∀r∈rows,(O r)=sz)->(O rows.flatten)=(O rows)*sz
 | [],_=>by simp
 |r::rows,h=>by
  rw[g1t,g08,a5H (λx hx=>h x (by simp[hx])),h r (by simp),g1G,g15];omega
def b5B{C:Type}{sz:Nat}{rows:List (List C)}{i:Nat}{r:List C}(h:∀r∈rows,(O r)=sz)(hr:rows[i]?=U r):(rows.flatten.drop (i*sz)).take sz=r:=by
 rw[<-b9Q i h];have hlt:=(g06.1 hr).1;have he:=(g06.1 hr).2;rw[g1q hlt,g1t,he];have:(O r)=sz:=h r (he▸g01 hlt);rw[g1L (by omega),g1A (by omega)]
def FL.drop{w:World}{F:Nat->Prop}{vs:List V}{cs:List Value}(h:FL w F vs cs)(n:Nat):FL w F (vs.drop n) (cs.drop n):=FL.of (h.all2.drop n)
def FL.take{w:World}{F:Nat->Prop}{vs:List V}{cs:List Value}(h:FL w F vs cs)(n:Nat):FL w F (vs.take n) (cs.take n):=FL.of (h.all2.take n)
def FL.length{w:World}{F:Nat->Prop}{vs:List V}{cs:List Value}(h:FL w F vs cs):(O vs)=(O cs):=h.all2.length
def FV.sub{w:World}{F:Nat->Prop}{sz n:Nat}{rows:List (List V)}{b:Option Addr}{cap:Nat}(h:FV w F (.sl sz n rows) (.slice b n cap))(l m:Nat)(hm:l+m<=n) :
  FV w F (.sl sz m ((rows.drop l).take m)) (.slice (if cap=l then b else b.map (·.add (l*sz))) m (cap-l)):=by
 cases h with
 |sl0 sz a cap=>
  have:l=0:=by omega
  have:m=0:=by omega
  subst l;subst m;simpa using FV.sl0 sz _ _
 |sl sz n rows g o cap ds hF hr hn hs hc hseg=>
  have hrow:((rows.drop l).take m).length=m:=by simp[hn];omega
  by_cases he:cap=l
  ·have:m=0:=by omega
   subst this;rw[if_pos he];simpa using FV.sl0 sz _ _
  ·rw[if_neg he];simp only[g2c,a4z];refine .sl sz m _ g (o+l*sz) (cap-l) ((ds.drop (l*sz)).take (m*sz)) hF ?_ hrow (λr hr'=>hs r (g10 (g1M hr'))) (by omega) ((hseg.drop _).take _);rw[c3j m (λr hr'=>hs r (g10 hr')),b9Q l hs];exact(hr.drop _).take _
def FV.elem{w:World}{F:Nat->Prop}{sz n:Nat}{rows:List (List V)}{b:Option Addr}{cap:Nat}(h:FV w F (.sl sz n rows) (.slice b n cap)){i:Nat}{cs:List V}(hi:i<n)(hr:rows[i]?=U cs) :
  ∃g o ds,b=U ⟨g,o,Z⟩/\F g/\FL w F cs ds/\T8 w g (o+i*sz) ds/\(O cs)=sz:=by
 cases h with
 |sl0 sz a cap=>omega
 |sl sz n rows g o cap ds hF hrr hn hs hc hseg=>
  refine⟨g,o,(ds.drop (i*sz)).take sz,rfl,hF,?_,(hseg.drop _).take _,?_⟩
  ·rw[<-b5B hs hr];exact(hrr.drop _).take _
  ·exact hs cs (g1e hr)
section
variable {cx:Cx} {w:World} {F D:Nat->Prop} {G:Nat->Nat->Value} {t:List V} {a:Act} {o:Oper}
def d5k{ti:TI}{ty:Nat}{i:TypeInfo}{d:TypeDesc}{z:Value}(h:TF cx.P ty ti i d z){cs:List V}{ds:List Value}(hc:B5 (RC w F D G) cs ds){off:Nat}{v:V}(hp:b6d ti cs off=U v) :
  ∃c,(part ty ds.toArray off).run cx.P w=.ok c w/\RV w F D G v c:=by
 unfold b6d at hp;unfold part;simp only[Sem.run_bind,h.isAgg,Result.andThen_ok];by_cases ha:ti.agg=Y
 ·rw[if_pos ha]at hp⊢;split at hp
  ·rename_i hle;injection hp with hp;subst hp;refine⟨.agg (ds.toArray.extract off (off+ti.size)),by simp[Sem.run_bind,h.sizeOf],?_⟩;have:(ds.toArray.extract off (off+ti.size))=((ds.drop off).take ti.size).toArray:=by
    simp[List.extract_toArray,List.extract_eq_take_drop]
   rw[this];exact .one _ _ (.agg _ _ ((hc.drop off).take _))
  ·cases hp
 ·rw[if_neg ha]at hp⊢;obtain⟨c,hc',hv⟩:=hc.get hp;exact⟨c,by simp[hc'],.cell hv⟩
def d9j{s f:Nat}{off:Nat}{fi:TI}(h:b2T cx s f=U (off,fi)):∃ti i d z fs fld fii fd fz,TF cx.P s ti i d z/\d=.struct fs/\fs[f]?=U fld/\fld.offset=off/\TF cx.P fld.type fi fii fd fz/\fi.size≠0:=by
 unfold b2T at h;split at h
 ·rename_i ti hti;split at h
  ·rename_i l hl;split at h
   ·rename_i off' ft hf;split at h
    ·rename_i fi' hfi;split at h
     ·cases h
     ·rename_i hsz;injection h with h;injection h with h1 h2;subst h1;subst h2;obtain⟨i,d,z,htf⟩:=cx.tf hti;obtain⟨fs,hd,hfs⟩:=htf.isStruct hl;rw[<-hfs,g1Z]at hf;obtain⟨fld,hfld,he⟩:=g2t.1 hf;injection he with he1 he2;subst he1;subst he2;obtain⟨fii,fd,fz,hft⟩:=cx.tf hfi;exact⟨ti,i,d,z,fs,fld,fii,fd,fz,htf,hd,by simpa using hfld,rfl,hft,hsz⟩
    ·cases h
   ·cases h
  ·cases h
 ·cases h
def c56{s f off:Nat}{fi:TI}(h:b2T cx s f=U (off,fi))(g o:Nat):(Instr.fieldAt s (.pointer (U ⟨g,o,Z⟩)) f).run cx.P w=.ok (.pointer (U ⟨g,o+off,Z⟩)) w:=by
 obtain⟨ti,i,d,z,fs,fld,fii,fd,fz,h1,rfl,h3,rfl,h5,h6⟩:=d9j h;simp[Instr.fieldAt,Sem.run_bind,h1.underlying,h3,Instr.sureAddr,fieldPlace,h5.sizeOf,h6,a4z]
def e69{s f off:Nat}{fi:TI}(h:b2T cx s f=U (off,fi)){cs:List V}{ds:List Value}(hc:B5 (RC w F D G) cs ds){v:V}(hp:b6d fi cs off=U v) :
  ∃c,(Instr.field s (.agg ds.toArray) f).run cx.P w=.ok c w/\RV w F D G v c:=by
 obtain⟨ti,i,d,z,fs,fld,fii,fd,fz,h1,rfl,h3,rfl,h5,h6⟩:=d9j h;obtain⟨c,hr,hv⟩:=d5k h5 hc hp;exact⟨c,by simp[Instr.field,Sem.run_bind,h1.underlying,h3,asAgg,hr],hv⟩
end
section
variable {cx:Cx} {w:World} {F D:Nat->Prop} {G:Nat->Nat->Value} {t:List V} {a:Act} {o:Oper}
def f1f{op:BinOp}{k:IntKind}{x y:Int}{v:V}{ps:List Prop}(h:c2U op k x y=U (v,ps))(hp:∀p∈ps,p)(ty:TypeId)(p q:Operand) :
  ∃c,(do eqGuard op ty p q (.int k x) (.int k y);binOp op ty (.int k x) (.int k y):Sem Value).run cx.P w=.ok c w/\FV w F v c:=by
 cases op<;>simp only[c2U]at h<;>first|(cases h;done)|skip
 all_goals
  injection h with h;injection h with h1 h2;subst h1;subst h2
 case add=>exact⟨_,by simp[eqGuard,binOp,Op.intArith],.i _ _⟩
 case sub=>exact⟨_,by simp[eqGuard,binOp,Op.intArith],.i _ _⟩
 case mul=>exact⟨_,by simp[eqGuard,binOp,Op.intArith],.i _ _⟩
 case quo=>
  have hy:y≠0:=hp _ (by simp);exact⟨_,by simp[eqGuard,binOp,Op.intDiv,hy],.i _ _⟩
 case rem=>
  have hy:y≠0:=hp _ (by simp);exact⟨_,by simp[eqGuard,binOp,Op.intDiv,hy],.i _ _⟩
 case eql=>exact⟨_,by simp[eqGuard,binOp,Op.intCmp],.b _⟩
 case neq=>exact⟨_,by simp[eqGuard,binOp,Op.intCmp],.b _⟩
 case lss=>exact⟨_,by simp[eqGuard,binOp,Op.intCmp],.b _⟩
 case leq=>exact⟨_,by simp[eqGuard,binOp,Op.intCmp],.b _⟩
 case gtr=>exact⟨_,by simp[eqGuard,binOp,Op.intCmp],.b _⟩
 case geq=>exact⟨_,by simp[eqGuard,binOp,Op.intCmp],.b _⟩
 case xor=>exact⟨.int k (a7Q k x y),by simp[eqGuard,binOp,Op.intBits,a7Q],.i _ _⟩
def b9N{vs:List V}{ds:List Value}(hall:B5 (RC w F D G) vs ds):∀{xs:List Int},a3H vs=U xs->ds=xs.map (Value.int .i64):=by
 induction hall with
 |nil=>intro xs h;simp[a3H]at h;subst h;rfl
 |cons hc ht ih=>
  intro xs h;unfold a3H at h;split at h
  ·rename_i heq;cases heq
  ·rename_i n vs' heq;injection heq with h1 h2;subst h1;subst h2;obtain⟨ys,hy,rfl⟩:=g2t.1 h;rw[ih hy];cases hc with
   |fv v c h=>cases h;rfl
  ·cases h
def d7b{ty:Nat}{u v r:V}(h:b73 cx ty u v=U r){c d:Value}(hc:RV w F D G u c)(hd:RV w F D G v d) :
  ∃x:Bool,r=.b x/\(∀p q op,(eqGuard op ty p q c d).run cx.P w=.ok () w)/\(binOp .eql ty c d).run cx.P w=.ok (.bool x) w/\(binOp .neq ty c d).run cx.P w=.ok (.bool (!x)) w:=by
 unfold b73 at h;split at h
 ·rename_i x y;split at h
  ·rename_i ti hti;split at h
   ·rename_i hbl;injection h with h;subst h;obtain rfl:=hc.inv_b;obtain rfl:=hd.inv_b;obtain⟨i,dd,z,htf⟩:=cx.tf hti;have hu:cx.P.underlying ty=U .bool:=by rw[htf.und,htf.isBl hbl]
    refine⟨_,rfl,λp q op => ?_,?_,?_⟩
    ·cases op<;>simp[eqGuard]
    ·simp[binOp,run_equal_bool w ty x y hu]
    ·simp[binOp,run_equal_bool w ty x y hu]
   ·cases h
  ·cases h
 ·rename_i cs ds;split at h
  ·rename_i m xs ys hm hx hy;split at h
   ·rename_i hl;injection h with h;subst h;obtain⟨cs',rfl,hcs⟩:=hc.inv_agg;obtain⟨ds',rfl,hds⟩:=hd.inv_agg;rw[b9N hcs hx,b9N hds hy];have he:=cx.hE ty m hm xs ys w hl.1 hl.2;refine⟨_,rfl,λp q op => ?_,?_,?_⟩
    ·cases op<;>simp[eqGuard,cx.hG ty m hm]
    ·simp[binOp,he]
    ·simp[binOp,he]
   ·cases h
  ·cases h
 ·cases h
def e1l{op:BinOp}{ty:Nat}{u v r:V}{ps:List Prop}(h:c6q cx op ty u v=U (r,ps))(hp:∀p∈ps,p){c d:Value}(hc:RV w F D G u c)(hd:RV w F D G v d)(p q:Operand) :
  ∃e,(do eqGuard op ty p q c d;binOp op ty c d:Sem Value).run cx.P w=.ok e w/\FV w F r e:=by
 unfold c6q at h;split at h
 ·rename_i k x k' y;split at h
  ·rename_i hk;subst hk;obtain rfl:=hc.inv_i;obtain rfl:=hd.inv_i;exact f1f h hp ty p q
  ·cases h
 ·split at h
  ·obtain⟨r',hr,he⟩:=g2t.1 h;injection he with h1 h2;subst h1;obtain⟨x,rfl,hg,he,_⟩:=d7b hr hc hd;exact⟨.bool x,by simp[Sem.run_bind,hg,he],.b _⟩
  ·split at h
   ·rename_i x hx;injection h with h;injection h with h1 h2;subst h1;obtain⟨x',hxx,hg,_,he⟩:=d7b hx hc hd;injection hxx with hxx;subst hxx;exact⟨.bool (!x),by simp[Sem.run_bind,hg,he],.b _⟩
   ·cases h
  ·cases h
end
section
variable {cx:Cx} {w:World} {F D:Nat->Prop} {G:Nat->Nat->Value} {t:List V} {a:Act} {o:Oper}
def e5I{g j sz lo n:Nat}{c:Value}(h:RV w F D G (.own g j sz lo n) c):∃b cap,c=.slice b n cap:=by
 obtain⟨_,⟨b,nn,cap,_,_,_,_,rfl⟩|⟨_,rfl,b,cap,rfl⟩⟩:=h.inv_own
 ·exact⟨_,_,rfl⟩
 ·exact⟨_,_,rfl⟩
def b7B{sz n:Nat}{rows:List (List V)}{c:Value}(h:FV w F (.sl sz n rows) c):∃b cap,c=.slice b n cap/\n<=cap:=by
 cases h with
 |sl0 sz a cap=>exact⟨a,cap,rfl,g2D _⟩
 |sl sz n rows g o cap ds hF hr hn hs hc hseg=>exact⟨_,cap,rfl,hc⟩
def f6b{v:V}{n:Int}(h:c6e v=U n){c:Value}(hc:RV w F D G v c):∃b m cap,c=.slice b m cap/\(m:Int)=n:=by
 unfold c6e at h;split at h
 ·injection h with h;obtain rfl:=hc.inv_nil;exact⟨_,_,_,rfl,h⟩
 ·injection h with h;obtain⟨b,cap,rfl,_⟩:=b7B hc.inv_sl;exact⟨_,_,_,rfl,h⟩
 ·injection h with h;obtain⟨b,cap,rfl⟩:=e5I hc;exact⟨_,_,_,rfl,h⟩
 ·cases h
def f0D{ty:Nat}{ti:TI}{i:TypeInfo}{d:TypeDesc}{z:Value}(hT:cx.T ty=U ti)(h:TF cx.P ty ti i d z){fs:Array Field}(hd:d=.struct fs)(hfs:fs.toList.map (λf=>(f.offset,f.type))=(ti.fs.getD []))(hs:ti.fs.isSome=Y){k:Nat}{q:Nat×Nat}(hk:b8n cx ty k=U q) :
  ∃f,fs[k]?=U f/\q.1=f.offset/\∃fi,cx.T f.type=U fi/\q.2=fi.size:=by
 unfold b8n at hk;rw[hT]at hk;simp only at hk;split at hk
 ·rename_i l hl;split at hk
  ·rename_i off ft hf;split at hk
   ·rename_i fi hfi;injection hk with hk;subst hk;rw[hl]at hfs;simp only[g13]at hfs;rw[<-hfs,g1Z]at hf;obtain⟨f,hf1,hf2⟩:=g2t.1 hf;injection hf2 with h1 h2;subst h1;subst h2;exact⟨f,by simpa using hf1,rfl,fi,hfi,rfl⟩
   ·cases hk
  ·cases hk
 ·cases hk
def d9w{a51 d5P:Nat->Option (Nat×Nat)}:∀{ps:List (Nat×Value)} {a2x out:Array Value},(∀x∈ps,∀q,a51 x.1=U q->d5P x.1=U q)->Instr.fill a51 a2x ps=U out->Instr.fill d5P a2x ps=U out
 | [],a2x,out,_,h=>h
 | (i,v)::ps,a2x,out,hp,h=>by
  simp only[Instr.fill]at h⊢;cases hpi:a51 i with
  |none=>rw[hpi]at h;cases h
  |some q=>
   rw[hp (i,v) (by simp) q hpi];rw[hpi]at h;obtain⟨off,size⟩:=q;simp only at h⊢;split at h
   ·cases h
   ·rename_i hc;rw[if_neg hc];exact d9w (λx hx=>hp x (by simp[hx])) h
def d1p{P:Program}{w:World}:∀(fs:List Field),(∀f∈fs,∃i,P.info? f.type=U i)->∃places:List (Nat×Nat),fs.mapM (λf=>(P.info? f.type).map λi=>(f.offset,i.size))=U places/\
  ∀(k:Nat) (f:Field),fs[k]?=U f->∀i,P.info? f.type=U i->places[k]?=U (f.offset,i.size)
 | [],_=>⟨[],by simp,by simp⟩
 |f::fs,h=>by
  obtain⟨i,hi⟩:=h f (by simp);obtain⟨places,hp,hk⟩:=d1p (P:=P) (w:=w) fs (λx hx=>h x (by simp[hx]));refine⟨(f.offset,i.size)::places,by simp[List.mapM_cons,hi,hp],?_⟩;intro k f' hf i' hi';cases k with
  |zero=>simp at hf;subst hf;rw[hi]at hi';injection hi' with hi';subst hi';simp
  |succ k=>simpa using hk k f' (by simpa using hf) i' hi'
def e5g{ty:Nat}{ti:TI}(hT:cx.T ty=U ti){l:List (Nat×Nat)}(hl:ti.fs=U l)(hall:c9R cx l=Y)(ht:B5 (RV w F D G) t a.tmps.toList){parts:Array (Nat×Operand)}{cs:List V}(hf:b09 (b8n cx ty) ti.zero (parts.toList.map λ(i,x)=>(i,z6 t x))=U cs) :
  ∃c,(Instr.build ty (parts.map λ(i,x)=>(i,a.eval x))).run cx.P w=.ok c w/\RV w F D G (.agg cs) c:=by
 obtain⟨i,d,z,htf⟩:=cx.tf hT;obtain⟨fs,rfl,hfs⟩:=htf.isStruct hl;have hz:B5 (RC w F D G) ti.zero z.cells.toList:=by
  rw[<-htf.zeros];exact(FL.ofCells (w:=w) (F:=F) _ htf.one).all2.imp λ_ _ x=>.fv _ _ x
 have hps:∀qs:List (Nat×Operand),B5 (λ(x:Nat×V) (y:Nat×Value)=>x.1=y.1/\RV w F D G x.2 y.2) (qs.map λ(i,x)=>(i,z6 t x)) (qs.map λ(i,x)=>(i,a.eval x)):=by
  intro qs;induction qs with
  |nil=>exact .nil
  |cons q qs ih=>exact .cons ⟨rfl,H6 ht q.2⟩ ih
 obtain⟨es,he,hr⟩:=c9Z (hps parts.toList) hz hf;have hinfo:∀f∈fs.toList,∃i,cx.P.info? f.type=U i:=by
  intro f hfm;have hmem:(f.offset,f.type)∈l:=by rw[<-hfs];exact g1m.2 ⟨f,hfm,rfl⟩
  have:=g05.1 hall _ hmem;obtain⟨fi,hfi⟩:=Option.isSome_iff_exists.1 this;obtain⟨i',_,_,h'⟩:=cx.tf hfi;exact⟨i',h'.info⟩
 obtain⟨places,hpl,hpk⟩:=d1p (P:=cx.P) (w:=w) fs.toList hinfo;have hb:cx.P.built ty (parts.map λ(i,x)=>(i,a.eval x)).toList=U es:=by
  unfold Program.built;rw[htf.info,htf.und];simp only[htf.zero,hpl];rw[Array.toList_map];refine d9w ?_ he;intro x _ q hq;obtain⟨f,hfk,h1,fi,hfi,h2⟩:=f0D hT htf rfl (by rw[hl];exact hfs) (by rw[hl];rfl) hq;obtain⟨i',_,_,h'⟩:=cx.tf hfi;have:=hpk x.1 f (by simpa using hfk) i' h'.info;simp only[List.getElem?_toArray,this,h'.size];rw[<-h1,<-h2]
 refine⟨.agg es,run_build w ty _ es hb,?_⟩;have:=RA.agg cs es.toList hr;simpa using RV.one _ _ this
def c29{ty e:Nat}{ti ei:TI}(hT:cx.T ty=U ti)(hs:ti.sl=U e)(hE:cx.T e=U ei){b:Option Addr}{n cap:Nat}(hcap:n<=cap){lo hi:Option Value}{l h:Nat}(hlo:(lo=Z/\l=0)\/∃k i,lo=U (.int k i)/\0<=i/\i.toNat=l)(hhi:(hi=Z/\h=n)\/∃k i,hi=U (.int k i)/\0<=i/\i.toNat=h)(hlh:l<=h)(hh:h<=n) :
  (Instr.sliceAt ty (.slice b n cap) lo hi Z).run cx.P w=.ok (.slice (if cap=l then b else b.map (·.add (l*ei.size))) (h-l) (cap-l)) w:=by
 obtain⟨i,d,z,htf⟩:=cx.tf hT;obtain⟨i',d',z',hef⟩:=cx.tf hE;obtain rfl:=htf.isSl hs;have hb:(Instr.sliceBounds Y n cap lo hi Z).run cx.P w=.ok (l,h,cap) w:=by
  rcases hlo with⟨rfl,rfl⟩|⟨k,x,rfl,hx,hxl⟩<;>rcases hhi with⟨rfl,rfl⟩|⟨k',y,rfl,hy,hyl⟩
  ·simp[Instr.sliceBounds]
  ·have h2:y<=(cap:Int):=by omega
   simp[Instr.sliceBounds,Instr.sliceBound,asIntOf,hy,h2,hyl]
  ·have h2:x<=(h:Int):=by omega
   simp[Instr.sliceBounds,Instr.sliceBound,asIntOf,hx,h2,hxl]
  ·have h2:y<=(cap:Int):=by omega
   have h3:x<=(h:Int):=by omega
   simp[Instr.sliceBounds,Instr.sliceBound,asIntOf,hy,h2,hyl,hx,h3,hxl]
 simp[Instr.sliceAt,Instr.slice,Sem.run_bind,htf.underlying,hb,hef.sizeOf]
def d2S{lo hi:Option Operand}{m:Nat}{l h:Nat}{ps:List Prop}(ht:B5 (RV w F D G) t a.tmps.toList)(hb:a9O (lo.map (z6 t)) (hi.map (z6 t)) m=U (l,h,ps))(hp:∀p∈ps,p) :
  ((lo.map a.eval=Z/\l=0)\/∃k i,lo.map a.eval=U (.int k i)/\0<=i/\i.toNat=l)/\((hi.map a.eval=Z/\h=m)\/∃k i,hi.map a.eval=U (.int k i)/\0<=i/\i.toNat=h)/\l<=h/\h<=m:=by
 have ev:∀{x:Operand} {k n},z6 t x=.i k n->a.eval x=.int k n:=λ{x k n} he=>(he▸H6 ht x).inv_i
 cases lo with
 |none=>cases hi with
  |none=>
   simp[a9O]at hb;obtain⟨rfl,rfl,rfl⟩:=hb;simp
  |some y=>
   simp only[Option.map_none,g2c]at hb;unfold a9O at hb;split at hb<;>try (cases hb;done)
   ·simp_all
   ·rename_i k i h1 h2;injection h2 with h2;injection hb with hb;injection hb with e1 e2;injection e2 with e2 e3;subst e1;subst e2;subst e3;have b1:0<=i:=hp _ (by simp);have b2:i<=m:=hp _ (by simp);exact⟨.inl ⟨rfl,rfl⟩,.inr ⟨k,i,by simp[ev h2],b1,rfl⟩,by omega,by omega⟩
   ·simp_all
   ·simp_all
 |some x=>cases hi with
  |none=>
   simp only[Option.map_none,g2c]at hb;unfold a9O at hb;split at hb<;>try (cases hb;done)
   ·simp_all
   ·simp_all
   ·rename_i k i h1 h2;injection h1 with h1;injection hb with hb;injection hb with e1 e2;injection e2 with e2 e3;subst e1;subst e2;subst e3;have b1:0<=i:=hp _ (by simp);have b2:i<=m:=hp _ (by simp);exact⟨.inr ⟨k,i,by simp[ev h1],b1,rfl⟩,.inl ⟨rfl,rfl⟩,by omega,by omega⟩
   ·simp_all
  |some y=>
   simp only[g2c]at hb;unfold a9O at hb;split at hb<;>try (cases hb;done)
   ·rename_i k i k' i' h1 h2;injection h1 with h1;injection h2 with h2;injection hb with hb;injection hb with e1 e2;injection e2 with e2 e3;subst e1;subst e2;subst e3;have b1:0<=i:=hp _ (by simp);have b2:i<=i':=hp _ (by simp);have b3:i'<=m:=hp _ (by simp);exact⟨.inr ⟨k,i,by simp[ev h1],b1,rfl⟩,.inr ⟨k',i',by simp[ev h2],by omega,rfl⟩,by omega,by omega⟩
   ·simp_all
   ·simp_all
   ·simp_all
def f6X{ty:Nat}{x:Operand}{lo hi:Option Operand}{v:V}{ps:List Prop}(ht:B5 (RV w F D G) t a.tmps.toList)(h:c6a cx ty (z6 t x) (lo.map (z6 t)) (hi.map (z6 t))=U (v,ps))(hp:∀p∈ps,p) :
  ∃c,(Instr.sliceAt ty (a.eval x) (lo.map a.eval) (hi.map a.eval) Z).run cx.P w=.ok c w/\RV w F D G v c:=by
 unfold c6a at h;split at h<;>try (cases h;done)
 rename_i ti hti;split at h<;>try (cases h;done)
 rename_i e hs;split at h<;>try (cases h;done)
 rename_i ei hei;have hx:=H6 ht x;split at h<;>try (cases h;done)
 ·rename_i sz m rows hv;rw[hv]at hx;split at h<;>try (cases h;done)
  rename_i l hh ps' hb;split at h<;>try (cases h;done)
  rename_i hsz;injection h with h;injection h with h1 h2;subst h1;subst h2;obtain⟨b1,b2,b3,b4⟩:=d2S ht hb hp;have hfv:=hx.inv_sl;obtain⟨b,cap,hc,hcap⟩:=b7B hfv;rw[hc]at hfv⊢;refine⟨_,c29 hti hs hei hcap b1 b2 b3 b4,?_⟩;rw[hsz];exact .fv (hfv.sub l (hh-l) (by omega))
 ·rename_i g j sz lo0 m hv;rw[hv]at hx;split at h<;>try (cases h;done)
  rename_i l hh ps' hb;split at h<;>try (cases h;done)
  rename_i hsz;injection h with h;injection h with h1 h2;subst h1;subst h2;obtain⟨b1,b2,b3,b4⟩:=d2S ht hb hp;obtain⟨hD,⟨b,nn,cap,hι,hlo,hb0,hb1,hc⟩|⟨hl0,rfl,b,cap,hc⟩⟩:=hx.inv_own;case inr=>
   rw[hc];refine⟨_,c29 hti hs hei (g2D _) b1 b2 b3 b4,?_⟩;have:hh-l=0:=by omega
   rw[this];exact .cell (.own0 g j sz _ _ _ hD (by omega))
  rw[hc];refine⟨_,c29 hti hs hei (by omega) b1 b2 b3 b4,?_⟩;rw[hsz];have hrc:=RC.own (w:=w) (F:=F) g j sz (lo0+l) (hh-l) b nn cap hD hι (by omega) hb0 hb1;have e1:cap-lo0-l=cap-(lo0+l):=by omega
  have e2:(if cap-lo0=l then if cap=lo0 then b else b.map (·.add (lo0*sz))else(if cap=lo0 then b else b.map (·.add (lo0*sz))).map (·.add (l*sz)))=(if cap=lo0+l then b else b.map (·.add ((lo0+l)*sz)))\/hh-l=0:=by
   by_cases q:cap-lo0=l
   ·right;omega
   ·left
    rw[if_neg q,if_neg (show ¬cap=lo0+l by omega)];by_cases q2:cap=lo0
    ·omega
    ·rw[if_neg q2];cases b with
     |none=>rfl
     |some ad=>
      rw[hb1 ad rfl];simp only[g2c,a4z,Nat.add_mul,g1U]
  rcases e2 with e2|e2
  ·rw[e2,e1];exact .cell hrc
  ·by_cases q:lo0+l=0
   ·have q1:lo0=0:=by omega
    have q2:l=0:=by omega
    subst q1;subst q2;by_cases q3:cap=0
    ·subst q3;simpa using RV.cell hrc
    ·have hm:∀b:Option Addr,b.map (·.add (0*sz))=b:=by intro b;cases b<;>simp[Addr.add]
     simp only[if_neg q3,Nat.sub_zero,g2n,hm]at hrc⊢;exact .cell hrc
   ·rw[e2];exact .cell (.own0 g j sz _ _ _ hD (by omega))
end
section
variable {cx:Cx} {w:World} {F D:Nat->Prop} {G:Nat->Nat->Value} {t:List V} {a:Act} {o:Oper}
def f0V{ty:Nat}{x ix:Operand}{A:U8}{v:V}{ps:List Prop}(ht:B5 (RV w F D G) t a.tmps.toList)(h:c6F cx ty (z6 t x) (z6 t ix) A=U (v,ps))(hp:∀p∈ps,p) :
  ∃c,(Instr.indexAt ty (a.eval x) (a.eval ix)).run cx.P w=.ok c w/\RV w F D G v c:=by
 have hx:=H6 ht x;have hi:=H6 ht ix;unfold c6F at h;split at h<;>try (cases h;done)
 rename_i ti k n hti hk;rw[hk]at hi;rw[hi.inv_i];obtain⟨i,d,z,htf⟩:=cx.tf hti;split at h
 ·rename_i e hs;obtain rfl:=htf.isSl hs;split at h<;>try (cases h;done)
  rename_i ei hei;obtain⟨i',d',z',hef⟩:=cx.tf hei;split at h<;>try (cases h;done)
  ·rename_i sz m rows hv;rw[hv]at hx;split at h<;>try (cases h;done)
   rename_i cs;split at h<;>try (cases h;done)
   rename_i hsz;injection h with h;injection h with h1 h2;subst h1;subst h2;have p1:0<=n:=hp _ (by simp);have p2:n<m:=hp _ (by simp);have p3:rows[n.toNat]?=U cs:=hp _ (by simp);have hfv:=hx.inv_sl;obtain⟨b,cap,hc,hcap⟩:=b7B hfv;rw[hc]at hfv⊢;obtain⟨g,o,ds,rfl,hF,hfl,hseg,hl⟩:=hfv.elem (i:=n.toNat) (by omega) p3;refine⟨.pointer (U ⟨g,o+n.toNat*sz,Z⟩),?_,.cell (.fptr cs g _ ds hF hfl hseg)⟩;simp[Instr.indexAt,asIntOf,Sem.run_bind,htf.underlying,p1,p2,hef.sizeOf,a4z,hsz]
  ·rename_i g j sz lo m hv;rw[hv]at hx;split at h<;>try (cases h;done)
   rename_i hsz;injection h with h;injection h with h1 h2;subst h1;subst h2;have p1:0<=n:=hp _ (by simp);have p2:n<m:=hp _ (by simp);obtain⟨hD,⟨b,nn,cap,hι,hlo,hb0,hb1,hc⟩|⟨hl0,rfl,b,cap,hc⟩⟩:=hx.inv_own;case inr=>omega
   rw[hc,if_neg (show ¬cap=lo by omega)];cases b with
   |none=>have:=hb0 rfl;omega
   |some ad=>
    have had:=hb1 ad rfl;refine⟨.pointer (U ⟨ad.block,(lo+n.toNat)*sz+0,Z⟩),?_,.cell (.eptr g j sz (lo+n.toNat) 0 ad.block hD (by rw[hι];rfl))⟩;rw[had];simp[Instr.indexAt,asIntOf,Sem.run_bind,htf.underlying,p1,p2,hef.sizeOf,a4z,hsz,Nat.add_mul]
 ·split at h<;>try (cases h;done)
  rename_i len e hs;obtain rfl:=htf.isArr hs;split at h<;>try (cases h;done)
  rename_i ei hei;obtain⟨i',d',z',hef⟩:=cx.tf hei;split at h<;>try (cases h;done)
  rename_i g j hv;rw[hv]at hx;injection h with h;injection h with h1 h2;subst h1;subst h2;have p1:0<=n:=hp _ (by simp);have p2:n<len:=hp _ (by simp);obtain⟨hD,b,hι,hc⟩:=hx.inv_ptr;rw[hc];refine⟨.pointer (U ⟨b,n.toNat*ei.size+0,Z⟩),?_,.cell (.eptr g j ei.size n.toNat 0 b hD (by rw[hι];rfl))⟩;simp[Instr.indexAt,asIntOf,Sem.run_bind,htf.underlying,p1,p2,hef.sizeOf,a4z,Instr.sureAddr]
def f6f{ty:Nat}{x ix:Operand}{A:U8}{v:V}{ps:List Prop}(ht:B5 (RV w F D G) t a.tmps.toList)(h:c5F cx ty (z6 t x) (z6 t ix) A=U (v,ps))(hp:∀p∈ps,p) :
  ∃c,(Instr.index ty (a.eval x) (a.eval ix)).run cx.P w=.ok c w/\RV w F D G v c:=by
 have hx:=H6 ht x;have hi:=H6 ht ix;unfold c5F at h;split at h<;>try (cases h;done)
 rename_i ti cs k n u hti hv hk;rw[hk]at hi;rw[hi.inv_i];rw[hv]at hx;obtain⟨ds,hc,hall⟩:=hx.inv_agg;rw[hc];obtain⟨i,d,z,htf⟩:=cx.tf hti;split at h<;>try (cases h;done)
 rename_i len e hs;obtain rfl:=htf.isArr hs;split at h<;>try (cases h;done)
 rename_i ei hei;obtain⟨i',d',z',hef⟩:=cx.tf hei;split at h<;>try (cases h;done)
 rename_i hag;injection h with h;injection h with h1 h2;subst h1;subst h2;have p1:0<=n:=hp _ (by simp);have p2:n<len:=hp _ (by simp);have p3:cs[n.toNat]?=U u:=hp _ (by simp);obtain⟨c,hr,hv'⟩:=d5k (off:=n.toNat) hef hall (v:=u) (by unfold b6d;rw[if_neg (by simp[hag.1])];exact p3);refine⟨c,?_,hv'⟩;simp[Instr.index,asIntOf,Sem.run_bind,htf.underlying,p1,p2,hef.sizeOf,hag.2,hr]
def f2e{ty:Nat}{x:Operand}{v:V}(ht:B5 (RV w F D G) t a.tmps.toList)(h:c72 cx ty (z6 t x)=U v) :
  ∃c,∀rt,(Builtin.len_ #[ty] rt #[a.eval x]).run cx.P w=.ok c w/\RV w F D G v c:=by
 have hx:=H6 ht x;unfold c72 at h;split at h<;>try (cases h;done)
 rename_i ti hti;obtain⟨i,d,z,htf⟩:=cx.tf hti;split at h
 ·rename_i b hv;rw[hv]at hx;split at h<;>try (cases h;done)
  rename_i hs;injection h with h;subst h;obtain rfl:=htf.isStr hs;rw[hx.inv_s];exact⟨_,λrt=>⟨by simp[Builtin.len_,Sem.run_bind,htf.underlying,goInt],.fv (.i _ _)⟩⟩
 ·split at h<;>try (cases h;done)
  rename_i e hs;split at h<;>try (cases h;done)
  rename_i n hn;injection h with h;subst h;obtain rfl:=htf.isSl hs;obtain⟨b,m,cap,hc,rfl⟩:=f6b hn hx;rw[hc];exact⟨_,λrt=>⟨by simp[Builtin.len_,Sem.run_bind,htf.underlying,goInt],.fv (.i _ _)⟩⟩
def f0n{ty f:Nat}{x:Operand}{v:V}(ht:B5 (RV w F D G) t a.tmps.toList)(h:c5q cx ty f (z6 t x)=U v) :
  ∃c,(Instr.fieldAt ty (a.eval x) f).run cx.P w=.ok c w/\RV w F D G v c:=by
 have hx:=H6 ht x;unfold c5q at h;split at h<;>try (cases h;done)
 ·rename_i off fi g j o hf hv;rw[hv]at hx;injection h with h;subst h;obtain⟨hD,b,hι,hc⟩:=hx.inv_ptr;rw[hc];exact⟨_,c56 hf b o,.cell (.ptr g j (o+off) b hD hι)⟩
 ·rename_i off fi g j s i o hf hv;rw[hv]at hx;injection h with h;subst h;obtain⟨hD,b,hι,hc⟩:=hx.inv_eptr;rw[hc];exact⟨_,c56 hf b _,by have:=RC.eptr (w:=w) (F:=F) g j s i (o+off) b hD hι;rw[<-Nat.add_assoc]at this;exact .cell this⟩
 ·rename_i off fi cs hf hv;rw[hv]at hx;injection h with h;subst h;obtain⟨g,o,ds,hF,hfl,hseg,hc⟩:=hx.inv_fptr;rw[hc];exact⟨_,c56 hf g o,.cell (.fptr _ g (o+off) _ hF (hfl.drop off) (hseg.drop off))⟩
def a5I{o:Option V}{v:V}{ps:List Prop}(h:a3G o=U (v,ps)):o=U v:=by
 unfold a3G at h;split at h
 ·injection h with h;injection h with h;subst h;rfl
 ·cases h
def f4L{ob:Oper}{v:V}{ps:List Prop}{A:U8}(ht:B5 (RV w F D G) t a.tmps.toList)(h:X8 cx ob.op t A=U (v,ps))(hp:∀p∈ps,p) :
  ∃c,(execOp a.eval ob).run cx.P w=.ok (.value c) w/\RV w F D G v c:=by
 obtain⟨dst,op,rt,pos,after,guard⟩:=ob;simp only at h;unfold X8 at h;split at h
 ·rename_i x;injection h with h;injection h with h1 h2;subst h1;exact⟨_,by simp[execOp],H6 ht x⟩
 ·rename_i x;injection h with h;injection h with h1 h2;subst h1;exact⟨_,by simp[execOp],H6 ht x⟩
 ·rename_i c x y;replace h:=a5I h
  have hc:=H6 ht c;unfold d27 at h;split at h<;>try (cases h;done)
  ·rename_i hb;rw[hb]at hc;injection h with h;subst h;exact⟨_,by simp[execOp,hc.inv_b,asBool],H6 ht x⟩
  ·rename_i hb;rw[hb]at hc;injection h with h;subst h;exact⟨_,by simp[execOp,hc.inv_b,asBool],H6 ht y⟩
 ·rename_i x;replace h:=a5I h
  have hx:=H6 ht x;unfold d88 at h;split at h<;>try (cases h;done)
  ·rename_i hb;rw[hb]at hx;injection h with h;subst h;obtain⟨hD,b,hι,hc⟩:=hx.inv_ptr;exact⟨a.eval x,by simp[execOp,hc],hx⟩
  ·rename_i hb;rw[hb]at hx;injection h with h;subst h;obtain⟨hD,b,hι,hc⟩:=hx.inv_eptr;exact⟨a.eval x,by simp[execOp,hc],hx⟩
  ·rename_i hb;rw[hb]at hx;injection h with h;subst h;obtain⟨g,o,ds,hF,hfl,hseg,hc⟩:=hx.inv_fptr;exact⟨a.eval x,by simp[execOp,hc],hx⟩
  ·rename_i hb;rw[hb]at hx;injection h with h;subst h;exact⟨a.eval x,by simp[execOp,hx.inv_fn],hx⟩
 ·rename_i bo ty x y yt;obtain⟨e,he,hv⟩:=e1l h hp (H6 ht x) (H6 ht y) x y;refine⟨e,?_,.fv hv⟩;simp only[execOp];rw[Sem.run_bind,he];rfl
 ·rename_i uo ty x;replace h:=a5I h
  have hx:=H6 ht x;unfold unV at h;split at h<;>try (cases h;done)
  ·rename_i hb;rw[hb]at hx;injection h with h;subst h;exact⟨_,by simp[execOp,hx.inv_b,Op.unary],.fv (.b _)⟩
  ·rename_i hb;rw[hb]at hx;injection h with h;subst h;exact⟨_,by simp[execOp,hx.inv_i,Op.unary,Op.intArith],.fv (.i _ _)⟩
 ·rename_i s d x;replace h:=a5I h
  have hx:=H6 ht x;unfold d2F at h;split at h<;>try (cases h;done)
  rename_i si di k n h1 h2 hb;rw[hb]at hx;split at h<;>try (cases h;done)
  rename_i k1 k2 hk1 hk2;injection h with h;subst h;obtain⟨_,_,_,hs⟩:=cx.tf h1;obtain⟨_,_,_,hd⟩:=cx.tf h2;obtain rfl:=hs.isInt hk1;obtain rfl:=hd.isInt hk2;exact⟨_,by simp[execOp,hx.inv_i,convert,Sem.run_bind,hs.underlying,hd.underlying,Conv.intToInt],.fv (.i _ _)⟩
 ·rename_i f first captured;split at h<;>try (cases h;done)
  rename_i hb;injection h with h;injection h with h1 h2;subst h1;simp at hb;refine⟨.func (.func f) #[] #[],by simp[execOp,Instr.makeFunc,hb.1,hb.2],.fv (.fn f)⟩
 ·rename_i x k;replace h:=a5I h
  have hx:=H6 ht x;unfold c96 at h;split at h<;>try (cases h;done)
  rename_i cs hb;rw[hb]at hx;obtain⟨ds,hc,hall⟩:=hx.inv_tup;obtain⟨c,hk,hv⟩:=hall.get h;exact⟨c,by simp[execOp,hc,Instr.extract,hk],hv.toRV⟩
 ·rename_i ty x f;replace h:=a5I h
  have hx:=H6 ht x;unfold d3C at h;split at h<;>try (cases h;done)
  rename_i off fi cs hf hb;rw[hb]at hx;obtain⟨ds,hc,hall⟩:=hx.inv_agg;obtain⟨c,hr,hv⟩:=e69 hf hall h;exact⟨c,by simp[execOp,hc,hr],hv⟩
 ·rename_i ty x f;obtain⟨c,hr,hv⟩:=f0n ht (a5I h);exact⟨c,by simp[execOp,hr],hv⟩
 ·rename_i ty parts;replace h:=a5I h
  unfold d7x at h;split at h<;>try (cases h;done)
  rename_i ti hti;split at h<;>try (cases h;done)
  rename_i l hl;split at h<;>try (cases h;done)
  rename_i hall;split at h<;>try (cases h;done)
  rename_i cs hcs;injection h with h;subst h;obtain⟨c,hr,hv⟩:=e5g (w:=w) hti hl hall ht hcs;exact⟨c,by simp[execOp,hr],hv⟩
 ·rename_i cl;obtain⟨callee,args,argTypes⟩:=cl;simp only at h;split at h<;>try (cases h;done)
  ·rename_i x ty hargs htys;have ha:args = #[x]:=by simpa using congrArg g2Q hargs
   have hy:argTypes = #[ty]:=by simpa using congrArg g2Q htys
   subst ha;subst hy;obtain⟨c,hr⟩:=f2e ht (a5I h);exact⟨c,by simp[execOp,resolve,invoke,builtin,(hr rt).1],(hr rt).2⟩
  ·rename_i tys x y hargs;have ha:args = #[x,y]:=by simpa using congrArg g2Q hargs
   subst ha;replace h:=a5I h
   have hx:=H6 ht x;have hy:=H6 ht y;unfold d7V at h;split at h<;>try (cases h;done)
   rename_i k n k' m h1 h2;rw[h1]at hx;rw[h2]at hy;split at h<;>try (cases h;done)
   rename_i hk;subst hk;injection h with h;subst h;exact⟨_,by simp[execOp,resolve,invoke,builtin,Builtin.min_,Builtin.min2,hx.inv_i,hy.inv_i],.fv (.i _ _)⟩
 ·rename_i ty x ix;obtain⟨c,hr,hv⟩:=f0V ht h hp;exact⟨c,by simp[execOp,hr],hv⟩
 ·rename_i ty x ix;obtain⟨c,hr,hv⟩:=f6f ht h hp;exact⟨c,by simp[execOp,hr],hv⟩
 ·rename_i ty x lo hi;obtain⟨c,hr,hv⟩:=f6X ht h hp;exact⟨c,by simp[execOp,hr],hv⟩
 ·cases h
end
abbrev U0:=(Nat×Nat)×x8
def a0l(lo n n':Nat)(rows:List (List V)):Nat×List (List V)×List Prop:=
 match lo with
 | 0=>(n',rows,[n=n'])
 |lo+1=>(n,(rows.drop (lo+1)).take n,[lo+1+n<=n'])
def b03{lo n n':Nat}{rows:List (List V)}(hl:(O rows)=n')(h:∀p∈(a0l lo n n' rows).2.2,p):lo+n<=n'/\(a0l lo n n' rows).1=n/\(a0l lo n n' rows).2.1=(rows.drop lo).take n:=by
 cases lo with
 |zero=>
  have:n=n':=h _ (by simp[a0l]);subst this;refine⟨by omega,rfl,?_⟩;show rows=_
  rw[g2a,g1A (by omega)]
 |succ lo=>
  have:lo+1+n<=n':=h _ (by simp[a0l]);exact⟨this,rfl,rfl⟩
def fzP(ck:Option Nat)(v:V):m7 (V×List U0×List Prop):=
 match v with
 | .own g j sz lo n=>m7.bind (m7.rd g j) λe=>
  match e with
  | .row _ sz' n' rows=>if sz=sz' then m7.pure (.sl sz (a0l lo n n' rows).1 (a0l lo n n' rows).2.1,[((g,j),.frz sz' n' rows)],(a0l lo n n' rows).2.2)else m7.no
  | .frz sz' n' rows=>if sz=sz' then m7.pure (.sl sz (a0l lo n n' rows).1 (a0l lo n n' rows).2.1,[],(a0l lo n n' rows).2.2)else m7.no
  |_=>m7.no
 | .nil=>match ck with
  |some sz=>m7.pure (.sl sz 0 [],[],[])
  |none=>m7.pure (.nil,[],[])
 | .sl sz n rows=>m7.pure (.sl sz n rows,[],[])
 | .b x=>m7.pure (.b x,[],[])
 | .i k n=>m7.pure (.i k n,[],[])
 | .s x=>m7.pure (.s x,[],[])
 | .fn f=>m7.pure (.fn f,[],[])
 |_=>m7.no
def b4V:List (Option Nat)->List V->m7 (List V×List U0×List Prop)
 |_,[]=>m7.pure ([],[],[])
 |ck,v::vs=>m7.bind (fzP (ck.headD Z) v) λx=>m7.bind (b4V ck.tail vs) λy=>m7.pure (x.1::y.1,x.2.1++y.2.1,x.2.2++y.2.2)
def Frz(S S':St):Prop:=(∀g,S.D g↔S'.D g)/\(O S'.h)=(O S.h)/\S'.t=S.t/\∀g j e,S.ent g j=U e->S'.ent g j=U e\/∃e' sz n rows,e=.row e' sz n rows/\S'.ent g j=U (.frz sz n rows)
def Frz.refl(S:St):Frz S S:=⟨λ_=>Iff.rfl,rfl,rfl,λ_ _ _ h=>.inl h⟩
def m7.bind_some{C β:Type}{m:m7 C}{f:C->m7 β}{H:Hp}{r:β×List (Nat×Nat)}(h:m7.bind m f H=U r):∃a l l',m H=U (a,l)/\f a H=U (r.1,l')/\r.2=l++l':=by
 unfold m7.bind at h;split at h
 ·rename_i a l hm;split at h
  ·rename_i b l' hf;injection h with h;subst h;exact⟨a,l,l',hm,hf,rfl⟩
  ·cases h
 ·cases h
def m7.pure_some{C:Type}{a:C}{H:Hp}{r:C×List (Nat×Nat)}(h:m7.pure a H=U r):r=(a,[]):=by
 unfold m7.pure at h;injection h with h;exact h.symm
def m7.rd_some{g j:Nat}{H:Hp}{r:x8×List (Nat×Nat)}(h:m7.rd g j H=U r):H g j=U r.1/\r.2=[(g,j)]:=by
 unfold m7.rd at h;split at h
 ·rename_i e he;injection h with h;subst h;exact⟨he,rfl⟩
 ·cases h
def m7.lift_some{C:Type}{o:Option C}{H:Hp}{r:C×List (Nat×Nat)}(h:m7.lift o H=U r):o=U r.1/\r.2=[]:=by
 unfold m7.lift at h;split at h
 ·rename_i a;injection h with h;subst h;exact⟨rfl,rfl⟩
 ·cases h
def a1I{C:Type}:∀{l:List C} {i:Nat} {x:C},l[i]?=U x->l.set i x=l
 | [],_,_,h=>by simp at h
 |y::l,0,x,h=>by simp at h;subst h;rfl
 |y::l,i+1,x,h=>by simp at h;simp[a1I h]
section
variable {J:U2} {F:Nat->Prop} {G:Nat->Nat->Value} {S S':St} {a:Act} {w:World}
def St.upds_t(S:St):∀us:List U0,(S.upds us).t=S.t
 | []=>rfl
 | ((g,j),e)::us=>by rw[St.upds,St.upds_t,a85]
def St.upds_append(S:St):∀us vs:List U0,S.upds (us++vs)=(S.upds us).upds vs
 | [],_=>rfl
 | ((g,j),e)::us,vs=>by simp only[g17,St.upds];exact St.upds_append _ us vs
def a1z(S:St)(g:Nat):∀us:List U0,(S.upds us).D g↔S.D g
 | []=>Iff.rfl
 | ((g',j),e)::us=>by rw[St.upds,a1z,W6]
def St.upds_len(S:St):∀us:List U0,(S.upds us).h.length=(O S.h)
 | []=>rfl
 | ((g',j),e)::us=>by rw[St.upds,St.upds_len,b1x]
def FV.rows_len{w:World}{F:Nat->Prop}{sz n:Nat}{rows:List (List V)}{c:Value}(h:FV w F (.sl sz n rows) c):(O rows)=n:=by
 cases h with
 |sl0 sz a cap=>rfl
 |sl sz n rows g o cap ds hF hr hn hs hc hseg=>exact hn
def a8E{D:Nat->Prop}{e sz n' lo n g j:Nat}{rows:List (List V)}{c:Value}(hr:FV w F (.sl sz n' rows) (G g j))(hc:RC w F D G (.own g j sz lo n) c)(hle:lo+n<=n'):FV w F (.sl sz n ((rows.drop lo).take n)) c:=by
 cases hc with
 |fv v c h=>cases h
 |own g j sz lo n b nn cap hD hι hlo hb0 hb1=>
  rw[hι]at hr;obtain⟨b',cap',he,_⟩:=b7B hr;injection he with h1 h2 h3;subst h1;subst h2;subst h3;exact hr.sub lo n hle
 |own0 g j sz lo b cap hD hlo=>
  simpa using FV.sl0 sz b cap
def b6e{ck:Option Nat}{v v':V}{us:List U0}{ps:List Prop}{lg:List (Nat×Nat)}{c:Value}(h:A2 J F G S' a w)(hS:Frz S S')(hc:RC w F S'.D G v c)(hf:fzP ck v S.ent=U ((v',us,ps),lg))(hob:∀p∈ps,p) :
  ∃F',(∀k,F k->F' k)/\A2 J F' G (S'.upds us) a w/\Frz S (S'.upds us)/\FV w F' v' c:=by
 unfold fzP at hf;split at hf
 ·rename_i g j sz lo n;obtain⟨e,l,l',hrd,hf',hll⟩:=m7.bind_some hf;clear hf;have hf:=hf';clear hf' hll;obtain⟨he,hl⟩:=m7.rd_some hrd;clear hrd;simp only at he hl;split at hf
  ·rename_i e0 sz' n' rows;split at hf
   ·rename_i hcond;subst hcond;have:=m7.pure_some hf;injection this with h1 h2;injection h1 with h1 h3;injection h3 with h3 h4;subst h1;subst h3;subst h4;have hlen:(O rows)=n':=by
     rcases hS.2.2.2 g j _ he with hs'|⟨e',sz1,n1,rows1,hq,hs'⟩
     ·obtain⟨flat,_,_,hn,_⟩:=h.ents g j _ hs';exact hn
     ·injection hq with q1 q2 q3 q4;subst q1;subst q2;subst q3;subst q4;have hr:FV w F (.sl sz n' rows) (G g j):=h.ents g j _ hs';exact hr.rows_len
    obtain⟨hle,hp1,hp2⟩:=b03 hlen hob;rw[hp1,hp2];rcases hS.2.2.2 g j _ he with hs'|⟨e',sz1,n1,rows1,hq,hs'⟩
    ·obtain⟨F',hF,_,hrel⟩:=h.freeze hs';refine⟨F',hF,hrel,⟨λk=>(hS.1 k).trans (W6.symm),b1x.trans hS.2.1,a85.trans hS.2.2.1,?_⟩,?_⟩
     ·intro g1 j1 e1 h1;simp only[St.upds];rw[W5 hs'];by_cases q:g1=g/\j1=j
      ·obtain⟨rfl,rfl⟩:=q;rw[he]at h1;injection h1 with h1;subst h1;exact .inr ⟨_,_,_,_,rfl,by simp⟩
      ·rw[if_neg q];exact hS.2.2.2 g1 j1 e1 h1
     ·have hre:=hrel.ents g j (.frz sz n' rows) (by rw[W5 hs'];simp);exact a8E (D:=S'.D) (e:=e0) hre (hc.mono (λ_ _ _=>rfl) hF (λ_ x=>x) (λ_ _ _=>rfl)) hle
    ·injection hq with q1 q2 q3 q4;subst q1;subst q2;subst q3;subst q4;have hset:S'.setE g j (.frz sz n' rows)=S':=by
      obtain⟨l,hl⟩:=St.D_of_ent hs';rw[a4s hl];rw[a3p hl]at hs';have h1:l.set j (.frz sz n' rows)=l:=a1I hs';rw[h1];have h2:S'.h.set g (U l)=S'.h:=a1I hl;rw[h2]
     refine⟨F,λ_ x=>x,?_,?_,?_⟩
     ·simp only[St.upds,hset];exact h
     ·simp only[St.upds,hset];exact hS
     ·exact a8E (D:=S'.D) (e:=e0) (h.ents g j _ hs') hc hle
   ·cases hf
  ·rename_i sz' n' rows;split at hf
   ·rename_i hcond;subst hcond;have:=m7.pure_some hf;injection this with h1 h2;injection h1 with h1 h3;injection h3 with h3 h4;subst h1;subst h3;subst h4;rcases hS.2.2.2 g j _ he with hs'|⟨e',sz1,n1,rows1,hq,hs'⟩
    ·have hr:FV w F (.sl sz n' rows) (G g j):=h.ents g j _ hs';obtain⟨hle,hp1,hp2⟩:=b03 hr.rows_len hob;rw[hp1,hp2];exact⟨F,λ_ x=>x,h,hS,a8E (D:=S'.D) (e:=0) (h.ents g j _ hs') hc hle⟩
    ·cases hq
   ·cases hf
  ·cases hf
 all_goals
  first
   | (cases hf;done)
   |skip
 case h_2=>
  have hcc:c=.slice Z 0 0:=by
   cases hc with
   |fv v c h=>cases h;rfl
  subst hcc;split at hf
  ·rename_i sz;have:=m7.pure_some hf;injection this with h1 h2;injection h1 with h1 h3;injection h3 with h3 h4;subst h1;subst h3;subst h4;exact⟨F,λ_ x=>x,h,hS,.sl0 sz Z 0⟩
  ·have:=m7.pure_some hf;injection this with h1 h2;injection h1 with h1 h3;injection h3 with h3 h4;subst h1;subst h3;subst h4;exact⟨F,λ_ x=>x,h,hS,.nil⟩
 all_goals
  have:=m7.pure_some hf;injection this with h1 h2;injection h1 with h1 h3;injection h3 with h3 h4;subst h1;subst h3;subst h4;refine⟨F,λ_ x=>x,h,hS,?_⟩;cases hc with
  |fv v c h=>exact h
def d7h{vs:List V}{cs:List Value}:∀{ck:List (Option Nat)} {vs':List V} {us:List U0} {ps:List Prop} {lg:List (Nat×Nat)} {F:Nat->Prop} {S':St},A2 J F G S' a w->Frz S S'->B5 (RC w F S'.D G) vs cs->b4V ck vs S.ent=U ((vs',us,ps),lg)->(∀p∈ps,p)->
  ∃F',(∀k,F k->F' k)/\A2 J F' G (S'.upds us) a w/\Frz S (S'.upds us)/\FL w F' vs' cs:=by
 induction vs generalizing cs with
 |nil=>
  intro ck vs' us ps lg F S' h hS hc hf hob;have:=m7.pure_some hf;injection this with h1 h2;injection h1 with h1 h3;injection h3 with h3 h4;subst h1;subst h3;subst h4;cases hc;exact⟨F,λ_ x=>x,h,hS,.nil⟩
 |cons v vs ih=>
  intro ck vs' us ps lg F S' h hS hc hf hob;cases hc with
  |cons hv ht=>
   obtain⟨⟨v1,us1,ps1⟩,l1,l2,hf1,hf2,_⟩:=m7.bind_some hf;obtain⟨⟨vs1,us2,ps2⟩,l3,l4,hf3,hf4,_⟩:=m7.bind_some hf2;have:=m7.pure_some hf4;injection this with h1 h2;injection h1 with h1 h3;injection h3 with h3 h4;subst h1;subst h3;subst h4;obtain⟨F1,hF1,hr1,hS1,hv1⟩:=b6e h hS hv hf1 (λp hp=>hob p (g0Z.2 (.inl hp)));have hD:∀k,S'.D k->(S'.upds us1).D k:=λk x=>(a1z S' k us1).2 x
   obtain⟨F2,hF2,hr2,hS2,hv2⟩:=ih hr1 hS1 (ht.imp λ_ _ x=>x.mono (λ_ _ _=>rfl) hF1 hD (λ_ _ _=>rfl)) hf3 (λp hp=>hob p (g0Z.2 (.inr hp)));rw[<-St.upds_append]at hr2 hS2;exact⟨F2,λk x=>hF2 k (hF1 k x),hr2,hS2,.cons _ _ _ _ (hv1.mono (λ_ _ _=>rfl) hF2) hv2⟩
end
def St.apply(S:St)(grp:Nat)(dst:Option Nat)(o:E0):St:=
 let S1:=S.upds o.upd;let S2:=match o.new with
  |none=>S1
  |some new=>S1.lay grp new
 {S2 with t:=Z3 S2.t dst o.v}
def a0n(P:Program)(J:U2)(G:Nat->Nat->Value)(S:St)(grp:Nat)(ob:Oper)(out:E0)(a:Act)(w:World):Prop:=
 ∃nx c w' F' ι',(execOp a.eval ob).run P w=.ok nx w'/\(nx=.value c\/(nx=.skip/\c=undef))/\A2 J F' ι' (S.apply grp ob.dst out) (a.put ob.dst c) w'
def R3(G:Nat->Nat->Value)(grp:Nat)(c:Value):Nat->Nat->Value:=λg j=>if g=grp then c else G g j
def b1U{G:Nat->Nat->Value}{grp g j:Nat}{c:Value}(h:g≠grp):R3 G grp c g j=G g j:=by simp[R3,h]
def V3{G:Nat->Nat->Value}{grp j:Nat}{c:Value}:R3 G grp c grp j=c:=by simp[R3]
section
variable {cx:Cx} {J:U2} {F:Nat->Prop} {G:Nat->Nat->Value} {S:St} {a:Act} {w:World}
def A2.new1(h:A2 J F G S a w){grp:Nat}(hg:grp<(O S.h))(hn:¬S.D grp){w':World}(hgr:w.grownBy w' Z){ent:x8}{c0:Value}(hb:∀k,EB w' ent c0 k->w.heap.size<=k)(hre:RE w' F (S.lay grp [ent]).D (R3 G grp c0) ent c0):A2 J F (R3 G grp c0) (S.lay grp [ent]) a w':=by
 have h':=h.world (w':=w') ⟨hgr.os,hgr.tape,hgr.output⟩ hgr.size (λk hk=>hgr.block k hk (by simp));refine h'.lay hg hn (λg j q=>b1U q) ?_ ?_ ?_ ?_
 ·intro j e he;cases j with
  |zero=>simp at he;subst he;rw[V3];exact hre
  |succ j=>simp at he
 ·intro j e k he hl hk;rw[V3]at hk;cases j with
  |succ j=>simp at he
  |zero=>
  simp at he;subst he;have:=hb k hk;refine⟨λhF => ?_,.inr (g1C h.kept.size this)⟩;have:=h.F1 k hF;omega
 ·intro j e j' e' k he he' _ _ _ _;cases j<;>cases j'<;>simp_all
 ·intro j e g' j' e' k he he' _ hl' hk hk';rw[V3]at hk;cases j with
  |succ j=>simp at he
  |zero=>
  simp at he;subst he;have h1:=hb k hk;have h2:=h.lt he' hl' ((h.ents g' j' e' he').back (λk q=>hgr.block k (h.lt he' hl' q) (by simp)) hk');omega
def a54(w:World)(o:Obj):w.grownBy (w.alloc o) Z:=World.grownBy_alloc w o Z
def e5m{grp:Nat}{new:List x8}(hn:¬S.D grp){c0:Value}:(∀g,S.D g->(S.lay grp new).D g)/\(∀g j,S.D g->R3 G grp c0 g j=G g j):=
 ⟨λg x=>b97 x,λg j x=>b1U λq=>hn (q▸x)⟩
def c7s(cx:Cx)(grp:Nat)(e:Nat):Option E0:=
 match cx.T e with
 |some ti=>match ti.arr with
  |some (n,ee)=>match cx.T ee with
   |some ei=>U {v:=.ptr grp 0 0,new:=U [.arr e ei.size n (g00 n ei.zero)],obl:=[(g00 n ei.zero).flatten=ti.zero/\(O ei.zero)=ei.size]}
   |none=>Z
  |none=>U {v:=.ptr grp 0 0,new:=U [.var e ti.zero]}
 |none=>Z
def e8v{P:Program}{t:Nat}{ti:TI}{i:TypeInfo}{d:TypeDesc}{z:Value}{w:World}(h:TF P t ti i d z):(Instr.alloc t Y (.tuple #[])).run P w=.ok (.pointer (U ⟨w.heap.size,0,Z⟩)) (w.alloc (.cells z.cells t)):=by
 simp[Instr.alloc,Sem.run_bind,h.zeroValue,newVar,newRow,newObj,Sem.run]
def e3l{P:Program}{t:Nat}{v:Value}{w:World}:(Instr.box t v).run P w=.ok (.pointer (U ⟨w.heap.size,0,Z⟩)) (w.alloc (.cells v.cells t)):=by
 simp[Instr.box,newVar,newRow,newObj,Sem.run]
def b0E(w:World)(o:Obj):(w.alloc o).heap[w.heap.size]?=U o:=heap_alloc_new w o
def e8V(h:A2 J F G S a w){grp:Nat}(hg:grp<(O S.h))(hn:¬S.D grp){ob:Oper}{e:Nat}(ho:ob.op=.alloc e){out:E0}(hp:c7s cx grp e=U out)(hob:∀p∈out.obl,p):a0n cx.P J G S grp ob out a w:=by
 unfold c7s at hp;split at hp<;>try (cases hp;done)
 rename_i ti hti;obtain⟨i,d,z,htf⟩:=cx.tf hti;have hrun:(execOp a.eval ob).run cx.P w=.ok (.value (.pointer (U ⟨w.heap.size,0,Z⟩))) (w.alloc (.cells z.cells e)):=by
  simp[execOp,ho,e8v htf]
 have hz:FL (w.alloc (.cells z.cells e)) F ti.zero z.cells.toList:=by rw[<-htf.zeros];exact FL.ofCells _ htf.one
 split at hp
 ·rename_i n ee harr;split at hp<;>try (cases hp;done)
  rename_i ei hei;injection hp with hp;subst hp;have hq:=hob _ (g03.2 rfl);have hrel:=h.new1 hg hn (a54 w (.cells z.cells e)) (ent:=.arr e ei.size n (g00 n ei.zero)) (c0:=.pointer (U ⟨w.heap.size,0,Z⟩))
   (by intro k hk;simp[EB,E1]at hk;omega) ⟨w.heap.size,z.cells,rfl,b0E w _,by rw[hq.1];exact hz,by simp,by intro r hr;rw[(g1O.1 hr).2];exact hq.2⟩
  refine⟨_,_,_,F,R3 G grp (.pointer (U ⟨w.heap.size,0,Z⟩)),hrun,.inl rfl,?_⟩;exact hrel.put ob.dst (.cell (.ptr grp 0 0 w.heap.size (a11 hg) V3))
 ·injection hp with hp;subst hp;have hrel:=h.new1 hg hn (a54 w (.cells z.cells e)) (ent:=.var e ti.zero) (c0:=.pointer (U ⟨w.heap.size,0,Z⟩))
   (by intro k hk;simp[EB,E1]at hk;omega) ⟨w.heap.size,z.cells,rfl,b0E w _,hz.all2.imp λ_ _ x=>.fv _ _ x⟩
  refine⟨_,_,_,F,R3 G grp (.pointer (U ⟨w.heap.size,0,Z⟩)),hrun,.inl rfl,?_⟩;exact hrel.put ob.dst (.cell (.ptr grp 0 0 w.heap.size (a11 hg) V3))
def c7x(cx:Cx)(grp:Nat)(e:Nat)(v:V):Option E0:=
 match v.cells with
 |some cs=>U {v:=.ptr grp 0 0,new:=U [.var e cs]}
 |none=>Z
def e7Y(h:A2 J F G S a w){grp:Nat}(hg:grp<(O S.h))(hn:¬S.D grp){ob:Oper}{e:Nat}{x:Operand}(ho:ob.op=.box e x){out:E0}(hp:c7x cx grp e (z6 S.t x)=U out):a0n cx.P J G S grp ob out a w:=by
 unfold c7x at hp;split at hp<;>try (cases hp;done)
 rename_i cs hcs;injection hp with hp;subst hp;have hrun:(execOp a.eval ob).run cx.P w=.ok (.value (.pointer (U ⟨w.heap.size,0,Z⟩))) (w.alloc (.cells (a.eval x).cells e)):=by
  simp[execOp,ho,e3l]
 have hc:=(H6 h.tmps x).cells hcs;have hs:M7 w (w.alloc (.cells (a.eval x).cells e)) F:=a2D λg hg=>(a54 w _).block g (h.F1 g hg) (by simp)
 obtain⟨m1,m2⟩:=e5m (S:=S) (G:=G) (new:=[.var e cs]) hn (c0:=.pointer (U ⟨w.heap.size,0,Z⟩));have hrel:=h.new1 hg hn (a54 w (.cells (a.eval x).cells e)) (ent:=.var e cs) (c0:=.pointer (U ⟨w.heap.size,0,Z⟩))
  (by intro k hk;simp[EB,E1]at hk;omega) ⟨w.heap.size,_,rfl,b0E w _,hc.imp λ_ _ x=>x.mono hs (λ_ y=>y) m1 m2⟩
 refine⟨_,_,_,F,R3 G grp (.pointer (U ⟨w.heap.size,0,Z⟩)),hrun,.inl rfl,?_⟩;exact hrel.put ob.dst (.cell (.ptr grp 0 0 w.heap.size (a11 hg) V3))
def Y0(ti:TI)(cs:List V):Option V:=
 if ti.agg then if ti.size<=(O cs)then U (.agg (cs.take ti.size))else Z else cs[0]?
def b5P(cx:Cx)(ty:Nat)(x:V)(A:U8):m7 E0:=
 match cx.T ty with
 |none=>m7.no
 |some ti=>match x with
  | .ptr g j off=>m7.bind (m7.rd g j) λe=>match e with
   | .var _ cs=>match Y0 ti (cs.drop off)with
    |some v=>m7.pure {v:=v}
    |none=>m7.no
   | .arr _ sz n rows=>if off=0/\ti.agg=Y/\ti.arr.isSome then m7.pure {v:=.agg rows.flatten,obl:=[n*sz=ti.size]}else m7.no
   |_=>m7.no
  | .eptr g j sz idx off=>m7.bind (m7.rd g j) λe=>match A with
   | .row r=>match Y0 ti (r.drop off)with
    |some v=>match e with
     | .row _ sz' n rows=>if sz'=sz then m7.pure {v:=v,obl:=[rows[idx]?=U r]}else m7.no
     | .arr _ sz' n rows=>if sz'=sz then m7.pure {v:=v,obl:=[rows[idx]?=U r]}else m7.no
     |_=>m7.no
    |none=>m7.no
   |_=>m7.no
  | .fptr cs=>match Y0 ti cs with
   |some v=>m7.pure {v:=v}
   |none=>m7.no
  |_=>m7.no
def a8I{D:Nat->Prop}{ti:TI}{cs:List V}{ds:List Value}{v:V}(h:B5 (RC w F D G) cs ds)(hr:Y0 ti cs=U v):∃c,b15 ti ds=U c/\RV w F D G v c:=by
 unfold Y0 at hr;unfold b15;by_cases ha:ti.agg=Y
 ·rw[if_pos ha]at hr⊢;split at hr<;>try (cases hr;done)
  rename_i hle;injection hr with hr;subst hr;rw[<-h.length,if_pos hle];exact⟨_,rfl,.one _ _ (.agg _ _ (h.take _))⟩
 ·rw[if_neg ha]at hr⊢;obtain⟨c,hc,hv⟩:=h.get hr;exact⟨c,hc,.cell hv⟩
def a8y{g:Nat}{cur:Array Value}{e:Nat}{fr:Nat×Nat}(hg:w.heap[g]?=U (.cells cur e fr))(o:Nat):T8 w g o (cur.toList.drop o):=by
 intro j u hu;rw[cell_of_row w g (o+j) cur e fr hg];rw[g2l]at hu;simpa using hu
def a7O{ob:Oper}{ty:Nat}{ti:TI}{i:TypeInfo}{d:TypeDesc}{z:Value}{x:Operand}(ho:ob.op=.load ty x)(htf:TF cx.P ty ti i d z){g o:Nat}(hx:a.eval x=.pointer (U ⟨g,o,Z⟩)){ds:List Value}(hs:T8 w g o ds){c:Value}(hc:b15 ti ds=U c) :
  (execOp a.eval ob).run cx.P w=.ok (.value c) w:=by
 simp[execOp,ho,hx,Instr.loadAt,Instr.sureAddr,Sem.run_bind,d8E htf hs hc]
def e1t{e sz n:Nat}{rows:List (List V)}{c:Value}{b idx:Nat}{r:List V}(h:OR w F e sz c n rows)(hb:E1 c=U b)(hr:rows[idx]?=U r):∃ds,FL w F r ds/\T8 w b (idx*sz) ds:=by
 obtain⟨flat,ho,hf,hn,hl⟩:=h;rcases ho.2 with⟨hv,h0⟩|⟨g0,cap,cur,hv,_,hg,hnc,hcm,hcs,ht⟩
 ·rw[hv]at hb;cases hb
 ·rw[hv]at hb;simp[E1]at hb;subst hb;refine⟨(flat.drop (idx*sz)).take sz,?_,?_⟩
  ·rw[<-b5B hl hr];exact(hf.drop _).take _
  ·have hseg:T8 w g0 0 flat:=by
    rw[<-ht];have:=(a8y hg 0).take (n*sz);simpa using this
   have:=(hseg.drop (idx*sz)).take sz;simpa using this
def e6i{g:Nat}{cur:Array Value}{e sz:Nat}{rows:List (List V)}{idx:Nat}{r:List V}(hg:w.heap[g]?=U (.cells cur e (0,0)))(hf:FL w F rows.flatten cur.toList)(hl:∀r∈rows,(O r)=sz)(hr:rows[idx]?=U r):∃ds,FL w F r ds/\T8 w g (idx*sz) ds:=by
 refine⟨(cur.toList.drop (idx*sz)).take sz,?_,(a8y hg _).take _⟩;rw[<-b5B hl hr];exact(hf.drop _).take _
def a7n(S:St)(grp:Nat)(dst:Option Nat)(v:V)(ps:List Prop):S.apply grp dst {v:=v,obl:=ps}={S with t:=Z3 S.t dst v}:=rfl
def f1h(h:A2 J F G S a w){grp:Nat}{ob:Oper}{ty:Nat}{x:Operand}{A:U8}(ho:ob.op=.load ty x){out:E0}{lg:List (Nat×Nat)}(hp:b5P cx ty (z6 S.t x) A S.ent=U (out,lg))(hob:∀p∈out.obl,p):a0n cx.P J G S grp ob out a w:=by
 have hx:=H6 h.tmps x;unfold b5P at hp;cases hti:cx.T ty with
 |none=>rw[hti]at hp;cases hp
 |some ti=>
 rw[hti]at hp;obtain⟨i,d,z,htf⟩:=cx.tf hti;generalize z6 S.t x=xv at hp hx;cases xv<;>try (cases hp;done)
 case ptr g j off=>
  obtain⟨hD,b,hι,hc⟩:=hx.inv_ptr;obtain⟨e,l1,l2,hrd,hp',hl12⟩:=m7.bind_some hp;clear hp;have he:=(m7.rd_some hrd).1;simp only at he;have hre:=h.ents g j e he;split at hp'<;>try (cases hp';done)
  ·rename_i e0 cs;obtain⟨g0,cur,h1,hg,hcs⟩:=hre;rw[hι]at h1;injection h1 with h1;injection h1 with h1;injection h1 with h1;subst h1;cases hrv:Y0 ti (cs.drop off)with
   |none=>rw[hrv]at hp';cases hp'
   |some v=>
   rw[hrv]at hp';have:=m7.pure_some hp';injection this with h2 h3;subst h2;obtain⟨c,hrd',hvc⟩:=a8I (hcs.drop off) hrv;exact⟨_,c,w,F,G,a7O ho htf hc (a8y hg off) hrd',.inl rfl,by rw[a7n];exact h.put ob.dst hvc⟩
  ·rename_i e0 sz n rows;obtain⟨g0,cur,h1,hg,hf,hn,hl⟩:=hre;rw[hι]at h1;injection h1 with h1;injection h1 with h1;injection h1 with h1;subst h1;split at hp'<;>try (cases hp';done)
   rename_i hcond;have:=m7.pure_some hp';injection this with h2 h3;subst h2;have hsz:n*sz=ti.size:=hob _ (g03.2 rfl);have hlen:(O cur.toList)=ti.size:=by rw[<-hf.length,a5H hl,hn,hsz]
   refine⟨_,.agg cur,w,F,G,a7O ho htf (by rw[hc,hcond.1]) (a8y hg 0) (c:=.agg cur) ?_,.inl rfl,?_⟩
   ·unfold b15;rw[if_pos hcond.2.1,if_pos (by simp[<-hlen]),g2a,<-hlen,g1n]
   ·rw[a7n];refine h.put ob.dst ?_;have:=RV.ofFL (D:=S.D) (G:=G) hf;simpa using this
 case eptr g j sz idx off=>
  obtain⟨hD,b,hι,hc⟩:=hx.inv_eptr;obtain⟨e,l1,l2,hrd,hp',hl12⟩:=m7.bind_some hp;clear hp;have he:=(m7.rd_some hrd).1;simp only at he;have hre:=h.ents g j e he;cases A<;>try (cases hp';done)
  rename_i r;simp only at hp';cases hrv:Y0 ti (r.drop off)with
  |none=>rw[hrv]at hp';cases hp'
  |some v=>
  rw[hrv]at hp';simp only at hp';split at hp'<;>try (cases hp';done)
  all_goals
   split at hp'<;>try (cases hp';done)
   rename_i hsz;subst hsz;have:=m7.pure_some hp';injection this with h2 h3;subst h2;have hr:=hob _ (g03.2 rfl)
  ·obtain⟨ds,hf,hseg⟩:=e1t hre hι hr;obtain⟨c,hrd',hvc⟩:=a8I (D:=S.D) (G:=G) ((hf.drop off).all2.imp λ_ _ x=>.fv _ _ x) hrv;exact⟨_,c,w,F,G,a7O ho htf hc (hseg.drop off) hrd',.inl rfl,by rw[a7n];exact h.put ob.dst hvc⟩
  ·obtain⟨g0,cur,h1,hg,hf,hn,hl⟩:=hre;rw[h1]at hι;simp[E1]at hι;subst hι;obtain⟨ds,hf',hseg⟩:=e6i hg hf hl hr;obtain⟨c,hrd',hvc⟩:=a8I (D:=S.D) (G:=G) ((hf'.drop off).all2.imp λ_ _ x=>.fv _ _ x) hrv;exact⟨_,c,w,F,G,a7O ho htf hc (hseg.drop off) hrd',.inl rfl,by rw[a7n];exact h.put ob.dst hvc⟩
 case fptr cs=>
  obtain⟨g,o,ds,hF,hfl,hseg,hc⟩:=hx.inv_fptr;simp only at hp;cases hrv:Y0 ti cs with
  |none=>rw[hrv]at hp;cases hp
  |some v=>
  rw[hrv]at hp;have:=m7.pure_some hp;injection this with h2 h3;subst h2;obtain⟨c,hrd',hvc⟩:=a8I (D:=S.D) (G:=G) (hfl.all2.imp λ_ _ x=>.fv _ _ x) hrv;exact⟨_,c,w,F,G,a7O ho htf hc hseg hrd',.inl rfl,by rw[a7n];exact h.put ob.dst hvc⟩
end
def e20{C:Type}(r0 X vs:List C)(k:Nat):C7 (r0++X) ((O r0)+k) vs=r0++C7 X k vs:=by
 unfold C7;rw[List.take_append,List.drop_append,g1A (by omega),show(O r0)+k-(O r0)=k by omega,g1r (by omega),show(O r0)+k+(O vs)-(O r0)=k+(O vs) by omega];simp
def c8M{C:Type}(r0 X vs:List C)(k:Nat)(h:k+(O vs)<=(O r0)):C7 (r0++X) k vs=C7 r0 k vs++X:=by
 unfold C7;rw[g1L (by omega),g2O (by omega)];simp
def a9b{C:Type}{sz:Nat}{vs:List C}{off:Nat}:∀{rows:List (List C)} {idx:Nat} {r:List C},(∀r∈rows,(O r)=sz)->rows[idx]?=U r->off+(O vs)<=sz->
  (rows.set idx (C7 r off vs)).flatten=C7 rows.flatten (idx*sz+off) vs
 | [],idx,r,_,h,_=>by simp at h
 |r0::rs,0,r,hl,h,ho=>by
  simp at h;subst h;have:(O r0)=sz:=hl r0 (by simp);simp only[List.set_cons_zero,g1t,Nat.zero_mul,g1U];rw[c8M _ _ _ _ (by omega)]
 |r0::rs,idx+1,r,hl,h,ho=>by
  simp at h;have h0:(O r0)=sz:=hl r0 (by simp);simp only[List.set_cons_succ,g1t];rw[a9b (λx hx=>hl x (by simp[hx])) h ho,<-e20,h0];congr 1
  rw[g15];omega
def a4f{C:Type}(cs vs:List C)(off:Nat)(h:off+(O vs)<=(O cs)):(C7 cs off vs).length=(O cs):=by
 unfold C7;simp;omega
def c6h{C:Type}(cs vs:List C)(k m:Nat)(h:k+(O vs)<=m)(hm:m<=(O cs)):(C7 cs k vs).take m=C7 (cs.take m) k vs:=by
 have hl:(cs.take m).length=m:=by simp;omega
 have hs:(C7 (cs.take m) k vs).length=m:=by rw[a4f _ _ _ (by omega),hl]
 have e:C7 cs k vs=C7 (cs.take m) k vs++cs.drop m:=by
  rw[<-c8M _ _ _ _ (by omega),g1V]
 rw[e,g1L (by omega),g1A (by omega)]
def a7T{S:St}{g j g' j':Nat}{e:x8}(h:¬(g'=g/\j'=j)):(S.setE g j e).ent g' j'=S.ent g' j':=by
 by_cases q:∃e0,S.ent g j=U e0
 ·obtain⟨e0,he⟩:=q;rw[W5 he,if_neg h]
 ·unfold St.setE;split
  ·rename_i l hl;have hj:l[j]?=Z:=by
    cases hx:l[j]? with
    |none=>rfl
    |some x=>exact absurd ⟨x,by rw[a3p hl];exact hx⟩ q
   have hset:l.set j e=l:=by
    rw[List.set_eq_of_length_le];simpa using hj
   rw[hset,a1I hl]
  ·rfl
def b1B(us:List U0)(g j:Nat):Bool:=us.all λu => !(g==u.1.1&&j==u.1.2)
def c0A{g j:Nat}:∀{us:List U0} {S:St},b1B us g j=Y->(S.upds us).ent g j=S.ent g j
 | [],_,_=>rfl
 | ((g',j'),e)::us,S,h=>by
  simp[b1B]at h;rw[St.upds,c0A (by simp[b1B];exact h.2),a7T (λq=>h.1.elim (λn=>n q.1) (λn=>n q.2))]
def B5.all_one{w:World}{F D:Nat->Prop}{G:Nat->Nat->Value}{vs:List V}{cs:List Value}(h:B5 (RC w F D G) vs cs):∀c∈cs,c.oneCell'=Y:=by
 induction h with
 |nil=>simp
 |cons hc _ ih=>
  intro c hm;rcases g1a.1 hm with rfl|hm
  ·exact hc.one
  ·exact ih c hm
def FL.all_one{w:World}{F:Nat->Prop}{vs:List V}{cs:List Value}(h:FL w F vs cs):∀c∈cs,c.oneCell'=Y:=
 B5.all_one (D:=λ_=>True) (G:=λ_ _=>.nilFunc) (h.all2.imp λ_ _ x=>.fv _ _ x)
def b7u{P:Program}{w:World}{ob:Oper}{a:Act}{ty:Nat}{ti:TI}{i:TypeInfo}{d:TypeDesc}{z:Value}{x y:Operand}(ho:ob.op=.store ty x y)(htf:TF P ty ti i d z){g o e:Nat}(hx:a.eval x=.pointer (U ⟨g,o,Z⟩)){cur:Array Value}(hg:w.heap[g]?=U (.cells cur e (0,0)))(hlen:(a.eval y).cells.size=ti.size)(g0V:o+ti.size<=cur.size)(h1:∀c∈(a.eval y).cells.toList,c.oneCell'=Y) :
  (execOp a.eval ob).run P w=.ok .skip (w.setRow g (C7 cur.toList o (a.eval y).cells.toList).toArray):=by
 have hst:=run_storeCells_at P g o e (a.eval y).cells.toList 0 cur w hg (by simp[hlen];omega) h1;simp only[g2n]at hst;simp[execOp,ho,hx,Instr.storeAt,Instr.sureAddr,storeVar,Sem.run_bind,htf.sizeOf,hlen,hst,C7]
def b4n(cx:Cx)(ty:Nat)(x y:V)(A:U8):m7 E0:=
 match cx.T ty,y.cells with
 |some ti,U vs=>match x with
  | .ptr g j off=>m7.bind (m7.rd g j) λe=>match e with
   | .var t cs=>if(O vs)=ti.size/\off+(O vs)<=(O cs)then m7.pure {v:=.bot,upd:=[((g,j),.var t (C7 cs off vs))]}else m7.no
   |_=>m7.no
  | .eptr g j sz idx off=>m7.bind (m7.rd g j) λe=>match A with
   | .rowck r ck=>m7.bind (b4V ck vs) λf=>match e with
    | .row t sz' n rows=>if sz'=sz/\(O vs)=ti.size/\off+(O vs)<=sz/\b1B f.2.1 g j then m7.pure {v:=.bot,upd:=f.2.1++[((g,j),.row t sz n (rows.set idx (C7 r off f.1)))],obl:=(rows[idx]?=U r)::f.2.2}else m7.no
    | .arr t sz' n rows=>if sz'=sz/\(O vs)=ti.size/\off+(O vs)<=sz/\b1B f.2.1 g j then m7.pure {v:=.bot,upd:=f.2.1++[((g,j),.arr t sz n (rows.set idx (C7 r off f.1)))],obl:=(rows[idx]?=U r)::f.2.2}else m7.no
    |_=>m7.no
   |_=>m7.no
  |_=>m7.no
 |_,_=>m7.no
section
variable {cx:Cx} {J:U2} {F:Nat->Prop} {G:Nat->Nat->Value} {S:St} {a:Act} {w:World}
def b4T(a:Act)(c:Value):a.put Z c=a:=rfl
def b4u(S:St)(grp:Nat)(us:List U0)(ps:List Prop):S.apply grp Z {v:=.bot,upd:=us,obl:=ps}=S.upds us:=by
 simp[St.apply,Z3]
def b4i(w:World)(g:Nat)(cs:Array Value):(w.setRow g cs).heap.size=w.heap.size:=by simp[World.setRow]
def e3E(h:A2 J F G S a w){grp:Nat}{ob:Oper}{ty:Nat}{x y:Operand}{A:U8}(ho:ob.op=.store ty x y)(hd:ob.dst=Z){out:E0}{lg:List (Nat×Nat)}(hp:b4n cx ty (z6 S.t x) (z6 S.t y) A S.ent=U (out,lg))(hob:∀p∈out.obl,p):a0n cx.P J G S grp ob out a w:=by
 have hx:=H6 h.tmps x;have hy:=H6 h.tmps y;unfold b4n at hp;cases hti:cx.T ty with
 |none=>rw[hti]at hp;cases hp
 |some ti=>
 cases hvs:(z6 S.t y).cells with
 |none=>rw[hti,hvs]at hp;cases hp
 |some vs=>
 rw[hti,hvs]at hp;simp only at hp;obtain⟨i,d,z,htf⟩:=cx.tf hti;have hcells:=hy.cells hvs;have hone:=hcells.all_one;have hclen:(O vs)=(a.eval y).cells.size:=by simpa using hcells.length
 generalize z6 S.t x=xv at hp hx;cases xv<;>try (cases hp;done)
 case ptr g j off=>
  obtain⟨hD,b,hι,hc⟩:=hx.inv_ptr;obtain⟨e,l1,l2,hrd,hp',hl12⟩:=m7.bind_some hp;clear hp;have he:=(m7.rd_some hrd).1;simp only at he;have hre:=h.ents g j e he;cases e<;>try (cases hp';done)
  rename_i t cs;simp only at hp';split at hp'<;>try (cases hp';done)
  rename_i hcond;have:=m7.pure_some hp';injection this with h2 h3;subst h2;obtain⟨g0,cur,h1,hg,hcs⟩:=hre;rw[hι]at h1;injection h1 with h1;injection h1 with h1;injection h1 with h1;subst h1;have hl:(O cs)=cur.size:=by simpa using hcs.length
  have hrun:=b7u (P:=cx.P) ho htf hc hg (by omega) (by omega) hone;refine⟨_,undef,_,F,G,hrun,.inr ⟨rfl,rfl⟩,?_⟩;rw[hd,b4T,b4u];refine h.write he rfl ⟨rfl,rfl,rfl⟩ (b4i _ _ _) (λk hk=>setRow_other w b k _ λq=>hk (EB.top (by rw[hι,q];rfl))) (λhs => ?_) (λk hk=>hk);exact⟨b,_,hι,setRow_heap w b cur _ t (0,0) hg,((hcs.splice hcells off).imp λ_ _ x=>x.mono hs (λ_ y=>y) (λ_ y=>W6.2 y) (λ_ _ _=>rfl))⟩
 case eptr g j sz idx off=>
  obtain⟨hD,b,hι,hc⟩:=hx.inv_eptr;obtain⟨e,l1,l2,hrd,hp',hl12⟩:=m7.bind_some hp;clear hp;have he:=(m7.rd_some hrd).1;simp only at he;cases A<;>try (cases hp';done)
  rename_i r ck;simp only at hp';obtain⟨⟨vs',us,fps⟩,l3,l4,hfz,hp'',hl34⟩:=m7.bind_some hp';clear hp';have hfob:∀p∈fps,p:=by
   clear hx;cases e<;>try (cases hp'';done)
   all_goals
    simp only at hp'';split at hp''<;>try (cases hp'';done)
    have:=m7.pure_some hp'';injection this with h2 h3;subst h2;exact λp hp=>hob p (g1a.2 (.inr hp))
  obtain⟨F',hF',hrel,hfr,hfl⟩:=d7h h (Frz.refl S) hcells hfz hfob;have hflen:(O vs')=(O vs):=by rw[hfl.length,hclen];simp
  cases e<;>try (cases hp'';done)
  case row t sz' n rows=>
   simp only at hp'';split at hp''<;>try (cases hp'';done)
   rename_i hcond;obtain⟨rfl,hc1,hc2,hc3⟩:=hcond;have:=m7.pure_some hp'';injection this with h2 h3;subst h2;have hr:rows[idx]?=U r:=hob _ (g1a.2 (.inl rfl));have he':(S.upds us).ent g j=U (.row t sz' n rows):=by rw[c0A hc3];exact he
   obtain⟨flat,hor,hf,hn,hl⟩:=hrel.ents g j _ he';have hidx:=(g06.1 hr).1;rcases hor.2 with⟨hv,h0⟩|⟨g0,cap,cur,hv,hbg,hg,hnc,hcm,hcs,ht⟩
   ·omega
   ·have hb:b=g0:=by rw[hv]at hι;simp[E1]at hι;omega
    subst hb;have hflat:(O flat)=n*sz':=hor.1;have hcl:n*sz'<=cur.size:=by rw[hcs];exact g1x _ hnc
    have hpos:idx*sz'+sz'<=n*sz':=by rw[<-g15];exact g1x _ (by omega)
    have hrun:=b7u (P:=cx.P) ho htf hc hg (by omega) (by omega) hone;refine⟨_,undef,_,F',G,hrun,.inr ⟨rfl,rfl⟩,?_⟩;rw[hd,b4T,b4u,St.upds_append];refine hrel.write he' rfl ⟨rfl,rfl,rfl⟩ (b4i _ _ _) (λk hk=>setRow_other w b k _ λq=>hk (EB.top (by rw[hι,q]))) (λhs => ?_) (λk hk=>hk);have hrl:(O r)=sz':=hl r (g1e hr);refine⟨C7 flat (idx*sz'+off) (a.eval y).cells.toList,⟨?_,.inr ⟨b,cap,_,hv,hbg,setRow_heap w b cur _ t (0,0) hg,hnc,hcm,?_,?_⟩⟩,?_,by simpa using hn,?_⟩
    ·rw[a4f _ _ _ (by simp;omega)];exact hor.1
    ·rw[g2P,a4f _ _ _ (by simp;omega)];simpa using hcs
    ·rw[<-ht];exact c6h _ _ _ _ (by simp;omega) (by simpa using hcl)
    ·rw[a9b hl hr (by omega)];exact FL.of (((hf.all2.splice hfl.all2 _).imp λ_ _ x=>x.mono hs (λ_ y=>y)))
    ·intro q hq;rcases g1F hq with hq|rfl
     ·exact hl q hq
     ·rw[a4f _ _ _ (by omega)];exact hrl
  case arr t sz' n rows=>
   simp only at hp'';split at hp''<;>try (cases hp'';done)
   rename_i hcond;obtain⟨rfl,hc1,hc2,hc3⟩:=hcond;have:=m7.pure_some hp'';injection this with h2 h3;subst h2;have hr:rows[idx]?=U r:=hob _ (g1a.2 (.inl rfl));have he':(S.upds us).ent g j=U (.arr t sz' n rows):=by rw[c0A hc3];exact he
   obtain⟨g0,cur,h1,hg,hf,hn,hl⟩:=hrel.ents g j _ he';have hidx:=(g06.1 hr).1;have hb:b=g0:=by rw[h1]at hι;simp[E1]at hι;omega
   subst hb;have hcl:(O cur.toList)=n*sz':=by rw[<-hf.length,a5H hl,hn]
   have hcl':cur.size=n*sz':=by simpa using hcl
   have hpos:idx*sz'+sz'<=n*sz':=by rw[<-g15];exact g1x _ (by omega)
   have hrun:=b7u (P:=cx.P) ho htf hc hg (by omega) (by omega) hone;refine⟨_,undef,_,F',G,hrun,.inr ⟨rfl,rfl⟩,?_⟩;rw[hd,b4T,b4u,St.upds_append];refine hrel.write he' rfl ⟨rfl,rfl,rfl⟩ (b4i _ _ _) (λk hk=>setRow_other w b k _ λq=>hk (EB.top (by rw[hι,q]))) (λhs => ?_) (λk hk=>hk);have hrl:(O r)=sz':=hl r (g1e hr);refine⟨b,_,h1,setRow_heap w b cur _ t (0,0) hg,?_,by simpa using hn,?_⟩
   ·rw[a9b hl hr (by omega)];exact FL.of (((hf.all2.splice hfl.all2 _).imp λ_ _ x=>x.mono hs (λ_ y=>y)))
   ·intro q hq;rcases g1F hq with hq|rfl
    ·exact hl q hq
    ·rw[a4f _ _ _ (by omega)];exact hrl
end
def c08(z:Array Value):∀n:Nat,(madeCells z (n*z.size)).toList=(g00 n z.toList).flatten
 | 0=>by simp[madeCells]
 |n+1=>by
  rw[List.replicate_succ',g2Y,<-c08 z n];simp only[madeCells,Array.toList_map,Array.toList_range,g1t,List.flatten_nil,g1i];rw[g15,List.range_add,g1W];congr 1
  apply List.ext_getElem?;intro k;simp only[g1Z,g2o];by_cases h:k<z.size
  ·simp[List.getElem?_range h,Nat.mod_eq_of_lt h,h]
  ·rw[g1s (by simp;omega),g1s (by simp;omega)];rfl
def FL.append{w:World}{F:Nat->Prop}{D9 bs:List V}{cs ds:List Value}(h:FL w F D9 cs)(k:FL w F bs ds):FL w F (D9++bs) (cs++ds):=FL.of (h.all2.append k.all2)
def FL.replicate{w:World}{F:Nat->Prop}{D9:List V}{cs:List Value}(h:FL w F D9 cs):∀n,FL w F (g00 n D9).flatten (g00 n cs).flatten
 | 0=>.nil
 |n+1=>by
  rw[g2K,g2K,g1t,g1t];exact h.append (FL.replicate h n)
section
variable {cx:Cx} {J:U2} {F:Nat->Prop} {G:Nat->Nat->Value} {S:St} {a:Act} {w:World}
def A2.world2(h:A2 J F G S a w){X:Option Nat}{w':World}(hg:w.grownBy w' X)(hX:∀k,X=U k->¬F k/\(J.own k\/J.w0.heap.size<=k)/\∀g j e,S.ent g j=U e->e.live=Y->¬EB w e (G g j) k):A2 J F G S a w':=by
  have hs:M7 w w' F:=a2D λg hF=>hg.block g (h.F1 g hF) λq=>(hX g q.symm).1 hF
  have hbk:∀g j e,S.ent g j=U e->e.live=Y->∀k,EB w e (G g j) k->w'.heap[k]?=w.heap[k]?:=λg j e he hl k hk'=>hg.block k (h.lt he hl hk') λq=>(hX k q.symm).2.2 g j e he hl hk'
  exact
    { F0:=h.F0
      F1:=λg hF=>g2m (h.F1 g hF) hg.size
      F2:=h.F2
      kept:=⟨hg.os.trans h.kept.os,hg.tape.trans h.kept.tape,hg.output.trans h.kept.output,g1C h.kept.size hg.size,λk hk hn=>by
        rw[hg.block k (g2m hk h.kept.size) λq => ?_]
        . exact h.kept.block k hk hn
        . rcases(hX k q.symm).2.1 with x|x
          . exact hn x
          . omega⟩
      tmps:=h.tmps.imp λ_ _ x=>x.mono hs (λ_ y=>y) (λ_ y=>y) (λ_ _ _=>rfl)
      ents:=λg j e he=>(h.ents g j e he).mono hs (λ_ y=>y) (λ_ y=>y) (λ_ _ _=>rfl) (λk hl hk'=>hbk g j e he hl k hk')
      sep:=λg j e k he hl hk'=>h.sep g j e k he hl ((h.ents g j e he).back (hbk g j e he hl) hk')
      inj:=λg j e g' j' e' k he he' hl hl' hk1 hk2=>h.inj g j e g' j' e' k he he' hl hl' ((h.ents g j e he).back (hbk g j e he hl) hk1) ((h.ents g' j' e' he').back (hbk g' j' e' he' hl') hk2)
      defers:=h.defers
      pins:=h.pins}
def A2.new2(h:A2 J F G S a w){grp:Nat}(hgl:grp<(O S.h))(hn:¬S.D grp){X:Option Nat}{w':World}(hg:w.grownBy w' X)(hX:∀k,X=U k->¬F k/\(J.own k\/J.w0.heap.size<=k)/\∀g j e,S.ent g j=U e->e.live=Y->¬EB w e (G g j) k){ent:x8}{c0:Value}(hb:∀k,EB w' ent c0 k->X=U k\/w.heap.size<=k)(hre:M7 w w' F->RE w' F (S.lay grp [ent]).D (R3 G grp c0) ent c0):A2 J F (R3 G grp c0) (S.lay grp [ent]) a w':=by
 have hs:M7 w w' F:=a2D λg hF=>hg.block g (h.F1 g hF) λq=>(hX g q.symm).1 hF
 have h':=h.world2 hg hX;refine h'.lay hgl hn (λg j q=>b1U q) ?_ ?_ ?_ ?_
 ·intro j e he;cases j with
  |zero=>simp at he;subst he;rw[V3];exact hre hs
  |succ j=>simp at he
 ·intro j e k he hl hk;rw[V3]at hk;cases j with
  |succ j=>simp at he
  |zero=>
  simp at he;subst he;rcases hb k hk with q|q
  ·exact⟨(hX k q).1,(hX k q).2.1⟩
  ·refine⟨λhF => ?_,.inr (g1C h.kept.size q)⟩;have:=h.F1 k hF;omega
 ·intro j e j' e' k he he' _ _ _ _;cases j<;>cases j'<;>simp_all
 ·intro j e g' j' e' k he he' _ hl' hk hk';rw[V3]at hk;cases j with
  |succ j=>simp at he
  |zero=>
  simp at he;subst he;have hk2:=(h.ents g' j' e' he').back (λk q=>hg.block k (h.lt he' hl' q) λz=>(hX k z.symm).2.2 g' j' e' he' hl' q) hk';rcases hb k hk with q|q
  ·exact(hX k q).2.2 g' j' e' he' hl' hk2
  ·have h2:=h.lt he' hl' hk2;omega
def RC.whole{D:Nat->Prop}{g j e sz n:Nat}{rows:List (List V)}{sv:Value}(hD:D g)(hι:G g j=sv)(h:OR w F e sz sv n rows):RC w F D G (.own g j sz 0 n) sv:=by
 obtain⟨flat,ho,_⟩:=h;rcases ho.2 with⟨rfl,h0⟩|⟨g0,cap,cur,rfl,_,hg,hnc,_⟩
 ·subst h0;have:=RC.own (w:=w) (F:=F) g j sz 0 0 Z 0 0 hD hι (by omega) (λ_=>rfl) (λ_ q=>by cases q);simpa using this
 ·have:=RC.own (w:=w) (F:=F) g j sz 0 n (U ⟨g0,0,Z⟩) n cap hD hι (by omega) (λq=>by cases q) (λad q=>by injection q with q;subst q;rfl);by_cases hc:cap=0
  ·simpa[hc]using this
  ·simpa[hc,Addr.add]using this
def a4e:List (Option Nat)->List V->List V
 |some sz::ck,.nil::vs=>.sl sz 0 []::a4e ck vs
 |_::ck,v::vs=>v::a4e ck vs
 | [],vs=>vs
 |_,[]=>[]
def b9S{w:World}{F:Nat->Prop}:∀{ck:List (Option Nat)} {vs:List V} {cs:List Value},FL w F vs cs->FL w F (a4e ck vs) cs
 | [],vs,cs,h=>by simpa[a4e]using h
 |o::ck,[],_,.nil=>by cases o<;>exact .nil
 |none::ck,v::vs,_,.cons _ c _ cs h t=>.cons _ _ _ _ h (b9S t)
 |some sz::ck,v::vs,_,.cons _ c _ cs h t=>by
  cases v;case nil=>
   cases h;exact .cons _ _ _ _ (.sl0 sz Z 0) (b9S t)
  all_goals exact .cons _ _ _ _ h (b9S t)
def c5Y:∀(ck:List (Option Nat)) (vs:List V),(a4e ck vs).length=(O vs)
 | [],vs=>by simp[a4e]
 |none::ck,[]=>rfl
 |some _::ck,[]=>rfl
 |none::ck,v::vs=>by simp[a4e,c5Y ck vs]
 |some sz::ck,v::vs=>by cases v<;>simp[a4e,c5Y ck vs]
def f9D:U8->List (Option Nat)
 | .ck ck=>ck
 |_=>[]
def c3E(cx:Cx)(grp ty:Nat)(l c:V)(ck:List (Option Nat)):Option E0:=
 match cx.T ty with
 |some ti=>match ti.sl with
  |some e=>match cx.T e with
   |some ei=>match l,c with
    | .i _ n,.i _ n'=>U {v:=.own grp 0 ei.size 0 n.toNat,new:=U [.row e ei.size n.toNat (g00 n.toNat (a4e ck ei.zero))],obl:=[0<=n,n'=n,n*ei.bytes<=140737488355328/\0<ei.bytes,(O ei.zero)=ei.size]}
    |_,_=>Z
   |none=>Z
  |none=>Z
 |none=>Z
def e6u(h:A2 J F G S a w){grp:Nat}(hg:grp<(O S.h))(hn:¬S.D grp){ob:Oper}{ty:Nat}{l c:Operand}(ho:ob.op=.makeSlice ty l c){ck:List (Option Nat)}{out:E0}(hp:c3E cx grp ty (z6 S.t l) (z6 S.t c) ck=U out)(hob:∀p∈out.obl,p):a0n cx.P J G S grp ob out a w:=by
 have hl:=H6 h.tmps l;have hc:=H6 h.tmps c;unfold c3E at hp;split at hp<;>try (cases hp;done)
 rename_i ti hti;split at hp<;>try (cases hp;done)
 rename_i e hs;split at hp<;>try (cases hp;done)
 rename_i ei hei;split at hp<;>try (cases hp;done)
 rename_i k n k' n' h1 h2;injection hp with hp;subst hp;rw[h1]at hl;rw[h2]at hc;have p1:0<=n:=hob _ (by simp);have p2:n'=n:=hob _ (by simp);have p3:n*ei.bytes<=140737488355328/\0<ei.bytes:=hob _ (by simp);have p4:(O ei.zero)=ei.size:=hob _ (by simp);subst p2;obtain⟨m,rfl⟩:=Int.eq_ofNat_of_zero_le p1;obtain⟨i,d,z,htf⟩:=cx.tf hti;obtain⟨i',d',z',hef⟩:=cx.tf hei;obtain rfl:=htf.isSl hs;have hzs:z'.cells.size=ei.size:=by rw[<-p4,<-hef.zeros];simp
 have hb1:m*ei.bytes<=140737488355328:=by
  have:=p3.1;rw[<-Int.natCast_mul]at this;omega
 have hb2:m<=140737488355328:=g1C (g2r _ p3.2) hb1;obtain⟨w',hr,hown,hgr⟩:=run_make_full (P:=cx.P) w 0 ty e i' z' ei.size htf.und hef.info hef.zero hef.size k k' m (by rw[hef.bytes,Nat.mul_comm];omega) (by unfold maxLen;omega) (g2D _);have hrun:(execOp a.eval ob).run cx.P w=.ok (.value (.slice (U ⟨w.heap.size,0,Z⟩) m m)) w':=by
  simp[execOp,ho,hl.inv_i,hc.inv_i,hr]
 have hz:FL w' F ei.zero z'.cells.toList:=by rw[<-hef.zeros];exact FL.ofCells _ hef.one
 have hor:OR w' F e ei.size (.slice (U ⟨w.heap.size,0,Z⟩) m m) m (g00 m (a4e ck ei.zero)):=by
  refine⟨_,hown,?_,by simp,λr hr=>by rw[(g1O.1 hr).2,c5Y];exact p4⟩;rw[<-hzs,c08];exact(b9S hz).replicate m
 have hrel:=h.new1 hg hn hgr (ent:=.row e ei.size m (g00 m (a4e ck ei.zero))) (c0:=.slice (U ⟨w.heap.size,0,Z⟩) m m) (by intro q hq;simp[EB,E1]at hq;omega) hor;refine⟨_,_,_,F,R3 G grp (.slice (U ⟨w.heap.size,0,Z⟩) m m),hrun,.inl rfl,?_⟩;exact hrel.put ob.dst (.cell (RC.whole (a11 hg) V3 hor))
def a33(pt:Bool)(lo n n':Nat)(rows:List (List V)):Nat×List (List V)×List Prop:=
 match pt with
 |true=>(n,(rows.drop lo).take n,[lo+n<=n'])
 |false=>a0l lo n n' rows
def d8B{pt:Bool}{lo n n':Nat}{rows:List (List V)}(hl:(O rows)=n')(h:∀p∈(a33 pt lo n n' rows).2.2,p):lo+n<=n'/\(a33 pt lo n n' rows).1=n/\(a33 pt lo n n' rows).2.1=(rows.drop lo).take n:=by
 cases pt with
 |true=>exact⟨h _ (by simp[a33]),rfl,rfl⟩
 |false=>exact b03 hl h
def b2D(pt:Bool)(x:V):m7 (Nat×Nat×List (List V)×List Prop):=
 match x with
 | .nil=>m7.pure (0,0,[],[])
 | .sl sz m rows=>m7.pure (sz,m,rows,[])
 | .own g j sz lo m=>m7.bind (m7.rd g j) λe=>match e with
  | .row _ sz' n' rows=>if sz'=sz then m7.pure (sz,a33 pt lo m n' rows)else m7.no
  | .frz sz' n' rows=>if sz'=sz then m7.pure (sz,a33 pt lo m n' rows)else m7.no
  |_=>m7.no
 |_=>m7.no
def Src(w:World)(F:Nat->Prop)(sz m:Nat)(rows:List (List V))(c:Value):Prop:=
 (O rows)=m/\(∀r∈rows,(O r)=sz)/\∃b cap,c=.slice b m cap/\∃ds,FL w F rows.flatten ds/\((m=0/\ds=[])\/∃g o,b=U ⟨g,o,Z⟩/\T8 w g o ds)
def Src.of_fv{sz m:Nat}{rows:List (List V)}{c:Value}(h:FV w F (.sl sz m rows) c):Src w F sz m rows c:=by
 cases h with
 |sl0 sz a cap=>exact⟨rfl,by simp,a,cap,rfl,[],.nil,.inl ⟨rfl,rfl⟩⟩
 |sl sz n rows g o cap ds hF hr hn hs hc hseg=>exact⟨hn,hs,_,cap,rfl,ds,hr,.inr ⟨g,o,rfl,hseg⟩⟩
def Src.sub{e sz n' lo m g j:Nat}{rows:List (List V)}{c:Value}{D:Nat->Prop}(hr:OR w F e sz (G g j) n' rows)(hc:RC w F D G (.own g j sz lo m) c)(hle:lo+m<=n'):Src w F sz m ((rows.drop lo).take m) c:=by
 obtain⟨flat,ho,hf,hn,hl⟩:=hr;have hlen:((rows.drop lo).take m).length=m:=by simp;omega
 have hall:∀r∈(rows.drop lo).take m,(O r)=sz:=λr hr'=>hl r (g10 (g1M hr'))
 cases hc with
 |fv v c h=>cases h
 |own0 g j sz lo b cap hD hlo=>exact⟨hlen,hall,b,cap,rfl,[],by simpa using FL.nil,.inl ⟨rfl,rfl⟩⟩
 |own g j sz lo n b nn cap hD hι hlo hb0 hb1=>
  refine⟨hlen,hall,_,_,rfl,(flat.drop (lo*sz)).take (m*sz),?_,?_⟩
  ·rw[c3j m (λr hr'=>hl r (g10 hr')),b9Q lo hl];exact(hf.drop _).take _
  ·by_cases h0:m=0
   ·left;subst h0;simp
   ·right
    rcases ho.2 with⟨hv,hz⟩|⟨g0,cap0,cur,hv,_,hg,hnc,hcm,hcs,ht⟩
    ·omega
    ·rw[hι]at hv;injection hv with e1 e2 e3;subst e1;subst e3;have hseg:T8 w g0 0 flat:=by
      rw[<-ht];have:=(a8y hg 0).take (n'*sz);simpa using this
     refine⟨g0,lo*sz,?_,?_⟩
     ·rw[if_neg (by omega)];simp[a4z]
     ·have:=(hseg.drop (lo*sz)).take (m*sz);simpa using this
def c9w(h:A2 J F G S a w){x:V}{c:Value}(hc:RV w F S.D G x c){sz m:Nat}{rows:List (List V)}{ps:List Prop}{lg:List (Nat×Nat)}{pt:Bool}(hx:b2D pt x S.ent=U ((sz,m,rows,ps),lg))(hob:∀p∈ps,p):Src w F sz m rows c:=by
 unfold b2D at hx;cases x<;>try (cases hx;done)
 case nil=>
  have:=m7.pure_some hx;injection this with h1 h2;injection h1 with h1 h3;injection h3 with h3 h4;injection h4 with h4 h5;subst h1;subst h3;subst h4;subst h5;obtain rfl:=hc.inv_nil;exact⟨rfl,by simp,Z,0,rfl,[],.nil,.inl ⟨rfl,rfl⟩⟩
 case sl sz0 n0 rows0=>
  have:=m7.pure_some hx;injection this with h1 h2;injection h1 with h1 h3;injection h3 with h3 h4;injection h4 with h4 h5;subst h1;subst h3;subst h4;subst h5;exact Src.of_fv hc.inv_sl
 case own g j sz0 lo m0=>
  obtain⟨e,l1,l2,hrd,hp,hl12⟩:=m7.bind_some hx;clear hx;have he:=(m7.rd_some hrd).1;simp only at he;have hre:=h.ents g j e he;have hrc:RC w F S.D G (.own g j sz0 lo m0) c:=by
   cases hc with
   |one v c h=>cases h with
    |cell v c h=>exact h
  cases e<;>try (cases hp;done)
  case row t sz' n' rows'=>
   simp only at hp;split at hp<;>try (cases hp;done)
   rename_i hcond;subst hcond;have:=m7.pure_some hp;injection this with h1 h2;injection h1 with h1 h3;subst h1;obtain⟨flat,_,_,hn,_⟩:=id hre;have h3a:m=(a33 pt lo m0 n' rows').1:=congrArg (·.1) h3;have h3b:rows=(a33 pt lo m0 n' rows').2.1:=congrArg (·.2.1) h3;have h3c:ps=(a33 pt lo m0 n' rows').2.2:=congrArg (·.2.2) h3;subst h3c;obtain⟨hle,hp1,hp2⟩:=d8B hn hob;rw[h3a,h3b,hp1,hp2];exact Src.sub hre hrc hle
  case frz sz' n' rows'=>
   simp only at hp;split at hp<;>try (cases hp;done)
   rename_i hcond;subst hcond;have:=m7.pure_some hp;injection this with h1 h2;injection h1 with h1 h3;subst h1;have hr:FV w F (.sl _ n' rows') (G g j):=hre;have h3a:m=(a33 pt lo m0 n' rows').1:=congrArg (·.1) h3;have h3b:rows=(a33 pt lo m0 n' rows').2.1:=congrArg (·.2.1) h3;have h3c:ps=(a33 pt lo m0 n' rows').2.2:=congrArg (·.2.2) h3;subst h3c;obtain⟨hle,hp1,hp2⟩:=d8B hr.rows_len hob;rw[h3a,h3b,hp1,hp2];exact Src.of_fv (a8E (e:=0) (D:=S.D) hre hrc hle)
def b1I(pt:Bool)(cx:Cx)(grp ty:Nat)(s x:V):m7 E0:=
 match cx.T ty with
 |some ti=>match ti.sl with
  |some e=>match cx.T e with
   |some ei=>m7.bind (b2D pt x) λq=>
    if(q.1=ei.size\/q.2.1=0)/\0<ei.size/\0<ei.bytes/\(O ei.zero)=ei.size then
     match s with
     | .nil=>m7.pure {v:=.own grp 0 ei.size 0 q.2.1,new:=U [.row e ei.size q.2.1 q.2.2.1],obl:=(q.2.1*ei.bytes<=140737488355328)::q.2.2.2}
     | .own g j sz 0 n=>m7.bind (m7.rd g j) λen=>match en with
      | .row e' sz' n' rows=>if e'=e/\sz=ei.size/\sz'=ei.size then m7.pure {v:=.own grp 0 ei.size 0 (n'+q.2.1),new:=U [.row e ei.size (n'+q.2.1) (rows++q.2.2.1)],upd:=[((g,j),.dead)],obl:=(n=n')::((n'+q.2.1)*ei.bytes<=140737488355328)::q.2.2.2}else m7.no
      |_=>m7.no
     |_=>m7.no
    else m7.no
   |none=>m7.no
  |none=>m7.no
 |none=>m7.no
def d2e{P:Program}{ty e:Nat}{ti ei:TI}{i i':TypeInfo}{d d':TypeDesc}{z z':Value}(htf:TF P ty ti i d z)(hd:d=.slice e)(hef:TF P e ei i' d' z')(h0:0<ei.size)(hb0:0<ei.bytes)(hzl:(O ei.zero)=ei.size){sv:Value}{n:Nat}{flat:List Value}(hown:w.ownsRow 0 e ei.size sv n flat){sz m:Nat}{rows:List (List V)}{c:Value}(hsz:sz=ei.size\/m=0)(hsrc:Src w F sz m rows c)(hb:(n+m)*ei.bytes<=140737488355328)(rt:Nat) :
  ∃v' w' ds,(Builtin.append_ #[ty,ty] rt #[sv,c]).run P w=.ok v' w'/\w'.ownsRow 0 e ei.size v' (n+m) (flat++ds)/\w.grownBy w' sv.ownBlock/\(v'.ownBlock=sv.ownBlock\/v'.ownBlock=U w.heap.size)/\FL w F rows.flatten ds:=by
 obtain⟨hn,hl,b,cap,rfl,ds,hf,hor⟩:=hsrc;subst hd;have hzs:z'.cells.size=ei.size:=by rw[<-hzl,<-hef.zeros];simp
 have hm63:n+m<=maxLen:=by
  have:n+m<=140737488355328:=g1C (g2r _ hb0) hb;unfold maxLen;omega
 have hdl:(O ds)=m*ei.size:=by
  rw[<-hf.length,a5H hl,hn];rcases hsz with rfl|rfl<;>simp
 have hone:∀u∈ds,u.oneCell'=Y:=hf.all_one
 cases b with
 |none=>
  have hm0:m=0/\ds=[]:=by
   rcases hor with h|⟨g,o,hq,_⟩
   ·exact h
   ·cases hq
  obtain⟨rfl,rfl⟩:=hm0;refine⟨sv,w,[],?_,by simpa using hown,⟨rfl,rfl,rfl,g07 _,λ_ _ _=>rfl⟩,.inl rfl,hf⟩;rcases hown.2 with⟨rfl,rfl⟩|⟨g,cp,cur,rfl,_,_,hnc,_⟩
  ·simp[Builtin.append_,run_underlying htf.und,Go.sizeOf,typeInfo,hef.info,Builtin.lenOf,Builtin.firstCells]
  ·simp[Builtin.append_,run_underlying htf.und,Go.sizeOf,typeInfo,hef.info,Builtin.lenOf,Builtin.firstCells,hnc,storeCells]
 |some ad=>
  have hnews:∀j u,ds[j]?=U u->w.cell? (ad.add j)=U u:=by
   rcases hor with⟨_,rfl⟩|⟨g,o,hq,hseg⟩
   ·simp
   ·injection hq with hq;subst hq;intro j u hu;rw[a4z];exact hseg j u hu
  obtain⟨v',w',h1,h2,h3,_,h5⟩:=run_append_own_at (P:=P) w 0 ty rt e i' z' ei.size ei.bytes htf.und hef.info hef.zero hef.size hef.bytes hzs h0 sv n flat hown ad m cap ds hdl hnews hone hm63 hb (g2D _);exact⟨v',w',ds,h1,h2,h3,h5,hf⟩
def b1S{e sz n:Nat}{sv:Value}{flat:List Value}(h:w.ownsRow 0 e sz sv n flat):sv.ownBlock=E1 sv:=by
 rcases h.2 with⟨rfl,_⟩|⟨g,cap,cur,rfl,_⟩<;>rfl
def f1N(h:A2 J F G S a w){grp:Nat}(hg:grp<(O S.h))(hn:¬S.D grp){ob:Oper}{ty:Nat}{s x:Operand}{rt:Nat}(ho:ob.op=.call {callee:=.builtin .append,args := #[s,x],argTypes := #[ty,ty]}){out:E0}{lg:List (Nat×Nat)}{pt:Bool}(hp:b1I pt cx grp ty (z6 S.t s) (z6 S.t x) S.ent=U (out,lg))(hob:∀p∈out.obl,p):a0n cx.P J G S grp ob out a w:=by
 have hs:=H6 h.tmps s;have hx:=H6 h.tmps x;unfold b1I at hp;cases hti:cx.T ty with
 |none=>rw[hti]at hp;cases hp
 |some ti=>
 rw[hti]at hp;simp only at hp;cases hsl:ti.sl with
 |none=>rw[hsl]at hp;cases hp
 |some e=>
 rw[hsl]at hp;simp only at hp;cases hei:cx.T e with
 |none=>rw[hei]at hp;cases hp
 |some ei=>
 rw[hei]at hp;simp only at hp;obtain⟨i,d,z,htf⟩:=cx.tf hti;obtain⟨i',d',z',hef⟩:=cx.tf hei;have hd:=htf.isSl hsl;obtain⟨⟨sz,m,rows2,sps⟩,l1,l2,hsrc,hp',hl12⟩:=m7.bind_some hp;clear hp;have hsob:∀p∈sps,p:=by
  simp only at hp';split at hp'<;>try (cases hp';done)
  generalize z6 S.t s=sv at hp';cases sv<;>try (cases hp';done)
  case nil=>
   have:=m7.pure_some hp';injection this with h2 h3;subst h2;exact λp hp=>hob p (g1a.2 (.inr hp))
  case own g j sz0 lo0 n0=>
   cases lo0 with
   |succ q=>cases hp'
   |zero=>
   simp only at hp';obtain⟨en,l3,l4,hrd,hp'',hl34⟩:=m7.bind_some hp';clear hp';cases en<;>try (cases hp'';done)
   simp only at hp'';split at hp''<;>try (cases hp'';done)
   have:=m7.pure_some hp'';injection this with h2 h3;subst h2;exact λp hp=>hob p (g1a.2 (.inr (g1a.2 (.inr hp))))
 have hsr:=c9w h hx hsrc hsob;simp only at hp';split at hp'<;>try (cases hp';done)
 rename_i hcond;obtain⟨hc1,hc2,hc3,hc4⟩:=hcond;generalize z6 S.t s=sv at hp' hs;have hrows:∀r∈rows2,(O r)=ei.size:=by
  intro r hr;rcases hc1 with q|q
  ·rw[<-q];exact hsr.2.1 r hr
  ·have:rows2=[]:=g1c (hsr.1.trans q);rw[this]at hr;cases hr
 cases sv<;>try (cases hp';done)
 case nil=>
  have:=m7.pure_some hp';injection this with h2 h3;subst h2;obtain hcs:=hs.inv_nil;have hb:m*ei.bytes<=140737488355328:=hob _ (g1a.2 (.inl rfl));obtain⟨v',w',ds,hr,hown,hgr,hat,hf⟩:=d2e htf hd hef hc2 hc3 hc4 (World.ownsRow_nil w 0 e ei.size) hc1 hsr (by simpa using hb) ob.type;have hrun:(execOp a.eval ob).run cx.P w=.ok (.value v') w':=by
   simp[execOp,ho,resolve,invoke,builtin,hcs,hr]
  have hor:M7 w w' F->OR w' F e ei.size v' m rows2:=λhs'=>⟨_,by simpa using hown,by simpa using hf.mono hs' (λ_ y=>y),hsr.1,hrows⟩
  have hX:∀k,Value.ownBlock (.slice Z 0 0)=U k->¬F k/\(J.own k\/J.w0.heap.size<=k)/\∀g j e,S.ent g j=U e->e.live=Y->¬EB w e (G g j) k:=by intro k hk;cases hk
  have hrel:=h.new2 hg hn hgr hX (ent:=.row e ei.size m rows2) (c0:=v') (by
   intro k hk;have hk:E1 v'=U k:=hk;rw[<-b1S hown]at hk;rcases hat with q|q
   ·rw[q]at hk;cases hk
   ·rw[q]at hk;injection hk with hk;exact .inr (by omega)) hor
  have hs':M7 w w' F:=a2D λg hF=>hgr.block g (h.F1 g hF) (by intro q;cases q)
  refine⟨_,_,_,F,R3 G grp v',hrun,.inl rfl,?_⟩;exact hrel.put ob.dst (.cell (RC.whole (a11 hg) V3 (hor hs')))
 case own g j sz0 lo0 n0=>
  cases lo0 with
  |succ q=>cases hp'
  |zero=>
  simp only at hp';obtain⟨en,l3,l4,hrd,hp'',hl34⟩:=m7.bind_some hp';clear hp';have he:=(m7.rd_some hrd).1;simp only at he;have hre:=h.ents g j en he;cases en<;>try (cases hp'';done)
  case row e' sz' n' rows=>
   simp only at hp'';split at hp''<;>try (cases hp'';done)
   rename_i hcond;obtain⟨rfl,rfl,rfl⟩:=hcond;have:=m7.pure_some hp'';injection this with h2 h3;subst h2;have hnn:n0=n':=hob _ (by simp);subst hnn;have hb:(n0+m)*ei.bytes<=140737488355328:=hob _ (by simp);obtain⟨flat,hown0,hf0,hn0,hl0⟩:=hre;have hsv:a.eval s=G g j:=by
    obtain⟨hD,⟨b,nn,cap,hι,hlo,hb0,hb1,hc⟩|⟨hl0',_⟩⟩:=hs.inv_own;case inr=>omega
    rcases hown0.2 with⟨hv,hz⟩|⟨g0,cap0,cur,hv,_⟩
    ·rw[hι]at hv;injection hv with e1 e2 e3;subst e1;subst e2;subst e3;subst hz;rw[hc,hι];simp
    ·rw[hι]at hv;injection hv with e1 e2 e3;subst e1;subst e2;subst e3;rw[hc,hι];by_cases q:cap=0
     ·simp[q]
     ·simp[q,Addr.add]
   obtain⟨v',w',ds,hr,hown,hgr,hat,hf⟩:=d2e htf hd hef hc2 hc3 hc4 hown0 hc1 hsr hb ob.type;have hrun:(execOp a.eval ob).run cx.P w=.ok (.value v') w':=by
    simp[execOp,ho,resolve,invoke,builtin,hsv,hr]
   have hkill:=h.kill he;have hor:M7 w w' F->OR w' F e' ei.size v' (n0+m) (rows++rows2):=λhs'=>⟨_,hown,by rw[g2Y];exact(hf0.mono hs' (λ_ y=>y)).append (hf.mono hs' (λ_ y=>y)),by rw[g08,hn0,hsr.1],by
    intro r hr';rcases g0Z.1 hr' with q|q
    ·exact hl0 r q
    ·exact hrows r q⟩
   have hX:∀k,(G g j).ownBlock=U k->¬F k/\(J.own k\/J.w0.heap.size<=k)/\∀g' j' e,(S.setE g j .dead).ent g' j'=U e->e.live=Y->¬EB w e (G g' j') k:=by
    intro k hk;rw[b1S hown0]at hk;obtain⟨x1,x2⟩:=h.sep g j _ k he rfl hk;refine⟨x1,x2,?_⟩;intro g' j' e1 he1 hl1 hk1;rw[W5 he]at he1;split at he1
    ·injection he1 with he1;subst he1;cases hl1
    ·rename_i q;exact q (h.inj g' j' e1 g j _ k he1 he hl1 rfl hk1 hk)
   have hnD:¬(S.setE g j .dead).D grp:=λq=>hn (W6.1 q)
   have hrel:=hkill.new2 (by rw[b1x];exact hg) hnD hgr hX (ent:=.row e' ei.size (n0+m) (rows++rows2)) (c0:=v') (by
    intro k hk;have hk:E1 v'=U k:=hk;rw[<-b1S hown]at hk;rcases hat with q|q
    ·rw[q]at hk;exact .inl hk
    ·rw[q]at hk;injection hk with hk;exact .inr (by omega)) hor
   have hs':M7 w w' F:=a2D λg1 hF=>hgr.block g1 (h.F1 g1 hF) λq=>(hX g1 q.symm).1 hF
   refine⟨_,_,_,F,R3 G grp v',hrun,.inl rfl,?_⟩;exact hrel.put ob.dst (.cell (RC.whole (a11 (by rw[b1x];exact hg)) V3 (hor hs')))
end
section
variable {cx:Cx} {J:U2} {F:Nat->Prop} {G:Nat->Nat->Value} {S:St} {a:Act} {w:World}
def b5m(cx:Cx)(ty:Nat)(s x:V):m7 E0:=
 match cx.T ty with
 |some ti=>match ti.sl with
  |some e=>match cx.T e with
   |some ei=>m7.bind (b2D W x) λq=>
    match s with
    | .own g j sz 0 n=>m7.bind (m7.rd g j) λen=>match en with
     | .row e' sz' n' rows=>if(q.1=ei.size\/q.2.1=0)/\sz=ei.size/\sz'=ei.size then m7.pure {v:=.i .i64 n',upd:=[((g,j),.row e' sz' n' q.2.2.1)],obl:=(n=n')::(q.2.1=n')::q.2.2.2}else m7.no
     |_=>m7.no
    |_=>m7.no
   |none=>m7.no
  |none=>m7.no
 |none=>m7.no
def f5W{P:Program}{size m:Nat}{b:Option Addr}{cap:Nat}{ds:List Value}(hl:(O ds)=m*size)(h:(m=0/\ds=[])\/∃g o,b=U ⟨g,o,Z⟩/\T8 w g o ds):(Builtin.firstCells size m (.slice b m cap)).run P w=.ok ds.toArray w:=by
 rcases h with⟨rfl,rfl⟩|⟨g,o,rfl,hs⟩
 ·cases b<;>simp[Builtin.firstCells,loadCells,loadCellsFrom]
 ·exact run_firstCells_some w size m _ _ _ ds hl (λj v hv=>by rw[a4z];exact hs j v hv)
def f7u(h:A2 J F G S a w){grp:Nat}{ob:Oper}{ty ty2:Nat}{s x:Operand}(ho:ob.op=.call {callee:=.builtin .copy,args := #[s,x],argTypes := #[ty,ty2]}){out:E0}{lg:List (Nat×Nat)}(hp:b5m cx ty (z6 S.t s) (z6 S.t x) S.ent=U (out,lg))(hob:∀p∈out.obl,p):a0n cx.P J G S grp ob out a w:=by
 have hs:=H6 h.tmps s;have hx:=H6 h.tmps x;unfold b5m at hp;cases hti:cx.T ty with
 |none=>rw[hti]at hp;cases hp
 |some ti=>
 rw[hti]at hp;simp only at hp;cases hsl:ti.sl with
 |none=>rw[hsl]at hp;cases hp
 |some e=>
 rw[hsl]at hp;simp only at hp;cases hei:cx.T e with
 |none=>rw[hei]at hp;cases hp
 |some ei=>
 rw[hei]at hp;simp only at hp;obtain⟨i,d,z,htf⟩:=cx.tf hti;obtain⟨i',d',z',hef⟩:=cx.tf hei;obtain rfl:=htf.isSl hsl;obtain⟨⟨sz,m,rows2,sps⟩,l1,l2,hsrc,hp',hl12⟩:=m7.bind_some hp;clear hp;have hsob:∀p∈sps,p:=by
  generalize z6 S.t s=sv at hp';cases sv<;>try (cases hp';done)
  case own g j sz0 lo0 n0=>
   cases lo0 with
   |succ q=>cases hp'
   |zero=>
   simp only at hp';obtain⟨en,l3,l4,hrd,hp'',hl34⟩:=m7.bind_some hp';clear hp';cases en<;>try (cases hp'';done)
   simp only at hp'';split at hp''<;>try (cases hp'';done)
   have:=m7.pure_some hp'';injection this with h2 h3;subst h2;exact λp hp=>hob p (g1a.2 (.inr (g1a.2 (.inr hp))))
 obtain⟨hm,hl2,b2,cap2,hc2,ds,hf2,hor2⟩:=c9w h hx hsrc hsob;generalize z6 S.t s=sv at hp' hs;cases sv<;>try (cases hp';done)
 case own g j sz0 lo0 n0=>
  cases lo0 with
  |succ q=>cases hp'
  |zero=>
  simp only at hp';obtain⟨en,l3,l4,hrd,hp'',hl34⟩:=m7.bind_some hp';clear hp';have he:=(m7.rd_some hrd).1;simp only at he;have hre:=h.ents g j en he;cases en<;>try (cases hp'';done)
  case row e' sz' n' rows=>
   simp only at hp'';split at hp''<;>try (cases hp'';done)
   rename_i hcond;obtain⟨hc1,rfl,rfl⟩:=hcond;have:=m7.pure_some hp'';injection this with h2 h3;subst h2;have hnn:n0=n':=hob _ (by simp);have hmm:m=n':=hob _ (by simp);subst hnn;have hmm':=hmm;obtain⟨flat,hown0,hf0,hn0,hl0⟩:=hre;have hrows:∀r∈rows2,(O r)=ei.size:=by
    intro r hr;rcases hc1 with q|q
    ·rw[<-q];exact hl2 r hr
    ·have:rows2=[]:=g1c (hm.trans q);rw[this]at hr;cases hr
   have hdl:(O ds)=n0*ei.size:=by rw[<-hf2.length,a5H hrows,hm,hmm]
   obtain⟨hD,⟨b,nn,cap,hι,hlo,hb0,hb1,hc⟩|⟨hl0',_⟩⟩:=hs.inv_own;case inr=>omega
   have hsv:a.eval s=.slice b n0 cap:=by
    rw[hc];cases b with
    |none=>have:=hb0 rfl;subst this;simp
    |some ad=>by_cases q:cap=0<;>simp[q,Addr.add]
   have hfc:=f5W (P:=cx.P) (size:=ei.size) (m:=m) (cap:=cap2) (by rw[hmm];exact hdl) hor2;rw[hmm]at hfc;rcases hown0.2 with⟨hv,hz⟩|⟨g0,cap0,cur,hv,hbg,hg,hnc,hcm,hcs,ht⟩
   ·rw[hι]at hv;injection hv with e1 e2 e3;subst e1;subst hz;subst e3;have hrows0:rows2=[]:=g1c (hm.trans hmm);have hrows1:rows=[]:=g1c hn0;subst hrows0;subst hrows1;have hset:S.setE g j (.row e' ei.size 0 [])=S:=by
     obtain⟨l,hl⟩:=St.D_of_ent he;rw[a4s hl];rw[a3p hl]at he;rw[a1I he,a1I hl]
    refine⟨_,.int .i64 0,w,F,G,?_,.inl rfl,?_⟩
    ·simp[execOp,ho,resolve,invoke,builtin,hsv,hc2,Builtin.copy_,Sem.run_bind,htf.underlying,hef.sizeOf,Builtin.lenOf,hmm,hfc,goInt]
    ·simp only[St.apply,St.upds,hset];exact h.put ob.dst (.fv (.i _ _))
   ·rw[hι]at hv;injection hv with e1 e2 e3;subst e1;subst e3;have hst:=run_storeCells_at cx.P g0 0 e' ds 0 cur w hg (by rw[hdl,hcs];simpa using g1x _ hnc) hf2.all_one;simp only[g2n]at hst;have hsp:cur.toList.take 0++ds++cur.toList.drop (0+(O ds))=C7 cur.toList 0 ds:=rfl;rw[hsp]at hst;have hrun:(execOp a.eval ob).run cx.P w=.ok (.value (.int .i64 n0)) (w.setRow g0 (C7 cur.toList 0 ds).toArray):=by
     simp[execOp,ho,resolve,invoke,builtin,hsv,hc2,Builtin.copy_,Sem.run_bind,htf.underlying,hef.sizeOf,Builtin.lenOf,hmm,hfc,goInt,hst]
    refine⟨_,_,_,F,G,hrun,.inl rfl,?_⟩;have hcl:n0*ei.size<=cur.size:=by rw[hcs];exact g1x _ hnc
    have hw:=h.write (e':=.row e' ei.size n0 rows2) (w':=w.setRow g0 (C7 cur.toList 0 ds).toArray) he rfl ⟨rfl,rfl,rfl⟩ (b4i _ _ _) (λk hk=>setRow_other w g0 k _ λq=>hk (by rw[hι,q];rfl)) λhs'=>by
     refine⟨ds,⟨hdl,.inr ⟨g0,cap,_,hι.trans (by rw[e2]),hbg,setRow_heap w g0 cur _ e' (0,0) hg,hnc,hcm,?_,?_⟩⟩,hf2.mono hs' (λ_ y=>y),hm.trans hmm,hrows⟩
     ·rw[g2P,a4f _ _ _ (by simp;omega)];simpa using hcs
     ·simp only;rw[c6h _ _ _ _ (by omega) (by simpa using hcl)];unfold C7;have:(cur.toList.take (n0*ei.size)).length=n0*ei.size:=by simp;omega
      rw[g1r (by omega)];simp
    exact(hw (λk hk=>hk)).put ob.dst (.fv (.i _ _))
def b1r(ck:List (Option Nat)):List (Nat×V)->m7 (List (Nat×List V)×List U0×List Prop)
 | []=>m7.pure ([],[],[])
 | (i,v)::ps=>match v.cells with
  |some cs=>m7.bind (b4V ck cs) λx=>m7.bind (b1r ck ps) λy=>m7.pure ((i,x.1)::y.1,x.2.1++y.2.1,x.2.2++y.2.2)
  |none=>m7.no
def e6R{ck:List (Option Nat)}{ps:List (Nat×V)}{qs:List (Nat×Value)}:∀{rs:List (Nat×List V)} {us:List U0} {fps:List Prop} {lg:List (Nat×Nat)} {F:Nat->Prop} {S':St},A2 J F G S' a w->Frz S S'->B5 (λ(x:Nat×V) (y:Nat×Value)=>x.1=y.1/\RV w F S'.D G x.2 y.2) ps qs->b1r ck ps S.ent=U ((rs,us,fps),lg)->(∀p∈fps,p)->
  ∃F',(∀k,F k->F' k)/\A2 J F' G (S'.upds us) a w/\Frz S (S'.upds us)/\B5 (λ(x:Nat×List V) (y:Nat×Value)=>x.1=y.1/\FL w F' x.2 y.2.cells.toList) rs qs:=by
 induction ps generalizing qs with
 |nil=>
  intro rs us fps lg F S' h hS hc hf hob;have:=m7.pure_some hf;injection this with h1 h2;injection h1 with h1 h3;injection h3 with h3 h4;subst h1;subst h3;subst h4;cases hc;exact⟨F,λ_ x=>x,h,hS,.nil⟩
 |cons p ps ih=>
  intro rs us fps lg F S' h hS hc hf hob;obtain⟨i,v⟩:=p;cases hc with
  | @cons _ q _ qs' hv ht=>
   unfold b1r at hf;cases hcs:v.cells with
   |none=>rw[hcs]at hf;cases hf
   |some cs=>
   rw[hcs]at hf;simp only at hf;obtain⟨⟨v1,us1,ps1⟩,l1,l2,hf1,hf2,_⟩:=m7.bind_some hf;obtain⟨⟨vs1,us2,ps2⟩,l3,l4,hf3,hf4,_⟩:=m7.bind_some hf2;have:=m7.pure_some hf4;injection this with h1 h2;injection h1 with h1 h3;injection h3 with h3 h4;subst h1;subst h3;subst h4;obtain⟨F1,hF1,hr1,hS1,hv1⟩:=d7h h hS (hv.2.cells hcs) hf1 (λp hp=>hob p (g0Z.2 (.inl hp)));have hD:∀k,S'.D k->(S'.upds us1).D k:=λk x=>(a1z S' k us1).2 x
   obtain⟨F2,hF2,hr2,hS2,hv2⟩:=ih hr1 hS1 (ht.imp λ_ _ x=>⟨x.1,x.2.mono (λ_ _ _=>rfl) hF1 hD (λ_ _ _=>rfl)⟩) hf3 (λp hp=>hob p (g0Z.2 (.inr hp)));rw[<-St.upds_append]at hr2 hS2;exact⟨F2,λk x=>hF2 k (hF1 k x),hr2,hS2,.cons ⟨hv.1,hv1.mono (λ_ _ _=>rfl) hF2⟩ hv2⟩
def a7c(sz:Nat):List (List V)->List (Nat×List V)->Option (List (List V))
 |rows,[]=>U rows
 |rows,(i,cs)::ps=>if i<(O rows)/\(O cs)=sz then a7c sz (rows.set i cs) ps else Z
def d0x{C:Type}(r vs:List C)(h:(O vs)=(O r)):C7 r 0 vs=vs:=by
 unfold C7;rw[g1r (by omega)];simp
def e76{sz len:Nat}{ps:List (Nat×List V)}{qs:List (Nat×Value)}(hps:B5 (λ(x:Nat×List V) (y:Nat×Value)=>x.1=y.1/\FL w F x.2 y.2.cells.toList) ps qs):∀{rows out:List (List V)} {ds:Array Value},(∀r∈rows,(O r)=sz)->(O rows)=len->FL w F rows.flatten ds.toList->a7c sz rows ps=U out->
  ∃es:Array Value,Instr.fill (λi=>U (i*sz,sz)) ds qs=U es/\FL w F out.flatten es.toList/\(O out)=len/\∀r∈out,(O r)=sz:=by
 induction hps with
 |nil=>
  intro rows out ds hl hlen hf h;simp[a7c]at h;subst h;exact⟨ds,rfl,hf,hlen,hl⟩
 | @cons p q ps qs hpq ht ih=>
  intro rows out ds hl hlen hf h;obtain⟨i,cs⟩:=p;obtain⟨j,u⟩:=q;obtain⟨hij,hfl⟩:=hpq;simp only at hij hfl;subst hij;simp only[a7c]at h;split at h<;>try (cases h;done)
  rename_i hcond;obtain⟨hi,hcl⟩:=hcond;have hul:u.cells.size=sz:=by rw[<-hcl,hfl.length];simp
  have hdl:ds.size=len*sz:=by
   have:=hf.length;rw[a5H hl,hlen]at this;simpa using this.symm
  have hpos:i*sz+sz<=len*sz:=by rw[<-g15];exact g1x _ (by omega)
  have hri:rows[i]?=U rows[i]:=g0Y hi;have hrl:(rows[i]).length=sz:=hl _ (g01 hi);have hfs:=a9b (vs:=cs) (off:=0) hl hri (by omega);rw[d0x _ _ (by omega),g2n]at hfs;have hout:=c6d u.cells.toList 0 (i*sz) ds (by simp only[Array.length_toList];omega);rw[g2n]at hout;obtain⟨es,he,hr⟩:=ih (rows:=rows.set i cs) (out:=out) (ds:=u.cells.toList.zipIdx.foldl (λ(cs:Array Value) (x:Value×Nat)=>cs.setIfInBounds (i*sz+x.2) x.1) ds) (by
    intro r hr;rcases g1F hr with hr|rfl
    ·exact hl r hr
    ·exact hcl) (by simpa using hlen) (by
    rw[hfs,hout];exact FL.of (hf.all2.splice hfl.all2 _)) h
  refine⟨es,?_,hr⟩;have hcond':(u.cells.size≠sz||i*sz+u.cells.size>ds.size)=W:=by
   simp[hul];omega
  simp only[Instr.fill,hcond'];rw[<-he];simp only[g2d,if_false];congr 1
  rw[<-Array.foldl_toList,Array.toList_zipIdx]
def b57(cx:Cx)(grp ty len:Nat)(parts:List (Nat×V))(A:U8):m7 E0:=
 match cx.T ty with
 |some ti=>match ti.sl with
  |some e=>match cx.T e with
   |some ei=>match A with
    | .ck ck=>m7.bind (b1r ck parts) λq=>
     match a7c ei.size (g00 len ei.zero) q.1 with
     |some rows=>if len*ei.size<=16777216/\(O ei.zero)=ei.size/\0<ei.size then m7.pure {v:=.own grp 0 ei.size 0 len,new:=U [.row e ei.size len rows],upd:=q.2.1,obl:=q.2.2}else m7.no
     |none=>m7.no
    |_=>m7.no
   |none=>m7.no
  |none=>m7.no
 |none=>m7.no
def c6E{t:List V}(ht:B5 (RV w F S.D G) t a.tmps.toList):∀qs:List (Nat×Operand),B5 (λ(x:Nat×V) (y:Nat×Value)=>x.1=y.1/\RV w F S.D G x.2 y.2) (qs.map λ(i,x)=>(i,z6 t x)) (qs.map λ(i,x)=>(i,a.eval x))
 | []=>.nil
 |q::qs=>.cons ⟨rfl,H6 ht q.2⟩ (c6E ht qs)
def c27{P:Program}{ty e len:Nat}{ti ei:TI}{i i':TypeInfo}{d d':TypeDesc}{z z':Value}(htf:TF P ty ti i d z)(hd:d=.slice e)(hef:TF P e ei i' d' z')(h1:len*ei.size<=16777216){qs:Array (Nat×Value)}{es:Array Value}(hfill:Instr.fill (λi=>U (i*ei.size,ei.size)) (madeCells z'.cells (len*ei.size)) qs.toList=U es):(Instr.buildSlice ty len qs).run P w=.ok (.slice (U ⟨w.heap.size,0,Z⟩) len len) (w.alloc (.cells es e)):=by
 subst hd;have hnot:¬(len*ei.size>2 ^ 24):=by omega
 unfold Instr.buildSlice;by_cases h0:len*ei.size=0
 ·have hmk:madeCells z'.cells (len*ei.size) = #[]:=by rw[h0];simp[madeCells]
  rw[hmk]at hfill;simp only[Sem.run_bind,htf.underlying,Result.andThen_ok,hef.sizeOf,if_neg hnot,if_pos h0,Sem.run_pure];have hr0:∀f:Nat->Value,(Array.range 0).map f = #[]:=λf=>by simp
  simp only[h0,hr0,hfill];simp[newRow,newObj,Sem.run]
 ·have hmk:(Array.range (len*ei.size)).map (z'.cells[· % z'.cells.size]!)=madeCells z'.cells (len*ei.size):=rfl;simp only[Sem.run_bind,htf.underlying,Result.andThen_ok,hef.sizeOf,if_neg hnot,if_neg h0,hef.zeroValue,Sem.run_pure];simp only[hmk,hfill];simp[newRow,newObj,Sem.run]
def e4o(h:A2 J F G S a w){grp:Nat}(hg:grp<(O S.h))(hn:¬S.D grp){ob:Oper}{ty len:Nat}{parts:Array (Nat×Operand)}{A:U8}(ho:ob.op=.buildSlice ty len parts){out:E0}{lg:List (Nat×Nat)}(hp:b57 cx grp ty len (parts.toList.map λ(i,x)=>(i,z6 S.t x)) A S.ent=U (out,lg))(hob:∀p∈out.obl,p):a0n cx.P J G S grp ob out a w:=by
 unfold b57 at hp;cases hti:cx.T ty with
 |none=>rw[hti]at hp;cases hp
 |some ti=>
 rw[hti]at hp;simp only at hp;cases hsl:ti.sl with
 |none=>rw[hsl]at hp;cases hp
 |some e=>
 rw[hsl]at hp;simp only at hp;cases hei:cx.T e with
 |none=>rw[hei]at hp;cases hp
 |some ei=>
 rw[hei]at hp;cases A<;>try (cases hp;done)
 rename_i ck;simp only at hp;obtain⟨i,d,z,htf⟩:=cx.tf hti;obtain⟨i',d',z',hef⟩:=cx.tf hei;obtain rfl:=htf.isSl hsl;obtain⟨⟨rs,us,fps⟩,l1,l2,hfz,hp',hl12⟩:=m7.bind_some hp;clear hp;have hfob:∀p∈fps,p:=by
  simp only at hp';cases hrows:a7c ei.size (g00 len ei.zero) rs with
  |none=>rw[hrows]at hp';cases hp'
  |some rows=>
  rw[hrows]at hp';simp only at hp';split at hp'<;>try (cases hp';done)
  have:=m7.pure_some hp';injection this with h2 h3;subst h2;exact hob
 obtain⟨F',hF',hrel,hfr,hall⟩:=e6R h (Frz.refl S) (c6E h.tmps parts.toList) hfz hfob;simp only at hp';cases hrows:a7c ei.size (g00 len ei.zero) rs with
 |none=>rw[hrows]at hp';cases hp'
 |some rows=>
 rw[hrows]at hp';simp only at hp';split at hp'<;>try (cases hp';done)
 rename_i hcond;obtain⟨hc1,hc2,hc3⟩:=hcond;have:=m7.pure_some hp';injection this with h2 h3;subst h2;have hzs:z'.cells.size=ei.size:=by rw[<-hc2,<-hef.zeros];simp
 have hz:FL w F' ei.zero z'.cells.toList:=by rw[<-hef.zeros];exact FL.ofCells _ hef.one
 have hmade:FL w F' (g00 len ei.zero).flatten (madeCells z'.cells (len*ei.size)).toList:=by
  rw[<-hzs,c08];exact hz.replicate len
 obtain⟨es,hfill,hfl,hlen,hl⟩:=e76 hall (sz:=ei.size) (len:=len) (rows:=g00 len ei.zero) (by intro r hr;rw[(g1O.1 hr).2];exact hc2) (by simp) hmade hrows;have hrun:(execOp a.eval ob).run cx.P w=.ok (.value (.slice (U ⟨w.heap.size,0,Z⟩) len len)) (w.alloc (.cells es e)):=by
  have:=c27 (w:=w) htf rfl hef hc1 (qs:=parts.map λ(i,x)=>(i,a.eval x)) (by rw[Array.toList_map];exact hfill);simp[execOp,ho,this]
 have hD:∀k,S.D k↔(S.upds us).D k:=λk=>(a1z S k us).symm
 have hg':grp<(S.upds us).h.length:=by rw[St.upds_len];exact hg
 have hs:M7 w (w.alloc (.cells es e)) F':=a2D λg hF=>(a54 w _).block g (hrel.F1 g hF) (by simp)
 have hel:es.size=len*ei.size:=by
  have:=hfl.length;rw[a5H hl,hlen]at this;simpa using this.symm
 have hor:OR (w.alloc (.cells es e)) F' e ei.size (.slice (U ⟨w.heap.size,0,Z⟩) len len) len rows:=by
  refine⟨es.toList,⟨by simpa using hel,.inr ⟨w.heap.size,len,es,rfl,g2D _,b0E w _,g07 _,?_,hel,?_⟩⟩,hfl.mono hs (λ_ y=>y),hlen,hl⟩
  ·have:len<=len*ei.size:=g2r _ hc3;unfold maxLen;omega
  ·rw[g1A (by simp[hel])]
 have hnew:=hrel.new1 hg' (λq=>hn ((hD grp).2 q)) (a54 w (.cells es e)) (ent:=.row e ei.size len rows) (c0:=.slice (U ⟨w.heap.size,0,Z⟩) len len) (by intro k hk;simp[EB,E1]at hk;omega) hor;refine⟨_,_,_,F',R3 G grp (.slice (U ⟨w.heap.size,0,Z⟩) len len),hrun,.inl rfl,?_⟩;exact hnew.put ob.dst (.cell (RC.whole (j:=0) (a11 hg') V3 hor))
end
inductive BA (w:World) (F:Nat->Prop):V->Value->List Nat->Prop
 |cell (v c f) (h:BC w F v c f):BA w F v c f
 |agg (cs ds f) (h:BL w F cs ds f):BA w F (.agg cs) (.agg ds.toArray) f
 |optr (e cs g cur f) (hg:w.heap[g]?=U (.cells cur e (0,0))) (h:BL w F cs cur.toList f):BA w F (.optr e cs) (.pointer (U ⟨g,0,Z⟩)) (g::f)
inductive BS (w:World) (F:Nat->Prop):List V->List Value->List Nat->Prop
 |nil:BS w F [] [] []
 |cons (v c f vs cs fs) (h:BA w F v c f) (t:BS w F vs cs fs):BS w F (v::vs) (c::cs) (f++fs)
inductive BR (w:World) (F:Nat->Prop):V->Value->List Nat->Prop
 |one (v c f) (h:BA w F v c f):BR w F v c f
 |tup (vs cs f) (h:BS w F vs cs f):BR w F (.tup vs) (.tuple cs.toArray) f
inductive BO (w:World) (F:Nat->Prop):List (Option V)->List Value->List Nat->Prop
 |nil:BO w F [] [] []
 |skip (c vs cs fs) (t:BO w F vs cs fs):BO w F (Z::vs) (c::cs) fs
 |cons (v c f vs cs fs) (h:BA w F v c f) (t:BO w F vs cs fs):BO w F (U v::vs) (c::cs) (f++fs)
def c42(P:Program)(f:FuncId):Prop := ∃fn,P.funcs[f]?=some fn/\(fn.name == "runtime.NumGoroutine")=false/\fn.body.isNone=false
def a1n(P:Program)(f:FuncId)(args:List V)(res:V)(outs:List (Option V)):Prop:=
 c42 P f/\∀(w:World) (F:Nat->Prop) (cargs:List Value) (fp:List Nat),BS w F args cargs fp->fp.Nodup->(∀k∈fp,¬F k/\k<w.heap.size)->(∀k,F k->k<w.heap.size)->
  Calls P f cargs.toArray w λe w' => ∃c F' fr fo,e=.returned c/\a5G (· ∈ fp) w w'/\(∀k,F k->F' k)/\(∀k,F' k->(F k\/k∈fp\/w.heap.size<=k)/\k<w'.heap.size)/\
   BR w' F' res c fr/\BO w' F' outs cargs fo/\(fr++fo).Nodup/\∀k∈fr++fo,¬F' k/\(k∈fp\/w.heap.size<=k)/\k<w'.heap.size
def O8(grp j:Nat):V->V×List x8
 | .osl e sz n rows=>(.own grp j sz 0 n,[.row e sz n rows])
 | .dsl e sz n rows=>(.own grp j sz 0 n,[.deep W e sz n rows])
 |v=>(v,[])
def Q6(grp j:Nat):List V->List V×List x8
 | []=>([],[])
 |v::vs=>
  let x:=O8 grp j v;let y:=Q6 grp (j+(O x.2)) vs
  (x.1::y.1,x.2++y.2)
def Q0(grp j:Nat):V->V×List x8
 | .agg cs=>let x:=Q6 grp j cs;(.agg x.1,x.2)
 | .optr e cs=>let x:=Q6 grp (j+1) cs;(.ptr grp j 0,.var e x.1::x.2)
 |v=>O8 grp j v
def a0T(grp j:Nat):List V->List V×List x8
 | []=>([],[])
 |v::vs=>
  let x:=Q0 grp j v;let y:=a0T grp (j+(O x.2)) vs
  (x.1::y.1,x.2++y.2)
def M0(grp j:Nat):V->V×List x8
 | .tup vs=>let x:=a0T grp j vs;(.tup x.1,x.2)
 |v=>Q0 grp j v
def L8(w:World)(es:List x8)(bs:List Value)(f:List Nat):Prop:=
 ∃fss:List (List Nat),fss.flatten=f/\(O fss)=(O es)/\∀(i:Nat) (e:x8) (b:Value) (k:Nat),es[i]?=U e->bs[i]?=U b->EB w e b k->∃fi,fss[i]?=U fi/\k∈fi
def L8.nil{w:World}:L8 w [] [] []:=⟨[],rfl,rfl,λi e b k h=>by simp at h⟩
def L8.one{w:World}{e:x8}{b:Value}{f:List Nat}(h:∀k,EB w e b k->k∈f):L8 w [e] [b] f:=by
 refine⟨[f],by simp,rfl,λi e' b' k h1 h2 h3 => ?_⟩;cases i with
 |zero=>
  simp at h1 h2;subst h1;subst h2;exact⟨f,rfl,h k h3⟩
 |succ i=>simp at h1
def L8.append{w:World}{es es':List x8}{bs bs':List Value}{f f':List Nat}(h:L8 w es bs f)(h':L8 w es' bs' f')(hl:(O bs)=(O es)):L8 w (es++es') (bs++bs') (f++f'):=by
 obtain⟨fss,e1,l1,h1⟩:=h;obtain⟨fss',e2,l2,h2⟩:=h';refine⟨fss++fss',by rw[g2Y,e1,e2],by simp[l1,l2],λi e b k he hb hk => ?_⟩;by_cases q:i<(O es)
 ·rw[g1o q]at he;rw[g1o (by omega)]at hb;obtain⟨fi,a,b⟩:=h1 i e b k he hb hk;exact⟨fi,by rw[g1o (by omega)];exact a,b⟩
 ·rw[g1j (by omega)]at he;rw[g1j (by omega),hl]at hb;obtain⟨fi,a,b⟩:=h2 _ e b k he hb hk;exact⟨fi,by rw[g1j (by omega),l1];exact a,b⟩
def L8.cons{w:World}{e:x8}{b:Value}{f1:List Nat}{es:List x8}{bs:List Value}{f:List Nat}(h1:∀k,EB w e b k->k∈f1)(h:L8 w es bs f):L8 w (e::es) (b::bs) (f1++f):=
 (L8.one h1).append h rfl
def L8.mem{w:World}{es:List x8}{bs:List Value}{f:List Nat}(h:L8 w es bs f){i:Nat}{e:x8}{b:Value}{k:Nat}(he:es[i]?=U e)(hb:bs[i]?=U b)(hk:EB w e b k):k∈f:=by
 obtain⟨fss,e1,l1,h1⟩:=h;obtain⟨fi,a,q⟩:=h1 i e b k he hb hk;rw[<-e1];exact g1H.2 ⟨fi,g1e a,q⟩
def d1E{k:Nat}:∀{fss:List (List Nat)} {i j:Nat} {fi fj:List Nat},fss.flatten.Nodup->fss[i]?=U fi->fss[j]?=U fj->k∈fi->k∈fj->i=j
 | [],i,j,fi,fj,_,h,_,_,_=>by simp at h
 |f::fss,0,0,_,_,_,_,_,_,_=>rfl
 |f::fss,0,j+1,fi,fj,hn,hi,hj,h1,h2=>by
  simp at hi hj;subst hi;rw[g1t,g1b]at hn;exact absurd rfl (hn.2.2 k h1 k (g1H.2 ⟨fj,g1e hj,h2⟩))
 |f::fss,i+1,0,fi,fj,hn,hi,hj,h1,h2=>by
  simp at hi hj;subst hj;rw[g1t,g1b]at hn;exact absurd rfl (hn.2.2 k h2 k (g1H.2 ⟨fi,g1e hi,h1⟩))
 |f::fss,i+1,j+1,fi,fj,hn,hi,hj,h1,h2=>by
  simp at hi hj;rw[g1t,g1b]at hn;rw[d1E hn.2.1 hi hj h1 h2]
def L8.inj{w:World}{es:List x8}{bs:List Value}{f:List Nat}(h:L8 w es bs f)(hn:f.Nodup){i j:Nat}{e e':x8}{b b':Value}{k:Nat}(he:es[i]?=U e)(hb:bs[i]?=U b)(hk:EB w e b k)(he':es[j]?=U e')(hb':bs[j]?=U b')(hk':EB w e' b' k):i=j:=by
 obtain⟨fss,e1,l1,h1⟩:=h;obtain⟨fi,a,q⟩:=h1 i e b k he hb hk;obtain⟨fj,a',q'⟩:=h1 j e' b' k he' hb' hk';exact d1E (e1▸hn) a a' q q'
def BL.kl{w:World}{F D:Nat->Prop}{G:Nat->Nat->Value}:∀{vs cs f},BL w F vs cs f->KL w F D G vs cs f
 |_,_,_,.nil=>.nil
 |_,_,_,.cons v c f vs cs fs h t=>.cons v c f vs cs fs (.bc _ _ _ h) (BL.kl t)
def BC.noRef{w:World}{F:Nat->Prop}{v:V}{c:Value}{f:List Nat}(h:BC w F v c f):v.isRef=W:=by
 cases h with
 |fv v c h=>cases h<;>rfl
 |osl=>rfl
 |dsl=>rfl
def BL.noRef{w:World}{F:Nat->Prop}:∀{vs cs f},BL w F vs cs f->∀v∈vs,v.isRef=W
 |_,_,_,.cons v c f vs cs fs h t,x,hx=>by
  rcases g1a.1 hx with rfl|hx
  ·exact h.noRef
  ·exact BL.noRef t x hx
def M6.of_flat{rows:List (List V)}(h:∀v∈rows.flatten,v.isRef=W):M6 rows:=λr hr v hv=>h v (g1H.2 ⟨r,hr,hv⟩)
def RC.wholeO{w:World}{F D:Nat->Prop}{G:Nat->Nat->Value}{g j e sz n:Nat}{flat:List Value}{sv:Value}(hD:D g)(hι:G g j=sv)(ho:w.ownsRow 0 e sz sv n flat):RC w F D G (.own g j sz 0 n) sv:=by
 rcases ho.2 with⟨rfl,h0⟩|⟨g0,cap,cur,rfl,_,hg,hnc,_⟩
 ·subst h0;have:=RC.own (w:=w) (F:=F) g j sz 0 0 Z 0 0 hD hι (by omega) (λ_=>rfl) (λ_ q=>by cases q);simpa using this
 ·have:=RC.own (w:=w) (F:=F) g j sz 0 n (U ⟨g0,0,Z⟩) n cap hD hι (by omega) (λq=>by cases q) (λad q=>by injection q with q;subst q;rfl);by_cases hc:cap=0
  ·simpa[hc]using this
  ·simpa[hc,Addr.add]using this
def At(G:Nat->Nat->Value)(grp j:Nat)(bs:List Value):Prop := ∀(k:Nat) (b:Value),bs[k]?=U b->G grp (j+k)=b
def At.left{G:Nat->Nat->Value}{grp j:Nat}{xs ys:List Value}(h:At G grp j (xs++ys)):At G grp j xs:=λk b hb=>h k b (by rw[g1o (g06.1 hb).1];exact hb)
def At.right{G:Nat->Nat->Value}{grp j:Nat}{xs ys:List Value}(h:At G grp j (xs++ys)):At G grp (j+(O xs)) ys:=λk b hb=>by
 rw[Nat.add_assoc];exact h _ b (by rw[g1j (by omega)];simpa using hb)
def Lie(w:World)(F:Nat->Prop)(D:Nat->Prop)(G:Nat->Nat->Value)(es:List x8)(bs:List Value):Prop := ∀(k:Nat) (e:x8) (b:Value),es[k]?=U e->bs[k]?=U b->RE w F D G e b
def Lie.append{w:World}{F D:Nat->Prop}{G:Nat->Nat->Value}{es es':List x8}{bs bs':List Value}(h:Lie w F D G es bs)(h':Lie w F D G es' bs')(hl:(O es)=(O bs)):Lie w F D G (es++es') (bs++bs'):=by
 intro k e b he hb;by_cases q:k<(O es)
 ·rw[g1o q]at he;rw[g1o (by omega)]at hb;exact h k e b he hb
 ·rw[g1j (by omega)]at he;rw[g1j (by omega)]at hb;rw[hl]at he;exact h' _ e b he hb
section
variable {w:World} {F:Nat->Prop} {grp:Nat}
def c1W{v:V}{c:Value}{f:List Nat}(h:BC w F v c f)(j:Nat):∃bs:List Value,(O bs)=(O8 grp j v).2.length/\L8 w (O8 grp j v).2 bs f/\
  ∀(D:Nat->Prop) (G:Nat->Nat->Value),D grp->At G grp j bs->f.Nodup->RC w F D G (O8 grp j v).1 c/\Lie w F D G (O8 grp j v).2 bs:=by
 cases h with
 |fv v c h=>
  have hv:O8 grp j v=(v,[]):=by cases h<;>rfl
  rw[hv];exact⟨[],rfl,.nil,λD G hD hat _=>⟨.fv _ _ h,λk e b he=>by simp at he⟩⟩
 |osl e sz n rows c h=>
  refine⟨[c],rfl,.one λk hk=>X1.2 hk,λD G hD hat _=>⟨RC.whole hD (hat 0 c rfl) h,?_⟩⟩;intro k e' b he hb;cases k with
  |zero=>
   simp[O8]at he hb;subst he;subst hb;exact h
  |succ k=>simp[O8]at he
 |dsl e sz n rows c flat fs ho hr hn hl=>
  refine⟨[c],rfl,.one λk hk=>(EB.deep_iff (D:=λ_=>True) (G:=λ_ _=>.nilFunc) ho hr.kl).1 hk,λD G hD hat hnd=>⟨RC.wholeO hD (hat 0 c rfl) ho,?_⟩⟩;intro k e' b he hb;cases k with
  |zero=>
   simp[O8]at he hb;subst he;subst hb;exact⟨flat,fs,ho,hr.kl,hn,hl,hnd,λ_=>M6.of_flat hr.noRef⟩
  |succ k=>simp[O8]at he
def a80:∀{vs:List V} {cs:List Value} {f:List Nat},BL w F vs cs f->∀j,∃bs:List Value,(O bs)=(Q6 grp j vs).2.length/\L8 w (Q6 grp j vs).2 bs f/\
  ∀(D:Nat->Prop) (G:Nat->Nat->Value),D grp->At G grp j bs->f.Nodup->B5 (RC w F D G) (Q6 grp j vs).1 cs/\Lie w F D G (Q6 grp j vs).2 bs
 |_,_,_,.nil,j=>⟨[],rfl,.nil,λD G hD hat _=>⟨.nil,λk e b he=>by simp[Q6]at he⟩⟩
 |_,_,_,.cons v c f vs cs fs h t,j=>by
  obtain⟨b1,hl1,hf1,h1⟩:=c1W (grp:=grp) h j;obtain⟨b2,hl2,hf2,h2⟩:=a80 t (j+(O8 grp j v).2.length);refine⟨b1++b2,by simp[Q6,hl1,hl2],hf1.append hf2 hl1,λD G hD hat hnd => ?_⟩;rw[g1b]at hnd;obtain⟨x1,y1⟩:=h1 D G hD hat.left hnd.1;obtain⟨x2,y2⟩:=h2 D G hD (by rw[<-hl1];exact hat.right) hnd.2.1;exact⟨.cons x1 x2,y1.append y2 hl1.symm⟩
def c2Y{v:V}{c:Value}{f:List Nat}(h:BA w F v c f)(j:Nat):∃bs:List Value,(O bs)=(Q0 grp j v).2.length/\L8 w (Q0 grp j v).2 bs f/\
  ∀(D:Nat->Prop) (G:Nat->Nat->Value),D grp->At G grp j bs->f.Nodup->RA w F D G (Q0 grp j v).1 c/\Lie w F D G (Q0 grp j v).2 bs:=by
 cases h with
 |cell v c f h=>
  have hv:Q0 grp j v=O8 grp j v:=by
   cases h with
   |fv v c h=>cases h<;>rfl
   |osl e sz n rows c h=>rfl
   |dsl=>rfl
  rw[hv];obtain⟨bs,h1,h2,h3⟩:=c1W (grp:=grp) h j;exact⟨bs,h1,h2,λD G hD hat hnd=>⟨.cell _ _ (h3 D G hD hat hnd).1,(h3 D G hD hat hnd).2⟩⟩
 |agg cs ds f h=>
  obtain⟨bs,h1,h2,h3⟩:=a80 (grp:=grp) h j;exact⟨bs,h1,h2,λD G hD hat hnd=>⟨.agg _ _ (h3 D G hD hat hnd).1,(h3 D G hD hat hnd).2⟩⟩
 |optr e cs g cur f hg h=>
  obtain⟨bs,h1,h2,h3⟩:=a80 (grp:=grp) h (j+1);refine⟨.pointer (U ⟨g,0,Z⟩)::bs,by simp[Q0,h1],?_,λD G hD hat hnd => ?_⟩
  ·have:=L8.cons (w:=w) (e:=.var e (Q6 grp (j+1) cs).1) (b:=.pointer (U ⟨g,0,Z⟩)) (f1:=[g]) (λk hk=>by
    have hk:E1 (.pointer (U ⟨g,0,Z⟩))=U k:=hk;simp[E1]at hk;simp[hk]) h2
   exact this
  have hat':At G grp (j+1) bs:=λk b hb=>by
   have:=hat (k+1) b (by simpa using hb);rw[<-this];congr 1;omega
  obtain⟨x,y⟩:=h3 D G hD hat' (g2h.1 hnd).2;refine⟨.cell _ _ (.ptr grp j 0 g hD (hat 0 _ rfl)),?_⟩;intro k e' b he hb;cases k with
  |zero=>
   simp[Q0]at he hb;subst he;subst hb;exact⟨g,cur,rfl,hg,x⟩
  |succ k=>exact y k e' b (by simpa[Q0]using he) (by simpa using hb)
def f9V{vs:List V}{cs:List Value}{f:List Nat}(h:BS w F vs cs f):∀j,∃bs:List Value,(O bs)=(a0T grp j vs).2.length/\L8 w (a0T grp j vs).2 bs f/\
  ∀(D:Nat->Prop) (G:Nat->Nat->Value),D grp->At G grp j bs->f.Nodup->B5 (RA w F D G) (a0T grp j vs).1 cs/\Lie w F D G (a0T grp j vs).2 bs:=by
 induction h with
 |nil=>exact λj=>⟨[],rfl,.nil,λD G hD hat _=>⟨.nil,λk e b he=>by simp[a0T]at he⟩⟩
 |cons v c f vs cs fs h t ih=>
  intro j;obtain⟨b1,hl1,hf1,h1⟩:=c2Y (grp:=grp) h j;obtain⟨b2,hl2,hf2,h2⟩:=ih (j+(Q0 grp j v).2.length);refine⟨b1++b2,by simp[a0T,hl1,hl2],hf1.append hf2 hl1,λD G hD hat hnd => ?_⟩;rw[g1b]at hnd;obtain⟨x1,y1⟩:=h1 D G hD hat.left hnd.1;obtain⟨x2,y2⟩:=h2 D G hD (by rw[<-hl1];exact hat.right) hnd.2.1;exact⟨.cons x1 x2,y1.append y2 hl1.symm⟩
def e2N{v:V}{c:Value}{f:List Nat}(h:BR w F v c f)(j:Nat):∃bs:List Value,(O bs)=(M0 grp j v).2.length/\L8 w (M0 grp j v).2 bs f/\
  ∀(D:Nat->Prop) (G:Nat->Nat->Value),D grp->At G grp j bs->f.Nodup->RV w F D G (M0 grp j v).1 c/\Lie w F D G (M0 grp j v).2 bs:=by
 cases h with
 |one v c f h=>
  have hv:M0 grp j v=Q0 grp j v:=by
   cases h with
   |cell v c f h=>cases h with
    |fv v c h=>cases h<;>rfl
    |osl e sz n rows c h=>rfl
    |dsl=>rfl
   |agg cs ds f h=>rfl
   |optr e cs g cur f hg h=>rfl
  rw[hv];obtain⟨bs,h1,h2,h3⟩:=c2Y (grp:=grp) h j;exact⟨bs,h1,h2,λD G hD hat hnd=>⟨.one _ _ (h3 D G hD hat hnd).1,(h3 D G hD hat hnd).2⟩⟩
 |tup vs cs f h=>
  obtain⟨bs,h1,h2,h3⟩:=f9V (grp:=grp) h j;exact⟨bs,h1,h2,λD G hD hat hnd=>⟨.tup _ _ (h3 D G hD hat hnd).1,(h3 D G hD hat hnd).2⟩⟩
end
structure AR(C:Type) where
 v:C
 ks:List (Nat×Nat):=[]
 ls:List (Nat×Nat):=[]
 obl:List Prop:=[]
def M6.map{C:Type}{enc:C->List V}(h:∀x,∀v∈enc x,v.isRef=W)(l:List C):M6 (l.map enc):=by
 intro r hr;obtain⟨x,_,rfl⟩:=g1m.1 hr;exact h x
def KC.bcOf{w:World}{F D:Nat->Prop}{G:Nat->Nat->Value}{v:V}{c:Value}{f:List Nat}(h:KC w F D G v c f)(hv:v.isRef=W):BC w F v c f:=by
 cases h with
 |rc h=>
  cases h with
  |fv v c h=>exact .fv _ _ h
  |_=>cases hv
 |bc _ h=>exact h
def KL.blOf{w:World}{F D:Nat->Prop}{G:Nat->Nat->Value}:∀{vs cs f},KL w F D G vs cs f->(∀v∈vs,v.isRef=W)->BL w F vs cs f
 |_,_,_,.nil,_=>.nil
 |_,_,_,.cons v c f vs cs fs h t,hv=>.cons v c f vs cs fs (h.bcOf (hv v (by simp))) (KL.blOf t λx hx=>hv x (by simp[hx]))
def M6.flat{rows:List (List V)}(h:M6 rows):∀v∈rows.flatten,v.isRef=W:=by
 intro v hv;obtain⟨r,hr,hv⟩:=g1H.1 hv;exact h r hr v hv
def c0J:Nat:=1000000
def b9V:Nat:=9000000
def b2B:Nat:=8000000
mutual
def a9i:V->V
 | .osl _ sz n rows=>.sl sz n rows
 | .dsl _ sz n rows=>.sl sz n (a0R rows)
 |v=>v
def a28:List V->List V
 | []=>[]
 |v::vs=>a9i v::a28 vs
def a0R:List (List V)->List (List V)
 | []=>[]
 |r::rs=>a28 r::a0R rs
end
def b6f:∀vs:List V,a28 vs=vs.map a9i
 | []=>rfl
 |v::vs=>by rw[a28,b6f vs];rfl
def c5n:∀rs:List (List V),a0R rs=rs.map a28
 | []=>rfl
 |r::rs=>by rw[a0R,c5n rs];rfl
def b1w{C:Type}{enc d3v:C->List V}(h:∀x,a28 (enc x)=d3v x)(l:List C):a0R (l.map enc)=l.map d3v:=by
 rw[c5n,g2o];exact List.map_congr_left λx _=>h x
def Y5(ck om:Option Nat)(v:V):m7 (AR V):=
 match om with
 | some e=>if e=b9V then m7.pure {v:=.bot}else if e=b2B then(match v with
   | .own g j sz lo n=>m7.bind (m7.rd g j) λen=>match en with
    | .row _ sz' n' rows=>if sz=sz' then m7.pure {v:=.sl sz n ((rows.drop lo).take n),ls:=[(g,j)],obl:=[lo+n<=n']}else m7.no
    | .deep W _ sz' n' rows=>if sz=sz' then m7.pure {v:=.sl sz n (((a0R rows).drop lo).take n),ls:=[(g,j)],obl:=[lo+n<=n']}else m7.no
    |_=>m7.no
   |_=>m7.no)else match v with
  | .nil=>m7.pure {v:=if e<c0J then .osl e (ck.getD 0) 0 []else .dsl (e-c0J) (ck.getD 0) 0 []}
  | .own g j sz 0 n=>m7.bind (m7.rd g j) λen=>match en with
   | .row e' sz' n' rows=>if e'=e/\sz'=sz then m7.pure {v:=.osl e sz n' rows,ks:=[(g,j)],obl:=[n=n']}else m7.no
   | .deep W e' sz' n' rows=>if e'+c0J=e/\sz'=sz then m7.pure {v:=.dsl e' sz n' rows,ks:=[(g,j)],obl:=[n=n']}else m7.no
   |_=>m7.no
  |_=>m7.no
 |none=>match v with
  | .own g j sz lo n=>m7.bind (m7.rd g j) λen=>match en with
   | .row _ sz' n' rows=>if sz=sz' then m7.pure {v:=.sl sz (a0l lo n n' rows).1 (a0l lo n n' rows).2.1,ls:=[(g,j)],obl:=(a0l lo n n' rows).2.2}else m7.no
   | .frz sz' n' rows=>if sz=sz' then m7.pure {v:=.sl sz (a0l lo n n' rows).1 (a0l lo n n' rows).2.1,obl:=(a0l lo n n' rows).2.2}else m7.no
   | .deep W _ sz' n' rows=>if sz=sz' then m7.pure {v:=.sl sz (a0l lo n n' (a0R rows)).1 (a0l lo n n' (a0R rows)).2.1,ls:=[(g,j)],obl:=(a0l lo n n' (a0R rows)).2.2}else m7.no
   |_=>m7.no
  | .nil=>match ck with
   |some sz=>m7.pure {v:=.sl sz 0 []}
   |none=>m7.pure {v:=.nil}
  | .sl sz n rows=>m7.pure {v:=.sl sz n rows}
  | .b x=>m7.pure {v:=.b x}
  | .i k n=>m7.pure {v:=.i k n}
  | .s x=>m7.pure {v:=.s x}
  | .fn f=>m7.pure {v:=.fn f}
  | .bot=>m7.pure {v:=.bot}
  | .raw c=>m7.pure {v:=.raw c}
  | .hole=>m7.pure {v:=.hole}
  |_=>m7.no
def a2X:List (Option Nat)->List (Option Nat)->List V->m7 (AR (List V))
 |_,_,[]=>m7.pure {v:=[]}
 |ck,om,v::vs=>m7.bind (Y5 (ck.headD Z) (om.headD Z) v) λx=>m7.bind (a2X ck.tail om.tail vs) λy=>
  m7.pure {v:=x.v::y.v,ks:=x.ks++y.ks,ls:=x.ls++y.ls,obl:=x.obl++y.obl}
def a2E(m:PM)(v:V):m7 (AR V):=
 match m with
 | .val ck om=>match v with
  | .agg cs=>m7.bind (a2X ck om cs) λx=>m7.pure {v:=.agg x.v,ks:=x.ks,ls:=x.ls,obl:=x.obl}
  | .tup _=>m7.no
  | .bot=>m7.no
  |v=>Y5 (ck.headD Z) (om.headD Z) v
 | .ptr ck om=>match v with
  | .ptr g j 0=>m7.bind (m7.rd g j) λen=>match en with
   | .var e cs=>m7.bind (a2X ck om cs) λx=>m7.pure {v:=.optr e x.v,ks:=(g,j)::x.ks,ls:=x.ls,obl:=x.obl}
   |_=>m7.no
  |_=>m7.no
 | .row=>match v with
  | .own g j sz 0 n=>m7.bind (m7.rd g j) λen=>match en with
   | .row e sz' n' rows=>if sz'=sz then m7.pure {v:=.osl e sz n' rows,ks:=[(g,j)],obl:=[n=n']}else m7.no
   | .deep W e sz' n' rows=>if sz'=sz then m7.pure {v:=.dsl e sz n' rows,ks:=[(g,j)],obl:=[n=n']}else m7.no
   |_=>m7.no
  |_=>m7.no
 | .part=>match v with
  | .own g j sz lo n=>m7.bind (m7.rd g j) λen=>match en with
   | .row _ sz' n' rows=>if sz=sz' then m7.pure {v:=.sl sz n ((rows.drop lo).take n),ls:=[(g,j)],obl:=[lo+n<=n']}else m7.no
   |_=>m7.no
  |_=>m7.no
def a26:List PM->List V->m7 (AR (List V))
 |_,[]=>m7.pure {v:=[]}
 |m::ms,v::vs=>m7.bind (a2E m v) λx=>m7.bind (a26 ms vs) λy=>
  m7.pure {v:=x.v::y.v,ks:=x.ks++y.ks,ls:=x.ls++y.ls,obl:=x.obl++y.obl}
 | [],_::_=>m7.no
inductive R7 (S:St) (w:World) (G:Nat->Nat->Value):List (Nat×Nat)->List Nat->Prop
 |nil:R7 S w G [] []
 |cons (id:Nat×Nat) (e:x8) (f:List Nat) (ks:List (Nat×Nat)) (fs:List Nat) (he:S.ent id.1 id.2=U e) (hl:e.live=Y) (hf:∀k∈f,EB w e (G id.1 id.2) k) (hn:f.Nodup) (t:R7 S w G ks fs):R7 S w G (id::ks) (f++fs)
def R7.append{S:St}{w:World}{G:Nat->Nat->Value}{k1:List (Nat×Nat)}{f1:List Nat}(h:R7 S w G k1 f1){k2:List (Nat×Nat)}{f2:List Nat}(h2:R7 S w G k2 f2):R7 S w G (k1++k2) (f1++f2):=by
 induction h with
 |nil=>exact h2
 |cons id e f ks fs he hl hf hn t ih=>
  rw[g1d];exact .cons id e f _ _ he hl hf hn ih
def R7.one{S:St}{w:World}{G:Nat->Nat->Value}{g j:Nat}{e:x8}{f:List Nat}(he:S.ent g j=U e)(hl:e.live=Y)(hf:∀k∈f,EB w e (G g j) k)(hn:f.Nodup):R7 S w G [(g,j)] f:=by
 have:=R7.cons (S:=S) (w:=w) (G:=G) (g,j) e f [] [] he hl hf hn .nil;simpa using this
def R7.mem{S:St}{w:World}{G:Nat->Nat->Value}{ks:List (Nat×Nat)}{fs:List Nat}(h:R7 S w G ks fs){k:Nat}(hk:k∈fs):∃id∈ks,∃e,S.ent id.1 id.2=U e/\e.live=Y/\EB w e (G id.1 id.2) k:=by
 induction h with
 |nil=>cases hk
 |cons id e f ks fs he hl hf hn t ih=>
  rcases g0Z.1 hk with q|q
  ·exact⟨id,by simp,e,he,hl,hf k q⟩
  ·obtain⟨id',a,b⟩:=ih q;exact⟨id',by simp[a],b⟩
def R7.live{S:St}{w:World}{G:Nat->Nat->Value}{ks:List (Nat×Nat)}{fs:List Nat}(h:R7 S w G ks fs):∀id∈ks,∃e,S.ent id.1 id.2=U e/\e.live=Y:=by
 induction h with
 |nil=>intro id hid;cases hid
 |cons id e f ks fs he hl hf hn t ih=>
  intro id' hid;rcases g1a.1 hid with rfl|hid
  ·exact⟨e,he,hl⟩
  ·exact ih id' hid
def c5g(c:Value):(H5 c).Nodup:=by
 unfold H5;cases E1 c<;>simp
section
variable {J:U2} {F F1:Nat->Prop} {G:Nat->Nat->Value} {S:St} {a:Act} {w:World}
structure g0W(S:St)(G:Nat->Nat->Value)(F1:Nat->Prop)(ks ls:List (Nat×Nat)):Prop where
 live:∀id∈ks,∃e,S.ent id.1 id.2=U e/\e.live=Y
def b9t{D:Nat->Prop}{g j e sz n:Nat}{rows:List (List V)}{c:Value}(hc:RV w F D G (.own g j sz 0 n) c)(ho:OR w F e sz (G g j) n rows):c=G g j:=by
 obtain⟨flat,hown0,_⟩:=ho;obtain⟨hD,⟨b,nn,cap,hι,hlo,hb0,hb1,hc⟩|⟨hl0',_⟩⟩:=hc.inv_own;case inr=>omega
 rcases hown0.2 with⟨hv,hz⟩|⟨g0,cap0,cur,hv,_⟩
 ·rw[hι]at hv;injection hv with e1 e2 e3;subst e1;subst e2;subst e3;subst hz;rw[hc,hι];simp
 ·rw[hι]at hv;injection hv with e1 e2 e3;subst e1;subst e2;subst e3;rw[hc,hι];by_cases q:cap=0
  ·simp[q]
  ·simp[q,Addr.add]
def OR.mono{F':Nat->Prop}(hF:∀k,F k->F' k){e sz n:Nat}{rows:List (List V)}{c:Value}(h:OR w F e sz c n rows):OR w F' e sz c n rows:=by
 obtain⟨flat,h1,h2,h3,h4⟩:=h;exact⟨flat,h1,h2.mono (λ_ _ _=>rfl) hF,h3,h4⟩
def c8E{e sz n:Nat}{rows:List (List V)}{c:Value}{flat:List Value}(ho:w.ownsRow 0 e sz c n flat)(hf:FL w F1 rows.flatten flat)(hn:(O rows)=n)(hl:∀r∈rows,(O r)=sz)(hb:∀k,E1 c=U k->F1 k):FV w F1 (.sl sz n rows) c:=by
 rcases ho.2 with⟨hv,h0⟩|⟨g0,cap,cur,hv,_,hg,hnc,hcm,hcs,ht⟩
 ·rw[hv];subst h0;have:rows=[]:=g1c hn;subst this;exact .sl0 sz Z 0
 ·have hb':=hb g0 (by rw[hv];rfl);rw[hv];refine .sl sz n rows g0 0 cap flat hb' hf hn hl hnc ?_;intro q u hu;rw[cell_of_row w g0 (0+q) cur e (0,0) hg,g1U];rw[<-ht,g2u]at hu;split at hu
  ·simpa using hu
  ·cases hu
def f0k(rows:List (List V)):a28 rows.flatten=(rows.map a28).flatten:=by
 induction rows with
 |nil=>rfl
 |cons r rows ih=>
  rw[g1t,g1v,g1t,<-ih,b6f,b6f,b6f,g1W]
def c43{D:Nat->Prop}{e sz n' lo n g j:Nat}{rows:List (List V)}{c:Value}(hF:∀k,F k->F1 k)(hr:OR w F e sz (G g j) n' rows)(hb:∀k,E1 (G g j)=U k->F1 k)(hc:RC w F D G (.own g j sz lo n) c)(hle:lo+n<=n'):FV w F1 (.sl sz n ((rows.drop lo).take n)) c:=by
 obtain⟨flat,ho,hf,hn,hl⟩:=hr;exact a8E (e:=0) (D:=D) (c8E ho (hf.mono (λ_ _ _=>rfl) hF) hn hl hb) (hc.mono (λ_ _ _=>rfl) hF (λ_ x=>x) (λ_ _ _=>rfl)) hle
def b95{D:Nat->Prop}{g j e sz n:Nat}{flat:List Value}{c:Value}(hc:RV w F D G (.own g j sz 0 n) c)(hown0:w.ownsRow 0 e sz (G g j) n flat):c=G g j:=by
 obtain⟨hD,⟨b,nn,cap,hι,hlo,hb0,hb1,hc⟩|⟨hl0',_⟩⟩:=hc.inv_own;case inr=>omega
 rcases hown0.2 with⟨hv,hz⟩|⟨g0,cap0,cur,hv,_⟩
 ·rw[hι]at hv;injection hv with e1 e2 e3;subst e1;subst e2;subst e3;subst hz;rw[hc,hι];simp
 ·rw[hι]at hv;injection hv with e1 e2 e3;subst e1;subst e2;subst e3;rw[hc,hι];by_cases q:cap=0
  ·simp[q]
  ·simp[q,Addr.add]
mutual
theorem BC.memF {F1:Nat->Prop} (hF:∀k,F k->F1 k):∀{v c f},BC w F v c f->(∀k∈f,F1 k)->FV w F1 (a9i v) c
 |v,c,_,.fv _ _ h,_=>by
  have:a9i v=v:=by cases h<;>rfl
  rw[this];exact h.mono (λ_ _ _=>rfl) hF
 |_,_,_,.osl e sz n rows c h,hb=>by
  obtain⟨flat,ho,hf,hn,hl⟩:=h;exact c8E ho (hf.mono (λ_ _ _=>rfl) hF) hn hl λk hk=>hb k (X1.2 hk)
 |_,_,_,.dsl e sz n rows c flat fs ho hr hn hl,hb=>by
  have h2:=BL.memF hF hr λk hk=>hb k (g0Z.2 (.inr hk))
  rw[show a9i (.dsl e sz n rows)=.sl sz n (a0R rows)from rfl,c5n];refine c8E ho ?_ (by simpa using hn) ?_ λk hk=>hb k (g0Z.2 (.inl (X1.2 hk)))
  ·rw[<-f0k];exact h2
  ·intro r hr';obtain⟨r0,h0,rfl⟩:=g1m.1 hr';rw[b6f,g1J];exact hl r0 h0
theorem BL.memF {F1:Nat->Prop} (hF:∀k,F k->F1 k):∀{vs cs f},BL w F vs cs f->(∀k∈f,F1 k)->FL w F1 (a28 vs) cs
 |_,_,_,.nil,_=>.nil
 |_,_,_,.cons v c f vs cs fs h t,hb=>.cons _ _ _ _ (BC.memF hF h λk hk=>hb k (g0Z.2 (.inl hk))) (BL.memF hF t λk hk=>hb k (g0Z.2 (.inr hk)))
end
def c4U(h:A2 J F G S a w)(hF:∀k,F k->F1 k){ck om:Option Nat}{v:V}{c:Value}{r:AR V}{lg:List (Nat×Nat)}(hc:RC w F S.D G v c)(hm:Y5 ck om v S.ent=U (r,lg))(hob:∀p∈r.obl,p)(hL:∀id∈r.ls,∀e k,S.ent id.1 id.2=U e->EB w e (G id.1 id.2) k->F1 k):∃fp,BC w F1 r.v c fp/\R7 S w G r.ks fp/\(∀id∈r.ls,∃e,S.ent id.1 id.2=U e/\e.live=Y):=by
 unfold Y5 at hm;cases om with
 |some e=>
  simp only at hm;split at hm
  ·have:=m7.pure_some hm;injection this with h1 h2;subst h1;exact⟨[],.fv _ _ (.bot _ hc.one),.nil,by simp⟩
  split at hm
  ·cases v<;>try (cases hm;done)
   case own g j sz lo n=>
   simp only at hm;obtain⟨en,l1,l2,hrd,hp,hl12⟩:=m7.bind_some hm;clear hm;have he:=(m7.rd_some hrd).1;simp only at he;have hre:=h.ents g j en he;cases en<;>try (cases hp;done)
   case row e' sz' n' rows=>
    simp only at hp;split at hp<;>try (cases hp;done)
    rename_i hcond;subst hcond;have:=m7.pure_some hp;injection this with h1 h2;subst h1;have hle:lo+n<=n':=hob _ (by simp);refine⟨[],.fv _ _ (c43 hF hre (λk hk=>hL (g,j) (by simp) _ k he hk) hc hle),.nil,?_⟩;intro id hid;simp at hid;subst hid;exact⟨_,he,rfl⟩
   case deep o e' sz' n' rows=>
    cases o<;>try (cases hp;done)
    simp only at hp;split at hp<;>try (cases hp;done)
    rename_i hcond;subst hcond;have:=m7.pure_some hp;injection this with h1 h2;subst h1;have hle:lo+n<=n':=hob _ (by simp);obtain⟨flat,fs,ho,hkl,hn',hl,hd,hnr⟩:=id hre;have hall:∀k∈H5 (G g j)++fs,F1 k:=λk hk=>hL (g,j) (by simp) _ k he ((EB.deep_iff ho hkl).2 hk)
    have hfv:FV w F1 (.sl sz n' (a0R rows)) (G g j):=BC.memF hF (.dsl e' sz n' rows (G g j) flat fs ho (hkl.blOf (hnr rfl).flat) hn' hl) hall;refine⟨[],.fv _ _ (a8E (e:=0) (D:=S.D) hfv (hc.mono (λ_ _ _=>rfl) hF (λ_ x=>x) (λ_ _ _=>rfl)) hle),.nil,?_⟩;intro id hid;simp at hid;subst hid;exact⟨_,he,rfl⟩
  cases v<;>try (cases hm;done)
  case nil=>
   have:=m7.pure_some hm;injection this with h1 h2;subst h1;have hcc:c=.slice Z 0 0:=(RV.cell hc).inv_nil;subst hcc;refine⟨[],?_,.nil,by simp⟩;simp only;split
   ·exact BC.osl (w:=w) (F:=F1) e (ck.getD 0) 0 [] (.slice Z 0 0) ⟨[],World.ownsRow_nil w 0 e _,.nil,rfl,by simp⟩
   ·exact BC.dsl (w:=w) (F:=F1) (e-c0J) (ck.getD 0) 0 [] (.slice Z 0 0) [] [] (World.ownsRow_nil w 0 _ _) .nil rfl (by simp)
  case own g j sz lo n=>
   cases lo with
   |succ q=>cases hm
   |zero=>
   simp only at hm;obtain⟨en,l1,l2,hrd,hp,hl12⟩:=m7.bind_some hm;clear hm;have he:=(m7.rd_some hrd).1;simp only at he;have hre:=h.ents g j en he;cases en<;>try (cases hp;done)
   case row e' sz' n' rows=>
    simp only at hp;split at hp<;>try (cases hp;done)
    rename_i hcond;obtain⟨rfl,rfl⟩:=hcond;have:=m7.pure_some hp;injection this with h1 h2;subst h1;have hnn:n=n':=hob _ (by simp);subst hnn;have hcw:=b9t (RV.cell hc) hre;subst hcw;exact⟨H5 (G g j),.osl _ _ _ _ _ (OR.mono hF hre),.one he rfl (λk hk=>X1.1 hk) (c5g _),by simp⟩
   case deep o e' sz' n' rows=>
    cases o<;>try (cases hp;done)
    simp only at hp;split at hp<;>try (cases hp;done)
    rename_i hcond;obtain⟨rfl,rfl⟩:=hcond;have:=m7.pure_some hp;injection this with h1 h2;subst h1;have hnn:n=n':=hob _ (by simp);subst hnn;obtain⟨flat,fs,ho,hkl,hn,hl,hd,hnr⟩:=hre;have hcw:=b95 (RV.cell hc) ho;subst hcw;exact⟨H5 (G g j)++fs,.dsl _ _ _ _ _ flat fs ho ((hkl.blOf (hnr rfl).flat).mono (λ_ _ _=>rfl) hF λ_ _=>rfl) hn hl,.one he rfl (λk hk=>(EB.deep_iff ho hkl).2 hk) hd,by simp⟩
 |none=>
  simp only at hm;cases v<;>try (cases hm;done)
  case own g j sz lo n=>
   simp only at hm;obtain⟨en,l1,l2,hrd,hp,hl12⟩:=m7.bind_some hm;clear hm;have he:=(m7.rd_some hrd).1;simp only at he;have hre:=h.ents g j en he;cases en<;>try (cases hp;done)
   case row e' sz' n' rows=>
    simp only at hp;split at hp<;>try (cases hp;done)
    rename_i hcond;subst hcond;have:=m7.pure_some hp;injection this with h1 h2;subst h1;obtain⟨flat,_,_,hn',_⟩:=id hre;obtain⟨hle,hp1,hp2⟩:=b03 hn' hob;simp only[hp1,hp2];refine⟨[],.fv _ _ (c43 hF hre (λk hk=>hL (g,j) (by simp) _ k he hk) hc hle),.nil,?_⟩;intro id hid;simp at hid;subst hid;exact⟨_,he,rfl⟩
   case frz sz' n' rows=>
    simp only at hp;split at hp<;>try (cases hp;done)
    rename_i hcond;subst hcond;have:=m7.pure_some hp;injection this with h1 h2;subst h1;have hr:FV w F (.sl sz n' rows) (G g j):=hre;obtain⟨hle,hp1,hp2⟩:=b03 hr.rows_len hob;simp only[hp1,hp2];exact⟨[],.fv _ _ ((a8E (e:=0) (D:=S.D) hre hc hle).mono (λ_ _ _=>rfl) hF),.nil,by simp⟩
   case deep o e' sz' n' rows=>
    cases o<;>try (cases hp;done)
    simp only at hp;split at hp<;>try (cases hp;done)
    rename_i hcond;subst hcond;have:=m7.pure_some hp;injection this with h1 h2;subst h1;obtain⟨flat,fs,ho,hkl,hn',hl,hd,hnr⟩:=id hre;have hall:∀k∈H5 (G g j)++fs,F1 k:=λk hk=>hL (g,j) (by simp) _ k he ((EB.deep_iff ho hkl).2 hk)
    have hfv:FV w F1 (.sl sz n' (a0R rows)) (G g j):=BC.memF hF (.dsl e' sz n' rows (G g j) flat fs ho (hkl.blOf (hnr rfl).flat) hn' hl) hall;obtain⟨hle,hp1,hp2⟩:=b03 hfv.rows_len hob;simp only[hp1,hp2];refine⟨[],.fv _ _ (a8E (e:=0) (D:=S.D) hfv (hc.mono (λ_ _ _=>rfl) hF (λ_ x=>x) (λ_ _ _=>rfl)) hle),.nil,?_⟩;intro id hid;simp at hid;subst hid;exact⟨_,he,rfl⟩
  case nil=>
   have hcc:c=.slice Z 0 0:=(RV.cell hc).inv_nil;subst hcc;cases ck with
   |some sz=>
    have:=m7.pure_some hm;injection this with h1 h2;subst h1;exact⟨[],.fv _ _ (.sl0 sz Z 0),.nil,by simp⟩
   |none=>
    have:=m7.pure_some hm;injection this with h1 h2;subst h1;exact⟨[],.fv _ _ .nil,.nil,by simp⟩
  case hole=>
   cases hc with
   |fv v c h=>cases h
  all_goals
   have:=m7.pure_some hm;injection this with h1 h2;subst h1;refine⟨[],.fv _ _ ?_,.nil,by simp⟩;cases hc with
   |fv v c h=>exact h.mono (λ_ _ _=>rfl) hF
def a3X(S:St)(ks ls:List (Nat×Nat)):Prop:=(∀id∈ks,∃e,S.ent id.1 id.2=U e/\e.live=Y)/\(∀id∈ls,∃e,S.ent id.1 id.2=U e/\e.live=Y)
def a3X.append{S:St}{k1 k2 l1 l2:List (Nat×Nat)}(h:a3X S k1 l1)(h':a3X S k2 l2):a3X S (k1++k2) (l1++l2):=
 ⟨λid hid=>(g0Z.1 hid).elim (h.1 id) (h'.1 id),λid hid=>(g0Z.1 hid).elim (h.2 id) (h'.2 id)⟩
def b42(h:A2 J F G S a w)(hF:∀k,F k->F1 k){vs:List V}{cs:List Value}(hc:B5 (RC w F S.D G) vs cs):∀{ck om:List (Option Nat)} {r:AR (List V)} {lg:List (Nat×Nat)},a2X ck om vs S.ent=U (r,lg)->(∀p∈r.obl,p)->
  (∀id∈r.ls,∀e k,S.ent id.1 id.2=U e->EB w e (G id.1 id.2) k->F1 k)->∃fp,BL w F1 r.v cs fp/\R7 S w G r.ks fp/\a3X S r.ks r.ls:=by
 induction hc with
 |nil=>
  intro ck om r lg hm hob hL;have:=m7.pure_some hm;injection this with h1 h2;subst h1;exact⟨[],.nil,.nil,by simp[a3X]⟩
 |cons hv ht ih=>
  intro ck om r lg hm hob hL;obtain⟨x,l1,l2,hx,hm1,_⟩:=m7.bind_some hm;obtain⟨y,l3,l4,hy,hm2,_⟩:=m7.bind_some hm1;have:=m7.pure_some hm2;injection this with h1 h2;subst h1;obtain⟨f1,b1,p1,k2⟩:=c4U h hF hv hx (λp hp=>hob p (g0Z.2 (.inl hp))) (λid hid=>hL id (g0Z.2 (.inl hid)));obtain⟨f2,b2,p2,hh⟩:=ih hy (λp hp=>hob p (g0Z.2 (.inr hp))) (λid hid=>hL id (g0Z.2 (.inr hid)));exact⟨f1++f2,.cons _ _ _ _ _ _ b1 b2,p1.append p2,a3X.append ⟨p1.live,k2⟩ hh⟩
def e29(h:A2 J F G S a w)(hF:∀k,F k->F1 k){m:PM}{v:V}{c:Value}{r:AR V}{lg:List (Nat×Nat)}(hc:RV w F S.D G v c)(hm:a2E m v S.ent=U (r,lg))(hob:∀p∈r.obl,p)(hL:∀id∈r.ls,∀e k,S.ent id.1 id.2=U e->EB w e (G id.1 id.2) k->F1 k):∃fp,BA w F1 r.v c fp/\R7 S w G r.ks fp/\a3X S r.ks r.ls:=by
 have cell:∀{v:V} {ck om:Option Nat},RV w F S.D G v c->(∀cs,v ≠ .agg cs)->(∀cs,v ≠ .tup cs)->v ≠ .bot->Y5 ck om v S.ent=U (r,lg)->∃fp,BA w F1 r.v c fp/\R7 S w G r.ks fp/\a3X S r.ks r.ls:=by
  intro v ck om hc h1 h2 h3 hm;have hrc:RC w F S.D G v c:=by
   cases hc with
   |one v c h=>cases h with
    |cell v c h=>exact h
    |agg cs ds h=>exact absurd rfl (h1 cs)
   |tup cs ds h=>exact absurd rfl (h2 cs)
   |any c=>exact absurd rfl h3
  obtain⟨f,b,p,k⟩:=c4U h hF hrc hm hob hL;exact⟨f,.cell _ _ _ b,p,p.live,k⟩
 cases m with
 |val ck om=>
  unfold a2E at hm;cases v<;>try (cases hm;done)
  case agg cs=>
   simp only at hm;obtain⟨x,l1,l2,hx,hm1,_⟩:=m7.bind_some hm;have:=m7.pure_some hm1;injection this with h1 h2;subst h1;obtain⟨ds,rfl,hall⟩:=hc.inv_agg;obtain⟨f,b,p,hh⟩:=b42 h hF hall hx hob hL;exact⟨f,.agg _ _ _ b,p,hh⟩
  all_goals exact cell hc (by simp) (by simp) (by simp) hm
 |ptr ck om=>
  unfold a2E at hm;cases v<;>try (cases hm;done)
  case ptr g j off=>
   cases off with
   |succ q=>cases hm
   |zero=>
   simp only at hm;obtain⟨en,l1,l2,hrd,hp,hl12⟩:=m7.bind_some hm;clear hm;have he:=(m7.rd_some hrd).1;simp only at he;have hre:=h.ents g j en he;cases en<;>try (cases hp;done)
   case var e cs=>
    simp only at hp;obtain⟨x,l3,l4,hx,hm1,_⟩:=m7.bind_some hp;have:=m7.pure_some hm1;injection this with h1 h2;subst h1;obtain⟨hD,b,hι,rfl⟩:=hc.inv_ptr;obtain⟨g0,cur,h1,hg,hall⟩:=hre;rw[hι]at h1;injection h1 with h1;injection h1 with h1;injection h1 with h1;subst h1;obtain⟨f,bl,p,hh⟩:=b42 h hF hall hx hob hL;have hp:=R7.cons (S:=S) (w:=w) (G:=G) (g,j) _ [b] _ _ he rfl (λk hk=>by
     rw[g03.1 hk];exact EB.top (by rw[hι];rfl)) (by simp) p
    exact⟨b::f,.optr _ _ _ _ _ hg bl,hp,hp.live,hh.2⟩
 |row=>
  unfold a2E at hm;cases v<;>try (cases hm;done)
  case own g j sz lo n=>
   cases lo with
   |succ q=>cases hm
   |zero=>
   simp only at hm;obtain⟨en,l1,l2,hrd,hp,hl12⟩:=m7.bind_some hm;clear hm;have he:=(m7.rd_some hrd).1;simp only at he;have hre:=h.ents g j en he;cases en<;>try (cases hp;done)
   case row e' sz' n' rows=>
    simp only at hp;split at hp<;>try (cases hp;done)
    rename_i hcond;subst hcond;have:=m7.pure_some hp;injection this with h1 h2;subst h1;have hnn:n=n':=hob _ (by simp);subst hnn;have hcw:=b9t hc hre;subst hcw;have hp:=R7.one (w:=w) (G:=G) he rfl (λk hk=>X1.1 hk) (c5g _);exact⟨H5 (G g j),.cell _ _ _ (.osl _ _ _ _ _ (OR.mono hF hre)),hp,hp.live,by simp⟩
   case deep o e' sz' n' rows=>
    cases o<;>try (cases hp;done)
    simp only at hp;split at hp<;>try (cases hp;done)
    rename_i hcond;subst hcond;have:=m7.pure_some hp;injection this with h1 h2;subst h1;have hnn:n=n':=hob _ (by simp);subst hnn;obtain⟨flat,fs,ho,hkl,hn,hl,hd,hnr⟩:=hre;have hcw:=b95 hc ho;subst hcw;have hp:=R7.one (w:=w) (G:=G) he rfl (λk hk=>(EB.deep_iff ho hkl).2 hk) hd;exact⟨H5 (G g j)++fs,.cell _ _ _ (.dsl _ _ _ _ _ flat fs ho ((hkl.blOf (hnr rfl).flat).mono (λ_ _ _=>rfl) hF λ_ _=>rfl) hn hl),hp,hp.live,by simp⟩
 |part=>
  unfold a2E at hm;cases v<;>try (cases hm;done)
  case own g j sz lo n=>
   simp only at hm;obtain⟨en,l1,l2,hrd,hp,hl12⟩:=m7.bind_some hm;clear hm;have he:=(m7.rd_some hrd).1;simp only at he;have hre:=h.ents g j en he;cases en<;>try (cases hp;done)
   case row e' sz' n' rows=>
    simp only at hp;split at hp<;>try (cases hp;done)
    rename_i hcond;subst hcond;have:=m7.pure_some hp;injection this with h1 h2;subst h1;have hle:lo+n<=n':=hob _ (by simp);have hrc:RC w F S.D G (.own g j sz lo n) c:=by
     cases hc with
     |one v c h=>cases h with
      |cell v c h=>exact h
    refine⟨[],.cell _ _ _ (.fv _ _ (c43 hF hre (λk hk=>hL (g,j) (by simp) _ k he hk) hrc hle)),.nil,by simp,?_⟩;intro id hid;simp at hid;subst hid;exact⟨_,he,rfl⟩
def d47(h:A2 J F G S a w)(hF:∀k,F k->F1 k){vs:List V}{cs:List Value}(hc:B5 (RV w F S.D G) vs cs):∀{ms:List PM} {r:AR (List V)} {lg:List (Nat×Nat)},a26 ms vs S.ent=U (r,lg)->(∀p∈r.obl,p)->
  (∀id∈r.ls,∀e k,S.ent id.1 id.2=U e->EB w e (G id.1 id.2) k->F1 k)->∃fp,BS w F1 r.v cs fp/\R7 S w G r.ks fp/\a3X S r.ks r.ls:=by
 induction hc with
 |nil=>
  intro ms r lg hm hob hL;have:a26 ms []=m7.pure {v:=[]}:=by cases ms<;>rfl
  rw[this]at hm;have:=m7.pure_some hm;injection this with h1 h2;subst h1;exact⟨[],.nil,.nil,by simp[a3X]⟩
 |cons hv ht ih=>
  intro ms r lg hm hob hL;cases ms with
  |nil=>cases hm
  |cons m ms=>
  obtain⟨x,l1,l2,hx,hm1,_⟩:=m7.bind_some hm;obtain⟨y,l3,l4,hy,hm2,_⟩:=m7.bind_some hm1;have:=m7.pure_some hm2;injection this with h1 h2;subst h1;obtain⟨f1,b1,p1,k1⟩:=e29 h hF hv hx (λp hp=>hob p (g0Z.2 (.inl hp))) (λid hid=>hL id (g0Z.2 (.inl hid)));obtain⟨f2,b2,p2,hh⟩:=ih hy (λp hp=>hob p (g0Z.2 (.inr hp))) (λid hid=>hL id (g0Z.2 (.inr hid)));exact⟨f1++f2,.cons _ _ _ _ _ _ b1 b2,p1.append p2,a3X.append k1 hh⟩
end
def J3(ks:List (Nat×Nat)):List U0:=ks.map λid=>(id,.dead)
section
variable {J:U2} {F F':Nat->Prop} {G:Nat->Nat->Value} {S:St} {a:Act} {w w':World}
def b2I(ks:List (Nat×Nat)):∀{S:St} {g j:Nat} {e:x8},(S.upds (J3 ks)).ent g j=U e->((g,j)∈ks/\e=.dead)\/((g,j) ∉ ks/\S.ent g j=U e):=by
 induction ks with
 |nil=>intro S g j e h;exact .inr ⟨by simp,h⟩
 |cons id ks ih=>
  intro S g j e h;obtain⟨g0,j0⟩:=id;rcases ih (S:=S.setE g0 j0 .dead) h with⟨h1,h2⟩|⟨h1,h2⟩
  ·exact .inl ⟨by simp[h1],h2⟩
  ·by_cases q:g=g0/\j=j0
   ·obtain⟨rfl,rfl⟩:=q;by_cases q2:∃e0,S.ent g j=U e0
    ·obtain⟨e0,he⟩:=q2;rw[W5 he]at h2;simp at h2;exact .inl ⟨by simp,h2.symm⟩
    ·exfalso
     apply q2;unfold St.setE at h2;split at h2
     ·rename_i l hl;have:j<(O l):=by
       have:=St.D_of_ent h2;rw[a3p (S:={S with h:=S.h.set g (U (l.set j .dead))}) (l:=l.set j .dead) (by simp[(g06.1 hl).1])]at h2;have:=(g06.1 h2).1;simpa using this
      exact⟨l[j],by rw[a3p hl];simp[this]⟩
     ·exact⟨e,h2⟩
   ·rw[a7T q]at h2;refine .inr ⟨?_,h2⟩;intro hm;rcases g1a.1 hm with hm|hm
    ·injection hm with x y;exact q ⟨x,y⟩
    ·exact h1 hm
def A2.killAll(ks:List (Nat×Nat)):∀{S:St},A2 J F G S a w->(∀id∈ks,∃e,S.ent id.1 id.2=U e)->A2 J F G (S.upds (J3 ks)) a w:=by
 induction ks with
 |nil=>exact λh _=>h
 |cons id ks ih=>
  intro S h hk;obtain⟨g0,j0⟩:=id;obtain⟨e,he⟩:=hk (g0,j0) (by simp);refine ih (h.kill he) ?_;intro id hid;obtain⟨e',he'⟩:=hk id (by simp[hid]);by_cases q:id.1=g0/\id.2=j0
  ·exact⟨.dead,by rw[W5 he];simp[q]⟩
  ·exact⟨e',by rw[a7T q];exact he'⟩
def A2.world3(h:A2 J F G S a w){fp:List Nat}(hk:a5G (· ∈ fp) w w')(hfp:∀k∈fp,¬F k/\(J.own k\/J.w0.heap.size<=k)/\∀g j e,S.ent g j=U e->e.live=Y->¬EB w e (G g j) k):A2 J F G S a w':=by
  have hs:M7 w w' F:=a2D λg hF=>hk.block g (h.F1 g hF) λq=>(hfp g q).1 hF
  have hbk:∀g j e,S.ent g j=U e->e.live=Y->∀k,EB w e (G g j) k->w'.heap[k]?=w.heap[k]?:=λg j e he hl k hk'=>hk.block k (h.lt he hl hk') λq=>(hfp k q).2.2 g j e he hl hk'
  exact
    { F0:=h.F0
      F1:=λg hF=>g2m (h.F1 g hF) hk.size
      F2:=h.F2
      kept:=h.kept.trans hk (λg hg hlt=>by
        rcases(hfp g hg).2.1 with x|x
        . exact x
        . omega)
      tmps:=h.tmps.imp λ_ _ x=>x.mono hs (λ_ y=>y) (λ_ y=>y) (λ_ _ _=>rfl)
      ents:=λg j e he=>(h.ents g j e he).mono hs (λ_ y=>y) (λ_ y=>y) (λ_ _ _=>rfl) (λk hl hk'=>hbk g j e he hl k hk')
      sep:=λg j e k he hl hk'=>h.sep g j e k he hl ((h.ents g j e he).back (hbk g j e he hl) hk')
      inj:=λg j e g' j' e' k he he' hl hl' hk1 hk2=>h.inj g j e g' j' e' k he he' hl hl' ((h.ents g j e he).back (hbk g j e he hl) hk1) ((h.ents g' j' e' he').back (hbk g' j' e' he' hl') hk2)
      defers:=h.defers
      pins:=h.pins}
def A2.grow(h:A2 J F G S a w)(hF:∀k,F k->F' k)(h1:∀k,F' k->k<w.heap.size)(h2:∀k,F' k->J.F0 k\/J.own k\/J.w0.heap.size<=k)(h3:∀g j e k,S.ent g j=U e->e.live=Y->EB w e (G g j) k->¬F' k):A2 J F' G S a w:=
  { F0:=λg x=>hF g (h.F0 g x)
    F1:=h1
    F2:=h2
    kept:=h.kept
    tmps:=h.tmps.imp λ_ _ x=>x.mono (λ_ _ _=>rfl) hF (λ_ y=>y) (λ_ _ _=>rfl)
    ents:=λg j e he=>(h.ents g j e he).mono (λ_ _ _=>rfl) hF (λ_ y=>y) (λ_ _ _=>rfl) (λ_ _ _=>rfl)
    sep:=λg j e k he hl hk=>⟨h3 g j e k he hl hk,(h.sep g j e k he hl hk).2⟩
    inj:=h.inj
    defers:=h.defers
    pins:=h.pins}
def A2.revive(h:A2 J F G S a w){g j:Nat}{e':x8}(he:S.ent g j=U .dead)(hre:RE w F S.D G e' (G g j))(hsep:e'.live=Y->∀k,EB w e' (G g j) k->(¬F k/\(J.own k\/J.w0.heap.size<=k))/\∀g' j' e,S.ent g' j'=U e->e.live=Y->¬EB w e (G g' j') k):A2 J F G (S.setE g j e') a w:=by
  have hD:∀k,S.D k->(S.setE g j e').D k:=λk x=>W6.2 x
  have hs:M7 w w F:=λ_ _ _=>rfl
  have old:∀g' j' e1,(S.setE g j e').ent g' j'=U e1->(g'=g/\j'=j/\e1=e')\/(¬(g'=g/\j'=j)/\S.ent g' j'=U e1):=by
    intro g' j' e1 h';rw[W5 he]at h';split at h'
    . rename_i q;injection h' with h';exact .inl ⟨q.1,q.2,h'.symm⟩
    . rename_i q;exact .inr ⟨q,h'⟩
  exact
    { F0:=h.F0,F1:=h.F1,F2:=h.F2,kept:=h.kept
      tmps:=by rw[a85];exact h.tmps.imp λ_ _ x=>x.mono hs (λ_ y=>y) hD (λ_ _ _=>rfl)
      ents:=λg' j' e1 h'=>by
        rcases old g' j' e1 h' with⟨rfl,rfl,rfl⟩|⟨_,h'⟩
        . exact hre.mono hs (λ_ y=>y) hD (λ_ _ _=>rfl) (λ_ _ _=>rfl)
        . exact(h.ents g' j' e1 h').mono hs (λ_ y=>y) hD (λ_ _ _=>rfl) (λ_ _ _=>rfl)
      sep:=λg' j' e1 k h' hl hk=>by
        rcases old g' j' e1 h' with⟨rfl,rfl,rfl⟩|⟨_,h'⟩
        . exact(hsep hl k hk).1
        . exact h.sep g' j' e1 k h' hl hk
      inj:=λg1 j1 e1 g2 j2 e2 k h1 h2 l1 l2 k1 k2=>by
        rcases old g1 j1 e1 h1 with⟨rfl,rfl,rfl⟩|⟨_,y1⟩
        . rcases old g2 j2 e2 h2 with⟨rfl,rfl,rfl⟩|⟨_,y2⟩
          . exact⟨rfl,rfl⟩
          . exact absurd k2 ((hsep l1 k k1).2 g2 j2 e2 y2 l2)
        . rcases old g2 j2 e2 h2 with⟨rfl,rfl,rfl⟩|⟨_,y2⟩
          . exact absurd k1 ((hsep l2 k k2).2 g1 j1 e1 y1 l1)
          . exact h.inj g1 j1 e1 g2 j2 e2 k y1 y2 l1 l2 k1 k2
      defers:=h.defers
      pins:=λj c hc=>⟨W6.2 (h.pins j c hc).1,(h.pins j c hc).2⟩}
def A2.reviveAll(us:List U0):∀{S:St},A2 J F G S a w->(us.map (·.1)).Nodup->(∀u∈us,S.ent u.1.1 u.1.2=U .dead)->(∀u∈us,RE w F S.D G u.2 (G u.1.1 u.1.2))->
  (∀u∈us,u.2.live=Y->∀k,EB w u.2 (G u.1.1 u.1.2) k->(¬F k/\(J.own k\/J.w0.heap.size<=k))/\∀g' j' e,S.ent g' j'=U e->e.live=Y->¬EB w e (G g' j') k)->
  (∀u∈us,∀v∈us,∀k,u.2.live=Y->v.2.live=Y->EB w u.2 (G u.1.1 u.1.2) k->EB w v.2 (G v.1.1 v.1.2) k->u.1=v.1)->A2 J F G (S.upds us) a w:=by
 induction us with
 |nil=>intro S h _ _ _ _ _;exact h
 |cons u us ih=>
  intro S h hn hd hre hsep hpair;obtain⟨⟨g,j⟩,e'⟩:=u;have hn':=g2h.1 hn;have hdead:=hd ((g,j),e') (by simp);have h1:=h.revive hdead (hre ((g,j),e') (by simp)) (λhl=>hsep ((g,j),e') (by simp) hl);have hne:∀v∈us,¬(v.1.1=g/\v.1.2=j):=by
   intro v hv q;exact hn'.1 (g1m.2 ⟨v,hv,Prod.ext q.1 q.2⟩)
  refine ih h1 hn'.2 ?_ ?_ ?_ ?_
  ·intro v hv;rw[a7T (hne v hv)];exact hd v (by simp[hv])
  ·intro v hv;exact(hre v (by simp[hv])).mono (λ_ _ _=>rfl) (λ_ y=>y) (λk x=>W6.2 x) (λ_ _ _=>rfl) (λ_ _ _=>rfl)
  ·intro v hv hl k hk;refine⟨(hsep v (by simp[hv]) hl k hk).1,?_⟩;intro g' j' e1 he1 hl1 hk1;rw[W5 hdead]at he1;split at he1
   ·rename_i q;injection he1 with he1;subst he1;obtain⟨rfl,rfl⟩:=q;have:=hpair v (by simp[hv]) ((g',j'),e') (by simp) k hl hl1 hk hk1;exact hne v hv ⟨by rw[this],by rw[this]⟩
   ·exact(hsep v (by simp[hv]) hl k hk).2 g' j' e1 he1 hl1 hk1
  ·intro x hx y hy;exact hpair x (by simp[hx]) y (by simp[hy])
def c83{S:St}{g j grp:Nat}{e:x8}{new:List x8}(h:g≠grp):(S.setE g j e).lay grp new=(S.lay grp new).setE g j e:=by
 unfold St.setE St.lay;simp only[g1k (Ne.symm h)];cases hx:S.h[g]? with
 |none=>rfl
 |some o=>cases o with
  |none=>rfl
  |some l=>simp only[List.set_comm _ _ h]
def b0V{grp:Nat}{new:List x8}:∀(us:List U0) (S:St),(∀u∈us,u.1.1≠grp)->(S.upds us).lay grp new=(S.lay grp new).upds us
 | [],_,_=>rfl
 | ((g,j),e)::us,S,h=>by
  simp only[St.upds];rw[b0V us _ (λu hu=>h u (by simp[hu])),c83 (h ((g,j),e) (by simp))]
end
def a3W:List (Option Nat)->List V->List V->Option (List U0)
 |_,[],[]=>U []
 |om,a::D9,o::os=>match om.headD Z,a,o with
  |none,_,.bot=>a3W om.tail D9 os
  |some q,.own g j _ 0 _,.osl e sz n rows=>if q=b9V then Z else if q=b2B then Z else match a3W om.tail D9 os with
   |some us=>U (((g,j),.row e sz n rows)::us)
   |none=>Z
  |some q,.own g j _ 0 _,.dsl e sz n rows=>if q=b9V then Z else if q=b2B then Z else match a3W om.tail D9 os with
   |some us=>U (((g,j),.deep W e sz n rows)::us)
   |none=>Z
  |_,_,_=>Z
 |_,_,_=>Z
def W8(grp:Nat):Nat->List PM->List V->List (Option V)->Option (List U0×List x8)
 |_,[],[],[]=>U ([],[])
 |j,_::ms,_::D9,Z::os=>W8 grp j ms D9 os
 |j,.ptr _ _::ms,.ptr g j0 0::D9,U (.optr e cs)::os=>
  let x:=Q6 grp j cs;match W8 grp (j+(O x.2)) ms D9 os with
  |some (us,es)=>U (((g,j0),.var e x.1)::us,x.2++es)
  |none=>Z
 |j,.row::ms,.own g j0 _ 0 _::D9,U (.osl e sz n rows)::os=>
  match W8 grp j ms D9 os with
  |some (us,es)=>U (((g,j0),.row e sz n rows)::us,es)
  |none=>Z
 |j,.row::ms,.own g j0 _ 0 _::D9,U (.dsl e sz n rows)::os=>
  match W8 grp j ms D9 os with
  |some (us,es)=>U (((g,j0),.deep W e sz n rows)::us,es)
  |none=>Z
 |j,.val _ om::ms,.agg cs::D9,U (.agg xs)::os=>
  match a3W om cs xs with
  |some us'=>match W8 grp j ms D9 os with
   |some (us,es)=>U (us'++us,es)
   |none=>Z
  |none=>Z
 |_,_,_,_=>Z
def c2q:V->Prop
 | .osl _ _ _ rows => ∀r∈rows,∀c∈r,c.simple=Y
 |v=>v.simple=Y
def U6:V->Prop
 | .osl _ _ _ rows => ∀r∈rows,∀c∈r,c.simple=Y
 | .dsl _ _ _ rows => ∀r∈rows,∀c∈r,c2q c
 | .bot=>True
 | .raw _=>True
 | .hole=>True
 |v=>v.simple=Y
def Y3:V->Prop
 | .agg cs => ∀c∈cs,U6 c
 | .optr _ cs => ∀c∈cs,U6 c
 |v=>U6 v
def Q9:V->Prop
 | .tup vs => ∀v∈vs,Y3 v
 |v=>Y3 v
def a48(outs:List (Option V)):Prop := ∀v,U v∈outs->Y3 v
section
variable {w:World} {F F':Nat->Prop}
def FV.scal{v:V}{c:Value}(h:FV w F' v c)(hs:v.simple=Y):FV w F v c:=by
 cases h<;>first|(simp[V.simple]at hs;done)|constructor
def FL.scal{vs:List V}{cs:List Value}(h:B5 (FV w F') vs cs)(hs:∀v∈vs,v.simple=Y):FL w F vs cs:=by
 induction h with
 |nil=>exact .nil
 |cons hv _ ih=>exact .cons _ _ _ _ (hv.scal (hs _ (by simp))) (ih λv hv=>hs v (by simp[hv]))
def BC.scalD{v:V}{c:Value}{f:List Nat}(h:BC w F' v c f)(hs:c2q v):BC w F v c f:=by
 cases h with
 |fv v c h=>
  refine .fv _ _ (h.scal ?_);cases h<;>exact hs
 |osl e sz n rows c h=>
  obtain⟨flat,h1,h2,h3,h4⟩:=h;refine .osl _ _ _ _ _ ⟨flat,h1,FL.scal h2.all2 ?_,h3,h4⟩;intro v hv;obtain⟨r,hr,hv⟩:=g1H.1 hv;exact hs r hr v hv
 |dsl=>cases hs
def BL.scalD:∀{vs:List V} {cs:List Value} {f:List Nat},BL w F' vs cs f->(∀v∈vs,c2q v)->BL w F vs cs f
 |_,_,_,.nil,_=>.nil
 |_,_,_,.cons v c f vs cs fs h t,hs=>.cons _ _ _ _ _ _ (h.scalD (hs v (by simp))) (BL.scalD t λv hv=>hs v (by simp[hv]))
def BC.scal{v:V}{c:Value}{f:List Nat}(h:BC w F' v c f)(hs:U6 v):BC w F v c f:=by
 cases h with
 |fv v c h=>
  cases h with
  |bot c h=>exact .fv _ _ (.bot c h)
  |raw c h=>exact .fv _ _ (.raw c h)
  |_=>refine .fv _ _ (FV.scal (F':=F') (by constructor<;>assumption) hs)
 |osl e sz n rows c h=>
  obtain⟨flat,h1,h2,h3,h4⟩:=h;refine .osl _ _ _ _ _ ⟨flat,h1,FL.scal h2.all2 ?_,h3,h4⟩;intro v hv;obtain⟨r,hr,hv⟩:=g1H.1 hv;exact hs r hr v hv
 |dsl e sz n rows c flat fs ho hr hn hl=>
  refine .dsl _ _ _ _ _ flat fs ho (hr.scalD ?_) hn hl;intro v hv;obtain⟨r,hr,hv⟩:=g1H.1 hv;exact hs r hr v hv
def BL.scal:∀{vs:List V} {cs:List Value} {f:List Nat},BL w F' vs cs f->(∀v∈vs,U6 v)->BL w F vs cs f
 |_,_,_,.nil,_=>.nil
 |_,_,_,.cons v c f vs cs fs h t,hs=>.cons _ _ _ _ _ _ (h.scal (hs v (by simp))) (BL.scal t λv hv=>hs v (by simp[hv]))
def BA.scal{v:V}{c:Value}{f:List Nat}(h:BA w F' v c f)(hs:Y3 v):BA w F v c f:=by
 cases h with
 |cell v c f h=>
  refine .cell _ _ _ (h.scal ?_);cases h with
  |fv v c h=>cases h<;>exact hs
  |osl e sz n rows c h=>exact hs
  |dsl=>exact hs
 |agg cs ds f h=>exact .agg _ _ _ (h.scal hs)
 |optr e cs g cur f hg h=>exact .optr _ _ _ _ _ hg (h.scal hs)
def BS.scal{vs:List V}{cs:List Value}{f:List Nat}(h:BS w F' vs cs f):(∀v∈vs,Y3 v)->BS w F vs cs f:=by
 induction h with
 |nil=>exact λ_=>.nil
 |cons v c f vs cs fs h t ih=>exact λhs=>.cons _ _ _ _ _ _ (h.scal (hs v (by simp))) (ih λv hv=>hs v (by simp[hv]))
def BR.scal{v:V}{c:Value}{f:List Nat}(h:BR w F' v c f)(hs:Q9 v):BR w F v c f:=by
 cases h with
 |one v c f h=>
  refine .one _ _ _ (h.scal ?_);cases h with
  |cell v c f h=>cases h with
   |fv v c h=>cases h<;>exact hs
   |osl e sz n rows c h=>exact hs
   |dsl=>exact hs
  |agg cs ds f h=>exact hs
  |optr e cs g cur f hg h=>exact hs
 |tup vs cs f h=>exact .tup _ _ _ (h.scal hs)
def BO.scal{vs:List (Option V)}{cs:List Value}{f:List Nat}(h:BO w F' vs cs f):a48 vs->BO w F vs cs f:=by
 induction h with
 |nil=>exact λ_=>.nil
 |skip c vs cs fs t ih=>exact λhs=>.skip _ _ _ _ (ih λv hv=>hs v (by simp[hv]))
 |cons v c f vs cs fs h t ih=>exact λhs=>.cons _ _ _ _ _ _ (h.scal (hs v (by simp))) (ih λv hv=>hs v (by simp[hv]))
end
def a9q{A B Ξ:List Nat}{X:List Nat}(h:X.Perm (A++B)):(Ξ++X).Perm (A++(Ξ++B)):=by
 refine(g2E.append_left Ξ h).trans ?_;rw[<-g1d,<-g1d];exact g2E.append_right B List.perm_append_comm
def RwC(G:Nat->Nat->Value):List (Option Nat)->List V->List Value->Prop
 |om,v::vs,c::cs=>(∀e g j sz n,om.headD Z=U e->v=.own g j sz 0 n->e≠b9V->e≠b2B->c=G g j)/\RwC G om.tail vs cs
 |_,_,_=>True
inductive Rw (G:Nat->Nat->Value):List PM->List V->List Value->Prop
 |nil (ms):Rw G ms [] []
 |row (ms v c vs cs) (h:∀g j sz n,v=.own g j sz 0 n->c=G g j) (t:Rw G ms vs cs):Rw G (.row::ms) (v::vs) (c::cs)
 |other (m ms v c vs cs) (h:m ≠ .row) (ha:∀ck om xs ds,m=.val ck om->v=.agg xs->c=.agg ds->RwC G om xs ds.toList) (t:Rw G ms vs cs):Rw G (m::ms) (v::vs) (c::cs)
def e8y{J:U2}{F:Nat->Prop}{G:Nat->Nat->Value}{S:St}{a:Act}{w:World}(h:A2 J F G S a w){vs:List V}{cs:List Value}(hc:B5 (RC w F S.D G) vs cs):∀{ck om:List (Option Nat)} {r:AR (List V)} {lg:List (Nat×Nat)},a2X ck om vs S.ent=U (r,lg)->(∀p∈r.obl,p)->RwC G om vs cs:=by
 induction hc with
 |nil=>exact λ_ _=>trivial
 |cons hv ht ih=>
  intro ck om r lg hm hob;obtain⟨x,l1,l2,hx,hm1,_⟩:=m7.bind_some hm;obtain⟨y,l3,l4,hy,hm2,_⟩:=m7.bind_some hm1;have:=m7.pure_some hm2;injection this with h1 h2;subst h1;refine⟨?_,ih hy λp hp=>hob p (g0Z.2 (.inr hp))⟩;intro e g j sz n hom hvv hne hne2;subst hvv;rw[hom]at hx;unfold Y5 at hx;simp only[if_neg hne,if_neg hne2]at hx;obtain⟨en,q1,q2,hrd,hp,_⟩:=m7.bind_some hx;have he:=(m7.rd_some hrd).1;simp only at he;have hre:=h.ents g j en he;cases en<;>try (cases hp;done)
  case row e' sz' n' rows=>
   simp only at hp;split at hp<;>try (cases hp;done)
   rename_i hcond;obtain⟨rfl,rfl⟩:=hcond;have:=m7.pure_some hp;injection this with h1 h2;have h1:x=_:=h1;have hnn:n=n':=hob _ (g0Z.2 (.inl (by rw[h1];simp)));subst hnn;exact b9t (RV.cell hv) hre
  case deep o e' sz' n' rows=>
   cases o<;>try (cases hp;done)
   simp only at hp;split at hp<;>try (cases hp;done)
   rename_i hcond;obtain⟨rfl,rfl⟩:=hcond;have:=m7.pure_some hp;injection this with h1 h2;have hnn:n=n':=hob _ (g0Z.2 (.inl (by rw[h1];simp)));subst hnn;obtain⟨flat,fs,ho,_⟩:=hre;exact b95 (RV.cell hv) ho
def f0i{J:U2}{F:Nat->Prop}{G:Nat->Nat->Value}{S:St}{a:Act}{w:World}(h:A2 J F G S a w){vs:List V}{cs:List Value}(hc:B5 (RV w F S.D G) vs cs):∀{ms:List PM} {r:AR (List V)} {lg:List (Nat×Nat)},a26 ms vs S.ent=U (r,lg)->(∀p∈r.obl,p)->Rw G ms vs cs:=by
 induction hc with
 |nil=>exact λ_ _=>.nil _
 |cons hv ht ih=>
  intro ms r lg hm hob;cases ms with
  |nil=>cases hm
  |cons m ms=>
  obtain⟨x,l1,l2,hx,hm1,_⟩:=m7.bind_some hm;obtain⟨y,l3,l4,hy,hm2,_⟩:=m7.bind_some hm1;have:=m7.pure_some hm2;injection this with h1 h2;subst h1;have t:=ih hy (λp hp=>hob p (g0Z.2 (.inr hp)));cases m with
  |row=>
   refine .row _ _ _ _ _ ?_ t;intro g j sz n hvv;subst hvv;unfold a2E at hx;simp only at hx;obtain⟨en,q1,q2,hrd,hp,hl12⟩:=m7.bind_some hx;have he:=(m7.rd_some hrd).1;simp only at he;have hre:=h.ents g j en he;cases en<;>try (cases hp;done)
   case row e' sz' n' rows=>
    simp only at hp;split at hp<;>try (cases hp;done)
    rename_i hcond;subst hcond;have:=m7.pure_some hp;injection this with h1 h2;have hnn:n=n':=hob _ (g0Z.2 (.inl (by rw[h1];simp)));subst hnn;exact b9t hv hre
   case deep o e' sz' n' rows=>
    cases o<;>try (cases hp;done)
    simp only at hp;split at hp<;>try (cases hp;done)
    rename_i hcond;subst hcond;have:=m7.pure_some hp;injection this with h1 h2;have hnn:n=n':=hob _ (g0Z.2 (.inl (by rw[h1];simp)));subst hnn;obtain⟨flat,fs,ho,_⟩:=hre;exact b95 hv ho
  |val ck om=>
   refine .other _ _ _ _ _ _ (by simp) ?_ t;intro ck' om' xs ds hm hv' hc';injection hm with e1 e2;subst e1;subst e2;subst hv';subst hc';unfold a2E at hx;simp only at hx;obtain⟨z,q1,q2,hz,hp,_⟩:=m7.bind_some hx;have:=m7.pure_some hp;injection this with h1 h2;have hall:B5 (RC w F S.D G) xs ds.toList:=by
    cases hv with
    |one v c h=>cases h with
     |cell v c h=>cases h with
      |fv v c h=>cases h
     |agg cs ds h=>simpa using h
   have h1:x=_:=h1;exact e8y h hall hz λp hp=>hob p (g0Z.2 (.inl (by rw[h1];exact hp)))
  |ptr ck om=>exact .other _ _ _ _ _ _ (by simp) (λ_ _ _ _ q=>by cases q) t
  |part=>exact .other _ _ _ _ _ _ (by simp) (λ_ _ _ _ q=>by cases q) t
def e8h{w w':World}{F F' D0:Nat->Prop}{G:Nat->Nat->Value}{D9:List V}{ds:List Value}(hall:B5 (RC w F D0 G) D9 ds):∀{om:List (Option Nat)} {xs:List V} {f:List Nat} {us:List U0},
  RwC G om D9 ds->BL w' F' xs ds f->a3W om D9 xs=U us->
  ∃fu:List Nat,f.Perm fu/\L8 w' (us.map (·.2)) (us.map λu=>G u.1.1 u.1.2) fu/\(∀u∈us,D0 u.1.1)/\∀(D:Nat->Prop) (ι':Nat->Nat->Value),f.Nodup->∀u∈us,RE w' F' D ι' u.2 (G u.1.1 u.1.2):=by
 induction hall with
 |nil=>
  intro om xs f us hrw hbl hm;cases hbl;simp[a3W]at hm;subst hm;exact⟨[],.nil,.nil,by simp,by simp⟩
 | @cons a d D9 ds hv ht ih=>
  intro om xs f us hrw hbl hm;cases hbl with
  |cons x c f1 xs cs fs h t=>
  obtain⟨hr1,hrw'⟩:=hrw;unfold a3W at hm;split at hm<;>try (cases hm;done)
  ·obtain rfl:f1=[]:=by cases h with|fv v c h=>rfl
   exact ih hrw' t hm
  ·rename_i q g j s0 n0 e sz n rows hom;split at hm<;>try (cases hm;done)
   rename_i hq;split at hm<;>try (cases hm;done)
   rename_i hq2;split at hm<;>try (cases hm;done)
   rename_i us' hrec;injection hm with hm;subst hm;have hw:=hr1 q g j s0 n0 hom rfl hq hq2;have hD0:=(RV.cell hv).inv_own.1;obtain⟨hor,rfl⟩:OR w' F' e sz d n rows/\f1=H5 d:=by
    cases h with
    |fv v c h=>cases h
    |osl e sz n rows c h=>exact⟨h,rfl⟩
   obtain⟨fu,hp,hh,hd,hre⟩:=ih hrw' t hrec;refine⟨H5 d++fu,g2E.append_left _ hp,L8.cons (λk hk=>by rw[hw];exact X1.2 hk) hh,?_,?_⟩
   ·intro u hu;rcases g1a.1 hu with rfl|hu
    ·exact hD0
    ·exact hd u hu
   ·intro D ι' hnd u hu;rw[g1b]at hnd;rcases g1a.1 hu with rfl|hu
    ·rw[<-hw];exact hor
    ·exact hre D ι' hnd.2.1 u hu
  ·rename_i q g j s0 n0 e sz n rows hom;split at hm<;>try (cases hm;done)
   rename_i hq;split at hm<;>try (cases hm;done)
   rename_i hq2;split at hm<;>try (cases hm;done)
   rename_i us' hrec;injection hm with hm;subst hm;have hw:=hr1 q g j s0 n0 hom rfl hq hq2;have hD0:=(RV.cell hv).inv_own.1;obtain⟨flat,fs,ho,hbl,hn,hl,rfl⟩:∃flat fs,w'.ownsRow 0 e sz d n flat/\BL w' F' rows.flatten flat fs/\(O rows)=n/\(∀r∈rows,(O r)=sz)/\f1=H5 d++fs:=by
    cases h with
    |fv v c h=>cases h
    |dsl e sz n rows c flat fs ho hr hn hl=>exact⟨flat,fs,ho,hr,hn,hl,rfl⟩
   obtain⟨fu,hp,hh,hd,hre⟩:=ih hrw' t hrec;refine⟨(H5 d++fs)++fu,g2E.append_left _ hp,L8.cons (λk hk => ?_) hh,?_,?_⟩
   ·have hk:EB w' (.deep W e sz n rows) (G g j) k:=hk;rw[<-hw]at hk;exact(EB.deep_iff (D:=λ_=>True) (G:=λ_ _=>.nilFunc) ho hbl.kl).1 hk
   ·intro u hu;rcases g1a.1 hu with rfl|hu
    ·exact hD0
    ·exact hd u hu
   ·intro D ι' hnd u hu;rw[g1b]at hnd;rcases g1a.1 hu with rfl|hu
    ·rw[<-hw];exact⟨flat,fs,ho,hbl.kl,hn,hl,hnd.1,λ_=>M6.of_flat hbl.noRef⟩
    ·exact hre D ι' hnd.2.1 u hu
def f3b{w w':World}{F F' D0:Nat->Prop}{G:Nat->Nat->Value}{grp:Nat}{args:List V}{cargs:List Value}(hargs:B5 (RV w F D0 G) args cargs):∀{j:Nat} {ms:List PM} {outs:List (Option V)} {fo:List Nat} {us:List U0} {es:List x8},
  Rw G ms args cargs->BO w' F' outs cargs fo->W8 grp j ms args outs=U (us,es)->
  ∃ (bs:List Value) (fu fb:List Nat),(O bs)=(O es)/\fo.Perm (fu++fb)/\L8 w' (us.map (·.2)) (us.map λu=>G u.1.1 u.1.2) fu/\L8 w' es bs fb/\(∀u∈us,D0 u.1.1)/\
   ∀(D:Nat->Prop) (ι':Nat->Nat->Value),D grp->At ι' grp j bs->fo.Nodup->Lie w' F' D ι' es bs/\∀u∈us,RE w' F' D ι' u.2 (G u.1.1 u.1.2):=by
 induction hargs with
 |nil=>
  intro j ms outs fo us es hrw hbo hm;cases hbo;cases ms with
  |nil=>
   simp[W8]at hm;obtain⟨rfl,rfl⟩:=hm;exact⟨[],[],[],rfl,.nil,.nil,.nil,by simp,λD ι' hD hat _=>⟨λk e b he=>by simp at he,by simp⟩⟩
  |cons m ms=>simp[W8]at hm
 | @cons v c vs cs hv ht ih=>
  intro j ms outs fo us es hrw hbo hm;cases ms with
  |nil=>cases hrw
  |cons m ms=>
  have hrw':Rw G ms vs cs:=by cases hrw<;>assumption
  cases hbo with
  |skip c os cs fs t=>
   have hm':W8 grp j ms vs os=U (us,es):=by
    unfold W8 at hm;exact hm
   exact ih hrw' t hm'
  |cons o c f os cs fs h t=>
   unfold W8 at hm;split at hm<;>try (cases hm;done)
   ·rename_i heq;cases heq
   ·rename_i heq;cases heq
   ·rename_i jj _ _ _ _ ck om ms' g j0 D9 e cs' os' h0 h1 h2;cases h1;cases h0;injection h2 with h2 h3;injection h2 with h2;subst h2;subst h3;simp only at hm;split at hm<;>try (cases hm;done)
    rename_i us' es' hrec;injection hm with hm;injection hm with hm1 hm2;subst hm1;subst hm2;obtain⟨hD0,b,hι,hc⟩:=hv.inv_ptr;obtain⟨g',cur,f',hg,hbl,hf,hc'⟩:∃g' cur f',w'.heap[g']?=U (.cells cur e (0,0))/\BL w' F' cs' cur.toList f'/\f=g'::f'/\c=.pointer (U ⟨g',0,Z⟩):=by
     cases h with
     |cell v c f h=>cases h with
      |fv v c h=>cases h
     |optr e cs g cur f hg h=>exact⟨_,_,_,hg,h,rfl,rfl⟩
    rw[hc]at hc';injection hc' with hc';injection hc' with hc';injection hc' with hc';subst hc';subst hf;obtain⟨b1,hl1,hf1,hr1⟩:=a80 (grp:=grp) hbl jj;obtain⟨b2,fu2,fb2,hl2,hp2,hhu,hhb,hd2,hr2⟩:=ih hrw' t hrec;refine⟨b1++b2,b::fu2,f'++fb2,by simp[hl1,hl2],?_,?_,hf1.append hhb hl1,?_,?_⟩
    ·simp only[g17];exact .cons _ (a9q hp2)
    ·exact L8.cons (f1:=[b]) (λk hk=>by
      have hk:E1 (G g j0)=U k:=hk;rw[hι]at hk;simp[E1]at hk;simp[hk]) hhu
    ·intro u hu;rcases g1a.1 hu with rfl|hu
     ·exact hD0
     ·exact hd2 u hu
    ·intro D ι' hD hat hnd;rw[g17,g2h,g1b]at hnd;obtain⟨x1,y1⟩:=hr1 D ι' hD hat.left hnd.2.1;obtain⟨x2,y2⟩:=hr2 D ι' hD (by rw[<-hl1];exact hat.right) hnd.2.2.1;refine⟨y1.append x2 hl1.symm,?_⟩;intro u hu;rcases g1a.1 hu with rfl|hu
     ·exact⟨b,cur,hι,hg,x1⟩
     ·exact y2 u hu
   ·rename_i ms' g j0 q1 q2 D9 e sz n rows os' h0 h1 h2;cases h1;cases h0;injection h2 with h2 h3;injection h2 with h2;subst h2;subst h3;split at hm<;>try (cases hm;done)
    rename_i us' es' hrec;injection hm with hm;injection hm with hm1 hm2;subst hm1;subst hm2;have hw:c=G g j0:=by
     cases hrw with
     |row ms v c vs cs h t=>exact h g j0 _ _ rfl
     |other m ms v c vs cs h _ t=>exact absurd rfl h
    have hD0:=hv.inv_own.1;obtain⟨hor,hf⟩:OR w' F' e sz c n rows/\f=H5 c:=by
     cases h with
     |cell v c f h=>cases h with
      |fv v c h=>cases h
      |osl e sz n rows c h=>exact⟨h,rfl⟩
    subst hf;obtain⟨b2,fu2,fb2,hl2,hp2,hhu,hhb,hd2,hr2⟩:=ih hrw' t hrec;refine⟨b2,H5 c++fu2,fb2,hl2,?_,?_,hhb,?_,?_⟩
    ·rw[g1d];exact g2E.append_left _ hp2
    ·exact L8.cons (λk hk=>by rw[hw];exact X1.2 hk) hhu
    ·intro u hu;rcases g1a.1 hu with rfl|hu
     ·exact hD0
     ·exact hd2 u hu
    ·intro D ι' hD hat hnd;rw[g1b]at hnd;obtain⟨x2,y2⟩:=hr2 D ι' hD hat hnd.2.1;refine⟨x2,?_⟩;intro u hu;rcases g1a.1 hu with rfl|hu
     ·rw[<-hw];exact hor
     ·exact y2 u hu
   ·rename_i ms' g j0 q1 q2 D9 e sz n rows os' h0 h1 h2;cases h1;cases h0;injection h2 with h2 h3;injection h2 with h2;subst h2;subst h3;split at hm<;>try (cases hm;done)
    rename_i us' es' hrec;injection hm with hm;injection hm with hm1 hm2;subst hm1;subst hm2;have hw:c=G g j0:=by
     cases hrw with
     |row ms v c vs cs h t=>exact h g j0 _ _ rfl
     |other m ms v c vs cs h _ t=>exact absurd rfl h
    have hD0:=hv.inv_own.1;obtain⟨flat,fs,ho,hbl,hn,hl,hf⟩:∃flat fs,w'.ownsRow 0 e sz c n flat/\BL w' F' rows.flatten flat fs/\(O rows)=n/\(∀r∈rows,(O r)=sz)/\f=H5 c++fs:=by
     cases h with
     |cell v c f h=>cases h with
      |fv v c h=>cases h
      |dsl e sz n rows c flat fs ho hr hn hl=>exact⟨flat,fs,ho,hr,hn,hl,rfl⟩
    subst hf;obtain⟨b2,fu2,fb2,hl2,hp2,hhu,hhb,hd2,hr2⟩:=ih hrw' t hrec;refine⟨b2,(H5 c++fs)++fu2,fb2,hl2,?_,?_,hhb,?_,?_⟩
    ·rw[g1d (H5 c++fs)];exact g2E.append_left _ hp2
    ·refine L8.cons (λk hk => ?_) hhu;have hk:EB w' (.deep W e sz n rows) (G g j0) k:=hk;rw[<-hw]at hk;exact(EB.deep_iff (D:=λ_=>True) (G:=λ_ _=>.nilFunc) ho hbl.kl).1 hk
    ·intro u hu;rcases g1a.1 hu with rfl|hu
     ·exact hD0
     ·exact hd2 u hu
    ·intro D ι' hD hat hnd;rw[g1b]at hnd;obtain⟨x2,y2⟩:=hr2 D ι' hD hat hnd.2.1;refine⟨x2,?_⟩;intro u hu;rcases g1a.1 hu with rfl|hu
     ·rw[<-hw];exact⟨flat,fs,ho,hbl.kl,hn,hl,hnd.1,λ_=>M6.of_flat hbl.noRef⟩
     ·exact y2 u hu
   ·rename_i ck om ms' cs' D9 xs os' h0 h1 h2;cases h1;cases h0;injection h2 with h2 h3;injection h2 with h2;subst h2;subst h3;split at hm<;>try (cases hm;done)
    rename_i us1 houc;split at hm<;>try (cases hm;done)
    rename_i us' es' hrec;injection hm with hm;injection hm with hm1 hm2;subst hm1;subst hm2;obtain⟨ds,rfl,hbl⟩:∃ds:List Value,c=.agg ds.toArray/\BL w' F' xs ds f:=by
     cases h with
     |cell v c f h=>cases h with
      |fv v c h=>cases h
     |agg cs ds f h=>exact⟨ds,rfl,h⟩
    have hrwc:RwC G om cs' ds:=by
     cases hrw with
     |other m ms v c vs cs h ha t=>simpa using ha ck om cs' ds.toArray rfl rfl rfl
    have hall:B5 (RC w F D0 G) cs' ds:=by
     cases hv with
     |one v c h=>cases h with
      |cell v c h=>cases h with
       |fv v c h=>cases h
      |agg cs ds h=>simpa using h
    obtain⟨fu1,hp1,hhu1,hd1,hr1⟩:=e8h hall hrwc hbl houc;obtain⟨b2,fu2,fb2,hl2,hp2,hhu,hhb,hd2,hr2⟩:=ih hrw' t hrec;refine⟨b2,fu1++fu2,fb2,hl2,?_,?_,hhb,?_,?_⟩
    ·rw[g1d];exact(g2E.append hp1 hp2)
    ·rw[g1W,g1W];exact hhu1.append hhu (by simp)
    ·intro u hu;rcases g0Z.1 hu with hu|hu
     ·exact hd1 u hu
     ·exact hd2 u hu
    ·intro D ι' hD hat hnd;rw[g1b]at hnd;obtain⟨x2,y2⟩:=hr2 D ι' hD hat hnd.2.1;refine⟨x2,?_⟩;intro u hu;rcases g0Z.1 hu with hu|hu
     ·exact hr1 D ι' hnd.1 u hu
     ·exact y2 u hu
def a21(l:List (Nat×Nat))(x:Nat×Nat):Bool:=l.any λy=>y.1==x.1&&y.2==x.2
def a7J{l:List (Nat×Nat)}{x:Nat×Nat}:a21 l x=Y↔x∈l:=by
 unfold a21;rw[g2e];constructor
 ·rintro⟨y,hy,h⟩
  simp at h;have:y=x:=Prod.ext h.1 h.2;exact this▸hy
 ·intro h;exact⟨x,h,by simp⟩
def dd:List (Nat×Nat)->List (Nat×Nat)
 | []=>[]
 |x::xs=>if a21 (dd xs) x then dd xs else x::dd xs
def b2k{x:Nat×Nat}:∀{l:List (Nat×Nat)},x∈dd l↔x∈l
 | []=>Iff.rfl
 |y::l=>by
  unfold dd;split
  ·rename_i h;rw[a7J]at h;rw[b2k,g1a];constructor
   ·exact .inr
   ·rintro(rfl|q)
    ·exact b2k.1 h
    ·exact q
  ·rw[g1a,g1a,b2k]
def c7l:∀l:List (Nat×Nat),(dd l).Nodup
 | []=>.nil
 |y::l=>by
  unfold dd;split
  ·exact c7l l
  ·rename_i h;rw[a7J]at h;exact g2h.2 ⟨h,c7l l⟩
def a4Z:List (Nat×Nat)->Bool
 | []=>Y
 |x::xs => !a21 xs x&&a4Z xs
def a6k:∀{l:List (Nat×Nat)},a4Z l=Y->l.Nodup
 | [],_=>.nil
 |x::xs,h=>by
  simp[a4Z]at h;refine g2h.2 ⟨λq => ?_,a6k h.2⟩;rw[a7J.2 q]at h;cases h.1
def a6d:List (Nat×Nat)->m7 (List U0)
 | []=>m7.pure []
 | (g,j)::ids=>m7.bind (m7.rd g j) λe=>match e with
  | .row _ sz n rows=>m7.bind (a6d ids) λus=>m7.pure (((g,j),.frz sz n rows)::us)
  | .deep W _ _ _ _=>m7.bind (a6d ids) λus=>m7.pure (((g,j),.dead)::us)
  |_=>m7.no
def b77{H:Hp}:∀{ids:List (Nat×Nat)} {us:List U0} {lg:List (Nat×Nat)},a6d ids H=U (us,lg)->us.map (·.1)=ids/\∀u∈us,(∃e sz n rows,H u.1.1 u.1.2=U (.row e sz n rows)/\u.2=.frz sz n rows)\/u.2=.dead
 | [],us,lg,h=>by
  have:=m7.pure_some h;injection this with h1 h2;subst h1;simp
 | (g,j)::ids,us,lg,h=>by
  unfold a6d at h;obtain⟨e,l1,l2,hrd,hp,hl⟩:=m7.bind_some h;have he:=(m7.rd_some hrd).1;simp only at he;cases e<;>try (cases hp;done)
  case row t sz n rows=>
   simp only at hp;obtain⟨us',l3,l4,hr,hp',hl'⟩:=m7.bind_some hp;have:=m7.pure_some hp';injection this with h1 h2;subst h1;obtain⟨h3,h4⟩:=b77 hr;refine⟨by simp[h3],?_⟩;intro u hu;rcases g1a.1 hu with rfl|hu
   ·exact .inl ⟨t,sz,n,rows,he,rfl⟩
   ·exact h4 u hu
  case deep o t sz n rows=>
   cases o with
   |true=>cases hp
   |false=>
   simp only at hp;obtain⟨us',l3,l4,hr,hp',hl'⟩:=m7.bind_some hp;have:=m7.pure_some hp';injection this with h1 h2;subst h1;obtain⟨h3,h4⟩:=b77 hr;refine⟨by simp[h3],?_⟩;intro u hu;rcases g1a.1 hu with rfl|hu
   ·exact .inr rfl
   ·exact h4 u hu
def OR.fv{w:World}{F F1:Nat->Prop}{e sz n:Nat}{c:Value}{rows:List (List V)}(hF:∀k,F k->F1 k)(hb:∀k,E1 c=U k->F1 k)(hr:OR w F e sz c n rows):FV w F1 (.sl sz n rows) c:=by
 obtain⟨flat,ho,hf,hn,hl⟩:=hr;rcases ho.2 with⟨hv,h0⟩|⟨g0,cap,cur,hv,_,hg,hnc,hcm,hcs,ht⟩
 ·rw[hv];subst h0;have:rows=[]:=g1c hn;subst this;exact .sl0 sz Z 0
 ·have hb':=hb g0 (by rw[hv];rfl);rw[hv];refine .sl sz n rows g0 0 cap flat hb' (hf.mono (λ_ _ _=>rfl) hF) hn hl hnc ?_;intro q u hu;rw[cell_of_row w g0 (0+q) cur e (0,0) hg,g1U];rw[<-ht,g2u]at hu;split at hu
  ·simpa using hu
  ·cases hu
def d57:∀{ks:List (Nat×Nat)} {S:St} {id:Nat×Nat},id∈ks->(∃e,S.ent id.1 id.2=U e)->(S.upds (J3 ks)).ent id.1 id.2=U .dead
 |k::ks,S,id,h,⟨e,he⟩=>by
  show((S.setE k.1 k.2 .dead).upds (J3 ks)).ent id.1 id.2=U .dead
  have h1:∃e',(S.setE k.1 k.2 .dead).ent id.1 id.2=U e'/\(id=k->e'=.dead):=by
   by_cases q:id.1=k.1/\id.2=k.2
   ·have hk:S.ent k.1 k.2=U e:=by rw[<-q.1,<-q.2];exact he
    exact⟨.dead,by rw[W5 hk];simp[q],λ_=>rfl⟩
   ·exact⟨e,by rw[a7T q];exact he,λz=>absurd ⟨by rw[z],by rw[z]⟩ q⟩
  obtain⟨e',he',hd⟩:=h1;by_cases q:id∈ks
  ·exact d57 q ⟨e',he'⟩
  ·have hidk:id=k:=(g1a.1 h).resolve_right q;obtain rfl:=hd hidk;have:∀(ks:List (Nat×Nat)) (S:St),id ∉ ks->(S.upds (J3 ks)).ent id.1 id.2=S.ent id.1 id.2:=by
    intro ks;induction ks with
    |nil=>intro S _;rfl
    |cons k' ks ih=>
     intro S hq;show((S.setE k'.1 k'.2 .dead).upds (J3 ks)).ent id.1 id.2=_
     rw[ih _ (λz=>hq (by simp[z])),a7T (λz=>hq (by rw[show id=k' from Prod.ext z.1 z.2];simp))]
   rw[this ks _ q];exact he'
def a6Q(G:Nat->Nat->Value)(grp:Nat)(bs:List Value):Nat->Nat->Value:=λg j=>if g=grp then(bs[j]?).getD .nilFunc else G g j
def c8H{G:Nat->Nat->Value}{grp g j:Nat}{bs:List Value}(h:g≠grp):a6Q G grp bs g j=G g j:=if_neg h
def a6D{G:Nat->Nat->Value}{grp j:Nat}{bs:List Value}{b:Value}(h:bs[j]?=U b):a6Q G grp bs grp j=b:=by
 unfold a6Q;rw[if_pos rfl,h];rfl
def a0B(c:Value):V->V
 | .hole=>.raw c
 |v=>v
def a1j(c:Value):V->V
 | .agg cs=>.agg (cs.map (a0B c))
 |v=>v
def K2:Option Value->V->V
 |none,v=>v
 |some c,v=>a1j c v
def c7p(o:V):V->V
 | .hole=>o
 |v=>v
def b6p(o:V):V->V
 | .agg cs=>.agg (cs.map (c7p o))
 |v=>v
def b5u{c:Value}{v:V}(h:v ≠ .hole):a0B c v=v:=by
 cases v<;>first|rfl|exact absurd rfl h
def d8e{Q:V->Prop}(q1:∀e sz n rows,Q (.osl e sz n rows))(q2:∀e sz n rows,Q (.dsl e sz n rows))(q3:∀sz n rows,Q (.sl sz n rows))(q4:Q .bot){ck om:Option Nat}{v:V}{H:Hp}{r:AR V}{lg:List (Nat×Nat)}(h:Y5 ck om v H=U (r,lg))(qv:om=Z->(∀cs,v ≠ .agg cs)->Q v):Q r.v:=by
 unfold Y5 at h;cases om with
 |some e=>
  simp only at h;split at h
  ·have:=m7.pure_some h;injection this with h1 h2;rw[h1];exact q4
  split at h
  ·cases v<;>try (cases h;done)
   case own g j sz lo n=>
   simp only at h;obtain⟨en,l1,l2,hrd,hp,_⟩:=m7.bind_some h;cases en<;>try (cases hp;done)
   case row=>
    simp only at hp;split at hp<;>try (cases hp;done)
    have:=m7.pure_some hp;injection this with h1 h2;have h1:r=_:=h1;rw[h1];exact q3 _ _ _
   case deep o _ _ _ _=>
    cases o<;>try (cases hp;done)
    simp only at hp;split at hp<;>try (cases hp;done)
    have:=m7.pure_some hp;injection this with h1 h2;have h1:r=_:=h1;rw[h1];exact q3 _ _ _
  cases v<;>try (cases h;done)
  case nil=>
   have:=m7.pure_some h;injection this with h1 h2;rw[h1];simp only;split
   ·exact q1 _ _ _ _
   ·exact q2 _ _ _ _
  case own g j sz lo n=>
   cases lo with
   |succ q=>cases h
   |zero=>
   obtain⟨en,l1,l2,hrd,hp,_⟩:=m7.bind_some h;cases en<;>try (cases hp;done)
   case row=>
    simp only at hp;split at hp<;>try (cases hp;done)
    have:=m7.pure_some hp;injection this with h1 h2;have h1:r=_:=h1;rw[h1];exact q1 _ _ _ _
   case deep o _ _ _ _=>
    cases o<;>try (cases hp;done)
    simp only at hp;split at hp<;>try (cases hp;done)
    have:=m7.pure_some hp;injection this with h1 h2;have h1:r=_:=h1;rw[h1];exact q2 _ _ _ _
 |none=>
  have qv:=qv rfl;simp only at h;cases v<;>try (cases h;done)
  case own g j sz lo n=>
   obtain⟨en,l1,l2,hrd,hp,_⟩:=m7.bind_some h;cases en<;>try (cases hp;done)
   case deep o _ _ _ _=>
    cases o<;>try (cases hp;done)
    simp only at hp;split at hp<;>try (cases hp;done)
    have:=m7.pure_some hp;injection this with h1 h2;have h1:r=_:=h1;rw[h1];exact q3 _ _ _
   all_goals
    simp only at hp;split at hp<;>try (cases hp;done)
    have:=m7.pure_some hp;injection this with h1 h2;have h1:r=_:=h1;rw[h1];exact q3 _ _ _
  case nil=>
   cases ck with
   |none=>
    have:=m7.pure_some h;injection this with h1 h2;rw[h1];exact qv (by simp)
   |some sz=>
    have:=m7.pure_some h;injection this with h1 h2;rw[h1];exact q3 _ _ _
  all_goals
   have:=m7.pure_some h;injection this with h1 h2;rw[h1];exact qv (by simp)
def e7C{ck om:Option Nat}{v:V}{H:Hp}{r:AR V}{lg:List (Nat×Nat)}(h:Y5 ck om v H=U (r,lg))(hv:v ≠ .hole):r.v ≠ .hole:=
 d8e (Q:=λv=>v ≠ .hole) (by simp) (by simp) (by simp) (by simp) h λ_ _=>hv
def e6t{ck om:Option Nat}{v:V}{H:Hp}{r:AR V}{lg:List (Nat×Nat)}(h:Y5 ck om v H=U (r,lg)):∀cs,r.v ≠ .agg cs:=
 d8e (Q:=λv => ∀cs,v ≠ .agg cs) (by simp) (by simp) (by simp) (by simp) h λ_ h=>h
def e3P(c:Value){ck om:Option Nat}{v:V}{H:Hp}{r:AR V}{lg:List (Nat×Nat)}(h:Y5 ck om v H=U (r,lg)):Y5 ck om (a0B c v) H=U ({r with v:=a0B c r.v},lg):=by
 by_cases hv:v=.hole
 ·subst hv;unfold Y5 at h;show Y5 ck om (.raw c) H=_
  unfold Y5;cases om with
  |some e=>
   simp only at h⊢;split at h
   ·rename_i he;rw[if_pos he];have:=m7.pure_some h;injection this with h1 h2;subst h1;subst h2;rfl
   ·split at h<;>cases h
  |none=>
   have:=m7.pure_some h;injection this with h1 h2;subst h1;subst h2;rfl
 ·rw[b5u hv,b5u (e7C h hv),h]
def d3Z(c:Value):∀{vs:List V} {ck om:List (Option Nat)} {H:Hp} {r:AR (List V)} {lg:List (Nat×Nat)},a2X ck om vs H=U (r,lg)->a2X ck om (vs.map (a0B c)) H=U ({r with v:=r.v.map (a0B c)},lg)
 | [],ck,om,H,r,lg,h=>by
  have:=m7.pure_some h;injection this with h1 h2;subst h1;subst h2;rfl
 |v::vs,ck,om,H,r,lg,h=>by
  obtain⟨x,l1,l2,hx,h1,e1⟩:=m7.bind_some h;obtain⟨y,l3,l4,hy,h2,e2⟩:=m7.bind_some h1;have:=m7.pure_some h2;injection this with q1 q2;have q1:r=_:=q1;subst q1;have e1:lg=l1++l2:=e1;have e2:l2=l3++l4:=e2;have q2:l4=[]:=q2;subst q2;subst e2;subst e1;show m7.bind (Y5 (ck.headD Z) (om.headD Z) (a0B c v)) _ H=_
  unfold m7.bind;rw[e3P c hx];simp only;rw[d3Z c hy];rfl
def b53{c:Value}{v:V}(h:∀cs,v ≠ .agg cs):a1j c v=v:=by
 cases v<;>first|rfl|exact absurd rfl (h _)
def f0u{m:PM}{v:V}{H:Hp}{r:AR V}{lg:List (Nat×Nat)}(h:a2E m v H=U (r,lg))(hv:∀cs,v ≠ .agg cs):∀cs,r.v ≠ .agg cs:=by
 cases m with
 |val ck om=>
  have:Y5 (ck.headD Z) (om.headD Z) v H=U (r,lg):=by
   cases v<;>first|exact h|(cases h;done)|exact absurd rfl (hv _)
  exact e6t this
 |ptr ck om=>
  cases v<;>try (cases h;done)
  case ptr g j off=>
   cases off with
   |succ q=>cases h
   |zero=>
   obtain⟨en,l1,l2,hrd,hp,_⟩:=m7.bind_some h;cases en<;>try (cases hp;done)
   obtain⟨x,l3,l4,hx,h1,_⟩:=m7.bind_some hp;have:=m7.pure_some h1;injection this with q1 q2;have q1:r=_:=q1;rw[q1];simp
 |row=>
  cases v<;>try (cases h;done)
  case own g j sz lo n=>
   cases lo with
   |succ q=>cases h
   |zero=>
   obtain⟨en,l1,l2,hrd,hp,_⟩:=m7.bind_some h;cases en<;>try (cases hp;done)
   case row=>
    simp only at hp;split at hp<;>try (cases hp;done)
    have:=m7.pure_some hp;injection this with q1 q2;have q1:r=_:=q1;rw[q1];simp
   case deep o _ _ _ _=>
    cases o<;>try (cases hp;done)
    simp only at hp;split at hp<;>try (cases hp;done)
    have:=m7.pure_some hp;injection this with q1 q2;have q1:r=_:=q1;rw[q1];simp
 |part=>
  cases v<;>try (cases h;done)
  case own g j sz lo n=>
   obtain⟨en,l1,l2,hrd,hp,_⟩:=m7.bind_some h;cases en<;>try (cases hp;done)
   case row=>
    simp only at hp;split at hp<;>try (cases hp;done)
    have:=m7.pure_some hp;injection this with q1 q2;have q1:r=_:=q1;rw[q1];simp
def e8O(c:Value){m:PM}{v:V}{H:Hp}{r:AR V}{lg:List (Nat×Nat)}(h:a2E m v H=U (r,lg)):a2E m (a1j c v) H=U ({r with v:=a1j c r.v},lg):=by
 by_cases hv:∃cs,v=.agg cs
 ·obtain⟨cs,rfl⟩:=hv;cases m<;>try (cases h;done)
  case val ck om=>
   have h:m7.bind (a2X ck om cs) (λx=>m7.pure {v:=.agg x.v,ks:=x.ks,ls:=x.ls,obl:=x.obl}) H=U (r,lg):=h;obtain⟨x,l1,l2,hx,h1,e1⟩:=m7.bind_some h;have:=m7.pure_some h1;injection this with q1 q2;have q1:r=_:=q1;subst q1;have e1:lg=l1++l2:=e1;have q2:l2=[]:=q2;subst q2;subst e1;show m7.bind (a2X ck om (cs.map (a0B c))) (λx=>(m7.pure {v:=.agg x.v,ks:=x.ks,ls:=x.ls,obl:=x.obl}:m7 (AR V))) H=_
   unfold m7.bind;rw[d3Z c hx];rfl
 ·have hv:∀cs,v ≠ .agg cs:=λcs q=>hv ⟨cs,q⟩
  rw[b53 hv,b53 (f0u h hv),h]
def d9b(c:Value):∀{vs:List V} {ms:List PM} {H:Hp} {r:AR (List V)} {lg:List (Nat×Nat)},a26 ms vs H=U (r,lg)->a26 ms (vs.map (a1j c)) H=U ({r with v:=r.v.map (a1j c)},lg)
 | [],ms,H,r,lg,h=>by
  have:a26 ms []=m7.pure {v:=[]}:=by cases ms<;>rfl
  rw[this]at h;have h':=m7.pure_some h;injection h' with h1 h2;subst h1;subst h2;show a26 ms [] H=_
  rw[this];rfl
 |v::vs,[],H,r,lg,h=>by cases h
 |v::vs,m::ms,H,r,lg,h=>by
  obtain⟨x,l1,l2,hx,h1,e1⟩:=m7.bind_some h;obtain⟨y,l3,l4,hy,h2,e2⟩:=m7.bind_some h1;have:=m7.pure_some h2;injection this with q1 q2;have q1:r=_:=q1;subst q1;have e1:lg=l1++l2:=e1;have e2:l2=l3++l4:=e2;have q2:l4=[]:=q2;subst q2;subst e2;subst e1;show m7.bind (a2E m (a1j c v)) _ H=_
  unfold m7.bind;rw[e8O c hx];simp only;rw[d9b c hy];rfl
def f8d(o:Option Value){vs:List V}{ms:List PM}{H:Hp}{r:AR (List V)}{lg:List (Nat×Nat)}(h:a26 ms vs H=U (r,lg)):a26 ms (vs.map (K2 o)) H=U ({r with v:=r.v.map (K2 o)},lg):=by
 cases o with
 |none=>
  have:∀l:List V,l.map (K2 Z)=l:=λl=>by
   rw[show(K2 Z)=id from rfl,List.map_id]
  rw[this,this];exact h
 |some c=>exact d9b c h
def e9Q(c:Value)(g j:Nat)(v:V):O8 g j (a0B c v)=(a0B c (O8 g j v).1,(O8 g j v).2):=by cases v<;>rfl
def d3a(c:Value)(g:Nat):∀(vs:List V) (j:Nat),Q6 g j (vs.map (a0B c))=((Q6 g j vs).1.map (a0B c),(Q6 g j vs).2)
 | [],j=>rfl
 |v::vs,j=>by simp only[g1v,Q6,e9Q,d3a c g vs]
def e2l(c:Value)(g j:Nat)(v:V):M0 g j (a1j c v)=(a1j c (M0 g j v).1,(M0 g j v).2):=by
 cases v<;>first|rfl|(simp only[a1j,M0,Q0,d3a])
def f0h(o:Option Value)(g j:Nat)(v:V):M0 g j (K2 o v)=(K2 o (M0 g j v).1,(M0 g j v).2):=by
 cases o with
 |none=>rfl
 |some c=>exact e2l c g j v
def d0G(c:Value):∀(om:List (Option Nat)) (vs xs:List V),a3W om (vs.map (a0B c)) xs=a3W om vs xs
 |_,[],[]=>rfl
 |_,[],_::_=>rfl
 |_,_::_,[]=>rfl
 |om,v::vs,x::xs=>by
  have ih:=d0G c om.tail vs xs;cases om with
  |nil=>cases x<;>first|rfl|exact ih
  |cons o om=>
   cases o with
   |none=>cases x<;>first|rfl|exact ih
   |some q=>
    by_cases hh:v=.hole
    ·subst hh;cases x<;>rfl
    ·have ih:a3W om (vs.map (a0B c)) xs=a3W om vs xs:=ih;rw[g1v,b5u hh];unfold a3W;simp only[List.headD_cons,List.tail_cons,ih]
def d5R(c:Value)(grp:Nat):∀(ms:List PM) (j:Nat) (vs:List V) (os:List (Option V)),W8 grp j ms (vs.map (a1j c)) os=W8 grp j ms vs os
 | [],j,[],os=>rfl
 | [],j,_::_,os=>by cases os<;>rfl
 |m::ms,j,[],os=>by cases os<;>rfl
 |m::ms,j,v::vs,[]=>by cases m<;>cases v<;>rfl
 |m::ms,j,v::vs,o::os=>by
  have ih:=λj=>d5R c grp ms j vs os
  cases o with
  |none=>simp[W8,ih]
  |some o=>
   by_cases hh:∃cs,v=.agg cs
   ·obtain⟨cs,rfl⟩:=hh;rw[g1v];cases m<;>cases o<;>first|rfl|skip
    all_goals
     unfold W8;simp only[a1j,ih,d0G]
   ·rw[g1v,b53 (λcs q=>hh ⟨cs,q⟩)];cases v<;>first|exact absurd ⟨_,rfl⟩ hh|skip
    case own g j0 sz lo n=>cases lo<;>cases m<;>cases o<;>first|rfl|(unfold W8;simp only[ih])
    case ptr g j0 off=>cases off<;>cases m<;>cases o<;>first|rfl|(unfold W8;simp only[ih])
    all_goals (cases m<;>cases o<;>rfl)
def e1C(o:Option Value)(grp:Nat)(ms:List PM)(j:Nat)(vs:List V)(os:List (Option V)):W8 grp j ms (vs.map (K2 o)) os=W8 grp j ms vs os:=by
 cases o with
 |none=>rw[show(K2 Z)=id from rfl,List.map_id]
 |some c=>exact d5R c grp ms j vs os
def a9H(grp:Nat)(args:List V)(ms:List PM)(fr:Bool)(res:V)(outs:List (Option V))(p:List V->Prop):m7 E0:=
 m7.bind (a26 ms args) λr=>
  let ls:=if fr then []else dd r.ls
  m7.bind (a6d ls) λfz=>
   let x:=M0 grp 0 res;match W8 grp (O x.2) ms args outs with
   |some (us,es)=>
    if a4Z r.ks&&r.ls.all (λid => !a21 r.ks id)&&a4Z (us.map (·.1))&&us.all (λu=>a21 r.ks u.1)then
     m7.pure {v:=x.1,new:=U (x.2++es),upd:=J3 (r.ks++ls)++(fz++us),obl:=p r.v::(if fr then [Q9 res/\a48 outs]else [])++r.obl}
    else m7.no
   |none=>m7.no
def b4M(P:Program)(grp f:Nat)(args:List V)(A:U8):m7 E0:=
 match A with
 | .call ms fr res outs=>a9H grp args ms fr res outs λv=>a1n P f v res outs
 | .callr k q ms fr res outs=>match args[k]? with
  |some (.agg cs)=>match cs[q]? with
   |some (.own g j sz 0 n)=>m7.bind (a9H grp (args.set k (.agg (cs.set q .hole))) ms fr res outs λv => ∀c,a1n P f (v.map (a1j c)) (a1j c res) outs) λo=>m7.pure {o with v:=b6p (.own g j sz 0 n) o.v}
   |_=>m7.no
  |_=>m7.no
 |_=>m7.no
section
variable {cx:Cx} {J:U2} {F:Nat->Prop} {G:Nat->Nat->Value} {S:St} {a:Act} {w:World}
def d5M{t:List V}{D:Nat->Prop}(ht:B5 (RV w F D G) t a.tmps.toList):∀xs:List Operand,B5 (RV w F D G) (xs.map (z6 t)) (xs.map a.eval)
 | []=>.nil
 |x::xs=>.cons (H6 ht x) (d5M ht xs)
def R7.nodup(h:A2 J F G S a w){ks:List (Nat×Nat)}{fs:List Nat}(hf:R7 S w G ks fs):ks.Nodup->fs.Nodup:=by
 induction hf with
 |nil=>exact λ_=>.nil
 |cons id e f ks fs he hl hf hn t ih=>
  intro hnd;have hn':=g2h.1 hnd;refine g1b.2 ⟨hn,ih hn'.2,?_⟩;intro k hk k' hk' hkk;subst hkk;obtain⟨id',hid',e',he',hl',hb'⟩:=t.mem hk';obtain⟨q1,q2⟩:=h.inj _ _ e _ _ e' k he he' hl hl' (hf k hk) hb';exact hn'.1 ((Prod.ext q1 q2:id=id')▸hid')
theorem e9S{P:Program}{ob:Oper}{fop:Operand}{args:Array Operand}{tys:Array TypeId}{f:Nat}{fn:Func}(ho:ob.op=.call {callee:=.value fop,args:=args,argTypes:=tys})(hf:a.eval fop=.func (.func f) #[] #[])(hfun:P.funcs[f]?=some fn)
  (hname:(fn.name == "runtime.NumGoroutine")=false) (hbody:fn.body.isNone=false):(execOp a.eval ob).run P w=.ok (.enter f (args.map a.eval)) w:=by
 simp only [execOp,ho,resolve,hf,Deferred.ofValue,Sem.run_bind,Sem.run_pure,Result.andThen_ok,invoke,callFunc,program,Sem.run,hfun,hname,hbody];simp
def e4d(args:Array Operand)(g:Operand->Value):(args.toList.map g).toArray=args.map g:=by rw[<-Array.toList_map,Array.toArray_toList]
def U6.fill(c:Value){v:V}(h:U6 v):U6 (a0B c v):=by
 cases v<;>first|exact h|trivial
def Q9.fillO(o:Option Value){v:V}(h:Q9 v):Q9 (K2 o v):=by
 cases o with
 |none=>exact h
 |some c=>
  cases v with
  |agg cs=>
   intro v hv;obtain⟨v0,hv0,rfl⟩:=g1m.1 hv;exact U6.fill c (h v0 hv0)
  |_=>exact h
set_option maxHeartbeats 1000000 in
def d0y(h:A2 J F G S a w){grp:Nat}(hg:grp<(O S.h))(hn:¬S.D grp)(dst:Option Nat){f:Nat}{P:Program}{vs:List V}{cargs:List Value}(o:Option Value)(hall:B5 (RV w F S.D G) (vs.map (K2 o)) cargs){ms:List PM}{fr:Bool}{res:V}{outs:List (Option V)}{p:List V->Prop}{out:E0}{lg:List (Nat×Nat)}(hp:a9H grp vs ms fr res outs p S.ent=U (out,lg))(hpa:∀v,p v->a1n P f (v.map (K2 o)) (K2 o res) outs)(hob:∀p∈out.obl,p) :
  c42 P f/\Calls P f cargs.toArray w λe w' => ∃c F' ι',e=.returned c/\A2 J F' ι' (S.apply grp dst {out with v:=K2 o out.v}) (a.put dst c) w'/\(∀g,S.D g->(S.apply grp dst {out with v:=K2 o out.v}).D g)/\(∀g j,S.D g->ι' g j=G g j)/\RV w' F' (S.apply grp dst {out with v:=K2 o out.v}).D ι' (K2 o out.v) c:=by
 unfold a9H at hp;obtain⟨r0,l1,l2,hargs0,hp1,hl12⟩:=m7.bind_some hp;clear hp;obtain⟨fz,l3,l4,hfz,hp2,hl34⟩:=m7.bind_some hp1;clear hp1;simp only at hp2;cases hous:W8 grp (M0 grp 0 res).2.length ms vs outs with
 |none=>rw[hous]at hp2;cases hp2
 |some ue=>
 obtain⟨us,es⟩:=ue;rw[hous]at hp2;simp only at hp2;split at hp2<;>try (cases hp2;done)
 rename_i hcond;have:=m7.pure_some hp2;injection this with h2 h3;subst h2;clear hp2;have hac0:p r0.v:=hob _ (by simp);have hac1:=hpa _ hac0;have hsc0:fr=Y->Q9 res/\a48 outs:=λq=>hob _ (by simp[q])
 have hrobl0:∀p∈r0.obl,p:=λp hp=>hob p (by simp;exact .inr (.inr hp))
 have hargs:=f8d o hargs0;have hous:W8 grp (M0 grp 0 res).2.length ms (vs.map (K2 o)) outs=U (us,es):=by rw[e1C];exact hous
 have hth:=f0h o grp 0 res;clear hargs0;have hrv0:r0.v.map (K2 o)=({r0 with v:=r0.v.map (K2 o)}:AR (List V)).v:=rfl;generalize hr:({r0 with v:=r0.v.map (K2 o)}:AR (List V))=r at hargs hrv0;have hks:r0.ks=r.ks:=by rw[<-hr]
 have hlsq:r0.ls=r.ls:=by rw[<-hr]
 have hoblq:r0.obl=r.obl:=by rw[<-hr]
 rw[hrv0]at hac1;rw[hks,hlsq]at hcond;rw[hlsq]at hfz;rw[hoblq]at hrobl0;simp only[hks,hlsq];have hth1:K2 o (M0 grp 0 res).1=(M0 grp 0 (K2 o res)).1:=by rw[hth]
 have hth2:(M0 grp 0 res).2=(M0 grp 0 (K2 o res)).2:=by rw[hth]
 rw[hth1,hth2];rw[hth2]at hous;have hsc:fr=Y->Q9 (K2 o res)/\a48 outs:=λq=>⟨(hsc0 q).1.fillO o,(hsc0 q).2⟩
 generalize K2 o res=res at *;simp only[g02]at hcond;obtain⟨⟨⟨hnk,hdis⟩,hnu⟩,husk⟩:=hcond;have hnk':=a6k hnk;have hnu':=a6k hnu;have hdis':∀id∈r.ls,id ∉ r.ks:=by
  intro id hid q;have:=g05.1 hdis id hid;rw[a7J.2 q]at this;cases this
 have husk':∀u∈us,u.1∈r.ks:=λu hu=>a7J.1 (g05.1 husk u hu)
 have hrobl:=hrobl0;obtain⟨hcallable,hac⟩:=hac1;refine⟨hcallable,?_⟩;let F1:Nat->Prop:=λk=>F k\/∃id∈r.ls,∃e,S.ent id.1 id.2=U e/\EB w e (G id.1 id.2) k
 have hF1:∀k,F k->F1 k:=λk x=>.inl x
 obtain⟨fp,hbs,hfps,hhk,hhl⟩:=d47 (F1:=F1) h hF1 hall hargs hrobl (λid hid e k he hk=>.inr ⟨id,hid,e,he,hk⟩);have hrw:=f0i h hall hargs hrobl;have hfpn:=R7.nodup h hfps hnk';have hfp:∀k∈fp,∃id∈r.ks,∃e,S.ent id.1 id.2=U e/\e.live=Y/\EB w e (G id.1 id.2) k:=λk hk=>hfps.mem hk
 have hF1lt:∀k,F1 k->k<w.heap.size:=by
  rintro k (x|⟨id,hid,e,he,hb⟩)
  ·exact h.F1 k x
  ·obtain⟨e',he',hl'⟩:=hhl id hid;have:e=e':=by rw[he]at he';injection he'
   subst this;exact h.lt he hl' hb
 have hfpF1:∀k∈fp,¬F1 k/\k<w.heap.size:=by
  intro k hk;obtain⟨id,hid,e,he,hl,hb⟩:=hfp k hk;refine⟨?_,h.lt he hl hb⟩;rintro(x|⟨id',hid',e0,he0,hb'⟩)
  ·exact(h.sep _ _ e k he hl hb).1 x
  ·obtain⟨e',he',hl'⟩:=hhl id' hid';have:e0=e':=by rw[he0]at he';injection he'
   subst this;obtain⟨q1,q2⟩:=h.inj _ _ e _ _ _ k he he' hl hl' hb hb';have:id=id':=Prod.ext q1 q2;exact hdis' id' hid' (this▸hid)
 have hcalls:=hac w F1 _ _ hbs hfpn hfpF1 hF1lt;refine hcalls.mono ?_;rintro e w' ⟨c,F',fr',fo,rfl,hkept,hFF,hF'1,hres,hout,hnod,hblk⟩
 obtain⟨F2,hF2,hF2',ls,hls,hres2,hout2,hblk2,hfzls,hF2lt,hlsF⟩:∃F2:Nat->Prop,(∀k,F k->F2 k)/\(∀k,F2 k->F' k)/\∃ls:List (Nat×Nat),ls=(if fr then []else dd r.ls)/\BR w' F2 res c fr'/\BO w' F2 outs cargs fo/\(∀k∈fr'++fo,¬F2 k)/\
   (∀u∈fz,(∃e sz n rows,S.ent u.1.1 u.1.2=U (.row e sz n rows)/\u.2=.frz sz n rows/\∀k,E1 (G u.1.1 u.1.2)=U k->F2 k)\/u.2=.dead)/\(∀k,F2 k->k<w'.heap.size)/\(∀k,F2 k->F k\/(∃id∈ls,∃e,S.ent id.1 id.2=U e/\EB w e (G id.1 id.2) k)\/k∈fp\/w.heap.size<=k):=by
  cases fr with
  |true=>
   refine⟨F,λ_ x=>x,λk x=>hFF k (hF1 k x),[],rfl,hres.scal (hsc rfl).1,hout.scal (hsc rfl).2,λk hk x=>(hblk k hk).1 (hFF k (hF1 k x)),?_,λk x=>g2m (h.F1 k x) hkept.size,λk x=>.inl x⟩;have hq:fz=[]:=by
    have hf':a6d [] S.ent=U (fz,l3):=by simpa using hfz
    have:=m7.pure_some hf';injection this
   rw[hq];simp
  |false=>
   refine⟨F',λk x=>hFF k (hF1 k x),λ_ x=>x,dd r.ls,rfl,hres,hout,λk hk=>(hblk k hk).1,?_,λk x=>(hF'1 k x).2,?_⟩
   ·have hf':a6d (dd r.ls) S.ent=U (fz,l3):=by simpa using hfz
    obtain⟨e1,e2⟩:=b77 hf';intro u hu;rcases e2 u hu with⟨e,sz,n,rows,he,hu2⟩|hu2
    case inr=>exact .inr hu2
    refine .inl ⟨e,sz,n,rows,he,hu2,λk hk=>hFF k (.inr ⟨u.1,?_,_,he,hk⟩)⟩;have:u.1∈fz.map (·.1):=g1m.2 ⟨u,hu,rfl⟩;rw[e1]at this;exact b2k.1 this
   ·intro k x;rcases(hF'1 k x).1 with(y|⟨id,hid,e,he,hb⟩)|y|y
    ·exact .inl y
    ·exact .inr (.inl ⟨id,b2k.2 hid,e,he,hb⟩)
    ·exact .inr (.inr (.inl y))
    ·exact .inr (.inr (.inr y))
 have hfzids:fz.map (·.1)=ls:=by rw[hls];exact(b77 hfz).1
 have hlsr:∀id∈ls,id∈r.ls:=by
  intro id hid;rw[hls]at hid;cases fr with
  |true=>simp at hid
  |false=>exact b2k.1 (by simpa using hid)
 have hlsn:ls.Nodup:=by
  rw[hls];cases fr with
  |true=>exact .nil
  |false=>exact c7l _
 have hlsk:∀id∈ls,id ∉ r.ks:=λid hid=>hdis' id (hlsr id hid)
 have hkall:∀id∈r.ks++ls,∃e,S.ent id.1 id.2=U e:=by
  intro id hid;rcases g0Z.1 hid with q|q
  ·obtain⟨e,he,_⟩:=hhk id q;exact⟨e,he⟩
  ·obtain⟨e,he,_⟩:=hhl id (hlsr id q);exact⟨_,he⟩
 have hS1:=h.killAll (r.ks++ls) hkall;have hlive1:∀g j e,(S.upds (J3 (r.ks++ls))).ent g j=U e->e.live=Y->(g,j) ∉ r.ks++ls/\S.ent g j=U e:=by
  intro g j e he hl;rcases b2I _ he with⟨_,rfl⟩|q
  ·cases hl
  ·exact q
 have hfpfree:∀k∈fp,∀g j e,(S.upds (J3 (r.ks++ls))).ent g j=U e->e.live=Y->¬EB w e (G g j) k:=by
  intro k hk g j e he hl hb;obtain⟨q1,q2⟩:=hlive1 g j e he hl;obtain⟨id,hid,e',he',hl',hb'⟩:=hfp k hk;obtain⟨z1,z2⟩:=h.inj _ _ e _ _ e' k q2 he' hl hl' hb hb';exact q1 (g0Z.2 (.inl (by rw[show(g,j)=id from Prod.ext z1 z2];exact hid)))
 have hS2:=hS1.world3 hkept (λk hk=>by
  obtain⟨id,hid,e',he',hl',hb'⟩:=hfp k hk;obtain⟨z1,z2⟩:=h.sep _ _ e' k he' hl' hb';exact⟨z1,z2,hfpfree k hk⟩)
 have hback:∀g j e,(S.upds (J3 (r.ks++ls))).ent g j=U e->e.live=Y->∀k,EB w' e (G g j) k->EB w e (G g j) k:=by
  intro g j e he hl k hk;exact(hS1.ents g j e he).back (λk hk=>hkept.block k (hS1.lt he hl hk) λz=>hfpfree k z g j e he hl hk) hk
 have hS3:=hS2.grow (F':=F2) hF2 hF2lt (λk x=>by
   rcases hlsF k x with y|⟨id,hid,e,he,hb⟩|y|y
   ·exact h.F2 k y
   ·obtain⟨e',he',hl'⟩:=hhl id (hlsr id hid);have:e=e':=by rw[he]at he';injection he'
    subst this;exact .inr (h.sep _ _ _ k he hl' hb).2
   ·obtain⟨id,hid,e',he',hl',hb'⟩:=hfp k y;exact .inr (h.sep _ _ e' k he' hl' hb').2
   ·exact .inr (.inr (g1C h.kept.size y)))
  (λg j e k he hl hb0 x=>by
   have hb:=hback g j e he hl k hb0;obtain⟨q1,q2⟩:=hlive1 g j e he hl;rcases hlsF k x with y|⟨id,hid,e',he',hb'⟩|y|y
   ·exact(h.sep g j e k q2 hl hb).1 y
   ·obtain⟨e2,he2,hl2⟩:=hhl id (hlsr id hid);have:e'=e2:=by rw[he']at he2;injection he2
    subst this;obtain⟨z1,z2⟩:=h.inj _ _ e _ _ _ k q2 he' hl hl2 hb hb';exact q1 (g0Z.2 (.inr (by rw[show(g,j)=id from Prod.ext z1 z2];exact hid)))
   ·exact hfpfree k y g j e he hl hb
   ·have:=h.lt q2 hl hb;omega)
 obtain⟨b1,hb1l,hb1f,hb1⟩:=e2N (grp:=grp) hres2 0;obtain⟨b2,fu,fb,hb2l,hb2p,hb2u,hb2b,hb2d,hb2⟩:=f3b hall (w':=w') (F':=F2) (grp:=grp) (j:=(M0 grp 0 res).2.length) hrw hout2 hous;obtain⟨ι',hι'⟩:∃ι',ι'=a6Q G grp (b1++b2):=⟨_,rfl⟩
 have hι'ne:∀g j,g≠grp->ι' g j=G g j:=λg j q=>by rw[hι'];exact c8H q
 have hat:At ι' grp 0 (b1++b2):=by
  intro k b hb;rw[hι',g1U];exact a6D hb
 have hlenS:grp<(S.upds (J3 (r.ks++ls))).h.length:=by rw[St.upds_len];exact hg
 have hnD:¬(S.upds (J3 (r.ks++ls))).D grp:=λq=>hn ((a1z S grp _).1 q)
 have hDg:=a11 (S:=S.upds (J3 (r.ks++ls))) (new:=(M0 grp 0 res).2++es) hlenS;have hperm:(fr'++fo).Perm (fr'++(fu++fb)):=g2E.append_left _ hb2p;have hnod':=hperm.nodup_iff.1 hnod;have hnodA:=g1b.1 hnod;obtain⟨hrv,hlie1⟩:=hb1 ((S.upds (J3 (r.ks++ls))).lay grp ((M0 grp 0 res).2++es)).D ι' hDg hat.left hnodA.1;obtain⟨hlie2,hre2⟩:=hb2 ((S.upds (J3 (r.ks++ls))).lay grp ((M0 grp 0 res).2++es)).D ι' hDg (by have:=hat.right;rw[g1U,hb1l]at this;exact this) hnodA.2.1;have hlie:=hlie1.append hlie2 hb1l.symm;have hlenb:(b1++b2).length=((M0 grp 0 res).2++es).length:=by simp[hb1l,hb2l]
 have hblk':∀k,k∈fr'\/k∈fu\/k∈fb->¬F2 k/\(k∈fp\/w.heap.size<=k):=by
  intro k hk;have hm:k∈fr'++fo:=hperm.mem_iff.2 (by simp only[g0Z];rcases hk with q|q|q<;>simp[q]);exact⟨hblk2 k hm,(hblk k hm).2.1⟩
 have hsepk:∀k,(k∈fp\/w.heap.size<=k)->J.own k\/J.w0.heap.size<=k:=by
  rintro k (q|q)
  ·obtain⟨id,hid,e',he',hl',hb'⟩:=hfp k q;exact(h.sep _ _ e' k he' hl' hb').2
  ·exact .inr (g1C h.kept.size q)
 have hfreek:∀k,(k∈fp\/w.heap.size<=k)->∀g j e,(S.upds (J3 (r.ks++ls))).ent g j=U e->e.live=Y->¬EB w' e (G g j) k:=by
  rintro k hkk g j e he hl hb0
  have hb:=hback g j e he hl k hb0;rcases hkk with q|q
  ·exact hfpfree k q g j e he hl hb
  ·obtain⟨_,q2⟩:=hlive1 g j e he hl;have:=h.lt q2 hl hb;omega
 have hHas:L8 w' ((M0 grp 0 res).2++es) (b1++b2) (fr'++fb):=hb1f.append hb2b hb1l;have hnodb:(fr'++fb).Nodup:=List.Nodup.sublist (g2R.append_left (g2z _ _) _) hnod';have hvb:∀(j:Nat) (e:x8),((M0 grp 0 res).2++es)[j]?=U e->(b1++b2)[j]?=U (ι' grp j):=by
  intro j e he;have hj:j<(b1++b2).length:=by rw[hlenb];exact(g06.1 he).1
  have hv:ι' grp j=(b1++b2)[j]:=by rw[hι'];exact a6D (g0Y hj)
  rw[hv];exact g0Y hj
 have hmemb:∀(j:Nat) (e:x8) (k:Nat),((M0 grp 0 res).2++es)[j]?=U e->EB w' e (ι' grp j) k->k∈fr'\/k∈fb:=
  λj e k he hk=>g0Z.1 (hHas.mem he (hvb j e he) hk)
 have hS4:=hS3.lay (grp:=grp) hlenS hnD (new:=(M0 grp 0 res).2++es) (ι':=ι') hι'ne
  (λj e he=>hlie j e _ he (hvb j e he))
  (λj e k he hl hk=>by
   have:=hblk' k ((hmemb j e k he hk).imp id .inr);exact⟨this.1,hsepk k this.2⟩)
  (λj e j' e' k he he' hl hl' hk hk'=>hHas.inj hnodb he (hvb j e he) hk he' (hvb j' e' he') hk')
  (λj e g' j' e' k he he' hl hl' hk hk'=>by
   have:=hblk' k ((hmemb j e k he hk).imp id .inr);exact hfreek k this.2 g' j' e' he' hl' hk')
 have hgne:∀id∈r.ks++ls,id.1≠grp:=by
  intro id hid q;obtain⟨e,he⟩:=hkall id hid;exact hn (q▸St.D_of_ent he)
 have huids:∀u∈fz++us,u.1∈r.ks++ls:=by
  intro u hu;rcases g0Z.1 hu with q|q
  ·exact g0Z.2 (.inr (hfzids▸g1m.2 ⟨u,q,rfl⟩))
  ·exact g0Z.2 (.inl (husk' u q))
 have hugne:∀u∈fz++us,u.1.1≠grp:=λu hu=>hgne _ (huids u hu)
 have hlay:=b0V (grp:=grp) (new:=(M0 grp 0 res).2++es) (fz++us) (S.upds (J3 (r.ks++ls))) hugne;have hS5:=hS4.reviveAll (fz++us) (by
   rw[g1W,hfzids];refine g1b.2 ⟨hlsn,hnu',?_⟩;intro x hx y hy hxy;subst hxy;obtain⟨u,hu,rfl⟩:=g1m.1 hy;exact hlsk _ hx (husk' u hu))
  (λu hu=>by
   rw[a82 (hugne u hu)];exact d57 (huids u hu) (hkall _ (huids u hu)))
  (λu hu=>by
   rw[hι'ne _ _ (hugne u hu)];rcases g0Z.1 hu with q|q
   ·rcases hfzls u q with⟨e,sz,n,rows,he,hu2,hb⟩|hu2
    case inr=>rw[hu2];trivial
    rw[hu2];have hfv:=OR.fv (F1:=λk=>F k\/E1 (G u.1.1 u.1.2)=U k) (λk x=>.inl x) (λk x=>.inr x) (h.ents _ _ _ he);have hs:M7 w w' λk=>F k\/E1 (G u.1.1 u.1.2)=U k:=a2D λk hk=>by
     have hF1k:F1 k:=by
      rcases hk with x|x
      ·exact .inl x
      ·exact .inr ⟨u.1,hlsr _ (hfzids▸g1m.2 ⟨u,q,rfl⟩),_,he,x⟩
     exact hkept.block k (hF1lt k hF1k) λz=>(hfpF1 k z).1 hF1k
    exact hfv.mono hs λk x=>x.elim (hF2 k) (hb k)
   ·exact hre2 u q)
  (λu hu hl k hk=>by
   rw[hι'ne _ _ (hugne u hu)]at hk;rcases g0Z.1 hu with q|q
   ·rcases hfzls u q with⟨e,sz,n,rows,he,hu2,hb⟩|hu2<;>(rw[hu2]at hl;cases hl)
   ·obtain⟨i,hi⟩:=g2A q;have hkm:k∈fu:=hb2u.mem (i:=i) (by rw[g1Z,hi];rfl) (by rw[g1Z,hi];rfl) hk;have hb:=hblk' k (.inr (.inl hkm));refine⟨⟨hb.1,hsepk k hb.2⟩,?_⟩;intro g' j' e he hle hk';by_cases qg:g'=grp
    ·subst qg;rw[e0r hlenS]at he;have hdj:=g1b.1 hnod';have hdj2:=g1b.1 hdj.2.1;rcases hmemb j' e k he hk' with z|z
     ·exact hdj.2.2 k z k (g0Z.2 (.inl hkm)) rfl
     ·exact hdj2.2.2 k hkm k z rfl
    ·rw[a82 qg]at he;rw[hι'ne _ _ qg]at hk';exact hfreek k hb.2 g' j' e he hle hk')
  (λu hu v hv k hl hl' hk hk'=>by
   rw[hι'ne _ _ (hugne u hu)]at hk;rw[hι'ne _ _ (hugne v hv)]at hk';have usof:∀x∈fz++us,x.2.live=Y->x∈us:=by
    intro x hx hxl;rcases g0Z.1 hx with q|q
    ·rcases hfzls x q with⟨e,sz,n,rows,he,hu2,hb⟩|hu2<;>(rw[hu2]at hxl;cases hxl)
    ·exact q
   obtain⟨i,hi⟩:=g2A (usof u hu hl);obtain⟨i',hi'⟩:=g2A (usof v hv hl');have hnu2:fu.Nodup:=(g1b.1 (g1b.1 hnod').2.1).1;have:=hb2u.inj hnu2 (i:=i) (j:=i') (by rw[g1Z,hi];rfl) (by rw[g1Z,hi];rfl) hk (by rw[g1Z,hi'];rfl) (by rw[g1Z,hi'];rfl) hk';subst this;rw[hi]at hi';injection hi' with hi';rw[hi'])
 have hrv':RV w' F2 (((S.upds (J3 (r.ks++ls))).lay grp ((M0 grp 0 res).2++es)).upds (fz++us)).D ι' (M0 grp 0 res).1 c:=
  hrv.mono (λ_ _ _=>rfl) (λ_ x=>x) (λk x=>(a1z _ k _).2 x) (λ_ _ _=>rfl)
 have hput:=hS5.put dst hrv';rw[<-hlay]at hput hrv';have happ:∀(v:V) (ob:List Prop),S.apply grp dst {v:=v,new:=U ((M0 grp 0 res).2++es),upd:=J3 (r.ks++if fr=Y then []else dd r.ls)++(fz++us),obl:=ob}={ ((S.upds (J3 (r.ks++ls))).upds (fz++us)).lay grp ((M0 grp 0 res).2++es)with t:=Z3 (((S.upds (J3 (r.ks++ls))).upds (fz++us)).lay grp ((M0 grp 0 res).2++es)).t dst v}:=by
  intro v ob;simp only[St.apply,St.upds_append,hls]
 have hDD:∀g,S.D g->(((S.upds (J3 (r.ks++ls))).upds (fz++us)).lay grp ((M0 grp 0 res).2++es)).D g:=by
  intro g hgD;have hne:g≠grp:=λq=>hn (q▸hgD)
  have h1:((S.upds (J3 (r.ks++ls))).upds (fz++us)).D g:=(a1z _ g _).2 ((a1z _ g _).2 hgD);exact b97 h1
 refine⟨c,F2,ι',rfl,?_⟩;rw[happ];exact⟨hput,hDD,λg j hgD=>hι'ne g j λq=>hn (q▸hgD),hrv'⟩
def B5.map_imp{C β γ δ:Type}{R:γ->β->Prop}{R':δ->β->Prop}{f:C->γ}{g:C->δ}(h:∀a b,R (f a) b->R' (g a) b):∀{D9:List C} {bs:List β},B5 R (D9.map f) bs->B5 R' (D9.map g) bs
 | [],_,.nil=>.nil
 |a::D9,_,.cons hx t=>.cons (h _ _ hx) (B5.map_imp h t)
def RV.nofill{D:Nat->Prop}{v:V}{x:Value}(h:RV w F D G v x)(c:Value):a1j c v=v:=by
 have hc:∀{v:V} {x:Value},RC w F D G v x->a0B c v=v:=by
  intro v x h;refine b5u ?_;rintro rfl
  cases h with
  |fv v c h=>cases h
 cases h with
 |one v x h=>
  cases h with
  |cell v x h=>
   refine b53 ?_;rintro cs rfl
   cases h with|fv v c h=>cases h
  |agg cs ds h=>
   show V.agg (cs.map (a0B c))=_
   congr 1
   induction h with
   |nil=>rfl
   |cons h t ih=>rw[g1v,hc h,ih]
 |tup=>rfl
 |any=>rfl
def e7J(h:A2 J F G S a w){grp:Nat}(hg:grp<(O S.h))(hn:¬S.D grp){ob:Oper}{fop:Operand}{args:Array Operand}{tys:Array TypeId}{f:Nat}(ho:ob.op=.call {callee:=.value fop,args:=args,argTypes:=tys})(hf:z6 S.t fop=.fn f){A:U8}{out:E0}{lg:List (Nat×Nat)}(hp:b4M cx.P grp f (args.toList.map (z6 S.t)) A S.ent=U (out,lg))(hob:∀p∈out.obl,p) :
  (execOp a.eval ob).run cx.P w=.ok (.enter f (args.map a.eval)) w/\Calls cx.P f (args.map a.eval) w λe w' => ∃c F' ι',e=.returned c/\A2 J F' ι' (S.apply grp ob.dst out) (a.put ob.dst c) w':=by
 have hfn:=H6 h.tmps fop;rw[hf]at hfn;have hall:=d5M h.tmps args.toList;have hargsEq:(args.toList.map a.eval).toArray=args.map a.eval:=e4d args a.eval;have hrun:c42 cx.P f->(execOp a.eval ob).run cx.P w=.ok (.enter f (args.map a.eval)) w:=λ⟨fn,hfun,hname,hbody⟩=>e9S ho hfn.inv_fn hfun hname hbody
 cases A<;>try (cases hp;done)
 case call ms fr res outs=>
  have hp:a9H grp (args.toList.map (z6 S.t)) ms fr res outs (λv=>a1n cx.P f v res outs) S.ent=U (out,lg):=hp;have hall':B5 (RV w F S.D G) ((args.toList.map (z6 S.t)).map (K2 Z)) (args.toList.map a.eval):=by
   rw[show(K2 Z)=id from rfl,List.map_id];exact hall
  obtain⟨h1,h2⟩:=d0y (P:=cx.P) (f:=f) h hg hn ob.dst Z hall' hp (λv q=>by rw[show(K2 Z)=id from rfl,List.map_id];exact q) hob;rw[hargsEq]at h2;refine⟨hrun h1,h2.mono ?_⟩;rintro e w' ⟨c,F',ι',he,hr,_⟩
  exact⟨c,F',ι',he,hr⟩
 case callr k q ms fr res outs=>
  unfold b4M at hp;simp only at hp;cases hk:(args.toList.map (z6 S.t))[k]? with
  |none=>rw[hk]at hp;cases hp
  |some ak=>
  rw[hk]at hp;cases ak<;>try (cases hp;done)
  rename_i cs;simp only at hp;cases hq:cs[q]? with
  |none=>rw[hq]at hp;cases hp
  |some cq=>
  rw[hq]at hp;cases cq<;>try (cases hp;done)
  rename_i g j sz lo n;cases lo with
  |succ x=>cases hp
  |zero=>
  simp only at hp;obtain⟨o,l1,l2,hcg,hp2,_⟩:=m7.bind_some hp;have:=m7.pure_some hp2;injection this with e1 e2;have e1:out=_:=e1;subst e1;obtain⟨x,hx,hxr⟩:=hall.get hk;obtain⟨ds,rfl,hds⟩:=hxr.inv_agg;obtain⟨c0,hc0,hown⟩:=hds.get hq;have hall':B5 (RV w F S.D G) (((args.toList.map (z6 S.t)).set k (.agg (cs.set q .hole))).map (K2 (U c0))) (args.toList.map a.eval):=by
   have hmap:((args.toList.map (z6 S.t)).set k (.agg (cs.set q .hole))).map (K2 (U c0))=(args.toList.map (z6 S.t)).set k (.agg (cs.set q (.raw c0))):=by
    rw[List.map_set];have h1:(args.toList.map (z6 S.t)).map (K2 (U c0))=args.toList.map (z6 S.t):=by
     have:∀{vs:List V} {xs:List Value},B5 (RV w F S.D G) vs xs->vs.map (K2 (U c0))=vs:=by
      intro vs xs h;induction h with
      |nil=>rfl
      |cons h t ih=>rw[g1v,ih,show K2 (U c0) _=a1j c0 _ from rfl,h.nofill c0]
     exact this hall
    have h2:K2 (U c0) (.agg (cs.set q .hole))=.agg (cs.set q (.raw c0)):=by
     show V.agg ((cs.set q .hole).map (a0B c0))=_
     rw[List.map_set];have h3:cs.map (a0B c0)=cs:=by
      have:=hxr.nofill c0;injection this
     rw[h3];rfl
    rw[h1,h2]
   rw[hmap];have hset:=hall.set k (a:=.agg (cs.set q (.raw c0))) (b:=.agg ds.toArray) (.one _ _ (.agg _ _ (by
    have:=hds.set q (a:=.raw c0) (b:=c0) (.fv _ _ (.raw c0 hown.one));rwa[show ds.set q c0=ds from a1I hc0]at this)))
   rwa[show(args.toList.map a.eval).set k (.agg ds.toArray)=args.toList.map a.eval from a1I hx]at hset
  obtain⟨h1,h2⟩:=d0y (P:=cx.P) (f:=f) h hg hn ob.dst (U c0) hall' hcg (λv q=>q c0) (λp hp=>hob p hp);rw[hargsEq]at h2;refine⟨hrun h1,h2.mono ?_⟩;rintro e w' ⟨c,F',ι',he,hr,hD,hι,hv⟩
  refine⟨c,F',ι',he,?_⟩;have hown':RC w' F' (S.apply grp ob.dst {o with v:=K2 (U c0) o.v}).D ι' (.own g j sz 0 n) c0:=by
   clear hr hv;revert hD hι;generalize (S.apply grp ob.dst {o with v:=K2 (U c0) o.v}).D=D';intro hD hι;cases hown with
   |fv v c h=>cases h
   |own g j sz lo n b nn cap hD0 k1 k2 k3 k4=>exact .own g j sz 0 n b nn cap (hD _ hD0) (by rw[hι _ _ hD0];exact k1) k2 k3 k4
   |own0 g j sz lo b cap hD0 k1=>omega
  have hplug:∀{v:V} {x:Value},RC w' F' (S.apply grp ob.dst {o with v:=K2 (U c0) o.v}).D ι' (a0B c0 v) x->RC w' F' (S.apply grp ob.dst {o with v:=K2 (U c0) o.v}).D ι' (c7p (.own g j sz 0 n) v) x:=by
   intro v x h;by_cases hv:v=.hole
   ·subst hv;cases h with
    |fv v c h=>cases h;exact hown'
   ·rw[b5u hv]at h;have:c7p (.own g j sz 0 n) v=v:=by cases v<;>first|rfl|exact absurd rfl hv
    rw[this];exact h
  have hv':RV w' F' (S.apply grp ob.dst {o with v:=K2 (U c0) o.v}).D ι' (b6p (.own g j sz 0 n) o.v) c:=by
   revert hv;show RV _ _ _ _ (a1j c0 o.v) c->_
   intro hv;by_cases ha:∃cs,o.v=.agg cs
   ·obtain⟨cs,ha⟩:=ha;rw[ha]at hv⊢;obtain⟨ds,rfl,hds⟩:=hv.inv_agg;refine .one _ _ (.agg _ _ ?_);exact B5.map_imp (λv x h=>hplug h) hds
   ·have ha:∀cs,o.v ≠ .agg cs:=λcs q=>ha ⟨cs,q⟩
    rw[b53 ha]at hv;have:b6p (.own g j sz 0 n) o.v=o.v:=by
     generalize o.v=v at ha;cases v<;>first|rfl|exact absurd rfl (ha _)
    rw[this];exact hv
  have hfin:=hr.put ob.dst hv';have e1:(a.put ob.dst c).put ob.dst c=a.put ob.dst c:=by
   cases ob.dst with
   |none=>rfl
   |some d=>simp[Act.put]
  rw[e1]at hfin;have e2:S.apply grp ob.dst {o with v:=b6p (.own g j sz 0 n) o.v}={S.apply grp ob.dst {o with v:=K2 (U c0) o.v}with t:=Z3 (S.apply grp ob.dst {o with v:=K2 (U c0) o.v}).t ob.dst (b6p (.own g j sz 0 n) o.v)}:=by
   cases ob.dst with
   |none=>rfl
   |some d=>simp[St.apply,Z3]
  rw[e2];exact hfin
end
section
variable {w w':World} {F D:Nat->Prop} {G:Nat->Nat->Value}
def KL.len:∀{vs:List V} {cs:List Value} {f:List Nat},KL w F D G vs cs f->(O vs)=(O cs)
 |_,_,_,.nil=>rfl
 |_,_,_,.cons _ _ _ _ _ _ _ t=>by simp[KL.len t]
def KL.app:∀{vs vs':List V} {cs cs':List Value} {f f':List Nat},KL w F D G vs cs f->KL w F D G vs' cs' f'->KL w F D G (vs++vs') (cs++cs') (f++f')
 |_,_,_,_,_,_,.nil,k=>k
 |_,_,_,_,_,_,.cons v c f vs cs fs h t,k=>by
  rw[g1d];exact .cons v c f _ _ _ h (KL.app t k)
def KL.split:∀{vs vs':List V} {cs:List Value} {f:List Nat},KL w F D G (vs++vs') cs f->∃c1 c2 f1 f2,cs=c1++c2/\f=f1++f2/\KL w F D G vs c1 f1/\KL w F D G vs' c2 f2
 | [],vs',cs,f,h=>⟨[],cs,[],f,rfl,rfl,.nil,h⟩
 |v::vs,vs',_,_,.cons _ c f _ cs fs h t=>by
  obtain⟨c1,c2,f1,f2,rfl,rfl,h1,h2⟩:=KL.split t;exact⟨c::c1,c2,f++f1,f2,rfl,by rw[g1d],.cons _ _ _ _ _ _ h h1,h2⟩
def KL.cut{vs:List V}{cs:List Value}{f:List Nat}(h:KL w F D G vs cs f){k m:Nat}(hk:k+m<=(O vs)) :
  ∃fa fm fb,f=fa++(fm++fb)/\KL w F D G (vs.take k) (cs.take k) fa/\KL w F D G ((vs.drop k).take m) ((cs.drop k).take m) fm/\KL w F D G (vs.drop (k+m)) (cs.drop (k+m)) fb:=by
 have e:vs=vs.take k++((vs.drop k).take m++vs.drop (k+m)):=by
  rw[<-g2F,g1V,g1V]
 rw[e]at h;obtain⟨c1,c23,f1,f23,rfl,rfl,h1,h23⟩:=h.split;obtain⟨c2,c3,f2,f3,rfl,rfl,h2,h3⟩:=h23.split;have l1:(O c1)=k:=by rw[<-h1.len];simp;omega
 have l2:(O c2)=m:=by rw[<-h2.len];simp;omega
 have t1:(c1++(c2++c3)).take k=c1:=by rw[g1L (by omega),g1A (by omega)]
 have t2:(c1++(c2++c3)).drop k=c2++c3:=by rw[g2O (by omega),g1r (by omega:(O c1)<=k),g1z]
 have t3:(c2++c3).take m=c2:=by rw[g1L (by omega),g1A (by omega)]
 have t4:(c2++c3).drop m=c3:=by rw[g2O (by omega),g1r (by omega:(O c2)<=m),g1z]
 refine⟨f1,f2,f3,rfl,?_,?_,?_⟩
 ·rw[t1];exact h1
 ·rw[t2,t3];exact h2
 ·rw[<-g2F (l:=c1++(c2++c3)),t2,t4];exact h3
def KL.splice{vs us:List V}{cs ds:List Value}{f f2:List Nat}(h:KL w F D G vs cs f){k:Nat}(h2:KL w F D G us ds f2)(hk:k+(O us)<=(O vs)) :
  ∃fa fm fb,f=fa++(fm++fb)/\KL w F D G (C7 vs k us) (C7 cs k ds) (fa++(f2++fb))/\KL w F D G ((vs.drop k).take (O us)) ((cs.drop k).take (O us)) fm:=by
 obtain⟨fa,fm,fb,rfl,h1,hm,h3⟩:=h.cut hk;refine⟨fa,fm,fb,rfl,?_,hm⟩;unfold C7;rw[g1d,g1d,<-h2.len];exact h1.app (h2.app h3)
def OR.one{e sz n:Nat}{rows:List (List V)}{c:Value}{flat:List Value}(h:w.ownsRow 0 e sz c n flat):c.oneCell'=Y:=by
 rcases h.2 with⟨rfl,_⟩|⟨g,cap,cur,rfl,_⟩<;>rfl
def BC.one{v:V}{c:Value}{f:List Nat}(h:BC w F v c f):c.oneCell'=Y:=by
 cases h with
 |fv v c h=>exact(RC.fv (D:=λ_=>True) (G:=λ_ _=>.nilFunc) v c h).one
 |osl e sz n rows c h=>
  obtain⟨flat,ho,_⟩:=h;exact OR.one (rows:=rows) ho
 |dsl e sz n rows c flat fs ho hr hn hl=>exact OR.one (rows:=rows) ho
def KC.one{v:V}{c:Value}{f:List Nat}(h:KC w F D G v c f):c.oneCell'=Y:=by
 cases h with
 |rc h=>exact h.one
 |bc _ h=>exact BC.one h
def KL.bots:∀{vs:List V} {cs:List Value} {f:List Nat},KL w F D G vs cs f->KL w F D G (vs.map λ_=>V.bot) cs []
 |_,_,_,.nil=>.nil
 |_,_,_,.cons v c f vs cs fs h t=>.cons .bot c [] _ _ [] (.rc _ _ (.fv _ _ (.bot _ h.one))) (KL.bots t)
def KL.ofRC:∀{vs:List V} {cs:List Value},B5 (RC w F D G) vs cs->KL w F D G vs cs []
 |_,_,.nil=>.nil
 |_,_,.cons h t=>.cons _ _ [] _ _ [] (.rc _ _ h) (KL.ofRC t)
def V.plain:V->Bool
 | .own .. | .ptr .. | .eptr .. | .fptr _ | .mp .. | .osl .. | .dsl .. | .agg _ | .tup _ | .optr .. => W
 |_=>Y
end
def d5H:∀{ks:List (Nat×Nat)} {S:St} {g j:Nat},(g,j) ∉ ks->(S.upds (J3 ks)).ent g j=S.ent g j
 | [],_,_,_,_=>rfl
 |k::ks,S,g,j,h=>by
  show((S.setE k.1 k.2 .dead).upds (J3 ks)).ent g j=_
  rw[d5H (λq=>h (by simp[q])),a7T (λq=>h (by rw[show k=(g,j)from Prod.ext q.1.symm q.2.symm];simp))]
section
variable {cx:Cx} {J:U2} {F:Nat->Prop} {G:Nat->Nat->Value} {S:St} {a:Act} {w:World}
def A2.writeX(h:A2 J F G S a w){g j:Nat}{e e':x8}(he:S.ent g j=U e)(hl:e.live=Y){w':World}(hk:w'.os=w.os/\w'.tape=w.tape/\w'.output=w.output)(hsz:w'.heap.size=w.heap.size)(hb:∀k,¬EB w e (G g j) k->w'.heap[k]?=w.heap[k]?)(hn:M7 w w' F->RE w' F (S.setE g j e').D G e' (G g j)){X:List Nat}(hX:∀k∈X,¬F k/\(J.own k\/J.w0.heap.size<=k)/\∀g' j' e'',S.ent g' j'=U e''->e''.live=Y->¬EB w e'' (G g' j') k)(hin:∀k,EB w' e' (G g j) k->EB w e (G g j) k\/k∈X):A2 J F G (S.setE g j e') a w':=by
  have hs:M7 w w' F:=a2D λk hF=>hb k λq=>(h.sep g j e k he hl q).1 hF
  have hD:∀k,S.D k->(S.setE g j e').D k:=λk x=>W6.2 x
  have hoth:∀g' j' e'',S.ent g' j'=U e''->e''.live=Y->¬(g'=g/\j'=j)->∀k,EB w e'' (G g' j') k->w'.heap[k]?=w.heap[k]?:=λg' j' e'' he'' hl'' q k a3n=>hb k λq'=>q (h.inj g' j' e'' g j e k he'' he hl'' hl a3n q')
  have hone:∀g2 j2 e2 k,S.ent g2 j2=U e2->e2.live=Y->¬(g2=g/\j2=j)->EB w' e' (G g j) k->EB w' e2 (G g2 j2) k->False:=by
    intro g2 j2 e2 k h2 l2 q2 k1 k2;have k2':=(h.ents g2 j2 e2 h2).back (hoth g2 j2 e2 h2 l2 q2) k2;rcases hin k k1 with x|x
    . exact q2 (h.inj g2 j2 e2 g j e k h2 he l2 hl k2' x)
    . exact(hX k x).2.2 g2 j2 e2 h2 l2 k2'
  exact
    { F0:=h.F0
      F1:=λk hF=>hsz▸h.F1 k hF
      F2:=h.F2
      kept:=⟨hk.1.trans h.kept.os,hk.2.1.trans h.kept.tape,hk.2.2.trans h.kept.output,hsz▸h.kept.size,λk hk' hno=>by
        rw[hb k λq => ?_]
        . exact h.kept.block k hk' hno
        . rcases(h.sep g j e k he hl q).2 with x|x
          . exact hno x
          . omega⟩
      tmps:=by rw[a85];exact h.tmps.imp λ_ _ x=>x.mono hs (λ_ y=>y) hD (λ_ _ _=>rfl)
      ents:=λg' j' e'' he''=>by
        rw[W5 he]at he'';split at he''
        . rename_i q;obtain⟨rfl,rfl⟩:=q;injection he'' with he'';subst he'';exact hn hs
        . rename_i q;exact(h.ents g' j' e'' he'').mono hs (λ_ y=>y) hD (λ_ _ _=>rfl) λk hl'' a3n=>hoth g' j' e'' he'' hl'' q k a3n
      sep:=λg' j' e'' k he'' hl'' a3n=>by
        rw[W5 he]at he'';split at he''
        . rename_i q;obtain⟨rfl,rfl⟩:=q;injection he'' with he'';subst he'';rcases hin k a3n with x|x
          . exact h.sep g' j' e k he hl x
          . exact⟨(hX k x).1,(hX k x).2.1⟩
        . rename_i q;exact h.sep g' j' e'' k he'' hl'' ((h.ents g' j' e'' he'').back (hoth g' j' e'' he'' hl'' q) a3n)
      inj:=λg1 j1 e1 g2 j2 e2 k h1 h2 l1 l2 k1 k2=>by
        rw[W5 he]at h1 h2;split at h1<;>split at h2
        . rename_i q1 q2;exact⟨q1.1.trans q2.1.symm,q1.2.trans q2.2.symm⟩
        . rename_i q1 q2;obtain⟨rfl,rfl⟩:=q1;injection h1 with h1;subst h1;exact(hone g2 j2 e2 k h2 l2 q2 k1 k2).elim
        . rename_i q1 q2;obtain⟨rfl,rfl⟩:=q2;injection h2 with h2;subst h2;exact(hone g1 j1 e1 k h1 l1 q1 k2 k1).elim
        . rename_i q1 q2;exact h.inj g1 j1 e1 g2 j2 e2 k h1 h2 l1 l2 ((h.ents g1 j1 e1 h1).back (hoth g1 j1 e1 h1 l1 q1) k1) ((h.ents g2 j2 e2 h2).back (hoth g2 j2 e2 h2 l2 q2) k2)
      defers:=h.defers
      pins:=λj c hc=>⟨hD _ (h.pins j c hc).1,(h.pins j c hc).2⟩}
def M6.splice{rows:List (List V)}(h:M6 rows){idx off:Nat}{r vs:List V}(hr:rows[idx]?=U r)(hv:∀v∈vs,v.isRef=W):M6 (rows.set idx (C7 r off vs)):=by
 intro q hq v hm;rcases g1F hq with hq|rfl
 ·exact h q hq v hm
 ·unfold C7 at hm;have hrr:=h r (g1e hr);rcases g0Z.1 hm with hm|hm
  ·rcases g0Z.1 hm with hm|hm
   ·exact hrr v (g1M hm)
   ·exact hv v hm
  ·exact hrr v (g10 hm)
def A2.dput(h:A2 J F G S a w){g j t sz n:Nat}{o:Bool}{rows:List (List V)}(he:S.ent g j=U (.deep o t sz n rows)){idx off:Nat}{r vs:List V}{ds:List Value}{fp:List Nat}{ks:List (Nat×Nat)}(hr:rows[idx]?=U r)(hoff:off+(O vs)<=sz)(hbl:BL w F vs ds fp)(hfps:R7 S w G ks fp)(hks:ks.Nodup)(hgj:(g,j) ∉ ks){w':World}(hw:w'.os=w.os/\w'.tape=w.tape/\w'.output=w.output)(hsz:w'.heap.size=w.heap.size)(hb:∀k,E1 (G g j)≠U k->w'.heap[k]?=w.heap[k]?)(hnew:∀flat,w.ownsRow 0 t sz (G g j) n flat->w'.ownsRow 0 t sz (G g j) n (C7 flat (idx*sz+off) ds)) :
  A2 J F G (S.upds (J3 ks++[((g,j),.deep o t sz n (rows.set idx (C7 r off vs)))])) a w':=by
 obtain⟨flat,fs,hor,hkl,hn,hl,hnd,hnr⟩:=h.ents g j _ he;have h1:=h.killAll ks λid hid=>by
  obtain⟨e,he,_⟩:=hfps.live id hid;exact⟨e,he⟩
 have he1:(S.upds (J3 ks)).ent g j=U (.deep o t sz n rows):=by rw[d5H hgj];exact he
 have hidx:=(g06.1 hr).1;have hpos:idx*sz+sz<=n*sz:=by rw[<-g15];exact g1x _ (by omega)
 obtain⟨fa,fm,fb,rfl,hrow,_⟩:=hkl.splice (k:=idx*sz+off) hbl.kl (by rw[a5H hl,hn];omega);rw[<-a9b hl hr hoff]at hrow;have hfpx:∀k∈fp,¬F k/\(J.own k\/J.w0.heap.size<=k)/\k ∉ H5 (G g j)++(fa++(fm++fb))/\∀g' j' e'',(S.upds (J3 ks)).ent g' j'=U e''->e''.live=Y->¬EB w e'' (G g' j') k:=by
  intro k hk;obtain⟨id,hid,e',he',hl',hb'⟩:=hfps.mem hk;obtain⟨z1,z2⟩:=h.sep _ _ e' k he' hl' hb';refine⟨z1,z2,?_,?_⟩
  ·intro q;obtain⟨y1,y2⟩:=h.inj _ _ _ _ _ _ k he he' rfl hl' ((EB.deep_iff hor hkl).2 q) hb';exact hgj (by rw[show(g,j)=id from Prod.ext y1 y2];exact hid)
  ·intro g' j' e'' he'' hl'' hb'';rcases b2I _ he'' with⟨_,rfl⟩|⟨q1,q2⟩
   ·cases hl''
   ·obtain⟨y1,y2⟩:=h.inj _ _ _ _ _ _ k q2 he' hl'' hl' hb'' hb';exact q1 (by rw[show(g',j')=id from Prod.ext y1 y2];exact hid)
 have hnd2:(H5 (G g j)++(fa++fb)).Nodup:=by
  refine List.Nodup.sublist ?_ hnd;exact g2R.append_left (g2R.append_left (g2z _ _) _) _
 have hnd':(H5 (G g j)++(fa++(fp++fb))).Nodup:=by
  refine(a9q (a9q (g2E.refl (fp++fb)))).nodup_iff.2 ?_;refine g1b.2 ⟨R7.nodup h hfps hks,hnd2,?_⟩;intro k hk k' hk' hkk;subst hkk;refine(hfpx k hk).2.2.1 ?_;simp only[g0Z]at hk'⊢;rcases hk' with q|q|q<;>simp[q]
 have hre:M7 w w' F->RE w' F ((S.upds (J3 ks)).setE g j (.deep o t sz n (rows.set idx (C7 r off vs)))).D G (.deep o t sz n (rows.set idx (C7 r off vs))) (G g j):=by
  intro hs;refine⟨_,_,hnew flat hor,hrow.mono hs (λ_ x=>x) (λk x=>W6.2 ((a1z S k _).2 x)) (λ_ _ _=>rfl) ?_,by simpa using hn,?_,hnd',λq=>(hnr q).splice hr hbl.noRef⟩
  ·intro k hk;refine hb k λq => ?_
   exact(g1b.1 hnd').2.2 k (X1.2 q) k hk rfl
  ·intro q hq;rcases g1F hq with hq|rfl
   ·exact hl q hq
   ·have:=hl r (g1e hr);rw[a4f _ _ _ (by omega)];exact this
 rw[St.upds_append];refine h1.writeX he1 rfl hw hsz (λk hk=>hb k λq=>hk (EB.top q)) hre (X:=fp) (λk hk=>⟨(hfpx k hk).1,(hfpx k hk).2.1,(hfpx k hk).2.2.2⟩) ?_;intro k hk;have hs:M7 w w' F:=a2D λk hF=>hb k λq=>(h.sep g j _ k he rfl (EB.top q)).1 hF
 obtain⟨flat2,fs2,ho2,hkl2,_⟩:=hre hs;have hk2:=(EB.deep_iff ho2 hkl2).1 hk;have hkl3:=hrow.mono (w':=w') hs (λ_ x=>x) (λk x=>x) (λ_ _ _=>rfl) (λk hk=>hb k λq=>(g1b.1 hnd').2.2 k (X1.2 q) k hk rfl);have hfl:=b28 ho2 (hnew flat hor) (λ_ _=>rfl);subst hfl;rw[hkl2.det hkl3 (λ_ _=>rfl)]at hk2;simp only[g0Z]at hk2;rw[EB.deep_iff hor hkl];simp only[g0Z];rcases hk2 with q|q|q|q<;>simp[q]
def b17(cx:Cx)(ty:Nat)(x y:V)(r:List V)(ck om:List (Option Nat)):m7 E0:=
 match cx.T ty,y.cells with
 |some ti,U vs=>match x with
  | .eptr g j sz idx off=>m7.bind (m7.rd g j) λe=>m7.bind (a2X ck om vs) λf=>match e with
   | .deep o t sz' n rows=>if sz'=sz/\(O vs)=ti.size/\off+(O vs)<=sz/\f.ls.isEmpty/\a4Z f.ks/\a21 f.ks (g,j)=W then
     m7.pure {v:=.bot,upd:=J3 f.ks++[((g,j),.deep o t sz n (rows.set idx (C7 r off f.v)))],obl:=(rows[idx]?=U r)::f.obl}
    else m7.no
   |_=>m7.no
  |_=>m7.no
 |_,_=>m7.no
def BL.len{F:Nat->Prop}:∀{vs:List V} {cs:List Value} {f:List Nat},BL w F vs cs f->(O vs)=(O cs)
 |_,_,_,.nil=>rfl
 |_,_,_,.cons _ _ _ _ _ _ _ t=>by simp[BL.len t]
def d6U(h:A2 J F G S a w){grp:Nat}{ob:Oper}{ty:Nat}{x y:Operand}{r:List V}{ck om:List (Option Nat)}(ho:ob.op=.store ty x y)(hd:ob.dst=Z){out:E0}{lg:List (Nat×Nat)}(hp:b17 cx ty (z6 S.t x) (z6 S.t y) r ck om S.ent=U (out,lg))(hob:∀p∈out.obl,p):a0n cx.P J G S grp ob out a w:=by
 have hx:=H6 h.tmps x;have hy:=H6 h.tmps y;unfold b17 at hp;cases hti:cx.T ty with
 |none=>rw[hti]at hp;cases hp
 |some ti=>
 cases hvs:(z6 S.t y).cells with
 |none=>rw[hti,hvs]at hp;cases hp
 |some vs=>
 rw[hti,hvs]at hp;simp only at hp;obtain⟨i,d,z,htf⟩:=cx.tf hti;have hcells:=hy.cells hvs;have hone:=hcells.all_one;have hclen:(O vs)=(a.eval y).cells.size:=by simpa using hcells.length
 generalize z6 S.t x=xv at hp hx;cases xv<;>try (cases hp;done)
 case eptr g j sz idx off=>
  obtain⟨hD,b,hι,hc⟩:=hx.inv_eptr;obtain⟨e,l1,l2,hrd,hp',hl12⟩:=m7.bind_some hp;clear hp;have he:=(m7.rd_some hrd).1;simp only at he;obtain⟨f,l3,l4,hf,hp'',hl34⟩:=m7.bind_some hp';clear hp';cases e<;>try (cases hp'';done)
  rename_i o t sz' n rows;simp only at hp'';split at hp''<;>try (cases hp'';done)
  rename_i hcond;obtain⟨rfl,hc1,hc2,hc3,hc4,hc5⟩:=hcond;have:=m7.pure_some hp'';injection this with h2 h3;subst h2;have hr:rows[idx]?=U r:=hob _ (g1a.2 (.inl rfl));have hls:f.ls=[]:=List.isEmpty_iff.1 hc3;obtain⟨fp,hbl,hfps,hh⟩:=b42 (F1:=F) h (λ_ x=>x) hcells hf (λp hp=>hob p (g1a.2 (.inr hp))) (by rw[hls];intro id hid;cases hid);obtain⟨flat0,fs0,hor0,hkl0,hn0,hl0,_⟩:=h.ents g j _ he;have hidx:=(g06.1 hr).1;have hvl:(O f.v)=(O vs):=by rw[hbl.len,hclen];simp
  rcases hor0.2 with⟨hv,h0⟩|⟨g0,cap,cur,hv,hbg,hg,hnc,hcm,hcs,ht⟩
  ·omega
  ·have hb:b=g0:=by rw[hv]at hι;simp[E1]at hι;omega
   subst hb;have hcl:n*sz'<=cur.size:=by rw[hcs];exact g1x _ hnc
   have hpos:idx*sz'+sz'<=n*sz':=by rw[<-g15];exact g1x _ (by omega)
   have hrun:=b7u (P:=cx.P) ho htf hc hg (by omega) (by omega) hone;refine⟨_,undef,_,F,G,hrun,.inr ⟨rfl,rfl⟩,?_⟩;rw[hd,b4T,b4u];refine h.dput he hr (by omega) hbl hfps (a6k hc4) (λq=>by rw[a7J.2 q]at hc5;cases hc5) ⟨rfl,rfl,rfl⟩ (b4i _ _ _) (λk hk=>setRow_other w b k _ λq=>hk (by rw[hι,q])) ?_;intro flat hor;have hfl:=b28 hor hor0 (λ_ _=>rfl);subst hfl;have hflat:(O flat)=n*sz':=hor.1;refine⟨?_,.inr ⟨b,cap,_,hv,hbg,setRow_heap w b cur _ t (0,0) hg,hnc,hcm,?_,?_⟩⟩
   ·rw[a4f _ _ _ (by simp;omega)];exact hor.1
   ·rw[g2P,a4f _ _ _ (by simp;omega)];simpa using hcs
   ·rw[<-ht];exact c6h _ _ _ _ (by simp;omega) (by simpa using hcl)
def c5Q{t sz n:Nat}{rows:List (List V)}{c:Value}{flat:List Value}{b idx off m:Nat}{r:List V}(ho:w.ownsRow 0 t sz c n flat)(hn:(O rows)=n)(hl:∀r∈rows,(O r)=sz)(hb:E1 c=U b)(hr:rows[idx]?=U r)(hoff:off+m<=sz) :
  T8 w b (idx*sz+off) ((flat.drop (idx*sz+off)).take m)/\((rows.flatten.drop (idx*sz+off)).take m=(r.drop off).take m)/\idx*sz+off+m<=(O rows.flatten):=by
 have hidx:=(g06.1 hr).1;have hpos:idx*sz+sz<=n*sz:=by rw[<-g15];exact g1x _ (by omega)
 refine⟨?_,?_,by rw[a5H hl,hn];omega⟩
 ·rcases ho.2 with⟨hv,h0⟩|⟨g0,cap,cur,hv,_,hg,hnc,hcm,hcs,ht⟩
  ·rw[hv]at hb;cases hb
  ·rw[hv]at hb;simp[E1]at hb;subst hb;have hseg:T8 w g0 0 flat:=by
    rw[<-ht];have:=(a8y hg 0).take (n*sz);simpa using this
   have:=(hseg.drop (idx*sz+off)).take m;simpa using this
 ·rw[<-b5B hl hr,List.drop_take,List.take_take,g2F];congr 1
  omega
def b6D(cx:Cx)(grp ty:Nat)(x:V)(r:List V):m7 E0:=
 match cx.T ty with
 |none=>m7.no
 |some ti=>match x with
  | .eptr g j sz idx off=>m7.bind (m7.rd g j) λe=>match e with
   | .deep _ t sz' n rows=>
    let m:=if ti.agg then ti.size else 1
    let y:=Q6 grp 0 ((r.drop off).take m);if sz'=sz/\off+m<=sz/\((r.drop off).take m).all (λv => !v.isRef)then
     match Y0 ti y.1 with
     |some v=>m7.pure {v:=v,new:=U y.2,upd:=[((g,j),.deep Y t sz n (rows.set idx (C7 r off y.1)))],obl:=[rows[idx]?=U r]}
     |none=>m7.no
    else m7.no
   |_=>m7.no
  |_=>m7.no
def KL.toBL{w:World}{F D:Nat->Prop}{G:Nat->Nat->Value}{vs:List V}{cs:List Value}{f:List Nat}(h:KL w F D G vs cs f)(hv:vs.all (λv => !v.isRef)=Y):BL w F vs cs f:=by
 refine h.blOf λv hm => ?_
 have:=g05.1 hv v hm;simpa using this
def d1C(grp:Nat):∀(vs:List V) (j:Nat),(Q6 grp j vs).1.length=(O vs)
 | [],_=>rfl
 |v::vs,j=>by simp[Q6,d1C grp vs]
def e6W{S:St}{g j:Nat}{e e':x8}:(S.setE g j e).setE g j e'=S.setE g j e':=by
 cases hx:S.h[g]? with
 |none=>unfold St.setE;simp[hx]
 |some o=>cases o with
  |none=>unfold St.setE;simp[hx]
  |some l=>
   have hlt:=(g06.1 hx).1;rw[a4s hx,a4s hx,a4s (l:=l.set j e) (by simp[hlt])];simp only[List.set_set]
set_option maxHeartbeats 800000 in
def f7F(h:A2 J F G S a w){grp:Nat}(hg:grp<(O S.h))(hn:¬S.D grp){ob:Oper}{ty:Nat}{x:Operand}{r:List V}(ho:ob.op=.load ty x){out:E0}{lg:List (Nat×Nat)}(hp:b6D cx grp ty (z6 S.t x) r S.ent=U (out,lg))(hob:∀p∈out.obl,p):a0n cx.P J G S grp ob out a w:=by
 have hx:=H6 h.tmps x;unfold b6D at hp;cases hti:cx.T ty with
 |none=>rw[hti]at hp;cases hp
 |some ti=>
 rw[hti]at hp;obtain⟨i,d,z,htf⟩:=cx.tf hti;generalize z6 S.t x=xv at hp hx;cases xv<;>try (cases hp;done)
 case eptr g j sz idx off=>
  obtain⟨hD,b,hι,hc⟩:=hx.inv_eptr;obtain⟨e,l1,l2,hrd,hp',hl12⟩:=m7.bind_some hp;clear hp;have he:=(m7.rd_some hrd).1;simp only at he;cases e<;>try (cases hp';done)
  rename_i o t sz' n rows;simp only at hp';obtain⟨m,hm⟩:∃m,(if ti.agg=Y then ti.size else 1)=m:=⟨_,rfl⟩
  rw[hm]at hp';split at hp'<;>try (cases hp';done)
  rename_i hcond;obtain⟨rfl,hc1,hc2⟩:=hcond;obtain⟨y,hy⟩:∃y,Q6 grp 0 ((r.drop off).take m)=y:=⟨_,rfl⟩
  rw[hy]at hp';cases hrv:Y0 ti y.1 with
  |none=>rw[hrv]at hp';cases hp'
  |some v=>
  rw[hrv]at hp';have:=m7.pure_some hp';injection this with h2 h3;subst h2;have hr:rows[idx]?=U r:=hob _ (by simp);obtain⟨flat,fs,hor,hkl,hrn,hl,hnd,hnr⟩:=h.ents g j _ he;obtain⟨hseg,hmid,hle⟩:=c5Q hor hrn hl hι hr hc1;have hrl:=hl r (g1e hr);have hml:((r.drop off).take m).length=m:=by simp;omega
  have hgg:g≠grp:=λq=>hn (q▸hD)
  obtain⟨k,hk⟩:∃k,idx*sz'+off=k:=⟨_,rfl⟩
  rw[hk]at hseg hmid hle;obtain⟨fa,fm,fb,rfl,ka,km,kb⟩:=hkl.cut (k:=k) (m:=m) hle;rw[hmid]at km;have hbl:=km.toBL hc2;have hds:(flat.drop k).take m=((flat.drop k).take m):=rfl;have hflen:(O flat)=(O rows.flatten):=hkl.len.symm;have hspl:∀us:List V,(O us)=m->(rows.set idx (C7 r off us)).flatten=rows.flatten.take k++(us++rows.flatten.drop (k+m)):=by
   intro us hus;rw[a9b hl hr (by omega),hk];unfold C7;rw[hus,g1d]
  have hfs:flat=flat.take k++((flat.drop k).take m++flat.drop (k+m)):=by
   rw[<-g2F,g1V,g1V]
  have hrl':∀us:List V,(O us)=m->∀q∈rows.set idx (C7 r off us),(O q)=sz':=by
   intro us hus q hq;rcases g1F hq with hq|rfl
   ·exact hl q hq
   ·rw[a4f _ _ _ (by omega)];exact hrl
  have hnd2:(H5 (G g j)++(fa++fb)).Nodup:=List.Nodup.sublist (g2R.append_left (g2R.append_left (g2z _ _) _) _) hnd;have hndm:fm.Nodup:=(g1b.1 (g1b.1 (g1b.1 hnd).2.1).2.1).1;have hdm:∀k∈fm,k ∉ H5 (G g j)++(fa++fb):=by
   intro q hq hq';have hp:=(a9q (Ξ:=H5 (G g j)) (a9q (Ξ:=fa) (g2E.refl (fm++fb)))).nodup_iff.1 hnd;exact(g1b.1 hp).2.2 q hq q hq' rfl
  obtain⟨us0,hus0⟩:∃us:List V,us=((r.drop off).take m).map λ_=>V.bot:=⟨_,rfl⟩
  have hus0l:(O us0)=m:=by rw[hus0,g1J,hml]
  have kl0:∀{D':Nat->Prop} {ι':Nat->Nat->Value},(∀k,S.D k->D' k)->(∀g j,S.D g->ι' g j=G g j)->∀{us:List V},(O us)=m->KL w F D' ι' us ((flat.drop k).take m) []->KL w F D' ι' (rows.set idx (C7 r off us)).flatten flat (fa++([]++fb)):=by
   intro D' ι' h1 h2 us hus hku;rw[hspl us hus,hfs];have l1:(flat.take k).length=k:=by simp;omega
   have e1:(flat.take k++((flat.drop k).take m++flat.drop (k+m)))=flat:=hfs.symm;exact(ka.mono (λ_ _ _=>rfl) (λ_ x=>x) h1 h2 (λ_ _=>rfl)).app (hku.app (kb.mono (λ_ _ _=>rfl) (λ_ x=>x) h1 h2 (λ_ _=>rfl)))
  have hmem0:∀q,q∈H5 (G g j)++(fa++([]++fb))->q∈H5 (G g j)++(fa++(fm++fb)):=by
   intro q hq;simp only[g0Z,g2U,false_or]at hq⊢;rcases hq with x|x|x<;>simp[x]
  have rel1:A2 J F G (S.setE g j (.deep Y t sz' n (rows.set idx (C7 r off us0)))) a w:=by
   have k1:=kl0 (D':=S.D) (ι':=G) (λ_ x=>x) (λ_ _ _=>rfl) hus0l (hus0▸km.bots);refine h.write he rfl ⟨rfl,rfl,rfl⟩ rfl (λ_ _=>rfl) (λ_ => ?_) ?_
   ·exact⟨flat,_,hor,k1.mono (λ_ _ _=>rfl) (λ_ x=>x) (λk x=>W6.2 x) (λ_ _ _=>rfl) (λ_ _=>rfl),by simpa using hrn,hrl' _ hus0l,by simpa using hnd2,λq=>by cases q⟩
   ·intro q hq;exact(EB.deep_iff hor hkl).2 (hmem0 q ((EB.deep_iff hor k1).1 hq))
  have he1:(S.setE g j (.deep Y t sz' n (rows.set idx (C7 r off us0)))).ent g j=U (.deep Y t sz' n (rows.set idx (C7 r off us0))):=by rw[W5 he];simp
  obtain⟨bs,hbsl,hhas,hth⟩:=a80 (grp:=grp) hbl 0;rw[hy]at hbsl hhas hth;obtain⟨ι',hι'⟩:∃ι',ι'=a6Q G grp bs:=⟨_,rfl⟩
  have hne:∀g j,g≠grp->ι' g j=G g j:=λg j q=>by rw[hι'];exact c8H q
  have hlenS:grp<(S.setE g j (.deep Y t sz' n (rows.set idx (C7 r off us0)))).h.length:=by rw[b1x];exact hg
  have hnD:¬(S.setE g j (.deep Y t sz' n (rows.set idx (C7 r off us0)))).D grp:=λq=>hn (W6.1 q)
  have hDg:=a11 (S:=S.setE g j (.deep Y t sz' n (rows.set idx (C7 r off us0)))) (new:=y.2) hlenS;obtain⟨hrc,hlie⟩:=hth ((S.setE g j (.deep Y t sz' n (rows.set idx (C7 r off us0)))).lay grp y.2).D ι' hDg (λq c hq=>by rw[hι',g1U];exact a6D hq) hndm;have hvb:∀(q:Nat) (e:x8),y.2[q]?=U e->bs[q]?=U (ι' grp q):=by
   intro q e hq;have hlt:q<(O bs):=by rw[hbsl];exact(g06.1 hq).1
   have hv:ι' grp q=bs[q]:=by rw[hι'];exact a6D (g0Y hlt)
   rw[hv];exact g0Y hlt
  have hmB:∀k∈fm,EB w (.deep o t sz' n rows) (G g j) k:=λk hk=>(EB.deep_iff hor hkl).2 (by simp[hk])
  have k1:=kl0 (D':=S.D) (ι':=G) (λ_ x=>x) (λ_ _ _=>rfl) hus0l (hus0▸km.bots);have rel2:=rel1.lay hlenS hnD (new:=y.2) (ι':=ι') hne (λq e he=>hlie q e _ he (hvb q e he))
   (λq e k he hl hk=>h.sep _ _ _ k ‹S.ent g j=U (.deep o t sz' n rows)› rfl (hmB k (hhas.mem he (hvb q e he) hk)))
   (λq e q' e' k he he' hl hl' hk hk'=>hhas.inj hndm he (hvb q e he) hk he' (hvb q' e' he') hk')
   (λq e g' j' e' k he0 he' hl hl' hk hk'=>by
    have hkm:=hhas.mem he0 (hvb q e he0) hk;rw[W5 he]at he';split at he'
    ·rename_i qq;obtain⟨rfl,rfl⟩:=qq;injection he' with he';subst he';exact hdm k hkm (by simpa using(EB.deep_iff hor k1).1 hk')
    ·rename_i qq;exact qq (h.inj _ _ _ _ _ _ k he' he hl' rfl hk' (hmB k hkm)))
  have he2:((S.setE g j (.deep Y t sz' n (rows.set idx (C7 r off us0)))).lay grp y.2).ent g j=U (.deep Y t sz' n (rows.set idx (C7 r off us0))):=by rw[a82 hgg];exact he1
  have hyl:(O y.1)=m:=by rw[<-hy,d1C,hml]
  have hor':w.ownsRow 0 t sz' (ι' g j) n flat:=by rw[hne g j hgg];exact hor
  have hDD:∀k,S.D k->((S.setE g j (.deep Y t sz' n (rows.set idx (C7 r off us0)))).lay grp y.2).D k:=λk x=>b97 (W6.2 x)
  have hιD:∀g' j',S.D g'->ι' g' j'=G g' j':=λg' j' x=>hne g' j' λq=>hn (q▸x)
  have k2:=kl0 (D':=((S.setE g j (.deep Y t sz' n (rows.set idx (C7 r off us0)))).lay grp y.2).D) (ι':=ι') hDD hιD hyl (KL.ofRC hrc);have k1':=kl0 (D':=((S.setE g j (.deep Y t sz' n (rows.set idx (C7 r off us0)))).lay grp y.2).D) (ι':=ι') hDD hιD hus0l (hus0▸km.bots.mono (λ_ _ _=>rfl) (λ_ x=>x) hDD hιD (λ_ _=>rfl));have rel3:=rel2.write he2 rfl (e':=.deep Y t sz' n (rows.set idx (C7 r off y.1))) ⟨rfl,rfl,rfl⟩ rfl (λ_ _=>rfl)
   (λ_=>⟨flat,_,hor',k2.mono (λ_ _ _=>rfl) (λ_ x=>x) (λk x=>W6.2 x) (λ_ _ _=>rfl) (λ_ _=>rfl),by simpa using hrn,hrl' _ hyl,by rw[hne g j hgg];simpa using hnd2,λq=>by cases q⟩)
   (λq hq=>(EB.deep_iff hor' k1').2 ((EB.deep_iff hor' k2).1 hq))
  obtain⟨c,hrd',hvc⟩:=a8I hrc hrv;refine⟨_,c,w,F,ι',a7O ho htf (by rw[hc,hk]) hseg hrd',.inl rfl,?_⟩;have hput:=rel3.put ob.dst (hvc.mono (λ_ _ _=>rfl) (λ_ x=>x) (λk x=>W6.2 x) (λ_ _ _=>rfl));rw[<-c83 hgg,e6W]at hput;exact hput
def V.plainO:V->Bool
 | .own .. => Y
 |v=>v.plain
def KL.plainO{w:World}{F D:Nat->Prop}{G:Nat->Nat->Value}:∀{vs:List V} {cs:List Value} {f:List Nat},KL w F D G vs cs f->vs.all V.plainO=Y->B5 (RC w F D G) vs cs
 |_,_,_,.nil,_=>.nil
 |_,_,_,.cons v c f vs cs fs h t,hp=>by
  simp only[List.all_cons,g02]at hp;refine .cons ?_ (KL.plainO t hp.2);have hv:=hp.1;cases h with
  |rc h=>exact h
  |bc _ h=>cases h with
   |fv v c h=>exact .fv _ _ h
   |_=>cases hv
def b6M(cx:Cx)(ty:Nat)(x:V)(r:List V):m7 E0:=
 match cx.T ty with
 |none=>m7.no
 |some ti=>match x with
  | .eptr g j sz idx off=>m7.bind (m7.rd g j) λe=>match e with
   | .deep _ t sz' n rows=>
    let m:=if ti.agg then ti.size else 1
    if sz'=sz/\off+m<=sz/\((r.drop off).take m).all V.plainO then
     match Y0 ti ((r.drop off).take m)with
     |some v=>m7.pure {v:=v,obl:=[rows[idx]?=U r]}
     |none=>m7.no
    else m7.no
   |_=>m7.no
  |_=>m7.no
def e8W(h:A2 J F G S a w){grp:Nat}{ob:Oper}{ty:Nat}{x:Operand}{r:List V}(ho:ob.op=.load ty x){out:E0}{lg:List (Nat×Nat)}(hp:b6M cx ty (z6 S.t x) r S.ent=U (out,lg))(hob:∀p∈out.obl,p):a0n cx.P J G S grp ob out a w:=by
 have hx:=H6 h.tmps x;unfold b6M at hp;cases hti:cx.T ty with
 |none=>rw[hti]at hp;cases hp
 |some ti=>
 rw[hti]at hp;obtain⟨i,d,z,htf⟩:=cx.tf hti;generalize z6 S.t x=xv at hp hx;cases xv<;>try (cases hp;done)
 case eptr g j sz idx off=>
  obtain⟨hD,b,hι,hc⟩:=hx.inv_eptr;obtain⟨e,l1,l2,hrd,hp',hl12⟩:=m7.bind_some hp;clear hp;have he:=(m7.rd_some hrd).1;simp only at he;cases e<;>try (cases hp';done)
  rename_i o t sz' n rows;simp only at hp';obtain⟨m,hm⟩:∃m,(if ti.agg=Y then ti.size else 1)=m:=⟨_,rfl⟩
  rw[hm]at hp';split at hp'<;>try (cases hp';done)
  rename_i hcond;obtain⟨rfl,hc1,hc2⟩:=hcond;cases hrv:Y0 ti ((r.drop off).take m)with
  |none=>rw[hrv]at hp';cases hp'
  |some v=>
  rw[hrv]at hp';have:=m7.pure_some hp';injection this with h2 h3;subst h2;have hr:rows[idx]?=U r:=hob _ (by simp);obtain⟨flat,fs,hor,hkl,hrn,hl,hnd,hnr⟩:=h.ents g j _ he;obtain⟨hseg,hmid,hle⟩:=c5Q hor hrn hl hι hr hc1;obtain⟨fa,fm,fb,rfl,ka,km,kb⟩:=hkl.cut hle;rw[hmid]at km;obtain⟨c,hrd',hvc⟩:=a8I (D:=S.D) (G:=G) (km.plainO hc2) hrv;exact⟨_,c,w,F,G,a7O ho htf hc hseg hrd',.inl rfl,by rw[a7n];exact h.put ob.dst hvc⟩
def b3t(cx:Cx)(grp ty:Nat)(l c:V)(ck om:List (Option Nat)):m7 E0:=
 match cx.T ty with
 |some ti=>match ti.sl with
  |some e=>match cx.T e with
   |some ei=>match l,c with
    | .i _ n,.i _ n'=>m7.bind (a2X ck om ei.zero) λf=>
     if f.ks.isEmpty/\f.ls.isEmpty then
      m7.pure {v:=.own grp 0 ei.size 0 n.toNat,new:=U [.deep W e ei.size n.toNat (g00 n.toNat f.v)],obl:=[0<=n,n'=n,n*ei.bytes<=140737488355328/\0<ei.bytes,(O ei.zero)=ei.size]++f.obl}
     else m7.no
    |_,_=>m7.no
   |none=>m7.no
  |none=>m7.no
 |none=>m7.no
def BL.replicate{w:World}{F D:Nat->Prop}{G:Nat->Nat->Value}{vs:List V}{cs:List Value}(h:KL w F D G vs cs []):∀n,KL w F D G (g00 n vs).flatten (g00 n cs).flatten []
 | 0=>.nil
 |n+1=>by
  rw[g2K,g2K,g1t,g1t];exact h.app (BL.replicate h n)
def e1u(h:A2 J F G S a w){grp:Nat}(hg:grp<(O S.h))(hn:¬S.D grp){ob:Oper}{ty:Nat}{l c:Operand}(ho:ob.op=.makeSlice ty l c){ck om:List (Option Nat)}{out:E0}{lg:List (Nat×Nat)}(hp:b3t cx grp ty (z6 S.t l) (z6 S.t c) ck om S.ent=U (out,lg))(hob:∀p∈out.obl,p):a0n cx.P J G S grp ob out a w:=by
 have hl:=H6 h.tmps l;have hc:=H6 h.tmps c;unfold b3t at hp;cases hti:cx.T ty with
 |none=>rw[hti]at hp;cases hp
 |some ti=>
 rw[hti]at hp;simp only at hp;cases hs:ti.sl with
 |none=>rw[hs]at hp;cases hp
 |some e=>
 rw[hs]at hp;simp only at hp;cases hei:cx.T e with
 |none=>rw[hei]at hp;cases hp
 |some ei=>
 rw[hei]at hp;simp only at hp;generalize z6 S.t l=lv at hp hl;generalize z6 S.t c=cv at hp hc;cases lv<;>try (cases hp;done)
 cases cv<;>try (cases hp;done)
 rename_i k n k' n';simp only at hp;obtain⟨f,l1,l2,hf,hp',_⟩:=m7.bind_some hp;clear hp;split at hp'<;>try (cases hp';done)
 rename_i hcond;have:=m7.pure_some hp';injection this with h3 h4;subst h3;have p1:0<=n:=hob _ (by simp);have p2:n'=n:=hob _ (by simp);have p3:n*ei.bytes<=140737488355328/\0<ei.bytes:=hob _ (by simp);have p4:(O ei.zero)=ei.size:=hob _ (by simp);have p5:∀p∈f.obl,p:=λp hp=>hob p (g0Z.2 (.inr hp))
 subst p2;obtain⟨m,rfl⟩:=Int.eq_ofNat_of_zero_le p1;obtain⟨i,d,z,htf⟩:=cx.tf hti;obtain⟨i',d',z',hef⟩:=cx.tf hei;obtain rfl:=htf.isSl hs;have hzs:z'.cells.size=ei.size:=by rw[<-p4,<-hef.zeros];simp
 have hb1:m*ei.bytes<=140737488355328:=by
  have:=p3.1;rw[<-Int.natCast_mul]at this;omega
 have hb2:m<=140737488355328:=g1C (g2r _ p3.2) hb1;obtain⟨w',hr,hown,hgr⟩:=run_make_full (P:=cx.P) w 0 ty e i' z' ei.size htf.und hef.info hef.zero hef.size k k' m (by rw[hef.bytes,Nat.mul_comm];omega) (by unfold maxLen;omega) (g2D _);have hrun:(execOp a.eval ob).run cx.P w=.ok (.value (.slice (U ⟨w.heap.size,0,Z⟩) m m)) w':=by
  simp[execOp,ho,hl.inv_i,hc.inv_i,hr]
 have hz:B5 (RC w F S.D G) ei.zero z'.cells.toList:=by
  rw[<-hef.zeros];exact(FL.ofCells (w:=w) (F:=F) _ hef.one).all2.imp λ_ _ x=>.fv _ _ x
 obtain⟨fp,hbl,hfps,hh⟩:=b42 (F1:=F) h (λ_ x=>x) hz hf p5 (by rw[List.isEmpty_iff.1 hcond.2];intro id hid;cases hid);have hfp:fp=[]:=by
  rw[List.isEmpty_iff.1 hcond.1]at hfps;cases hfps;rfl
 subst hfp;have hs':M7 w w' F:=a2D λg hg=>hgr.block g (h.F1 g hg) (by simp)
 have hbl':BL w' F f.v z'.cells.toList []:=hbl.mono hs' (λ_ x=>x) (λk hk=>by cases hk);have hrowl:∀r∈g00 m f.v,(O r)=ei.size:=λr hr=>by
  rw[(g1O.1 hr).2,hbl.len];simpa using hzs
 have hkl:∀{D:Nat->Prop} {G:Nat->Nat->Value},KL w' F D G (g00 m f.v).flatten (g00 m z'.cells.toList).flatten []:=BL.replicate hbl'.kl m
 have hown':=hown;rw[<-hzs,c08,hzs]at hown';have hor:RE w' F (S.lay grp [.deep W e ei.size m (g00 m f.v)]).D (R3 G grp (.slice (U ⟨w.heap.size,0,Z⟩) m m)) (.deep W e ei.size m (g00 m f.v)) (.slice (U ⟨w.heap.size,0,Z⟩) m m):=
  ⟨_,[],hown',hkl,by simp,hrowl,by simp[H5,E1],λ_=>M6.of_flat λv hv=>by
   obtain⟨q,hq,hv⟩:=g1H.1 hv;rw[(g1O.1 hq).2]at hv;exact hbl.noRef v hv⟩
 have hrel:=h.new1 hg hn hgr (ent:=.deep W e ei.size m (g00 m f.v)) (c0:=.slice (U ⟨w.heap.size,0,Z⟩) m m) (by
  intro q hq;have:=(EB.deep_iff (D:=λ_=>True) (G:=λ_ _=>.nilFunc) hown' hkl).1 hq;simp[H5,E1]at this;omega) hor
 refine⟨_,_,_,F,R3 G grp (.slice (U ⟨w.heap.size,0,Z⟩) m m),hrun,.inl rfl,?_⟩;exact hrel.put ob.dst (.cell (RC.wholeO (a11 hg) V3 hown'))
end
def a4x:List (List Int×V)->List Int->V->V
 | [],_,z=>z
 |p::es,k,z=>if k==p.1 then p.2 else a4x es k z
def a3e:List (List Int×V)->List Int->V->List (List Int×V)
 | [],k,v=>[(k,v)]
 |p::es,k,v=>if k==p.1 then(p.1,v)::es else p::a3e es k v
def a1O:List (List Int×V)->List Int->Nat->Option (Nat×Value)
 | [],_,_=>Z
 |p::es,k,i=>if k==p.1 then U (i,p.2.conc)else a1O es k (i+1)
def d7j{P:Program}{w:World}{r:Nat}{es:Array MapEntry}{clock:Nat}(o:Obj)(hb:w.heap[r]?=U (.map es clock)):(setObj r o).run P w=.ok () {w with heap:=w.heap.setIfInBounds r o}:=by
 simp[setObj,Sem.run,hb]
def c8J{w:World}{r:Nat}{o o':Obj}(hb:w.heap[r]?=U o):(w.heap.setIfInBounds r o')[r]?=U o'/\∀r',r'≠r->(w.heap.setIfInBounds r o')[r']?=w.heap[r']?:=by
 have hlt:=(Array.getElem?_eq_some_iff.1 hb).1;exact⟨by simp[hlt],λr' q=>by rw[Array.getElem?_setIfInBounds_ne (Ne.symm q)]⟩
def d4j(z:V)(k:List Int):∀(es:List (List Int×V)) (i:Nat),(a4x es k z).conc=match a1O es k i with
  |some (_,v)=>v
  |none=>z.conc
 | [],_=>rfl
 |p::es,i=>by
  unfold a4x a1O;split
  ·rfl
  ·exact d4j z k es (i+1)
def RV.simple{w:World}{F D:Nat->Prop}{G:Nat->Nat->Value}{v:V}{c:Value}(h:RV w F D G v c)(hv:v.simple=Y):c=v.conc:=by
 cases h with
 |one v c h=>
  cases h with
  |cell v c h=>
   cases h with
   |fv v c h=>cases h<;>first|rfl|(cases hv;done)
   |_=>cases hv
  |agg cs ds h=>cases hv
 |tup cs ds h=>cases hv
 |any c=>cases hv
section
variable {P:Program} {kt m:Nat} {w:World}
def c4D(hE:∀(xs ys:List Int) (w:World),(O xs)=m->(O ys)=m->(Op.equal kt (kv xs) (kv ys)).run P w=.ok (xs==ys) w){k:List Int}(hk:(O k)=m):∀(es:List (List Int×V)) (l:List MapEntry) (i:Nat),l.map (λe=>(e.key,e.val))=es.map (λp=>(kv p.1,p.2.conc))->(∀p∈es,(O p.1)=m)->(Instr.findAsking kt (kv k) l i).run P w=.ok (a1O es k i) w
 | [],[],i,_,_=>by simp[Instr.findAsking,a1O]
 | [],_::_,_,h,_=>by cases h
 |_::_,[],_,h,_=>by cases h
 |p::es,e::l,i,h,hl=>by
  simp only[g1v,List.cons.injEq,Prod.mk.injEq]at h;obtain⟨⟨h1,h2⟩,h3⟩:=h;unfold Instr.findAsking;rw[h1];simp only[Sem.run_bind,hE k p.1 w hk (hl p (by simp)),Result.andThen_ok];unfold a1O;by_cases q:(k==p.1)=Y
  ·rw[if_pos q,if_pos q,h2];rfl
  ·rw[if_neg q,if_neg q];exact c4D hE hk es l (i+1) h3 λp hp=>hl p (by simp[hp])
def g0f:∀(n:Nat) (xs:List Int),Instr.sameBits (n+2) (kv xs) (kv xs)=Y:=by
 intro n xs;unfold kv Instr.sameBits;simp only[g2P,beq_self_eq_true,g1h];induction xs with
 |nil=>rfl
 |cons x xs ih=>
  simp only[g1v,List.zip_cons_cons,List.all_cons,g02];exact⟨by simp[Instr.sameBits],by simpa using ih⟩
def d0R{k:List Int}{j:Nat}{v:Value}:∀{es:List (List Int×V)} {i:Nat},a1O es k i=U (j,v)->i<=j
 | [],_,h=>by cases h
 |p::es,i,h=>by
  unfold a1O at h;split at h
  ·injection h with h;injection h with h;omega
  ·have:=d0R h;omega
def d9C{k:List Int}{x:V}{v:Value}:∀{es:List (List Int×V)} {l:List MapEntry} {i j:Nat},l.map (λe=>(e.key,e.val))=es.map (λp=>(kv p.1,p.2.conc))->a1O es k i=U (j,v)->
  (∃e,l[j-i]?=U e/\e.key=kv k)/\((l.modify (j-i) λe=>{e with key:=kv k,val:=x.conc}).map (λe=>(e.key,e.val))=(a3e es k x).map (λp=>(kv p.1,p.2.conc)))
 | [],_,_,_,_,h=>by cases h
 |_::_,[],_,_,h,_=>by cases h
 |p::es,e::l,i,j,h,hf=>by
  simp only[g1v,List.cons.injEq,Prod.mk.injEq]at h;obtain⟨⟨h1,h2⟩,h3⟩:=h;unfold a1O at hf;unfold a3e;split at hf
  ·rename_i q;injection hf with hf;injection hf with hf1 hf2;subst hf1;have:k=p.1:=by simpa using q
   rw[Nat.sub_self,if_pos q];exact⟨⟨e,rfl,by rw[h1,this]⟩,by simp[List.modify_cons,h3,this]⟩
  ·rename_i q;rw[if_neg q];have hge:=d0R hf;obtain⟨⟨e',h4,h5⟩,h6⟩:=d9C (x:=x) h3 hf;obtain⟨d,hd⟩:∃d,j-i=d+1:=⟨j-i-1,by omega⟩
   have hd':j-(i+1)=d:=by omega
   rw[hd']at h4 h6;rw[hd];refine⟨⟨e',by simpa using h4,h5⟩,?_⟩;rw[List.modify_succ_cons];simp only[g1v,h1,h2,h6]
def c9M{k:List Int}{x:V}:∀{es:List (List Int×V)} {i:Nat},a1O es k i=Z->a3e es k x=es++[(k,x)]
 | [],_,_=>rfl
 |p::es,i,h=>by
  unfold a1O at h;unfold a3e;split at h
  ·cases h
  ·rename_i q;rw[if_neg q,c9M h];rfl
def d2p{k:List Int}{x:V}{p:List Int×V->Prop}:∀{es:List (List Int×V)},(∀q∈es,p q)->(∀q∈es,p (q.1,x))->p (k,x)->∀q∈a3e es k x,p q
 | [],_,_,h3,q,hq=>by
  simp only[a3e,g03]at hq;subst hq;exact h3
 |e::es,h1,h2,h3,q,hq=>by
  unfold a3e at hq;split at hq
  ·rcases g1a.1 hq with rfl|hq
   ·exact h2 e (by simp)
   ·exact h1 q (by simp[hq])
  ·rcases g1a.1 hq with rfl|hq
   ·exact h1 _ (by simp)
   ·exact d2p (λq hq=>h1 q (by simp[hq])) (λq hq=>h2 q (by simp[hq])) h3 q hq
end
theorem f9P{P:Program}{w:World}{em:Bool}{n kt:Nat}{fs:Array Field}{xs:Array Value}(hu:P.underlying kt=some (.struct fs))(h:∀f∈fs.toList,∃a,(part f.type xs f.offset).run P w=.ok a w/\(Instr.checkKey em n f.type a).run P w=.ok () w):(Instr.checkKey em (n+1) kt (.agg xs)).run P w=.ok () w:=by
 rw [Instr.checkKey];simp only [Sem.run_bind,run_underlying hu,Result.andThen_ok];rw [<-Array.forIn_toList];generalize fs.toList=l at h;induction l with
 | nil=>rfl
 | cons f l ih=>
  obtain ⟨a,h1,h2⟩:=h f (by simp);have ih':=ih fun f hf=>h f (by simp [hf])
  simp only [List.forIn_cons,Sem.run_bind];by_cases q:f.name = "_"
  ·simp [q];simpa using ih'
  ·simp [q,Sem.run_bind,h1,h2];simpa using ih'
def d9J{P:Program}{w:World}{em:Bool}{n t:Nat}{k j:IntKind}{x:Int}(hu:P.underlying t=U (.int k)):(Instr.checkKey em (n+1) t (.int j x)).run P w=.ok () w:=by
 rw[Instr.checkKey];simp[Sem.run_bind,run_underlying hu]
end
end Go.Proofs.YtffneplcebhckaaGreat
