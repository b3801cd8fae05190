/- What the law leans on, part 1. -/
import Derived.Deep.Draws
import Derived.KernelRfl
import Derived.Laws.MakeOwn
import Derived.Maps.AppendAt
import Derived.Orders
import Derived.ProofKit
import Derived.WalkKit
set_option linter.unusedVariables false
set_option linter.unusedSimpArgs false
set_option linter.unnecessarySimpa false
namespace Go.Proofs.YtpkapdcfblhkoaaGreat
open Go
open List renaming getElem?_eq_getElem->e9N,replicate->e9O,mem_append->e9P,getElem_mem->e9Q,getElem?_eq_some_iff->e9T,mem_cons->e9V,all_eq_true->e9W,nodup_append->e9X,mem_singleton->e9Z,eq_nil_of_length_eq_zero->e90,length_append->e91,append_assoc->e92,mem_of_getElem?->e93,drop_eq_nil_of_le->e94,getElem?_append_right->e96,drop_eq_getElem_cons->e98,mem_or_eq_of_mem_set->e99,getElem?_set_ne->f0a,flatten_cons->f0d,length_take->f0e,getElem?_append_left->f0f,getD_eq_getElem?_getD->f0g,getElem?_eq_none->f0i,map_cons->f0j,take_of_length_le->f0k,mem_map->f0l,take_length->f0o,mem_replicate->f0r,take_append_drop->f0s,mem_of_mem_take->f0v,append_nil->f0w,getElem?_map->f0x,length_set->f0z,mem_of_mem_drop->f0B,length_cons->f0D,mem_flatten->f0E,drop_zero->f0G,nil_append->f0H,take_append_of_le_length->f0N,nodup_cons->f0Q,length_map->f0X,getElem?_cons_succ->f0Y,sublist_append_right->f03,getElem?_of_mem->f04,Perm->f08,drop_drop->f09,any_eq_true->f1a,take_succ_cons->f1b,replicate_succ->f1c,getElem?_take->f1e,foldl_cons->f1f,map_append->f1g,drop_append_of_le_length->f1h,size_toArray->f1i,toArray->f1l,map_map->f1m,Sublist->f1n,cons_append->f1q,flatten_append->f1v,map_set->f1z
open Bool renaming and_eq_true->e9R,false_eq_true->f0O
open Nat renaming mul_le_mul_right->f0b,le_trans->f0c,le_refl->f0q,zero_add->f0y,succ_mul->f0A,lt_of_lt_of_le->f0V,le_mul_of_pos_right->f0Z,add_zero->f01,zero_le->f07,sub_zero->f1y
open Option renaming map_some->f0K,getD_some->f0U,map_eq_some_iff->f00
noncomputable section
theorem f1C{α:Sort _}(a b:α):cond true a b=a:=rfl
theorem f1D{α:Sort _}(a b:α):cond false a b=b:=rfl
inductive V where
 | bot
 | b (x:Bool)
 | i (k:IntKind) (n:Int)
 | s (x:ByteArray)
 | fn (f:FuncId)
 | nil
 | agg (cs:List V)
 | tup (cs:List V)
 | sl (sz n:Nat) (rows:List (List V))
 | osl (e sz n:Nat) (rows:List (List V))
 | dsl (e sz n:Nat) (rows:List (List V))
 | own (g j sz lo n:Nat)
 | ptr (g j off:Nat)
 | eptr (g j sz idx off:Nat)
 | fptr (cs:List V)
 | optr (e:Nat) (cs:List V)
 | mp (g j:Nat)
 | raw (c:Value)
 | hole
instance:Inhabited V:=⟨.bot⟩
def V.cells:V->Option (List V)
 | .agg cs=>some cs
 | .tup _=>none
 | .bot=>none
 | v=>some [v]
def M8(w:World)(g o:Nat)(ds:List Value):Prop := ∀j u,ds[j]?=some u->w.cell? ⟨g,o+j,none⟩=some u
theorem M8.drop{w:World}{g o:Nat}{ds:List Value}(h:M8 w g o ds)(k:Nat):M8 w g (o+k) (ds.drop k):=by
 intro j u hu;rw [List.getElem?_drop] at hu;have:=h _ _ hu;rwa [<-Nat.add_assoc] at this
theorem M8.take{w:World}{g o:Nat}{ds:List Value}(h:M8 w g o ds)(k:Nat):M8 w g o (ds.take k):=by
 intro j u hu;rw [f1e] at hu;split at hu
 ·exact h _ _ hu
 ·cases hu
mutual
inductive FV (w:World) (F:Nat->Prop):V->Value->Prop
 | bot (c) (h:c.oneCell'=true):FV w F .bot c
 | b (x):FV w F (.b x) (.bool x)
 | i (k n):FV w F (.i k n) (.int k n)
 | s (x):FV w F (.s x) (.string x)
 | fn (f):FV w F (.fn f) (.func (.func f) #[] #[])
 | nil:FV w F .nil (.slice none 0 0)
 | raw (c) (h:c.oneCell'=true):FV w F (.raw c) c
 | sl0 (sz a cap):FV w F (.sl sz 0 []) (.slice a 0 cap)
 | sl (sz n rows g o cap ds) (hF:F g) (hr:FL w F rows.flatten ds) (hn:rows.length=n) (hs:∀r∈rows,r.length=sz) (hc:n<=cap) (hseg:M8 w g o ds) :
   FV w F (.sl sz n rows) (.slice (some ⟨g,o,none⟩) n cap)
inductive FL (w:World) (F:Nat->Prop):List V->List Value->Prop
 | nil:FL w F [] []
 | cons (v c vs cs) (h:FV w F v c) (t:FL w F vs cs):FL w F (v::vs) (c::cs)
end
def G8(w w':World)(F:Nat->Prop):Prop := ∀g o,F g->w'.cell? ⟨g,o,none⟩=w.cell? ⟨g,o,none⟩
theorem M8.same{w w':World}{F:Nat->Prop}(h:G8 w w' F){g o:Nat}(hF:F g){ds:List Value}(hs:M8 w g o ds):M8 w' g o ds:=
 fun j u hu=>(h g (o+j) hF).trans (hs j u hu)
mutual
theorem FV.mono {w w':World} {F F':Nat->Prop} (hs:G8 w w' F) (hF:∀g,F g->F' g):∀{v c},FV w F v c->FV w' F' v c
 | _,_,.bot c h=>.bot c h
 | _,_,.b x=>.b x
 | _,_,.i k n=>.i k n
 | _,_,.s x=>.s x
 | _,_,.fn f=>.fn f
 | _,_,.nil=>.nil
 | _,_,.raw c h=>.raw c h
 | _,_,.sl0 sz a cap=>.sl0 sz a cap
 | _,_,.sl sz n rows g o cap ds h1 h2 h3 h4 h5 h6=>.sl sz n rows g o cap ds (hF g h1) (FL.mono hs hF h2) h3 h4 h5 (h6.same hs h1)
theorem FL.mono {w w':World} {F F':Nat->Prop} (hs:G8 w w' F) (hF:∀g,F g->F' g):∀{v c},FL w F v c->FL w' F' v c
 | _,_,.nil=>.nil
 | _,_,.cons v c vs cs h t=>.cons v c vs cs (FV.mono hs hF h) (FL.mono hs hF t)
end
def B5:Value->Option Nat
 | .pointer (some a)=>some a.block
 | .slice (some a) _ _=>some a.block
 | .map (some b)=>some b
 | _=>none
inductive RC (w:World) (F:Nat->Prop) (D:Nat->Prop) (ι:Nat->Nat->Value):V->Value->Prop
 | fv (v c) (h:FV w F v c):RC w F D ι v c
 | own (g j sz lo n b nn cap) (hD:D g) (hι:ι g j=.slice b nn cap) (hlo:lo+n<=cap) (hb0:b=none->cap=0) (hb1:∀ad,b=some ad->ad=⟨ad.block,0,none⟩):RC w F D ι (.own g j sz lo n) (.slice (if cap=lo then b else b.map (·.add (lo*sz))) n (cap-lo))
 | own0 (g j sz lo b cap) (hD:D g) (hlo:0<lo):RC w F D ι (.own g j sz lo 0) (.slice b 0 cap)
 | ptr (g j off B5) (hD:D g) (hι:ι g j=.pointer (some ⟨B5,0,none⟩)):RC w F D ι (.ptr g j off) (.pointer (some ⟨B5,off,none⟩))
 | eptr (g j sz idx off b) (hD:D g) (hι:B5 (ι g j)=some b):RC w F D ι (.eptr g j sz idx off) (.pointer (some ⟨b,idx*sz+off,none⟩))
 | fptr (cs g o ds) (hF:F g) (h:FL w F cs ds) (hs:M8 w g o ds):RC w F D ι (.fptr cs) (.pointer (some ⟨g,o,none⟩))
 | mp (g j B5) (hD:D g) (hι:ι g j=.map (some B5)):RC w F D ι (.mp g j) (.map (some B5))
theorem RC.mono{w w':World}{F F':Nat->Prop}{D D':Nat->Prop}{ι ι':Nat->Nat->Value}(hs:G8 w w' F)(hF:∀g,F g->F' g)(hD:∀g,D g->D' g)(hι:∀g j,D g->ι' g j=ι g j){v c}(h:RC w F D ι v c):RC w' F' D' ι' v c:=by
 cases h with
 | fv v c h=>exact .fv _ _ (h.mono hs hF)
 | own g j sz lo n b nn cap hg h1 h2 h3 h4=>exact .own g j sz lo n b nn cap (hD _ hg) (by rw [hι _ _ hg];exact h1) h2 h3 h4
 | own0 g j sz lo b cap hg h1=>exact .own0 g j sz lo b cap (hD _ hg) h1
 | ptr g j off B5 hg h1=>exact .ptr g j off B5 (hD _ hg) (by rw [hι _ _ hg];exact h1)
 | eptr g j sz idx off b hg h1=>exact .eptr g j sz idx off b (hD _ hg) (by rw [hι _ _ hg];exact h1)
 | fptr cs g o ds h1 h2 h3=>exact .fptr cs g o ds (hF _ h1) (h2.mono hs hF) (h3.same hs h1)
 | mp g j B5 hg h1=>exact .mp g j B5 (hD _ hg) (by rw [hι _ _ hg];exact h1)
inductive v6 {α β:Type} (R:α->β->Prop):List α->List β->Prop
 | nil:v6 R [] []
 | cons {a b B4 bs} (h:R a b) (t:v6 R B4 bs):v6 R (a::B4) (b::bs)
namespace v6
variable {α β:Type} {R R':α->β->Prop}
theorem imp(h:∀a b,R a b->R' a b):∀{B4 bs},v6 R B4 bs->v6 R' B4 bs
 | _,_,.nil=>.nil
 | _,_,.cons x t=>.cons (h _ _ x) (t.imp h)
theorem length:∀{B4 bs},v6 R B4 bs->B4.length=bs.length
 | _,_,.nil=>rfl
 | _,_,.cons _ t=>by simp [t.length]
theorem get:∀{B4 bs},v6 R B4 bs->∀{n:Nat} {a:α},B4[n]?=some a->∃b,bs[n]?=some b/\R a b
 | _,_,.nil,n,a,h=>by simp at h
 | _,_,.cons (a:=x) (b:=y) hx t,0,a,h=>by simp at h;subst h;exact ⟨y,by simp,hx⟩
 | _,_,.cons _ t,n+1,a,h=>by simp at h;simpa using t.get h
theorem set:∀{B4 bs},v6 R B4 bs->∀(n:Nat) {a:α} {b:β},R a b->v6 R (B4.set n a) (bs.set n b)
 | _,_,.nil,n,a,b,h=>by simpa using .nil
 | _,_,.cons hx t,0,a,b,h=>.cons h t
 | _,_,.cons hx t,n+1,a,b,h=>.cons hx (t.set n h)
theorem append:∀{B4 bs cs ds},v6 R B4 bs->v6 R cs ds->v6 R (B4++cs) (bs++ds)
 | _,_,_,_,.nil,k=>k
 | _,_,_,_,.cons hx t,k=>.cons hx (t.append k)
theorem drop:∀{B4 bs},v6 R B4 bs->∀n,v6 R (B4.drop n) (bs.drop n)
 | _,_,h,0=>h
 | _,_,.nil,n+1=>.nil
 | _,_,.cons _ t,n+1=>t.drop n
theorem take:∀{B4 bs},v6 R B4 bs->∀n,v6 R (B4.take n) (bs.take n)
 | _,_,h,0=>.nil
 | _,_,.nil,n+1=>.nil
 | _,_,.cons hx t,n+1=>.cons hx (t.take n)
theorem split:∀{B4 bs cs},v6 R (B4++bs) cs->∃x y,cs=x++y/\v6 R B4 x/\v6 R bs y
 | [],bs,cs,h=>⟨[],cs,rfl,.nil,h⟩
 | a::B4,bs,_,.cons hx t=>by
  obtain ⟨x,y,rfl,h1,h2⟩:=split (B4:=B4) t;exact ⟨_::x,y,rfl,.cons hx h1,h2⟩
theorem replicate{a:α}{b:β}(h:R a b):∀n,v6 R (e9O n a) (e9O n b)
 | 0=>.nil
 | n+1=>.cons h (replicate h n)
end v6
theorem FL.all2{w:World}{F:Nat->Prop}:∀{vs cs},FL w F vs cs->v6 (FV w F) vs cs
 | _,_,.nil=>.nil
 | _,_,.cons _ _ _ _ h t=>.cons h t.all2
theorem FL.of{w:World}{F:Nat->Prop}:∀{vs cs},v6 (FV w F) vs cs->FL w F vs cs
 | _,_,.nil=>.nil
 | _,_,.cons h t=>.cons _ _ _ _ h (FL.of t)
inductive RA (w:World) (F:Nat->Prop) (D:Nat->Prop) (ι:Nat->Nat->Value):V->Value->Prop
 | cell (v c) (h:RC w F D ι v c):RA w F D ι v c
 | agg (cs ds) (h:v6 (RC w F D ι) cs ds):RA w F D ι (.agg cs) (.agg ds.toArray)
inductive RV (w:World) (F:Nat->Prop) (D:Nat->Prop) (ι:Nat->Nat->Value):V->Value->Prop
 | one (v c) (h:RA w F D ι v c):RV w F D ι v c
 | tup (cs ds) (h:v6 (RA w F D ι) cs ds):RV w F D ι (.tup cs) (.tuple ds.toArray)
 | any (c):RV w F D ι .bot c
theorem RA.mono{w w':World}{F F':Nat->Prop}{D D':Nat->Prop}{ι ι':Nat->Nat->Value}(hs:G8 w w' F)(hF:∀g,F g->F' g)(hD:∀g,D g->D' g)(hι:∀g j,D g->ι' g j=ι g j){v c}(h:RA w F D ι v c):RA w' F' D' ι' v c:=by
 cases h with
 | cell v c h=>exact .cell _ _ (h.mono hs hF hD hι)
 | agg cs ds h=>exact .agg _ _ (h.imp fun _ _ h=>h.mono hs hF hD hι)
theorem RV.mono{w w':World}{F F':Nat->Prop}{D D':Nat->Prop}{ι ι':Nat->Nat->Value}(hs:G8 w w' F)(hF:∀g,F g->F' g)(hD:∀g,D g->D' g)(hι:∀g j,D g->ι' g j=ι g j){v c}(h:RV w F D ι v c):RV w' F' D' ι' v c:=by
 cases h with
 | one v c h=>exact .one _ _ (h.mono hs hF hD hι)
 | tup cs ds h=>exact .tup _ _ (h.imp fun _ _ h=>h.mono hs hF hD hι)
 | any c=>exact .any c
def OR(w:World)(F:Nat->Prop)(e sz:Nat)(sv:Value)(n:Nat)(rows:List (List V)):Prop:=
 ∃flat,w.ownsRow 0 e sz sv n flat/\FL w F rows.flatten flat/\rows.length=n/\∀r∈rows,r.length=sz
def D4(c:Value):List Nat:=match B5 c with|some k=>[k]|none=>[]
mutual
inductive BC (w:World) (F:Nat->Prop):V->Value->List Nat->Prop
 | fv (v c) (h:FV w F v c):BC w F v c []
 | osl (e sz n rows c) (h:OR w F e sz c n rows):BC w F (.osl e sz n rows) c (D4 c)
 | dsl (e sz n rows c flat fs) (ho:w.ownsRow 0 e sz c n flat) (hr:BL w F rows.flatten flat fs) (hn:rows.length=n) (hl:∀r∈rows,r.length=sz):BC w F (.dsl e sz n rows) c (D4 c++fs)
inductive BL (w:World) (F:Nat->Prop):List V->List Value->List Nat->Prop
 | nil:BL w F [] [] []
 | cons (v c f vs cs fs) (h:BC w F v c f) (t:BL w F vs cs fs):BL w F (v::vs) (c::cs) (f++fs)
end
inductive KC (w:World) (F:Nat->Prop) (D:Nat->Prop) (ι:Nat->Nat->Value):V->Value->List Nat->Prop
 | rc (v c) (h:RC w F D ι v c):KC w F D ι v c []
 | bc (v c f) (h:BC w F v c f):KC w F D ι v c f
inductive KL (w:World) (F:Nat->Prop) (D:Nat->Prop) (ι:Nat->Nat->Value):List V->List Value->List Nat->Prop
 | nil:KL w F D ι [] [] []
 | cons (v c f vs cs fs) (h:KC w F D ι v c f) (t:KL w F D ι vs cs fs):KL w F D ι (v::vs) (c::cs) (f++fs)
def V.isRef:V->Bool
 | .own .. | .ptr .. | .eptr .. | .fptr _ | .mp .. => true
 | _=>false
def F3(rows:List (List V)):Prop := ∀r∈rows,∀v∈r,v.isRef=false
inductive s4 where
 | dead
 | var (e:Nat) (cs:List V)
 | arr (e sz n:Nat) (rows:List (List V))
 | row (e sz n:Nat) (rows:List (List V))
 | frz (sz n:Nat) (rows:List (List V))
 | deep (o:Bool) (e sz n:Nat) (rows:List (List V))
 | map (t m:Nat) (es:List (List Int×V))
instance:Inhabited s4:=⟨.dead⟩
def s4.live:s4->Bool
 | .var .. | .arr .. | .row .. | .deep .. | .map .. => true
 | _=>false
def V.conc:V->Value
 | .b x=>.bool x
 | .i k n=>.int k n
 | .s x=>.string x
 | .fn f=>.func (.func f) #[] #[]
 | .nil=>.slice none 0 0
 | _=>.nilFunc
def V.simple:V->Bool
 | .b _ | .i _ _ | .s _ | .fn _ | .nil=>true
 | _=>false
def kv(xs:List Int):Value:=.agg (xs.map (Value.int .i64)).toArray
def RE(w:World)(F:Nat->Prop)(D:Nat->Prop)(ι:Nat->Nat->Value):s4->Value->Prop
 | .dead,_=>True
 | .var e cs,c => ∃g cur,c=.pointer (some ⟨g,0,none⟩)/\w.heap[g]?=some (.cells cur e (0,0))/\v6 (RC w F D ι) cs cur.toList
 | .arr e sz n rows,c => ∃g cur,c=.pointer (some ⟨g,0,none⟩)/\w.heap[g]?=some (.cells cur e (0,0))/\FL w F rows.flatten cur.toList/\rows.length=n/\∀r∈rows,r.length=sz
 | .row e sz n rows,c=>OR w F e sz c n rows
 | .frz sz n rows,c=>FV w F (.sl sz n rows) c
 | .deep o e sz n rows,c => ∃flat fs,w.ownsRow 0 e sz c n flat/\KL w F D ι rows.flatten flat fs/\rows.length=n/\(∀r∈rows,r.length=sz)/\(D4 c++fs).Nodup/\(o=false->F3 rows)
 | .map t m es,c => ∃g arr clock,c=.map (some g)/\w.heap[g]?=some (.map arr clock)/\arr.toList.map (fun e=>(e.key,e.val))=es.map (fun p=>(kv p.1,p.2.conc))/\∀p∈es,p.1.length=m/\p.2.simple=true
def EB(w:World):s4->Value->Nat->Prop
 | .deep _ e sz n rows,c,k=>B5 c=some k\/∃ (F D:Nat->Prop) (ι:Nat->Nat->Value) (flat:List Value) (fs:List Nat),w.ownsRow 0 e sz c n flat/\KL w F D ι rows.flatten flat fs/\k∈fs
 | _,c,k=>B5 c=some k
structure St where
 t:List V
 h:List (Option (List s4))
def St.ent(S:St)(g j:Nat):Option s4:=
 match S.h[g]? with
 | some (some l)=>l[j]?
 | _=>none
def St.D(S:St)(g:Nat):Prop := ∃l,S.h[g]?=some (some l)
theorem St.D_of_ent{S:St}{g j:Nat}{e:s4}(h:S.ent g j=some e):S.D g:=by
 unfold St.ent at h;split at h
 ·exact ⟨_,by assumption⟩
 ·cases h
structure N0 where
 w0:World
 F0:Nat->Prop
 own:Nat->Prop
 pins:List Value:=[]
structure a3w(own:Nat->Prop)(w w':World):Prop where
 os:w'.os=w.os
 tape:w'.tape=w.tape
 output:w'.output=w.output
 size:w.heap.size<=w'.heap.size
 block:∀k,k<w.heap.size->¬own k->w'.heap[k]?=w.heap[k]?
theorem a3w.refl(own:Nat->Prop)(w:World):a3w own w w:=⟨rfl,rfl,rfl,f0q _,fun _ _ _=>rfl⟩
theorem a3w.trans{own d1S:Nat->Prop}{w w1 w2:World}(h:a3w own w w1)(k:a3w d1S w1 w2)(ho:∀g,d1S g->g<w.heap.size->own g):a3w own w w2:=
  ⟨k.os.trans h.os,k.tape.trans h.tape,k.output.trans h.output,f0c h.size k.size,
   fun i hi hn=>(k.block i (f0V hi h.size) (fun q=>hn (ho i q hi))).trans (h.block i hi hn)⟩
structure t7(Γ:N0)(F:Nat->Prop)(ι:Nat->Nat->Value)(S:St)(a:Act)(w:World):Prop where
 F0:∀g,Γ.F0 g->F g
 F1:∀g,F g->g<w.heap.size
 F2:∀g,F g->Γ.F0 g\/Γ.own g\/Γ.w0.heap.size<=g
 kept:a3w Γ.own Γ.w0 w
 tmps:v6 (RV w F S.D ι) S.t a.tmps.toList
 ents:∀g j e,S.ent g j=some e->RE w F S.D ι e (ι g j)
 sep:∀g j e k,S.ent g j=some e->e.live=true->EB w e (ι g j) k->¬F k/\(Γ.own k\/Γ.w0.heap.size<=k)
 inj:∀g j e g' j' e' k,S.ent g j=some e->S.ent g' j'=some e'->e.live=true->e'.live=true->EB w e (ι g j) k->EB w e' (ι g' j') k->g=g'/\j=j'
 defers:a.defers=[]
 pins:∀(j:Nat) (c:Value),Γ.pins[j]?=some c->S.D 0/\ι 0 j=c
structure TI where
 size:Nat
 bytes:Nat
 agg:Bool
 zero:List V
 sl:Option Nat
 arr:Option (Nat×Nat)
 ik:Option IntKind
 fs:Option (List (Nat×Nat))
 str:Bool
 ptr:Option Nat
 bl:Bool
theorem FV.conc{w:World}{F:Nat->Prop}{v:V}(h:v.simple=true):FV w F v v.conc:=by
 cases v<;>first|(simp [V.simple] at h;done)|constructor
def V.ofCell:Value->V
 | .bool x=>.b x
 | .int k n=>.i k n
 | .string x=>.s x
 | .slice a n cap=>match a,n,cap with
  | .none,0,0=>.nil
  | _,_,_=>.bot
 | .func g x y=>match g,x.toList,y.toList with
  | .func f,[],[]=>.fn f
  | _,_,_=>.bot
 | _=>.bot
theorem FV.ofCell{w:World}{F:Nat->Prop}(c:Value)(h1:c.oneCell'=true):FV w F (V.ofCell c) c:=by
 cases c with
 | bool x=>exact .b x
 | int k n=>exact .i k n
 | string x=>exact .s x
 | slice a n cap=>cases a<;>cases n<;>cases cap<;>simp only [V.ofCell]<;>first|exact .nil|exact .bot _ h1
 | func g x y=>
  simp only [V.ofCell];split
  ·rename_i f q1 q2;have hx:x = #[]:=by simpa using q1
   have hy:y = #[]:=by simpa using q2
   subst hx;subst hy;exact .fn f
  ·exact .bot _ h1
 | _=>exact .bot _ h1
theorem FL.ofCells{w:World}{F:Nat->Prop}:∀cs:List Value,(∀c∈cs,c.oneCell'=true)->FL w F (cs.map V.ofCell) cs
 | [],_=>.nil
 | c::cs,h=>.cons _ _ _ _ (.ofCell c (h c (by simp))) (FL.ofCells cs fun d hd=>h d (by simp [hd]))
def a46:TypeDesc->Bool
 | .struct _ | .array _ _=>true
 | _=>false
def dSl:TypeDesc->Option Nat
 | .slice e=>some e
 | _=>none
def a5H:TypeDesc->Option (Nat×Nat)
 | .array n e=>some (n,e)
 | _=>none
def a4Y:TypeDesc->Option IntKind
 | .int k=>some k
 | _=>none
def dFs:TypeDesc->Option (List (Nat×Nat))
 | .struct fs=>some (fs.toList.map fun f=>(f.offset,f.type))
 | _=>none
def a5k:TypeDesc->Bool
 | .string=>true
 | _=>false
def dBl:TypeDesc->Bool
 | .bool=>true
 | _=>false
def c90:TypeDesc->Option Nat
 | .pointer e=>some e
 | _=>none
def F5(P:Program)(t:Nat):Option TI:=
 match P.info? t,P.underlying t with
 | some i,some d=>
  match i.zero with
  | some z=>
   if z.cells.all (·.oneCell') then some {size:=i.size,bytes:=i.bytes,zero:=z.cells.toList.map V.ofCell,agg:=a46 d,sl:=dSl d,arr:=a5H d,ik:=a4Y d,fs:=dFs d,str:=a5k d,ptr:=c90 d,bl:=dBl d} else none
  | none=>none
 | _,_=>none
def c1P:Option TypeDesc->Bool
 | some (.array _ _)|some (.struct _)=>true
 | _=>false
structure Cx where
 P:Program
 mixed:P.follows .mixedOrders=true
 T:Nat->Option TI
 hT:∀t ti,T t=some ti->F5 P t=some ti
 E:Nat->Option Nat
 hE:∀t m,E t=some m->∀(xs ys:List Int) (w:World),xs.length=m->ys.length=m->
  (Op.equal t (.agg (xs.map (Value.int .i64)).toArray) (.agg (ys.map (Value.int .i64)).toArray)).run P w=.ok (xs==ys) w
 hG:∀t m,E t=some m->P.eqGuardType P.depth t=false
 M:Nat->Option (Nat×Nat×V)
 hM:∀t kt m z,M t=some (kt,m,z)->∃vt,P.underlying t=some (.map kt vt)/\E kt=some m/\c1P (P.underlying kt)=true/\
  (∀w,(zeroValue vt).run P w=.ok z.conc w)/\z.simple=true/\∀(em:Bool) (xs:List Int) (w:World),xs.length=m->(Instr.checkKey em 10000 kt (kv xs)).run P w=.ok () w
abbrev Hp:=Nat->Nat->Option s4
def j6(α:Type):=Hp->Option (α×List (Nat×Nat))
namespace j6
def pure{α:Type}(a:α):j6 α:=fun _=>some (a,[])
def bind{α β:Type}(m:j6 α)(f:α->j6 β):j6 β:=fun H=>
 match m H with
 | some (a,l)=>match f a H with
  | some (b,l')=>some (b,l++l')
  | none=>none
 | none=>none
instance:Monad j6 where
 pure:=j6.pure
 bind:=j6.bind
def rd(g j:Nat):j6 s4:=fun H=>match H g j with
 | some e=>some (e,[(g,j)])
 | none=>none
def lift{α:Type}(o:Option α):j6 α:=fun _=>match o with
 | some a=>some (a,[])
 | none=>none
def no{α:Type}:j6 α:=fun _=>none
end j6
inductive PM where
 | val (ck om:List (Option Nat))
 | ptr (ck om:List (Option Nat))
 | row
 | part
inductive N2 where
 | none
 | row (cs:List V)
 | val (v:V)
 | call (ms:List PM) (fr:Bool) (res:V) (outs:List (Option V))
 | dec (d:Bool)
 | ck (ck:List (Option Nat))
 | rowck (cs:List V) (ck:List (Option Nat))
 | drow (cs:List V)
 | dst (cs:List V) (ck om:List (Option Nat))
 | dck (ck om:List (Option Nat))
 | prow (cs:List V)
 | dtak (cs:List V)
 | dsc (cs:List V) (ck om:List (Option Nat))
 | part
 | callr (k q:Nat) (ms:List PM) (fr:Bool) (res:V) (outs:List (Option V))
structure B6 where
 v:V
 new:Option (List s4):=none
 upd:List ((Nat×Nat)×s4):=[]
 obl:List Prop:=[]
def c3a:Value->V
 | .agg cs=>if cs.all (·.oneCell') then .agg (cs.toList.map V.ofCell) else .bot
 | v=>if v.oneCell' then V.ofCell v else .bot
def t0(t:List V):Operand->V
 | .tmp k=>t.getD k .bot
 | .const v=>c3a v
 | .func f=>.fn f
 | .global _=>.bot
def A5{α:Type}(cs:List α)(off:Nat)(vs:List α):List α:=cs.take off++vs++cs.drop (off+vs.length)
def a9b(a4n:Nat->Option (Nat×Nat))(a0Q:List V):List (Nat×V)->Option (List V)
 | []=>some a0Q
 | (i,v)::rest=>
  match a4n i with
  | none=>none
  | some (off,size)=>
   match v.cells with
   | some cs=>if cs.length=size/\off+size<=a0Q.length then a9b a4n (A5 a0Q off cs) rest else none
   | none=>none
def a6t(k:IntKind)(x y:Int):Int:=k.wrap (BitVec.ofInt k.bits x ^^^ BitVec.ofInt k.bits y).toNat
def b8R(op:BinOp)(k:IntKind)(x y:Int):Option (V×List Prop):=
 match op with
 | .add=>some (.i k (k.wrap (x+y)),[])
 | .sub=>some (.i k (k.wrap (x-y)),[])
 | .mul=>some (.i k (k.wrap (x*y)),[])
 | .quo=>some (.i k (k.wrap (x.tdiv y)),[y≠0])
 | .rem=>some (.i k (x.tmod y),[y≠0])
 | .eql=>some (.b (x==y),[])
 | .neq=>some (.b (x != y),[])
 | .lss=>some (.b (decide (x<y)),[])
 | .leq=>some (.b (decide (x<=y)),[])
 | .gtr=>some (.b (decide (x>y)),[])
 | .geq=>some (.b (decide (x>=y)),[])
 | .xor=>some (.i k (a6t k x y),[])
 | _=>none
def a1Z:List V->Option (List Int)
 | []=>some []
 | .i .i64 n::vs=>(a1Z vs).map (n :: ·)
 | _=>none
theorem b6m{w w':World}{b:Nat}{e:TypeId}{sz n:Nat}{v:Value}{xs:List Value}(h:w.ownsRow b e sz v n xs)(hb:∀k,B5 v=some k->w'.heap[k]?=w.heap[k]?):w'.ownsRow b e sz v n xs:=by
 refine ⟨h.1,?_⟩;rcases h.2 with hn|⟨g,cap,cur,rfl,hbg,hg,rest⟩
 ·exact .inl hn
 ·exact .inr ⟨g,cap,cur,rfl,hbg,(hb g rfl).trans hg,rest⟩
theorem a8O{w w':World}{e:TypeId}{sz n:Nat}{v:Value}{xs ys:List Value}(h:w.ownsRow 0 e sz v n xs)(h':w'.ownsRow 0 e sz v n ys)(hb:∀k,B5 v=some k->w'.heap[k]?=w.heap[k]?):xs=ys:=by
 rcases h.2 with ⟨hv,hn⟩|⟨g,cap,cur,hv,_,hg,_,_,_,ht⟩
 ·have h1:=h.1;have h2:=h'.1;subst hn;rw [Nat.zero_mul] at h1 h2;rw [e90 h1,e90 h2]
 ·rcases h'.2 with ⟨hv',_⟩|⟨g',cap',cur',hv',_,hg',_,_,_,ht'⟩
  ·rw [hv] at hv';cases hv'
  ·rw [hv] at hv';injection hv' with e1 e2 e3;injection e1 with e1;injection e1 with e1;subst e1;have:=hb g (by rw [hv];rfl);rw [hg,hg'] at this;injection this with this;injection this with this;subst this;rw [<-ht,<-ht']
theorem b5l{w:World}{e:TypeId}{sz n:Nat}{v:Value}{xs:List Value}(h:w.ownsRow 0 e sz v n xs){k:Nat}(hk:B5 v=some k):k<w.heap.size:=by
 rcases h.2 with ⟨hv,_⟩|⟨g,cap,cur,hv,_,hg,_⟩
 ·rw [hv] at hk;cases hk
 ·rw [hv] at hk;injection hk with hk;subst hk;exact (Array.getElem?_eq_some_iff.1 hg).1
theorem P6{c:Value}{k:Nat}:k∈D4 c↔B5 c=some k:=by
 unfold D4;cases B5 c with
 | none=>simp
 | some q=>simp [eq_comm]
mutual
theorem BC.mono {w w':World} {F F':Nat->Prop} (hs:G8 w w' F) (hF:∀g,F g->F' g):∀{v c f},BC w F v c f->(∀k∈f,w'.heap[k]?=w.heap[k]?)->BC w' F' v c f
 | _,_,_,.fv v c h,_=>.fv _ _ (h.mono hs hF)
 | _,_,_,.osl e sz n rows c h,hb=>by
  obtain ⟨flat,ho,hf,hn,hl⟩:=h;exact .osl _ _ _ _ _ ⟨flat,b6m ho (fun k hk=>hb k (P6.2 hk)),hf.mono hs hF,hn,hl⟩
 | _,_,_,.dsl e sz n rows c flat fs ho hr hn hl,hb=>
  .dsl e sz n rows c flat fs (b6m ho (fun k hk=>hb k (e9P.2 (.inl (P6.2 hk))))) (BL.mono hs hF hr fun k hk=>hb k (e9P.2 (.inr hk))) hn hl
theorem BL.mono {w w':World} {F F':Nat->Prop} (hs:G8 w w' F) (hF:∀g,F g->F' g):∀{vs cs f},BL w F vs cs f->(∀k∈f,w'.heap[k]?=w.heap[k]?)->BL w' F' vs cs f
 | _,_,_,.nil,_=>.nil
 | _,_,_,.cons v c f vs cs fs h t,hb=>.cons v c f vs cs fs (BC.mono hs hF h fun k hk=>hb k (e9P.2 (.inl hk))) (BL.mono hs hF t fun k hk=>hb k (e9P.2 (.inr hk)))
end
mutual
theorem BC.det {w w':World} {F F':Nat->Prop}:∀{v c f f'},BC w F v c f->BC w' F' v c f'->(∀k∈f,w'.heap[k]?=w.heap[k]?)->f=f'
 | _,_,_,_,.fv v c h,h',_=>by
  cases h' with
  | fv=>rfl
  | osl=>cases h
  | dsl=>cases h
 | _,_,_,_,.osl e sz n rows c h,h',_=>by
  cases h' with
  | fv _ _ h'=>cases h'
  | osl=>rfl
 | _,_,_,_,.dsl e sz n rows c flat fs ho hr hn hl,h',hb=>by
  cases h' with
  | fv _ _ h'=>cases h'
  | dsl _ _ _ _ _ flat' fs' ho' hr' hn' hl'=>
   have hfl:=a8O ho ho' (fun k hk=>hb k (e9P.2 (.inl (P6.2 hk))));subst hfl;rw [BL.det hr hr' fun k hk=>hb k (e9P.2 (.inr hk))]
theorem BL.det {w w':World} {F F':Nat->Prop}:∀{vs cs f f'},BL w F vs cs f->BL w' F' vs cs f'->(∀k∈f,w'.heap[k]?=w.heap[k]?)->f=f'
 | _,_,_,_,.nil,h',_=>by cases h';rfl
 | _,_,_,_,.cons v c f vs cs fs h t,h',hb=>by
  cases h' with
  | cons _ _ f' _ _ fs' h2 t2=>rw [BC.det h h2 fun k hk=>hb k (e9P.2 (.inl hk)),BL.det t t2 fun k hk=>hb k (e9P.2 (.inr hk))]
end
mutual
theorem BC.lt {w:World} {F:Nat->Prop}:∀{v c f},BC w F v c f->∀k∈f,k<w.heap.size
 | _,_,_,.fv v c h,k,hk=>by cases hk
 | _,_,_,.osl e sz n rows c h,k,hk=>by
  obtain ⟨flat,ho,_⟩:=h;exact b5l ho (P6.1 hk)
 | _,_,_,.dsl e sz n rows c flat fs ho hr hn hl,k,hk=>by
  rcases e9P.1 hk with q|q
  ·exact b5l ho (P6.1 q)
  ·exact BL.lt hr k q
theorem BL.lt {w:World} {F:Nat->Prop}:∀{vs cs f},BL w F vs cs f->∀k∈f,k<w.heap.size
 | _,_,_,.nil,k,hk=>by cases hk
 | _,_,_,.cons v c f vs cs fs h t,k,hk=>by
  rcases e9P.1 hk with q|q
  ·exact BC.lt h k q
  ·exact BL.lt t k q
end
theorem RC.notO{w:World}{F D:Nat->Prop}{ι:Nat->Nat->Value}{v:V}{c:Value}(h:RC w F D ι v c):(∀e sz n rows,v ≠ .osl e sz n rows)/\∀e sz n rows,v ≠ .dsl e sz n rows:=by
 cases h with
 | fv v c h=>cases h<;>exact ⟨fun _ _ _ _=>by simp,fun _ _ _ _=>by simp⟩
 | _=>exact ⟨fun _ _ _ _=>by simp,fun _ _ _ _=>by simp⟩
theorem BC.nilO{w:World}{F:Nat->Prop}{v:V}{c:Value}{f:List Nat}(h:BC w F v c f)(hv:(∀e sz n rows,v ≠ .osl e sz n rows)/\∀e sz n rows,v ≠ .dsl e sz n rows):f=[]:=by
 cases h with
 | fv=>rfl
 | osl e sz n rows=>exact absurd rfl (hv.1 e sz n rows)
 | dsl e sz n rows=>exact absurd rfl (hv.2 e sz n rows)
theorem KC.mono{w w':World}{F F' D D':Nat->Prop}{ι ι':Nat->Nat->Value}(hs:G8 w w' F)(hF:∀g,F g->F' g)(hD:∀g,D g->D' g)(hι:∀g j,D g->ι' g j=ι g j){v c f}(h:KC w F D ι v c f)(hb:∀k∈f,w'.heap[k]?=w.heap[k]?):KC w' F' D' ι' v c f:=by
 cases h with
 | rc h=>exact .rc _ _ (h.mono hs hF hD hι)
 | bc _ h=>exact .bc _ _ _ (h.mono hs hF hb)
theorem KL.mono{w w':World}{F F' D D':Nat->Prop}{ι ι':Nat->Nat->Value}(hs:G8 w w' F)(hF:∀g,F g->F' g)(hD:∀g,D g->D' g)(hι:∀g j,D g->ι' g j=ι g j):∀{vs cs f},KL w F D ι vs cs f->(∀k∈f,w'.heap[k]?=w.heap[k]?)->KL w' F' D' ι' vs cs f
 | _,_,_,.nil,_=>.nil
 | _,_,_,.cons v c f vs cs fs h t,hb=>.cons v c f vs cs fs (h.mono hs hF hD hι fun k hk=>hb k (e9P.2 (.inl hk))) (KL.mono hs hF hD hι t fun k hk=>hb k (e9P.2 (.inr hk)))
theorem KC.det{w w':World}{F F' D D':Nat->Prop}{ι ι':Nat->Nat->Value}{v c f f'}(h:KC w F D ι v c f)(h':KC w' F' D' ι' v c f')(hb:∀k∈f,w'.heap[k]?=w.heap[k]?):f=f':=by
 cases h with
 | rc h=>
  cases h' with
  | rc=>rfl
  | bc _ h'=>exact (h'.nilO h.notO).symm
 | bc _ h=>
  cases h' with
  | rc h'=>exact h.nilO h'.notO
  | bc _ h'=>exact h.det h' hb
theorem KL.det{w w':World}{F F' D D':Nat->Prop}{ι ι':Nat->Nat->Value}:∀{vs cs f f'},KL w F D ι vs cs f->KL w' F' D' ι' vs cs f'->(∀k∈f,w'.heap[k]?=w.heap[k]?)->f=f'
 | _,_,_,_,.nil,h',_=>by cases h';rfl
 | _,_,_,_,.cons v c f vs cs fs h t,h',hb=>by
  cases h' with
  | cons _ _ f' _ _ fs' h2 t2=>rw [h.det h2 fun k hk=>hb k (e9P.2 (.inl hk)),KL.det t t2 fun k hk=>hb k (e9P.2 (.inr hk))]
theorem KL.lt{w:World}{F D:Nat->Prop}{ι:Nat->Nat->Value}:∀{vs cs f},KL w F D ι vs cs f->∀k∈f,k<w.heap.size
 | _,_,_,.nil,k,hk=>by cases hk
 | _,_,_,.cons v c f vs cs fs h t,k,hk=>by
  rcases e9P.1 hk with q|q
  ·cases h with
   | rc=>cases q
   | bc _ h=>exact h.lt k q
  ·exact KL.lt t k q
theorem EB.top{w:World}{e:s4}{c:Value}{k:Nat}(h:B5 c=some k):EB w e c k:=by
 cases e<;>first|exact h|exact .inl h
theorem EB.deep_iff{w:World}{F D:Nat->Prop}{ι:Nat->Nat->Value}{e sz n:Nat}{rows:List (List V)}{c:Value}{flat:List Value}{fs:List Nat}(ho:w.ownsRow 0 e sz c n flat)(hk:KL w F D ι rows.flatten flat fs){o:Bool}{k:Nat}:EB w (.deep o e sz n rows) c k↔k∈D4 c++fs:=by
 rw [e9P,P6];constructor
 ·rintro (h|⟨F',D',ι',flat',fs',ho',hk',h⟩)
  ·exact .inl h
  ·have:=a8O ho ho' (fun _ _=>rfl);subst this;rw [hk.det hk' (fun _ _=>rfl)];exact .inr h
 ·rintro (h|h)
  ·exact .inl h
  ·exact .inr ⟨F,D,ι,flat,fs,ho,hk,h⟩
theorem RE.back{w w':World}{F D:Nat->Prop}{ι:Nat->Nat->Value}{e:s4}{c:Value}(h:RE w F D ι e c)(hb:∀k,EB w e c k->w'.heap[k]?=w.heap[k]?){k:Nat}(hk:EB w' e c k):EB w e c k:=by
 cases e with
 | deep o e sz n rows=>
  obtain ⟨flat,fs,ho,hkl,_⟩:=h;have hb':∀k∈D4 c++fs,w'.heap[k]?=w.heap[k]?:=fun k q=>hb k ((EB.deep_iff ho hkl).2 q)
  rcases hk with q|⟨F',D',ι',flat',fs',ho',hk',q⟩
  ·exact .inl q
  ·have:=a8O ho ho' (fun k hk=>hb' k (e9P.2 (.inl (P6.2 hk))));subst this;rw [<-hkl.det hk' fun k hk=>hb' k (e9P.2 (.inr hk))] at q;exact .inr ⟨F,D,ι,flat,fs,ho,hkl,q⟩
 | _=>exact hk
theorem RE.mono{w w':World}{F F' D D':Nat->Prop}{ι ι':Nat->Nat->Value}(hs:G8 w w' F)(hF:∀g,F g->F' g)(hD:∀g,D g->D' g)(hι:∀g j,D g->ι' g j=ι g j){e:s4}{c:Value}(hb:∀k,e.live=true->EB w e c k->w'.heap[k]?=w.heap[k]?)(h:RE w F D ι e c):RE w' F' D' ι' e c:=by
 cases e with
 | deep o e sz n rows=>
  obtain ⟨flat,fs,ho,hkl,hn,hl,hd,hnr⟩:=h;have hb':∀k∈D4 c++fs,w'.heap[k]?=w.heap[k]?:=fun k q=>hb k rfl ((EB.deep_iff ho hkl).2 q)
  exact ⟨flat,fs,b6m ho (fun k hk=>hb' k (e9P.2 (.inl (P6.2 hk)))),hkl.mono hs hF hD hι fun k hk=>hb' k (e9P.2 (.inr hk)),hn,hl,hd,hnr⟩
 | dead=>trivial
 | var e cs=>
  obtain ⟨g,cur,rfl,hg,hc⟩:=h;exact ⟨g,cur,rfl,(hb g rfl rfl).trans hg,hc.imp fun _ _ x=>x.mono hs hF hD hι⟩
 | arr e sz n rows=>
  obtain ⟨g,cur,rfl,hg,hc,hn,hl⟩:=h;exact ⟨g,cur,rfl,(hb g rfl rfl).trans hg,hc.mono hs hF,hn,hl⟩
 | row e sz n rows=>
  obtain ⟨flat,ho,hf,hn,hl⟩:=h;exact ⟨flat,b6m ho (fun k hk=>hb k rfl hk),hf.mono hs hF,hn,hl⟩
 | frz sz n rows=>exact FV.mono hs hF h
 | map t m es=>
  obtain ⟨g,arr,clock,rfl,hg,hc⟩:=h;exact ⟨g,arr,clock,rfl,(hb g rfl rfl).trans hg,hc⟩
theorem a0N{w w':World}{F:Nat->Prop}(h:∀g,F g->w'.heap[g]?=w.heap[g]?):G8 w w' F:=by
 intro g o hg;simp [World.cell?,h g hg]
theorem e7L(a:Act)(dst:Option Tmp)(v:Value):(a.put dst v).tmps.toList=match dst with|some d=>a.tmps.toList.set d v|none=>a.tmps.toList:=by
 cases dst<;>simp [Act.put]
theorem e7O(a:Act)(dst:Option Tmp)(v:Value):(a.put dst v).defers=a.defers:=by
 cases dst<;>simp [Act.put]
def R2(t:List V)(dst:Option Nat)(v:V):List V:=
 match dst with
 | some d=>t.set d v
 | none=>t
theorem v6.put{R:V->Value->Prop}{t:List V}{a:Act}(h:v6 R t a.tmps.toList)(dst:Option Nat){v:V}{c:Value}(hv:R v c):v6 R (R2 t dst v) (a.put dst c).tmps.toList:=by
 rw [e7L];cases dst with
 | none=>exact h
 | some d=>exact h.set d hv
def St.lay(S:St)(grp:Nat)(new:List s4):St:={S with h:=S.h.set grp (some new)}
def St.setE(S:St)(g j:Nat)(e:s4):St:=
 match S.h[g]? with
 | some (some l)=>{S with h:=S.h.set g (some (l.set j e))}
 | _=>S
def St.upds(S:St):List ((Nat×Nat)×s4)->St
 | []=>S
 | ((g,j),e)::us=>(S.setE g j e).upds us
theorem a7o{S:St}{grp:Nat}{new:List s4}{g j:Nat}(h:g≠grp):(S.lay grp new).ent g j=S.ent g j:=by
 simp [St.lay,St.ent,f0a (Ne.symm h)]
theorem c6F{S:St}{grp:Nat}{new:List s4}{j:Nat}(h:grp<S.h.length):(S.lay grp new).ent grp j=new[j]?:=by
 simp [St.lay,St.ent,h]
theorem b7a{S:St}{grp:Nat}{new:List s4}{g:Nat}(h:S.D g):(S.lay grp new).D g:=by
 obtain ⟨l,hl⟩:=h;by_cases e:g=grp
 ·subst e;exact ⟨new,by simp [St.lay,(e9T.1 hl).1]⟩
 ·exact ⟨l,by simp [St.lay,f0a (Ne.symm e),hl]⟩
theorem a0y{S:St}{grp:Nat}{new:List s4}(h:grp<S.h.length):(S.lay grp new).D grp:=⟨new,by simp [St.lay,h]⟩
theorem a2E{S:St}{g j:Nat}{e:s4}{l:List s4}(hl:S.h[g]?=some (some l)):S.setE g j e={S with h:=S.h.set g (some (l.set j e))}:=by
 unfold St.setE;rw [hl]
theorem a1c{S:St}{g j:Nat}{l:List s4}(hl:S.h[g]?=some (some l)):S.ent g j=l[j]?:=by
 unfold St.ent;rw [hl]
theorem P4{S:St}{g j:Nat}{e e0:s4}(h:S.ent g j=some e0)(g' j':Nat):(S.setE g j e).ent g' j'=if g'=g/\j'=j then some e else S.ent g' j':=by
 obtain ⟨l,hl⟩:=St.D_of_ent h;rw [a1c hl] at h;have hlt:=(e9T.1 hl).1;have hj:=(e9T.1 h).1;rw [a2E hl];by_cases hg:g'=g
 ·subst hg;rw [a1c (S:={S with h:=S.h.set g' (some (l.set j e))}) (l:=l.set j e) (by simp [hlt]),a1c hl];by_cases hjj:j'=j
  ·subst hjj;simp [hj]
  ·simp [hjj,f0a (Ne.symm hjj)]
 ·simp [St.ent,hg,f0a (Ne.symm hg)]
theorem P7{S:St}{g j:Nat}{e:s4}{g':Nat}:(S.setE g j e).D g'↔S.D g':=by
 unfold St.setE;split
 ·rename_i l hl;by_cases hg:g'=g
  ·subst hg;constructor
   ·intro _;exact ⟨l,hl⟩
   ·intro _;exact ⟨l.set j e,by simp [(e9T.1 hl).1]⟩
  ·simp [St.D,f0a (Ne.symm hg)]
 ·rfl
theorem a7b{S:St}{g j:Nat}{e:s4}:(S.setE g j e).t=S.t:=by
 unfold St.setE;split<;>rfl
theorem a9d{S:St}{g j:Nat}{e:s4}:(S.setE g j e).h.length=S.h.length:=by
 unfold St.setE;split<;>simp
section
variable {Γ:N0} {F:Nat->Prop} {ι:Nat->Nat->Value} {S:St} {a:Act} {w:World}
theorem t7.put(h:t7 Γ F ι S a w)(dst:Option Nat){v:V}{c:Value}(hv:RV w F S.D ι v c):t7 Γ F ι {S with t:=R2 S.t dst v} (a.put dst c) w where
 F0:=h.F0
 F1:=h.F1
 F2:=h.F2
 kept:=h.kept
 tmps:=v6.put h.tmps dst hv
 ents:=h.ents
 sep:=h.sep
 inj:=h.inj
 defers:=by rw [e7O];exact h.defers
 pins:=h.pins
theorem RE.lt{F D:Nat->Prop}{e:s4}{c:Value}(hr:RE w F D ι e c)(hl:e.live=true){k:Nat}(hk':EB w e c k):k<w.heap.size:=by
 cases e with
 | dead=>cases hl
 | frz sz n rows=>cases hl
 | var e cs=>
  obtain ⟨g',cur,hc,hg,_⟩:=hr;have hk':B5 c=some k:=hk';rw [hc] at hk';simp [B5] at hk';subst hk';exact (Array.getElem?_eq_some_iff.1 hg).1
 | arr e sz n rows=>
  obtain ⟨g',cur,hc,hg,_⟩:=hr;have hk':B5 c=some k:=hk';rw [hc] at hk';simp [B5] at hk';subst hk';exact (Array.getElem?_eq_some_iff.1 hg).1
 | row e sz n rows=>
  obtain ⟨flat,ho,_⟩:=hr;exact b5l ho hk'
 | deep o e sz n rows=>
  obtain ⟨flat,fs,ho,hkl,_⟩:=hr;rcases e9P.1 ((EB.deep_iff ho hkl).1 hk') with q|q
  ·exact b5l ho (P6.1 q)
  ·exact hkl.lt k q
 | map t m es=>
  obtain ⟨g',arr,clock,hc,hg,_⟩:=hr;have hk':B5 c=some k:=hk';rw [hc] at hk';simp [B5] at hk';subst hk';exact (Array.getElem?_eq_some_iff.1 hg).1
theorem t7.lt(h:t7 Γ F ι S a w){g j:Nat}{e:s4}{k:Nat}(he:S.ent g j=some e)(hl:e.live=true)(hk':EB w e (ι g j) k):k<w.heap.size:=(h.ents g j e he).lt hl hk'
theorem t7.world(h:t7 Γ F ι S a w){w':World}(hk:w'.os=w.os/\w'.tape=w.tape/\w'.output=w.output)(hsz:w.heap.size<=w'.heap.size)(hb:∀k,k<w.heap.size->w'.heap[k]?=w.heap[k]?):t7 Γ F ι S a w':=by
  have hs:G8 w w' F:=a0N fun g hg=>hb g (h.F1 g hg)
  have hbk:∀g j e,S.ent g j=some e->e.live=true->∀k,EB w e (ι g j) k->w'.heap[k]?=w.heap[k]?:=fun g j e he hl k hk'=>hb k (h.lt he hl hk')
  exact
    { F0:=h.F0
      F1:=fun g hg=>f0V (h.F1 g hg) hsz
      F2:=h.F2
      kept:=⟨hk.1.trans h.kept.os,hk.2.1.trans h.kept.tape,hk.2.2.trans h.kept.output,f0c h.kept.size hsz,fun k hk' hn=>(hb k (f0V hk' h.kept.size)).trans (h.kept.block k hk' hn)⟩
      tmps:=h.tmps.imp fun _ _ x=>x.mono hs (fun _ y=>y) (fun _ y=>y) (fun _ _ _=>rfl)
      ents:=fun g j e he=>(h.ents g j e he).mono hs (fun _ y=>y) (fun _ y=>y) (fun _ _ _=>rfl) (fun k hl hk'=>hbk g j e he hl k hk')
      sep:=fun g j e k he hl hk'=>h.sep g j e k he hl ((h.ents g j e he).back (hbk g j e he hl) hk')
      inj:=fun g j e g' j' e' k he he' hl hl' hk1 hk2=>h.inj g j e g' j' e' k he he' hl hl' ((h.ents g j e he).back (hbk g j e he hl) hk1) ((h.ents g' j' e' he').back (hbk g' j' e' he' hl') hk2)
      defers:=h.defers
      pins:=h.pins}
theorem t7.lay(h:t7 Γ F ι S a w){grp:Nat}(hg:grp<S.h.length)(hn:¬S.D grp){new:List s4}{ι':Nat->Nat->Value}(hι:∀g j,g≠grp->ι' g j=ι g j)(hnew:∀j e,new[j]?=some e->RE w F (S.lay grp new).D ι' e (ι' grp j))(hsep:∀j e k,new[j]?=some e->e.live=true->EB w e (ι' grp j) k->¬F k/\(Γ.own k\/Γ.w0.heap.size<=k))(hin:∀j e j' e' k,new[j]?=some e->new[j']?=some e'->e.live=true->e'.live=true->EB w e (ι' grp j) k->EB w e' (ι' grp j') k->j=j')(hout:∀j e g' j' e' k,new[j]?=some e->S.ent g' j'=some e'->e.live=true->e'.live=true->EB w e (ι' grp j) k->¬EB w e' (ι g' j') k) :
    t7 Γ F ι' (S.lay grp new) a w:=by
  have hne:∀g,S.D g->g≠grp:=fun g hg' e=>hn (e▸hg')
  have hD:∀g,S.D g->(S.lay grp new).D g:=fun g x=>b7a x
  have hi:∀g j,S.D g->ι' g j=ι g j:=fun g j x=>hι g j (hne g x)
  have hs:G8 w w F:=fun _ _ _=>rfl
  have old:∀g j e,(S.lay grp new).ent g j=some e->(g=grp/\new[j]?=some e)\/(g≠grp/\S.ent g j=some e):=by
    intro g j e he;by_cases q:g=grp
    · subst q;rw [c6F hg] at he;exact .inl ⟨rfl,he⟩
    · rw [a7o q] at he;exact .inr ⟨q,he⟩
  exact
    { F0:=h.F0,F1:=h.F1,F2:=h.F2,kept:=h.kept
      tmps:=h.tmps.imp fun _ _ x=>x.mono hs (fun _ y=>y) hD hi
      ents:=fun g j e he=>by
        rcases old g j e he with ⟨rfl,hx⟩|⟨q,hx⟩
        · exact hnew j e hx
        · rw [hι g j q];exact (h.ents g j e hx).mono hs (fun _ y=>y) hD hi (fun _ _ _=>rfl)
      sep:=fun g j e k he hl hk=>by
        rcases old g j e he with ⟨rfl,hx⟩|⟨q,hx⟩
        · exact hsep j e k hx hl hk
        · rw [hι g j q] at hk;exact h.sep g j e k hx hl hk
      inj:=fun g j e g' j' e' k he he' hl hl' hk hk'=>by
        rcases old g j e he with ⟨q1,hx⟩|⟨q,hx⟩
        · rcases old g' j' e' he' with ⟨q2,hy⟩|⟨q',hy⟩
          · subst q1;subst q2;exact ⟨rfl,hin j e j' e' k hx hy hl hl' hk hk'⟩
          · rw [hι g' j' q'] at hk';subst q1;exact absurd hk' (hout j e g' j' e' k hx hy hl hl' hk)
        · rw [hι g j q] at hk;rcases old g' j' e' he' with ⟨q2,hy⟩|⟨q',hy⟩
          · subst q2;exact absurd hk (hout j' e' g j e k hy hx hl' hl hk')
          · rw [hι g' j' q'] at hk';exact h.inj g j e g' j' e' k hx hy hl hl' hk hk'
      defers:=h.defers
      pins:=fun j c hc=>⟨hD _ (h.pins j c hc).1,(hi 0 j (h.pins j c hc).1).trans (h.pins j c hc).2⟩}
theorem t7.write(h:t7 Γ F ι S a w){g j:Nat}{e e':s4}(he:S.ent g j=some e)(hl:e.live=true){w':World}(hk:w'.os=w.os/\w'.tape=w.tape/\w'.output=w.output)(hsz:w'.heap.size=w.heap.size)(hb:∀k,¬EB w e (ι g j) k->w'.heap[k]?=w.heap[k]?)(hn:G8 w w' F->RE w' F (S.setE g j e').D ι e' (ι g j))(hin:∀k,EB w' e' (ι g j) k->EB w e (ι g j) k):t7 Γ F ι (S.setE g j e') a w':=by
  have hs:G8 w w' F:=a0N fun k hF=>hb k fun q=>(h.sep g j e k he hl q).1 hF
  have hD:∀k,S.D k->(S.setE g j e').D k:=fun k x=>P7.2 x
  have hoth:∀g' j' e'',S.ent g' j'=some e''->e''.live=true->¬(g'=g/\j'=j)->∀k,EB w e'' (ι g' j') k->w'.heap[k]?=w.heap[k]?:=fun g' j' e'' he'' hl'' q k a1p=>hb k fun q'=>q (h.inj g' j' e'' g j e k he'' he hl'' hl a1p q')
  exact
    { F0:=h.F0
      F1:=fun k hF=>hsz▸h.F1 k hF
      F2:=h.F2
      kept:=⟨hk.1.trans h.kept.os,hk.2.1.trans h.kept.tape,hk.2.2.trans h.kept.output,hsz▸h.kept.size,fun k hk' hno=>by
        rw [hb k fun q => ?_]
        · exact h.kept.block k hk' hno
        · rcases (h.sep g j e k he hl q).2 with x|x
          · exact hno x
          · omega⟩
      tmps:=by rw [a7b];exact h.tmps.imp fun _ _ x=>x.mono hs (fun _ y=>y) hD (fun _ _ _=>rfl)
      ents:=fun g' j' e'' he''=>by
        rw [P4 he] at he'';split at he''
        · rename_i q;obtain ⟨rfl,rfl⟩:=q;injection he'' with he'';subst he'';exact hn hs
        · rename_i q;exact (h.ents g' j' e'' he'').mono hs (fun _ y=>y) hD (fun _ _ _=>rfl) fun k hl'' a1p=>hoth g' j' e'' he'' hl'' q k a1p
      sep:=fun g' j' e'' k he'' hl'' a1p=>by
        rw [P4 he] at he'';split at he''
        · rename_i q;obtain ⟨rfl,rfl⟩:=q;injection he'' with he'';subst he'';exact h.sep g' j' e k he hl (hin k a1p)
        · rename_i q;exact h.sep g' j' e'' k he'' hl'' ((h.ents g' j' e'' he'').back (hoth g' j' e'' he'' hl'' q) a1p)
      inj:=fun g1 j1 e1 g2 j2 e2 k h1 h2 l1 l2 k1 k2=>by
        rw [P4 he] at h1 h2;split at h1<;>split at h2
        · rename_i q1 q2;exact ⟨q1.1.trans q2.1.symm,q1.2.trans q2.2.symm⟩
        · rename_i q1 q2;obtain ⟨rfl,rfl⟩:=q1;injection h1 with h1;subst h1;exact h.inj g1 j1 e g2 j2 e2 k he h2 hl l2 (hin k k1) ((h.ents g2 j2 e2 h2).back (hoth g2 j2 e2 h2 l2 q2) k2)
        · rename_i q1 q2;obtain ⟨rfl,rfl⟩:=q2;injection h2 with h2;subst h2;exact h.inj g1 j1 e1 g2 j2 e k h1 he l1 hl ((h.ents g1 j1 e1 h1).back (hoth g1 j1 e1 h1 l1 q1) k1) (hin k k2)
        · rename_i q1 q2;exact h.inj g1 j1 e1 g2 j2 e2 k h1 h2 l1 l2 ((h.ents g1 j1 e1 h1).back (hoth g1 j1 e1 h1 l1 q1) k1) ((h.ents g2 j2 e2 h2).back (hoth g2 j2 e2 h2 l2 q2) k2)
      defers:=h.defers
      pins:=fun j c hc=>⟨hD _ (h.pins j c hc).1,(h.pins j c hc).2⟩}
theorem t7.kill(h:t7 Γ F ι S a w){g j:Nat}{e:s4}(he:S.ent g j=some e):t7 Γ F ι (S.setE g j .dead) a w:=by
  have hD:∀k,S.D k->(S.setE g j .dead).D k:=fun k x=>P7.2 x
  have hs:G8 w w F:=fun _ _ _=>rfl
  have old:∀g' j' e',(S.setE g j .dead).ent g' j'=some e'->e'=.dead\/S.ent g' j'=some e':=by
    intro g' j' e' h';rw [P4 he] at h';split at h'
    · injection h' with h';exact .inl h'.symm
    · exact .inr h'
  exact
    { F0:=h.F0,F1:=h.F1,F2:=h.F2,kept:=h.kept
      tmps:=by rw [a7b];exact h.tmps.imp fun _ _ x=>x.mono hs (fun _ y=>y) hD (fun _ _ _=>rfl)
      ents:=fun g' j' e' h'=>by
        rcases old g' j' e' h' with rfl|h'
        · trivial
        · exact (h.ents g' j' e' h').mono hs (fun _ y=>y) hD (fun _ _ _=>rfl) (fun _ _ _=>rfl)
      sep:=fun g' j' e' k h' hl hk=>by
        rcases old g' j' e' h' with rfl|h'
        · cases hl
        · exact h.sep g' j' e' k h' hl hk
      inj:=fun g1 j1 e1 g2 j2 e2 k h1 h2 l1 l2 k1 k2=>by
        rcases old g1 j1 e1 h1 with rfl|h1
        · cases l1
        · rcases old g2 j2 e2 h2 with rfl|h2
          · cases l2
          · exact h.inj g1 j1 e1 g2 j2 e2 k h1 h2 l1 l2 k1 k2
      defers:=h.defers
      pins:=fun j c hc=>⟨hD _ (h.pins j c hc).1,(h.pins j c hc).2⟩}
theorem t7.freeze(h:t7 Γ F ι S a w){g j e sz n:Nat}{rows:List (List V)}(he:S.ent g j=some (.row e sz n rows)) :
    ∃F',(∀k,F k->F' k)/\(∀k,F' k->F k\/B5 (ι g j)=some k)/\t7 Γ F' ι (S.setE g j (.frz sz n rows)) a w:=by
  have hD:∀k,S.D k->(S.setE g j (.frz sz n rows)).D k:=fun k x=>P7.2 x
  have hF:∀k,F k->F k\/B5 (ι g j)=some k:=fun _ x=>.inl x
  have hs:G8 w w F:=fun _ _ _=>rfl
  refine ⟨fun k=>F k\/B5 (ι g j)=some k,hF,fun _ x=>x,?_⟩;have old:∀g' j' e',(S.setE g j (.frz sz n rows)).ent g' j'=some e'->(g'=g/\j'=j/\e'=.frz sz n rows)\/(¬(g'=g/\j'=j)/\S.ent g' j'=some e'):=by
    intro g' j' e' h';rw [P4 he] at h';split at h'
    · rename_i q;injection h' with h';exact .inl ⟨q.1,q.2,h'.symm⟩
    · rename_i q;exact .inr ⟨q,h'⟩
  exact
    { F0:=fun k x=>.inl (h.F0 k x)
      F1:=fun k x=>x.elim (h.F1 k) fun y=>h.lt he rfl y
      F2:=fun k x=>x.elim (h.F2 k) fun y=>.inr (h.sep g j _ k he rfl y).2
      kept:=h.kept
      tmps:=by rw [a7b];exact h.tmps.imp fun _ _ x=>x.mono hs hF hD (fun _ _ _=>rfl)
      ents:=fun g' j' e' h'=>by
        rcases old g' j' e' h' with ⟨rfl,rfl,rfl⟩|⟨_,h'⟩
        · obtain ⟨flat,ho,hf,hn,hl⟩:=h.ents _ _ _ he;rcases ho.2 with ⟨hv,h0⟩|⟨g0,cap,cur,hv,_,hg,hnc,hcm,hcs,ht⟩
          · rw [hv];subst h0;have:rows=[]:=e90 hn;subst this;exact .sl0 sz none 0
          · rw [hv];refine .sl sz n rows g0 0 cap flat (.inr rfl) (hf.mono hs fun k x=>.inl x) hn hl hnc ?_;intro j u hu;rw [cell_of_row w g0 (0+j) cur e (0,0) hg,f0y];rw [<-ht,f1e] at hu;split at hu
            · simpa using hu
            · cases hu
        · exact (h.ents g' j' e' h').mono hs hF hD (fun _ _ _=>rfl) (fun _ _ _=>rfl)
      sep:=fun g' j' e' k h' hl hk=>by
        rcases old g' j' e' h' with ⟨rfl,rfl,rfl⟩|⟨q,h'⟩
        · cases hl
        · obtain ⟨x,y⟩:=h.sep g' j' e' k h' hl hk;exact ⟨fun z=>z.elim x fun z=>q (h.inj g' j' e' g j _ k h' he hl rfl hk z),y⟩
      inj:=fun g1 j1 e1 g2 j2 e2 k h1 h2 l1 l2 k1 k2=>by
        rcases old g1 j1 e1 h1 with ⟨rfl,rfl,rfl⟩|⟨_,h1⟩
        · cases l1
        · rcases old g2 j2 e2 h2 with ⟨rfl,rfl,rfl⟩|⟨_,h2⟩
          · cases l2
          · exact h.inj g1 j1 e1 g2 j2 e2 k h1 h2 l1 l2 k1 k2
      defers:=h.defers
      pins:=fun j c hc=>⟨hD _ (h.pins j c hc).1,(h.pins j c hc).2⟩}
end
structure TF(P:Program)(t:Nat)(ti:TI)(i:TypeInfo)(d:TypeDesc)(z:Value):Prop where
 info:P.info? t=some i
 und:P.underlying t=some d
 zero:i.zero=some z
 size:i.size=ti.size
 bytes:i.bytes=ti.bytes
 zeros:z.cells.toList.map V.ofCell=ti.zero
 one:∀c∈z.cells.toList,c.oneCell'=true
 agg:a46 d=ti.agg
 sl:dSl d=ti.sl
 arr:a5H d=ti.arr
 ik:a4Y d=ti.ik
 fs:dFs d=ti.fs
 str:a5k d=ti.str
 ptr:c90 d=ti.ptr
 bl:dBl d=ti.bl
theorem Cx.tf(cx:Cx){t:Nat}{ti:TI}(h:cx.T t=some ti):∃i d z,TF cx.P t ti i d z:=by
 have:=cx.hT t ti h;unfold F5 at this;split at this
 ·rename_i i d hi hd;split at this
  ·rename_i z hz;split at this
   ·rename_i h1;injection this with this;subst this;exact ⟨i,d,z,hi,hd,hz,rfl,rfl,rfl,fun c hc=>Array.all_eq_true_iff_forall_mem.1 h1 c (by simpa using hc),rfl,rfl,rfl,rfl,rfl,rfl,rfl,rfl⟩
   ·cases this
  ·cases this
 ·cases this
section
variable {P:Program} {t:Nat} {ti:TI} {i:TypeInfo} {d:TypeDesc} {z:Value} {w:World}
theorem TF.sizeOf(h:TF P t ti i d z):(sizeOf t).run P w=.ok ti.size w:=by
 simp [Go.sizeOf,typeInfo,h.info,h.size]
theorem TF.zeroValue(h:TF P t ti i d z):(zeroValue t).run P w=.ok z w:=by
 simp [Go.zeroValue,typeInfo,h.info,h.zero]
theorem TF.isAgg(h:TF P t ti i d z):(isAgg t).run P w=.ok ti.agg w:=by
 have ha:=h.agg;unfold Go.isAgg;rw [Sem.run_bind,run_underlying h.und w];cases d<;>simp_all [a46,dSl,a5H,a4Y,dFs,a5k]
theorem TF.underlying(h:TF P t ti i d z):(underlying t).run P w=.ok d w:=run_underlying h.und w
theorem TF.isSl(h:TF P t ti i d z){e:Nat}(hs:ti.sl=some e):d=.slice e:=by
 have:=h.sl;rw [hs] at this;cases d<;>simp_all [a46,dSl,a5H,a4Y,dFs,a5k]
theorem TF.isArr(h:TF P t ti i d z){n e:Nat}(hs:ti.arr=some (n,e)):d=.array n e:=by
 have:=h.arr;rw [hs] at this;cases d<;>simp_all [a46,dSl,a5H,a4Y,dFs,a5k]
theorem TF.isInt(h:TF P t ti i d z){k:IntKind}(hs:ti.ik=some k):d=.int k:=by
 have:=h.ik;rw [hs] at this;cases d<;>simp_all [a46,dSl,a5H,a4Y,dFs,a5k]
theorem TF.isStruct(h:TF P t ti i d z){l:List (Nat×Nat)}(hs:ti.fs=some l):∃fs:Array Field,d=.struct fs/\fs.toList.map (fun f=>(f.offset,f.type))=l:=by
 have:=h.fs;rw [hs] at this;cases d<;>simp_all [a46,dSl,a5H,a4Y,dFs,a5k]
theorem TF.isBl(h:TF P t ti i d z)(hs:ti.bl=true):d=.bool:=by
 have:=h.bl;rw [hs] at this;cases d<;>simp_all [dBl]
theorem TF.isStr(h:TF P t ti i d z)(hs:ti.str=true):d=.string:=by
 have:=h.str;rw [hs] at this;cases d<;>simp_all [a46,dSl,a5H,a4Y,dFs,a5k]
end
theorem a16(g o n:Nat):(⟨g,o,none⟩:Addr).add n=⟨g,o+n,none⟩:=by
 unfold Addr.add;split<;>simp_all
theorem e4i{P:Program}{w:World}{g o:Nat}{ds:List Value}(h:M8 w g o ds):(loadCells ⟨g,o,none⟩ ds.length).run P w=.ok ds.toArray w:=
 run_loadCells_list (P:=P) w ⟨g,o,none⟩ ds (fun j v hv=>by rw [a16];exact h j v hv)
theorem e4r{P:Program}{w:World}{g o:Nat}{c:Value}(h:w.cell? ⟨g,o,none⟩=some c):(load ⟨g,o,none⟩).run P w=.ok c w:=by
 simp [load,Sem.run,h]
def a9Y(ti:TI)(ds:List Value):Option Value:=
 if ti.agg then (if ti.size<=ds.length then some (.agg (ds.take ti.size).toArray) else none) else ds[0]?
theorem c7M{P:Program}{t:Nat}{ti:TI}{i:TypeInfo}{d:TypeDesc}{z:Value}{w:World}(h:TF P t ti i d z){g o:Nat}{ds:List Value}(hs:M8 w g o ds){c:Value}(hc:a9Y ti ds=some c) :
  (loadVar t ⟨g,o,none⟩).run P w=.ok c w:=by
 unfold a9Y at hc;unfold loadVar;simp only [Sem.run_bind,h.isAgg,Result.andThen_ok];by_cases ha:ti.agg=true
 ·rw [if_pos ha] at hc;rw [if_pos ha];split at hc
  ·rename_i hle;injection hc with hc;have:=e4i (P:=P) (hs.take ti.size);rw [f0e,Nat.min_eq_left hle] at this;simp [Sem.run_bind,h.sizeOf,this,hc]
  ·cases hc
 ·rw [if_neg ha] at hc;rw [if_neg ha];exact e4r (by simpa using hs 0 c hc)
theorem RC.one{w:World}{F D:Nat->Prop}{ι:Nat->Nat->Value}{v:V}{c:Value}(h:RC w F D ι v c):c.oneCell'=true:=by
 cases h with
 | fv v c h=>cases h<;>first|rfl|assumption
 | _=>rfl
section
variable {w:World} {F D:Nat->Prop} {ι:Nat->Nat->Value} {t:List V} {a:Act}
theorem RV.ofFL{cs:List V}{ds:List Value}(h:FL w F cs ds):RV w F D ι (.agg cs) (.agg ds.toArray):=
 .one _ _ (.agg _ _ (h.all2.imp fun _ _ x=>.fv _ _ x))
theorem RV.cell{v:V}{c:Value}(h:RC w F D ι v c):RV w F D ι v c:=.one _ _ (.cell _ _ h)
theorem RV.fv{v:V}{c:Value}(h:FV w F v c):RV w F D ι v c:=.one _ _ (.cell _ _ (.fv _ _ h))
theorem e75(c:Value):RV w F D ι (c3a c) c:=by
 unfold c3a;split
 ·rename_i cs;split
  ·rename_i h;have:=RV.ofFL (D:=D) (ι:=ι) (FL.ofCells (w:=w) (F:=F) cs.toList fun c hc=>Array.all_eq_true_iff_forall_mem.1 h c (by simpa using hc));simpa using this
  ·exact .any _
 ·rename_i v hv;split
  ·rename_i h;exact .fv (.ofCell _ h)
  ·exact .any _
theorem D5(h:v6 (RV w F D ι) t a.tmps.toList)(x:Operand):RV w F D ι (t0 t x) (a.eval x):=by
 cases x with
 | tmp k=>
  simp only [t0,Act.eval];rw [f0g];cases hk:t[k]? with
  | none=>exact .any _
  | some v=>
   obtain ⟨c,hc,hv⟩:=h.get hk;have:a.tmps.getD k undef=c:=by
    rw [Array.getD_eq_getD_getElem?];rw [Array.getElem?_toList] at hc;rw [hc];rfl
   rw [this];exact hv
 | const v=>exact e75 v
 | global g=>exact .any _
 | func f=>exact .fv (.fn f)
theorem RV.inv_b{x:Bool}{c:Value}(h:RV w F D ι (.b x) c):c=.bool x:=by
 cases h with
 | one v c h=>cases h with
  | cell v c h=>cases h with
   | fv v c h=>cases h;rfl
theorem RV.inv_i{k:IntKind}{n:Int}{c:Value}(h:RV w F D ι (.i k n) c):c=.int k n:=by
 cases h with
 | one v c h=>cases h with
  | cell v c h=>cases h with
   | fv v c h=>cases h;rfl
theorem RV.inv_s{x:ByteArray}{c:Value}(h:RV w F D ι (.s x) c):c=.string x:=by
 cases h with
 | one v c h=>cases h with
  | cell v c h=>cases h with
   | fv v c h=>cases h;rfl
theorem RV.inv_fn{f:FuncId}{c:Value}(h:RV w F D ι (.fn f) c):c=.func (.func f) #[] #[]:=by
 cases h with
 | one v c h=>cases h with
  | cell v c h=>cases h with
   | fv v c h=>cases h;rfl
theorem RV.inv_nil{c:Value}(h:RV w F D ι .nil c):c=.slice none 0 0:=by
 cases h with
 | one v c h=>cases h with
  | cell v c h=>cases h with
   | fv v c h=>cases h;rfl
theorem RV.inv_sl{sz n:Nat}{rows:List (List V)}{c:Value}(h:RV w F D ι (.sl sz n rows) c):FV w F (.sl sz n rows) c:=by
 cases h with
 | one v c h=>cases h with
  | cell v c h=>cases h with
   | fv v c h=>exact h
theorem RV.inv_agg{cs:List V}{c:Value}(h:RV w F D ι (.agg cs) c):∃ds:List Value,c=.agg ds.toArray/\v6 (RC w F D ι) cs ds:=by
 cases h with
 | one v c h=>cases h with
  | cell v c h=>cases h with
   | fv v c h=>cases h
  | agg cs ds h=>exact ⟨ds,rfl,h⟩
theorem RV.inv_tup{cs:List V}{c:Value}(h:RV w F D ι (.tup cs) c):∃ds:List Value,c=.tuple ds.toArray/\v6 (RA w F D ι) cs ds:=by
 cases h with
 | one v c h=>cases h with
  | cell v c h=>cases h with
   | fv v c h=>cases h
 | tup cs ds h=>exact ⟨ds,rfl,h⟩
theorem RV.inv_own{g j sz lo n:Nat}{c:Value}(h:RV w F D ι (.own g j sz lo n) c):D g/\((∃b nn cap,ι g j=.slice b nn cap/\lo+n<=cap/\(b=none->cap=0)/\(∀ad,b=some ad->ad=⟨ad.block,0,none⟩)/\c=.slice (if cap=lo then b else b.map (·.add (lo*sz))) n (cap-lo))\/(0<lo/\n=0/\∃b cap,c=.slice b 0 cap)):=by
 cases h with
 | one v c h=>cases h with
  | cell v c h=>cases h with
   | fv v c h=>cases h
   | own g j sz lo n b nn cap h1 h2 h3 h4 h5=>exact ⟨h1,.inl ⟨b,nn,cap,h2,h3,h4,h5,rfl⟩⟩
   | own0 g j sz lo b cap h1 h2=>exact ⟨h1,.inr ⟨h2,rfl,b,cap,rfl⟩⟩
theorem RV.inv_ptr{g j off:Nat}{c:Value}(h:RV w F D ι (.ptr g j off) c):D g/\∃b,ι g j=.pointer (some ⟨b,0,none⟩)/\c=.pointer (some ⟨b,off,none⟩):=by
 cases h with
 | one v c h=>cases h with
  | cell v c h=>cases h with
   | fv v c h=>cases h
   | ptr g j off b h1 h2=>exact ⟨h1,b,h2,rfl⟩
theorem RV.inv_eptr{g j sz idx off:Nat}{c:Value}(h:RV w F D ι (.eptr g j sz idx off) c):D g/\∃b,B5 (ι g j)=some b/\c=.pointer (some ⟨b,idx*sz+off,none⟩):=by
 cases h with
 | one v c h=>cases h with
  | cell v c h=>cases h with
   | fv v c h=>cases h
   | eptr g j sz idx off b h1 h2=>exact ⟨h1,b,h2,rfl⟩
theorem RV.inv_fptr{cs:List V}{c:Value}(h:RV w F D ι (.fptr cs) c):∃g o ds,F g/\FL w F cs ds/\M8 w g o ds/\c=.pointer (some ⟨g,o,none⟩):=by
 cases h with
 | one v c h=>cases h with
  | cell v c h=>cases h with
   | fv v c h=>cases h
   | fptr cs g o ds h1 h2 h3=>exact ⟨g,o,ds,h1,h2,h3,rfl⟩
theorem RV.cells{v:V}{c:Value}(h:RV w F D ι v c){cs:List V}(hc:v.cells=some cs):v6 (RC w F D ι) cs c.cells.toList:=by
 cases h with
 | one v c h=>cases h with
  | cell v c h=>
   have h1:c.cells.toList=[c]:=by
    have:=h.one;cases c<;>first|rfl|(simp [Value.oneCell'] at this)
   rw [h1];have:cs=[v]:=by
    cases h with
    | fv v c h=>cases h<;>simp_all [V.cells]
    | _=>simp_all [V.cells]
   rw [this];exact .cons h .nil
  | agg cs' ds h=>
   simp [V.cells] at hc;subst hc;exact h
 | tup cs ds h=>simp [V.cells] at hc
 | any c=>simp [V.cells] at hc
theorem RA.toRV{v:V}{c:Value}(h:RA w F D ι v c):RV w F D ι v c:=.one _ _ h
end
theorem c0Q(vs:List Value):∀(j off:Nat) (cs:Array Value),off+j+vs.length<=cs.size->
  ((vs.zipIdx j).foldl (fun (cs:Array Value) (x:Value×Nat)=>cs.setIfInBounds (off+x.2) x.1) cs).toList=A5 cs.toList (off+j) vs:=by
 induction vs with
 | nil=>intro j off cs h;simp [A5]
 | cons v vs ih=>
  intro j off cs h;simp only [List.zipIdx_cons,f1f];rw [ih (j+1) off _ (by simp at h⊢;omega)];simp only [A5,Array.toList_setIfInBounds];simp at h;apply List.ext_getElem?;intro k;simp only [List.getElem?_append,e91,f0e,f0z,f1e,List.getElem?_drop,List.getElem?_set,f0D,Array.length_toList];by_cases h1:k<off+j
  ·simp [show k<min (off+j) cs.size by omega,show k<min (off+j) cs.size+(vs.length+1) by omega,show k<min (off+(j+1)) cs.size+vs.length by omega,show k<min (off+(j+1)) cs.size by omega,h1,show k<off+(j+1) by omega,show ¬off+j=k by omega]
  ·by_cases h2:k=off+j
   ·subst h2;simp [show off+j<cs.size by omega,show off+j<min (off+(j+1)) cs.size by omega,show min (off+j) cs.size=off+j by omega,show off+j<min (off+(j+1)) cs.size+vs.length by omega]
   ·by_cases h3:k<off+j+(vs.length+1)
    ·have e1:min (off+j) cs.size=off+j:=by omega
     have e2:min (off+(j+1)) cs.size=off+(j+1):=by omega
     simp [e1,e2,h1,show k<off+j+(vs.length+1) by omega,show k<off+(j+1)+vs.length by omega,show ¬k<off+(j+1) by omega];rw [show k-(off+j)=(k-(off+(j+1)))+1 by omega,f0Y]
    ·have e1:min (off+j) cs.size=off+j:=by omega
     have e2:min (off+(j+1)) cs.size=off+(j+1):=by omega
     simp [e1,e2,h1,h3,show ¬k<off+j+(vs.length+1) by omega,show ¬k<off+(j+1)+vs.length by omega,show ¬k<off+(j+1) by omega];rw [if_neg (by omega)];congr 1
     omega
theorem v6.splice{R:V->Value->Prop}{cs vs:List V}{ds us:List Value}(h:v6 R cs ds)(k:v6 R vs us)(off:Nat):v6 R (A5 cs off vs) (A5 ds off us):=by
 unfold A5;rw [k.length];exact ((h.take off).append k).append (h.drop _)
theorem c86{w:World}{F D:Nat->Prop}{ι:Nat->Nat->Value}{a4n:Nat->Option (Nat×Nat)}:∀{ps:List (Nat×V)} {qs:List (Nat×Value)} {a0Q:List V} {ds:Array Value} {out:List V},
  v6 (fun (x:Nat×V) (y:Nat×Value)=>x.1=y.1/\RV w F D ι x.2 y.2) ps qs->v6 (RC w F D ι) a0Q ds.toList->a9b a4n a0Q ps=some out->
  ∃es:Array Value,Instr.fill a4n ds qs=some es/\v6 (RC w F D ι) out es.toList
 | [],_,a0Q,ds,out,.nil,hc,h=>by
  simp [a9b] at h;subst h;exact ⟨ds,rfl,hc⟩
 | (i,v)::ps,(j,u)::qs,a0Q,ds,out,.cons ⟨hij,hv⟩ t,hc,h=>by
  simp only at hij;subst hij;simp only [a9b] at h;split at h
  ·cases h
  ·rename_i off size hp;split at h
   ·rename_i cs hcs;split at h
    ·rename_i hle;have hcell:=hv.cells hcs;have hlen:u.cells.size=size:=by
      have:=hcell.length;rw [<-hle.1,this];simp
     have hsz:a0Q.length=ds.size:=by simpa using hc.length
     have hout:=c0Q u.cells.toList 0 off ds (by simp only [Array.length_toList];omega);obtain ⟨es,he,hr⟩:=c86 (ds:=(u.cells.toList.zipIdx.foldl (fun (cs:Array Value) (x:Value×Nat)=>cs.setIfInBounds (off+x.2) x.1) ds)) t (by
      rw [hout];exact hc.splice hcell off) h
     refine ⟨es,?_,hr⟩;have hcond:(u.cells.size≠size||off+u.cells.size>ds.size)=false:=by
      simp [hlen];omega
     simp only [Instr.fill,hp,hcond];rw [<-he];simp only [f0O,if_false];congr 1
     rw [<-Array.foldl_toList,Array.toList_zipIdx]
    ·cases h
   ·cases h
def b12(ti:TI)(cs:List V)(off:Nat):Option V:=
 if ti.agg then (if off+ti.size<=cs.length then some (.agg ((cs.drop off).take ti.size)) else none) else cs[off]?
def a9m(cx:Cx)(s f:Nat):Option (Nat×TI):=
 match cx.T s with
 | some ti=>match ti.fs with
  | some fs=>match fs[f]? with
   | some (off,ft)=>match cx.T ft with
    | some fi=>if fi.size=0 then none else some (off,fi)
    | none=>none
   | none=>none
  | none=>none
 | none=>none
def b3X(cx:Cx)(t:Nat)(i:Nat):Option (Nat×Nat):=
 match cx.T t with
 | some ti=>match ti.fs with
  | some fs=>match fs[i]? with
   | some (off,ft)=>match cx.T ft with
    | some fi=>some (off,fi.size)
    | none=>none
   | none=>none
  | none=>none
 | none=>none
def b3Y(cx:Cx)(ty:Nat)(a b:V):Option V:=
 match a,b with
 | .b x,.b y=>match cx.T ty with
  | some ti=>if ti.bl then some (.b (x==y)) else none
  | none=>none
 | .agg cs,.agg ds=>match cx.E ty,a1Z cs,a1Z ds with
  | some m,some xs,some ys=>if xs.length=m/\ys.length=m then some (.b (xs==ys)) else none
  | _,_,_=>none
 | _,_=>none
def c0v(cx:Cx)(op:BinOp)(ty:Nat)(a b:V):Option (V×List Prop):=
 match a,b with
 | .i k x,.i k' y=>if k=k' then b8R op k x y else none
 | a,b=>match op with
  | .eql=>(b3Y cx ty a b).map (·,[])
  | .neq=>match b3Y cx ty a b with
   | some (.b x)=>some (.b (!x),[])
   | _=>none
  | _=>none
def c2z:V->Option Int
 | .nil=>some 0
 | .sl _ n _=>some n
 | .own _ _ _ _ n=>some n
 | _=>none
def c7V(c x y:V):Option V:=
 match c with
 | .b true=>some x
 | .b false=>some y
 | _=>none
def c61(x:V):Option V:=
 match x with
 | .ptr g j o=>some (.ptr g j o)
 | .eptr g j s i o=>some (.eptr g j s i o)
 | .fptr cs=>some (.fptr cs)
 | .fn f=>some (.fn f)
 | _=>none
def unV(op:UnOp)(x:V):Option V:=
 match op,x with
 | .not,.b v=>some (.b (!v))
 | .neg,.i k n=>some (.i k (k.wrap (0-n)))
 | _,_=>none
def c7P(cx:Cx)(s d:Nat)(x:V):Option V:=
 match cx.T s,cx.T d,x with
 | some si,some di,.i _ n=>match si.ik,di.ik with
  | some _,some k'=>some (.i k' (k'.wrap n))
  | _,_=>none
 | _,_,_=>none
def c8m(x:V)(k:Nat):Option V:=
 match x with
 | .tup cs=>cs[k]?
 | _=>none
def c4E(cx:Cx)(ty f:Nat)(x:V):Option V:=
 match a9m cx ty f,x with
 | some (off,fi),.agg cs=>b12 fi cs off
 | _,_=>none
def c3s(cx:Cx)(ty f:Nat)(x:V):Option V:=
 match a9m cx ty f,x with
 | some (off,_),.ptr g j o=>some (.ptr g j (o+off))
 | some (off,_),.eptr g j s i o=>some (.eptr g j s i (o+off))
 | some (off,_),.fptr cs=>some (.fptr (cs.drop off))
 | _,_=>none
def c43(cx:Cx)(l:List (Nat×Nat)):Bool:=l.all fun f=>(cx.T f.2).isSome
def d1F(cx:Cx)(ty:Nat)(parts:List (Nat×V)):Option V:=
 match cx.T ty with
 | some ti=>match ti.fs with
  | some l=>if c43 cx l then match a9b (b3X cx ty) ti.zero parts with
   | some cs=>some (.agg cs)
   | none=>none else none
  | none=>none
 | none=>none
def b9d(cx:Cx)(ty:Nat)(x:V):Option V:=
 match cx.T ty with
 | some ti=>match x with
  | .s b=>if ti.str then some (.i .i64 b.size) else none
  | v=>match ti.sl with
   | some _=>match c2z v with
    | some n=>some (.i .i64 n)
    | none=>none
   | none=>none
 | none=>none
def d2q(x y:V):Option V:=
 match x,y with
 | .i k a,.i k' b=>if k=k' then some (.i k (if b<a then b else a)) else none
 | _,_=>none
def b9I(cx:Cx)(ty:Nat)(x ix:V)(A:N2):Option (V×List Prop):=
 match cx.T ty,ix with
 | some ti,.i _ n=>match ti.sl with
  | some e=>match cx.T e with
   | some ei=>match x with
    | .sl sz m rows=>match A with
     | .row cs=>if ei.size=sz then some (.fptr cs,[0<=n,n<m,rows[n.toNat]?=some cs]) else none
     | _=>none
    | .own g j sz lo m=>if ei.size=sz then some (.eptr g j sz (lo+n.toNat) 0,[0<=n,n<m]) else none
    | _=>none
   | none=>none
  | none=>match ti.arr with
   | some (len,e)=>match cx.T e with
    | some ei=>match x with
     | .ptr g j 0=>some (.eptr g j ei.size n.toNat 0,[0<=n,n<len])
     | _=>none
    | none=>none
   | none=>none
 | _,_=>none
def c1B(cx:Cx)(ty:Nat)(x ix:V)(A:N2):Option (V×List Prop):=
 match cx.T ty,x,ix,A with
 | some ti,.agg cs,.i _ n,.val v=>match ti.arr with
  | some (len,e)=>match cx.T e with
   | some ei=>if ei.agg=false/\ei.size=1 then some (v,[0<=n,n<len,cs[n.toNat]?=some v]) else none
   | none=>none
  | none=>none
 | _,_,_,_=>none
def a6L(lo hi:Option V)(m:Nat):Option (Nat×Nat×List Prop):=
 match lo,hi with
 | some (.i _ l),some (.i _ h)=>some (l.toNat,h.toNat,[0<=l,l<=h,h<=m])
 | none,some (.i _ h)=>some (0,h.toNat,[0<=h,h<=m])
 | some (.i _ l),none=>some (l.toNat,m,[0<=l,l<=m])
 | none,none=>some (0,m,[])
 | _,_=>none
def c1C(cx:Cx)(ty:Nat)(x:V)(lo hi:Option V):Option (V×List Prop):=
 match cx.T ty with
 | some ti=>match ti.sl with
  | some e=>match cx.T e with
   | some ei=>match x with
    | .sl sz m rows=>match a6L lo hi m with
     | some (l,h,ps)=>if ei.size=sz then some (.sl sz (h-l) ((rows.drop l).take (h-l)),ps) else none
     | none=>none
    | .own g j sz lo0 m=>match a6L lo hi m with
     | some (l,h,ps)=>if ei.size=sz then some (.own g j sz (lo0+l) (h-l),ps) else none
     | none=>none
    | _=>none
   | none=>none
  | none=>none
 | none=>none
def a1V(o:Option V):Option (V×List Prop):=
 match o with
 | some v=>some (v,[])
 | none=>none
def Q8(cx:Cx)(op:Op)(t:List V)(A:N2):Option (V×List Prop):=
 match op with
 | .move x=>some (t0 t x,[])
 | .assign x=>some (t0 t x,[])
 | .pick c x y=>a1V (c7V (t0 t c) (t0 t x) (t0 t y))
 | .nilCheck x=>a1V (c61 (t0 t x))
 | .binOp o ty x y _=>c0v cx o ty (t0 t x) (t0 t y)
 | .unOp o _ x=>a1V (unV o (t0 t x))
 | .convert s d x=>a1V (c7P cx s d (t0 t x))
 | .makeFunc (.func f) first captured=>if first.toList.isEmpty&&captured.toList.isEmpty then some (.fn f,[]) else none
 | .extract x k=>a1V (c8m (t0 t x) k)
 | .field ty x f=>a1V (c4E cx ty f (t0 t x))
 | .fieldAddr ty x f=>a1V (c3s cx ty f (t0 t x))
 | .build ty parts=>a1V (d1F cx ty (parts.toList.map fun (i,x)=>(i,t0 t x)))
 | .call c=>match c.callee,c.args.toList,c.argTypes.toList with
  | .builtin .len,[x],[ty]=>a1V (b9d cx ty (t0 t x))
  | .builtin .min,[x,y],_=>a1V (d2q (t0 t x) (t0 t y))
  | _,_,_=>none
 | .indexAddr ty x ix=>b9I cx ty (t0 t x) (t0 t ix) A
 | .index ty x ix=>c1B cx ty (t0 t x) (t0 t ix) A
 | .slice ty x lo hi none=>c1C cx ty (t0 t x) (lo.map (t0 t)) (hi.map (t0 t))
 | _=>none
theorem b6p{α:Type}{sz:Nat}:∀{rows:List (List α)} (l:Nat),(∀r∈rows,r.length=sz)->(rows.drop l).flatten=rows.flatten.drop (l*sz)
 | [],l,_=>by simp
 | r::rows,0,_=>by simp
 | r::rows,l+1,h=>by
  have hr:r.length=sz:=h r (by simp);have e:(l+1)*sz-r.length=l*sz:=by rw [hr,f0A];omega
  have e':r.drop ((l+1)*sz)=[]:=e94 (by rw [hr,f0A];omega);rw [List.drop_succ_cons,b6p l (fun x hx=>h x (by simp [hx])),f0d,List.drop_append,e,e',f0H]
theorem c1i{α:Type}{sz:Nat}:∀{rows:List (List α)} (l:Nat),(∀r∈rows,r.length=sz)->(rows.take l).flatten=rows.flatten.take (l*sz)
 | [],l,_=>by simp
 | r::rows,0,_=>by simp
 | r::rows,l+1,h=>by
  have hr:r.length=sz:=h r (by simp);have e:(l+1)*sz-r.length=l*sz:=by rw [hr,f0A];omega
  have e':r.take ((l+1)*sz)=r:=f0k (by rw [hr,f0A];omega);rw [f1b,f0d,c1i l (fun x hx=>h x (by simp [hx])),f0d,List.take_append,e,e']
theorem a3y{α:Type}{sz:Nat}:∀{rows:List (List α)},(∀r∈rows,r.length=sz)->rows.flatten.length=rows.length*sz
 | [],_=>by simp
 | r::rows,h=>by
  rw [f0d,e91,a3y (fun x hx=>h x (by simp [hx])),h r (by simp),f0D,f0A];omega
theorem b1g{α:Type}{sz:Nat}{rows:List (List α)}{i:Nat}{r:List α}(h:∀r∈rows,r.length=sz)(hr:rows[i]?=some r):(rows.flatten.drop (i*sz)).take sz=r:=by
 rw [<-b6p i h];have hlt:=(e9T.1 hr).1;have he:=(e9T.1 hr).2;rw [e98 hlt,f0d,he];have:r.length=sz:=h r (he▸e9Q hlt);rw [f0N (by omega),f0k (by omega)]
theorem FL.drop{w:World}{F:Nat->Prop}{vs:List V}{cs:List Value}(h:FL w F vs cs)(n:Nat):FL w F (vs.drop n) (cs.drop n):=FL.of (h.all2.drop n)
theorem FL.take{w:World}{F:Nat->Prop}{vs:List V}{cs:List Value}(h:FL w F vs cs)(n:Nat):FL w F (vs.take n) (cs.take n):=FL.of (h.all2.take n)
theorem FL.length{w:World}{F:Nat->Prop}{vs:List V}{cs:List Value}(h:FL w F vs cs):vs.length=cs.length:=h.all2.length
theorem FV.sub{w:World}{F:Nat->Prop}{sz n:Nat}{rows:List (List V)}{b:Option Addr}{cap:Nat}(h:FV w F (.sl sz n rows) (.slice b n cap))(l m:Nat)(hm:l+m<=n) :
  FV w F (.sl sz m ((rows.drop l).take m)) (.slice (if cap=l then b else b.map (·.add (l*sz))) m (cap-l)):=by
 cases h with
 | sl0 sz a cap=>
  have:l=0:=by omega
  have:m=0:=by omega
  subst l;subst m;simpa using FV.sl0 sz _ _
 | sl sz n rows g o cap ds hF hr hn hs hc hseg=>
  have hrow:((rows.drop l).take m).length=m:=by simp [hn];omega
  by_cases he:cap=l
  ·have:m=0:=by omega
   subst this;rw [if_pos he];simpa using FV.sl0 sz _ _
  ·rw [if_neg he];simp only [f0K,a16];refine .sl sz m _ g (o+l*sz) (cap-l) ((ds.drop (l*sz)).take (m*sz)) hF ?_ hrow (fun r hr'=>hs r (f0B (f0v hr'))) (by omega) ((hseg.drop _).take _);rw [c1i m (fun r hr'=>hs r (f0B hr')),b6p l hs];exact (hr.drop _).take _
theorem FV.elem{w:World}{F:Nat->Prop}{sz n:Nat}{rows:List (List V)}{b:Option Addr}{cap:Nat}(h:FV w F (.sl sz n rows) (.slice b n cap)){i:Nat}{cs:List V}(hi:i<n)(hr:rows[i]?=some cs) :
  ∃g o ds,b=some ⟨g,o,none⟩/\F g/\FL w F cs ds/\M8 w g (o+i*sz) ds/\cs.length=sz:=by
 cases h with
 | sl0 sz a cap=>omega
 | sl sz n rows g o cap ds hF hrr hn hs hc hseg=>
  refine ⟨g,o,(ds.drop (i*sz)).take sz,rfl,hF,?_,(hseg.drop _).take _,?_⟩
  ·rw [<-b1g hs hr];exact (hrr.drop _).take _
  ·exact hs cs (e93 hr)
section
variable {cx:Cx} {w:World} {F D:Nat->Prop} {ι:Nat->Nat->Value} {t:List V} {a:Act} {o:Oper}
theorem c7E{ti:TI}{ty:Nat}{i:TypeInfo}{d:TypeDesc}{z:Value}(h:TF cx.P ty ti i d z){cs:List V}{ds:List Value}(hc:v6 (RC w F D ι) cs ds){off:Nat}{v:V}(hp:b12 ti cs off=some v) :
  ∃c,(part ty ds.toArray off).run cx.P w=.ok c w/\RV w F D ι v c:=by
 unfold b12 at hp;unfold part;simp only [Sem.run_bind,h.isAgg,Result.andThen_ok];by_cases ha:ti.agg=true
 ·rw [if_pos ha] at hp⊢;split at hp
  ·rename_i hle;injection hp with hp;subst hp;refine ⟨.agg (ds.toArray.extract off (off+ti.size)),by simp [Sem.run_bind,h.sizeOf],?_⟩;have:(ds.toArray.extract off (off+ti.size))=((ds.drop off).take ti.size).toArray:=by
    simp [List.extract_toArray,List.extract_eq_take_drop]
   rw [this];exact .one _ _ (.agg _ _ ((hc.drop off).take _))
  ·cases hp
 ·rw [if_neg ha] at hp⊢;obtain ⟨c,hc',hv⟩:=hc.get hp;exact ⟨c,by simp [hc'],.cell hv⟩
theorem d2k{s f:Nat}{off:Nat}{fi:TI}(h:a9m cx s f=some (off,fi)):∃ti i d z fs fld fii fd fz,TF cx.P s ti i d z/\d=.struct fs/\fs[f]?=some fld/\fld.offset=off/\TF cx.P fld.type fi fii fd fz/\fi.size≠0:=by
 unfold a9m at h;split at h
 ·rename_i ti hti;split at h
  ·rename_i l hl;split at h
   ·rename_i off' ft hf;split at h
    ·rename_i fi' hfi;split at h
     ·cases h
     ·rename_i hsz;injection h with h;injection h with h1 h2;subst h1;subst h2;obtain ⟨i,d,z,htf⟩:=cx.tf hti;obtain ⟨fs,hd,hfs⟩:=htf.isStruct hl;rw [<-hfs,f0x] at hf;obtain ⟨fld,hfld,he⟩:=f00.1 hf;injection he with he1 he2;subst he1;subst he2;obtain ⟨fii,fd,fz,hft⟩:=cx.tf hfi;exact ⟨ti,i,d,z,fs,fld,fii,fd,fz,htf,hd,by simpa using hfld,rfl,hft,hsz⟩
    ·cases h
   ·cases h
  ·cases h
 ·cases h
theorem c2m{s f off:Nat}{fi:TI}(h:a9m cx s f=some (off,fi))(g o:Nat):(Instr.fieldAt s (.pointer (some ⟨g,o,none⟩)) f).run cx.P w=.ok (.pointer (some ⟨g,o+off,none⟩)) w:=by
 obtain ⟨ti,i,d,z,fs,fld,fii,fd,fz,h1,rfl,h3,rfl,h5,h6⟩:=d2k h;simp [Instr.fieldAt,Sem.run_bind,h1.underlying,h3,Instr.sureAddr,fieldPlace,h5.sizeOf,h6,a16]
theorem d4Y{s f off:Nat}{fi:TI}(h:a9m cx s f=some (off,fi)){cs:List V}{ds:List Value}(hc:v6 (RC w F D ι) cs ds){v:V}(hp:b12 fi cs off=some v) :
  ∃c,(Instr.field s (.agg ds.toArray) f).run cx.P w=.ok c w/\RV w F D ι v c:=by
 obtain ⟨ti,i,d,z,fs,fld,fii,fd,fz,h1,rfl,h3,rfl,h5,h6⟩:=d2k h;obtain ⟨c,hr,hv⟩:=c7E h5 hc hp;exact ⟨c,by simp [Instr.field,Sem.run_bind,h1.underlying,h3,asAgg,hr],hv⟩
end
section
variable {cx:Cx} {w:World} {F D:Nat->Prop} {ι:Nat->Nat->Value} {t:List V} {a:Act} {o:Oper}
theorem e2h{op:BinOp}{k:IntKind}{x y:Int}{v:V}{ps:List Prop}(h:b8R op k x y=some (v,ps))(hp:∀p∈ps,p)(ty:TypeId)(p q:Operand) :
  ∃c,(do eqGuard op ty p q (.int k x) (.int k y);binOp op ty (.int k x) (.int k y):Sem Value).run cx.P w=.ok c w/\FV w F v c:=by
 cases op<;>simp only [b8R] at h<;>first|(cases h;done)|skip
 all_goals
  injection h with h;injection h with h1 h2;subst h1;subst h2
 case add=>exact ⟨_,by simp [eqGuard,binOp,Op.intArith],.i _ _⟩
 case sub=>exact ⟨_,by simp [eqGuard,binOp,Op.intArith],.i _ _⟩
 case mul=>exact ⟨_,by simp [eqGuard,binOp,Op.intArith],.i _ _⟩
 case quo=>
  have hy:y≠0:=hp _ (by simp);exact ⟨_,by simp [eqGuard,binOp,Op.intDiv,hy],.i _ _⟩
 case rem=>
  have hy:y≠0:=hp _ (by simp);exact ⟨_,by simp [eqGuard,binOp,Op.intDiv,hy],.i _ _⟩
 case eql=>exact ⟨_,by simp [eqGuard,binOp,Op.intCmp],.b _⟩
 case neq=>exact ⟨_,by simp [eqGuard,binOp,Op.intCmp],.b _⟩
 case lss=>exact ⟨_,by simp [eqGuard,binOp,Op.intCmp],.b _⟩
 case leq=>exact ⟨_,by simp [eqGuard,binOp,Op.intCmp],.b _⟩
 case gtr=>exact ⟨_,by simp [eqGuard,binOp,Op.intCmp],.b _⟩
 case geq=>exact ⟨_,by simp [eqGuard,binOp,Op.intCmp],.b _⟩
 case xor=>exact ⟨.int k (a6t k x y),by simp [eqGuard,binOp,Op.intBits,a6t],.i _ _⟩
theorem b7M{vs:List V}{ds:List Value}(hall:v6 (RC w F D ι) vs ds):∀{xs:List Int},a1Z vs=some xs->ds=xs.map (Value.int .i64):=by
 induction hall with
 | nil=>intro xs h;simp [a1Z] at h;subst h;rfl
 | cons hc ht ih=>
  intro xs h;unfold a1Z at h;split at h
  ·rename_i heq;cases heq
  ·rename_i n vs' heq;injection heq with h1 h2;subst h1;subst h2;obtain ⟨ys,hy,rfl⟩:=f00.1 h;rw [ih hy];cases hc with
   | fv v c h=>cases h;rfl
  ·cases h
theorem d20{ty:Nat}{u v r:V}(h:b3Y cx ty u v=some r){c d:Value}(hc:RV w F D ι u c)(hd:RV w F D ι v d) :
  ∃x:Bool,r=.b x/\(∀p q op,(eqGuard op ty p q c d).run cx.P w=.ok () w)/\(binOp .eql ty c d).run cx.P w=.ok (.bool x) w/\(binOp .neq ty c d).run cx.P w=.ok (.bool (!x)) w:=by
 unfold b3Y at h;split at h
 ·rename_i x y;split at h
  ·rename_i ti hti;split at h
   ·rename_i hbl;injection h with h;subst h;obtain rfl:=hc.inv_b;obtain rfl:=hd.inv_b;obtain ⟨i,dd,z,htf⟩:=cx.tf hti;have hu:cx.P.underlying ty=some .bool:=by rw [htf.und,htf.isBl hbl]
    refine ⟨_,rfl,fun p q op => ?_,?_,?_⟩
    ·cases op<;>simp [eqGuard]
    ·simp [binOp,run_equal_bool w ty x y hu]
    ·simp [binOp,run_equal_bool w ty x y hu]
   ·cases h
  ·cases h
 ·rename_i cs ds;split at h
  ·rename_i m xs ys hm hx hy;split at h
   ·rename_i hl;injection h with h;subst h;obtain ⟨cs',rfl,hcs⟩:=hc.inv_agg;obtain ⟨ds',rfl,hds⟩:=hd.inv_agg;rw [b7M hcs hx,b7M hds hy];have he:=cx.hE ty m hm xs ys w hl.1 hl.2;refine ⟨_,rfl,fun p q op => ?_,?_,?_⟩
    ·cases op<;>simp [eqGuard,cx.hG ty m hm]
    ·simp [binOp,he]
    ·simp [binOp,he]
   ·cases h
  ·cases h
 ·cases h
theorem e2c{op:BinOp}{ty:Nat}{u v r:V}{ps:List Prop}(h:c0v cx op ty u v=some (r,ps))(hp:∀p∈ps,p){c d:Value}(hc:RV w F D ι u c)(hd:RV w F D ι v d)(p q:Operand) :
  ∃e,(do eqGuard op ty p q c d;binOp op ty c d:Sem Value).run cx.P w=.ok e w/\FV w F r e:=by
 unfold c0v at h;split at h
 ·rename_i k x k' y;split at h
  ·rename_i hk;subst hk;obtain rfl:=hc.inv_i;obtain rfl:=hd.inv_i;exact e2h h hp ty p q
  ·cases h
 ·split at h
  ·obtain ⟨r',hr,he⟩:=f00.1 h;injection he with h1 h2;subst h1;obtain ⟨x,rfl,hg,he,_⟩:=d20 hr hc hd;exact ⟨.bool x,by simp [Sem.run_bind,hg,he],.b _⟩
  ·split at h
   ·rename_i x hx;injection h with h;injection h with h1 h2;subst h1;obtain ⟨x',hxx,hg,_,he⟩:=d20 hx hc hd;injection hxx with hxx;subst hxx;exact ⟨.bool (!x),by simp [Sem.run_bind,hg,he],.b _⟩
   ·cases h
  ·cases h
end
section
variable {cx:Cx} {w:World} {F D:Nat->Prop} {ι:Nat->Nat->Value} {t:List V} {a:Act} {o:Oper}
theorem d6Z{g j sz lo n:Nat}{c:Value}(h:RV w F D ι (.own g j sz lo n) c):∃b cap,c=.slice b n cap:=by
 obtain ⟨_,⟨b,nn,cap,_,_,_,_,rfl⟩|⟨_,rfl,b,cap,rfl⟩⟩:=h.inv_own
 ·exact ⟨_,_,rfl⟩
 ·exact ⟨_,_,rfl⟩
theorem b6F{sz n:Nat}{rows:List (List V)}{c:Value}(h:FV w F (.sl sz n rows) c):∃b cap,c=.slice b n cap/\n<=cap:=by
 cases h with
 | sl0 sz a cap=>exact ⟨a,cap,rfl,f07 _⟩
 | sl sz n rows g o cap ds hF hr hn hs hc hseg=>exact ⟨_,cap,rfl,hc⟩
theorem d9y{v:V}{n:Int}(h:c2z v=some n){c:Value}(hc:RV w F D ι v c):∃b m cap,c=.slice b m cap/\(m:Int)=n:=by
 unfold c2z at h;split at h
 ·injection h with h;obtain rfl:=hc.inv_nil;exact ⟨_,_,_,rfl,h⟩
 ·injection h with h;obtain ⟨b,cap,rfl,_⟩:=b6F hc.inv_sl;exact ⟨_,_,_,rfl,h⟩
 ·injection h with h;obtain ⟨b,cap,rfl⟩:=d6Z hc;exact ⟨_,_,_,rfl,h⟩
 ·cases h
theorem e31{ty:Nat}{ti:TI}{i:TypeInfo}{d:TypeDesc}{z:Value}(hT:cx.T ty=some ti)(h:TF cx.P ty ti i d z){fs:Array Field}(hd:d=.struct fs)(hfs:fs.toList.map (fun f=>(f.offset,f.type))=(ti.fs.getD []))(hs:ti.fs.isSome=true){k:Nat}{q:Nat×Nat}(hk:b3X cx ty k=some q) :
  ∃f,fs[k]?=some f/\q.1=f.offset/\∃fi,cx.T f.type=some fi/\q.2=fi.size:=by
 unfold b3X at hk;rw [hT] at hk;simp only at hk;split at hk
 ·rename_i l hl;split at hk
  ·rename_i off ft hf;split at hk
   ·rename_i fi hfi;injection hk with hk;subst hk;rw [hl] at hfs;simp only [f0U] at hfs;rw [<-hfs,f0x] at hf;obtain ⟨f,hf1,hf2⟩:=f00.1 hf;injection hf2 with h1 h2;subst h1;subst h2;exact ⟨f,by simpa using hf1,rfl,fi,hfi,rfl⟩
   ·cases hk
  ·cases hk
 ·cases hk
theorem c31{a4n c4G:Nat->Option (Nat×Nat)}:∀{ps:List (Nat×Value)} {a0Q out:Array Value},(∀x∈ps,∀q,a4n x.1=some q->c4G x.1=some q)->Instr.fill a4n a0Q ps=some out->Instr.fill c4G a0Q ps=some out
 | [],a0Q,out,_,h=>h
 | (i,v)::ps,a0Q,out,hp,h=>by
  simp only [Instr.fill] at h⊢;cases hpi:a4n i with
  | none=>rw [hpi] at h;cases h
  | some q=>
   rw [hp (i,v) (by simp) q hpi];rw [hpi] at h;obtain ⟨off,size⟩:=q;simp only at h⊢;split at h
   ·cases h
   ·rename_i hc;rw [if_neg hc];exact c31 (fun x hx=>hp x (by simp [hx])) h
theorem c9r{P:Program}{w:World}:∀(fs:List Field),(∀f∈fs,∃i,P.info? f.type=some i)->∃places:List (Nat×Nat),fs.mapM (fun f=>(P.info? f.type).map fun i=>(f.offset,i.size))=some places/\
  ∀(k:Nat) (f:Field),fs[k]?=some f->∀i,P.info? f.type=some i->places[k]?=some (f.offset,i.size)
 | [],_=>⟨[],by simp,by simp⟩
 | f::fs,h=>by
  obtain ⟨i,hi⟩:=h f (by simp);obtain ⟨places,hp,hk⟩:=c9r (P:=P) (w:=w) fs (fun x hx=>h x (by simp [hx]));refine ⟨(f.offset,i.size)::places,by simp [List.mapM_cons,hi,hp],?_⟩;intro k f' hf i' hi';cases k with
  | zero=>simp at hf;subst hf;rw [hi] at hi';injection hi' with hi';subst hi';simp
  | succ k=>simpa using hk k f' (by simpa using hf) i' hi'
theorem e0k{ty:Nat}{ti:TI}(hT:cx.T ty=some ti){l:List (Nat×Nat)}(hl:ti.fs=some l)(hall:c43 cx l=true)(ht:v6 (RV w F D ι) t a.tmps.toList){parts:Array (Nat×Operand)}{cs:List V}(hf:a9b (b3X cx ty) ti.zero (parts.toList.map fun (i,x)=>(i,t0 t x))=some cs) :
  ∃c,(Instr.build ty (parts.map fun (i,x)=>(i,a.eval x))).run cx.P w=.ok c w/\RV w F D ι (.agg cs) c:=by
 obtain ⟨i,d,z,htf⟩:=cx.tf hT;obtain ⟨fs,rfl,hfs⟩:=htf.isStruct hl;have hz:v6 (RC w F D ι) ti.zero z.cells.toList:=by
  rw [<-htf.zeros];exact (FL.ofCells (w:=w) (F:=F) _ htf.one).all2.imp fun _ _ x=>.fv _ _ x
 have hps:∀qs:List (Nat×Operand),v6 (fun (x:Nat×V) (y:Nat×Value)=>x.1=y.1/\RV w F D ι x.2 y.2) (qs.map fun (i,x)=>(i,t0 t x)) (qs.map fun (i,x)=>(i,a.eval x)):=by
  intro qs;induction qs with
  | nil=>exact .nil
  | cons q qs ih=>exact .cons ⟨rfl,D5 ht q.2⟩ ih
 obtain ⟨es,he,hr⟩:=c86 (hps parts.toList) hz hf;have hinfo:∀f∈fs.toList,∃i,cx.P.info? f.type=some i:=by
  intro f hfm;have hmem:(f.offset,f.type)∈l:=by rw [<-hfs];exact f0l.2 ⟨f,hfm,rfl⟩
  have:=e9W.1 hall _ hmem;obtain ⟨fi,hfi⟩:=Option.isSome_iff_exists.1 this;obtain ⟨i',_,_,h'⟩:=cx.tf hfi;exact ⟨i',h'.info⟩
 obtain ⟨places,hpl,hpk⟩:=c9r (P:=cx.P) (w:=w) fs.toList hinfo;have hb:cx.P.built ty (parts.map fun (i,x)=>(i,a.eval x)).toList=some es:=by
  unfold Program.built;rw [htf.info,htf.und];simp only [htf.zero,hpl];rw [Array.toList_map];refine c31 ?_ he;intro x _ q hq;obtain ⟨f,hfk,h1,fi,hfi,h2⟩:=e31 hT htf rfl (by rw [hl];exact hfs) (by rw [hl];rfl) hq;obtain ⟨i',_,_,h'⟩:=cx.tf hfi;have:=hpk x.1 f (by simpa using hfk) i' h'.info;simp only [List.getElem?_toArray,this,h'.size];rw [<-h1,<-h2]
 refine ⟨.agg es,run_build w ty _ es hb,?_⟩;have:=RA.agg cs es.toList hr;simpa using RV.one _ _ this
theorem b9B{ty e:Nat}{ti ei:TI}(hT:cx.T ty=some ti)(hs:ti.sl=some e)(hE:cx.T e=some ei){b:Option Addr}{n cap:Nat}(hcap:n<=cap){lo hi:Option Value}{l h:Nat}(hlo:(lo=none/\l=0)\/∃k i,lo=some (.int k i)/\0<=i/\i.toNat=l)(hhi:(hi=none/\h=n)\/∃k i,hi=some (.int k i)/\0<=i/\i.toNat=h)(hlh:l<=h)(hh:h<=n) :
  (Instr.sliceAt ty (.slice b n cap) lo hi none).run cx.P w=.ok (.slice (if cap=l then b else b.map (·.add (l*ei.size))) (h-l) (cap-l)) w:=by
 obtain ⟨i,d,z,htf⟩:=cx.tf hT;obtain ⟨i',d',z',hef⟩:=cx.tf hE;obtain rfl:=htf.isSl hs;have hb:(Instr.sliceBounds true n cap lo hi none).run cx.P w=.ok (l,h,cap) w:=by
  rcases hlo with ⟨rfl,rfl⟩|⟨k,x,rfl,hx,hxl⟩<;>rcases hhi with ⟨rfl,rfl⟩|⟨k',y,rfl,hy,hyl⟩
  ·simp [Instr.sliceBounds]
  ·have h2:y<=(cap:Int):=by omega
   simp [Instr.sliceBounds,Instr.sliceBound,asIntOf,hy,h2,hyl]
  ·have h2:x<=(h:Int):=by omega
   simp [Instr.sliceBounds,Instr.sliceBound,asIntOf,hx,h2,hxl]
  ·have h2:y<=(cap:Int):=by omega
   have h3:x<=(h:Int):=by omega
   simp [Instr.sliceBounds,Instr.sliceBound,asIntOf,hy,h2,hyl,hx,h3,hxl]
 simp [Instr.sliceAt,Instr.slice,Sem.run_bind,htf.underlying,hb,hef.sizeOf]
theorem d3m{lo hi:Option Operand}{m:Nat}{l h:Nat}{ps:List Prop}(ht:v6 (RV w F D ι) t a.tmps.toList)(hb:a6L (lo.map (t0 t)) (hi.map (t0 t)) m=some (l,h,ps))(hp:∀p∈ps,p) :
  ((lo.map a.eval=none/\l=0)\/∃k i,lo.map a.eval=some (.int k i)/\0<=i/\i.toNat=l)/\((hi.map a.eval=none/\h=m)\/∃k i,hi.map a.eval=some (.int k i)/\0<=i/\i.toNat=h)/\l<=h/\h<=m:=by
 have ev:∀{x:Operand} {k n},t0 t x=.i k n->a.eval x=.int k n:=fun {x k n} he=>(he▸D5 ht x).inv_i
 cases lo with
 | none=>cases hi with
  | none=>
   simp [a6L] at hb;obtain ⟨rfl,rfl,rfl⟩:=hb;simp
  | some y=>
   simp only [Option.map_none,f0K] at hb;unfold a6L at hb;split at hb<;>try (cases hb;done)
   ·simp_all
   ·rename_i k i h1 h2;injection h2 with h2;injection hb with hb;injection hb with e1 e2;injection e2 with e2 e3;subst e1;subst e2;subst e3;have b1:0<=i:=hp _ (by simp);have b2:i<=m:=hp _ (by simp);exact ⟨.inl ⟨rfl,rfl⟩,.inr ⟨k,i,by simp [ev h2],b1,rfl⟩,by omega,by omega⟩
   ·simp_all
   ·simp_all
 | some x=>cases hi with
  | none=>
   simp only [Option.map_none,f0K] at hb;unfold a6L at hb;split at hb<;>try (cases hb;done)
   ·simp_all
   ·simp_all
   ·rename_i k i h1 h2;injection h1 with h1;injection hb with hb;injection hb with e1 e2;injection e2 with e2 e3;subst e1;subst e2;subst e3;have b1:0<=i:=hp _ (by simp);have b2:i<=m:=hp _ (by simp);exact ⟨.inr ⟨k,i,by simp [ev h1],b1,rfl⟩,.inl ⟨rfl,rfl⟩,by omega,by omega⟩
   ·simp_all
  | some y=>
   simp only [f0K] at hb;unfold a6L at hb;split at hb<;>try (cases hb;done)
   ·rename_i k i k' i' h1 h2;injection h1 with h1;injection h2 with h2;injection hb with hb;injection hb with e1 e2;injection e2 with e2 e3;subst e1;subst e2;subst e3;have b1:0<=i:=hp _ (by simp);have b2:i<=i':=hp _ (by simp);have b3:i'<=m:=hp _ (by simp);exact ⟨.inr ⟨k,i,by simp [ev h1],b1,rfl⟩,.inr ⟨k',i',by simp [ev h2],by omega,rfl⟩,by omega,by omega⟩
   ·simp_all
   ·simp_all
   ·simp_all
theorem d78{ty:Nat}{x:Operand}{lo hi:Option Operand}{v:V}{ps:List Prop}(ht:v6 (RV w F D ι) t a.tmps.toList)(h:c1C cx ty (t0 t x) (lo.map (t0 t)) (hi.map (t0 t))=some (v,ps))(hp:∀p∈ps,p) :
  ∃c,(Instr.sliceAt ty (a.eval x) (lo.map a.eval) (hi.map a.eval) none).run cx.P w=.ok c w/\RV w F D ι v c:=by
 unfold c1C at h;split at h<;>try (cases h;done)
 rename_i ti hti;split at h<;>try (cases h;done)
 rename_i e hs;split at h<;>try (cases h;done)
 rename_i ei hei;have hx:=D5 ht x;split at h<;>try (cases h;done)
 ·rename_i sz m rows hv;rw [hv] at hx;split at h<;>try (cases h;done)
  rename_i l hh ps' hb;split at h<;>try (cases h;done)
  rename_i hsz;injection h with h;injection h with h1 h2;subst h1;subst h2;obtain ⟨b1,b2,b3,b4⟩:=d3m ht hb hp;have hfv:=hx.inv_sl;obtain ⟨b,cap,hc,hcap⟩:=b6F hfv;rw [hc] at hfv⊢;refine ⟨_,b9B hti hs hei hcap b1 b2 b3 b4,?_⟩;rw [hsz];exact .fv (hfv.sub l (hh-l) (by omega))
 ·rename_i g j sz lo0 m hv;rw [hv] at hx;split at h<;>try (cases h;done)
  rename_i l hh ps' hb;split at h<;>try (cases h;done)
  rename_i hsz;injection h with h;injection h with h1 h2;subst h1;subst h2;obtain ⟨b1,b2,b3,b4⟩:=d3m ht hb hp;obtain ⟨hD,⟨b,nn,cap,hι,hlo,hb0,hb1,hc⟩|⟨hl0,rfl,b,cap,hc⟩⟩:=hx.inv_own;case inr=>
   rw [hc];refine ⟨_,b9B hti hs hei (f07 _) b1 b2 b3 b4,?_⟩;have:hh-l=0:=by omega
   rw [this];exact .cell (.own0 g j sz _ _ _ hD (by omega))
  rw [hc];refine ⟨_,b9B hti hs hei (by omega) b1 b2 b3 b4,?_⟩;rw [hsz];have hrc:=RC.own (w:=w) (F:=F) g j sz (lo0+l) (hh-l) b nn cap hD hι (by omega) hb0 hb1;have e1:cap-lo0-l=cap-(lo0+l):=by omega
  have e2:(if cap-lo0=l then (if cap=lo0 then b else b.map (·.add (lo0*sz))) else (if cap=lo0 then b else b.map (·.add (lo0*sz))).map (·.add (l*sz)))=(if cap=lo0+l then b else b.map (·.add ((lo0+l)*sz)))\/hh-l=0:=by
   by_cases q:cap-lo0=l
   ·right;omega
   ·left
    rw [if_neg q,if_neg (show ¬cap=lo0+l by omega)];by_cases q2:cap=lo0
    ·omega
    ·rw [if_neg q2];cases b with
     | none=>rfl
     | some ad=>
      rw [hb1 ad rfl];simp only [f0K,a16,Nat.add_mul,f0y]
  rcases e2 with e2|e2
  ·rw [e2,e1];exact .cell hrc
  ·by_cases q:lo0+l=0
   ·have q1:lo0=0:=by omega
    have q2:l=0:=by omega
    subst q1;subst q2;by_cases q3:cap=0
    ·subst q3;simpa using RV.cell hrc
    ·have hm:∀b:Option Addr,b.map (·.add (0*sz))=b:=by intro b;cases b<;>simp [Addr.add]
     simp only [if_neg q3,f1y,f01,hm] at hrc⊢;exact .cell hrc
   ·rw [e2];exact .cell (.own0 g j sz _ _ _ hD (by omega))
end
section
variable {cx:Cx} {w:World} {F D:Nat->Prop} {ι:Nat->Nat->Value} {t:List V} {a:Act} {o:Oper}
theorem d4b{ty:Nat}{x ix:Operand}{A:N2}{v:V}{ps:List Prop}(ht:v6 (RV w F D ι) t a.tmps.toList)(h:b9I cx ty (t0 t x) (t0 t ix) A=some (v,ps))(hp:∀p∈ps,p) :
  ∃c,(Instr.indexAt ty (a.eval x) (a.eval ix)).run cx.P w=.ok c w/\RV w F D ι v c:=by
 have hx:=D5 ht x;have hi:=D5 ht ix;unfold b9I at h;split at h<;>try (cases h;done)
 rename_i ti k n hti hk;rw [hk] at hi;rw [hi.inv_i];obtain ⟨i,d,z,htf⟩:=cx.tf hti;split at h
 ·rename_i e hs;obtain rfl:=htf.isSl hs;split at h<;>try (cases h;done)
  rename_i ei hei;obtain ⟨i',d',z',hef⟩:=cx.tf hei;split at h<;>try (cases h;done)
  ·rename_i sz m rows hv;rw [hv] at hx;split at h<;>try (cases h;done)
   rename_i cs;split at h<;>try (cases h;done)
   rename_i hsz;injection h with h;injection h with h1 h2;subst h1;subst h2;have p1:0<=n:=hp _ (by simp);have p2:n<m:=hp _ (by simp);have p3:rows[n.toNat]?=some cs:=hp _ (by simp);have hfv:=hx.inv_sl;obtain ⟨b,cap,hc,hcap⟩:=b6F hfv;rw [hc] at hfv⊢;obtain ⟨g,o,ds,rfl,hF,hfl,hseg,hl⟩:=hfv.elem (i:=n.toNat) (by omega) p3;refine ⟨.pointer (some ⟨g,o+n.toNat*sz,none⟩),?_,.cell (.fptr cs g _ ds hF hfl hseg)⟩;simp [Instr.indexAt,asIntOf,Sem.run_bind,htf.underlying,p1,p2,hef.sizeOf,a16,hsz]
  ·rename_i g j sz lo m hv;rw [hv] at hx;split at h<;>try (cases h;done)
   rename_i hsz;injection h with h;injection h with h1 h2;subst h1;subst h2;have p1:0<=n:=hp _ (by simp);have p2:n<m:=hp _ (by simp);obtain ⟨hD,⟨b,nn,cap,hι,hlo,hb0,hb1,hc⟩|⟨hl0,rfl,b,cap,hc⟩⟩:=hx.inv_own;case inr=>omega
   rw [hc,if_neg (show ¬cap=lo by omega)];cases b with
   | none=>have:=hb0 rfl;omega
   | some ad=>
    have had:=hb1 ad rfl;refine ⟨.pointer (some ⟨ad.block,(lo+n.toNat)*sz+0,none⟩),?_,.cell (.eptr g j sz (lo+n.toNat) 0 ad.block hD (by rw [hι];rfl))⟩;rw [had];simp [Instr.indexAt,asIntOf,Sem.run_bind,htf.underlying,p1,p2,hef.sizeOf,a16,hsz,Nat.add_mul]
 ·split at h<;>try (cases h;done)
  rename_i len e hs;obtain rfl:=htf.isArr hs;split at h<;>try (cases h;done)
  rename_i ei hei;obtain ⟨i',d',z',hef⟩:=cx.tf hei;split at h<;>try (cases h;done)
  rename_i g j hv;rw [hv] at hx;injection h with h;injection h with h1 h2;subst h1;subst h2;have p1:0<=n:=hp _ (by simp);have p2:n<len:=hp _ (by simp);obtain ⟨hD,b,hι,hc⟩:=hx.inv_ptr;rw [hc];refine ⟨.pointer (some ⟨b,n.toNat*ei.size+0,none⟩),?_,.cell (.eptr g j ei.size n.toNat 0 b hD (by rw [hι];rfl))⟩;simp [Instr.indexAt,asIntOf,Sem.run_bind,htf.underlying,p1,p2,hef.sizeOf,a16,Instr.sureAddr]
theorem d9v{ty:Nat}{x ix:Operand}{A:N2}{v:V}{ps:List Prop}(ht:v6 (RV w F D ι) t a.tmps.toList)(h:c1B cx ty (t0 t x) (t0 t ix) A=some (v,ps))(hp:∀p∈ps,p) :
  ∃c,(Instr.index ty (a.eval x) (a.eval ix)).run cx.P w=.ok c w/\RV w F D ι v c:=by
 have hx:=D5 ht x;have hi:=D5 ht ix;unfold c1B at h;split at h<;>try (cases h;done)
 rename_i ti cs k n u hti hv hk;rw [hk] at hi;rw [hi.inv_i];rw [hv] at hx;obtain ⟨ds,hc,hall⟩:=hx.inv_agg;rw [hc];obtain ⟨i,d,z,htf⟩:=cx.tf hti;split at h<;>try (cases h;done)
 rename_i len e hs;obtain rfl:=htf.isArr hs;split at h<;>try (cases h;done)
 rename_i ei hei;obtain ⟨i',d',z',hef⟩:=cx.tf hei;split at h<;>try (cases h;done)
 rename_i hag;injection h with h;injection h with h1 h2;subst h1;subst h2;have p1:0<=n:=hp _ (by simp);have p2:n<len:=hp _ (by simp);have p3:cs[n.toNat]?=some u:=hp _ (by simp);obtain ⟨c,hr,hv'⟩:=c7E (off:=n.toNat) hef hall (v:=u) (by unfold b12;rw [if_neg (by simp [hag.1])];exact p3);refine ⟨c,?_,hv'⟩;simp [Instr.index,asIntOf,Sem.run_bind,htf.underlying,p1,p2,hef.sizeOf,hag.2,hr]
theorem e3m{ty:Nat}{x:Operand}{v:V}(ht:v6 (RV w F D ι) t a.tmps.toList)(h:b9d cx ty (t0 t x)=some v) :
  ∃c,∀rt,(Builtin.len_ #[ty] rt #[a.eval x]).run cx.P w=.ok c w/\RV w F D ι v c:=by
 have hx:=D5 ht x;unfold b9d at h;split at h<;>try (cases h;done)
 rename_i ti hti;obtain ⟨i,d,z,htf⟩:=cx.tf hti;split at h
 ·rename_i b hv;rw [hv] at hx;split at h<;>try (cases h;done)
  rename_i hs;injection h with h;subst h;obtain rfl:=htf.isStr hs;rw [hx.inv_s];exact ⟨_,fun rt=>⟨by simp [Builtin.len_,Sem.run_bind,htf.underlying,goInt],.fv (.i _ _)⟩⟩
 ·split at h<;>try (cases h;done)
  rename_i e hs;split at h<;>try (cases h;done)
  rename_i n hn;injection h with h;subst h;obtain rfl:=htf.isSl hs;obtain ⟨b,m,cap,hc,rfl⟩:=d9y hn hx;rw [hc];exact ⟨_,fun rt=>⟨by simp [Builtin.len_,Sem.run_bind,htf.underlying,goInt],.fv (.i _ _)⟩⟩
theorem d5Y{ty f:Nat}{x:Operand}{v:V}(ht:v6 (RV w F D ι) t a.tmps.toList)(h:c3s cx ty f (t0 t x)=some v) :
  ∃c,(Instr.fieldAt ty (a.eval x) f).run cx.P w=.ok c w/\RV w F D ι v c:=by
 have hx:=D5 ht x;unfold c3s at h;split at h<;>try (cases h;done)
 ·rename_i off fi g j o hf hv;rw [hv] at hx;injection h with h;subst h;obtain ⟨hD,b,hι,hc⟩:=hx.inv_ptr;rw [hc];exact ⟨_,c2m hf b o,.cell (.ptr g j (o+off) b hD hι)⟩
 ·rename_i off fi g j s i o hf hv;rw [hv] at hx;injection h with h;subst h;obtain ⟨hD,b,hι,hc⟩:=hx.inv_eptr;rw [hc];exact ⟨_,c2m hf b _,by have:=RC.eptr (w:=w) (F:=F) g j s i (o+off) b hD hι;rw [<-Nat.add_assoc] at this;exact .cell this⟩
 ·rename_i off fi cs hf hv;rw [hv] at hx;injection h with h;subst h;obtain ⟨g,o,ds,hF,hfl,hseg,hc⟩:=hx.inv_fptr;rw [hc];exact ⟨_,c2m hf g o,.cell (.fptr _ g (o+off) _ hF (hfl.drop off) (hseg.drop off))⟩
theorem a2W{o:Option V}{v:V}{ps:List Prop}(h:a1V o=some (v,ps)):o=some v:=by
 unfold a1V at h;split at h
 ·injection h with h;injection h with h;subst h;rfl
 ·cases h
theorem d4S{ob:Oper}{v:V}{ps:List Prop}{A:N2}(ht:v6 (RV w F D ι) t a.tmps.toList)(h:Q8 cx ob.op t A=some (v,ps))(hp:∀p∈ps,p) :
  ∃c,(execOp a.eval ob).run cx.P w=.ok (.value c) w/\RV w F D ι v c:=by
 obtain ⟨dst,op,rt,pos,after,guard⟩:=ob;simp only at h;unfold Q8 at h;split at h
 ·rename_i x;injection h with h;injection h with h1 h2;subst h1;exact ⟨_,by simp [execOp],D5 ht x⟩
 ·rename_i x;injection h with h;injection h with h1 h2;subst h1;exact ⟨_,by simp [execOp],D5 ht x⟩
 ·rename_i c x y;replace h:=a2W h
  have hc:=D5 ht c;unfold c7V at h;split at h<;>try (cases h;done)
  ·rename_i hb;rw [hb] at hc;injection h with h;subst h;exact ⟨_,by simp [execOp,hc.inv_b,asBool],D5 ht x⟩
  ·rename_i hb;rw [hb] at hc;injection h with h;subst h;exact ⟨_,by simp [execOp,hc.inv_b,asBool],D5 ht y⟩
 ·rename_i x;replace h:=a2W h
  have hx:=D5 ht x;unfold c61 at h;split at h<;>try (cases h;done)
  ·rename_i hb;rw [hb] at hx;injection h with h;subst h;obtain ⟨hD,b,hι,hc⟩:=hx.inv_ptr;exact ⟨a.eval x,by simp [execOp,hc],hx⟩
  ·rename_i hb;rw [hb] at hx;injection h with h;subst h;obtain ⟨hD,b,hι,hc⟩:=hx.inv_eptr;exact ⟨a.eval x,by simp [execOp,hc],hx⟩
  ·rename_i hb;rw [hb] at hx;injection h with h;subst h;obtain ⟨g,o,ds,hF,hfl,hseg,hc⟩:=hx.inv_fptr;exact ⟨a.eval x,by simp [execOp,hc],hx⟩
  ·rename_i hb;rw [hb] at hx;injection h with h;subst h;exact ⟨a.eval x,by simp [execOp,hx.inv_fn],hx⟩
 ·rename_i bo ty x y yt;obtain ⟨e,he,hv⟩:=e2c h hp (D5 ht x) (D5 ht y) x y;refine ⟨e,?_,.fv hv⟩;simp only [execOp];rw [Sem.run_bind,he];rfl
 ·rename_i uo ty x;replace h:=a2W h
  have hx:=D5 ht x;unfold unV at h;split at h<;>try (cases h;done)
  ·rename_i hb;rw [hb] at hx;injection h with h;subst h;exact ⟨_,by simp [execOp,hx.inv_b,Op.unary],.fv (.b _)⟩
  ·rename_i hb;rw [hb] at hx;injection h with h;subst h;exact ⟨_,by simp [execOp,hx.inv_i,Op.unary,Op.intArith],.fv (.i _ _)⟩
 ·rename_i s d x;replace h:=a2W h
  have hx:=D5 ht x;unfold c7P at h;split at h<;>try (cases h;done)
  rename_i si di k n h1 h2 hb;rw [hb] at hx;split at h<;>try (cases h;done)
  rename_i k1 k2 hk1 hk2;injection h with h;subst h;obtain ⟨_,_,_,hs⟩:=cx.tf h1;obtain ⟨_,_,_,hd⟩:=cx.tf h2;obtain rfl:=hs.isInt hk1;obtain rfl:=hd.isInt hk2;exact ⟨_,by simp [execOp,hx.inv_i,convert,Sem.run_bind,hs.underlying,hd.underlying,Conv.intToInt],.fv (.i _ _)⟩
 ·rename_i f first captured;split at h<;>try (cases h;done)
  rename_i hb;injection h with h;injection h with h1 h2;subst h1;simp at hb;refine ⟨.func (.func f) #[] #[],by simp [execOp,Instr.makeFunc,hb.1,hb.2],.fv (.fn f)⟩
 ·rename_i x k;replace h:=a2W h
  have hx:=D5 ht x;unfold c8m at h;split at h<;>try (cases h;done)
  rename_i cs hb;rw [hb] at hx;obtain ⟨ds,hc,hall⟩:=hx.inv_tup;obtain ⟨c,hk,hv⟩:=hall.get h;exact ⟨c,by simp [execOp,hc,Instr.extract,hk],hv.toRV⟩
 ·rename_i ty x f;replace h:=a2W h
  have hx:=D5 ht x;unfold c4E at h;split at h<;>try (cases h;done)
  rename_i off fi cs hf hb;rw [hb] at hx;obtain ⟨ds,hc,hall⟩:=hx.inv_agg;obtain ⟨c,hr,hv⟩:=d4Y hf hall h;exact ⟨c,by simp [execOp,hc,hr],hv⟩
 ·rename_i ty x f;obtain ⟨c,hr,hv⟩:=d5Y ht (a2W h);exact ⟨c,by simp [execOp,hr],hv⟩
 ·rename_i ty parts;replace h:=a2W h
  unfold d1F at h;split at h<;>try (cases h;done)
  rename_i ti hti;split at h<;>try (cases h;done)
  rename_i l hl;split at h<;>try (cases h;done)
  rename_i hall;split at h<;>try (cases h;done)
  rename_i cs hcs;injection h with h;subst h;obtain ⟨c,hr,hv⟩:=e0k (w:=w) hti hl hall ht hcs;exact ⟨c,by simp [execOp,hr],hv⟩
 ·rename_i cl;obtain ⟨callee,args,argTypes⟩:=cl;simp only at h;split at h<;>try (cases h;done)
  ·rename_i x ty hargs htys;have ha:args = #[x]:=by simpa using congrArg f1l hargs
   have hy:argTypes = #[ty]:=by simpa using congrArg f1l htys
   subst ha;subst hy;obtain ⟨c,hr⟩:=e3m ht (a2W h);exact ⟨c,by simp [execOp,resolve,invoke,builtin,(hr rt).1],(hr rt).2⟩
  ·rename_i tys x y hargs;have ha:args = #[x,y]:=by simpa using congrArg f1l hargs
   subst ha;replace h:=a2W h
   have hx:=D5 ht x;have hy:=D5 ht y;unfold d2q at h;split at h<;>try (cases h;done)
   rename_i k n k' m h1 h2;rw [h1] at hx;rw [h2] at hy;split at h<;>try (cases h;done)
   rename_i hk;subst hk;injection h with h;subst h;exact ⟨_,by simp [execOp,resolve,invoke,builtin,Builtin.min_,Builtin.min2,hx.inv_i,hy.inv_i],.fv (.i _ _)⟩
 ·rename_i ty x ix;obtain ⟨c,hr,hv⟩:=d4b ht h hp;exact ⟨c,by simp [execOp,hr],hv⟩
 ·rename_i ty x ix;obtain ⟨c,hr,hv⟩:=d9v ht h hp;exact ⟨c,by simp [execOp,hr],hv⟩
 ·rename_i ty x lo hi;obtain ⟨c,hr,hv⟩:=d78 ht h hp;exact ⟨c,by simp [execOp,hr],hv⟩
 ·cases h
end
abbrev N1:=(Nat×Nat)×s4
def S0(lo n n':Nat)(rows:List (List V)):Nat×List (List V)×List Prop:=
 match lo with
 | 0=>(n',rows,[n=n'])
 | lo+1=>(n,(rows.drop (lo+1)).take n,[lo+1+n<=n'])
theorem a9T{lo n n':Nat}{rows:List (List V)}(hl:rows.length=n')(h:∀p∈(S0 lo n n' rows).2.2,p):lo+n<=n'/\(S0 lo n n' rows).1=n/\(S0 lo n n' rows).2.1=(rows.drop lo).take n:=by
 cases lo with
 | zero=>
  have:n=n':=h _ (by simp [S0]);subst this;refine ⟨by omega,rfl,?_⟩;show rows=_
  rw [f0G,f0k (by omega)]
 | succ lo=>
  have:lo+1+n<=n':=h _ (by simp [S0]);exact ⟨this,rfl,rfl⟩
def fzP(ck:Option Nat)(v:V):j6 (V×List N1×List Prop):=
 match v with
 | .own g j sz lo n=>j6.bind (j6.rd g j) fun e=>
  match e with
  | .row _ sz' n' rows=>if sz=sz' then j6.pure (.sl sz (S0 lo n n' rows).1 (S0 lo n n' rows).2.1,[((g,j),.frz sz' n' rows)],(S0 lo n n' rows).2.2) else j6.no
  | .frz sz' n' rows=>if sz=sz' then j6.pure (.sl sz (S0 lo n n' rows).1 (S0 lo n n' rows).2.1,[],(S0 lo n n' rows).2.2) else j6.no
  | _=>j6.no
 | .nil=>match ck with
  | some sz=>j6.pure (.sl sz 0 [],[],[])
  | none=>j6.pure (.nil,[],[])
 | .sl sz n rows=>j6.pure (.sl sz n rows,[],[])
 | .b x=>j6.pure (.b x,[],[])
 | .i k n=>j6.pure (.i k n,[],[])
 | .s x=>j6.pure (.s x,[],[])
 | .fn f=>j6.pure (.fn f,[],[])
 | _=>j6.no
def b3M:List (Option Nat)->List V->j6 (List V×List N1×List Prop)
 | _,[]=>j6.pure ([],[],[])
 | ck,v::vs=>j6.bind (fzP (ck.headD none) v) fun x=>j6.bind (b3M ck.tail vs) fun y=>j6.pure (x.1::y.1,x.2.1++y.2.1,x.2.2++y.2.2)
def Frz(S S':St):Prop:=(∀g,S.D g↔S'.D g)/\S'.h.length=S.h.length/\S'.t=S.t/\∀g j e,S.ent g j=some e->S'.ent g j=some e\/∃e' sz n rows,e=.row e' sz n rows/\S'.ent g j=some (.frz sz n rows)
theorem Frz.refl(S:St):Frz S S:=⟨fun _=>Iff.rfl,rfl,rfl,fun _ _ _ h=>.inl h⟩
theorem j6.bind_some{α β:Type}{m:j6 α}{f:α->j6 β}{H:Hp}{r:β×List (Nat×Nat)}(h:j6.bind m f H=some r):∃a l l',m H=some (a,l)/\f a H=some (r.1,l')/\r.2=l++l':=by
 unfold j6.bind at h;split at h
 ·rename_i a l hm;split at h
  ·rename_i b l' hf;injection h with h;subst h;exact ⟨a,l,l',hm,hf,rfl⟩
  ·cases h
 ·cases h
theorem j6.pure_some{α:Type}{a:α}{H:Hp}{r:α×List (Nat×Nat)}(h:j6.pure a H=some r):r=(a,[]):=by
 unfold j6.pure at h;injection h with h;exact h.symm
theorem j6.rd_some{g j:Nat}{H:Hp}{r:s4×List (Nat×Nat)}(h:j6.rd g j H=some r):H g j=some r.1/\r.2=[(g,j)]:=by
 unfold j6.rd at h;split at h
 ·rename_i e he;injection h with h;subst h;exact ⟨he,rfl⟩
 ·cases h
theorem j6.lift_some{α:Type}{o:Option α}{H:Hp}{r:α×List (Nat×Nat)}(h:j6.lift o H=some r):o=some r.1/\r.2=[]:=by
 unfold j6.lift at h;split at h
 ·rename_i a;injection h with h;subst h;exact ⟨rfl,rfl⟩
 ·cases h
theorem a0a{α:Type}:∀{l:List α} {i:Nat} {x:α},l[i]?=some x->l.set i x=l
 | [],_,_,h=>by simp at h
 | y::l,0,x,h=>by simp at h;subst h;rfl
 | y::l,i+1,x,h=>by simp at h;simp [a0a h]
section
variable {Γ:N0} {F:Nat->Prop} {ι:Nat->Nat->Value} {S S':St} {a:Act} {w:World}
theorem St.upds_t(S:St):∀us:List N1,(S.upds us).t=S.t
 | []=>rfl
 | ((g,j),e)::us=>by rw [St.upds,St.upds_t,a7b]
theorem St.upds_append(S:St):∀us vs:List N1,S.upds (us++vs)=(S.upds us).upds vs
 | [],_=>rfl
 | ((g,j),e)::us,vs=>by simp only [f1q,St.upds];exact St.upds_append _ us vs
theorem a0d(S:St)(g:Nat):∀us:List N1,(S.upds us).D g↔S.D g
 | []=>Iff.rfl
 | ((g',j),e)::us=>by rw [St.upds,a0d,P7]
theorem St.upds_len(S:St):∀us:List N1,(S.upds us).h.length=S.h.length
 | []=>rfl
 | ((g',j),e)::us=>by rw [St.upds,St.upds_len,a9d]
theorem FV.rows_len{w:World}{F:Nat->Prop}{sz n:Nat}{rows:List (List V)}{c:Value}(h:FV w F (.sl sz n rows) c):rows.length=n:=by
 cases h with
 | sl0 sz a cap=>rfl
 | sl sz n rows g o cap ds hF hr hn hs hc hseg=>exact hn
theorem a5d{D:Nat->Prop}{e sz n' lo n g j:Nat}{rows:List (List V)}{c:Value}(hr:FV w F (.sl sz n' rows) (ι g j))(hc:RC w F D ι (.own g j sz lo n) c)(hle:lo+n<=n'):FV w F (.sl sz n ((rows.drop lo).take n)) c:=by
 cases hc with
 | fv v c h=>cases h
 | own g j sz lo n b nn cap hD hι hlo hb0 hb1=>
  rw [hι] at hr;obtain ⟨b',cap',he,_⟩:=b6F hr;injection he with h1 h2 h3;subst h1;subst h2;subst h3;exact hr.sub lo n hle
 | own0 g j sz lo b cap hD hlo=>
  simpa using FV.sl0 sz b cap
theorem b3y{ck:Option Nat}{v v':V}{us:List N1}{ps:List Prop}{lg:List (Nat×Nat)}{c:Value}(h:t7 Γ F ι S' a w)(hS:Frz S S')(hc:RC w F S'.D ι v c)(hf:fzP ck v S.ent=some ((v',us,ps),lg))(hob:∀p∈ps,p) :
  ∃F',(∀k,F k->F' k)/\t7 Γ F' ι (S'.upds us) a w/\Frz S (S'.upds us)/\FV w F' v' c:=by
 unfold fzP at hf;split at hf
 ·rename_i g j sz lo n;obtain ⟨e,l,l',hrd,hf',hll⟩:=j6.bind_some hf;clear hf;have hf:=hf';clear hf' hll;obtain ⟨he,hl⟩:=j6.rd_some hrd;clear hrd;simp only at he hl;split at hf
  ·rename_i e0 sz' n' rows;split at hf
   ·rename_i hcond;subst hcond;have:=j6.pure_some hf;injection this with h1 h2;injection h1 with h1 h3;injection h3 with h3 h4;subst h1;subst h3;subst h4;have hlen:rows.length=n':=by
     rcases hS.2.2.2 g j _ he with hs'|⟨e',sz1,n1,rows1,hq,hs'⟩
     ·obtain ⟨flat,_,_,hn,_⟩:=h.ents g j _ hs';exact hn
     ·injection hq with q1 q2 q3 q4;subst q1;subst q2;subst q3;subst q4;have hr:FV w F (.sl sz n' rows) (ι g j):=h.ents g j _ hs';exact hr.rows_len
    obtain ⟨hle,hp1,hp2⟩:=a9T hlen hob;rw [hp1,hp2];rcases hS.2.2.2 g j _ he with hs'|⟨e',sz1,n1,rows1,hq,hs'⟩
    ·obtain ⟨F',hF,_,hrel⟩:=h.freeze hs';refine ⟨F',hF,hrel,⟨fun k=>(hS.1 k).trans (P7.symm),a9d.trans hS.2.1,a7b.trans hS.2.2.1,?_⟩,?_⟩
     ·intro g1 j1 e1 h1;simp only [St.upds];rw [P4 hs'];by_cases q:g1=g/\j1=j
      ·obtain ⟨rfl,rfl⟩:=q;rw [he] at h1;injection h1 with h1;subst h1;exact .inr ⟨_,_,_,_,rfl,by simp⟩
      ·rw [if_neg q];exact hS.2.2.2 g1 j1 e1 h1
     ·have hre:=hrel.ents g j (.frz sz n' rows) (by rw [P4 hs'];simp);exact a5d (D:=S'.D) (e:=e0) hre (hc.mono (fun _ _ _=>rfl) hF (fun _ x=>x) (fun _ _ _=>rfl)) hle
    ·injection hq with q1 q2 q3 q4;subst q1;subst q2;subst q3;subst q4;have hset:S'.setE g j (.frz sz n' rows)=S':=by
      obtain ⟨l,hl⟩:=St.D_of_ent hs';rw [a2E hl];rw [a1c hl] at hs';have h1:l.set j (.frz sz n' rows)=l:=a0a hs';rw [h1];have h2:S'.h.set g (some l)=S'.h:=a0a hl;rw [h2]
     refine ⟨F,fun _ x=>x,?_,?_,?_⟩
     ·simp only [St.upds,hset];exact h
     ·simp only [St.upds,hset];exact hS
     ·exact a5d (D:=S'.D) (e:=e0) (h.ents g j _ hs') hc hle
   ·cases hf
  ·rename_i sz' n' rows;split at hf
   ·rename_i hcond;subst hcond;have:=j6.pure_some hf;injection this with h1 h2;injection h1 with h1 h3;injection h3 with h3 h4;subst h1;subst h3;subst h4;rcases hS.2.2.2 g j _ he with hs'|⟨e',sz1,n1,rows1,hq,hs'⟩
    ·have hr:FV w F (.sl sz n' rows) (ι g j):=h.ents g j _ hs';obtain ⟨hle,hp1,hp2⟩:=a9T hr.rows_len hob;rw [hp1,hp2];exact ⟨F,fun _ x=>x,h,hS,a5d (D:=S'.D) (e:=0) (h.ents g j _ hs') hc hle⟩
    ·cases hq
   ·cases hf
  ·cases hf
 all_goals
  first
   | (cases hf;done)
   | skip
 case h_2=>
  have hcc:c=.slice none 0 0:=by
   cases hc with
   | fv v c h=>cases h;rfl
  subst hcc;split at hf
  ·rename_i sz;have:=j6.pure_some hf;injection this with h1 h2;injection h1 with h1 h3;injection h3 with h3 h4;subst h1;subst h3;subst h4;exact ⟨F,fun _ x=>x,h,hS,.sl0 sz none 0⟩
  ·have:=j6.pure_some hf;injection this with h1 h2;injection h1 with h1 h3;injection h3 with h3 h4;subst h1;subst h3;subst h4;exact ⟨F,fun _ x=>x,h,hS,.nil⟩
 all_goals
  have:=j6.pure_some hf;injection this with h1 h2;injection h1 with h1 h3;injection h3 with h3 h4;subst h1;subst h3;subst h4;refine ⟨F,fun _ x=>x,h,hS,?_⟩;cases hc with
  | fv v c h=>exact h
theorem d1K{vs:List V}{cs:List Value}:∀{ck:List (Option Nat)} {vs':List V} {us:List N1} {ps:List Prop} {lg:List (Nat×Nat)} {F:Nat->Prop} {S':St},t7 Γ F ι S' a w->Frz S S'->v6 (RC w F S'.D ι) vs cs->b3M ck vs S.ent=some ((vs',us,ps),lg)->(∀p∈ps,p)->
  ∃F',(∀k,F k->F' k)/\t7 Γ F' ι (S'.upds us) a w/\Frz S (S'.upds us)/\FL w F' vs' cs:=by
 induction vs generalizing cs with
 | nil=>
  intro ck vs' us ps lg F S' h hS hc hf hob;have:=j6.pure_some hf;injection this with h1 h2;injection h1 with h1 h3;injection h3 with h3 h4;subst h1;subst h3;subst h4;cases hc;exact ⟨F,fun _ x=>x,h,hS,.nil⟩
 | cons v vs ih=>
  intro ck vs' us ps lg F S' h hS hc hf hob;cases hc with
  | cons hv ht=>
   obtain ⟨⟨v1,us1,ps1⟩,l1,l2,hf1,hf2,_⟩:=j6.bind_some hf;obtain ⟨⟨vs1,us2,ps2⟩,l3,l4,hf3,hf4,_⟩:=j6.bind_some hf2;have:=j6.pure_some hf4;injection this with h1 h2;injection h1 with h1 h3;injection h3 with h3 h4;subst h1;subst h3;subst h4;obtain ⟨F1,hF1,hr1,hS1,hv1⟩:=b3y h hS hv hf1 (fun p hp=>hob p (e9P.2 (.inl hp)));have hD:∀k,S'.D k->(S'.upds us1).D k:=fun k x=>(a0d S' k us1).2 x
   obtain ⟨F2,hF2,hr2,hS2,hv2⟩:=ih hr1 hS1 (ht.imp fun _ _ x=>x.mono (fun _ _ _=>rfl) hF1 hD (fun _ _ _=>rfl)) hf3 (fun p hp=>hob p (e9P.2 (.inr hp)));rw [<-St.upds_append] at hr2 hS2;exact ⟨F2,fun k x=>hF2 k (hF1 k x),hr2,hS2,.cons _ _ _ _ (hv1.mono (fun _ _ _=>rfl) hF2) hv2⟩
end
def St.apply(S:St)(grp:Nat)(dst:Option Nat)(o:B6):St:=
 let S1:=S.upds o.upd;let S2:=match o.new with
  | none=>S1
  | some new=>S1.lay grp new
 {S2 with t:=R2 S2.t dst o.v}
def S5(P:Program)(Γ:N0)(ι:Nat->Nat->Value)(S:St)(grp:Nat)(ob:Oper)(out:B6)(a:Act)(w:World):Prop:=
 ∃nx c w' F' ι',(execOp a.eval ob).run P w=.ok nx w'/\(nx=.value c\/(nx=.skip/\c=undef))/\t7 Γ F' ι' (S.apply grp ob.dst out) (a.put ob.dst c) w'
def K9(ι:Nat->Nat->Value)(grp:Nat)(c:Value):Nat->Nat->Value:=fun g j=>if g=grp then c else ι g j
theorem a8x{ι:Nat->Nat->Value}{grp g j:Nat}{c:Value}(h:g≠grp):K9 ι grp c g j=ι g j:=by simp [K9,h]
theorem O2{ι:Nat->Nat->Value}{grp j:Nat}{c:Value}:K9 ι grp c grp j=c:=by simp [K9]
section
variable {cx:Cx} {Γ:N0} {F:Nat->Prop} {ι:Nat->Nat->Value} {S:St} {a:Act} {w:World}
theorem t7.new1(h:t7 Γ F ι S a w){grp:Nat}(hg:grp<S.h.length)(hn:¬S.D grp){w':World}(hgr:w.grownBy w' none){ent:s4}{c0:Value}(hb:∀k,EB w' ent c0 k->w.heap.size<=k)(hre:RE w' F (S.lay grp [ent]).D (K9 ι grp c0) ent c0):t7 Γ F (K9 ι grp c0) (S.lay grp [ent]) a w':=by
 have h':=h.world (w':=w') ⟨hgr.os,hgr.tape,hgr.output⟩ hgr.size (fun k hk=>hgr.block k hk (by simp));refine h'.lay hg hn (fun g j q=>a8x q) ?_ ?_ ?_ ?_
 ·intro j e he;cases j with
  | zero=>simp at he;subst he;rw [O2];exact hre
  | succ j=>simp at he
 ·intro j e k he hl hk;rw [O2] at hk;cases j with
  | succ j=>simp at he
  | zero=>
  simp at he;subst he;have:=hb k hk;refine ⟨fun hF => ?_,.inr (f0c h.kept.size this)⟩;have:=h.F1 k hF;omega
 ·intro j e j' e' k he he' _ _ _ _;cases j<;>cases j'<;>simp_all
 ·intro j e g' j' e' k he he' _ hl' hk hk';rw [O2] at hk;cases j with
  | succ j=>simp at he
  | zero=>
  simp at he;subst he;have h1:=hb k hk;have h2:=h.lt he' hl' ((h.ents g' j' e' he').back (fun k q=>hgr.block k (h.lt he' hl' q) (by simp)) hk');omega
theorem a4x(w:World)(o:Obj):w.grownBy (w.alloc o) none:=World.grownBy_alloc w o none
theorem e1K{grp:Nat}{new:List s4}(hn:¬S.D grp){c0:Value}:(∀g,S.D g->(S.lay grp new).D g)/\(∀g j,S.D g->K9 ι grp c0 g j=ι g j):=
 ⟨fun g x=>b7a x,fun g j x=>a8x fun q=>hn (q▸x)⟩
def c3q(cx:Cx)(grp:Nat)(e:Nat):Option B6:=
 match cx.T e with
 | some ti=>match ti.arr with
  | some (n,ee)=>match cx.T ee with
   | some ei=>some {v:=.ptr grp 0 0,new:=some [.arr e ei.size n (e9O n ei.zero)],obl:=[(e9O n ei.zero).flatten=ti.zero/\ei.zero.length=ei.size]}
   | none=>none
  | none=>some {v:=.ptr grp 0 0,new:=some [.var e ti.zero]}
 | none=>none
theorem d32{P:Program}{t:Nat}{ti:TI}{i:TypeInfo}{d:TypeDesc}{z:Value}{w:World}(h:TF P t ti i d z):(Instr.alloc t true (.tuple #[])).run P w=.ok (.pointer (some ⟨w.heap.size,0,none⟩)) (w.alloc (.cells z.cells t)):=by
 simp [Instr.alloc,Sem.run_bind,h.zeroValue,newVar,newRow,newObj,Sem.run]
theorem e5T{P:Program}{t:Nat}{v:Value}{w:World}:(Instr.box t v).run P w=.ok (.pointer (some ⟨w.heap.size,0,none⟩)) (w.alloc (.cells v.cells t)):=by
 simp [Instr.box,newVar,newRow,newObj,Sem.run]
theorem a7R(w:World)(o:Obj):(w.alloc o).heap[w.heap.size]?=some o:=heap_alloc_new w o
theorem e2k(h:t7 Γ F ι S a w){grp:Nat}(hg:grp<S.h.length)(hn:¬S.D grp){ob:Oper}{e:Nat}(ho:ob.op=.alloc e){out:B6}(hp:c3q cx grp e=some out)(hob:∀p∈out.obl,p):S5 cx.P Γ ι S grp ob out a w:=by
 unfold c3q at hp;split at hp<;>try (cases hp;done)
 rename_i ti hti;obtain ⟨i,d,z,htf⟩:=cx.tf hti;have hrun:(execOp a.eval ob).run cx.P w=.ok (.value (.pointer (some ⟨w.heap.size,0,none⟩))) (w.alloc (.cells z.cells e)):=by
  simp [execOp,ho,d32 htf]
 have hz:FL (w.alloc (.cells z.cells e)) F ti.zero z.cells.toList:=by rw [<-htf.zeros];exact FL.ofCells _ htf.one
 split at hp
 ·rename_i n ee harr;split at hp<;>try (cases hp;done)
  rename_i ei hei;injection hp with hp;subst hp;have hq:=hob _ (e9Z.2 rfl);have hrel:=h.new1 hg hn (a4x w (.cells z.cells e)) (ent:=.arr e ei.size n (e9O n ei.zero)) (c0:=.pointer (some ⟨w.heap.size,0,none⟩))
   (by intro k hk;simp [EB,B5] at hk;omega) ⟨w.heap.size,z.cells,rfl,a7R w _,by rw [hq.1];exact hz,by simp,by intro r hr;rw [(f0r.1 hr).2];exact hq.2⟩
  refine ⟨_,_,_,F,K9 ι grp (.pointer (some ⟨w.heap.size,0,none⟩)),hrun,.inl rfl,?_⟩;exact hrel.put ob.dst (.cell (.ptr grp 0 0 w.heap.size (a0y hg) O2))
 ·injection hp with hp;subst hp;have hrel:=h.new1 hg hn (a4x w (.cells z.cells e)) (ent:=.var e ti.zero) (c0:=.pointer (some ⟨w.heap.size,0,none⟩))
   (by intro k hk;simp [EB,B5] at hk;omega) ⟨w.heap.size,z.cells,rfl,a7R w _,hz.all2.imp fun _ _ x=>.fv _ _ x⟩
  refine ⟨_,_,_,F,K9 ι grp (.pointer (some ⟨w.heap.size,0,none⟩)),hrun,.inl rfl,?_⟩;exact hrel.put ob.dst (.cell (.ptr grp 0 0 w.heap.size (a0y hg) O2))
def b9Y(cx:Cx)(grp:Nat)(e:Nat)(v:V):Option B6:=
 match v.cells with
 | some cs=>some {v:=.ptr grp 0 0,new:=some [.var e cs]}
 | none=>none
theorem d8Y(h:t7 Γ F ι S a w){grp:Nat}(hg:grp<S.h.length)(hn:¬S.D grp){ob:Oper}{e:Nat}{x:Operand}(ho:ob.op=.box e x){out:B6}(hp:b9Y cx grp e (t0 S.t x)=some out):S5 cx.P Γ ι S grp ob out a w:=by
 unfold b9Y at hp;split at hp<;>try (cases hp;done)
 rename_i cs hcs;injection hp with hp;subst hp;have hrun:(execOp a.eval ob).run cx.P w=.ok (.value (.pointer (some ⟨w.heap.size,0,none⟩))) (w.alloc (.cells (a.eval x).cells e)):=by
  simp [execOp,ho,e5T]
 have hc:=(D5 h.tmps x).cells hcs;have hs:G8 w (w.alloc (.cells (a.eval x).cells e)) F:=a0N fun g hg=>(a4x w _).block g (h.F1 g hg) (by simp)
 obtain ⟨m1,m2⟩:=e1K (S:=S) (ι:=ι) (new:=[.var e cs]) hn (c0:=.pointer (some ⟨w.heap.size,0,none⟩));have hrel:=h.new1 hg hn (a4x w (.cells (a.eval x).cells e)) (ent:=.var e cs) (c0:=.pointer (some ⟨w.heap.size,0,none⟩))
  (by intro k hk;simp [EB,B5] at hk;omega) ⟨w.heap.size,_,rfl,a7R w _,hc.imp fun _ _ x=>x.mono hs (fun _ y=>y) m1 m2⟩
 refine ⟨_,_,_,F,K9 ι grp (.pointer (some ⟨w.heap.size,0,none⟩)),hrun,.inl rfl,?_⟩;exact hrel.put ob.dst (.cell (.ptr grp 0 0 w.heap.size (a0y hg) O2))
def Q4(ti:TI)(cs:List V):Option V:=
 if ti.agg then (if ti.size<=cs.length then some (.agg (cs.take ti.size)) else none) else cs[0]?
def b3I(cx:Cx)(ty:Nat)(x:V)(A:N2):j6 B6:=
 match cx.T ty with
 | none=>j6.no
 | some ti=>match x with
  | .ptr g j off=>j6.bind (j6.rd g j) fun e=>match e with
   | .var _ cs=>match Q4 ti (cs.drop off) with
    | some v=>j6.pure {v:=v}
    | none=>j6.no
   | .arr _ sz n rows=>if off=0/\ti.agg=true/\ti.arr.isSome then j6.pure {v:=.agg rows.flatten,obl:=[n*sz=ti.size]} else j6.no
   | _=>j6.no
  | .eptr g j sz idx off=>j6.bind (j6.rd g j) fun e=>match A with
   | .row r=>match Q4 ti (r.drop off) with
    | some v=>match e with
     | .row _ sz' n rows=>if sz'=sz then j6.pure {v:=v,obl:=[rows[idx]?=some r]} else j6.no
     | .arr _ sz' n rows=>if sz'=sz then j6.pure {v:=v,obl:=[rows[idx]?=some r]} else j6.no
     | _=>j6.no
    | none=>j6.no
   | _=>j6.no
  | .fptr cs=>match Q4 ti cs with
   | some v=>j6.pure {v:=v}
   | none=>j6.no
  | _=>j6.no
theorem a4U{D:Nat->Prop}{ti:TI}{cs:List V}{ds:List Value}{v:V}(h:v6 (RC w F D ι) cs ds)(hr:Q4 ti cs=some v):∃c,a9Y ti ds=some c/\RV w F D ι v c:=by
 unfold Q4 at hr;unfold a9Y;by_cases ha:ti.agg=true
 ·rw [if_pos ha] at hr⊢;split at hr<;>try (cases hr;done)
  rename_i hle;injection hr with hr;subst hr;rw [<-h.length,if_pos hle];exact ⟨_,rfl,.one _ _ (.agg _ _ (h.take _))⟩
 ·rw [if_neg ha] at hr⊢;obtain ⟨c,hc,hv⟩:=h.get hr;exact ⟨c,hc,.cell hv⟩
theorem a5v{g:Nat}{cur:Array Value}{e:Nat}{fr:Nat×Nat}(hg:w.heap[g]?=some (.cells cur e fr))(o:Nat):M8 w g o (cur.toList.drop o):=by
 intro j u hu;rw [cell_of_row w g (o+j) cur e fr hg];rw [List.getElem?_drop] at hu;simpa using hu
theorem a5x{ob:Oper}{ty:Nat}{ti:TI}{i:TypeInfo}{d:TypeDesc}{z:Value}{x:Operand}(ho:ob.op=.load ty x)(htf:TF cx.P ty ti i d z){g o:Nat}(hx:a.eval x=.pointer (some ⟨g,o,none⟩)){ds:List Value}(hs:M8 w g o ds){c:Value}(hc:a9Y ti ds=some c) :
  (execOp a.eval ob).run cx.P w=.ok (.value c) w:=by
 simp [execOp,ho,hx,Instr.loadAt,Instr.sureAddr,Sem.run_bind,c7M htf hs hc]
theorem e6Q{e sz n:Nat}{rows:List (List V)}{c:Value}{b idx:Nat}{r:List V}(h:OR w F e sz c n rows)(hb:B5 c=some b)(hr:rows[idx]?=some r):∃ds,FL w F r ds/\M8 w b (idx*sz) ds:=by
 obtain ⟨flat,ho,hf,hn,hl⟩:=h;rcases ho.2 with ⟨hv,h0⟩|⟨g0,cap,cur,hv,_,hg,hnc,hcm,hcs,ht⟩
 ·rw [hv] at hb;cases hb
 ·rw [hv] at hb;simp [B5] at hb;subst hb;refine ⟨(flat.drop (idx*sz)).take sz,?_,?_⟩
  ·rw [<-b1g hl hr];exact (hf.drop _).take _
  ·have hseg:M8 w g0 0 flat:=by
    rw [<-ht];have:=(a5v hg 0).take (n*sz);simpa using this
   have:=(hseg.drop (idx*sz)).take sz;simpa using this
theorem e2e{g:Nat}{cur:Array Value}{e sz:Nat}{rows:List (List V)}{idx:Nat}{r:List V}(hg:w.heap[g]?=some (.cells cur e (0,0)))(hf:FL w F rows.flatten cur.toList)(hl:∀r∈rows,r.length=sz)(hr:rows[idx]?=some r):∃ds,FL w F r ds/\M8 w g (idx*sz) ds:=by
 refine ⟨(cur.toList.drop (idx*sz)).take sz,?_,(a5v hg _).take _⟩;rw [<-b1g hl hr];exact (hf.drop _).take _
theorem a53(S:St)(grp:Nat)(dst:Option Nat)(v:V)(ps:List Prop):S.apply grp dst {v:=v,obl:=ps}={S with t:=R2 S.t dst v}:=rfl
theorem e4M(h:t7 Γ F ι S a w){grp:Nat}{ob:Oper}{ty:Nat}{x:Operand}{A:N2}(ho:ob.op=.load ty x){out:B6}{lg:List (Nat×Nat)}(hp:b3I cx ty (t0 S.t x) A S.ent=some (out,lg))(hob:∀p∈out.obl,p):S5 cx.P Γ ι S grp ob out a w:=by
 have hx:=D5 h.tmps x;unfold b3I at hp;cases hti:cx.T ty with
 | none=>rw [hti] at hp;cases hp
 | some ti=>
 rw [hti] at hp;obtain ⟨i,d,z,htf⟩:=cx.tf hti;generalize t0 S.t x=xv at hp hx;cases xv<;>try (cases hp;done)
 case ptr g j off=>
  obtain ⟨hD,b,hι,hc⟩:=hx.inv_ptr;obtain ⟨e,l1,l2,hrd,hp',hl12⟩:=j6.bind_some hp;clear hp;have he:=(j6.rd_some hrd).1;simp only at he;have hre:=h.ents g j e he;split at hp'<;>try (cases hp';done)
  ·rename_i e0 cs;obtain ⟨g0,cur,h1,hg,hcs⟩:=hre;rw [hι] at h1;injection h1 with h1;injection h1 with h1;injection h1 with h1;subst h1;cases hrv:Q4 ti (cs.drop off) with
   | none=>rw [hrv] at hp';cases hp'
   | some v=>
   rw [hrv] at hp';have:=j6.pure_some hp';injection this with h2 h3;subst h2;obtain ⟨c,hrd',hvc⟩:=a4U (hcs.drop off) hrv;exact ⟨_,c,w,F,ι,a5x ho htf hc (a5v hg off) hrd',.inl rfl,by rw [a53];exact h.put ob.dst hvc⟩
  ·rename_i e0 sz n rows;obtain ⟨g0,cur,h1,hg,hf,hn,hl⟩:=hre;rw [hι] at h1;injection h1 with h1;injection h1 with h1;injection h1 with h1;subst h1;split at hp'<;>try (cases hp';done)
   rename_i hcond;have:=j6.pure_some hp';injection this with h2 h3;subst h2;have hsz:n*sz=ti.size:=hob _ (e9Z.2 rfl);have hlen:cur.toList.length=ti.size:=by rw [<-hf.length,a3y hl,hn,hsz]
   refine ⟨_,.agg cur,w,F,ι,a5x ho htf (by rw [hc,hcond.1]) (a5v hg 0) (c:=.agg cur) ?_,.inl rfl,?_⟩
   ·unfold a9Y;rw [if_pos hcond.2.1,if_pos (by simp [<-hlen]),f0G,<-hlen,f0o]
   ·rw [a53];refine h.put ob.dst ?_;have:=RV.ofFL (D:=S.D) (ι:=ι) hf;simpa using this
 case eptr g j sz idx off=>
  obtain ⟨hD,b,hι,hc⟩:=hx.inv_eptr;obtain ⟨e,l1,l2,hrd,hp',hl12⟩:=j6.bind_some hp;clear hp;have he:=(j6.rd_some hrd).1;simp only at he;have hre:=h.ents g j e he;cases A<;>try (cases hp';done)
  rename_i r;simp only at hp';cases hrv:Q4 ti (r.drop off) with
  | none=>rw [hrv] at hp';cases hp'
  | some v=>
  rw [hrv] at hp';simp only at hp';split at hp'<;>try (cases hp';done)
  all_goals
   split at hp'<;>try (cases hp';done)
   rename_i hsz;subst hsz;have:=j6.pure_some hp';injection this with h2 h3;subst h2;have hr:=hob _ (e9Z.2 rfl)
  ·obtain ⟨ds,hf,hseg⟩:=e6Q hre hι hr;obtain ⟨c,hrd',hvc⟩:=a4U (D:=S.D) (ι:=ι) ((hf.drop off).all2.imp fun _ _ x=>.fv _ _ x) hrv;exact ⟨_,c,w,F,ι,a5x ho htf hc (hseg.drop off) hrd',.inl rfl,by rw [a53];exact h.put ob.dst hvc⟩
  ·obtain ⟨g0,cur,h1,hg,hf,hn,hl⟩:=hre;rw [h1] at hι;simp [B5] at hι;subst hι;obtain ⟨ds,hf',hseg⟩:=e2e hg hf hl hr;obtain ⟨c,hrd',hvc⟩:=a4U (D:=S.D) (ι:=ι) ((hf'.drop off).all2.imp fun _ _ x=>.fv _ _ x) hrv;exact ⟨_,c,w,F,ι,a5x ho htf hc (hseg.drop off) hrd',.inl rfl,by rw [a53];exact h.put ob.dst hvc⟩
 case fptr cs=>
  obtain ⟨g,o,ds,hF,hfl,hseg,hc⟩:=hx.inv_fptr;simp only at hp;cases hrv:Q4 ti cs with
  | none=>rw [hrv] at hp;cases hp
  | some v=>
  rw [hrv] at hp;have:=j6.pure_some hp;injection this with h2 h3;subst h2;obtain ⟨c,hrd',hvc⟩:=a4U (D:=S.D) (ι:=ι) (hfl.all2.imp fun _ _ x=>.fv _ _ x) hrv;exact ⟨_,c,w,F,ι,a5x ho htf hc hseg hrd',.inl rfl,by rw [a53];exact h.put ob.dst hvc⟩
end
theorem e79{α:Type}(r0 X vs:List α)(k:Nat):A5 (r0++X) (r0.length+k) vs=r0++A5 X k vs:=by
 unfold A5;rw [List.take_append,List.drop_append,f0k (by omega),show r0.length+k-r0.length=k by omega,e94 (by omega),show r0.length+k+vs.length-r0.length=k+vs.length by omega];simp
theorem d1s{α:Type}(r0 X vs:List α)(k:Nat)(h:k+vs.length<=r0.length):A5 (r0++X) k vs=A5 r0 k vs++X:=by
 unfold A5;rw [f0N (by omega),f1h (by omega)];simp
theorem a64{α:Type}{sz:Nat}{vs:List α}{off:Nat}:∀{rows:List (List α)} {idx:Nat} {r:List α},(∀r∈rows,r.length=sz)->rows[idx]?=some r->off+vs.length<=sz->
  (rows.set idx (A5 r off vs)).flatten=A5 rows.flatten (idx*sz+off) vs
 | [],idx,r,_,h,_=>by simp at h
 | r0::rs,0,r,hl,h,ho=>by
  simp at h;subst h;have:r0.length=sz:=hl r0 (by simp);simp only [List.set_cons_zero,f0d,Nat.zero_mul,f0y];rw [d1s _ _ _ _ (by omega)]
 | r0::rs,idx+1,r,hl,h,ho=>by
  simp at h;have h0:r0.length=sz:=hl r0 (by simp);simp only [List.set_cons_succ,f0d];rw [a64 (fun x hx=>hl x (by simp [hx])) h ho,<-e79,h0];congr 1
  rw [f0A];omega
theorem a2f{α:Type}(cs vs:List α)(off:Nat)(h:off+vs.length<=cs.length):(A5 cs off vs).length=cs.length:=by
 unfold A5;simp;omega
theorem b9q{α:Type}(cs vs:List α)(k m:Nat)(h:k+vs.length<=m)(hm:m<=cs.length):(A5 cs k vs).take m=A5 (cs.take m) k vs:=by
 have hl:(cs.take m).length=m:=by simp;omega
 have hs:(A5 (cs.take m) k vs).length=m:=by rw [a2f _ _ _ (by omega),hl]
 have e:A5 cs k vs=A5 (cs.take m) k vs++cs.drop m:=by
  rw [<-d1s _ _ _ _ (by omega),f0s]
 rw [e,f0N (by omega),f0k (by omega)]
theorem a5l{S:St}{g j g' j':Nat}{e:s4}(h:¬(g'=g/\j'=j)):(S.setE g j e).ent g' j'=S.ent g' j':=by
 by_cases q:∃e0,S.ent g j=some e0
 ·obtain ⟨e0,he⟩:=q;rw [P4 he,if_neg h]
 ·unfold St.setE;split
  ·rename_i l hl;have hj:l[j]?=none:=by
    cases hx:l[j]? with
    | none=>rfl
    | some x=>exact absurd ⟨x,by rw [a1c hl];exact hx⟩ q
   have hset:l.set j e=l:=by
    rw [List.set_eq_of_length_le];simpa using hj
   rw [hset,a0a hl]
  ·rfl
def a84(us:List N1)(g j:Nat):Bool:=us.all fun u => !(g==u.1.1&&j==u.1.2)
theorem b39{g j:Nat}:∀{us:List N1} {S:St},a84 us g j=true->(S.upds us).ent g j=S.ent g j
 | [],_,_=>rfl
 | ((g',j'),e)::us,S,h=>by
  simp [a84] at h;rw [St.upds,b39 (by simp [a84];exact h.2),a5l (fun q=>h.1.elim (fun n=>n q.1) (fun n=>n q.2))]
theorem v6.all_one{w:World}{F D:Nat->Prop}{ι:Nat->Nat->Value}{vs:List V}{cs:List Value}(h:v6 (RC w F D ι) vs cs):∀c∈cs,c.oneCell'=true:=by
 induction h with
 | nil=>simp
 | cons hc _ ih=>
  intro c hm;rcases e9V.1 hm with rfl|hm
  ·exact hc.one
  ·exact ih c hm
theorem FL.all_one{w:World}{F:Nat->Prop}{vs:List V}{cs:List Value}(h:FL w F vs cs):∀c∈cs,c.oneCell'=true:=
 v6.all_one (D:=fun _=>True) (ι:=fun _ _=>.nilFunc) (h.all2.imp fun _ _ x=>.fv _ _ x)
theorem b4s{P:Program}{w:World}{ob:Oper}{a:Act}{ty:Nat}{ti:TI}{i:TypeInfo}{d:TypeDesc}{z:Value}{x y:Operand}(ho:ob.op=.store ty x y)(htf:TF P ty ti i d z){g o e:Nat}(hx:a.eval x=.pointer (some ⟨g,o,none⟩)){cur:Array Value}(hg:w.heap[g]?=some (.cells cur e (0,0)))(hlen:(a.eval y).cells.size=ti.size)(e9K:o+ti.size<=cur.size)(h1:∀c∈(a.eval y).cells.toList,c.oneCell'=true) :
  (execOp a.eval ob).run P w=.ok .skip (w.setRow g (A5 cur.toList o (a.eval y).cells.toList).toArray):=by
 have hst:=run_storeCells_at P g o e (a.eval y).cells.toList 0 cur w hg (by simp [hlen];omega) h1;simp only [f01] at hst;simp [execOp,ho,hx,Instr.storeAt,Instr.sureAddr,storeVar,Sem.run_bind,htf.sizeOf,hlen,hst,A5]
def b29(cx:Cx)(ty:Nat)(x y:V)(A:N2):j6 B6:=
 match cx.T ty,y.cells with
 | some ti,some vs=>match x with
  | .ptr g j off=>j6.bind (j6.rd g j) fun e=>match e with
   | .var t cs=>if vs.length=ti.size/\off+vs.length<=cs.length then j6.pure {v:=.bot,upd:=[((g,j),.var t (A5 cs off vs))]} else j6.no
   | _=>j6.no
  | .eptr g j sz idx off=>j6.bind (j6.rd g j) fun e=>match A with
   | .rowck r ck=>j6.bind (b3M ck vs) fun f=>match e with
    | .row t sz' n rows=>if sz'=sz/\vs.length=ti.size/\off+vs.length<=sz/\a84 f.2.1 g j then j6.pure {v:=.bot,upd:=f.2.1++[((g,j),.row t sz n (rows.set idx (A5 r off f.1)))],obl:=(rows[idx]?=some r)::f.2.2} else j6.no
    | .arr t sz' n rows=>if sz'=sz/\vs.length=ti.size/\off+vs.length<=sz/\a84 f.2.1 g j then j6.pure {v:=.bot,upd:=f.2.1++[((g,j),.arr t sz n (rows.set idx (A5 r off f.1)))],obl:=(rows[idx]?=some r)::f.2.2} else j6.no
    | _=>j6.no
   | _=>j6.no
  | _=>j6.no
 | _,_=>j6.no
section
variable {cx:Cx} {Γ:N0} {F:Nat->Prop} {ι:Nat->Nat->Value} {S:St} {a:Act} {w:World}
theorem b25(a:Act)(c:Value):a.put none c=a:=rfl
theorem b03(S:St)(grp:Nat)(us:List N1)(ps:List Prop):S.apply grp none {v:=.bot,upd:=us,obl:=ps}=S.upds us:=by
 simp [St.apply,R2]
theorem b2r(w:World)(g:Nat)(cs:Array Value):(w.setRow g cs).heap.size=w.heap.size:=by simp [World.setRow]
theorem e3E(h:t7 Γ F ι S a w){grp:Nat}{ob:Oper}{ty:Nat}{x y:Operand}{A:N2}(ho:ob.op=.store ty x y)(hd:ob.dst=none){out:B6}{lg:List (Nat×Nat)}(hp:b29 cx ty (t0 S.t x) (t0 S.t y) A S.ent=some (out,lg))(hob:∀p∈out.obl,p):S5 cx.P Γ ι S grp ob out a w:=by
 have hx:=D5 h.tmps x;have hy:=D5 h.tmps y;unfold b29 at hp;cases hti:cx.T ty with
 | none=>rw [hti] at hp;cases hp
 | some ti=>
 cases hvs:(t0 S.t y).cells with
 | none=>rw [hti,hvs] at hp;cases hp
 | some vs=>
 rw [hti,hvs] at hp;simp only at hp;obtain ⟨i,d,z,htf⟩:=cx.tf hti;have hcells:=hy.cells hvs;have hone:=hcells.all_one;have hclen:vs.length=(a.eval y).cells.size:=by simpa using hcells.length
 generalize t0 S.t x=xv at hp hx;cases xv<;>try (cases hp;done)
 case ptr g j off=>
  obtain ⟨hD,b,hι,hc⟩:=hx.inv_ptr;obtain ⟨e,l1,l2,hrd,hp',hl12⟩:=j6.bind_some hp;clear hp;have he:=(j6.rd_some hrd).1;simp only at he;have hre:=h.ents g j e he;cases e<;>try (cases hp';done)
  rename_i t cs;simp only at hp';split at hp'<;>try (cases hp';done)
  rename_i hcond;have:=j6.pure_some hp';injection this with h2 h3;subst h2;obtain ⟨g0,cur,h1,hg,hcs⟩:=hre;rw [hι] at h1;injection h1 with h1;injection h1 with h1;injection h1 with h1;subst h1;have hl:cs.length=cur.size:=by simpa using hcs.length
  have hrun:=b4s (P:=cx.P) ho htf hc hg (by omega) (by omega) hone;refine ⟨_,undef,_,F,ι,hrun,.inr ⟨rfl,rfl⟩,?_⟩;rw [hd,b25,b03];refine h.write he rfl ⟨rfl,rfl,rfl⟩ (b2r _ _ _) (fun k hk=>setRow_other w b k _ fun q=>hk (EB.top (by rw [hι,q];rfl))) (fun hs => ?_) (fun k hk=>hk);exact ⟨b,_,hι,setRow_heap w b cur _ t (0,0) hg,((hcs.splice hcells off).imp fun _ _ x=>x.mono hs (fun _ y=>y) (fun _ y=>P7.2 y) (fun _ _ _=>rfl))⟩
 case eptr g j sz idx off=>
  obtain ⟨hD,b,hι,hc⟩:=hx.inv_eptr;obtain ⟨e,l1,l2,hrd,hp',hl12⟩:=j6.bind_some hp;clear hp;have he:=(j6.rd_some hrd).1;simp only at he;cases A<;>try (cases hp';done)
  rename_i r ck;simp only at hp';obtain ⟨⟨vs',us,fps⟩,l3,l4,hfz,hp'',hl34⟩:=j6.bind_some hp';clear hp';have hfob:∀p∈fps,p:=by
   clear hx;cases e<;>try (cases hp'';done)
   all_goals
    simp only at hp'';split at hp''<;>try (cases hp'';done)
    have:=j6.pure_some hp'';injection this with h2 h3;subst h2;exact fun p hp=>hob p (e9V.2 (.inr hp))
  obtain ⟨F',hF',hrel,hfr,hfl⟩:=d1K h (Frz.refl S) hcells hfz hfob;have hflen:vs'.length=vs.length:=by rw [hfl.length,hclen];simp
  cases e<;>try (cases hp'';done)
  case row t sz' n rows=>
   simp only at hp'';split at hp''<;>try (cases hp'';done)
   rename_i hcond;obtain ⟨rfl,hc1,hc2,hc3⟩:=hcond;have:=j6.pure_some hp'';injection this with h2 h3;subst h2;have hr:rows[idx]?=some r:=hob _ (e9V.2 (.inl rfl));have he':(S.upds us).ent g j=some (.row t sz' n rows):=by rw [b39 hc3];exact he
   obtain ⟨flat,hor,hf,hn,hl⟩:=hrel.ents g j _ he';have hidx:=(e9T.1 hr).1;rcases hor.2 with ⟨hv,h0⟩|⟨g0,cap,cur,hv,hbg,hg,hnc,hcm,hcs,ht⟩
   ·omega
   ·have hb:b=g0:=by rw [hv] at hι;simp [B5] at hι;omega
    subst hb;have hflat:flat.length=n*sz':=hor.1;have hcl:n*sz'<=cur.size:=by rw [hcs];exact f0b _ hnc
    have hpos:idx*sz'+sz'<=n*sz':=by rw [<-f0A];exact f0b _ (by omega)
    have hrun:=b4s (P:=cx.P) ho htf hc hg (by omega) (by omega) hone;refine ⟨_,undef,_,F',ι,hrun,.inr ⟨rfl,rfl⟩,?_⟩;rw [hd,b25,b03,St.upds_append];refine hrel.write he' rfl ⟨rfl,rfl,rfl⟩ (b2r _ _ _) (fun k hk=>setRow_other w b k _ fun q=>hk (EB.top (by rw [hι,q]))) (fun hs => ?_) (fun k hk=>hk);have hrl:r.length=sz':=hl r (e93 hr);refine ⟨A5 flat (idx*sz'+off) (a.eval y).cells.toList,⟨?_,.inr ⟨b,cap,_,hv,hbg,setRow_heap w b cur _ t (0,0) hg,hnc,hcm,?_,?_⟩⟩,?_,by simpa using hn,?_⟩
    ·rw [a2f _ _ _ (by simp;omega)];exact hor.1
    ·rw [f1i,a2f _ _ _ (by simp;omega)];simpa using hcs
    ·rw [<-ht];exact b9q _ _ _ _ (by simp;omega) (by simpa using hcl)
    ·rw [a64 hl hr (by omega)];exact FL.of (((hf.all2.splice hfl.all2 _).imp fun _ _ x=>x.mono hs (fun _ y=>y)))
    ·intro q hq;rcases e99 hq with hq|rfl
     ·exact hl q hq
     ·rw [a2f _ _ _ (by omega)];exact hrl
  case arr t sz' n rows=>
   simp only at hp'';split at hp''<;>try (cases hp'';done)
   rename_i hcond;obtain ⟨rfl,hc1,hc2,hc3⟩:=hcond;have:=j6.pure_some hp'';injection this with h2 h3;subst h2;have hr:rows[idx]?=some r:=hob _ (e9V.2 (.inl rfl));have he':(S.upds us).ent g j=some (.arr t sz' n rows):=by rw [b39 hc3];exact he
   obtain ⟨g0,cur,h1,hg,hf,hn,hl⟩:=hrel.ents g j _ he';have hidx:=(e9T.1 hr).1;have hb:b=g0:=by rw [h1] at hι;simp [B5] at hι;omega
   subst hb;have hcl:cur.toList.length=n*sz':=by rw [<-hf.length,a3y hl,hn]
   have hcl':cur.size=n*sz':=by simpa using hcl
   have hpos:idx*sz'+sz'<=n*sz':=by rw [<-f0A];exact f0b _ (by omega)
   have hrun:=b4s (P:=cx.P) ho htf hc hg (by omega) (by omega) hone;refine ⟨_,undef,_,F',ι,hrun,.inr ⟨rfl,rfl⟩,?_⟩;rw [hd,b25,b03,St.upds_append];refine hrel.write he' rfl ⟨rfl,rfl,rfl⟩ (b2r _ _ _) (fun k hk=>setRow_other w b k _ fun q=>hk (EB.top (by rw [hι,q]))) (fun hs => ?_) (fun k hk=>hk);have hrl:r.length=sz':=hl r (e93 hr);refine ⟨b,_,h1,setRow_heap w b cur _ t (0,0) hg,?_,by simpa using hn,?_⟩
   ·rw [a64 hl hr (by omega)];exact FL.of (((hf.all2.splice hfl.all2 _).imp fun _ _ x=>x.mono hs (fun _ y=>y)))
   ·intro q hq;rcases e99 hq with hq|rfl
    ·exact hl q hq
    ·rw [a2f _ _ _ (by omega)];exact hrl
end
theorem b7l(z:Array Value):∀n:Nat,(madeCells z (n*z.size)).toList=(e9O n z.toList).flatten
 | 0=>by simp [madeCells]
 | n+1=>by
  rw [List.replicate_succ',f1v,<-b7l z n];simp only [madeCells,Array.toList_map,Array.toList_range,f0d,List.flatten_nil,f0w];rw [f0A,List.range_add,f1g];congr 1
  apply List.ext_getElem?;intro k;simp only [f0x,f1m];by_cases h:k<z.size
  ·simp [List.getElem?_range h,Nat.mod_eq_of_lt h,h]
  ·rw [f0i (by simp;omega),f0i (by simp;omega)];rfl
theorem FL.append{w:World}{F:Nat->Prop}{B4 bs:List V}{cs ds:List Value}(h:FL w F B4 cs)(k:FL w F bs ds):FL w F (B4++bs) (cs++ds):=FL.of (h.all2.append k.all2)
theorem FL.replicate{w:World}{F:Nat->Prop}{B4:List V}{cs:List Value}(h:FL w F B4 cs):∀n,FL w F (e9O n B4).flatten (e9O n cs).flatten
 | 0=>.nil
 | n+1=>by
  rw [f1c,f1c,f0d,f0d];exact h.append (FL.replicate h n)
section
variable {cx:Cx} {Γ:N0} {F:Nat->Prop} {ι:Nat->Nat->Value} {S:St} {a:Act} {w:World}
theorem t7.world2(h:t7 Γ F ι S a w){X:Option Nat}{w':World}(hg:w.grownBy w' X)(hX:∀k,X=some k->¬F k/\(Γ.own k\/Γ.w0.heap.size<=k)/\∀g j e,S.ent g j=some e->e.live=true->¬EB w e (ι g j) k):t7 Γ F ι S a w':=by
  have hs:G8 w w' F:=a0N fun g hF=>hg.block g (h.F1 g hF) fun q=>(hX g q.symm).1 hF
  have hbk:∀g j e,S.ent g j=some e->e.live=true->∀k,EB w e (ι g j) k->w'.heap[k]?=w.heap[k]?:=fun g j e he hl k hk'=>hg.block k (h.lt he hl hk') fun q=>(hX k q.symm).2.2 g j e he hl hk'
  exact
    { F0:=h.F0
      F1:=fun g hF=>f0V (h.F1 g hF) hg.size
      F2:=h.F2
      kept:=⟨hg.os.trans h.kept.os,hg.tape.trans h.kept.tape,hg.output.trans h.kept.output,f0c h.kept.size hg.size,fun k hk hn=>by
        rw [hg.block k (f0V hk h.kept.size) fun q => ?_]
        · exact h.kept.block k hk hn
        · rcases (hX k q.symm).2.1 with x|x
          · exact hn x
          · omega⟩
      tmps:=h.tmps.imp fun _ _ x=>x.mono hs (fun _ y=>y) (fun _ y=>y) (fun _ _ _=>rfl)
      ents:=fun g j e he=>(h.ents g j e he).mono hs (fun _ y=>y) (fun _ y=>y) (fun _ _ _=>rfl) (fun k hl hk'=>hbk g j e he hl k hk')
      sep:=fun g j e k he hl hk'=>h.sep g j e k he hl ((h.ents g j e he).back (hbk g j e he hl) hk')
      inj:=fun g j e g' j' e' k he he' hl hl' hk1 hk2=>h.inj g j e g' j' e' k he he' hl hl' ((h.ents g j e he).back (hbk g j e he hl) hk1) ((h.ents g' j' e' he').back (hbk g' j' e' he' hl') hk2)
      defers:=h.defers
      pins:=h.pins}
theorem t7.new2(h:t7 Γ F ι S a w){grp:Nat}(hgl:grp<S.h.length)(hn:¬S.D grp){X:Option Nat}{w':World}(hg:w.grownBy w' X)(hX:∀k,X=some k->¬F k/\(Γ.own k\/Γ.w0.heap.size<=k)/\∀g j e,S.ent g j=some e->e.live=true->¬EB w e (ι g j) k){ent:s4}{c0:Value}(hb:∀k,EB w' ent c0 k->X=some k\/w.heap.size<=k)(hre:G8 w w' F->RE w' F (S.lay grp [ent]).D (K9 ι grp c0) ent c0):t7 Γ F (K9 ι grp c0) (S.lay grp [ent]) a w':=by
 have hs:G8 w w' F:=a0N fun g hF=>hg.block g (h.F1 g hF) fun q=>(hX g q.symm).1 hF
 have h':=h.world2 hg hX;refine h'.lay hgl hn (fun g j q=>a8x q) ?_ ?_ ?_ ?_
 ·intro j e he;cases j with
  | zero=>simp at he;subst he;rw [O2];exact hre hs
  | succ j=>simp at he
 ·intro j e k he hl hk;rw [O2] at hk;cases j with
  | succ j=>simp at he
  | zero=>
  simp at he;subst he;rcases hb k hk with q|q
  ·exact ⟨(hX k q).1,(hX k q).2.1⟩
  ·refine ⟨fun hF => ?_,.inr (f0c h.kept.size q)⟩;have:=h.F1 k hF;omega
 ·intro j e j' e' k he he' _ _ _ _;cases j<;>cases j'<;>simp_all
 ·intro j e g' j' e' k he he' _ hl' hk hk';rw [O2] at hk;cases j with
  | succ j=>simp at he
  | zero=>
  simp at he;subst he;have hk2:=(h.ents g' j' e' he').back (fun k q=>hg.block k (h.lt he' hl' q) fun z=>(hX k z.symm).2.2 g' j' e' he' hl' q) hk';rcases hb k hk with q|q
  ·exact (hX k q).2.2 g' j' e' he' hl' hk2
  ·have h2:=h.lt he' hl' hk2;omega
theorem RC.whole{D:Nat->Prop}{g j e sz n:Nat}{rows:List (List V)}{sv:Value}(hD:D g)(hι:ι g j=sv)(h:OR w F e sz sv n rows):RC w F D ι (.own g j sz 0 n) sv:=by
 obtain ⟨flat,ho,_⟩:=h;rcases ho.2 with ⟨rfl,h0⟩|⟨g0,cap,cur,rfl,_,hg,hnc,_⟩
 ·subst h0;have:=RC.own (w:=w) (F:=F) g j sz 0 0 none 0 0 hD hι (by omega) (fun _=>rfl) (fun _ q=>by cases q);simpa using this
 ·have:=RC.own (w:=w) (F:=F) g j sz 0 n (some ⟨g0,0,none⟩) n cap hD hι (by omega) (fun q=>by cases q) (fun ad q=>by injection q with q;subst q;rfl);by_cases hc:cap=0
  ·simpa [hc] using this
  ·simpa [hc,Addr.add] using this
def a2d:List (Option Nat)->List V->List V
 | some sz::ck,.nil::vs=>.sl sz 0 []::a2d ck vs
 | _::ck,v::vs=>v::a2d ck vs
 | [],vs=>vs
 | _,[]=>[]
theorem b7b{w:World}{F:Nat->Prop}:∀{ck:List (Option Nat)} {vs:List V} {cs:List Value},FL w F vs cs->FL w F (a2d ck vs) cs
 | [],vs,cs,h=>by simpa [a2d] using h
 | o::ck,[],_,.nil=>by cases o<;>exact .nil
 | none::ck,v::vs,_,.cons _ c _ cs h t=>.cons _ _ _ _ h (b7b t)
 | some sz::ck,v::vs,_,.cons _ c _ cs h t=>by
  cases v;case nil=>
   cases h;exact .cons _ _ _ _ (.sl0 sz none 0) (b7b t)
  all_goals exact .cons _ _ _ _ h (b7b t)
theorem c2a:∀(ck:List (Option Nat)) (vs:List V),(a2d ck vs).length=vs.length
 | [],vs=>by simp [a2d]
 | none::ck,[]=>rfl
 | some _::ck,[]=>rfl
 | none::ck,v::vs=>by simp [a2d,c2a ck vs]
 | some sz::ck,v::vs=>by cases v<;>simp [a2d,c2a ck vs]
def e4d:N2->List (Option Nat)
 | .ck ck=>ck
 | _=>[]
def c04(cx:Cx)(grp ty:Nat)(l c:V)(ck:List (Option Nat)):Option B6:=
 match cx.T ty with
 | some ti=>match ti.sl with
  | some e=>match cx.T e with
   | some ei=>match l,c with
    | .i _ n,.i _ n'=>some {v:=.own grp 0 ei.size 0 n.toNat,new:=some [.row e ei.size n.toNat (e9O n.toNat (a2d ck ei.zero))],obl:=[0<=n,n'=n,n*ei.bytes<=140737488355328/\0<ei.bytes,ei.zero.length=ei.size]}
    | _,_=>none
   | none=>none
  | none=>none
 | none=>none
theorem e63(h:t7 Γ F ι S a w){grp:Nat}(hg:grp<S.h.length)(hn:¬S.D grp){ob:Oper}{ty:Nat}{l c:Operand}(ho:ob.op=.makeSlice ty l c){ck:List (Option Nat)}{out:B6}(hp:c04 cx grp ty (t0 S.t l) (t0 S.t c) ck=some out)(hob:∀p∈out.obl,p):S5 cx.P Γ ι S grp ob out a w:=by
 have hl:=D5 h.tmps l;have hc:=D5 h.tmps c;unfold c04 at hp;split at hp<;>try (cases hp;done)
 rename_i ti hti;split at hp<;>try (cases hp;done)
 rename_i e hs;split at hp<;>try (cases hp;done)
 rename_i ei hei;split at hp<;>try (cases hp;done)
 rename_i k n k' n' h1 h2;injection hp with hp;subst hp;rw [h1] at hl;rw [h2] at hc;have p1:0<=n:=hob _ (by simp);have p2:n'=n:=hob _ (by simp);have p3:n*ei.bytes<=140737488355328/\0<ei.bytes:=hob _ (by simp);have p4:ei.zero.length=ei.size:=hob _ (by simp);subst p2;obtain ⟨m,rfl⟩:=Int.eq_ofNat_of_zero_le p1;obtain ⟨i,d,z,htf⟩:=cx.tf hti;obtain ⟨i',d',z',hef⟩:=cx.tf hei;obtain rfl:=htf.isSl hs;have hzs:z'.cells.size=ei.size:=by rw [<-p4,<-hef.zeros];simp
 have hb1:m*ei.bytes<=140737488355328:=by
  have:=p3.1;rw [<-Int.natCast_mul] at this;omega
 have hb2:m<=140737488355328:=f0c (f0Z _ p3.2) hb1;obtain ⟨w',hr,hown,hgr⟩:=run_make_full (P:=cx.P) w 0 ty e i' z' ei.size htf.und hef.info hef.zero hef.size k k' m (by rw [hef.bytes,Nat.mul_comm];omega) (by unfold maxLen;omega) (f07 _);have hrun:(execOp a.eval ob).run cx.P w=.ok (.value (.slice (some ⟨w.heap.size,0,none⟩) m m)) w':=by
  simp [execOp,ho,hl.inv_i,hc.inv_i,hr]
 have hz:FL w' F ei.zero z'.cells.toList:=by rw [<-hef.zeros];exact FL.ofCells _ hef.one
 have hor:OR w' F e ei.size (.slice (some ⟨w.heap.size,0,none⟩) m m) m (e9O m (a2d ck ei.zero)):=by
  refine ⟨_,hown,?_,by simp,fun r hr=>by rw [(f0r.1 hr).2,c2a];exact p4⟩;rw [<-hzs,b7l];exact (b7b hz).replicate m
 have hrel:=h.new1 hg hn hgr (ent:=.row e ei.size m (e9O m (a2d ck ei.zero))) (c0:=.slice (some ⟨w.heap.size,0,none⟩) m m) (by intro q hq;simp [EB,B5] at hq;omega) hor;refine ⟨_,_,_,F,K9 ι grp (.slice (some ⟨w.heap.size,0,none⟩) m m),hrun,.inl rfl,?_⟩;exact hrel.put ob.dst (.cell (RC.whole (a0y hg) O2 hor))
def a1A(pt:Bool)(lo n n':Nat)(rows:List (List V)):Nat×List (List V)×List Prop:=
 match pt with
 | true=>(n,(rows.drop lo).take n,[lo+n<=n'])
 | false=>S0 lo n n' rows
theorem c63{pt:Bool}{lo n n':Nat}{rows:List (List V)}(hl:rows.length=n')(h:∀p∈(a1A pt lo n n' rows).2.2,p):lo+n<=n'/\(a1A pt lo n n' rows).1=n/\(a1A pt lo n n' rows).2.1=(rows.drop lo).take n:=by
 cases pt with
 | true=>exact ⟨h _ (by simp [a1A]),rfl,rfl⟩
 | false=>exact a9T hl h
def a8Z(pt:Bool)(x:V):j6 (Nat×Nat×List (List V)×List Prop):=
 match x with
 | .nil=>j6.pure (0,0,[],[])
 | .sl sz m rows=>j6.pure (sz,m,rows,[])
 | .own g j sz lo m=>j6.bind (j6.rd g j) fun e=>match e with
  | .row _ sz' n' rows=>if sz'=sz then j6.pure (sz,a1A pt lo m n' rows) else j6.no
  | .frz sz' n' rows=>if sz'=sz then j6.pure (sz,a1A pt lo m n' rows) else j6.no
  | _=>j6.no
 | _=>j6.no
def Src(w:World)(F:Nat->Prop)(sz m:Nat)(rows:List (List V))(c:Value):Prop:=
 rows.length=m/\(∀r∈rows,r.length=sz)/\∃b cap,c=.slice b m cap/\∃ds,FL w F rows.flatten ds/\((m=0/\ds=[])\/∃g o,b=some ⟨g,o,none⟩/\M8 w g o ds)
theorem Src.of_fv{sz m:Nat}{rows:List (List V)}{c:Value}(h:FV w F (.sl sz m rows) c):Src w F sz m rows c:=by
 cases h with
 | sl0 sz a cap=>exact ⟨rfl,by simp,a,cap,rfl,[],.nil,.inl ⟨rfl,rfl⟩⟩
 | sl sz n rows g o cap ds hF hr hn hs hc hseg=>exact ⟨hn,hs,_,cap,rfl,ds,hr,.inr ⟨g,o,rfl,hseg⟩⟩
theorem Src.sub{e sz n' lo m g j:Nat}{rows:List (List V)}{c:Value}{D:Nat->Prop}(hr:OR w F e sz (ι g j) n' rows)(hc:RC w F D ι (.own g j sz lo m) c)(hle:lo+m<=n'):Src w F sz m ((rows.drop lo).take m) c:=by
 obtain ⟨flat,ho,hf,hn,hl⟩:=hr;have hlen:((rows.drop lo).take m).length=m:=by simp;omega
 have hall:∀r∈(rows.drop lo).take m,r.length=sz:=fun r hr'=>hl r (f0B (f0v hr'))
 cases hc with
 | fv v c h=>cases h
 | own0 g j sz lo b cap hD hlo=>exact ⟨hlen,hall,b,cap,rfl,[],by simpa using FL.nil,.inl ⟨rfl,rfl⟩⟩
 | own g j sz lo n b nn cap hD hι hlo hb0 hb1=>
  refine ⟨hlen,hall,_,_,rfl,(flat.drop (lo*sz)).take (m*sz),?_,?_⟩
  ·rw [c1i m (fun r hr'=>hl r (f0B hr')),b6p lo hl];exact (hf.drop _).take _
  ·by_cases h0:m=0
   ·left;subst h0;simp
   ·right
    rcases ho.2 with ⟨hv,hz⟩|⟨g0,cap0,cur,hv,_,hg,hnc,hcm,hcs,ht⟩
    ·omega
    ·rw [hι] at hv;injection hv with e1 e2 e3;subst e1;subst e3;have hseg:M8 w g0 0 flat:=by
      rw [<-ht];have:=(a5v hg 0).take (n'*sz);simpa using this
     refine ⟨g0,lo*sz,?_,?_⟩
     ·rw [if_neg (by omega)];simp [a16]
     ·have:=(hseg.drop (lo*sz)).take (m*sz);simpa using this
theorem d00(h:t7 Γ F ι S a w){x:V}{c:Value}(hc:RV w F S.D ι x c){sz m:Nat}{rows:List (List V)}{ps:List Prop}{lg:List (Nat×Nat)}{pt:Bool}(hx:a8Z pt x S.ent=some ((sz,m,rows,ps),lg))(hob:∀p∈ps,p):Src w F sz m rows c:=by
 unfold a8Z at hx;cases x<;>try (cases hx;done)
 case nil=>
  have:=j6.pure_some hx;injection this with h1 h2;injection h1 with h1 h3;injection h3 with h3 h4;injection h4 with h4 h5;subst h1;subst h3;subst h4;subst h5;obtain rfl:=hc.inv_nil;exact ⟨rfl,by simp,none,0,rfl,[],.nil,.inl ⟨rfl,rfl⟩⟩
 case sl sz0 n0 rows0=>
  have:=j6.pure_some hx;injection this with h1 h2;injection h1 with h1 h3;injection h3 with h3 h4;injection h4 with h4 h5;subst h1;subst h3;subst h4;subst h5;exact Src.of_fv hc.inv_sl
 case own g j sz0 lo m0=>
  obtain ⟨e,l1,l2,hrd,hp,hl12⟩:=j6.bind_some hx;clear hx;have he:=(j6.rd_some hrd).1;simp only at he;have hre:=h.ents g j e he;have hrc:RC w F S.D ι (.own g j sz0 lo m0) c:=by
   cases hc with
   | one v c h=>cases h with
    | cell v c h=>exact h
  cases e<;>try (cases hp;done)
  case row t sz' n' rows'=>
   simp only at hp;split at hp<;>try (cases hp;done)
   rename_i hcond;subst hcond;have:=j6.pure_some hp;injection this with h1 h2;injection h1 with h1 h3;subst h1;obtain ⟨flat,_,_,hn,_⟩:=id hre;have h3a:m=(a1A pt lo m0 n' rows').1:=congrArg (·.1) h3;have h3b:rows=(a1A pt lo m0 n' rows').2.1:=congrArg (·.2.1) h3;have h3c:ps=(a1A pt lo m0 n' rows').2.2:=congrArg (·.2.2) h3;subst h3c;obtain ⟨hle,hp1,hp2⟩:=c63 hn hob;rw [h3a,h3b,hp1,hp2];exact Src.sub hre hrc hle
  case frz sz' n' rows'=>
   simp only at hp;split at hp<;>try (cases hp;done)
   rename_i hcond;subst hcond;have:=j6.pure_some hp;injection this with h1 h2;injection h1 with h1 h3;subst h1;have hr:FV w F (.sl _ n' rows') (ι g j):=hre;have h3a:m=(a1A pt lo m0 n' rows').1:=congrArg (·.1) h3;have h3b:rows=(a1A pt lo m0 n' rows').2.1:=congrArg (·.2.1) h3;have h3c:ps=(a1A pt lo m0 n' rows').2.2:=congrArg (·.2.2) h3;subst h3c;obtain ⟨hle,hp1,hp2⟩:=c63 hr.rows_len hob;rw [h3a,h3b,hp1,hp2];exact Src.of_fv (a5d (e:=0) (D:=S.D) hre hrc hle)
def a86(pt:Bool)(cx:Cx)(grp ty:Nat)(s x:V):j6 B6:=
 match cx.T ty with
 | some ti=>match ti.sl with
  | some e=>match cx.T e with
   | some ei=>j6.bind (a8Z pt x) fun q=>
    if (q.1=ei.size\/q.2.1=0)/\0<ei.size/\0<ei.bytes/\ei.zero.length=ei.size then
     match s with
     | .nil=>j6.pure {v:=.own grp 0 ei.size 0 q.2.1,new:=some [.row e ei.size q.2.1 q.2.2.1],obl:=(q.2.1*ei.bytes<=140737488355328)::q.2.2.2}
     | .own g j sz 0 n=>j6.bind (j6.rd g j) fun en=>match en with
      | .row e' sz' n' rows=>if e'=e/\sz=ei.size/\sz'=ei.size then j6.pure {v:=.own grp 0 ei.size 0 (n'+q.2.1),new:=some [.row e ei.size (n'+q.2.1) (rows++q.2.2.1)],upd:=[((g,j),.dead)],obl:=(n=n')::((n'+q.2.1)*ei.bytes<=140737488355328)::q.2.2.2} else j6.no
      | _=>j6.no
     | _=>j6.no
    else j6.no
   | none=>j6.no
  | none=>j6.no
 | none=>j6.no
theorem d2i{P:Program}{ty e:Nat}{ti ei:TI}{i i':TypeInfo}{d d':TypeDesc}{z z':Value}(htf:TF P ty ti i d z)(hd:d=.slice e)(hef:TF P e ei i' d' z')(h0:0<ei.size)(hb0:0<ei.bytes)(hzl:ei.zero.length=ei.size){sv:Value}{n:Nat}{flat:List Value}(hown:w.ownsRow 0 e ei.size sv n flat){sz m:Nat}{rows:List (List V)}{c:Value}(hsz:sz=ei.size\/m=0)(hsrc:Src w F sz m rows c)(hb:(n+m)*ei.bytes<=140737488355328)(rt:Nat) :
  ∃v' w' ds,(Builtin.append_ #[ty,ty] rt #[sv,c]).run P w=.ok v' w'/\w'.ownsRow 0 e ei.size v' (n+m) (flat++ds)/\w.grownBy w' sv.ownBlock/\(v'.ownBlock=sv.ownBlock\/v'.ownBlock=some w.heap.size)/\FL w F rows.flatten ds:=by
 obtain ⟨hn,hl,b,cap,rfl,ds,hf,hor⟩:=hsrc;subst hd;have hzs:z'.cells.size=ei.size:=by rw [<-hzl,<-hef.zeros];simp
 have hm63:n+m<=maxLen:=by
  have:n+m<=140737488355328:=f0c (f0Z _ hb0) hb;unfold maxLen;omega
 have hdl:ds.length=m*ei.size:=by
  rw [<-hf.length,a3y hl,hn];rcases hsz with rfl|rfl<;>simp
 have hone:∀u∈ds,u.oneCell'=true:=hf.all_one
 cases b with
 | none=>
  have hm0:m=0/\ds=[]:=by
   rcases hor with h|⟨g,o,hq,_⟩
   ·exact h
   ·cases hq
  obtain ⟨rfl,rfl⟩:=hm0;refine ⟨sv,w,[],?_,by simpa using hown,⟨rfl,rfl,rfl,f0q _,fun _ _ _=>rfl⟩,.inl rfl,hf⟩;rcases hown.2 with ⟨rfl,rfl⟩|⟨g,cp,cur,rfl,_,_,hnc,_⟩
  ·simp [Builtin.append_,run_underlying htf.und,Go.sizeOf,typeInfo,hef.info,Builtin.lenOf,Builtin.firstCells]
  ·simp [Builtin.append_,run_underlying htf.und,Go.sizeOf,typeInfo,hef.info,Builtin.lenOf,Builtin.firstCells,hnc,storeCells]
 | some ad=>
  have hnews:∀j u,ds[j]?=some u->w.cell? (ad.add j)=some u:=by
   rcases hor with ⟨_,rfl⟩|⟨g,o,hq,hseg⟩
   ·simp
   ·injection hq with hq;subst hq;intro j u hu;rw [a16];exact hseg j u hu
  obtain ⟨v',w',h1,h2,h3,_,h5⟩:=run_append_own_at (P:=P) w 0 ty rt e i' z' ei.size ei.bytes htf.und hef.info hef.zero hef.size hef.bytes hzs h0 sv n flat hown ad m cap ds hdl hnews hone hm63 hb (f07 _);exact ⟨v',w',ds,h1,h2,h3,h5,hf⟩
theorem a9u{e sz n:Nat}{sv:Value}{flat:List Value}(h:w.ownsRow 0 e sz sv n flat):sv.ownBlock=B5 sv:=by
 rcases h.2 with ⟨rfl,_⟩|⟨g,cap,cur,rfl,_⟩<;>rfl
theorem e69(h:t7 Γ F ι S a w){grp:Nat}(hg:grp<S.h.length)(hn:¬S.D grp){ob:Oper}{ty:Nat}{s x:Operand}{rt:Nat}(ho:ob.op=.call {callee:=.builtin .append,args := #[s,x],argTypes := #[ty,ty]}){out:B6}{lg:List (Nat×Nat)}{pt:Bool}(hp:a86 pt cx grp ty (t0 S.t s) (t0 S.t x) S.ent=some (out,lg))(hob:∀p∈out.obl,p):S5 cx.P Γ ι S grp ob out a w:=by
 have hs:=D5 h.tmps s;have hx:=D5 h.tmps x;unfold a86 at hp;cases hti:cx.T ty with
 | none=>rw [hti] at hp;cases hp
 | some ti=>
 rw [hti] at hp;simp only at hp;cases hsl:ti.sl with
 | none=>rw [hsl] at hp;cases hp
 | some e=>
 rw [hsl] at hp;simp only at hp;cases hei:cx.T e with
 | none=>rw [hei] at hp;cases hp
 | some ei=>
 rw [hei] at hp;simp only at hp;obtain ⟨i,d,z,htf⟩:=cx.tf hti;obtain ⟨i',d',z',hef⟩:=cx.tf hei;have hd:=htf.isSl hsl;obtain ⟨⟨sz,m,rows2,sps⟩,l1,l2,hsrc,hp',hl12⟩:=j6.bind_some hp;clear hp;have hsob:∀p∈sps,p:=by
  simp only at hp';split at hp'<;>try (cases hp';done)
  generalize t0 S.t s=sv at hp';cases sv<;>try (cases hp';done)
  case nil=>
   have:=j6.pure_some hp';injection this with h2 h3;subst h2;exact fun p hp=>hob p (e9V.2 (.inr hp))
  case own g j sz0 lo0 n0=>
   cases lo0 with
   | succ q=>cases hp'
   | zero=>
   simp only at hp';obtain ⟨en,l3,l4,hrd,hp'',hl34⟩:=j6.bind_some hp';clear hp';cases en<;>try (cases hp'';done)
   simp only at hp'';split at hp''<;>try (cases hp'';done)
   have:=j6.pure_some hp'';injection this with h2 h3;subst h2;exact fun p hp=>hob p (e9V.2 (.inr (e9V.2 (.inr hp))))
 have hsr:=d00 h hx hsrc hsob;simp only at hp';split at hp'<;>try (cases hp';done)
 rename_i hcond;obtain ⟨hc1,hc2,hc3,hc4⟩:=hcond;generalize t0 S.t s=sv at hp' hs;have hrows:∀r∈rows2,r.length=ei.size:=by
  intro r hr;rcases hc1 with q|q
  ·rw [<-q];exact hsr.2.1 r hr
  ·have:rows2=[]:=e90 (hsr.1.trans q);rw [this] at hr;cases hr
 cases sv<;>try (cases hp';done)
 case nil=>
  have:=j6.pure_some hp';injection this with h2 h3;subst h2;obtain hcs:=hs.inv_nil;have hb:m*ei.bytes<=140737488355328:=hob _ (e9V.2 (.inl rfl));obtain ⟨v',w',ds,hr,hown,hgr,hat,hf⟩:=d2i htf hd hef hc2 hc3 hc4 (World.ownsRow_nil w 0 e ei.size) hc1 hsr (by simpa using hb) ob.type;have hrun:(execOp a.eval ob).run cx.P w=.ok (.value v') w':=by
   simp [execOp,ho,resolve,invoke,builtin,hcs,hr]
  have hor:G8 w w' F->OR w' F e ei.size v' m rows2:=fun hs'=>⟨_,by simpa using hown,by simpa using hf.mono hs' (fun _ y=>y),hsr.1,hrows⟩
  have hX:∀k,Value.ownBlock (.slice none 0 0)=some k->¬F k/\(Γ.own k\/Γ.w0.heap.size<=k)/\∀g j e,S.ent g j=some e->e.live=true->¬EB w e (ι g j) k:=by intro k hk;cases hk
  have hrel:=h.new2 hg hn hgr hX (ent:=.row e ei.size m rows2) (c0:=v') (by
   intro k hk;have hk:B5 v'=some k:=hk;rw [<-a9u hown] at hk;rcases hat with q|q
   ·rw [q] at hk;cases hk
   ·rw [q] at hk;injection hk with hk;exact .inr (by omega)) hor
  have hs':G8 w w' F:=a0N fun g hF=>hgr.block g (h.F1 g hF) (by intro q;cases q)
  refine ⟨_,_,_,F,K9 ι grp v',hrun,.inl rfl,?_⟩;exact hrel.put ob.dst (.cell (RC.whole (a0y hg) O2 (hor hs')))
 case own g j sz0 lo0 n0=>
  cases lo0 with
  | succ q=>cases hp'
  | zero=>
  simp only at hp';obtain ⟨en,l3,l4,hrd,hp'',hl34⟩:=j6.bind_some hp';clear hp';have he:=(j6.rd_some hrd).1;simp only at he;have hre:=h.ents g j en he;cases en<;>try (cases hp'';done)
  case row e' sz' n' rows=>
   simp only at hp'';split at hp''<;>try (cases hp'';done)
   rename_i hcond;obtain ⟨rfl,rfl,rfl⟩:=hcond;have:=j6.pure_some hp'';injection this with h2 h3;subst h2;have hnn:n0=n':=hob _ (by simp);subst hnn;have hb:(n0+m)*ei.bytes<=140737488355328:=hob _ (by simp);obtain ⟨flat,hown0,hf0,hn0,hl0⟩:=hre;have hsv:a.eval s=ι g j:=by
    obtain ⟨hD,⟨b,nn,cap,hι,hlo,hb0,hb1,hc⟩|⟨hl0',_⟩⟩:=hs.inv_own;case inr=>omega
    rcases hown0.2 with ⟨hv,hz⟩|⟨g0,cap0,cur,hv,_⟩
    ·rw [hι] at hv;injection hv with e1 e2 e3;subst e1;subst e2;subst e3;subst hz;rw [hc,hι];simp
    ·rw [hι] at hv;injection hv with e1 e2 e3;subst e1;subst e2;subst e3;rw [hc,hι];by_cases q:cap=0
     ·simp [q]
     ·simp [q,Addr.add]
   obtain ⟨v',w',ds,hr,hown,hgr,hat,hf⟩:=d2i htf hd hef hc2 hc3 hc4 hown0 hc1 hsr hb ob.type;have hrun:(execOp a.eval ob).run cx.P w=.ok (.value v') w':=by
    simp [execOp,ho,resolve,invoke,builtin,hsv,hr]
   have hkill:=h.kill he;have hor:G8 w w' F->OR w' F e' ei.size v' (n0+m) (rows++rows2):=fun hs'=>⟨_,hown,by rw [f1v];exact (hf0.mono hs' (fun _ y=>y)).append (hf.mono hs' (fun _ y=>y)),by rw [e91,hn0,hsr.1],by
    intro r hr';rcases e9P.1 hr' with q|q
    ·exact hl0 r q
    ·exact hrows r q⟩
   have hX:∀k,(ι g j).ownBlock=some k->¬F k/\(Γ.own k\/Γ.w0.heap.size<=k)/\∀g' j' e,(S.setE g j .dead).ent g' j'=some e->e.live=true->¬EB w e (ι g' j') k:=by
    intro k hk;rw [a9u hown0] at hk;obtain ⟨x1,x2⟩:=h.sep g j _ k he rfl hk;refine ⟨x1,x2,?_⟩;intro g' j' e1 he1 hl1 hk1;rw [P4 he] at he1;split at he1
    ·injection he1 with he1;subst he1;cases hl1
    ·rename_i q;exact q (h.inj g' j' e1 g j _ k he1 he hl1 rfl hk1 hk)
   have hnD:¬(S.setE g j .dead).D grp:=fun q=>hn (P7.1 q)
   have hrel:=hkill.new2 (by rw [a9d];exact hg) hnD hgr hX (ent:=.row e' ei.size (n0+m) (rows++rows2)) (c0:=v') (by
    intro k hk;have hk:B5 v'=some k:=hk;rw [<-a9u hown] at hk;rcases hat with q|q
    ·rw [q] at hk;exact .inl hk
    ·rw [q] at hk;injection hk with hk;exact .inr (by omega)) hor
   have hs':G8 w w' F:=a0N fun g1 hF=>hgr.block g1 (h.F1 g1 hF) fun q=>(hX g1 q.symm).1 hF
   refine ⟨_,_,_,F,K9 ι grp v',hrun,.inl rfl,?_⟩;exact hrel.put ob.dst (.cell (RC.whole (a0y (by rw [a9d];exact hg)) O2 (hor hs')))
end
section
variable {cx:Cx} {Γ:N0} {F:Nat->Prop} {ι:Nat->Nat->Value} {S:St} {a:Act} {w:World}
def b27(cx:Cx)(ty:Nat)(s x:V):j6 B6:=
 match cx.T ty with
 | some ti=>match ti.sl with
  | some e=>match cx.T e with
   | some ei=>j6.bind (a8Z false x) fun q=>
    match s with
    | .own g j sz 0 n=>j6.bind (j6.rd g j) fun en=>match en with
     | .row e' sz' n' rows=>if (q.1=ei.size\/q.2.1=0)/\sz=ei.size/\sz'=ei.size then j6.pure {v:=.i .i64 n',upd:=[((g,j),.row e' sz' n' q.2.2.1)],obl:=(n=n')::(q.2.1=n')::q.2.2.2} else j6.no
     | _=>j6.no
    | _=>j6.no
   | none=>j6.no
  | none=>j6.no
 | none=>j6.no
theorem e8y{P:Program}{size m:Nat}{b:Option Addr}{cap:Nat}{ds:List Value}(hl:ds.length=m*size)(h:(m=0/\ds=[])\/∃g o,b=some ⟨g,o,none⟩/\M8 w g o ds):(Builtin.firstCells size m (.slice b m cap)).run P w=.ok ds.toArray w:=by
 rcases h with ⟨rfl,rfl⟩|⟨g,o,rfl,hs⟩
 ·cases b<;>simp [Builtin.firstCells,loadCells,loadCellsFrom]
 ·exact run_firstCells_some w size m _ _ _ ds hl (fun j v hv=>by rw [a16];exact hs j v hv)
theorem e5A(h:t7 Γ F ι S a w){grp:Nat}{ob:Oper}{ty ty2:Nat}{s x:Operand}(ho:ob.op=.call {callee:=.builtin .copy,args := #[s,x],argTypes := #[ty,ty2]}){out:B6}{lg:List (Nat×Nat)}(hp:b27 cx ty (t0 S.t s) (t0 S.t x) S.ent=some (out,lg))(hob:∀p∈out.obl,p):S5 cx.P Γ ι S grp ob out a w:=by
 have hs:=D5 h.tmps s;have hx:=D5 h.tmps x;unfold b27 at hp;cases hti:cx.T ty with
 | none=>rw [hti] at hp;cases hp
 | some ti=>
 rw [hti] at hp;simp only at hp;cases hsl:ti.sl with
 | none=>rw [hsl] at hp;cases hp
 | some e=>
 rw [hsl] at hp;simp only at hp;cases hei:cx.T e with
 | none=>rw [hei] at hp;cases hp
 | some ei=>
 rw [hei] at hp;simp only at hp;obtain ⟨i,d,z,htf⟩:=cx.tf hti;obtain ⟨i',d',z',hef⟩:=cx.tf hei;obtain rfl:=htf.isSl hsl;obtain ⟨⟨sz,m,rows2,sps⟩,l1,l2,hsrc,hp',hl12⟩:=j6.bind_some hp;clear hp;have hsob:∀p∈sps,p:=by
  generalize t0 S.t s=sv at hp';cases sv<;>try (cases hp';done)
  case own g j sz0 lo0 n0=>
   cases lo0 with
   | succ q=>cases hp'
   | zero=>
   simp only at hp';obtain ⟨en,l3,l4,hrd,hp'',hl34⟩:=j6.bind_some hp';clear hp';cases en<;>try (cases hp'';done)
   simp only at hp'';split at hp''<;>try (cases hp'';done)
   have:=j6.pure_some hp'';injection this with h2 h3;subst h2;exact fun p hp=>hob p (e9V.2 (.inr (e9V.2 (.inr hp))))
 obtain ⟨hm,hl2,b2,cap2,hc2,ds,hf2,hor2⟩:=d00 h hx hsrc hsob;generalize t0 S.t s=sv at hp' hs;cases sv<;>try (cases hp';done)
 case own g j sz0 lo0 n0=>
  cases lo0 with
  | succ q=>cases hp'
  | zero=>
  simp only at hp';obtain ⟨en,l3,l4,hrd,hp'',hl34⟩:=j6.bind_some hp';clear hp';have he:=(j6.rd_some hrd).1;simp only at he;have hre:=h.ents g j en he;cases en<;>try (cases hp'';done)
  case row e' sz' n' rows=>
   simp only at hp'';split at hp''<;>try (cases hp'';done)
   rename_i hcond;obtain ⟨hc1,rfl,rfl⟩:=hcond;have:=j6.pure_some hp'';injection this with h2 h3;subst h2;have hnn:n0=n':=hob _ (by simp);have hmm:m=n':=hob _ (by simp);subst hnn;have hmm':=hmm;obtain ⟨flat,hown0,hf0,hn0,hl0⟩:=hre;have hrows:∀r∈rows2,r.length=ei.size:=by
    intro r hr;rcases hc1 with q|q
    ·rw [<-q];exact hl2 r hr
    ·have:rows2=[]:=e90 (hm.trans q);rw [this] at hr;cases hr
   have hdl:ds.length=n0*ei.size:=by rw [<-hf2.length,a3y hrows,hm,hmm]
   obtain ⟨hD,⟨b,nn,cap,hι,hlo,hb0,hb1,hc⟩|⟨hl0',_⟩⟩:=hs.inv_own;case inr=>omega
   have hsv:a.eval s=.slice b n0 cap:=by
    rw [hc];cases b with
    | none=>have:=hb0 rfl;subst this;simp
    | some ad=>by_cases q:cap=0<;>simp [q,Addr.add]
   have hfc:=e8y (P:=cx.P) (size:=ei.size) (m:=m) (cap:=cap2) (by rw [hmm];exact hdl) hor2;rw [hmm] at hfc;rcases hown0.2 with ⟨hv,hz⟩|⟨g0,cap0,cur,hv,hbg,hg,hnc,hcm,hcs,ht⟩
   ·rw [hι] at hv;injection hv with e1 e2 e3;subst e1;subst hz;subst e3;have hrows0:rows2=[]:=e90 (hm.trans hmm);have hrows1:rows=[]:=e90 hn0;subst hrows0;subst hrows1;have hset:S.setE g j (.row e' ei.size 0 [])=S:=by
     obtain ⟨l,hl⟩:=St.D_of_ent he;rw [a2E hl];rw [a1c hl] at he;rw [a0a he,a0a hl]
    refine ⟨_,.int .i64 0,w,F,ι,?_,.inl rfl,?_⟩
    ·simp [execOp,ho,resolve,invoke,builtin,hsv,hc2,Builtin.copy_,Sem.run_bind,htf.underlying,hef.sizeOf,Builtin.lenOf,hmm,hfc,goInt]
    ·simp only [St.apply,St.upds,hset];exact h.put ob.dst (.fv (.i _ _))
   ·rw [hι] at hv;injection hv with e1 e2 e3;subst e1;subst e3;have hst:=run_storeCells_at cx.P g0 0 e' ds 0 cur w hg (by rw [hdl,hcs];simpa using f0b _ hnc) hf2.all_one;simp only [f01] at hst;have hsp:cur.toList.take 0++ds++cur.toList.drop (0+ds.length)=A5 cur.toList 0 ds:=rfl;rw [hsp] at hst;have hrun:(execOp a.eval ob).run cx.P w=.ok (.value (.int .i64 n0)) (w.setRow g0 (A5 cur.toList 0 ds).toArray):=by
     simp [execOp,ho,resolve,invoke,builtin,hsv,hc2,Builtin.copy_,Sem.run_bind,htf.underlying,hef.sizeOf,Builtin.lenOf,hmm,hfc,goInt,hst]
    refine ⟨_,_,_,F,ι,hrun,.inl rfl,?_⟩;have hcl:n0*ei.size<=cur.size:=by rw [hcs];exact f0b _ hnc
    have hw:=h.write (e':=.row e' ei.size n0 rows2) (w':=w.setRow g0 (A5 cur.toList 0 ds).toArray) he rfl ⟨rfl,rfl,rfl⟩ (b2r _ _ _) (fun k hk=>setRow_other w g0 k _ fun q=>hk (by rw [hι,q];rfl)) fun hs'=>by
     refine ⟨ds,⟨hdl,.inr ⟨g0,cap,_,hι.trans (by rw [e2]),hbg,setRow_heap w g0 cur _ e' (0,0) hg,hnc,hcm,?_,?_⟩⟩,hf2.mono hs' (fun _ y=>y),hm.trans hmm,hrows⟩
     ·rw [f1i,a2f _ _ _ (by simp;omega)];simpa using hcs
     ·simp only;rw [b9q _ _ _ _ (by omega) (by simpa using hcl)];unfold A5;have:(cur.toList.take (n0*ei.size)).length=n0*ei.size:=by simp;omega
      rw [e94 (by omega)];simp
    exact (hw (fun k hk=>hk)).put ob.dst (.fv (.i _ _))
def a8J(ck:List (Option Nat)):List (Nat×V)->j6 (List (Nat×List V)×List N1×List Prop)
 | []=>j6.pure ([],[],[])
 | (i,v)::ps=>match v.cells with
  | some cs=>j6.bind (b3M ck cs) fun x=>j6.bind (a8J ck ps) fun y=>j6.pure ((i,x.1)::y.1,x.2.1++y.2.1,x.2.2++y.2.2)
  | none=>j6.no
theorem d49{ck:List (Option Nat)}{ps:List (Nat×V)}{qs:List (Nat×Value)}:∀{rs:List (Nat×List V)} {us:List N1} {fps:List Prop} {lg:List (Nat×Nat)} {F:Nat->Prop} {S':St},t7 Γ F ι S' a w->Frz S S'->v6 (fun (x:Nat×V) (y:Nat×Value)=>x.1=y.1/\RV w F S'.D ι x.2 y.2) ps qs->a8J ck ps S.ent=some ((rs,us,fps),lg)->(∀p∈fps,p)->
  ∃F',(∀k,F k->F' k)/\t7 Γ F' ι (S'.upds us) a w/\Frz S (S'.upds us)/\v6 (fun (x:Nat×List V) (y:Nat×Value)=>x.1=y.1/\FL w F' x.2 y.2.cells.toList) rs qs:=by
 induction ps generalizing qs with
 | nil=>
  intro rs us fps lg F S' h hS hc hf hob;have:=j6.pure_some hf;injection this with h1 h2;injection h1 with h1 h3;injection h3 with h3 h4;subst h1;subst h3;subst h4;cases hc;exact ⟨F,fun _ x=>x,h,hS,.nil⟩
 | cons p ps ih=>
  intro rs us fps lg F S' h hS hc hf hob;obtain ⟨i,v⟩:=p;cases hc with
  | @cons _ q _ qs' hv ht=>
   unfold a8J at hf;cases hcs:v.cells with
   | none=>rw [hcs] at hf;cases hf
   | some cs=>
   rw [hcs] at hf;simp only at hf;obtain ⟨⟨v1,us1,ps1⟩,l1,l2,hf1,hf2,_⟩:=j6.bind_some hf;obtain ⟨⟨vs1,us2,ps2⟩,l3,l4,hf3,hf4,_⟩:=j6.bind_some hf2;have:=j6.pure_some hf4;injection this with h1 h2;injection h1 with h1 h3;injection h3 with h3 h4;subst h1;subst h3;subst h4;obtain ⟨F1,hF1,hr1,hS1,hv1⟩:=d1K h hS (hv.2.cells hcs) hf1 (fun p hp=>hob p (e9P.2 (.inl hp)));have hD:∀k,S'.D k->(S'.upds us1).D k:=fun k x=>(a0d S' k us1).2 x
   obtain ⟨F2,hF2,hr2,hS2,hv2⟩:=ih hr1 hS1 (ht.imp fun _ _ x=>⟨x.1,x.2.mono (fun _ _ _=>rfl) hF1 hD (fun _ _ _=>rfl)⟩) hf3 (fun p hp=>hob p (e9P.2 (.inr hp)));rw [<-St.upds_append] at hr2 hS2;exact ⟨F2,fun k x=>hF2 k (hF1 k x),hr2,hS2,.cons ⟨hv.1,hv1.mono (fun _ _ _=>rfl) hF2⟩ hv2⟩
def a5A(sz:Nat):List (List V)->List (Nat×List V)->Option (List (List V))
 | rows,[]=>some rows
 | rows,(i,cs)::ps=>if i<rows.length/\cs.length=sz then a5A sz (rows.set i cs) ps else none
theorem c6w{α:Type}(r vs:List α)(h:vs.length=r.length):A5 r 0 vs=vs:=by
 unfold A5;rw [e94 (by omega)];simp
theorem e1p{sz len:Nat}{ps:List (Nat×List V)}{qs:List (Nat×Value)}(hps:v6 (fun (x:Nat×List V) (y:Nat×Value)=>x.1=y.1/\FL w F x.2 y.2.cells.toList) ps qs):∀{rows out:List (List V)} {ds:Array Value},(∀r∈rows,r.length=sz)->rows.length=len->FL w F rows.flatten ds.toList->a5A sz rows ps=some out->
  ∃es:Array Value,Instr.fill (fun i=>some (i*sz,sz)) ds qs=some es/\FL w F out.flatten es.toList/\out.length=len/\∀r∈out,r.length=sz:=by
 induction hps with
 | nil=>
  intro rows out ds hl hlen hf h;simp [a5A] at h;subst h;exact ⟨ds,rfl,hf,hlen,hl⟩
 | @cons p q ps qs hpq ht ih=>
  intro rows out ds hl hlen hf h;obtain ⟨i,cs⟩:=p;obtain ⟨j,u⟩:=q;obtain ⟨hij,hfl⟩:=hpq;simp only at hij hfl;subst hij;simp only [a5A] at h;split at h<;>try (cases h;done)
  rename_i hcond;obtain ⟨hi,hcl⟩:=hcond;have hul:u.cells.size=sz:=by rw [<-hcl,hfl.length];simp
  have hdl:ds.size=len*sz:=by
   have:=hf.length;rw [a3y hl,hlen] at this;simpa using this.symm
  have hpos:i*sz+sz<=len*sz:=by rw [<-f0A];exact f0b _ (by omega)
  have hri:rows[i]?=some rows[i]:=e9N hi;have hrl:(rows[i]).length=sz:=hl _ (e9Q hi);have hfs:=a64 (vs:=cs) (off:=0) hl hri (by omega);rw [c6w _ _ (by omega),f01] at hfs;have hout:=c0Q u.cells.toList 0 (i*sz) ds (by simp only [Array.length_toList];omega);rw [f01] at hout;obtain ⟨es,he,hr⟩:=ih (rows:=rows.set i cs) (out:=out) (ds:=u.cells.toList.zipIdx.foldl (fun (cs:Array Value) (x:Value×Nat)=>cs.setIfInBounds (i*sz+x.2) x.1) ds) (by
    intro r hr;rcases e99 hr with hr|rfl
    ·exact hl r hr
    ·exact hcl) (by simpa using hlen) (by
    rw [hfs,hout];exact FL.of (hf.all2.splice hfl.all2 _)) h
  refine ⟨es,?_,hr⟩;have hcond':(u.cells.size≠sz||i*sz+u.cells.size>ds.size)=false:=by
   simp [hul];omega
  simp only [Instr.fill,hcond'];rw [<-he];simp only [f0O,if_false];congr 1
  rw [<-Array.foldl_toList,Array.toList_zipIdx]
def b2c(cx:Cx)(grp ty len:Nat)(parts:List (Nat×V))(A:N2):j6 B6:=
 match cx.T ty with
 | some ti=>match ti.sl with
  | some e=>match cx.T e with
   | some ei=>match A with
    | .ck ck=>j6.bind (a8J ck parts) fun q=>
     match a5A ei.size (e9O len ei.zero) q.1 with
     | some rows=>if len*ei.size<=16777216/\ei.zero.length=ei.size/\0<ei.size then j6.pure {v:=.own grp 0 ei.size 0 len,new:=some [.row e ei.size len rows],upd:=q.2.1,obl:=q.2.2} else j6.no
     | none=>j6.no
    | _=>j6.no
   | none=>j6.no
  | none=>j6.no
 | none=>j6.no
theorem b85{t:List V}(ht:v6 (RV w F S.D ι) t a.tmps.toList):∀qs:List (Nat×Operand),v6 (fun (x:Nat×V) (y:Nat×Value)=>x.1=y.1/\RV w F S.D ι x.2 y.2) (qs.map fun (i,x)=>(i,t0 t x)) (qs.map fun (i,x)=>(i,a.eval x))
 | []=>.nil
 | q::qs=>.cons ⟨rfl,D5 ht q.2⟩ (b85 ht qs)
theorem b83{P:Program}{ty e len:Nat}{ti ei:TI}{i i':TypeInfo}{d d':TypeDesc}{z z':Value}(htf:TF P ty ti i d z)(hd:d=.slice e)(hef:TF P e ei i' d' z')(h1:len*ei.size<=16777216){qs:Array (Nat×Value)}{es:Array Value}(hfill:Instr.fill (fun i=>some (i*ei.size,ei.size)) (madeCells z'.cells (len*ei.size)) qs.toList=some es):(Instr.buildSlice ty len qs).run P w=.ok (.slice (some ⟨w.heap.size,0,none⟩) len len) (w.alloc (.cells es e)):=by
 subst hd;have hnot:¬(len*ei.size>2 ^ 24):=by omega
 unfold Instr.buildSlice;by_cases h0:len*ei.size=0
 ·have hmk:madeCells z'.cells (len*ei.size) = #[]:=by rw [h0];simp [madeCells]
  rw [hmk] at hfill;simp only [Sem.run_bind,htf.underlying,Result.andThen_ok,hef.sizeOf,if_neg hnot,if_pos h0,Sem.run_pure];have hr0:∀f:Nat->Value,(Array.range 0).map f = #[]:=fun f=>by simp
  simp only [h0,hr0,hfill];simp [newRow,newObj,Sem.run]
 ·have hmk:(Array.range (len*ei.size)).map (z'.cells[· % z'.cells.size]!)=madeCells z'.cells (len*ei.size):=rfl;simp only [Sem.run_bind,htf.underlying,Result.andThen_ok,hef.sizeOf,if_neg hnot,if_neg h0,hef.zeroValue,Sem.run_pure];simp only [hmk,hfill];simp [newRow,newObj,Sem.run]
theorem d4f(h:t7 Γ F ι S a w){grp:Nat}(hg:grp<S.h.length)(hn:¬S.D grp){ob:Oper}{ty len:Nat}{parts:Array (Nat×Operand)}{A:N2}(ho:ob.op=.buildSlice ty len parts){out:B6}{lg:List (Nat×Nat)}(hp:b2c cx grp ty len (parts.toList.map fun (i,x)=>(i,t0 S.t x)) A S.ent=some (out,lg))(hob:∀p∈out.obl,p):S5 cx.P Γ ι S grp ob out a w:=by
 unfold b2c at hp;cases hti:cx.T ty with
 | none=>rw [hti] at hp;cases hp
 | some ti=>
 rw [hti] at hp;simp only at hp;cases hsl:ti.sl with
 | none=>rw [hsl] at hp;cases hp
 | some e=>
 rw [hsl] at hp;simp only at hp;cases hei:cx.T e with
 | none=>rw [hei] at hp;cases hp
 | some ei=>
 rw [hei] at hp;cases A<;>try (cases hp;done)
 rename_i ck;simp only at hp;obtain ⟨i,d,z,htf⟩:=cx.tf hti;obtain ⟨i',d',z',hef⟩:=cx.tf hei;obtain rfl:=htf.isSl hsl;obtain ⟨⟨rs,us,fps⟩,l1,l2,hfz,hp',hl12⟩:=j6.bind_some hp;clear hp;have hfob:∀p∈fps,p:=by
  simp only at hp';cases hrows:a5A ei.size (e9O len ei.zero) rs with
  | none=>rw [hrows] at hp';cases hp'
  | some rows=>
  rw [hrows] at hp';simp only at hp';split at hp'<;>try (cases hp';done)
  have:=j6.pure_some hp';injection this with h2 h3;subst h2;exact hob
 obtain ⟨F',hF',hrel,hfr,hall⟩:=d49 h (Frz.refl S) (b85 h.tmps parts.toList) hfz hfob;simp only at hp';cases hrows:a5A ei.size (e9O len ei.zero) rs with
 | none=>rw [hrows] at hp';cases hp'
 | some rows=>
 rw [hrows] at hp';simp only at hp';split at hp'<;>try (cases hp';done)
 rename_i hcond;obtain ⟨hc1,hc2,hc3⟩:=hcond;have:=j6.pure_some hp';injection this with h2 h3;subst h2;have hzs:z'.cells.size=ei.size:=by rw [<-hc2,<-hef.zeros];simp
 have hz:FL w F' ei.zero z'.cells.toList:=by rw [<-hef.zeros];exact FL.ofCells _ hef.one
 have hmade:FL w F' (e9O len ei.zero).flatten (madeCells z'.cells (len*ei.size)).toList:=by
  rw [<-hzs,b7l];exact hz.replicate len
 obtain ⟨es,hfill,hfl,hlen,hl⟩:=e1p hall (sz:=ei.size) (len:=len) (rows:=e9O len ei.zero) (by intro r hr;rw [(f0r.1 hr).2];exact hc2) (by simp) hmade hrows;have hrun:(execOp a.eval ob).run cx.P w=.ok (.value (.slice (some ⟨w.heap.size,0,none⟩) len len)) (w.alloc (.cells es e)):=by
  have:=b83 (w:=w) htf rfl hef hc1 (qs:=parts.map fun (i,x)=>(i,a.eval x)) (by rw [Array.toList_map];exact hfill);simp [execOp,ho,this]
 have hD:∀k,S.D k↔(S.upds us).D k:=fun k=>(a0d S k us).symm
 have hg':grp<(S.upds us).h.length:=by rw [St.upds_len];exact hg
 have hs:G8 w (w.alloc (.cells es e)) F':=a0N fun g hF=>(a4x w _).block g (hrel.F1 g hF) (by simp)
 have hel:es.size=len*ei.size:=by
  have:=hfl.length;rw [a3y hl,hlen] at this;simpa using this.symm
 have hor:OR (w.alloc (.cells es e)) F' e ei.size (.slice (some ⟨w.heap.size,0,none⟩) len len) len rows:=by
  refine ⟨es.toList,⟨by simpa using hel,.inr ⟨w.heap.size,len,es,rfl,f07 _,a7R w _,f0q _,?_,hel,?_⟩⟩,hfl.mono hs (fun _ y=>y),hlen,hl⟩
  ·have:len<=len*ei.size:=f0Z _ hc3;unfold maxLen;omega
  ·rw [f0k (by simp [hel])]
 have hnew:=hrel.new1 hg' (fun q=>hn ((hD grp).2 q)) (a4x w (.cells es e)) (ent:=.row e ei.size len rows) (c0:=.slice (some ⟨w.heap.size,0,none⟩) len len) (by intro k hk;simp [EB,B5] at hk;omega) hor;refine ⟨_,_,_,F',K9 ι grp (.slice (some ⟨w.heap.size,0,none⟩) len len),hrun,.inl rfl,?_⟩;exact hnew.put ob.dst (.cell (RC.whole (j:=0) (a0y hg') O2 hor))
end
inductive BA (w:World) (F:Nat->Prop):V->Value->List Nat->Prop
 | cell (v c f) (h:BC w F v c f):BA w F v c f
 | agg (cs ds f) (h:BL w F cs ds f):BA w F (.agg cs) (.agg ds.toArray) f
 | optr (e cs g cur f) (hg:w.heap[g]?=some (.cells cur e (0,0))) (h:BL w F cs cur.toList f):BA w F (.optr e cs) (.pointer (some ⟨g,0,none⟩)) (g::f)
inductive BS (w:World) (F:Nat->Prop):List V->List Value->List Nat->Prop
 | nil:BS w F [] [] []
 | cons (v c f vs cs fs) (h:BA w F v c f) (t:BS w F vs cs fs):BS w F (v::vs) (c::cs) (f++fs)
inductive BR (w:World) (F:Nat->Prop):V->Value->List Nat->Prop
 | one (v c f) (h:BA w F v c f):BR w F v c f
 | tup (vs cs f) (h:BS w F vs cs f):BR w F (.tup vs) (.tuple cs.toArray) f
inductive BO (w:World) (F:Nat->Prop):List (Option V)->List Value->List Nat->Prop
 | nil:BO w F [] [] []
 | skip (c vs cs fs) (t:BO w F vs cs fs):BO w F (none::vs) (c::cs) fs
 | cons (v c f vs cs fs) (h:BA w F v c f) (t:BO w F vs cs fs):BO w F (some v::vs) (c::cs) (f++fs)
def c0J(P:Program)(f:FuncId):Prop := ∃fn,P.funcs[f]?=some fn/\(fn.name == "runtime.NumGoroutine")=false/\fn.body.isNone=false
def a1n(P:Program)(f:FuncId)(args:List V)(res:V)(outs:List (Option V)):Prop:=
 c0J P f/\∀(w:World) (F:Nat->Prop) (cargs:List Value) (fp:List Nat),BS w F args cargs fp->fp.Nodup->(∀k∈fp,¬F k/\k<w.heap.size)->(∀k,F k->k<w.heap.size)->
  Calls P f cargs.toArray w fun e w' => ∃c F' fr fo,e=.returned c/\a3w (· ∈ fp) w w'/\(∀k,F k->F' k)/\(∀k,F' k->(F k\/k∈fp\/w.heap.size<=k)/\k<w'.heap.size)/\
   BR w' F' res c fr/\BO w' F' outs cargs fo/\(fr++fo).Nodup/\∀k∈fr++fo,¬F' k/\(k∈fp\/w.heap.size<=k)/\k<w'.heap.size
def H7(grp j:Nat):V->V×List s4
 | .osl e sz n rows=>(.own grp j sz 0 n,[.row e sz n rows])
 | .dsl e sz n rows=>(.own grp j sz 0 n,[.deep false e sz n rows])
 | v=>(v,[])
def I9(grp j:Nat):List V->List V×List s4
 | []=>([],[])
 | v::vs=>
  let x:=H7 grp j v;let y:=I9 grp (j+x.2.length) vs
  (x.1::y.1,x.2++y.2)
def I5(grp j:Nat):V->V×List s4
 | .agg cs=>let x:=I9 grp j cs;(.agg x.1,x.2)
 | .optr e cs=>let x:=I9 grp (j+1) cs;(.ptr grp j 0,.var e x.1::x.2)
 | v=>H7 grp j v
def W7(grp j:Nat):List V->List V×List s4
 | []=>([],[])
 | v::vs=>
  let x:=I5 grp j v;let y:=W7 grp (j+x.2.length) vs
  (x.1::y.1,x.2++y.2)
def G7(grp j:Nat):V->V×List s4
 | .tup vs=>let x:=W7 grp j vs;(.tup x.1,x.2)
 | v=>I5 grp j v
def G6(w:World)(es:List s4)(bs:List Value)(f:List Nat):Prop:=
 ∃fss:List (List Nat),fss.flatten=f/\fss.length=es.length/\∀(i:Nat) (e:s4) (b:Value) (k:Nat),es[i]?=some e->bs[i]?=some b->EB w e b k->∃fi,fss[i]?=some fi/\k∈fi
theorem G6.nil{w:World}:G6 w [] [] []:=⟨[],rfl,rfl,fun i e b k h=>by simp at h⟩
theorem G6.one{w:World}{e:s4}{b:Value}{f:List Nat}(h:∀k,EB w e b k->k∈f):G6 w [e] [b] f:=by
 refine ⟨[f],by simp,rfl,fun i e' b' k h1 h2 h3 => ?_⟩;cases i with
 | zero=>
  simp at h1 h2;subst h1;subst h2;exact ⟨f,rfl,h k h3⟩
 | succ i=>simp at h1
theorem G6.append{w:World}{es es':List s4}{bs bs':List Value}{f f':List Nat}(h:G6 w es bs f)(h':G6 w es' bs' f')(hl:bs.length=es.length):G6 w (es++es') (bs++bs') (f++f'):=by
 obtain ⟨fss,e1,l1,h1⟩:=h;obtain ⟨fss',e2,l2,h2⟩:=h';refine ⟨fss++fss',by rw [f1v,e1,e2],by simp [l1,l2],fun i e b k he hb hk => ?_⟩;by_cases q:i<es.length
 ·rw [f0f q] at he;rw [f0f (by omega)] at hb;obtain ⟨fi,a,b⟩:=h1 i e b k he hb hk;exact ⟨fi,by rw [f0f (by omega)];exact a,b⟩
 ·rw [e96 (by omega)] at he;rw [e96 (by omega),hl] at hb;obtain ⟨fi,a,b⟩:=h2 _ e b k he hb hk;exact ⟨fi,by rw [e96 (by omega),l1];exact a,b⟩
theorem G6.cons{w:World}{e:s4}{b:Value}{f1:List Nat}{es:List s4}{bs:List Value}{f:List Nat}(h1:∀k,EB w e b k->k∈f1)(h:G6 w es bs f):G6 w (e::es) (b::bs) (f1++f):=
 (G6.one h1).append h rfl
theorem G6.mem{w:World}{es:List s4}{bs:List Value}{f:List Nat}(h:G6 w es bs f){i:Nat}{e:s4}{b:Value}{k:Nat}(he:es[i]?=some e)(hb:bs[i]?=some b)(hk:EB w e b k):k∈f:=by
 obtain ⟨fss,e1,l1,h1⟩:=h;obtain ⟨fi,a,q⟩:=h1 i e b k he hb hk;rw [<-e1];exact f0E.2 ⟨fi,e93 a,q⟩
theorem c4j{k:Nat}:∀{fss:List (List Nat)} {i j:Nat} {fi fj:List Nat},fss.flatten.Nodup->fss[i]?=some fi->fss[j]?=some fj->k∈fi->k∈fj->i=j
 | [],i,j,fi,fj,_,h,_,_,_=>by simp at h
 | f::fss,0,0,_,_,_,_,_,_,_=>rfl
 | f::fss,0,j+1,fi,fj,hn,hi,hj,h1,h2=>by
  simp at hi hj;subst hi;rw [f0d,e9X] at hn;exact absurd rfl (hn.2.2 k h1 k (f0E.2 ⟨fj,e93 hj,h2⟩))
 | f::fss,i+1,0,fi,fj,hn,hi,hj,h1,h2=>by
  simp at hi hj;subst hj;rw [f0d,e9X] at hn;exact absurd rfl (hn.2.2 k h2 k (f0E.2 ⟨fi,e93 hi,h1⟩))
 | f::fss,i+1,j+1,fi,fj,hn,hi,hj,h1,h2=>by
  simp at hi hj;rw [f0d,e9X] at hn;rw [c4j hn.2.1 hi hj h1 h2]
theorem G6.inj{w:World}{es:List s4}{bs:List Value}{f:List Nat}(h:G6 w es bs f)(hn:f.Nodup){i j:Nat}{e e':s4}{b b':Value}{k:Nat}(he:es[i]?=some e)(hb:bs[i]?=some b)(hk:EB w e b k)(he':es[j]?=some e')(hb':bs[j]?=some b')(hk':EB w e' b' k):i=j:=by
 obtain ⟨fss,e1,l1,h1⟩:=h;obtain ⟨fi,a,q⟩:=h1 i e b k he hb hk;obtain ⟨fj,a',q'⟩:=h1 j e' b' k he' hb' hk';exact c4j (e1▸hn) a a' q q'
theorem BL.kl{w:World}{F D:Nat->Prop}{ι:Nat->Nat->Value}:∀{vs cs f},BL w F vs cs f->KL w F D ι vs cs f
 | _,_,_,.nil=>.nil
 | _,_,_,.cons v c f vs cs fs h t=>.cons v c f vs cs fs (.bc _ _ _ h) (BL.kl t)
theorem BC.noRef{w:World}{F:Nat->Prop}{v:V}{c:Value}{f:List Nat}(h:BC w F v c f):v.isRef=false:=by
 cases h with
 | fv v c h=>cases h<;>rfl
 | osl=>rfl
 | dsl=>rfl
theorem BL.noRef{w:World}{F:Nat->Prop}:∀{vs cs f},BL w F vs cs f->∀v∈vs,v.isRef=false
 | _,_,_,.cons v c f vs cs fs h t,x,hx=>by
  rcases e9V.1 hx with rfl|hx
  ·exact h.noRef
  ·exact BL.noRef t x hx
theorem F3.of_flat{rows:List (List V)}(h:∀v∈rows.flatten,v.isRef=false):F3 rows:=fun r hr v hv=>h v (f0E.2 ⟨r,hr,hv⟩)
theorem RC.wholeO{w:World}{F D:Nat->Prop}{ι:Nat->Nat->Value}{g j e sz n:Nat}{flat:List Value}{sv:Value}(hD:D g)(hι:ι g j=sv)(ho:w.ownsRow 0 e sz sv n flat):RC w F D ι (.own g j sz 0 n) sv:=by
 rcases ho.2 with ⟨rfl,h0⟩|⟨g0,cap,cur,rfl,_,hg,hnc,_⟩
 ·subst h0;have:=RC.own (w:=w) (F:=F) g j sz 0 0 none 0 0 hD hι (by omega) (fun _=>rfl) (fun _ q=>by cases q);simpa using this
 ·have:=RC.own (w:=w) (F:=F) g j sz 0 n (some ⟨g0,0,none⟩) n cap hD hι (by omega) (fun q=>by cases q) (fun ad q=>by injection q with q;subst q;rfl);by_cases hc:cap=0
  ·simpa [hc] using this
  ·simpa [hc,Addr.add] using this
def At(ι:Nat->Nat->Value)(grp j:Nat)(bs:List Value):Prop := ∀(k:Nat) (b:Value),bs[k]?=some b->ι grp (j+k)=b
theorem At.left{ι:Nat->Nat->Value}{grp j:Nat}{xs ys:List Value}(h:At ι grp j (xs++ys)):At ι grp j xs:=fun k b hb=>h k b (by rw [f0f (e9T.1 hb).1];exact hb)
theorem At.right{ι:Nat->Nat->Value}{grp j:Nat}{xs ys:List Value}(h:At ι grp j (xs++ys)):At ι grp (j+xs.length) ys:=fun k b hb=>by
 rw [Nat.add_assoc];exact h _ b (by rw [e96 (by omega)];simpa using hb)
def Lie(w:World)(F:Nat->Prop)(D:Nat->Prop)(ι:Nat->Nat->Value)(es:List s4)(bs:List Value):Prop := ∀(k:Nat) (e:s4) (b:Value),es[k]?=some e->bs[k]?=some b->RE w F D ι e b
theorem Lie.append{w:World}{F D:Nat->Prop}{ι:Nat->Nat->Value}{es es':List s4}{bs bs':List Value}(h:Lie w F D ι es bs)(h':Lie w F D ι es' bs')(hl:es.length=bs.length):Lie w F D ι (es++es') (bs++bs'):=by
 intro k e b he hb;by_cases q:k<es.length
 ·rw [f0f q] at he;rw [f0f (by omega)] at hb;exact h k e b he hb
 ·rw [e96 (by omega)] at he;rw [e96 (by omega)] at hb;rw [hl] at he;exact h' _ e b he hb
section
variable {w:World} {F:Nat->Prop} {grp:Nat}
theorem b6V{v:V}{c:Value}{f:List Nat}(h:BC w F v c f)(j:Nat):∃bs:List Value,bs.length=(H7 grp j v).2.length/\G6 w (H7 grp j v).2 bs f/\
  ∀(D:Nat->Prop) (ι:Nat->Nat->Value),D grp->At ι grp j bs->f.Nodup->RC w F D ι (H7 grp j v).1 c/\Lie w F D ι (H7 grp j v).2 bs:=by
 cases h with
 | fv v c h=>
  have hv:H7 grp j v=(v,[]):=by cases h<;>rfl
  rw [hv];exact ⟨[],rfl,.nil,fun D ι hD hat _=>⟨.fv _ _ h,fun k e b he=>by simp at he⟩⟩
 | osl e sz n rows c h=>
  refine ⟨[c],rfl,.one fun k hk=>P6.2 hk,fun D ι hD hat _=>⟨RC.whole hD (hat 0 c rfl) h,?_⟩⟩;intro k e' b he hb;cases k with
  | zero=>
   simp [H7] at he hb;subst he;subst hb;exact h
  | succ k=>simp [H7] at he
 | dsl e sz n rows c flat fs ho hr hn hl=>
  refine ⟨[c],rfl,.one fun k hk=>(EB.deep_iff (D:=fun _=>True) (ι:=fun _ _=>.nilFunc) ho hr.kl).1 hk,fun D ι hD hat hnd=>⟨RC.wholeO hD (hat 0 c rfl) ho,?_⟩⟩;intro k e' b he hb;cases k with
  | zero=>
   simp [H7] at he hb;subst he;subst hb;exact ⟨flat,fs,ho,hr.kl,hn,hl,hnd,fun _=>F3.of_flat hr.noRef⟩
  | succ k=>simp [H7] at he
theorem a7x:∀{vs:List V} {cs:List Value} {f:List Nat},BL w F vs cs f->∀j,∃bs:List Value,bs.length=(I9 grp j vs).2.length/\G6 w (I9 grp j vs).2 bs f/\
  ∀(D:Nat->Prop) (ι:Nat->Nat->Value),D grp->At ι grp j bs->f.Nodup->v6 (RC w F D ι) (I9 grp j vs).1 cs/\Lie w F D ι (I9 grp j vs).2 bs
 | _,_,_,.nil,j=>⟨[],rfl,.nil,fun D ι hD hat _=>⟨.nil,fun k e b he=>by simp [I9] at he⟩⟩
 | _,_,_,.cons v c f vs cs fs h t,j=>by
  obtain ⟨b1,hl1,hf1,h1⟩:=b6V (grp:=grp) h j;obtain ⟨b2,hl2,hf2,h2⟩:=a7x t (j+(H7 grp j v).2.length);refine ⟨b1++b2,by simp [I9,hl1,hl2],hf1.append hf2 hl1,fun D ι hD hat hnd => ?_⟩;rw [e9X] at hnd;obtain ⟨x1,y1⟩:=h1 D ι hD hat.left hnd.1;obtain ⟨x2,y2⟩:=h2 D ι hD (by rw [<-hl1];exact hat.right) hnd.2.1;exact ⟨.cons x1 x2,y1.append y2 hl1.symm⟩
theorem c2K{v:V}{c:Value}{f:List Nat}(h:BA w F v c f)(j:Nat):∃bs:List Value,bs.length=(I5 grp j v).2.length/\G6 w (I5 grp j v).2 bs f/\
  ∀(D:Nat->Prop) (ι:Nat->Nat->Value),D grp->At ι grp j bs->f.Nodup->RA w F D ι (I5 grp j v).1 c/\Lie w F D ι (I5 grp j v).2 bs:=by
 cases h with
 | cell v c f h=>
  have hv:I5 grp j v=H7 grp j v:=by
   cases h with
   | fv v c h=>cases h<;>rfl
   | osl e sz n rows c h=>rfl
   | dsl=>rfl
  rw [hv];obtain ⟨bs,h1,h2,h3⟩:=b6V (grp:=grp) h j;exact ⟨bs,h1,h2,fun D ι hD hat hnd=>⟨.cell _ _ (h3 D ι hD hat hnd).1,(h3 D ι hD hat hnd).2⟩⟩
 | agg cs ds f h=>
  obtain ⟨bs,h1,h2,h3⟩:=a7x (grp:=grp) h j;exact ⟨bs,h1,h2,fun D ι hD hat hnd=>⟨.agg _ _ (h3 D ι hD hat hnd).1,(h3 D ι hD hat hnd).2⟩⟩
 | optr e cs g cur f hg h=>
  obtain ⟨bs,h1,h2,h3⟩:=a7x (grp:=grp) h (j+1);refine ⟨.pointer (some ⟨g,0,none⟩)::bs,by simp [I5,h1],?_,fun D ι hD hat hnd => ?_⟩
  ·have:=G6.cons (w:=w) (e:=.var e (I9 grp (j+1) cs).1) (b:=.pointer (some ⟨g,0,none⟩)) (f1:=[g]) (fun k hk=>by
    have hk:B5 (.pointer (some ⟨g,0,none⟩))=some k:=hk;simp [B5] at hk;simp [hk]) h2
   exact this
  have hat':At ι grp (j+1) bs:=fun k b hb=>by
   have:=hat (k+1) b (by simpa using hb);rw [<-this];congr 1;omega
  obtain ⟨x,y⟩:=h3 D ι hD hat' (f0Q.1 hnd).2;refine ⟨.cell _ _ (.ptr grp j 0 g hD (hat 0 _ rfl)),?_⟩;intro k e' b he hb;cases k with
  | zero=>
   simp [I5] at he hb;subst he;subst hb;exact ⟨g,cur,rfl,hg,x⟩
  | succ k=>exact y k e' b (by simpa [I5] using he) (by simpa using hb)
theorem e3s{vs:List V}{cs:List Value}{f:List Nat}(h:BS w F vs cs f):∀j,∃bs:List Value,bs.length=(W7 grp j vs).2.length/\G6 w (W7 grp j vs).2 bs f/\
  ∀(D:Nat->Prop) (ι:Nat->Nat->Value),D grp->At ι grp j bs->f.Nodup->v6 (RA w F D ι) (W7 grp j vs).1 cs/\Lie w F D ι (W7 grp j vs).2 bs:=by
 induction h with
 | nil=>exact fun j=>⟨[],rfl,.nil,fun D ι hD hat _=>⟨.nil,fun k e b he=>by simp [W7] at he⟩⟩
 | cons v c f vs cs fs h t ih=>
  intro j;obtain ⟨b1,hl1,hf1,h1⟩:=c2K (grp:=grp) h j;obtain ⟨b2,hl2,hf2,h2⟩:=ih (j+(I5 grp j v).2.length);refine ⟨b1++b2,by simp [W7,hl1,hl2],hf1.append hf2 hl1,fun D ι hD hat hnd => ?_⟩;rw [e9X] at hnd;obtain ⟨x1,y1⟩:=h1 D ι hD hat.left hnd.1;obtain ⟨x2,y2⟩:=h2 D ι hD (by rw [<-hl1];exact hat.right) hnd.2.1;exact ⟨.cons x1 x2,y1.append y2 hl1.symm⟩
theorem d3W{v:V}{c:Value}{f:List Nat}(h:BR w F v c f)(j:Nat):∃bs:List Value,bs.length=(G7 grp j v).2.length/\G6 w (G7 grp j v).2 bs f/\
  ∀(D:Nat->Prop) (ι:Nat->Nat->Value),D grp->At ι grp j bs->f.Nodup->RV w F D ι (G7 grp j v).1 c/\Lie w F D ι (G7 grp j v).2 bs:=by
 cases h with
 | one v c f h=>
  have hv:G7 grp j v=I5 grp j v:=by
   cases h with
   | cell v c f h=>cases h with
    | fv v c h=>cases h<;>rfl
    | osl e sz n rows c h=>rfl
    | dsl=>rfl
   | agg cs ds f h=>rfl
   | optr e cs g cur f hg h=>rfl
  rw [hv];obtain ⟨bs,h1,h2,h3⟩:=c2K (grp:=grp) h j;exact ⟨bs,h1,h2,fun D ι hD hat hnd=>⟨.one _ _ (h3 D ι hD hat hnd).1,(h3 D ι hD hat hnd).2⟩⟩
 | tup vs cs f h=>
  obtain ⟨bs,h1,h2,h3⟩:=e3s (grp:=grp) h j;exact ⟨bs,h1,h2,fun D ι hD hat hnd=>⟨.tup _ _ (h3 D ι hD hat hnd).1,(h3 D ι hD hat hnd).2⟩⟩
end
structure AR(α:Type) where
 v:α
 ks:List (Nat×Nat):=[]
 ls:List (Nat×Nat):=[]
 obl:List Prop:=[]
theorem F3.map{α:Type}{enc:α->List V}(h:∀x,∀v∈enc x,v.isRef=false)(l:List α):F3 (l.map enc):=by
 intro r hr;obtain ⟨x,_,rfl⟩:=f0l.1 hr;exact h x
theorem KC.bcOf{w:World}{F D:Nat->Prop}{ι:Nat->Nat->Value}{v:V}{c:Value}{f:List Nat}(h:KC w F D ι v c f)(hv:v.isRef=false):BC w F v c f:=by
 cases h with
 | rc h=>
  cases h with
  | fv v c h=>exact .fv _ _ h
  | _=>cases hv
 | bc _ h=>exact h
theorem KL.blOf{w:World}{F D:Nat->Prop}{ι:Nat->Nat->Value}:∀{vs cs f},KL w F D ι vs cs f->(∀v∈vs,v.isRef=false)->BL w F vs cs f
 | _,_,_,.nil,_=>.nil
 | _,_,_,.cons v c f vs cs fs h t,hv=>.cons v c f vs cs fs (h.bcOf (hv v (by simp))) (KL.blOf t fun x hx=>hv x (by simp [hx]))
theorem F3.flat{rows:List (List V)}(h:F3 rows):∀v∈rows.flatten,v.isRef=false:=by
 intro v hv;obtain ⟨r,hr,hv⟩:=f0E.1 hv;exact h r hr v hv
def b8A:Nat:=1000000
def b5y:Nat:=9000000
def a8T:Nat:=8000000
mutual
def a6v:V->V
 | .osl _ sz n rows=>.sl sz n rows
 | .dsl _ sz n rows=>.sl sz n (V1 rows)
 | v=>v
def a0G:List V->List V
 | []=>[]
 | v::vs=>a6v v::a0G vs
def V1:List (List V)->List (List V)
 | []=>[]
 | r::rs=>a0G r::V1 rs
end
theorem b3d:∀vs:List V,a0G vs=vs.map a6v
 | []=>rfl
 | v::vs=>by rw [a0G,b3d vs];rfl
theorem c3C:∀rs:List (List V),V1 rs=rs.map a0G
 | []=>rfl
 | r::rs=>by rw [V1,c3C rs];rfl
theorem b8w{α:Type}{enc c8N:α->List V}(h:∀x,a0G (enc x)=c8N x)(l:List α):V1 (l.map enc)=l.map c8N:=by
 rw [c3C,f1m];exact List.map_congr_left fun x _=>h x
def R1(ck om:Option Nat)(v:V):j6 (AR V):=
 match om with
 | some e=>if e=b5y then j6.pure {v:=.bot} else if e=a8T then (match v with
   | .own g j sz lo n=>j6.bind (j6.rd g j) fun en=>match en with
    | .row _ sz' n' rows=>if sz=sz' then j6.pure {v:=.sl sz n ((rows.drop lo).take n),ls:=[(g,j)],obl:=[lo+n<=n']} else j6.no
    | .deep false _ sz' n' rows=>if sz=sz' then j6.pure {v:=.sl sz n (((V1 rows).drop lo).take n),ls:=[(g,j)],obl:=[lo+n<=n']} else j6.no
    | _=>j6.no
   | _=>j6.no) else match v with
  | .nil=>j6.pure {v:=if e<b8A then .osl e (ck.getD 0) 0 [] else .dsl (e-b8A) (ck.getD 0) 0 []}
  | .own g j sz 0 n=>j6.bind (j6.rd g j) fun en=>match en with
   | .row e' sz' n' rows=>if e'=e/\sz'=sz then j6.pure {v:=.osl e sz n' rows,ks:=[(g,j)],obl:=[n=n']} else j6.no
   | .deep false e' sz' n' rows=>if e'+b8A=e/\sz'=sz then j6.pure {v:=.dsl e' sz n' rows,ks:=[(g,j)],obl:=[n=n']} else j6.no
   | _=>j6.no
  | _=>j6.no
 | none=>match v with
  | .own g j sz lo n=>j6.bind (j6.rd g j) fun en=>match en with
   | .row _ sz' n' rows=>if sz=sz' then j6.pure {v:=.sl sz (S0 lo n n' rows).1 (S0 lo n n' rows).2.1,ls:=[(g,j)],obl:=(S0 lo n n' rows).2.2} else j6.no
   | .frz sz' n' rows=>if sz=sz' then j6.pure {v:=.sl sz (S0 lo n n' rows).1 (S0 lo n n' rows).2.1,obl:=(S0 lo n n' rows).2.2} else j6.no
   | .deep false _ sz' n' rows=>if sz=sz' then j6.pure {v:=.sl sz (S0 lo n n' (V1 rows)).1 (S0 lo n n' (V1 rows)).2.1,ls:=[(g,j)],obl:=(S0 lo n n' (V1 rows)).2.2} else j6.no
   | _=>j6.no
  | .nil=>match ck with
   | some sz=>j6.pure {v:=.sl sz 0 []}
   | none=>j6.pure {v:=.nil}
  | .sl sz n rows=>j6.pure {v:=.sl sz n rows}
  | .b x=>j6.pure {v:=.b x}
  | .i k n=>j6.pure {v:=.i k n}
  | .s x=>j6.pure {v:=.s x}
  | .fn f=>j6.pure {v:=.fn f}
  | .bot=>j6.pure {v:=.bot}
  | .raw c=>j6.pure {v:=.raw c}
  | .hole=>j6.pure {v:=.hole}
  | _=>j6.no
def a1w:List (Option Nat)->List (Option Nat)->List V->j6 (AR (List V))
 | _,_,[]=>j6.pure {v:=[]}
 | ck,om,v::vs=>j6.bind (R1 (ck.headD none) (om.headD none) v) fun x=>j6.bind (a1w ck.tail om.tail vs) fun y=>
  j6.pure {v:=x.v::y.v,ks:=x.ks++y.ks,ls:=x.ls++y.ls,obl:=x.obl++y.obl}
def a0P(m:PM)(v:V):j6 (AR V):=
 match m with
 | .val ck om=>match v with
  | .agg cs=>j6.bind (a1w ck om cs) fun x=>j6.pure {v:=.agg x.v,ks:=x.ks,ls:=x.ls,obl:=x.obl}
  | .tup _=>j6.no
  | .bot=>j6.no
  | v=>R1 (ck.headD none) (om.headD none) v
 | .ptr ck om=>match v with
  | .ptr g j 0=>j6.bind (j6.rd g j) fun en=>match en with
   | .var e cs=>j6.bind (a1w ck om cs) fun x=>j6.pure {v:=.optr e x.v,ks:=(g,j)::x.ks,ls:=x.ls,obl:=x.obl}
   | _=>j6.no
  | _=>j6.no
 | .row=>match v with
  | .own g j sz 0 n=>j6.bind (j6.rd g j) fun en=>match en with
   | .row e sz' n' rows=>if sz'=sz then j6.pure {v:=.osl e sz n' rows,ks:=[(g,j)],obl:=[n=n']} else j6.no
   | .deep false e sz' n' rows=>if sz'=sz then j6.pure {v:=.dsl e sz n' rows,ks:=[(g,j)],obl:=[n=n']} else j6.no
   | _=>j6.no
  | _=>j6.no
 | .part=>match v with
  | .own g j sz lo n=>j6.bind (j6.rd g j) fun en=>match en with
   | .row _ sz' n' rows=>if sz=sz' then j6.pure {v:=.sl sz n ((rows.drop lo).take n),ls:=[(g,j)],obl:=[lo+n<=n']} else j6.no
   | _=>j6.no
  | _=>j6.no
def a01:List PM->List V->j6 (AR (List V))
 | _,[]=>j6.pure {v:=[]}
 | m::ms,v::vs=>j6.bind (a0P m v) fun x=>j6.bind (a01 ms vs) fun y=>
  j6.pure {v:=x.v::y.v,ks:=x.ks++y.ks,ls:=x.ls++y.ls,obl:=x.obl++y.obl}
 | [],_::_=>j6.no
inductive K2 (S:St) (w:World) (ι:Nat->Nat->Value):List (Nat×Nat)->List Nat->Prop
 | nil:K2 S w ι [] []
 | cons (id:Nat×Nat) (e:s4) (f:List Nat) (ks:List (Nat×Nat)) (fs:List Nat) (he:S.ent id.1 id.2=some e) (hl:e.live=true) (hf:∀k∈f,EB w e (ι id.1 id.2) k) (hn:f.Nodup) (t:K2 S w ι ks fs):K2 S w ι (id::ks) (f++fs)
theorem K2.append{S:St}{w:World}{ι:Nat->Nat->Value}{k1:List (Nat×Nat)}{f1:List Nat}(h:K2 S w ι k1 f1){k2:List (Nat×Nat)}{f2:List Nat}(h2:K2 S w ι k2 f2):K2 S w ι (k1++k2) (f1++f2):=by
 induction h with
 | nil=>exact h2
 | cons id e f ks fs he hl hf hn t ih=>
  rw [e92];exact .cons id e f _ _ he hl hf hn ih
theorem K2.one{S:St}{w:World}{ι:Nat->Nat->Value}{g j:Nat}{e:s4}{f:List Nat}(he:S.ent g j=some e)(hl:e.live=true)(hf:∀k∈f,EB w e (ι g j) k)(hn:f.Nodup):K2 S w ι [(g,j)] f:=by
 have:=K2.cons (S:=S) (w:=w) (ι:=ι) (g,j) e f [] [] he hl hf hn .nil;simpa using this
theorem K2.mem{S:St}{w:World}{ι:Nat->Nat->Value}{ks:List (Nat×Nat)}{fs:List Nat}(h:K2 S w ι ks fs){k:Nat}(hk:k∈fs):∃id∈ks,∃e,S.ent id.1 id.2=some e/\e.live=true/\EB w e (ι id.1 id.2) k:=by
 induction h with
 | nil=>cases hk
 | cons id e f ks fs he hl hf hn t ih=>
  rcases e9P.1 hk with q|q
  ·exact ⟨id,by simp,e,he,hl,hf k q⟩
  ·obtain ⟨id',a,b⟩:=ih q;exact ⟨id',by simp [a],b⟩
theorem K2.live{S:St}{w:World}{ι:Nat->Nat->Value}{ks:List (Nat×Nat)}{fs:List Nat}(h:K2 S w ι ks fs):∀id∈ks,∃e,S.ent id.1 id.2=some e/\e.live=true:=by
 induction h with
 | nil=>intro id hid;cases hid
 | cons id e f ks fs he hl hf hn t ih=>
  intro id' hid;rcases e9V.1 hid with rfl|hid
  ·exact ⟨e,he,hl⟩
  ·exact ih id' hid
theorem b8Z(c:Value):(D4 c).Nodup:=by
 unfold D4;cases B5 c<;>simp
section
variable {Γ:N0} {F F1:Nat->Prop} {ι:Nat->Nat->Value} {S:St} {a:Act} {w:World}
structure e9I(S:St)(ι:Nat->Nat->Value)(F1:Nat->Prop)(ks ls:List (Nat×Nat)):Prop where
 live:∀id∈ks,∃e,S.ent id.1 id.2=some e/\e.live=true
theorem b7R{D:Nat->Prop}{g j e sz n:Nat}{rows:List (List V)}{c:Value}(hc:RV w F D ι (.own g j sz 0 n) c)(ho:OR w F e sz (ι g j) n rows):c=ι g j:=by
 obtain ⟨flat,hown0,_⟩:=ho;obtain ⟨hD,⟨b,nn,cap,hι,hlo,hb0,hb1,hc⟩|⟨hl0',_⟩⟩:=hc.inv_own;case inr=>omega
 rcases hown0.2 with ⟨hv,hz⟩|⟨g0,cap0,cur,hv,_⟩
 ·rw [hι] at hv;injection hv with e1 e2 e3;subst e1;subst e2;subst e3;subst hz;rw [hc,hι];simp
 ·rw [hι] at hv;injection hv with e1 e2 e3;subst e1;subst e2;subst e3;rw [hc,hι];by_cases q:cap=0
  ·simp [q]
  ·simp [q,Addr.add]
theorem OR.mono{F':Nat->Prop}(hF:∀k,F k->F' k){e sz n:Nat}{rows:List (List V)}{c:Value}(h:OR w F e sz c n rows):OR w F' e sz c n rows:=by
 obtain ⟨flat,h1,h2,h3,h4⟩:=h;exact ⟨flat,h1,h2.mono (fun _ _ _=>rfl) hF,h3,h4⟩
theorem c1U{e sz n:Nat}{rows:List (List V)}{c:Value}{flat:List Value}(ho:w.ownsRow 0 e sz c n flat)(hf:FL w F1 rows.flatten flat)(hn:rows.length=n)(hl:∀r∈rows,r.length=sz)(hb:∀k,B5 c=some k->F1 k):FV w F1 (.sl sz n rows) c:=by
 rcases ho.2 with ⟨hv,h0⟩|⟨g0,cap,cur,hv,_,hg,hnc,hcm,hcs,ht⟩
 ·rw [hv];subst h0;have:rows=[]:=e90 hn;subst this;exact .sl0 sz none 0
 ·have hb':=hb g0 (by rw [hv];rfl);rw [hv];refine .sl sz n rows g0 0 cap flat hb' hf hn hl hnc ?_;intro q u hu;rw [cell_of_row w g0 (0+q) cur e (0,0) hg,f0y];rw [<-ht,f1e] at hu;split at hu
  ·simpa using hu
  ·cases hu
theorem d8d(rows:List (List V)):a0G rows.flatten=(rows.map a0G).flatten:=by
 induction rows with
 | nil=>rfl
 | cons r rows ih=>
  rw [f0d,f0j,f0d,<-ih,b3d,b3d,b3d,f1g]
theorem c0a{D:Nat->Prop}{e sz n' lo n g j:Nat}{rows:List (List V)}{c:Value}(hF:∀k,F k->F1 k)(hr:OR w F e sz (ι g j) n' rows)(hb:∀k,B5 (ι g j)=some k->F1 k)(hc:RC w F D ι (.own g j sz lo n) c)(hle:lo+n<=n'):FV w F1 (.sl sz n ((rows.drop lo).take n)) c:=by
 obtain ⟨flat,ho,hf,hn,hl⟩:=hr;exact a5d (e:=0) (D:=D) (c1U ho (hf.mono (fun _ _ _=>rfl) hF) hn hl hb) (hc.mono (fun _ _ _=>rfl) hF (fun _ x=>x) (fun _ _ _=>rfl)) hle
theorem b4i{D:Nat->Prop}{g j e sz n:Nat}{flat:List Value}{c:Value}(hc:RV w F D ι (.own g j sz 0 n) c)(hown0:w.ownsRow 0 e sz (ι g j) n flat):c=ι g j:=by
 obtain ⟨hD,⟨b,nn,cap,hι,hlo,hb0,hb1,hc⟩|⟨hl0',_⟩⟩:=hc.inv_own;case inr=>omega
 rcases hown0.2 with ⟨hv,hz⟩|⟨g0,cap0,cur,hv,_⟩
 ·rw [hι] at hv;injection hv with e1 e2 e3;subst e1;subst e2;subst e3;subst hz;rw [hc,hι];simp
 ·rw [hι] at hv;injection hv with e1 e2 e3;subst e1;subst e2;subst e3;rw [hc,hι];by_cases q:cap=0
  ·simp [q]
  ·simp [q,Addr.add]
mutual
theorem BC.memF {F1:Nat->Prop} (hF:∀k,F k->F1 k):∀{v c f},BC w F v c f->(∀k∈f,F1 k)->FV w F1 (a6v v) c
 | v,c,_,.fv _ _ h,_=>by
  have:a6v v=v:=by cases h<;>rfl
  rw [this];exact h.mono (fun _ _ _=>rfl) hF
 | _,_,_,.osl e sz n rows c h,hb=>by
  obtain ⟨flat,ho,hf,hn,hl⟩:=h;exact c1U ho (hf.mono (fun _ _ _=>rfl) hF) hn hl fun k hk=>hb k (P6.2 hk)
 | _,_,_,.dsl e sz n rows c flat fs ho hr hn hl,hb=>by
  have h2:=BL.memF hF hr fun k hk=>hb k (e9P.2 (.inr hk))
  rw [show a6v (.dsl e sz n rows)=.sl sz n (V1 rows) from rfl,c3C];refine c1U ho ?_ (by simpa using hn) ?_ fun k hk=>hb k (e9P.2 (.inl (P6.2 hk)))
  ·rw [<-d8d];exact h2
  ·intro r hr';obtain ⟨r0,h0,rfl⟩:=f0l.1 hr';rw [b3d,f0X];exact hl r0 h0
theorem BL.memF {F1:Nat->Prop} (hF:∀k,F k->F1 k):∀{vs cs f},BL w F vs cs f->(∀k∈f,F1 k)->FL w F1 (a0G vs) cs
 | _,_,_,.nil,_=>.nil
 | _,_,_,.cons v c f vs cs fs h t,hb=>.cons _ _ _ _ (BC.memF hF h fun k hk=>hb k (e9P.2 (.inl hk))) (BL.memF hF t fun k hk=>hb k (e9P.2 (.inr hk)))
end
theorem c3i(h:t7 Γ F ι S a w)(hF:∀k,F k->F1 k){ck om:Option Nat}{v:V}{c:Value}{r:AR V}{lg:List (Nat×Nat)}(hc:RC w F S.D ι v c)(hm:R1 ck om v S.ent=some (r,lg))(hob:∀p∈r.obl,p)(hL:∀id∈r.ls,∀e k,S.ent id.1 id.2=some e->EB w e (ι id.1 id.2) k->F1 k):∃fp,BC w F1 r.v c fp/\K2 S w ι r.ks fp/\(∀id∈r.ls,∃e,S.ent id.1 id.2=some e/\e.live=true):=by
 unfold R1 at hm;cases om with
 | some e=>
  simp only at hm;split at hm
  ·have:=j6.pure_some hm;injection this with h1 h2;subst h1;exact ⟨[],.fv _ _ (.bot _ hc.one),.nil,by simp⟩
  split at hm
  ·cases v<;>try (cases hm;done)
   case own g j sz lo n=>
   simp only at hm;obtain ⟨en,l1,l2,hrd,hp,hl12⟩:=j6.bind_some hm;clear hm;have he:=(j6.rd_some hrd).1;simp only at he;have hre:=h.ents g j en he;cases en<;>try (cases hp;done)
   case row e' sz' n' rows=>
    simp only at hp;split at hp<;>try (cases hp;done)
    rename_i hcond;subst hcond;have:=j6.pure_some hp;injection this with h1 h2;subst h1;have hle:lo+n<=n':=hob _ (by simp);refine ⟨[],.fv _ _ (c0a hF hre (fun k hk=>hL (g,j) (by simp) _ k he hk) hc hle),.nil,?_⟩;intro id hid;simp at hid;subst hid;exact ⟨_,he,rfl⟩
   case deep o e' sz' n' rows=>
    cases o<;>try (cases hp;done)
    simp only at hp;split at hp<;>try (cases hp;done)
    rename_i hcond;subst hcond;have:=j6.pure_some hp;injection this with h1 h2;subst h1;have hle:lo+n<=n':=hob _ (by simp);obtain ⟨flat,fs,ho,hkl,hn',hl,hd,hnr⟩:=id hre;have hall:∀k∈D4 (ι g j)++fs,F1 k:=fun k hk=>hL (g,j) (by simp) _ k he ((EB.deep_iff ho hkl).2 hk)
    have hfv:FV w F1 (.sl sz n' (V1 rows)) (ι g j):=BC.memF hF (.dsl e' sz n' rows (ι g j) flat fs ho (hkl.blOf (hnr rfl).flat) hn' hl) hall;refine ⟨[],.fv _ _ (a5d (e:=0) (D:=S.D) hfv (hc.mono (fun _ _ _=>rfl) hF (fun _ x=>x) (fun _ _ _=>rfl)) hle),.nil,?_⟩;intro id hid;simp at hid;subst hid;exact ⟨_,he,rfl⟩
  cases v<;>try (cases hm;done)
  case nil=>
   have:=j6.pure_some hm;injection this with h1 h2;subst h1;have hcc:c=.slice none 0 0:=(RV.cell hc).inv_nil;subst hcc;refine ⟨[],?_,.nil,by simp⟩;simp only;split
   ·exact BC.osl (w:=w) (F:=F1) e (ck.getD 0) 0 [] (.slice none 0 0) ⟨[],World.ownsRow_nil w 0 e _,.nil,rfl,by simp⟩
   ·exact BC.dsl (w:=w) (F:=F1) (e-b8A) (ck.getD 0) 0 [] (.slice none 0 0) [] [] (World.ownsRow_nil w 0 _ _) .nil rfl (by simp)
  case own g j sz lo n=>
   cases lo with
   | succ q=>cases hm
   | zero=>
   simp only at hm;obtain ⟨en,l1,l2,hrd,hp,hl12⟩:=j6.bind_some hm;clear hm;have he:=(j6.rd_some hrd).1;simp only at he;have hre:=h.ents g j en he;cases en<;>try (cases hp;done)
   case row e' sz' n' rows=>
    simp only at hp;split at hp<;>try (cases hp;done)
    rename_i hcond;obtain ⟨rfl,rfl⟩:=hcond;have:=j6.pure_some hp;injection this with h1 h2;subst h1;have hnn:n=n':=hob _ (by simp);subst hnn;have hcw:=b7R (RV.cell hc) hre;subst hcw;exact ⟨D4 (ι g j),.osl _ _ _ _ _ (OR.mono hF hre),.one he rfl (fun k hk=>P6.1 hk) (b8Z _),by simp⟩
   case deep o e' sz' n' rows=>
    cases o<;>try (cases hp;done)
    simp only at hp;split at hp<;>try (cases hp;done)
    rename_i hcond;obtain ⟨rfl,rfl⟩:=hcond;have:=j6.pure_some hp;injection this with h1 h2;subst h1;have hnn:n=n':=hob _ (by simp);subst hnn;obtain ⟨flat,fs,ho,hkl,hn,hl,hd,hnr⟩:=hre;have hcw:=b4i (RV.cell hc) ho;subst hcw;exact ⟨D4 (ι g j)++fs,.dsl _ _ _ _ _ flat fs ho ((hkl.blOf (hnr rfl).flat).mono (fun _ _ _=>rfl) hF fun _ _=>rfl) hn hl,.one he rfl (fun k hk=>(EB.deep_iff ho hkl).2 hk) hd,by simp⟩
 | none=>
  simp only at hm;cases v<;>try (cases hm;done)
  case own g j sz lo n=>
   simp only at hm;obtain ⟨en,l1,l2,hrd,hp,hl12⟩:=j6.bind_some hm;clear hm;have he:=(j6.rd_some hrd).1;simp only at he;have hre:=h.ents g j en he;cases en<;>try (cases hp;done)
   case row e' sz' n' rows=>
    simp only at hp;split at hp<;>try (cases hp;done)
    rename_i hcond;subst hcond;have:=j6.pure_some hp;injection this with h1 h2;subst h1;obtain ⟨flat,_,_,hn',_⟩:=id hre;obtain ⟨hle,hp1,hp2⟩:=a9T hn' hob;simp only [hp1,hp2];refine ⟨[],.fv _ _ (c0a hF hre (fun k hk=>hL (g,j) (by simp) _ k he hk) hc hle),.nil,?_⟩;intro id hid;simp at hid;subst hid;exact ⟨_,he,rfl⟩
   case frz sz' n' rows=>
    simp only at hp;split at hp<;>try (cases hp;done)
    rename_i hcond;subst hcond;have:=j6.pure_some hp;injection this with h1 h2;subst h1;have hr:FV w F (.sl sz n' rows) (ι g j):=hre;obtain ⟨hle,hp1,hp2⟩:=a9T hr.rows_len hob;simp only [hp1,hp2];exact ⟨[],.fv _ _ ((a5d (e:=0) (D:=S.D) hre hc hle).mono (fun _ _ _=>rfl) hF),.nil,by simp⟩
   case deep o e' sz' n' rows=>
    cases o<;>try (cases hp;done)
    simp only at hp;split at hp<;>try (cases hp;done)
    rename_i hcond;subst hcond;have:=j6.pure_some hp;injection this with h1 h2;subst h1;obtain ⟨flat,fs,ho,hkl,hn',hl,hd,hnr⟩:=id hre;have hall:∀k∈D4 (ι g j)++fs,F1 k:=fun k hk=>hL (g,j) (by simp) _ k he ((EB.deep_iff ho hkl).2 hk)
    have hfv:FV w F1 (.sl sz n' (V1 rows)) (ι g j):=BC.memF hF (.dsl e' sz n' rows (ι g j) flat fs ho (hkl.blOf (hnr rfl).flat) hn' hl) hall;obtain ⟨hle,hp1,hp2⟩:=a9T hfv.rows_len hob;simp only [hp1,hp2];refine ⟨[],.fv _ _ (a5d (e:=0) (D:=S.D) hfv (hc.mono (fun _ _ _=>rfl) hF (fun _ x=>x) (fun _ _ _=>rfl)) hle),.nil,?_⟩;intro id hid;simp at hid;subst hid;exact ⟨_,he,rfl⟩
  case nil=>
   have hcc:c=.slice none 0 0:=(RV.cell hc).inv_nil;subst hcc;cases ck with
   | some sz=>
    have:=j6.pure_some hm;injection this with h1 h2;subst h1;exact ⟨[],.fv _ _ (.sl0 sz none 0),.nil,by simp⟩
   | none=>
    have:=j6.pure_some hm;injection this with h1 h2;subst h1;exact ⟨[],.fv _ _ .nil,.nil,by simp⟩
  case hole=>
   cases hc with
   | fv v c h=>cases h
  all_goals
   have:=j6.pure_some hm;injection this with h1 h2;subst h1;refine ⟨[],.fv _ _ ?_,.nil,by simp⟩;cases hc with
   | fv v c h=>exact h.mono (fun _ _ _=>rfl) hF
def a11(S:St)(ks ls:List (Nat×Nat)):Prop:=(∀id∈ks,∃e,S.ent id.1 id.2=some e/\e.live=true)/\(∀id∈ls,∃e,S.ent id.1 id.2=some e/\e.live=true)
theorem a11.append{S:St}{k1 k2 l1 l2:List (Nat×Nat)}(h:a11 S k1 l1)(h':a11 S k2 l2):a11 S (k1++k2) (l1++l2):=
 ⟨fun id hid=>(e9P.1 hid).elim (h.1 id) (h'.1 id),fun id hid=>(e9P.1 hid).elim (h.2 id) (h'.2 id)⟩
theorem b1h(h:t7 Γ F ι S a w)(hF:∀k,F k->F1 k){vs:List V}{cs:List Value}(hc:v6 (RC w F S.D ι) vs cs):∀{ck om:List (Option Nat)} {r:AR (List V)} {lg:List (Nat×Nat)},a1w ck om vs S.ent=some (r,lg)->(∀p∈r.obl,p)->
  (∀id∈r.ls,∀e k,S.ent id.1 id.2=some e->EB w e (ι id.1 id.2) k->F1 k)->∃fp,BL w F1 r.v cs fp/\K2 S w ι r.ks fp/\a11 S r.ks r.ls:=by
 induction hc with
 | nil=>
  intro ck om r lg hm hob hL;have:=j6.pure_some hm;injection this with h1 h2;subst h1;exact ⟨[],.nil,.nil,by simp [a11]⟩
 | cons hv ht ih=>
  intro ck om r lg hm hob hL;obtain ⟨x,l1,l2,hx,hm1,_⟩:=j6.bind_some hm;obtain ⟨y,l3,l4,hy,hm2,_⟩:=j6.bind_some hm1;have:=j6.pure_some hm2;injection this with h1 h2;subst h1;obtain ⟨f1,b1,p1,k2⟩:=c3i h hF hv hx (fun p hp=>hob p (e9P.2 (.inl hp))) (fun id hid=>hL id (e9P.2 (.inl hid)));obtain ⟨f2,b2,p2,hh⟩:=ih hy (fun p hp=>hob p (e9P.2 (.inr hp))) (fun id hid=>hL id (e9P.2 (.inr hid)));exact ⟨f1++f2,.cons _ _ _ _ _ _ b1 b2,p1.append p2,a11.append ⟨p1.live,k2⟩ hh⟩
theorem e9w(h:t7 Γ F ι S a w)(hF:∀k,F k->F1 k){m:PM}{v:V}{c:Value}{r:AR V}{lg:List (Nat×Nat)}(hc:RV w F S.D ι v c)(hm:a0P m v S.ent=some (r,lg))(hob:∀p∈r.obl,p)(hL:∀id∈r.ls,∀e k,S.ent id.1 id.2=some e->EB w e (ι id.1 id.2) k->F1 k):∃fp,BA w F1 r.v c fp/\K2 S w ι r.ks fp/\a11 S r.ks r.ls:=by
 have cell:∀{v:V} {ck om:Option Nat},RV w F S.D ι v c->(∀cs,v ≠ .agg cs)->(∀cs,v ≠ .tup cs)->v ≠ .bot->R1 ck om v S.ent=some (r,lg)->∃fp,BA w F1 r.v c fp/\K2 S w ι r.ks fp/\a11 S r.ks r.ls:=by
  intro v ck om hc h1 h2 h3 hm;have hrc:RC w F S.D ι v c:=by
   cases hc with
   | one v c h=>cases h with
    | cell v c h=>exact h
    | agg cs ds h=>exact absurd rfl (h1 cs)
   | tup cs ds h=>exact absurd rfl (h2 cs)
   | any c=>exact absurd rfl h3
  obtain ⟨f,b,p,k⟩:=c3i h hF hrc hm hob hL;exact ⟨f,.cell _ _ _ b,p,p.live,k⟩
 cases m with
 | val ck om=>
  unfold a0P at hm;cases v<;>try (cases hm;done)
  case agg cs=>
   simp only at hm;obtain ⟨x,l1,l2,hx,hm1,_⟩:=j6.bind_some hm;have:=j6.pure_some hm1;injection this with h1 h2;subst h1;obtain ⟨ds,rfl,hall⟩:=hc.inv_agg;obtain ⟨f,b,p,hh⟩:=b1h h hF hall hx hob hL;exact ⟨f,.agg _ _ _ b,p,hh⟩
  all_goals exact cell hc (by simp) (by simp) (by simp) hm
 | ptr ck om=>
  unfold a0P at hm;cases v<;>try (cases hm;done)
  case ptr g j off=>
   cases off with
   | succ q=>cases hm
   | zero=>
   simp only at hm;obtain ⟨en,l1,l2,hrd,hp,hl12⟩:=j6.bind_some hm;clear hm;have he:=(j6.rd_some hrd).1;simp only at he;have hre:=h.ents g j en he;cases en<;>try (cases hp;done)
   case var e cs=>
    simp only at hp;obtain ⟨x,l3,l4,hx,hm1,_⟩:=j6.bind_some hp;have:=j6.pure_some hm1;injection this with h1 h2;subst h1;obtain ⟨hD,b,hι,rfl⟩:=hc.inv_ptr;obtain ⟨g0,cur,h1,hg,hall⟩:=hre;rw [hι] at h1;injection h1 with h1;injection h1 with h1;injection h1 with h1;subst h1;obtain ⟨f,bl,p,hh⟩:=b1h h hF hall hx hob hL;have hp:=K2.cons (S:=S) (w:=w) (ι:=ι) (g,j) _ [b] _ _ he rfl (fun k hk=>by
     rw [e9Z.1 hk];exact EB.top (by rw [hι];rfl)) (by simp) p
    exact ⟨b::f,.optr _ _ _ _ _ hg bl,hp,hp.live,hh.2⟩
 | row=>
  unfold a0P at hm;cases v<;>try (cases hm;done)
  case own g j sz lo n=>
   cases lo with
   | succ q=>cases hm
   | zero=>
   simp only at hm;obtain ⟨en,l1,l2,hrd,hp,hl12⟩:=j6.bind_some hm;clear hm;have he:=(j6.rd_some hrd).1;simp only at he;have hre:=h.ents g j en he;cases en<;>try (cases hp;done)
   case row e' sz' n' rows=>
    simp only at hp;split at hp<;>try (cases hp;done)
    rename_i hcond;subst hcond;have:=j6.pure_some hp;injection this with h1 h2;subst h1;have hnn:n=n':=hob _ (by simp);subst hnn;have hcw:=b7R hc hre;subst hcw;have hp:=K2.one (w:=w) (ι:=ι) he rfl (fun k hk=>P6.1 hk) (b8Z _);exact ⟨D4 (ι g j),.cell _ _ _ (.osl _ _ _ _ _ (OR.mono hF hre)),hp,hp.live,by simp⟩
   case deep o e' sz' n' rows=>
    cases o<;>try (cases hp;done)
    simp only at hp;split at hp<;>try (cases hp;done)
    rename_i hcond;subst hcond;have:=j6.pure_some hp;injection this with h1 h2;subst h1;have hnn:n=n':=hob _ (by simp);subst hnn;obtain ⟨flat,fs,ho,hkl,hn,hl,hd,hnr⟩:=hre;have hcw:=b4i hc ho;subst hcw;have hp:=K2.one (w:=w) (ι:=ι) he rfl (fun k hk=>(EB.deep_iff ho hkl).2 hk) hd;exact ⟨D4 (ι g j)++fs,.cell _ _ _ (.dsl _ _ _ _ _ flat fs ho ((hkl.blOf (hnr rfl).flat).mono (fun _ _ _=>rfl) hF fun _ _=>rfl) hn hl),hp,hp.live,by simp⟩
 | part=>
  unfold a0P at hm;cases v<;>try (cases hm;done)
  case own g j sz lo n=>
   simp only at hm;obtain ⟨en,l1,l2,hrd,hp,hl12⟩:=j6.bind_some hm;clear hm;have he:=(j6.rd_some hrd).1;simp only at he;have hre:=h.ents g j en he;cases en<;>try (cases hp;done)
   case row e' sz' n' rows=>
    simp only at hp;split at hp<;>try (cases hp;done)
    rename_i hcond;subst hcond;have:=j6.pure_some hp;injection this with h1 h2;subst h1;have hle:lo+n<=n':=hob _ (by simp);have hrc:RC w F S.D ι (.own g j sz lo n) c:=by
     cases hc with
     | one v c h=>cases h with
      | cell v c h=>exact h
    refine ⟨[],.cell _ _ _ (.fv _ _ (c0a hF hre (fun k hk=>hL (g,j) (by simp) _ k he hk) hrc hle)),.nil,by simp,?_⟩;intro id hid;simp at hid;subst hid;exact ⟨_,he,rfl⟩
theorem d2b(h:t7 Γ F ι S a w)(hF:∀k,F k->F1 k){vs:List V}{cs:List Value}(hc:v6 (RV w F S.D ι) vs cs):∀{ms:List PM} {r:AR (List V)} {lg:List (Nat×Nat)},a01 ms vs S.ent=some (r,lg)->(∀p∈r.obl,p)->
  (∀id∈r.ls,∀e k,S.ent id.1 id.2=some e->EB w e (ι id.1 id.2) k->F1 k)->∃fp,BS w F1 r.v cs fp/\K2 S w ι r.ks fp/\a11 S r.ks r.ls:=by
 induction hc with
 | nil=>
  intro ms r lg hm hob hL;have:a01 ms []=j6.pure {v:=[]}:=by cases ms<;>rfl
  rw [this] at hm;have:=j6.pure_some hm;injection this with h1 h2;subst h1;exact ⟨[],.nil,.nil,by simp [a11]⟩
 | cons hv ht ih=>
  intro ms r lg hm hob hL;cases ms with
  | nil=>cases hm
  | cons m ms=>
  obtain ⟨x,l1,l2,hx,hm1,_⟩:=j6.bind_some hm;obtain ⟨y,l3,l4,hy,hm2,_⟩:=j6.bind_some hm1;have:=j6.pure_some hm2;injection this with h1 h2;subst h1;obtain ⟨f1,b1,p1,k1⟩:=e9w h hF hv hx (fun p hp=>hob p (e9P.2 (.inl hp))) (fun id hid=>hL id (e9P.2 (.inl hid)));obtain ⟨f2,b2,p2,hh⟩:=ih hy (fun p hp=>hob p (e9P.2 (.inr hp))) (fun id hid=>hL id (e9P.2 (.inr hid)));exact ⟨f1++f2,.cons _ _ _ _ _ _ b1 b2,p1.append p2,a11.append k1 hh⟩
end
def E9(ks:List (Nat×Nat)):List N1:=ks.map fun id=>(id,.dead)
section
variable {Γ:N0} {F F':Nat->Prop} {ι:Nat->Nat->Value} {S:St} {a:Act} {w w':World}
theorem a8P(ks:List (Nat×Nat)):∀{S:St} {g j:Nat} {e:s4},(S.upds (E9 ks)).ent g j=some e->((g,j)∈ks/\e=.dead)\/((g,j) ∉ ks/\S.ent g j=some e):=by
 induction ks with
 | nil=>intro S g j e h;exact .inr ⟨by simp,h⟩
 | cons id ks ih=>
  intro S g j e h;obtain ⟨g0,j0⟩:=id;rcases ih (S:=S.setE g0 j0 .dead) h with ⟨h1,h2⟩|⟨h1,h2⟩
  ·exact .inl ⟨by simp [h1],h2⟩
  ·by_cases q:g=g0/\j=j0
   ·obtain ⟨rfl,rfl⟩:=q;by_cases q2:∃e0,S.ent g j=some e0
    ·obtain ⟨e0,he⟩:=q2;rw [P4 he] at h2;simp at h2;exact .inl ⟨by simp,h2.symm⟩
    ·exfalso
     apply q2;unfold St.setE at h2;split at h2
     ·rename_i l hl;have:j<l.length:=by
       have:=St.D_of_ent h2;rw [a1c (S:={S with h:=S.h.set g (some (l.set j .dead))}) (l:=l.set j .dead) (by simp [(e9T.1 hl).1])] at h2;have:=(e9T.1 h2).1;simpa using this
      exact ⟨l[j],by rw [a1c hl];simp [this]⟩
     ·exact ⟨e,h2⟩
   ·rw [a5l q] at h2;refine .inr ⟨?_,h2⟩;intro hm;rcases e9V.1 hm with hm|hm
    ·injection hm with x y;exact q ⟨x,y⟩
    ·exact h1 hm
theorem t7.killAll(ks:List (Nat×Nat)):∀{S:St},t7 Γ F ι S a w->(∀id∈ks,∃e,S.ent id.1 id.2=some e)->t7 Γ F ι (S.upds (E9 ks)) a w:=by
 induction ks with
 | nil=>exact fun h _=>h
 | cons id ks ih=>
  intro S h hk;obtain ⟨g0,j0⟩:=id;obtain ⟨e,he⟩:=hk (g0,j0) (by simp);refine ih (h.kill he) ?_;intro id hid;obtain ⟨e',he'⟩:=hk id (by simp [hid]);by_cases q:id.1=g0/\id.2=j0
  ·exact ⟨.dead,by rw [P4 he];simp [q]⟩
  ·exact ⟨e',by rw [a5l q];exact he'⟩
theorem t7.world3(h:t7 Γ F ι S a w){fp:List Nat}(hk:a3w (· ∈ fp) w w')(hfp:∀k∈fp,¬F k/\(Γ.own k\/Γ.w0.heap.size<=k)/\∀g j e,S.ent g j=some e->e.live=true->¬EB w e (ι g j) k):t7 Γ F ι S a w':=by
  have hs:G8 w w' F:=a0N fun g hF=>hk.block g (h.F1 g hF) fun q=>(hfp g q).1 hF
  have hbk:∀g j e,S.ent g j=some e->e.live=true->∀k,EB w e (ι g j) k->w'.heap[k]?=w.heap[k]?:=fun g j e he hl k hk'=>hk.block k (h.lt he hl hk') fun q=>(hfp k q).2.2 g j e he hl hk'
  exact
    { F0:=h.F0
      F1:=fun g hF=>f0V (h.F1 g hF) hk.size
      F2:=h.F2
      kept:=h.kept.trans hk (fun g hg hlt=>by
        rcases (hfp g hg).2.1 with x|x
        · exact x
        · omega)
      tmps:=h.tmps.imp fun _ _ x=>x.mono hs (fun _ y=>y) (fun _ y=>y) (fun _ _ _=>rfl)
      ents:=fun g j e he=>(h.ents g j e he).mono hs (fun _ y=>y) (fun _ y=>y) (fun _ _ _=>rfl) (fun k hl hk'=>hbk g j e he hl k hk')
      sep:=fun g j e k he hl hk'=>h.sep g j e k he hl ((h.ents g j e he).back (hbk g j e he hl) hk')
      inj:=fun g j e g' j' e' k he he' hl hl' hk1 hk2=>h.inj g j e g' j' e' k he he' hl hl' ((h.ents g j e he).back (hbk g j e he hl) hk1) ((h.ents g' j' e' he').back (hbk g' j' e' he' hl') hk2)
      defers:=h.defers
      pins:=h.pins}
theorem t7.grow(h:t7 Γ F ι S a w)(hF:∀k,F k->F' k)(h1:∀k,F' k->k<w.heap.size)(h2:∀k,F' k->Γ.F0 k\/Γ.own k\/Γ.w0.heap.size<=k)(h3:∀g j e k,S.ent g j=some e->e.live=true->EB w e (ι g j) k->¬F' k):t7 Γ F' ι S a w:=
  { F0:=fun g x=>hF g (h.F0 g x)
    F1:=h1
    F2:=h2
    kept:=h.kept
    tmps:=h.tmps.imp fun _ _ x=>x.mono (fun _ _ _=>rfl) hF (fun _ y=>y) (fun _ _ _=>rfl)
    ents:=fun g j e he=>(h.ents g j e he).mono (fun _ _ _=>rfl) hF (fun _ y=>y) (fun _ _ _=>rfl) (fun _ _ _=>rfl)
    sep:=fun g j e k he hl hk=>⟨h3 g j e k he hl hk,(h.sep g j e k he hl hk).2⟩
    inj:=h.inj
    defers:=h.defers
    pins:=h.pins}
theorem t7.revive(h:t7 Γ F ι S a w){g j:Nat}{e':s4}(he:S.ent g j=some .dead)(hre:RE w F S.D ι e' (ι g j))(hsep:e'.live=true->∀k,EB w e' (ι g j) k->(¬F k/\(Γ.own k\/Γ.w0.heap.size<=k))/\∀g' j' e,S.ent g' j'=some e->e.live=true->¬EB w e (ι g' j') k):t7 Γ F ι (S.setE g j e') a w:=by
  have hD:∀k,S.D k->(S.setE g j e').D k:=fun k x=>P7.2 x
  have hs:G8 w w F:=fun _ _ _=>rfl
  have old:∀g' j' e1,(S.setE g j e').ent g' j'=some e1->(g'=g/\j'=j/\e1=e')\/(¬(g'=g/\j'=j)/\S.ent g' j'=some e1):=by
    intro g' j' e1 h';rw [P4 he] at h';split at h'
    · rename_i q;injection h' with h';exact .inl ⟨q.1,q.2,h'.symm⟩
    · rename_i q;exact .inr ⟨q,h'⟩
  exact
    { F0:=h.F0,F1:=h.F1,F2:=h.F2,kept:=h.kept
      tmps:=by rw [a7b];exact h.tmps.imp fun _ _ x=>x.mono hs (fun _ y=>y) hD (fun _ _ _=>rfl)
      ents:=fun g' j' e1 h'=>by
        rcases old g' j' e1 h' with ⟨rfl,rfl,rfl⟩|⟨_,h'⟩
        · exact hre.mono hs (fun _ y=>y) hD (fun _ _ _=>rfl) (fun _ _ _=>rfl)
        · exact (h.ents g' j' e1 h').mono hs (fun _ y=>y) hD (fun _ _ _=>rfl) (fun _ _ _=>rfl)
      sep:=fun g' j' e1 k h' hl hk=>by
        rcases old g' j' e1 h' with ⟨rfl,rfl,rfl⟩|⟨_,h'⟩
        · exact (hsep hl k hk).1
        · exact h.sep g' j' e1 k h' hl hk
      inj:=fun g1 j1 e1 g2 j2 e2 k h1 h2 l1 l2 k1 k2=>by
        rcases old g1 j1 e1 h1 with ⟨rfl,rfl,rfl⟩|⟨_,y1⟩
        · rcases old g2 j2 e2 h2 with ⟨rfl,rfl,rfl⟩|⟨_,y2⟩
          · exact ⟨rfl,rfl⟩
          · exact absurd k2 ((hsep l1 k k1).2 g2 j2 e2 y2 l2)
        · rcases old g2 j2 e2 h2 with ⟨rfl,rfl,rfl⟩|⟨_,y2⟩
          · exact absurd k1 ((hsep l2 k k2).2 g1 j1 e1 y1 l1)
          · exact h.inj g1 j1 e1 g2 j2 e2 k y1 y2 l1 l2 k1 k2
      defers:=h.defers
      pins:=fun j c hc=>⟨P7.2 (h.pins j c hc).1,(h.pins j c hc).2⟩}
theorem t7.reviveAll(us:List N1):∀{S:St},t7 Γ F ι S a w->(us.map (·.1)).Nodup->(∀u∈us,S.ent u.1.1 u.1.2=some .dead)->(∀u∈us,RE w F S.D ι u.2 (ι u.1.1 u.1.2))->
  (∀u∈us,u.2.live=true->∀k,EB w u.2 (ι u.1.1 u.1.2) k->(¬F k/\(Γ.own k\/Γ.w0.heap.size<=k))/\∀g' j' e,S.ent g' j'=some e->e.live=true->¬EB w e (ι g' j') k)->
  (∀u∈us,∀v∈us,∀k,u.2.live=true->v.2.live=true->EB w u.2 (ι u.1.1 u.1.2) k->EB w v.2 (ι v.1.1 v.1.2) k->u.1=v.1)->t7 Γ F ι (S.upds us) a w:=by
 induction us with
 | nil=>intro S h _ _ _ _ _;exact h
 | cons u us ih=>
  intro S h hn hd hre hsep hpair;obtain ⟨⟨g,j⟩,e'⟩:=u;have hn':=f0Q.1 hn;have hdead:=hd ((g,j),e') (by simp);have h1:=h.revive hdead (hre ((g,j),e') (by simp)) (fun hl=>hsep ((g,j),e') (by simp) hl);have hne:∀v∈us,¬(v.1.1=g/\v.1.2=j):=by
   intro v hv q;exact hn'.1 (f0l.2 ⟨v,hv,Prod.ext q.1 q.2⟩)
  refine ih h1 hn'.2 ?_ ?_ ?_ ?_
  ·intro v hv;rw [a5l (hne v hv)];exact hd v (by simp [hv])
  ·intro v hv;exact (hre v (by simp [hv])).mono (fun _ _ _=>rfl) (fun _ y=>y) (fun k x=>P7.2 x) (fun _ _ _=>rfl) (fun _ _ _=>rfl)
  ·intro v hv hl k hk;refine ⟨(hsep v (by simp [hv]) hl k hk).1,?_⟩;intro g' j' e1 he1 hl1 hk1;rw [P4 hdead] at he1;split at he1
   ·rename_i q;injection he1 with he1;subst he1;obtain ⟨rfl,rfl⟩:=q;have:=hpair v (by simp [hv]) ((g',j'),e') (by simp) k hl hl1 hk hk1;exact hne v hv ⟨by rw [this],by rw [this]⟩
   ·exact (hsep v (by simp [hv]) hl k hk).2 g' j' e1 he1 hl1 hk1
  ·intro x hx y hy;exact hpair x (by simp [hx]) y (by simp [hy])
theorem c9U{S:St}{g j grp:Nat}{e:s4}{new:List s4}(h:g≠grp):(S.setE g j e).lay grp new=(S.lay grp new).setE g j e:=by
 unfold St.setE St.lay;simp only [f0a (Ne.symm h)];cases hx:S.h[g]? with
 | none=>rfl
 | some o=>cases o with
  | none=>rfl
  | some l=>simp only [List.set_comm _ _ h]
theorem b0k{grp:Nat}{new:List s4}:∀(us:List N1) (S:St),(∀u∈us,u.1.1≠grp)->(S.upds us).lay grp new=(S.lay grp new).upds us
 | [],_,_=>rfl
 | ((g,j),e)::us,S,h=>by
  simp only [St.upds];rw [b0k us _ (fun u hu=>h u (by simp [hu])),c9U (h ((g,j),e) (by simp))]
end
def a1H:List (Option Nat)->List V->List V->Option (List N1)
 | _,[],[]=>some []
 | om,a::B4,o::os=>match om.headD none,a,o with
  | none,_,.bot=>a1H om.tail B4 os
  | some q,.own g j _ 0 _,.osl e sz n rows=>if q=b5y then none else if q=a8T then none else match a1H om.tail B4 os with
   | some us=>some (((g,j),.row e sz n rows)::us)
   | none=>none
  | some q,.own g j _ 0 _,.dsl e sz n rows=>if q=b5y then none else if q=a8T then none else match a1H om.tail B4 os with
   | some us=>some (((g,j),.deep false e sz n rows)::us)
   | none=>none
  | _,_,_=>none
 | _,_,_=>none
def Q2(grp:Nat):Nat->List PM->List V->List (Option V)->Option (List N1×List s4)
 | _,[],[],[]=>some ([],[])
 | j,_::ms,_::B4,none::os=>Q2 grp j ms B4 os
 | j,.ptr _ _::ms,.ptr g j0 0::B4,some (.optr e cs)::os=>
  let x:=I9 grp j cs;match Q2 grp (j+x.2.length) ms B4 os with
  | some (us,es)=>some (((g,j0),.var e x.1)::us,x.2++es)
  | none=>none
 | j,.row::ms,.own g j0 _ 0 _::B4,some (.osl e sz n rows)::os=>
  match Q2 grp j ms B4 os with
  | some (us,es)=>some (((g,j0),.row e sz n rows)::us,es)
  | none=>none
 | j,.row::ms,.own g j0 _ 0 _::B4,some (.dsl e sz n rows)::os=>
  match Q2 grp j ms B4 os with
  | some (us,es)=>some (((g,j0),.deep false e sz n rows)::us,es)
  | none=>none
 | j,.val _ om::ms,.agg cs::B4,some (.agg xs)::os=>
  match a1H om cs xs with
  | some us'=>match Q2 grp j ms B4 os with
   | some (us,es)=>some (us'++us,es)
   | none=>none
  | none=>none
 | _,_,_,_=>none
def b4m:V->Prop
 | .osl _ _ _ rows => ∀r∈rows,∀c∈r,c.simple=true
 | v=>v.simple=true
def N8:V->Prop
 | .osl _ _ _ rows => ∀r∈rows,∀c∈r,c.simple=true
 | .dsl _ _ _ rows => ∀r∈rows,∀c∈r,b4m c
 | .bot=>True
 | .raw _=>True
 | .hole=>True
 | v=>v.simple=true
def S8:V->Prop
 | .agg cs => ∀c∈cs,N8 c
 | .optr _ cs => ∀c∈cs,N8 c
 | v=>N8 v
def J8:V->Prop
 | .tup vs => ∀v∈vs,S8 v
 | v=>S8 v
def a3u(outs:List (Option V)):Prop := ∀v,some v∈outs->S8 v
section
variable {w:World} {F F':Nat->Prop}
theorem FV.scal{v:V}{c:Value}(h:FV w F' v c)(hs:v.simple=true):FV w F v c:=by
 cases h<;>first|(simp [V.simple] at hs;done)|constructor
theorem FL.scal{vs:List V}{cs:List Value}(h:v6 (FV w F') vs cs)(hs:∀v∈vs,v.simple=true):FL w F vs cs:=by
 induction h with
 | nil=>exact .nil
 | cons hv _ ih=>exact .cons _ _ _ _ (hv.scal (hs _ (by simp))) (ih fun v hv=>hs v (by simp [hv]))
theorem BC.scalD{v:V}{c:Value}{f:List Nat}(h:BC w F' v c f)(hs:b4m v):BC w F v c f:=by
 cases h with
 | fv v c h=>
  refine .fv _ _ (h.scal ?_);cases h<;>exact hs
 | osl e sz n rows c h=>
  obtain ⟨flat,h1,h2,h3,h4⟩:=h;refine .osl _ _ _ _ _ ⟨flat,h1,FL.scal h2.all2 ?_,h3,h4⟩;intro v hv;obtain ⟨r,hr,hv⟩:=f0E.1 hv;exact hs r hr v hv
 | dsl=>cases hs
theorem BL.scalD:∀{vs:List V} {cs:List Value} {f:List Nat},BL w F' vs cs f->(∀v∈vs,b4m v)->BL w F vs cs f
 | _,_,_,.nil,_=>.nil
 | _,_,_,.cons v c f vs cs fs h t,hs=>.cons _ _ _ _ _ _ (h.scalD (hs v (by simp))) (BL.scalD t fun v hv=>hs v (by simp [hv]))
theorem BC.scal{v:V}{c:Value}{f:List Nat}(h:BC w F' v c f)(hs:N8 v):BC w F v c f:=by
 cases h with
 | fv v c h=>
  cases h with
  | bot c h=>exact .fv _ _ (.bot c h)
  | raw c h=>exact .fv _ _ (.raw c h)
  | _=>refine .fv _ _ (FV.scal (F':=F') (by constructor<;>assumption) hs)
 | osl e sz n rows c h=>
  obtain ⟨flat,h1,h2,h3,h4⟩:=h;refine .osl _ _ _ _ _ ⟨flat,h1,FL.scal h2.all2 ?_,h3,h4⟩;intro v hv;obtain ⟨r,hr,hv⟩:=f0E.1 hv;exact hs r hr v hv
 | dsl e sz n rows c flat fs ho hr hn hl=>
  refine .dsl _ _ _ _ _ flat fs ho (hr.scalD ?_) hn hl;intro v hv;obtain ⟨r,hr,hv⟩:=f0E.1 hv;exact hs r hr v hv
theorem BL.scal:∀{vs:List V} {cs:List Value} {f:List Nat},BL w F' vs cs f->(∀v∈vs,N8 v)->BL w F vs cs f
 | _,_,_,.nil,_=>.nil
 | _,_,_,.cons v c f vs cs fs h t,hs=>.cons _ _ _ _ _ _ (h.scal (hs v (by simp))) (BL.scal t fun v hv=>hs v (by simp [hv]))
theorem BA.scal{v:V}{c:Value}{f:List Nat}(h:BA w F' v c f)(hs:S8 v):BA w F v c f:=by
 cases h with
 | cell v c f h=>
  refine .cell _ _ _ (h.scal ?_);cases h with
  | fv v c h=>cases h<;>exact hs
  | osl e sz n rows c h=>exact hs
  | dsl=>exact hs
 | agg cs ds f h=>exact .agg _ _ _ (h.scal hs)
 | optr e cs g cur f hg h=>exact .optr _ _ _ _ _ hg (h.scal hs)
theorem BS.scal{vs:List V}{cs:List Value}{f:List Nat}(h:BS w F' vs cs f):(∀v∈vs,S8 v)->BS w F vs cs f:=by
 induction h with
 | nil=>exact fun _=>.nil
 | cons v c f vs cs fs h t ih=>exact fun hs=>.cons _ _ _ _ _ _ (h.scal (hs v (by simp))) (ih fun v hv=>hs v (by simp [hv]))
theorem BR.scal{v:V}{c:Value}{f:List Nat}(h:BR w F' v c f)(hs:J8 v):BR w F v c f:=by
 cases h with
 | one v c f h=>
  refine .one _ _ _ (h.scal ?_);cases h with
  | cell v c f h=>cases h with
   | fv v c h=>cases h<;>exact hs
   | osl e sz n rows c h=>exact hs
   | dsl=>exact hs
  | agg cs ds f h=>exact hs
  | optr e cs g cur f hg h=>exact hs
 | tup vs cs f h=>exact .tup _ _ _ (h.scal hs)
theorem BO.scal{vs:List (Option V)}{cs:List Value}{f:List Nat}(h:BO w F' vs cs f):a3u vs->BO w F vs cs f:=by
 induction h with
 | nil=>exact fun _=>.nil
 | skip c vs cs fs t ih=>exact fun hs=>.skip _ _ _ _ (ih fun v hv=>hs v (by simp [hv]))
 | cons v c f vs cs fs h t ih=>exact fun hs=>.cons _ _ _ _ _ _ (h.scal (hs v (by simp))) (ih fun v hv=>hs v (by simp [hv]))
end
theorem a7n{A B C:List Nat}{X:List Nat}(h:X.Perm (A++B)):(C++X).Perm (A++(C++B)):=by
 refine (f08.append_left C h).trans ?_;rw [<-e92,<-e92];exact f08.append_right B List.perm_append_comm
def RwC(ι:Nat->Nat->Value):List (Option Nat)->List V->List Value->Prop
 | om,v::vs,c::cs=>(∀e g j sz n,om.headD none=some e->v=.own g j sz 0 n->e≠b5y->e≠a8T->c=ι g j)/\RwC ι om.tail vs cs
 | _,_,_=>True
inductive Rw (ι:Nat->Nat->Value):List PM->List V->List Value->Prop
 | nil (ms):Rw ι ms [] []
 | row (ms v c vs cs) (h:∀g j sz n,v=.own g j sz 0 n->c=ι g j) (t:Rw ι ms vs cs):Rw ι (.row::ms) (v::vs) (c::cs)
 | other (m ms v c vs cs) (h:m ≠ .row) (ha:∀ck om xs ds,m=.val ck om->v=.agg xs->c=.agg ds->RwC ι om xs ds.toList) (t:Rw ι ms vs cs):Rw ι (m::ms) (v::vs) (c::cs)
theorem e4s{Γ:N0}{F:Nat->Prop}{ι:Nat->Nat->Value}{S:St}{a:Act}{w:World}(h:t7 Γ F ι S a w){vs:List V}{cs:List Value}(hc:v6 (RC w F S.D ι) vs cs):∀{ck om:List (Option Nat)} {r:AR (List V)} {lg:List (Nat×Nat)},a1w ck om vs S.ent=some (r,lg)->(∀p∈r.obl,p)->RwC ι om vs cs:=by
 induction hc with
 | nil=>exact fun _ _=>trivial
 | cons hv ht ih=>
  intro ck om r lg hm hob;obtain ⟨x,l1,l2,hx,hm1,_⟩:=j6.bind_some hm;obtain ⟨y,l3,l4,hy,hm2,_⟩:=j6.bind_some hm1;have:=j6.pure_some hm2;injection this with h1 h2;subst h1;refine ⟨?_,ih hy fun p hp=>hob p (e9P.2 (.inr hp))⟩;intro e g j sz n hom hvv hne hne2;subst hvv;rw [hom] at hx;unfold R1 at hx;simp only [if_neg hne,if_neg hne2] at hx;obtain ⟨en,q1,q2,hrd,hp,_⟩:=j6.bind_some hx;have he:=(j6.rd_some hrd).1;simp only at he;have hre:=h.ents g j en he;cases en<;>try (cases hp;done)
  case row e' sz' n' rows=>
   simp only at hp;split at hp<;>try (cases hp;done)
   rename_i hcond;obtain ⟨rfl,rfl⟩:=hcond;have:=j6.pure_some hp;injection this with h1 h2;have h1:x=_:=h1;have hnn:n=n':=hob _ (e9P.2 (.inl (by rw [h1];simp)));subst hnn;exact b7R (RV.cell hv) hre
  case deep o e' sz' n' rows=>
   cases o<;>try (cases hp;done)
   simp only at hp;split at hp<;>try (cases hp;done)
   rename_i hcond;obtain ⟨rfl,rfl⟩:=hcond;have:=j6.pure_some hp;injection this with h1 h2;have hnn:n=n':=hob _ (e9P.2 (.inl (by rw [h1];simp)));subst hnn;obtain ⟨flat,fs,ho,_⟩:=hre;exact b4i (RV.cell hv) ho
theorem d79{Γ:N0}{F:Nat->Prop}{ι:Nat->Nat->Value}{S:St}{a:Act}{w:World}(h:t7 Γ F ι S a w){vs:List V}{cs:List Value}(hc:v6 (RV w F S.D ι) vs cs):∀{ms:List PM} {r:AR (List V)} {lg:List (Nat×Nat)},a01 ms vs S.ent=some (r,lg)->(∀p∈r.obl,p)->Rw ι ms vs cs:=by
 induction hc with
 | nil=>exact fun _ _=>.nil _
 | cons hv ht ih=>
  intro ms r lg hm hob;cases ms with
  | nil=>cases hm
  | cons m ms=>
  obtain ⟨x,l1,l2,hx,hm1,_⟩:=j6.bind_some hm;obtain ⟨y,l3,l4,hy,hm2,_⟩:=j6.bind_some hm1;have:=j6.pure_some hm2;injection this with h1 h2;subst h1;have t:=ih hy (fun p hp=>hob p (e9P.2 (.inr hp)));cases m with
  | row=>
   refine .row _ _ _ _ _ ?_ t;intro g j sz n hvv;subst hvv;unfold a0P at hx;simp only at hx;obtain ⟨en,q1,q2,hrd,hp,hl12⟩:=j6.bind_some hx;have he:=(j6.rd_some hrd).1;simp only at he;have hre:=h.ents g j en he;cases en<;>try (cases hp;done)
   case row e' sz' n' rows=>
    simp only at hp;split at hp<;>try (cases hp;done)
    rename_i hcond;subst hcond;have:=j6.pure_some hp;injection this with h1 h2;have hnn:n=n':=hob _ (e9P.2 (.inl (by rw [h1];simp)));subst hnn;exact b7R hv hre
   case deep o e' sz' n' rows=>
    cases o<;>try (cases hp;done)
    simp only at hp;split at hp<;>try (cases hp;done)
    rename_i hcond;subst hcond;have:=j6.pure_some hp;injection this with h1 h2;have hnn:n=n':=hob _ (e9P.2 (.inl (by rw [h1];simp)));subst hnn;obtain ⟨flat,fs,ho,_⟩:=hre;exact b4i hv ho
  | val ck om=>
   refine .other _ _ _ _ _ _ (by simp) ?_ t;intro ck' om' xs ds hm hv' hc';injection hm with e1 e2;subst e1;subst e2;subst hv';subst hc';unfold a0P at hx;simp only at hx;obtain ⟨z,q1,q2,hz,hp,_⟩:=j6.bind_some hx;have:=j6.pure_some hp;injection this with h1 h2;have hall:v6 (RC w F S.D ι) xs ds.toList:=by
    cases hv with
    | one v c h=>cases h with
     | cell v c h=>cases h with
      | fv v c h=>cases h
     | agg cs ds h=>simpa using h
   have h1:x=_:=h1;exact e4s h hall hz fun p hp=>hob p (e9P.2 (.inl (by rw [h1];exact hp)))
  | ptr ck om=>exact .other _ _ _ _ _ _ (by simp) (fun _ _ _ _ q=>by cases q) t
  | part=>exact .other _ _ _ _ _ _ (by simp) (fun _ _ _ _ q=>by cases q) t
theorem e1g{w w':World}{F F' D0:Nat->Prop}{ι:Nat->Nat->Value}{B4:List V}{ds:List Value}(hall:v6 (RC w F D0 ι) B4 ds):∀{om:List (Option Nat)} {xs:List V} {f:List Nat} {us:List N1},
  RwC ι om B4 ds->BL w' F' xs ds f->a1H om B4 xs=some us->
  ∃fu:List Nat,f.Perm fu/\G6 w' (us.map (·.2)) (us.map fun u=>ι u.1.1 u.1.2) fu/\(∀u∈us,D0 u.1.1)/\∀(D:Nat->Prop) (ι':Nat->Nat->Value),f.Nodup->∀u∈us,RE w' F' D ι' u.2 (ι u.1.1 u.1.2):=by
 induction hall with
 | nil=>
  intro om xs f us hrw hbl hm;cases hbl;simp [a1H] at hm;subst hm;exact ⟨[],.nil,.nil,by simp,by simp⟩
 | @cons a d B4 ds hv ht ih=>
  intro om xs f us hrw hbl hm;cases hbl with
  | cons x c f1 xs cs fs h t=>
  obtain ⟨hr1,hrw'⟩:=hrw;unfold a1H at hm;split at hm<;>try (cases hm;done)
  ·obtain rfl:f1=[]:=by cases h with|fv v c h=>rfl
   exact ih hrw' t hm
  ·rename_i q g j s0 n0 e sz n rows hom;split at hm<;>try (cases hm;done)
   rename_i hq;split at hm<;>try (cases hm;done)
   rename_i hq2;split at hm<;>try (cases hm;done)
   rename_i us' hrec;injection hm with hm;subst hm;have hw:=hr1 q g j s0 n0 hom rfl hq hq2;have hD0:=(RV.cell hv).inv_own.1;obtain ⟨hor,rfl⟩:OR w' F' e sz d n rows/\f1=D4 d:=by
    cases h with
    | fv v c h=>cases h
    | osl e sz n rows c h=>exact ⟨h,rfl⟩
   obtain ⟨fu,hp,hh,hd,hre⟩:=ih hrw' t hrec;refine ⟨D4 d++fu,f08.append_left _ hp,G6.cons (fun k hk=>by rw [hw];exact P6.2 hk) hh,?_,?_⟩
   ·intro u hu;rcases e9V.1 hu with rfl|hu
    ·exact hD0
    ·exact hd u hu
   ·intro D ι' hnd u hu;rw [e9X] at hnd;rcases e9V.1 hu with rfl|hu
    ·rw [<-hw];exact hor
    ·exact hre D ι' hnd.2.1 u hu
  ·rename_i q g j s0 n0 e sz n rows hom;split at hm<;>try (cases hm;done)
   rename_i hq;split at hm<;>try (cases hm;done)
   rename_i hq2;split at hm<;>try (cases hm;done)
   rename_i us' hrec;injection hm with hm;subst hm;have hw:=hr1 q g j s0 n0 hom rfl hq hq2;have hD0:=(RV.cell hv).inv_own.1;obtain ⟨flat,fs,ho,hbl,hn,hl,rfl⟩:∃flat fs,w'.ownsRow 0 e sz d n flat/\BL w' F' rows.flatten flat fs/\rows.length=n/\(∀r∈rows,r.length=sz)/\f1=D4 d++fs:=by
    cases h with
    | fv v c h=>cases h
    | dsl e sz n rows c flat fs ho hr hn hl=>exact ⟨flat,fs,ho,hr,hn,hl,rfl⟩
   obtain ⟨fu,hp,hh,hd,hre⟩:=ih hrw' t hrec;refine ⟨(D4 d++fs)++fu,f08.append_left _ hp,G6.cons (fun k hk => ?_) hh,?_,?_⟩
   ·have hk:EB w' (.deep false e sz n rows) (ι g j) k:=hk;rw [<-hw] at hk;exact (EB.deep_iff (D:=fun _=>True) (ι:=fun _ _=>.nilFunc) ho hbl.kl).1 hk
   ·intro u hu;rcases e9V.1 hu with rfl|hu
    ·exact hD0
    ·exact hd u hu
   ·intro D ι' hnd u hu;rw [e9X] at hnd;rcases e9V.1 hu with rfl|hu
    ·rw [<-hw];exact ⟨flat,fs,ho,hbl.kl,hn,hl,hnd.1,fun _=>F3.of_flat hbl.noRef⟩
    ·exact hre D ι' hnd.2.1 u hu
theorem e8G{w w':World}{F F' D0:Nat->Prop}{ι:Nat->Nat->Value}{grp:Nat}{args:List V}{cargs:List Value}(hargs:v6 (RV w F D0 ι) args cargs):∀{j:Nat} {ms:List PM} {outs:List (Option V)} {fo:List Nat} {us:List N1} {es:List s4},
  Rw ι ms args cargs->BO w' F' outs cargs fo->Q2 grp j ms args outs=some (us,es)->
  ∃ (bs:List Value) (fu fb:List Nat),bs.length=es.length/\fo.Perm (fu++fb)/\G6 w' (us.map (·.2)) (us.map fun u=>ι u.1.1 u.1.2) fu/\G6 w' es bs fb/\(∀u∈us,D0 u.1.1)/\
   ∀(D:Nat->Prop) (ι':Nat->Nat->Value),D grp->At ι' grp j bs->fo.Nodup->Lie w' F' D ι' es bs/\∀u∈us,RE w' F' D ι' u.2 (ι u.1.1 u.1.2):=by
 induction hargs with
 | nil=>
  intro j ms outs fo us es hrw hbo hm;cases hbo;cases ms with
  | nil=>
   simp [Q2] at hm;obtain ⟨rfl,rfl⟩:=hm;exact ⟨[],[],[],rfl,.nil,.nil,.nil,by simp,fun D ι' hD hat _=>⟨fun k e b he=>by simp at he,by simp⟩⟩
  | cons m ms=>simp [Q2] at hm
 | @cons v c vs cs hv ht ih=>
  intro j ms outs fo us es hrw hbo hm;cases ms with
  | nil=>cases hrw
  | cons m ms=>
  have hrw':Rw ι ms vs cs:=by cases hrw<;>assumption
  cases hbo with
  | skip c os cs fs t=>
   have hm':Q2 grp j ms vs os=some (us,es):=by
    unfold Q2 at hm;exact hm
   exact ih hrw' t hm'
  | cons o c f os cs fs h t=>
   unfold Q2 at hm;split at hm<;>try (cases hm;done)
   ·rename_i heq;cases heq
   ·rename_i heq;cases heq
   ·rename_i jj _ _ _ _ ck om ms' g j0 B4 e cs' os' h0 h1 h2;cases h1;cases h0;injection h2 with h2 h3;injection h2 with h2;subst h2;subst h3;simp only at hm;split at hm<;>try (cases hm;done)
    rename_i us' es' hrec;injection hm with hm;injection hm with hm1 hm2;subst hm1;subst hm2;obtain ⟨hD0,b,hι,hc⟩:=hv.inv_ptr;obtain ⟨g',cur,f',hg,hbl,hf,hc'⟩:∃g' cur f',w'.heap[g']?=some (.cells cur e (0,0))/\BL w' F' cs' cur.toList f'/\f=g'::f'/\c=.pointer (some ⟨g',0,none⟩):=by
     cases h with
     | cell v c f h=>cases h with
      | fv v c h=>cases h
     | optr e cs g cur f hg h=>exact ⟨_,_,_,hg,h,rfl,rfl⟩
    rw [hc] at hc';injection hc' with hc';injection hc' with hc';injection hc' with hc';subst hc';subst hf;obtain ⟨b1,hl1,hf1,hr1⟩:=a7x (grp:=grp) hbl jj;obtain ⟨b2,fu2,fb2,hl2,hp2,hhu,hhb,hd2,hr2⟩:=ih hrw' t hrec;refine ⟨b1++b2,b::fu2,f'++fb2,by simp [hl1,hl2],?_,?_,hf1.append hhb hl1,?_,?_⟩
    ·simp only [f1q];exact .cons _ (a7n hp2)
    ·exact G6.cons (f1:=[b]) (fun k hk=>by
      have hk:B5 (ι g j0)=some k:=hk;rw [hι] at hk;simp [B5] at hk;simp [hk]) hhu
    ·intro u hu;rcases e9V.1 hu with rfl|hu
     ·exact hD0
     ·exact hd2 u hu
    ·intro D ι' hD hat hnd;rw [f1q,f0Q,e9X] at hnd;obtain ⟨x1,y1⟩:=hr1 D ι' hD hat.left hnd.2.1;obtain ⟨x2,y2⟩:=hr2 D ι' hD (by rw [<-hl1];exact hat.right) hnd.2.2.1;refine ⟨y1.append x2 hl1.symm,?_⟩;intro u hu;rcases e9V.1 hu with rfl|hu
     ·exact ⟨b,cur,hι,hg,x1⟩
     ·exact y2 u hu
   ·rename_i ms' g j0 q1 q2 B4 e sz n rows os' h0 h1 h2;cases h1;cases h0;injection h2 with h2 h3;injection h2 with h2;subst h2;subst h3;split at hm<;>try (cases hm;done)
    rename_i us' es' hrec;injection hm with hm;injection hm with hm1 hm2;subst hm1;subst hm2;have hw:c=ι g j0:=by
     cases hrw with
     | row ms v c vs cs h t=>exact h g j0 _ _ rfl
     | other m ms v c vs cs h _ t=>exact absurd rfl h
    have hD0:=hv.inv_own.1;obtain ⟨hor,hf⟩:OR w' F' e sz c n rows/\f=D4 c:=by
     cases h with
     | cell v c f h=>cases h with
      | fv v c h=>cases h
      | osl e sz n rows c h=>exact ⟨h,rfl⟩
    subst hf;obtain ⟨b2,fu2,fb2,hl2,hp2,hhu,hhb,hd2,hr2⟩:=ih hrw' t hrec;refine ⟨b2,D4 c++fu2,fb2,hl2,?_,?_,hhb,?_,?_⟩
    ·rw [e92];exact f08.append_left _ hp2
    ·exact G6.cons (fun k hk=>by rw [hw];exact P6.2 hk) hhu
    ·intro u hu;rcases e9V.1 hu with rfl|hu
     ·exact hD0
     ·exact hd2 u hu
    ·intro D ι' hD hat hnd;rw [e9X] at hnd;obtain ⟨x2,y2⟩:=hr2 D ι' hD hat hnd.2.1;refine ⟨x2,?_⟩;intro u hu;rcases e9V.1 hu with rfl|hu
     ·rw [<-hw];exact hor
     ·exact y2 u hu
   ·rename_i ms' g j0 q1 q2 B4 e sz n rows os' h0 h1 h2;cases h1;cases h0;injection h2 with h2 h3;injection h2 with h2;subst h2;subst h3;split at hm<;>try (cases hm;done)
    rename_i us' es' hrec;injection hm with hm;injection hm with hm1 hm2;subst hm1;subst hm2;have hw:c=ι g j0:=by
     cases hrw with
     | row ms v c vs cs h t=>exact h g j0 _ _ rfl
     | other m ms v c vs cs h _ t=>exact absurd rfl h
    have hD0:=hv.inv_own.1;obtain ⟨flat,fs,ho,hbl,hn,hl,hf⟩:∃flat fs,w'.ownsRow 0 e sz c n flat/\BL w' F' rows.flatten flat fs/\rows.length=n/\(∀r∈rows,r.length=sz)/\f=D4 c++fs:=by
     cases h with
     | cell v c f h=>cases h with
      | fv v c h=>cases h
      | dsl e sz n rows c flat fs ho hr hn hl=>exact ⟨flat,fs,ho,hr,hn,hl,rfl⟩
    subst hf;obtain ⟨b2,fu2,fb2,hl2,hp2,hhu,hhb,hd2,hr2⟩:=ih hrw' t hrec;refine ⟨b2,(D4 c++fs)++fu2,fb2,hl2,?_,?_,hhb,?_,?_⟩
    ·rw [e92 (D4 c++fs)];exact f08.append_left _ hp2
    ·refine G6.cons (fun k hk => ?_) hhu;have hk:EB w' (.deep false e sz n rows) (ι g j0) k:=hk;rw [<-hw] at hk;exact (EB.deep_iff (D:=fun _=>True) (ι:=fun _ _=>.nilFunc) ho hbl.kl).1 hk
    ·intro u hu;rcases e9V.1 hu with rfl|hu
     ·exact hD0
     ·exact hd2 u hu
    ·intro D ι' hD hat hnd;rw [e9X] at hnd;obtain ⟨x2,y2⟩:=hr2 D ι' hD hat hnd.2.1;refine ⟨x2,?_⟩;intro u hu;rcases e9V.1 hu with rfl|hu
     ·rw [<-hw];exact ⟨flat,fs,ho,hbl.kl,hn,hl,hnd.1,fun _=>F3.of_flat hbl.noRef⟩
     ·exact y2 u hu
   ·rename_i ck om ms' cs' B4 xs os' h0 h1 h2;cases h1;cases h0;injection h2 with h2 h3;injection h2 with h2;subst h2;subst h3;split at hm<;>try (cases hm;done)
    rename_i us1 houc;split at hm<;>try (cases hm;done)
    rename_i us' es' hrec;injection hm with hm;injection hm with hm1 hm2;subst hm1;subst hm2;obtain ⟨ds,rfl,hbl⟩:∃ds:List Value,c=.agg ds.toArray/\BL w' F' xs ds f:=by
     cases h with
     | cell v c f h=>cases h with
      | fv v c h=>cases h
     | agg cs ds f h=>exact ⟨ds,rfl,h⟩
    have hrwc:RwC ι om cs' ds:=by
     cases hrw with
     | other m ms v c vs cs h ha t=>simpa using ha ck om cs' ds.toArray rfl rfl rfl
    have hall:v6 (RC w F D0 ι) cs' ds:=by
     cases hv with
     | one v c h=>cases h with
      | cell v c h=>cases h with
       | fv v c h=>cases h
      | agg cs ds h=>simpa using h
    obtain ⟨fu1,hp1,hhu1,hd1,hr1⟩:=e1g hall hrwc hbl houc;obtain ⟨b2,fu2,fb2,hl2,hp2,hhu,hhb,hd2,hr2⟩:=ih hrw' t hrec;refine ⟨b2,fu1++fu2,fb2,hl2,?_,?_,hhb,?_,?_⟩
    ·rw [e92];exact (f08.append hp1 hp2)
    ·rw [f1g,f1g];exact hhu1.append hhu (by simp)
    ·intro u hu;rcases e9P.1 hu with hu|hu
     ·exact hd1 u hu
     ·exact hd2 u hu
    ·intro D ι' hD hat hnd;rw [e9X] at hnd;obtain ⟨x2,y2⟩:=hr2 D ι' hD hat hnd.2.1;refine ⟨x2,?_⟩;intro u hu;rcases e9P.1 hu with hu|hu
     ·exact hr1 D ι' hnd.1 u hu
     ·exact y2 u hu
def a1s(l:List (Nat×Nat))(x:Nat×Nat):Bool:=l.any fun y=>y.1==x.1&&y.2==x.2
theorem a5h{l:List (Nat×Nat)}{x:Nat×Nat}:a1s l x=true↔x∈l:=by
 unfold a1s;rw [f1a];constructor
 ·rintro ⟨y,hy,h⟩
  simp at h;have:y=x:=Prod.ext h.1 h.2;exact this▸hy
 ·intro h;exact ⟨x,h,by simp⟩
def dd:List (Nat×Nat)->List (Nat×Nat)
 | []=>[]
 | x::xs=>if a1s (dd xs) x then dd xs else x::dd xs
theorem a9A{x:Nat×Nat}:∀{l:List (Nat×Nat)},x∈dd l↔x∈l
 | []=>Iff.rfl
 | y::l=>by
  unfold dd;split
  ·rename_i h;rw [a5h] at h;rw [a9A,e9V];constructor
   ·exact .inr
   ·rintro (rfl|q)
    ·exact a9A.1 h
    ·exact q
  ·rw [e9V,e9V,a9A]
theorem b9b:∀l:List (Nat×Nat),(dd l).Nodup
 | []=>.nil
 | y::l=>by
  unfold dd;split
  ·exact b9b l
  ·rename_i h;rw [a5h] at h;exact f0Q.2 ⟨h,b9b l⟩
def a2c:List (Nat×Nat)->Bool
 | []=>true
 | x::xs => !a1s xs x&&a2c xs
theorem a3O:∀{l:List (Nat×Nat)},a2c l=true->l.Nodup
 | [],_=>.nil
 | x::xs,h=>by
  simp [a2c] at h;refine f0Q.2 ⟨fun q => ?_,a3O h.2⟩;rw [a5h.2 q] at h;cases h.1
def a4O:List (Nat×Nat)->j6 (List N1)
 | []=>j6.pure []
 | (g,j)::ids=>j6.bind (j6.rd g j) fun e=>match e with
  | .row _ sz n rows=>j6.bind (a4O ids) fun us=>j6.pure (((g,j),.frz sz n rows)::us)
  | .deep false _ _ _ _=>j6.bind (a4O ids) fun us=>j6.pure (((g,j),.dead)::us)
  | _=>j6.no
theorem b7p{H:Hp}:∀{ids:List (Nat×Nat)} {us:List N1} {lg:List (Nat×Nat)},a4O ids H=some (us,lg)->us.map (·.1)=ids/\∀u∈us,(∃e sz n rows,H u.1.1 u.1.2=some (.row e sz n rows)/\u.2=.frz sz n rows)\/u.2=.dead
 | [],us,lg,h=>by
  have:=j6.pure_some h;injection this with h1 h2;subst h1;simp
 | (g,j)::ids,us,lg,h=>by
  unfold a4O at h;obtain ⟨e,l1,l2,hrd,hp,hl⟩:=j6.bind_some h;have he:=(j6.rd_some hrd).1;simp only at he;cases e<;>try (cases hp;done)
  case row t sz n rows=>
   simp only at hp;obtain ⟨us',l3,l4,hr,hp',hl'⟩:=j6.bind_some hp;have:=j6.pure_some hp';injection this with h1 h2;subst h1;obtain ⟨h3,h4⟩:=b7p hr;refine ⟨by simp [h3],?_⟩;intro u hu;rcases e9V.1 hu with rfl|hu
   ·exact .inl ⟨t,sz,n,rows,he,rfl⟩
   ·exact h4 u hu
  case deep o t sz n rows=>
   cases o with
   | true=>cases hp
   | false=>
   simp only at hp;obtain ⟨us',l3,l4,hr,hp',hl'⟩:=j6.bind_some hp;have:=j6.pure_some hp';injection this with h1 h2;subst h1;obtain ⟨h3,h4⟩:=b7p hr;refine ⟨by simp [h3],?_⟩;intro u hu;rcases e9V.1 hu with rfl|hu
   ·exact .inr rfl
   ·exact h4 u hu
theorem OR.fv{w:World}{F F1:Nat->Prop}{e sz n:Nat}{c:Value}{rows:List (List V)}(hF:∀k,F k->F1 k)(hb:∀k,B5 c=some k->F1 k)(hr:OR w F e sz c n rows):FV w F1 (.sl sz n rows) c:=by
 obtain ⟨flat,ho,hf,hn,hl⟩:=hr;rcases ho.2 with ⟨hv,h0⟩|⟨g0,cap,cur,hv,_,hg,hnc,hcm,hcs,ht⟩
 ·rw [hv];subst h0;have:rows=[]:=e90 hn;subst this;exact .sl0 sz none 0
 ·have hb':=hb g0 (by rw [hv];rfl);rw [hv];refine .sl sz n rows g0 0 cap flat hb' (hf.mono (fun _ _ _=>rfl) hF) hn hl hnc ?_;intro q u hu;rw [cell_of_row w g0 (0+q) cur e (0,0) hg,f0y];rw [<-ht,f1e] at hu;split at hu
  ·simpa using hu
  ·cases hu
theorem c80:∀{ks:List (Nat×Nat)} {S:St} {id:Nat×Nat},id∈ks->(∃e,S.ent id.1 id.2=some e)->(S.upds (E9 ks)).ent id.1 id.2=some .dead
 | k::ks,S,id,h,⟨e,he⟩=>by
  show ((S.setE k.1 k.2 .dead).upds (E9 ks)).ent id.1 id.2=some .dead
  have h1:∃e',(S.setE k.1 k.2 .dead).ent id.1 id.2=some e'/\(id=k->e'=.dead):=by
   by_cases q:id.1=k.1/\id.2=k.2
   ·have hk:S.ent k.1 k.2=some e:=by rw [<-q.1,<-q.2];exact he
    exact ⟨.dead,by rw [P4 hk];simp [q],fun _=>rfl⟩
   ·exact ⟨e,by rw [a5l q];exact he,fun z=>absurd ⟨by rw [z],by rw [z]⟩ q⟩
  obtain ⟨e',he',hd⟩:=h1;by_cases q:id∈ks
  ·exact c80 q ⟨e',he'⟩
  ·have hidk:id=k:=(e9V.1 h).resolve_right q;obtain rfl:=hd hidk;have:∀(ks:List (Nat×Nat)) (S:St),id ∉ ks->(S.upds (E9 ks)).ent id.1 id.2=S.ent id.1 id.2:=by
    intro ks;induction ks with
    | nil=>intro S _;rfl
    | cons k' ks ih=>
     intro S hq;show ((S.setE k'.1 k'.2 .dead).upds (E9 ks)).ent id.1 id.2=_
     rw [ih _ (fun z=>hq (by simp [z])),a5l (fun z=>hq (by rw [show id=k' from Prod.ext z.1 z.2];simp))]
   rw [this ks _ q];exact he'
def a4E(ι:Nat->Nat->Value)(grp:Nat)(bs:List Value):Nat->Nat->Value:=fun g j=>if g=grp then (bs[j]?).getD .nilFunc else ι g j
theorem b92{ι:Nat->Nat->Value}{grp g j:Nat}{bs:List Value}(h:g≠grp):a4E ι grp bs g j=ι g j:=if_neg h
theorem a4j{ι:Nat->Nat->Value}{grp j:Nat}{bs:List Value}{b:Value}(h:bs[j]?=some b):a4E ι grp bs grp j=b:=by
 unfold a4E;rw [if_pos rfl,h];rfl
def T7(c:Value):V->V
 | .hole=>.raw c
 | v=>v
def Y2(c:Value):V->V
 | .agg cs=>.agg (cs.map (T7 c))
 | v=>v
def F8:Option Value->V->V
 | none,v=>v
 | some c,v=>Y2 c v
def c0i(o:V):V->V
 | .hole=>o
 | v=>v
def b2Z(o:V):V->V
 | .agg cs=>.agg (cs.map (c0i o))
 | v=>v
theorem b1l{c:Value}{v:V}(h:v ≠ .hole):T7 c v=v:=by
 cases v<;>first|rfl|exact absurd rfl h
theorem c7R{Q:V->Prop}(q1:∀e sz n rows,Q (.osl e sz n rows))(q2:∀e sz n rows,Q (.dsl e sz n rows))(q3:∀sz n rows,Q (.sl sz n rows))(q4:Q .bot){ck om:Option Nat}{v:V}{H:Hp}{r:AR V}{lg:List (Nat×Nat)}(h:R1 ck om v H=some (r,lg))(qv:om=none->(∀cs,v ≠ .agg cs)->Q v):Q r.v:=by
 unfold R1 at h;cases om with
 | some e=>
  simp only at h;split at h
  ·have:=j6.pure_some h;injection this with h1 h2;rw [h1];exact q4
  split at h
  ·cases v<;>try (cases h;done)
   case own g j sz lo n=>
   simp only at h;obtain ⟨en,l1,l2,hrd,hp,_⟩:=j6.bind_some h;cases en<;>try (cases hp;done)
   case row=>
    simp only at hp;split at hp<;>try (cases hp;done)
    have:=j6.pure_some hp;injection this with h1 h2;have h1:r=_:=h1;rw [h1];exact q3 _ _ _
   case deep o _ _ _ _=>
    cases o<;>try (cases hp;done)
    simp only at hp;split at hp<;>try (cases hp;done)
    have:=j6.pure_some hp;injection this with h1 h2;have h1:r=_:=h1;rw [h1];exact q3 _ _ _
  cases v<;>try (cases h;done)
  case nil=>
   have:=j6.pure_some h;injection this with h1 h2;rw [h1];simp only;split
   ·exact q1 _ _ _ _
   ·exact q2 _ _ _ _
  case own g j sz lo n=>
   cases lo with
   | succ q=>cases h
   | zero=>
   obtain ⟨en,l1,l2,hrd,hp,_⟩:=j6.bind_some h;cases en<;>try (cases hp;done)
   case row=>
    simp only at hp;split at hp<;>try (cases hp;done)
    have:=j6.pure_some hp;injection this with h1 h2;have h1:r=_:=h1;rw [h1];exact q1 _ _ _ _
   case deep o _ _ _ _=>
    cases o<;>try (cases hp;done)
    simp only at hp;split at hp<;>try (cases hp;done)
    have:=j6.pure_some hp;injection this with h1 h2;have h1:r=_:=h1;rw [h1];exact q2 _ _ _ _
 | none=>
  have qv:=qv rfl;simp only at h;cases v<;>try (cases h;done)
  case own g j sz lo n=>
   obtain ⟨en,l1,l2,hrd,hp,_⟩:=j6.bind_some h;cases en<;>try (cases hp;done)
   case deep o _ _ _ _=>
    cases o<;>try (cases hp;done)
    simp only at hp;split at hp<;>try (cases hp;done)
    have:=j6.pure_some hp;injection this with h1 h2;have h1:r=_:=h1;rw [h1];exact q3 _ _ _
   all_goals
    simp only at hp;split at hp<;>try (cases hp;done)
    have:=j6.pure_some hp;injection this with h1 h2;have h1:r=_:=h1;rw [h1];exact q3 _ _ _
  case nil=>
   cases ck with
   | none=>
    have:=j6.pure_some h;injection this with h1 h2;rw [h1];exact qv (by simp)
   | some sz=>
    have:=j6.pure_some h;injection this with h1 h2;rw [h1];exact q3 _ _ _
  all_goals
   have:=j6.pure_some h;injection this with h1 h2;rw [h1];exact qv (by simp)
theorem e4g{ck om:Option Nat}{v:V}{H:Hp}{r:AR V}{lg:List (Nat×Nat)}(h:R1 ck om v H=some (r,lg))(hv:v ≠ .hole):r.v ≠ .hole:=
 c7R (Q:=fun v=>v ≠ .hole) (by simp) (by simp) (by simp) (by simp) h fun _ _=>hv
theorem e7a{ck om:Option Nat}{v:V}{H:Hp}{r:AR V}{lg:List (Nat×Nat)}(h:R1 ck om v H=some (r,lg)):∀cs,r.v ≠ .agg cs:=
 c7R (Q:=fun v => ∀cs,v ≠ .agg cs) (by simp) (by simp) (by simp) (by simp) h fun _ h=>h
theorem e6L(c:Value){ck om:Option Nat}{v:V}{H:Hp}{r:AR V}{lg:List (Nat×Nat)}(h:R1 ck om v H=some (r,lg)):R1 ck om (T7 c v) H=some ({r with v:=T7 c r.v},lg):=by
 by_cases hv:v=.hole
 ·subst hv;unfold R1 at h;show R1 ck om (.raw c) H=_
  unfold R1;cases om with
  | some e=>
   simp only at h⊢;split at h
   ·rename_i he;rw [if_pos he];have:=j6.pure_some h;injection this with h1 h2;subst h1;subst h2;rfl
   ·split at h<;>cases h
  | none=>
   have:=j6.pure_some h;injection this with h1 h2;subst h1;subst h2;rfl
 ·rw [b1l hv,b1l (e4g h hv),h]
theorem c8G(c:Value):∀{vs:List V} {ck om:List (Option Nat)} {H:Hp} {r:AR (List V)} {lg:List (Nat×Nat)},a1w ck om vs H=some (r,lg)->a1w ck om (vs.map (T7 c)) H=some ({r with v:=r.v.map (T7 c)},lg)
 | [],ck,om,H,r,lg,h=>by
  have:=j6.pure_some h;injection this with h1 h2;subst h1;subst h2;rfl
 | v::vs,ck,om,H,r,lg,h=>by
  obtain ⟨x,l1,l2,hx,h1,e1⟩:=j6.bind_some h;obtain ⟨y,l3,l4,hy,h2,e2⟩:=j6.bind_some h1;have:=j6.pure_some h2;injection this with q1 q2;have q1:r=_:=q1;subst q1;have e1:lg=l1++l2:=e1;have e2:l2=l3++l4:=e2;have q2:l4=[]:=q2;subst q2;subst e2;subst e1;show j6.bind (R1 (ck.headD none) (om.headD none) (T7 c v)) _ H=_
  unfold j6.bind;rw [e6L c hx];simp only;rw [c8G c hy];rfl
theorem b2N{c:Value}{v:V}(h:∀cs,v ≠ .agg cs):Y2 c v=v:=by
 cases v<;>first|rfl|exact absurd rfl (h _)
theorem d7I{m:PM}{v:V}{H:Hp}{r:AR V}{lg:List (Nat×Nat)}(h:a0P m v H=some (r,lg))(hv:∀cs,v ≠ .agg cs):∀cs,r.v ≠ .agg cs:=by
 cases m with
 | val ck om=>
  have:R1 (ck.headD none) (om.headD none) v H=some (r,lg):=by
   cases v<;>first|exact h|(cases h;done)|exact absurd rfl (hv _)
  exact e7a this
 | ptr ck om=>
  cases v<;>try (cases h;done)
  case ptr g j off=>
   cases off with
   | succ q=>cases h
   | zero=>
   obtain ⟨en,l1,l2,hrd,hp,_⟩:=j6.bind_some h;cases en<;>try (cases hp;done)
   obtain ⟨x,l3,l4,hx,h1,_⟩:=j6.bind_some hp;have:=j6.pure_some h1;injection this with q1 q2;have q1:r=_:=q1;rw [q1];simp
 | row=>
  cases v<;>try (cases h;done)
  case own g j sz lo n=>
   cases lo with
   | succ q=>cases h
   | zero=>
   obtain ⟨en,l1,l2,hrd,hp,_⟩:=j6.bind_some h;cases en<;>try (cases hp;done)
   case row=>
    simp only at hp;split at hp<;>try (cases hp;done)
    have:=j6.pure_some hp;injection this with q1 q2;have q1:r=_:=q1;rw [q1];simp
   case deep o _ _ _ _=>
    cases o<;>try (cases hp;done)
    simp only at hp;split at hp<;>try (cases hp;done)
    have:=j6.pure_some hp;injection this with q1 q2;have q1:r=_:=q1;rw [q1];simp
 | part=>
  cases v<;>try (cases h;done)
  case own g j sz lo n=>
   obtain ⟨en,l1,l2,hrd,hp,_⟩:=j6.bind_some h;cases en<;>try (cases hp;done)
   case row=>
    simp only at hp;split at hp<;>try (cases hp;done)
    have:=j6.pure_some hp;injection this with q1 q2;have q1:r=_:=q1;rw [q1];simp
theorem e65(c:Value){m:PM}{v:V}{H:Hp}{r:AR V}{lg:List (Nat×Nat)}(h:a0P m v H=some (r,lg)):a0P m (Y2 c v) H=some ({r with v:=Y2 c r.v},lg):=by
 by_cases hv:∃cs,v=.agg cs
 ·obtain ⟨cs,rfl⟩:=hv;cases m<;>try (cases h;done)
  case val ck om=>
   have h:j6.bind (a1w ck om cs) (fun x=>j6.pure {v:=.agg x.v,ks:=x.ks,ls:=x.ls,obl:=x.obl}) H=some (r,lg):=h;obtain ⟨x,l1,l2,hx,h1,e1⟩:=j6.bind_some h;have:=j6.pure_some h1;injection this with q1 q2;have q1:r=_:=q1;subst q1;have e1:lg=l1++l2:=e1;have q2:l2=[]:=q2;subst q2;subst e1;show j6.bind (a1w ck om (cs.map (T7 c))) (fun x=>(j6.pure {v:=.agg x.v,ks:=x.ks,ls:=x.ls,obl:=x.obl}:j6 (AR V))) H=_
   unfold j6.bind;rw [c8G c hx];rfl
 ·have hv:∀cs,v ≠ .agg cs:=fun cs q=>hv ⟨cs,q⟩
  rw [b2N hv,b2N (d7I h hv),h]
theorem c4F(c:Value):∀{vs:List V} {ms:List PM} {H:Hp} {r:AR (List V)} {lg:List (Nat×Nat)},a01 ms vs H=some (r,lg)->a01 ms (vs.map (Y2 c)) H=some ({r with v:=r.v.map (Y2 c)},lg)
 | [],ms,H,r,lg,h=>by
  have:a01 ms []=j6.pure {v:=[]}:=by cases ms<;>rfl
  rw [this] at h;have h':=j6.pure_some h;injection h' with h1 h2;subst h1;subst h2;show a01 ms [] H=_
  rw [this];rfl
 | v::vs,[],H,r,lg,h=>by cases h
 | v::vs,m::ms,H,r,lg,h=>by
  obtain ⟨x,l1,l2,hx,h1,e1⟩:=j6.bind_some h;obtain ⟨y,l3,l4,hy,h2,e2⟩:=j6.bind_some h1;have:=j6.pure_some h2;injection this with q1 q2;have q1:r=_:=q1;subst q1;have e1:lg=l1++l2:=e1;have e2:l2=l3++l4:=e2;have q2:l4=[]:=q2;subst q2;subst e2;subst e1;show j6.bind (a0P m (Y2 c v)) _ H=_
  unfold j6.bind;rw [e65 c hx];simp only;rw [c4F c hy];rfl
theorem e2G(o:Option Value){vs:List V}{ms:List PM}{H:Hp}{r:AR (List V)}{lg:List (Nat×Nat)}(h:a01 ms vs H=some (r,lg)):a01 ms (vs.map (F8 o)) H=some ({r with v:=r.v.map (F8 o)},lg):=by
 cases o with
 | none=>
  have:∀l:List V,l.map (F8 none)=l:=fun l=>by
   rw [show (F8 none)=id from rfl,List.map_id]
  rw [this,this];exact h
 | some c=>exact c4F c h
theorem e3P(c:Value)(g j:Nat)(v:V):H7 g j (T7 c v)=(T7 c (H7 g j v).1,(H7 g j v).2):=by cases v<;>rfl
theorem d1W(c:Value)(g:Nat):∀(vs:List V) (j:Nat),I9 g j (vs.map (T7 c))=((I9 g j vs).1.map (T7 c),(I9 g j vs).2)
 | [],j=>rfl
 | v::vs,j=>by simp only [f0j,I9,e3P,d1W c g vs]
theorem e7x(c:Value)(g j:Nat)(v:V):G7 g j (Y2 c v)=(Y2 c (G7 g j v).1,(G7 g j v).2):=by
 cases v<;>first|rfl|(simp only [Y2,G7,I5,d1W])
theorem e0s(o:Option Value)(g j:Nat)(v:V):G7 g j (F8 o v)=(F8 o (G7 g j v).1,(G7 g j v).2):=by
 cases o with
 | none=>rfl
 | some c=>exact e7x c g j v
theorem c7i(c:Value):∀(om:List (Option Nat)) (vs xs:List V),a1H om (vs.map (T7 c)) xs=a1H om vs xs
 | _,[],[]=>rfl
 | _,[],_::_=>rfl
 | _,_::_,[]=>rfl
 | om,v::vs,x::xs=>by
  have ih:=c7i c om.tail vs xs;cases om with
  | nil=>cases x<;>first|rfl|exact ih
  | cons o om=>
   cases o with
   | none=>cases x<;>first|rfl|exact ih
   | some q=>
    by_cases hh:v=.hole
    ·subst hh;cases x<;>rfl
    ·have ih:a1H om (vs.map (T7 c)) xs=a1H om vs xs:=ih;rw [f0j,b1l hh];unfold a1H;simp only [List.headD_cons,List.tail_cons,ih]
theorem c94(c:Value)(grp:Nat):∀(ms:List PM) (j:Nat) (vs:List V) (os:List (Option V)),Q2 grp j ms (vs.map (Y2 c)) os=Q2 grp j ms vs os
 | [],j,[],os=>rfl
 | [],j,_::_,os=>by cases os<;>rfl
 | m::ms,j,[],os=>by cases os<;>rfl
 | m::ms,j,v::vs,[]=>by cases m<;>cases v<;>rfl
 | m::ms,j,v::vs,o::os=>by
  have ih:=fun j=>c94 c grp ms j vs os
  cases o with
  | none=>simp [Q2,ih]
  | some o=>
   by_cases hh:∃cs,v=.agg cs
   ·obtain ⟨cs,rfl⟩:=hh;rw [f0j];cases m<;>cases o<;>first|rfl|skip
    all_goals
     unfold Q2;simp only [Y2,ih,c7i]
   ·rw [f0j,b2N (fun cs q=>hh ⟨cs,q⟩)];cases v<;>first|exact absurd ⟨_,rfl⟩ hh|skip
    case own g j0 sz lo n=>cases lo<;>cases m<;>cases o<;>first|rfl|(unfold Q2;simp only [ih])
    case ptr g j0 off=>cases off<;>cases m<;>cases o<;>first|rfl|(unfold Q2;simp only [ih])
    all_goals (cases m<;>cases o<;>rfl)
theorem e6a(o:Option Value)(grp:Nat)(ms:List PM)(j:Nat)(vs:List V)(os:List (Option V)):Q2 grp j ms (vs.map (F8 o)) os=Q2 grp j ms vs os:=by
 cases o with
 | none=>rw [show (F8 none)=id from rfl,List.map_id]
 | some c=>exact c94 c grp ms j vs os
def a7W(grp:Nat)(args:List V)(ms:List PM)(fr:Bool)(res:V)(outs:List (Option V))(p:List V->Prop):j6 B6:=
 j6.bind (a01 ms args) fun r=>
  let ls:=if fr then [] else dd r.ls
  j6.bind (a4O ls) fun fz=>
   let x:=G7 grp 0 res;match Q2 grp x.2.length ms args outs with
   | some (us,es)=>
    if a2c r.ks&&r.ls.all (fun id => !a1s r.ks id)&&a2c (us.map (·.1))&&us.all (fun u=>a1s r.ks u.1) then
     j6.pure {v:=x.1,new:=some (x.2++es),upd:=E9 (r.ks++ls)++(fz++us),obl:=p r.v::(if fr then [J8 res/\a3u outs] else [])++r.obl}
    else j6.no
   | none=>j6.no
def b3s(P:Program)(grp f:Nat)(args:List V)(A:N2):j6 B6:=
 match A with
 | .call ms fr res outs=>a7W grp args ms fr res outs fun v=>a1n P f v res outs
 | .callr k q ms fr res outs=>match args[k]? with
  | some (.agg cs)=>match cs[q]? with
   | some (.own g j sz 0 n)=>j6.bind (a7W grp (args.set k (.agg (cs.set q .hole))) ms fr res outs fun v => ∀c,a1n P f (v.map (Y2 c)) (Y2 c res) outs) fun o=>j6.pure {o with v:=b2Z (.own g j sz 0 n) o.v}
   | _=>j6.no
  | _=>j6.no
 | _=>j6.no
section
variable {cx:Cx} {Γ:N0} {F:Nat->Prop} {ι:Nat->Nat->Value} {S:St} {a:Act} {w:World}
theorem c5u{t:List V}{D:Nat->Prop}(ht:v6 (RV w F D ι) t a.tmps.toList):∀xs:List Operand,v6 (RV w F D ι) (xs.map (t0 t)) (xs.map a.eval)
 | []=>.nil
 | x::xs=>.cons (D5 ht x) (c5u ht xs)
theorem K2.nodup(h:t7 Γ F ι S a w){ks:List (Nat×Nat)}{fs:List Nat}(hf:K2 S w ι ks fs):ks.Nodup->fs.Nodup:=by
 induction hf with
 | nil=>exact fun _=>.nil
 | cons id e f ks fs he hl hf hn t ih=>
  intro hnd;have hn':=f0Q.1 hnd;refine e9X.2 ⟨hn,ih hn'.2,?_⟩;intro k hk k' hk' hkk;subst hkk;obtain ⟨id',hid',e',he',hl',hb'⟩:=t.mem hk';obtain ⟨q1,q2⟩:=h.inj _ _ e _ _ e' k he he' hl hl' (hf k hk) hb';exact hn'.1 ((Prod.ext q1 q2:id=id')▸hid')
theorem e7J{P:Program}{ob:Oper}{fop:Operand}{args:Array Operand}{tys:Array TypeId}{f:Nat}{fn:Func}(ho:ob.op=.call {callee:=.value fop,args:=args,argTypes:=tys})(hf:a.eval fop=.func (.func f) #[] #[])(hfun:P.funcs[f]?=some fn)
  (hname:(fn.name == "runtime.NumGoroutine")=false) (hbody:fn.body.isNone=false):(execOp a.eval ob).run P w=.ok (.enter f (args.map a.eval)) w:=by
 simp only [execOp,ho,resolve,hf,Deferred.ofValue,Sem.run_bind,Sem.run_pure,Result.andThen_ok,invoke,callFunc,program,Sem.run,hfun,hname,hbody];simp
theorem e2D(args:Array Operand)(g:Operand->Value):(args.toList.map g).toArray=args.map g:=by rw [<-Array.toList_map,Array.toArray_toList]
theorem N8.fill(c:Value){v:V}(h:N8 v):N8 (T7 c v):=by
 cases v<;>first|exact h|trivial
theorem J8.fillO(o:Option Value){v:V}(h:J8 v):J8 (F8 o v):=by
 cases o with
 | none=>exact h
 | some c=>
  cases v with
  | agg cs=>
   intro v hv;obtain ⟨v0,hv0,rfl⟩:=f0l.1 hv;exact N8.fill c (h v0 hv0)
  | _=>exact h
set_option maxHeartbeats 1000000 in
theorem c6Y(h:t7 Γ F ι S a w){grp:Nat}(hg:grp<S.h.length)(hn:¬S.D grp)(dst:Option Nat){f:Nat}{P:Program}{vs:List V}{cargs:List Value}(o:Option Value)(hall:v6 (RV w F S.D ι) (vs.map (F8 o)) cargs){ms:List PM}{fr:Bool}{res:V}{outs:List (Option V)}{p:List V->Prop}{out:B6}{lg:List (Nat×Nat)}(hp:a7W grp vs ms fr res outs p S.ent=some (out,lg))(hpa:∀v,p v->a1n P f (v.map (F8 o)) (F8 o res) outs)(hob:∀p∈out.obl,p) :
  c0J P f/\Calls P f cargs.toArray w fun e w' => ∃c F' ι',e=.returned c/\t7 Γ F' ι' (S.apply grp dst {out with v:=F8 o out.v}) (a.put dst c) w'/\(∀g,S.D g->(S.apply grp dst {out with v:=F8 o out.v}).D g)/\(∀g j,S.D g->ι' g j=ι g j)/\RV w' F' (S.apply grp dst {out with v:=F8 o out.v}).D ι' (F8 o out.v) c:=by
 unfold a7W at hp;obtain ⟨r0,l1,l2,hargs0,hp1,hl12⟩:=j6.bind_some hp;clear hp;obtain ⟨fz,l3,l4,hfz,hp2,hl34⟩:=j6.bind_some hp1;clear hp1;simp only at hp2;cases hous:Q2 grp (G7 grp 0 res).2.length ms vs outs with
 | none=>rw [hous] at hp2;cases hp2
 | some ue=>
 obtain ⟨us,es⟩:=ue;rw [hous] at hp2;simp only at hp2;split at hp2<;>try (cases hp2;done)
 rename_i hcond;have:=j6.pure_some hp2;injection this with h2 h3;subst h2;clear hp2;have hac0:p r0.v:=hob _ (by simp);have hac1:=hpa _ hac0;have hsc0:fr=true->J8 res/\a3u outs:=fun q=>hob _ (by simp [q])
 have hrobl0:∀p∈r0.obl,p:=fun p hp=>hob p (by simp;exact .inr (.inr hp))
 have hargs:=e2G o hargs0;have hous:Q2 grp (G7 grp 0 res).2.length ms (vs.map (F8 o)) outs=some (us,es):=by rw [e6a];exact hous
 have hth:=e0s o grp 0 res;clear hargs0;have hrv0:r0.v.map (F8 o)=({r0 with v:=r0.v.map (F8 o)}:AR (List V)).v:=rfl;generalize hr:({r0 with v:=r0.v.map (F8 o)}:AR (List V))=r at hargs hrv0;have hks:r0.ks=r.ks:=by rw [<-hr]
 have hlsq:r0.ls=r.ls:=by rw [<-hr]
 have hoblq:r0.obl=r.obl:=by rw [<-hr]
 rw [hrv0] at hac1;rw [hks,hlsq] at hcond;rw [hlsq] at hfz;rw [hoblq] at hrobl0;simp only [hks,hlsq];have hth1:F8 o (G7 grp 0 res).1=(G7 grp 0 (F8 o res)).1:=by rw [hth]
 have hth2:(G7 grp 0 res).2=(G7 grp 0 (F8 o res)).2:=by rw [hth]
 rw [hth1,hth2];rw [hth2] at hous;have hsc:fr=true->J8 (F8 o res)/\a3u outs:=fun q=>⟨(hsc0 q).1.fillO o,(hsc0 q).2⟩
 generalize F8 o res=res at *;simp only [e9R] at hcond;obtain ⟨⟨⟨hnk,hdis⟩,hnu⟩,husk⟩:=hcond;have hnk':=a3O hnk;have hnu':=a3O hnu;have hdis':∀id∈r.ls,id ∉ r.ks:=by
  intro id hid q;have:=e9W.1 hdis id hid;rw [a5h.2 q] at this;cases this
 have husk':∀u∈us,u.1∈r.ks:=fun u hu=>a5h.1 (e9W.1 husk u hu)
 have hrobl:=hrobl0;obtain ⟨hcallable,hac⟩:=hac1;refine ⟨hcallable,?_⟩;let F1:Nat->Prop:=fun k=>F k\/∃id∈r.ls,∃e,S.ent id.1 id.2=some e/\EB w e (ι id.1 id.2) k
 have hF1:∀k,F k->F1 k:=fun k x=>.inl x
 obtain ⟨fp,hbs,hfps,hhk,hhl⟩:=d2b (F1:=F1) h hF1 hall hargs hrobl (fun id hid e k he hk=>.inr ⟨id,hid,e,he,hk⟩);have hrw:=d79 h hall hargs hrobl;have hfpn:=K2.nodup h hfps hnk';have hfp:∀k∈fp,∃id∈r.ks,∃e,S.ent id.1 id.2=some e/\e.live=true/\EB w e (ι id.1 id.2) k:=fun k hk=>hfps.mem hk
 have hF1lt:∀k,F1 k->k<w.heap.size:=by
  rintro k (x|⟨id,hid,e,he,hb⟩)
  ·exact h.F1 k x
  ·obtain ⟨e',he',hl'⟩:=hhl id hid;have:e=e':=by rw [he] at he';injection he'
   subst this;exact h.lt he hl' hb
 have hfpF1:∀k∈fp,¬F1 k/\k<w.heap.size:=by
  intro k hk;obtain ⟨id,hid,e,he,hl,hb⟩:=hfp k hk;refine ⟨?_,h.lt he hl hb⟩;rintro (x|⟨id',hid',e0,he0,hb'⟩)
  ·exact (h.sep _ _ e k he hl hb).1 x
  ·obtain ⟨e',he',hl'⟩:=hhl id' hid';have:e0=e':=by rw [he0] at he';injection he'
   subst this;obtain ⟨q1,q2⟩:=h.inj _ _ e _ _ _ k he he' hl hl' hb hb';have:id=id':=Prod.ext q1 q2;exact hdis' id' hid' (this▸hid)
 have hcalls:=hac w F1 _ _ hbs hfpn hfpF1 hF1lt;refine hcalls.mono ?_;rintro e w' ⟨c,F',fr',fo,rfl,hkept,hFF,hF'1,hres,hout,hnod,hblk⟩
 obtain ⟨F2,hF2,hF2',ls,hls,hres2,hout2,hblk2,hfzls,hF2lt,hlsF⟩:∃F2:Nat->Prop,(∀k,F k->F2 k)/\(∀k,F2 k->F' k)/\∃ls:List (Nat×Nat),ls=(if fr then [] else dd r.ls)/\BR w' F2 res c fr'/\BO w' F2 outs cargs fo/\(∀k∈fr'++fo,¬F2 k)/\
   (∀u∈fz,(∃e sz n rows,S.ent u.1.1 u.1.2=some (.row e sz n rows)/\u.2=.frz sz n rows/\∀k,B5 (ι u.1.1 u.1.2)=some k->F2 k)\/u.2=.dead)/\(∀k,F2 k->k<w'.heap.size)/\(∀k,F2 k->F k\/(∃id∈ls,∃e,S.ent id.1 id.2=some e/\EB w e (ι id.1 id.2) k)\/k∈fp\/w.heap.size<=k):=by
  cases fr with
  | true=>
   refine ⟨F,fun _ x=>x,fun k x=>hFF k (hF1 k x),[],rfl,hres.scal (hsc rfl).1,hout.scal (hsc rfl).2,fun k hk x=>(hblk k hk).1 (hFF k (hF1 k x)),?_,fun k x=>f0V (h.F1 k x) hkept.size,fun k x=>.inl x⟩;have hq:fz=[]:=by
    have hf':a4O [] S.ent=some (fz,l3):=by simpa using hfz
    have:=j6.pure_some hf';injection this
   rw [hq];simp
  | false=>
   refine ⟨F',fun k x=>hFF k (hF1 k x),fun _ x=>x,dd r.ls,rfl,hres,hout,fun k hk=>(hblk k hk).1,?_,fun k x=>(hF'1 k x).2,?_⟩
   ·have hf':a4O (dd r.ls) S.ent=some (fz,l3):=by simpa using hfz
    obtain ⟨e1,e2⟩:=b7p hf';intro u hu;rcases e2 u hu with ⟨e,sz,n,rows,he,hu2⟩|hu2
    case inr=>exact .inr hu2
    refine .inl ⟨e,sz,n,rows,he,hu2,fun k hk=>hFF k (.inr ⟨u.1,?_,_,he,hk⟩)⟩;have:u.1∈fz.map (·.1):=f0l.2 ⟨u,hu,rfl⟩;rw [e1] at this;exact a9A.1 this
   ·intro k x;rcases (hF'1 k x).1 with (y|⟨id,hid,e,he,hb⟩)|y|y
    ·exact .inl y
    ·exact .inr (.inl ⟨id,a9A.2 hid,e,he,hb⟩)
    ·exact .inr (.inr (.inl y))
    ·exact .inr (.inr (.inr y))
 have hfzids:fz.map (·.1)=ls:=by rw [hls];exact (b7p hfz).1
 have hlsr:∀id∈ls,id∈r.ls:=by
  intro id hid;rw [hls] at hid;cases fr with
  | true=>simp at hid
  | false=>exact a9A.1 (by simpa using hid)
 have hlsn:ls.Nodup:=by
  rw [hls];cases fr with
  | true=>exact .nil
  | false=>exact b9b _
 have hlsk:∀id∈ls,id ∉ r.ks:=fun id hid=>hdis' id (hlsr id hid)
 have hkall:∀id∈r.ks++ls,∃e,S.ent id.1 id.2=some e:=by
  intro id hid;rcases e9P.1 hid with q|q
  ·obtain ⟨e,he,_⟩:=hhk id q;exact ⟨e,he⟩
  ·obtain ⟨e,he,_⟩:=hhl id (hlsr id q);exact ⟨_,he⟩
 have hS1:=h.killAll (r.ks++ls) hkall;have hlive1:∀g j e,(S.upds (E9 (r.ks++ls))).ent g j=some e->e.live=true->(g,j) ∉ r.ks++ls/\S.ent g j=some e:=by
  intro g j e he hl;rcases a8P _ he with ⟨_,rfl⟩|q
  ·cases hl
  ·exact q
 have hfpfree:∀k∈fp,∀g j e,(S.upds (E9 (r.ks++ls))).ent g j=some e->e.live=true->¬EB w e (ι g j) k:=by
  intro k hk g j e he hl hb;obtain ⟨q1,q2⟩:=hlive1 g j e he hl;obtain ⟨id,hid,e',he',hl',hb'⟩:=hfp k hk;obtain ⟨z1,z2⟩:=h.inj _ _ e _ _ e' k q2 he' hl hl' hb hb';exact q1 (e9P.2 (.inl (by rw [show (g,j)=id from Prod.ext z1 z2];exact hid)))
 have hS2:=hS1.world3 hkept (fun k hk=>by
  obtain ⟨id,hid,e',he',hl',hb'⟩:=hfp k hk;obtain ⟨z1,z2⟩:=h.sep _ _ e' k he' hl' hb';exact ⟨z1,z2,hfpfree k hk⟩)
 have hback:∀g j e,(S.upds (E9 (r.ks++ls))).ent g j=some e->e.live=true->∀k,EB w' e (ι g j) k->EB w e (ι g j) k:=by
  intro g j e he hl k hk;exact (hS1.ents g j e he).back (fun k hk=>hkept.block k (hS1.lt he hl hk) fun z=>hfpfree k z g j e he hl hk) hk
 have hS3:=hS2.grow (F':=F2) hF2 hF2lt (fun k x=>by
   rcases hlsF k x with y|⟨id,hid,e,he,hb⟩|y|y
   ·exact h.F2 k y
   ·obtain ⟨e',he',hl'⟩:=hhl id (hlsr id hid);have:e=e':=by rw [he] at he';injection he'
    subst this;exact .inr (h.sep _ _ _ k he hl' hb).2
   ·obtain ⟨id,hid,e',he',hl',hb'⟩:=hfp k y;exact .inr (h.sep _ _ e' k he' hl' hb').2
   ·exact .inr (.inr (f0c h.kept.size y)))
  (fun g j e k he hl hb0 x=>by
   have hb:=hback g j e he hl k hb0;obtain ⟨q1,q2⟩:=hlive1 g j e he hl;rcases hlsF k x with y|⟨id,hid,e',he',hb'⟩|y|y
   ·exact (h.sep g j e k q2 hl hb).1 y
   ·obtain ⟨e2,he2,hl2⟩:=hhl id (hlsr id hid);have:e'=e2:=by rw [he'] at he2;injection he2
    subst this;obtain ⟨z1,z2⟩:=h.inj _ _ e _ _ _ k q2 he' hl hl2 hb hb';exact q1 (e9P.2 (.inr (by rw [show (g,j)=id from Prod.ext z1 z2];exact hid)))
   ·exact hfpfree k y g j e he hl hb
   ·have:=h.lt q2 hl hb;omega)
 obtain ⟨b1,hb1l,hb1f,hb1⟩:=d3W (grp:=grp) hres2 0;obtain ⟨b2,fu,fb,hb2l,hb2p,hb2u,hb2b,hb2d,hb2⟩:=e8G hall (w':=w') (F':=F2) (grp:=grp) (j:=(G7 grp 0 res).2.length) hrw hout2 hous;obtain ⟨ι',hι'⟩:∃ι',ι'=a4E ι grp (b1++b2):=⟨_,rfl⟩
 have hι'ne:∀g j,g≠grp->ι' g j=ι g j:=fun g j q=>by rw [hι'];exact b92 q
 have hat:At ι' grp 0 (b1++b2):=by
  intro k b hb;rw [hι',f0y];exact a4j hb
 have hlenS:grp<(S.upds (E9 (r.ks++ls))).h.length:=by rw [St.upds_len];exact hg
 have hnD:¬(S.upds (E9 (r.ks++ls))).D grp:=fun q=>hn ((a0d S grp _).1 q)
 have hDg:=a0y (S:=S.upds (E9 (r.ks++ls))) (new:=(G7 grp 0 res).2++es) hlenS;have hperm:(fr'++fo).Perm (fr'++(fu++fb)):=f08.append_left _ hb2p;have hnod':=hperm.nodup_iff.1 hnod;have hnodA:=e9X.1 hnod;obtain ⟨hrv,hlie1⟩:=hb1 ((S.upds (E9 (r.ks++ls))).lay grp ((G7 grp 0 res).2++es)).D ι' hDg hat.left hnodA.1;obtain ⟨hlie2,hre2⟩:=hb2 ((S.upds (E9 (r.ks++ls))).lay grp ((G7 grp 0 res).2++es)).D ι' hDg (by have:=hat.right;rw [f0y,hb1l] at this;exact this) hnodA.2.1;have hlie:=hlie1.append hlie2 hb1l.symm;have hlenb:(b1++b2).length=((G7 grp 0 res).2++es).length:=by simp [hb1l,hb2l]
 have hblk':∀k,k∈fr'\/k∈fu\/k∈fb->¬F2 k/\(k∈fp\/w.heap.size<=k):=by
  intro k hk;have hm:k∈fr'++fo:=hperm.mem_iff.2 (by simp only [e9P];rcases hk with q|q|q<;>simp [q]);exact ⟨hblk2 k hm,(hblk k hm).2.1⟩
 have hsepk:∀k,(k∈fp\/w.heap.size<=k)->Γ.own k\/Γ.w0.heap.size<=k:=by
  rintro k (q|q)
  ·obtain ⟨id,hid,e',he',hl',hb'⟩:=hfp k q;exact (h.sep _ _ e' k he' hl' hb').2
  ·exact .inr (f0c h.kept.size q)
 have hfreek:∀k,(k∈fp\/w.heap.size<=k)->∀g j e,(S.upds (E9 (r.ks++ls))).ent g j=some e->e.live=true->¬EB w' e (ι g j) k:=by
  rintro k hkk g j e he hl hb0
  have hb:=hback g j e he hl k hb0;rcases hkk with q|q
  ·exact hfpfree k q g j e he hl hb
  ·obtain ⟨_,q2⟩:=hlive1 g j e he hl;have:=h.lt q2 hl hb;omega
 have hHas:G6 w' ((G7 grp 0 res).2++es) (b1++b2) (fr'++fb):=hb1f.append hb2b hb1l;have hnodb:(fr'++fb).Nodup:=List.Nodup.sublist (f1n.append_left (f03 _ _) _) hnod';have hvb:∀(j:Nat) (e:s4),((G7 grp 0 res).2++es)[j]?=some e->(b1++b2)[j]?=some (ι' grp j):=by
  intro j e he;have hj:j<(b1++b2).length:=by rw [hlenb];exact (e9T.1 he).1
  have hv:ι' grp j=(b1++b2)[j]:=by rw [hι'];exact a4j (e9N hj)
  rw [hv];exact e9N hj
 have hmemb:∀(j:Nat) (e:s4) (k:Nat),((G7 grp 0 res).2++es)[j]?=some e->EB w' e (ι' grp j) k->k∈fr'\/k∈fb:=
  fun j e k he hk=>e9P.1 (hHas.mem he (hvb j e he) hk)
 have hS4:=hS3.lay (grp:=grp) hlenS hnD (new:=(G7 grp 0 res).2++es) (ι':=ι') hι'ne
  (fun j e he=>hlie j e _ he (hvb j e he))
  (fun j e k he hl hk=>by
   have:=hblk' k ((hmemb j e k he hk).imp id .inr);exact ⟨this.1,hsepk k this.2⟩)
  (fun j e j' e' k he he' hl hl' hk hk'=>hHas.inj hnodb he (hvb j e he) hk he' (hvb j' e' he') hk')
  (fun j e g' j' e' k he he' hl hl' hk hk'=>by
   have:=hblk' k ((hmemb j e k he hk).imp id .inr);exact hfreek k this.2 g' j' e' he' hl' hk')
 have hgne:∀id∈r.ks++ls,id.1≠grp:=by
  intro id hid q;obtain ⟨e,he⟩:=hkall id hid;exact hn (q▸St.D_of_ent he)
 have huids:∀u∈fz++us,u.1∈r.ks++ls:=by
  intro u hu;rcases e9P.1 hu with q|q
  ·exact e9P.2 (.inr (hfzids▸f0l.2 ⟨u,q,rfl⟩))
  ·exact e9P.2 (.inl (husk' u q))
 have hugne:∀u∈fz++us,u.1.1≠grp:=fun u hu=>hgne _ (huids u hu)
 have hlay:=b0k (grp:=grp) (new:=(G7 grp 0 res).2++es) (fz++us) (S.upds (E9 (r.ks++ls))) hugne;have hS5:=hS4.reviveAll (fz++us) (by
   rw [f1g,hfzids];refine e9X.2 ⟨hlsn,hnu',?_⟩;intro x hx y hy hxy;subst hxy;obtain ⟨u,hu,rfl⟩:=f0l.1 hy;exact hlsk _ hx (husk' u hu))
  (fun u hu=>by
   rw [a7o (hugne u hu)];exact c80 (huids u hu) (hkall _ (huids u hu)))
  (fun u hu=>by
   rw [hι'ne _ _ (hugne u hu)];rcases e9P.1 hu with q|q
   ·rcases hfzls u q with ⟨e,sz,n,rows,he,hu2,hb⟩|hu2
    case inr=>rw [hu2];trivial
    rw [hu2];have hfv:=OR.fv (F1:=fun k=>F k\/B5 (ι u.1.1 u.1.2)=some k) (fun k x=>.inl x) (fun k x=>.inr x) (h.ents _ _ _ he);have hs:G8 w w' fun k=>F k\/B5 (ι u.1.1 u.1.2)=some k:=a0N fun k hk=>by
     have hF1k:F1 k:=by
      rcases hk with x|x
      ·exact .inl x
      ·exact .inr ⟨u.1,hlsr _ (hfzids▸f0l.2 ⟨u,q,rfl⟩),_,he,x⟩
     exact hkept.block k (hF1lt k hF1k) fun z=>(hfpF1 k z).1 hF1k
    exact hfv.mono hs fun k x=>x.elim (hF2 k) (hb k)
   ·exact hre2 u q)
  (fun u hu hl k hk=>by
   rw [hι'ne _ _ (hugne u hu)] at hk;rcases e9P.1 hu with q|q
   ·rcases hfzls u q with ⟨e,sz,n,rows,he,hu2,hb⟩|hu2<;>(rw [hu2] at hl;cases hl)
   ·obtain ⟨i,hi⟩:=f04 q;have hkm:k∈fu:=hb2u.mem (i:=i) (by rw [f0x,hi];rfl) (by rw [f0x,hi];rfl) hk;have hb:=hblk' k (.inr (.inl hkm));refine ⟨⟨hb.1,hsepk k hb.2⟩,?_⟩;intro g' j' e he hle hk';by_cases qg:g'=grp
    ·subst qg;rw [c6F hlenS] at he;have hdj:=e9X.1 hnod';have hdj2:=e9X.1 hdj.2.1;rcases hmemb j' e k he hk' with z|z
     ·exact hdj.2.2 k z k (e9P.2 (.inl hkm)) rfl
     ·exact hdj2.2.2 k hkm k z rfl
    ·rw [a7o qg] at he;rw [hι'ne _ _ qg] at hk';exact hfreek k hb.2 g' j' e he hle hk')
  (fun u hu v hv k hl hl' hk hk'=>by
   rw [hι'ne _ _ (hugne u hu)] at hk;rw [hι'ne _ _ (hugne v hv)] at hk';have usof:∀x∈fz++us,x.2.live=true->x∈us:=by
    intro x hx hxl;rcases e9P.1 hx with q|q
    ·rcases hfzls x q with ⟨e,sz,n,rows,he,hu2,hb⟩|hu2<;>(rw [hu2] at hxl;cases hxl)
    ·exact q
   obtain ⟨i,hi⟩:=f04 (usof u hu hl);obtain ⟨i',hi'⟩:=f04 (usof v hv hl');have hnu2:fu.Nodup:=(e9X.1 (e9X.1 hnod').2.1).1;have:=hb2u.inj hnu2 (i:=i) (j:=i') (by rw [f0x,hi];rfl) (by rw [f0x,hi];rfl) hk (by rw [f0x,hi'];rfl) (by rw [f0x,hi'];rfl) hk';subst this;rw [hi] at hi';injection hi' with hi';rw [hi'])
 have hrv':RV w' F2 (((S.upds (E9 (r.ks++ls))).lay grp ((G7 grp 0 res).2++es)).upds (fz++us)).D ι' (G7 grp 0 res).1 c:=
  hrv.mono (fun _ _ _=>rfl) (fun _ x=>x) (fun k x=>(a0d _ k _).2 x) (fun _ _ _=>rfl)
 have hput:=hS5.put dst hrv';rw [<-hlay] at hput hrv';have happ:∀(v:V) (ob:List Prop),S.apply grp dst {v:=v,new:=some ((G7 grp 0 res).2++es),upd:=E9 (r.ks++if fr=true then [] else dd r.ls)++(fz++us),obl:=ob}={ ((S.upds (E9 (r.ks++ls))).upds (fz++us)).lay grp ((G7 grp 0 res).2++es) with t:=R2 (((S.upds (E9 (r.ks++ls))).upds (fz++us)).lay grp ((G7 grp 0 res).2++es)).t dst v}:=by
  intro v ob;simp only [St.apply,St.upds_append,hls]
 have hDD:∀g,S.D g->(((S.upds (E9 (r.ks++ls))).upds (fz++us)).lay grp ((G7 grp 0 res).2++es)).D g:=by
  intro g hgD;have hne:g≠grp:=fun q=>hn (q▸hgD)
  have h1:((S.upds (E9 (r.ks++ls))).upds (fz++us)).D g:=(a0d _ g _).2 ((a0d _ g _).2 hgD);exact b7a h1
 refine ⟨c,F2,ι',rfl,?_⟩;rw [happ];exact ⟨hput,hDD,fun g j hgD=>hι'ne g j fun q=>hn (q▸hgD),hrv'⟩
theorem v6.map_imp{α β γ δ:Type}{R:γ->β->Prop}{R':δ->β->Prop}{f:α->γ}{g:α->δ}(h:∀a b,R (f a) b->R' (g a) b):∀{B4:List α} {bs:List β},v6 R (B4.map f) bs->v6 R' (B4.map g) bs
 | [],_,.nil=>.nil
 | a::B4,_,.cons hx t=>.cons (h _ _ hx) (v6.map_imp h t)
theorem RV.nofill{D:Nat->Prop}{v:V}{x:Value}(h:RV w F D ι v x)(c:Value):Y2 c v=v:=by
 have hc:∀{v:V} {x:Value},RC w F D ι v x->T7 c v=v:=by
  intro v x h;refine b1l ?_;rintro rfl
  cases h with
  | fv v c h=>cases h
 cases h with
 | one v x h=>
  cases h with
  | cell v x h=>
   refine b2N ?_;rintro cs rfl
   cases h with|fv v c h=>cases h
  | agg cs ds h=>
   show V.agg (cs.map (T7 c))=_
   congr 1
   induction h with
   | nil=>rfl
   | cons h t ih=>rw [f0j,hc h,ih]
 | tup=>rfl
 | any=>rfl
theorem d4j(h:t7 Γ F ι S a w){grp:Nat}(hg:grp<S.h.length)(hn:¬S.D grp){ob:Oper}{fop:Operand}{args:Array Operand}{tys:Array TypeId}{f:Nat}(ho:ob.op=.call {callee:=.value fop,args:=args,argTypes:=tys})(hf:t0 S.t fop=.fn f){A:N2}{out:B6}{lg:List (Nat×Nat)}(hp:b3s cx.P grp f (args.toList.map (t0 S.t)) A S.ent=some (out,lg))(hob:∀p∈out.obl,p) :
  (execOp a.eval ob).run cx.P w=.ok (.enter f (args.map a.eval)) w/\Calls cx.P f (args.map a.eval) w fun e w' => ∃c F' ι',e=.returned c/\t7 Γ F' ι' (S.apply grp ob.dst out) (a.put ob.dst c) w':=by
 have hfn:=D5 h.tmps fop;rw [hf] at hfn;have hall:=c5u h.tmps args.toList;have hargsEq:(args.toList.map a.eval).toArray=args.map a.eval:=e2D args a.eval;have hrun:c0J cx.P f->(execOp a.eval ob).run cx.P w=.ok (.enter f (args.map a.eval)) w:=fun ⟨fn,hfun,hname,hbody⟩=>e7J ho hfn.inv_fn hfun hname hbody
 cases A<;>try (cases hp;done)
 case call ms fr res outs=>
  have hp:a7W grp (args.toList.map (t0 S.t)) ms fr res outs (fun v=>a1n cx.P f v res outs) S.ent=some (out,lg):=hp;have hall':v6 (RV w F S.D ι) ((args.toList.map (t0 S.t)).map (F8 none)) (args.toList.map a.eval):=by
   rw [show (F8 none)=id from rfl,List.map_id];exact hall
  obtain ⟨h1,h2⟩:=c6Y (P:=cx.P) (f:=f) h hg hn ob.dst none hall' hp (fun v q=>by rw [show (F8 none)=id from rfl,List.map_id];exact q) hob;rw [hargsEq] at h2;refine ⟨hrun h1,h2.mono ?_⟩;rintro e w' ⟨c,F',ι',he,hr,_⟩
  exact ⟨c,F',ι',he,hr⟩
 case callr k q ms fr res outs=>
  unfold b3s at hp;simp only at hp;cases hk:(args.toList.map (t0 S.t))[k]? with
  | none=>rw [hk] at hp;cases hp
  | some ak=>
  rw [hk] at hp;cases ak<;>try (cases hp;done)
  rename_i cs;simp only at hp;cases hq:cs[q]? with
  | none=>rw [hq] at hp;cases hp
  | some cq=>
  rw [hq] at hp;cases cq<;>try (cases hp;done)
  rename_i g j sz lo n;cases lo with
  | succ x=>cases hp
  | zero=>
  simp only at hp;obtain ⟨o,l1,l2,hcg,hp2,_⟩:=j6.bind_some hp;have:=j6.pure_some hp2;injection this with e1 e2;have e1:out=_:=e1;subst e1;obtain ⟨x,hx,hxr⟩:=hall.get hk;obtain ⟨ds,rfl,hds⟩:=hxr.inv_agg;obtain ⟨c0,hc0,hown⟩:=hds.get hq;have hall':v6 (RV w F S.D ι) (((args.toList.map (t0 S.t)).set k (.agg (cs.set q .hole))).map (F8 (some c0))) (args.toList.map a.eval):=by
   have hmap:((args.toList.map (t0 S.t)).set k (.agg (cs.set q .hole))).map (F8 (some c0))=(args.toList.map (t0 S.t)).set k (.agg (cs.set q (.raw c0))):=by
    rw [f1z];have h1:(args.toList.map (t0 S.t)).map (F8 (some c0))=args.toList.map (t0 S.t):=by
     have:∀{vs:List V} {xs:List Value},v6 (RV w F S.D ι) vs xs->vs.map (F8 (some c0))=vs:=by
      intro vs xs h;induction h with
      | nil=>rfl
      | cons h t ih=>rw [f0j,ih,show F8 (some c0) _=Y2 c0 _ from rfl,h.nofill c0]
     exact this hall
    have h2:F8 (some c0) (.agg (cs.set q .hole))=.agg (cs.set q (.raw c0)):=by
     show V.agg ((cs.set q .hole).map (T7 c0))=_
     rw [f1z];have h3:cs.map (T7 c0)=cs:=by
      have:=hxr.nofill c0;injection this
     rw [h3];rfl
    rw [h1,h2]
   rw [hmap];have hset:=hall.set k (a:=.agg (cs.set q (.raw c0))) (b:=.agg ds.toArray) (.one _ _ (.agg _ _ (by
    have:=hds.set q (a:=.raw c0) (b:=c0) (.fv _ _ (.raw c0 hown.one));rwa [show ds.set q c0=ds from a0a hc0] at this)))
   rwa [show (args.toList.map a.eval).set k (.agg ds.toArray)=args.toList.map a.eval from a0a hx] at hset
  obtain ⟨h1,h2⟩:=c6Y (P:=cx.P) (f:=f) h hg hn ob.dst (some c0) hall' hcg (fun v q=>q c0) (fun p hp=>hob p hp);rw [hargsEq] at h2;refine ⟨hrun h1,h2.mono ?_⟩;rintro e w' ⟨c,F',ι',he,hr,hD,hι,hv⟩
  refine ⟨c,F',ι',he,?_⟩;have hown':RC w' F' (S.apply grp ob.dst {o with v:=F8 (some c0) o.v}).D ι' (.own g j sz 0 n) c0:=by
   clear hr hv;revert hD hι;generalize (S.apply grp ob.dst {o with v:=F8 (some c0) o.v}).D=D';intro hD hι;cases hown with
   | fv v c h=>cases h
   | own g j sz lo n b nn cap hD0 k1 k2 k3 k4=>exact .own g j sz 0 n b nn cap (hD _ hD0) (by rw [hι _ _ hD0];exact k1) k2 k3 k4
   | own0 g j sz lo b cap hD0 k1=>omega
  have hplug:∀{v:V} {x:Value},RC w' F' (S.apply grp ob.dst {o with v:=F8 (some c0) o.v}).D ι' (T7 c0 v) x->RC w' F' (S.apply grp ob.dst {o with v:=F8 (some c0) o.v}).D ι' (c0i (.own g j sz 0 n) v) x:=by
   intro v x h;by_cases hv:v=.hole
   ·subst hv;cases h with
    | fv v c h=>cases h;exact hown'
   ·rw [b1l hv] at h;have:c0i (.own g j sz 0 n) v=v:=by cases v<;>first|rfl|exact absurd rfl hv
    rw [this];exact h
  have hv':RV w' F' (S.apply grp ob.dst {o with v:=F8 (some c0) o.v}).D ι' (b2Z (.own g j sz 0 n) o.v) c:=by
   revert hv;show RV _ _ _ _ (Y2 c0 o.v) c->_
   intro hv;by_cases ha:∃cs,o.v=.agg cs
   ·obtain ⟨cs,ha⟩:=ha;rw [ha] at hv⊢;obtain ⟨ds,rfl,hds⟩:=hv.inv_agg;refine .one _ _ (.agg _ _ ?_);exact v6.map_imp (fun v x h=>hplug h) hds
   ·have ha:∀cs,o.v ≠ .agg cs:=fun cs q=>ha ⟨cs,q⟩
    rw [b2N ha] at hv;have:b2Z (.own g j sz 0 n) o.v=o.v:=by
     generalize o.v=v at ha;cases v<;>first|rfl|exact absurd rfl (ha _)
    rw [this];exact hv
  have hfin:=hr.put ob.dst hv';have e1:(a.put ob.dst c).put ob.dst c=a.put ob.dst c:=by
   cases ob.dst with
   | none=>rfl
   | some d=>simp [Act.put]
  rw [e1] at hfin;have e2:S.apply grp ob.dst {o with v:=b2Z (.own g j sz 0 n) o.v}={S.apply grp ob.dst {o with v:=F8 (some c0) o.v} with t:=R2 (S.apply grp ob.dst {o with v:=F8 (some c0) o.v}).t ob.dst (b2Z (.own g j sz 0 n) o.v)}:=by
   cases ob.dst with
   | none=>rfl
   | some d=>simp [St.apply,R2]
  rw [e2];exact hfin
end
section
variable {w w':World} {F D:Nat->Prop} {ι:Nat->Nat->Value}
theorem KL.len:∀{vs:List V} {cs:List Value} {f:List Nat},KL w F D ι vs cs f->vs.length=cs.length
 | _,_,_,.nil=>rfl
 | _,_,_,.cons _ _ _ _ _ _ _ t=>by simp [KL.len t]
theorem KL.app:∀{vs vs':List V} {cs cs':List Value} {f f':List Nat},KL w F D ι vs cs f->KL w F D ι vs' cs' f'->KL w F D ι (vs++vs') (cs++cs') (f++f')
 | _,_,_,_,_,_,.nil,k=>k
 | _,_,_,_,_,_,.cons v c f vs cs fs h t,k=>by
  rw [e92];exact .cons v c f _ _ _ h (KL.app t k)
theorem KL.split:∀{vs vs':List V} {cs:List Value} {f:List Nat},KL w F D ι (vs++vs') cs f->∃c1 c2 f1 f2,cs=c1++c2/\f=f1++f2/\KL w F D ι vs c1 f1/\KL w F D ι vs' c2 f2
 | [],vs',cs,f,h=>⟨[],cs,[],f,rfl,rfl,.nil,h⟩
 | v::vs,vs',_,_,.cons _ c f _ cs fs h t=>by
  obtain ⟨c1,c2,f1,f2,rfl,rfl,h1,h2⟩:=KL.split t;exact ⟨c::c1,c2,f++f1,f2,rfl,by rw [e92],.cons _ _ _ _ _ _ h h1,h2⟩
theorem KL.cut{vs:List V}{cs:List Value}{f:List Nat}(h:KL w F D ι vs cs f){k m:Nat}(hk:k+m<=vs.length) :
  ∃fa fm fb,f=fa++(fm++fb)/\KL w F D ι (vs.take k) (cs.take k) fa/\KL w F D ι ((vs.drop k).take m) ((cs.drop k).take m) fm/\KL w F D ι (vs.drop (k+m)) (cs.drop (k+m)) fb:=by
 have e:vs=vs.take k++((vs.drop k).take m++vs.drop (k+m)):=by
  rw [<-f09,f0s,f0s]
 rw [e] at h;obtain ⟨c1,c23,f1,f23,rfl,rfl,h1,h23⟩:=h.split;obtain ⟨c2,c3,f2,f3,rfl,rfl,h2,h3⟩:=h23.split;have l1:c1.length=k:=by rw [<-h1.len];simp;omega
 have l2:c2.length=m:=by rw [<-h2.len];simp;omega
 have t1:(c1++(c2++c3)).take k=c1:=by rw [f0N (by omega),f0k (by omega)]
 have t2:(c1++(c2++c3)).drop k=c2++c3:=by rw [f1h (by omega),e94 (by omega:c1.length<=k),f0H]
 have t3:(c2++c3).take m=c2:=by rw [f0N (by omega),f0k (by omega)]
 have t4:(c2++c3).drop m=c3:=by rw [f1h (by omega),e94 (by omega:c2.length<=m),f0H]
 refine ⟨f1,f2,f3,rfl,?_,?_,?_⟩
 ·rw [t1];exact h1
 ·rw [t2,t3];exact h2
 ·rw [<-f09 (l:=c1++(c2++c3)),t2,t4];exact h3
theorem KL.splice{vs us:List V}{cs ds:List Value}{f f2:List Nat}(h:KL w F D ι vs cs f){k:Nat}(h2:KL w F D ι us ds f2)(hk:k+us.length<=vs.length) :
  ∃fa fm fb,f=fa++(fm++fb)/\KL w F D ι (A5 vs k us) (A5 cs k ds) (fa++(f2++fb))/\KL w F D ι ((vs.drop k).take us.length) ((cs.drop k).take us.length) fm:=by
 obtain ⟨fa,fm,fb,rfl,h1,hm,h3⟩:=h.cut hk;refine ⟨fa,fm,fb,rfl,?_,hm⟩;unfold A5;rw [e92,e92,<-h2.len];exact h1.app (h2.app h3)
theorem OR.one{e sz n:Nat}{rows:List (List V)}{c:Value}{flat:List Value}(h:w.ownsRow 0 e sz c n flat):c.oneCell'=true:=by
 rcases h.2 with ⟨rfl,_⟩|⟨g,cap,cur,rfl,_⟩<;>rfl
theorem BC.one{v:V}{c:Value}{f:List Nat}(h:BC w F v c f):c.oneCell'=true:=by
 cases h with
 | fv v c h=>exact (RC.fv (D:=fun _=>True) (ι:=fun _ _=>.nilFunc) v c h).one
 | osl e sz n rows c h=>
  obtain ⟨flat,ho,_⟩:=h;exact OR.one (rows:=rows) ho
 | dsl e sz n rows c flat fs ho hr hn hl=>exact OR.one (rows:=rows) ho
theorem KC.one{v:V}{c:Value}{f:List Nat}(h:KC w F D ι v c f):c.oneCell'=true:=by
 cases h with
 | rc h=>exact h.one
 | bc _ h=>exact BC.one h
theorem KL.bots:∀{vs:List V} {cs:List Value} {f:List Nat},KL w F D ι vs cs f->KL w F D ι (vs.map fun _=>V.bot) cs []
 | _,_,_,.nil=>.nil
 | _,_,_,.cons v c f vs cs fs h t=>.cons .bot c [] _ _ [] (.rc _ _ (.fv _ _ (.bot _ h.one))) (KL.bots t)
theorem KL.ofRC:∀{vs:List V} {cs:List Value},v6 (RC w F D ι) vs cs->KL w F D ι vs cs []
 | _,_,.nil=>.nil
 | _,_,.cons h t=>.cons _ _ [] _ _ [] (.rc _ _ h) (KL.ofRC t)
def V.plain:V->Bool
 | .own .. | .ptr .. | .eptr .. | .fptr _ | .mp .. | .osl .. | .dsl .. | .agg _ | .tup _ | .optr .. => false
 | _=>true
end
theorem d3h:∀{ks:List (Nat×Nat)} {S:St} {g j:Nat},(g,j) ∉ ks->(S.upds (E9 ks)).ent g j=S.ent g j
 | [],_,_,_,_=>rfl
 | k::ks,S,g,j,h=>by
  show ((S.setE k.1 k.2 .dead).upds (E9 ks)).ent g j=_
  rw [d3h (fun q=>h (by simp [q])),a5l (fun q=>h (by rw [show k=(g,j) from Prod.ext q.1.symm q.2.symm];simp))]
end
end Go.Proofs.YtpkapdcfblhkoaaGreat
