/- What the law leans on, part 5. -/
import Derived.Test.YtijjifellblecaaGreatP4
set_option linter.unusedVariables false
set_option linter.unusedSimpArgs false
set_option linter.unnecessarySimpa false
namespace Go.Proofs.YtijjifellblecaaGreat
open Go
open Option renaming bind_some->f5Y,getD_some->f7s,map_some->f7u
open List renaming getElem?_eq_getElem->f5Z,replicate->f6a,mem_append->f6b,getElem_mem->f6c,all_eq_true->f6e,getElem?_eq_some_iff->f6g,mem_singleton->f6h,range->f6i,length_append->f6l,eq_nil_of_length_eq_zero->f6m,mem_of_getElem?->f6o,getD_eq_getElem?_getD->f6p,getElem?_append_right->f6q,append_assoc->f6r,length_take->f6t,take_length->f6u,getElem?_set_ne->f6v,drop_eq_getElem_cons->f6w,getElem?_append_left->f6x,drop_eq_nil_of_le->f6y,getElem?_eq_none->f6z,take_succ_eq_append_getElem->f6C,flatten_cons->f6E,mem_map->f6G,mem_or_eq_of_mem_set->f6K,map_cons->f6L,any_eq_false->f6O,append_nil->f6P,getElem_of_mem->f6Q,take_zero->f6R,take_of_length_le->f6S,nil_append->f6V,length_map->f6W,mem_replicate->f6X,findIdx?_eq_some_iff_getElem->f6Y,mem_flatten->f7b,mem_of_mem_drop->f7d,mem_of_mem_take->f7e,mem_take_iff_getElem->f7f,mem_filter->f7g,length_cons->f7j,length_singleton->f7k,mem_range->f7m,getElem?_set_self->f7p,map_append->f7q,getElem?_cons_succ->f7r,drop_zero->f7t,length_set->f7y,any_eq_true->f7B,mem_append_left->f7D,getElem?_set->f7E,getElem?_drop->f7H,find?_cons->f7K,length_nil->f7L,all_eq_false->f7M,getElem?_of_mem->f7O,findIdx?_eq_none_iff->f7Q,length_drop->f7W,take_succ_cons->f7Y,replicate_succ->f7Z,map_map->f8e,set_getElem_self->f8g,length_replicate->f8i,getElem?_append->f8j,mem_cons_of_mem->f8n,any_cons->f8o,mem_of_find?_eq_some->f8r,find?_eq_none->f8s
open Bool renaming and_eq_true->f6d,not_true->f6f,true_and->f6n,not_false->f6H,not_eq_true'->f6J,false_or->f6N,or_eq_false_iff->f7o,false_eq_true->f7v,and_true->f7x,eq_iff_iff->f7A,true_or->f8h,not_eq_true->f8m,not_not->f8t
open Nat renaming le_refl->f6s,mul_le_mul_right->f6F,le_trans->f6M,zero_add->f7i,succ_mul->f7n,add_zero->f7J
open Int renaming toNat_natCast->f6A,le_refl->f6B,tmod->f6D,le_trans->f6Z
open Option.some renaming inj->f7h
open Classical renaming byContradiction->f8q
noncomputable section
theorem c4s{α B R:Type}{body:Int->Option (l7 R Int B)}(l:List α)(hl:t0 l)(ok:α->Bool)(v:R)(b:B)(h1:∀(k:Nat) (h:k<l.length),body (k:Int)=some (bif ok l[k] then .nxt (m8 ((k:Int)+1)) else .ret v))(h2:body (l.length:Int)=some (.brk b)):o9 body 0=some (bif l.all ok then .brk b else .ret v):=by
 have h:=a5z (body:=body) (fun k=>(k:Int)) l.length (fun k=>match l[k]? with|some x=>ok x|none=>true) (fun _=>v) b
  (fun k hk _=>by
   have:=h1 k hk;rw [F6 hl hk] at this;simpa [f5Z hk] using this) (fun _=>h2)
 rcases h with ⟨h,hall⟩|⟨k,hk,ho,_,h⟩
 ·have:l.all ok=true:=by
   rw [f6e];intro x hx;obtain ⟨i,hi,rfl⟩:=f6Q hx;have:=hall i hi;simpa [f5Z hi] using this
  rw [this];exact h
 ·have:l.all ok=false:=by
   rw [f7M];refine ⟨l[k],f6c hk,?_⟩;simpa [f5Z hk] using ho
  rw [this];exact h
theorem b4z{l:List r9}(h:l.length<=1000):a29 l=some l:=by
 unfold a29;cases hl:((l.length:Int)==0)
 ·rw [f8w,v6 (by constructor<;>omega),v6 (by simp)]
 ·simp only [beq_iff_eq] at hl;have:l=[]:=f6m (by omega);rw [this];rfl
theorem f2k{l:List p7}(h:l.length<=1000):a70 l=some l:=by
 unfold a70;cases hl:((l.length:Int)==0)
 ·rw [f8w,v6 (by constructor<;>omega),v6 (by simp)]
 ·simp only [beq_iff_eq] at hl;have:l=[]:=f6m (by omega);rw [this];rfl
def V8(ps:List p7)(b:Int):Option Nat:=ps.findIdx? (·.i6==b)
def atI:Option Nat->Int
 | some k=>(k:Int)
 | none => -1
theorem d14{l:List p7}(h:t0 l)(b:Int):a6i l b=some (atI (V8 l b)):=by
 unfold a6i;rw [show (0:Int)=((0:Nat):Int) from rfl,b7G (body:=fun s:Int=>a7e l b s) (fun k=>(k:Int)) l (·.i6==b) (fun k=>(k:Int)) ()]
 ·unfold V8;cases l.findIdx? (·.i6==b)<;>rfl
 ·intro k hk;unfold a7e;rw [x7 _ k hk,t9 hk,F6 h hk];simp only [f8v,f5Y];cases l[k].i6==b<;>rfl
 ·unfold a7e;rw [z9];rfl
theorem d2G{x:n6}(h:t0 x.b6)(b:Int):b1J x b=some (atI (V8 x.b6 b)):=by
 unfold b1J;rw [show (0:Int)=((0:Nat):Int) from rfl,b7G (body:=fun s:Int=>b2n x b s) (fun k=>(k:Int)) x.b6 (·.i6==b) (fun k=>(k:Int)) ()]
 ·unfold V8;cases x.b6.findIdx? (·.i6==b)<;>rfl
 ·intro k hk;unfold b2n;rw [x7 _ k hk,t9 hk,F6 h hk];simp only [f8v,f5Y];cases x.b6[k].i6==b<;>rfl
 ·unfold b2n;rw [z9];rfl
theorem b3A{ps:List p7}{b:Int}{k:Nat}(h:V8 ps b=some k):k<ps.length:=by
 obtain ⟨hk,_⟩:=f6Y.1 h;exact hk
theorem b8V(k:Nat):decide (atI (some k)>=0)=true:=by simp [atI]
theorem b9b:decide (atI none>=0)=false:=by simp [atI]
theorem f5s{x:n6}(h:t0 x.b5)(b:Int):∃v,b30 x b=some v/\decide (v<0) = !(J2 x.b5 b):=by
 obtain ⟨v,h1,h2⟩:=e3v h b;refine ⟨v,h1,?_⟩;rw [<-h2];by_cases q:v>=0
 ·have:¬v<0:=by omega
  simp [q,this]
 ·have:v<0:=by omega
  simp [q,this]
def H1(v:Int):Bool:=q8 v (-1000000) 1000000
def J7(regs:List Int)(a:Int):Int:=regs.getD a.toNat 0
theorem L4{regs:List Int}(h:regs.length=4){a:Int}(ha:0<=a/\a<=3):idx regs a=some (J7 regs a):=by
 obtain ⟨k,rfl⟩:=Int.eq_ofNat_of_zero_le ha.1;have hk:k<regs.length:=by omega
 rw [t9 hk];unfold J7;simp [hk]
theorem e3P{regs:List Int}(h:regs.length=4){a v:Int}(ha:0<=a/\a<=3):J7 (regs.set a.toNat v) a=v:=by
 unfold J7;have:a.toNat<regs.length:=by omega
 simp [this]
theorem f0q{regs:List Int}(h:regs.length=4)(hr:regs.all H1=true){a v:Int}(ha:0<=a/\a<=3):(regs.set a.toNat v).all H1=H1 v:=by
 cases hv:H1 v
 ·rw [f7M];exact ⟨v,f6o (i:=a.toNat) (by rw [f7p (by omega)]),by simp [hv]⟩
 ·rw [f6e] at hr⊢;intro x hx;rcases f6K hx with hx|rfl
  ·exact hr x hx
  ·exact hv
theorem a2p{regs:List Int}(h:regs.length=4)(hr:regs.all H1=true){a:Int}(ha:0<=a/\a<=3):-1000000<=J7 regs a/\J7 regs a<=1000000:=by
 have hi:=L4 h ha;have hm:J7 regs a∈regs:=f6o (b46 hi).2.2;have:=f6e.1 hr _ hm;simpa [H1,q8] using this
structure EI(regs:List Int)(rs:List r9)(ps:List p7)(k:Nat):Prop where
 len:regs.length=4
 rng:regs.all H1=true
 rl:rs.length<=k
 pl:ps.length<=k
theorem EI.fr{regs:List Int}{rs:List r9}{ps:List p7}{k:Nat}(h:EI regs rs ps k)(hk:k<=100):t0 rs:=by
 have:=h.rl;unfold t0;omega
theorem EI.fp{regs:List Int}{rs:List r9}{ps:List p7}{k:Nat}(h:EI regs rs ps k)(hk:k<=100):t0 ps:=by
 have:=h.pl;unfold t0;omega
def D7(l:List n8)(i:n9)(regs:List Int)(rs:List r9)(ps:List p7):List Int×List r9×List p7:=
 bif i.a9==1 then (match V8 ps i.B with
  | some k=>(match ps[k]? with
   | some p=>(regs.set i.A.toNat p.g7,rs,ps)
   | none=>(regs,rs,ps))
  | none=>match l[i.B.toNat]? with
   | some b=>(regs.set i.A.toNat b.g7,bif J2 rs i.B then rs else rs++[⟨i.B,b.j5⟩],ps)
   | none=>(regs,rs,ps))
 else bif i.a9==2 then (regs,rs,match V8 ps i.A with
  | some k=>(match ps[k]? with
   | some p=>ps.set k ⟨p.i6,J7 regs i.B⟩
   | none=>ps)
  | none=>ps++[⟨i.A,J7 regs i.B⟩])
 else bif i.a9==3 then (regs.set i.A.toNat i.N,rs,ps)
 else bif i.a9==4 then (regs.set i.A.toNat (J7 regs i.A+J7 regs i.B),rs,ps)
 else bif i.a9==5 then (regs.set i.A.toNat (J7 regs i.A-J7 regs i.B),rs,ps)
 else (regs,rs,ps)
def S9(l:List n8)(prog:List n9):Nat->Nat->List Int->List r9->List p7->n6
 | 0,_,regs,rs,ps=>⟨rs,ps,J7 regs 0,0⟩
 | f+1,k,regs,rs,ps=>match prog[k]? with
  | none=>⟨rs,ps,J7 regs 0,0⟩
  | some i=>bif i.a9==6 then S9 l prog f (bif decide (J7 regs i.A<J7 regs i.B) then k+i.N.toNat+1 else k+1) regs rs ps
   else bif i.a9==7 then ⟨rs,[],0,1⟩
   else bif (D7 l i regs rs ps).1.all H1 then S9 l prog f (k+1) (D7 l i regs rs ps).1 (D7 l i regs rs ps).2.1 (D7 l i regs rs ps).2.2
   else ⟨(D7 l i regs rs ps).2.1,[],0,2⟩
def C2(l:List n8)(prog:List n9):n6:=bif D1 l&&E4 prog then S9 l prog (prog.length+1) 0 [0,0,0,0] [] [] else ⟨[],[],0,3⟩
section
variable {l:List n8} {regs:List Int} {rs:List r9} {ps:List p7} {k:Nat} {i:n9}
theorem c1Z(h:regs.length=4):(D7 l i regs rs ps).1.length=4:=by
 unfold D7;cases i.a9==1<;>cases i.a9==2<;>cases i.a9==3<;>cases i.a9==4<;>cases i.a9==5<;>simp only [f8v,f8w,f7y,h]
 all_goals
  split
  ·split<;>simp [h]
  ·split<;>simp [h]
theorem d31(h:rs.length<=k):(D7 l i regs rs ps).2.1.length<=k+1:=by
 unfold D7;cases i.a9==1<;>cases i.a9==2<;>cases i.a9==3<;>cases i.a9==4<;>cases i.a9==5<;>simp only [f8v,f8w]<;>try omega
 all_goals
  split
  ·split<;>(simp only;omega)
  ·split
   ·cases J2 rs i.B<;>simp only [f8v,f8w,f6l,f7k]<;>omega
   ·simp only;omega
theorem d2n(h:ps.length<=k):(D7 l i regs rs ps).2.2.length<=k+1:=by
 unfold D7;cases i.a9==1<;>cases i.a9==2<;>cases i.a9==3<;>cases i.a9==4<;>cases i.a9==5<;>simp only [f8v,f8w]<;>try omega
 all_goals (repeat' split)
 all_goals (try simp only [f7y,f6l,f7k])
 all_goals omega
theorem EI.next(h:EI regs rs ps k)(ha:(D7 l i regs rs ps).1.all H1=true):EI (D7 l i regs rs ps).1 (D7 l i regs rs ps).2.1 (D7 l i regs rs ps).2.2 (k+1):=
 ⟨c1Z h.len,ha,d31 h.rl,d2n h.pl⟩
theorem b5o{x:Int}(h:-1000000<=x/\x<=1000000){y:Int}(h':-1000000<=y/\y<=1000000):m8 (x+y)=x+y/\m8 (x-y)=x-y:=⟨C5 (by omega) (by omega),C5 (by omega) (by omega)⟩
theorem f4S(hl:D1 l=true)(he:EI regs rs ps k)(hk:k<=100)(hi:P5 i=true)(h6:i.a9≠6)(h7:i.a9≠7) :
  a9J l ⟨rs,ps,0,0⟩ regs i=some (⟨(D7 l i regs rs ps).2.1,(D7 l i regs rs ps).2.2,0,bif (D7 l i regs rs ps).1.all H1 then 0 else 2⟩,(D7 l i regs rs ps).1):=by
 have hfr:=he.fr hk;have hfp:=he.fp hk;have hrl:=he.rl;have hpl:=he.pl;have n1:(rs.length+1)*16<=140737488355328:=by omega
 have n2:(ps.length+1)*16<=140737488355328:=by omega
 have fin:∀(a v:Int) (rs':List r9) (ps':List p7),0<=a/\a<=3->i.a9≠2->i.A=a->a8D i (regs.set a.toNat v) rs' ps' 0 0=some (⟨rs',ps',0,bif (regs.set a.toNat v).all H1 then 0 else 2⟩,regs.set a.toNat v):=by
  intro a v rs' ps' ha h2 hia;unfold a8D b36;rw [show (i.a9 != 2)=true from by simpa using h2,f8v,hia,L4 (by simpa using he.len) ha,f5Y,a8v,f5Y,e3P he.len ha,f0q he.len he.rng ha];unfold H1;cases q8 v (-1000000) 1000000<;>rfl
 unfold a9J D7;rcases b1F hi with ⟨h,ha,hb⟩|⟨h,ha,hb⟩|⟨h,ha,hn⟩|⟨h,ha,hb⟩|⟨h,ha,hb⟩|⟨h,_⟩|⟨h,_⟩
 ·simp only [h,show ((1:Int)==1)=true from rfl,f8v];unfold c4a c5J;rw [d14 hfp,f5Y];cases hp:V8 ps i.B with
  | some j=>
   have hj:=b3A hp;simp only [b8V,f8v,f5Z hj];simp only [atI,t9 hj,f5Y,L4 he.len ha,m5.go];exact fin i.A _ rs ps ha (by omega) rfl
  | none=>
   obtain ⟨b,hb1,hb2,_⟩:=a41 hl hb;simp only [b9b,f8w,d2r hfr,f5Y,hb1,hb2,v6 n1];cases hs:J2 rs i.B
   ·simp only [f6H,f8v,f8w,f5Y,m5.go,hb1,L4 he.len ha];exact fin i.A _ _ _ ha (by omega) rfl
   ·simp only [f6f,f8v,f8w,f5Y,m5.go,hb1,L4 he.len ha];exact fin i.A _ _ _ ha (by omega) rfl
 ·simp only [h,show ((2:Int)==1)=false from rfl,show ((2:Int)==2)=true from rfl,f8v,f8w,L4 he.len hb,f5Y];unfold c09;rw [d14 hfp,f5Y];have fin2:∀ps':List p7,a8D i regs rs ps' 0 0=some (⟨rs,ps',0,bif regs.all H1 then 0 else 2⟩,regs):=by
   intro ps';unfold a8D b36;rw [he.rng,h];rfl
  cases hp:V8 ps i.A with
  | some j=>
   have hj:=b3A hp;simp only [b8V,f8v,f5Z hj];simp only [atI,t9 hj,f5Y,m5.go,f6A];exact fin2 _
  | none=>
   simp only [b9b,f8w,v6 n2,f5Y,m5.go];exact fin2 _
 ·simp only [h,show ((3:Int)==1)=false from rfl,show ((3:Int)==2)=false from rfl,show ((3:Int)==3)=true from rfl,f8v,f8w,L4 he.len ha,f5Y,m5.go];exact fin i.A _ _ _ ha (by omega) rfl
 ·simp only [h,show ((4:Int)==1)=false from rfl,show ((4:Int)==2)=false from rfl,show ((4:Int)==3)=false from rfl,show ((4:Int)==4)=true from rfl,f8v,f8w,L4 he.len ha,L4 he.len hb,f5Y,m5.go,(b5o (a2p he.len he.rng ha) (a2p he.len he.rng hb)).1];exact fin i.A _ _ _ ha (by omega) rfl
 ·simp only [h,show ((5:Int)==1)=false from rfl,show ((5:Int)==2)=false from rfl,show ((5:Int)==3)=false from rfl,show ((5:Int)==4)=false from rfl,show ((5:Int)==5)=true from rfl,f8v,f8w,L4 he.len ha,L4 he.len hb,f5Y,m5.go,(b5o (a2p he.len he.rng ha) (a2p he.len he.rng hb)).2];exact fin i.A _ _ _ ha (by omega) rfl
 ·exact absurd h h6
 ·exact absurd h h7
theorem e2t(hi:i.a9=7)(ha:i.A=0)(he:EI regs rs ps k):a9J l ⟨rs,ps,0,0⟩ regs i=some (⟨rs,ps,0,1⟩,regs):=by
 have hin:=a2p he.len he.rng (a:=0) (by omega);unfold a9J a8D b36;simp only [hi,ha,show ((7:Int)==1)=false from rfl,show ((7:Int)==2)=false from rfl,show ((7:Int)==3)=false from rfl,show ((7:Int)==4)=false from rfl,show ((7:Int)==5)=false from rfl,show ((7:Int)==7)=true from rfl,show ((7:Int) != 2)=true from rfl,f8v,f8w,f5Y,m5.go,L4 he.len (a:=0) (by omega),a8v];rw [show q8 (J7 regs 0) (-1000000) 1000000=true from by simp [q8];exact hin];rfl
theorem d4l(l:List n8){prog:List n9}{f k:Nat}{regs:List Int}{rs:List r9}{ps:List p7}(h:prog.length<=k):S9 l prog f k regs rs ps=⟨rs,ps,J7 regs 0,0⟩:=by
 cases f with
 | zero=>rfl
 | succ f=>
  unfold S9;rw [f6z h]
theorem c2Z{prog:List n9}(hp:E4 prog=true):prog.length<=10/\∀i∈prog,P5 i=true:=by
 unfold E4 at hp;simpa using hp
theorem d4H(l:List n8)(prog:List n9)(regs:List Int)(rs:List r9)(ps:List p7)(k c:Int)(hc:(c==0)=false) :
  ((o9 (fun s:(List Int)×(List r9)×(List p7)×Int×Int×Int=>a1Z l prog s.1 s.2.1 s.2.2.1 s.2.2.2.1 s.2.2.2.2.1 s.2.2.2.2.2) (regs,rs,ps,k,0,c)).bind fun x=>x.go (fun r=>some r) fun s=>a9d s.1 s.2.1 s.2.2.1 s.2.2.2.1 s.2.2.2.2)=some ⟨rs,[],0,c⟩:=by
 rw [C8 (b:=(rs,ps,regs,0,c))]
 ·simp only [f5Y,m5.go];unfold a9d;rw [bne,hc];rfl
 ·unfold a1Z;simp only [hc,f8w];cases decide (k<(prog.length:Int))<;>rfl
theorem e9u(hl:D1 l=true){prog:List n9}(hp:E4 prog=true):∀(f k:Nat) (regs:List Int) (rs:List r9) (ps:List p7),EI regs rs ps k->prog.length<k+f->k<=prog.length+10->
  ((o9 (fun s:(List Int)×(List r9)×(List p7)×Int×Int×Int=>a1Z l prog s.1 s.2.1 s.2.2.1 s.2.2.2.1 s.2.2.2.2.1 s.2.2.2.2.2) (regs,rs,ps,(k:Int),0,0)).bind fun x=>x.go (fun r=>some r) fun s=>a9d s.1 s.2.1 s.2.2.1 s.2.2.2.1 s.2.2.2.2)=some (S9 l prog f k regs rs ps):=by
 obtain ⟨hlen,hins⟩:=c2Z hp;intro f;induction f with
 | zero=>
  intro k regs rs ps he hf hk;rw [C8 (b:=(rs,ps,regs,0,0))]
  ·simp only [f5Y,m5.go];unfold a9d;rw [show ((0:Int) != 0)=false from rfl,f8w,L4 he.len (a:=0) (by omega)];rfl
  ·unfold a1Z;rw [show decide ((k:Int)<(prog.length:Int))=false from by simp;omega];rfl
 | succ f ih=>
  intro k regs rs ps he hf hk;by_cases hlt:k<prog.length
  ·have hi:=hins _ (f6c hlt);unfold S9;rw [f5Z hlt];simp only;by_cases h6:prog[k].a9=6
   ·obtain ⟨ha,hb,hn⟩:(0<=prog[k].A/\prog[k].A<=3)/\(0<=prog[k].B/\prog[k].B<=3)/\1<=prog[k].N/\prog[k].N<=10:=by
     rcases b1F hi with ⟨h,_⟩|⟨h,_⟩|⟨h,_⟩|⟨h,_⟩|⟨h,_⟩|⟨h,x⟩|⟨h,_⟩
     all_goals first|(exact x)|(exfalso;omega)
    have hb1:a1Z l prog regs rs ps (k:Int) 0 0=some (.nxt (regs,rs,ps,((bif decide (J7 regs prog[k].A<J7 regs prog[k].B) then k+prog[k].N.toNat+1 else k+1:Nat):Int),0,0)):=by
     unfold a1Z c1E;rw [x7 _ k hlt,t9 hlt];simp only [f8v,f5Y,h6,show ((6:Int)==6)=true from rfl,show ((0:Int)==0)=true from rfl,L4 he.len ha,L4 he.len hb];cases decide (J7 regs prog[k].A<J7 regs prog[k].B)
     ·simp only [f8w,f5Y,m5.go];rw [C5 (by omega) (by omega)];rfl
     ·simp only [f8v,f5Y,m5.go];rw [C5 (n:=(k:Int)+prog[k].N) (by omega) (by omega),C5 (by omega) (by omega),show ((k+prog[k].N.toNat+1:Nat):Int)=(k:Int)+prog[k].N+1 from by omega]
    rw [D9 hb1,h6];simp only [show ((6:Int)==6)=true from rfl,f8v];refine ih _ _ _ _ ⟨he.len,he.rng,?_,?_⟩ ?_ ?_;all_goals
     have h1:=he.rl;have h2:=he.pl;cases decide (J7 regs prog[k].A<J7 regs prog[k].B)<;>simp only [f8v,f8w]<;>omega
   by_cases h7:prog[k].a9=7
   ·have ha:prog[k].A=0:=by
     rcases b1F hi with ⟨h,_⟩|⟨h,_⟩|⟨h,_⟩|⟨h,_⟩|⟨h,_⟩|⟨h,_⟩|⟨h,x⟩
     all_goals first|(exact x)|(exfalso;omega)
    have hb1:a1Z l prog regs rs ps (k:Int) 0 0=some (.nxt (regs,rs,ps,m8 ((k:Int)+1),0,1)):=by
     unfold a1Z;rw [x7 _ k hlt,t9 hlt];simp only [f8v,f5Y,show ((0:Int)==0)=true from rfl,e2t h7 ha he,h7,show ((7:Int)==6)=false from rfl,f8w];rw [v6 trivial]
    rw [D9 hb1,d4H _ _ _ _ _ _ _ rfl,h7];rfl
   ·have hs:=f4S hl he (by omega) hi h6 h7;have hb1:a1Z l prog regs rs ps (k:Int) 0 0=some (.nxt ((D7 l prog[k] regs rs ps).1,(D7 l prog[k] regs rs ps).2.1,(D7 l prog[k] regs rs ps).2.2,((k+1:Nat):Int),0,bif (D7 l prog[k] regs rs ps).1.all H1 then 0 else 2)):=by
     unfold a1Z;rw [x7 _ k hlt,t9 hlt];simp only [f8v,f5Y,show ((0:Int)==0)=true from rfl,hs,show (prog[k].a9==6)=false from by simpa using h6,f8w];rw [v6 (by rw [c1Z he.len];exact he.len),C5 (by omega) (by omega)];rfl
    rw [D9 hb1,show (prog[k].a9==6)=false from by simpa using h6,show (prog[k].a9==7)=false from by simpa using h7,f8w,f8w];cases hall:(D7 l prog[k] regs rs ps).1.all H1
    ·rw [f8w,f8w,d4H _ _ _ _ _ _ _ rfl]
    ·rw [f8v,f8v];exact ih _ _ _ _ (he.next hall) (by omega) (by omega)
  ·rw [d4l l (by omega),C8 (b:=(rs,ps,regs,0,0))]
   ·simp only [f5Y,m5.go];unfold a9d;rw [show ((0:Int) != 0)=false from rfl,f8w,L4 he.len (a:=0) (by omega)];rfl
   ·unfold a1Z;rw [show decide ((k:Int)<(prog.length:Int))=false from by simp;omega];rfl
theorem ei0:EI [0,0,0,0] [] [] 0:=⟨rfl,by decide,by simp,by simp⟩
theorem e5V{l:List n8}{prog:List n9}(hl:t0 l)(hp:t0 prog):b9c l prog=some (C2 l prog):=by
 unfold b9c C2;rw [d0Q hl,f5Y,c5T hp,f5Y];cases hb:D1 l
 ·rfl
 cases ho:E4 prog
 ·rfl
 rw [f6f,f8w,f8w,v6 (by decide)];have:=e9u hb ho (prog.length+1) 0 [0,0,0,0] [] [] ei0 (by omega) (by omega);exact this
theorem e4n{regs:List Int}{Reads1:List r9}{ins:n9}{put1:p7}(h:regs.length=4)(hr:Reads1.length<=1000):o9 (fun s:Int=>b3m regs Reads1 ins put1 s) 0=some (bif (regs.set ins.A.toNat put1.g7).all H1 then .brk () else .ret ⟨Reads1,[],0,2⟩):=by
 have hl:(regs.set ins.A.toNat put1.g7).length=4:=by simpa using h
 refine c4s (regs.set ins.A.toNat put1.g7) (by unfold t0;omega) H1 _ () (fun k hk => ?_) ?_
 ·have hk4:(k:Int)<4:=by omega
  unfold b3m;rw [decide_eq_true hk4,t9 hk,f8v,f5Y,v6 hk4,N2,f5Y,b4z hr];unfold H1;cases q8 (regs.set ins.A.toNat put1.g7)[k] (-1000000) 1000000<;>rfl
 ·unfold b3m;rw [hl];rfl
theorem d5b{regs:List Int}{Reads1:List r9}{ins:n9}{box:n8}(h:regs.length=4)(hr:Reads1.length<=1000):o9 (fun s:Int=>b2z regs ins Reads1 box s) 0=some (bif (regs.set ins.A.toNat box.g7).all H1 then .brk () else .ret ⟨Reads1,[],0,2⟩):=by
 have hl:(regs.set ins.A.toNat box.g7).length=4:=by simpa using h
 refine c4s (regs.set ins.A.toNat box.g7) (by unfold t0;omega) H1 _ () (fun k hk => ?_) ?_
 ·have hk4:(k:Int)<4:=by omega
  unfold b2z;rw [decide_eq_true hk4,t9 hk,f8v,f5Y,v6 hk4,N2,f5Y,b4z hr];unfold H1;cases q8 (regs.set ins.A.toNat box.g7)[k] (-1000000) 1000000<;>rfl
 ·unfold b2z;rw [hl];rfl
theorem c4v{regs:List Int}{Reads1:List r9}(h:regs.length=4)(hr:Reads1.length<=1000):o9 (fun s:Int=>b4f Reads1 regs s) 0=some (bif regs.all H1 then .brk () else .ret ⟨Reads1,[],0,2⟩):=by
 refine c4s regs (by unfold t0;omega) H1 _ () (fun k hk => ?_) ?_
 ·have hk4:(k:Int)<4:=by omega
  unfold b4f;rw [decide_eq_true hk4,t9 hk,f8v,f5Y,v6 hk4,N2,f5Y,b4z hr];unfold H1;cases q8 regs[k] (-1000000) 1000000<;>rfl
 ·unfold b4f;rw [h];rfl
theorem d9p(hl:D1 l=true)(he:EI regs rs ps k)(hk:k<=100){prog:List n9}(hkl:k<prog.length)(hpl:prog.length<=10)(R:List r9)(P:List p7)(hi:P5 prog[k]=true)(h6:prog[k].a9≠6)(h7:prog[k].a9≠7) :
  a3E l prog regs R P rs ps (k:Int)=some (bif (D7 l prog[k] regs rs ps).1.all H1 then .nxt ((D7 l prog[k] regs rs ps).1,R,P,(D7 l prog[k] regs rs ps).2.1,(D7 l prog[k] regs rs ps).2.2,((k+1:Nat):Int)) else .ret ⟨(D7 l prog[k] regs rs ps).2.1,[],0,2⟩):=by
 have hfr:=he.fr hk;have hfp:=he.fp hk;have hrl:=he.rl;have hpl:=he.pl;have n1:(rs.length+1)*16<=140737488355328:=by omega
 have n2:(ps.length+1)*16<=140737488355328:=by omega
 have hw:m8 ((k:Int)+1)=((k+1:Nat):Int):=by rw [C5 (by omega) (by omega)];rfl
 have fin:∀(regs':List Int) (ps':List p7),regs'.length=4->a9L R P rs regs' ps' (k:Int)=some (bif regs'.all H1 then .nxt (regs',R,P,rs,ps',((k+1:Nat):Int)) else .ret ⟨rs,[],0,2⟩):=by
  intro regs' ps' h;unfold a9L b2r;rw [c4v h (by omega),hw];cases regs'.all H1<;>rfl
 have hset:∀(a:Nat) (v:Int),(regs.set a v).length=4:=fun a v=>by simpa using he.len
 unfold a3E D7;generalize hin:prog[k]=i at hi h6 h7;rw [x7 _ k hkl,t9 hkl,hin,f8v,f5Y];rcases b1F hi with ⟨h,ha,hb⟩|⟨h,ha,hb⟩|⟨h,ha,hn⟩|⟨h,ha,hb⟩|⟨h,ha,hb⟩|⟨h,_⟩|⟨h,_⟩
 ·have na:i.A<4:=by omega
  simp only [h,show ((1:Int)==1)=true from rfl,f8v];rw [d2G (x:=⟨rs,ps,0,0⟩) hfp,f5Y];simp only;cases hp:V8 ps i.B with
  | some j=>
   have hj:=b3A hp;simp only [b8V,f8v,f5Z hj];simp only [atI,t9 hj,f5Y,L4 he.len ha];rw [v6 na,e4n he.len (by omega)];unfold c4C;rw [hw];cases (regs.set i.A.toNat ps[j].g7).all H1<;>rfl
  | none=>
   obtain ⟨b,hb1,hb2,_⟩:=a41 hl hb;obtain ⟨v,hv1,hv2⟩:=f5s (x:=⟨rs,ps,0,0⟩) hfr i.B;simp only [b9b,f8w,hv1,hv2,f5Y,hb1,hb2,v6 n1];cases hs:J2 rs i.B
   ·simp only [f6H,f8v,f8w,f5Y,m5.go];unfold b5u b7x;rw [hb1,f5Y,L4 he.len ha,f5Y,v6 na,d5b he.len (by simp;omega),hw];cases (regs.set i.A.toNat b.g7).all H1<;>rfl
   ·simp only [f6f,f8v,f8w,f5Y,m5.go];unfold b5u b7x;rw [hb1,f5Y,L4 he.len ha,f5Y,v6 na,d5b he.len (by omega),hw];cases (regs.set i.A.toNat b.g7).all H1<;>rfl
 ·have nb:i.B<4:=by omega
  simp only [h,show ((2:Int)==1)=false from rfl,show ((2:Int)==2)=true from rfl,f8v,f8w];rw [d2G (x:=⟨rs,ps,0,0⟩) hfp,f5Y];simp only;cases hp:V8 ps i.A with
  | some j=>
   have hj:=b3A hp;simp only [b8V,f8v,f5Z hj];simp only [atI,t9 hj,f5Y,L4 he.len hb,f6A];rw [v6 nb];simp only [f5Y,m5.go];exact fin _ _ he.len
  | none=>
   simp only [b9b,f8w,f5Y,L4 he.len hb];rw [v6 nb,v6 n2];simp only [f5Y,m5.go];exact fin _ _ he.len
 ·have na:i.A<4:=by omega
  simp only [h,show ((3:Int)==1)=false from rfl,show ((3:Int)==2)=false from rfl,show ((3:Int)==3)=true from rfl,f8v,f8w,L4 he.len ha,f5Y];rw [v6 na];simp only [f5Y,m5.go];exact fin _ _ (hset _ _)
 ·have na:i.A<4:=by omega
  have nb:i.B<4:=by omega
  simp only [h,show ((4:Int)==1)=false from rfl,show ((4:Int)==2)=false from rfl,show ((4:Int)==3)=false from rfl,show ((4:Int)==4)=true from rfl,f8v,f8w,L4 he.len ha,L4 he.len hb,f5Y,(b5o (a2p he.len he.rng ha) (a2p he.len he.rng hb)).1,v6 na,v6 nb,m5.go];exact fin _ _ (hset _ _)
 ·have na:i.A<4:=by omega
  have nb:i.B<4:=by omega
  simp only [h,show ((5:Int)==1)=false from rfl,show ((5:Int)==2)=false from rfl,show ((5:Int)==3)=false from rfl,show ((5:Int)==4)=false from rfl,show ((5:Int)==5)=true from rfl,f8v,f8w,L4 he.len ha,L4 he.len hb,f5Y,(b5o (a2p he.len he.rng ha) (a2p he.len he.rng hb)).2,v6 na,v6 nb,m5.go];exact fin _ _ (hset _ _)
 ·exact absurd h h6
 ·exact absurd h h7
theorem e1j(hl:D1 l=true){prog:List n9}(hp:E4 prog=true)(R:List r9)(P:List p7):∀(f k:Nat) (regs:List Int) (rs:List r9) (ps:List p7),EI regs rs ps k->prog.length<k+f->k<=prog.length+10->
  ((o9 (fun s:(List Int)×(List r9)×(List p7)×(List r9)×(List p7)×Int=>a3E l prog s.1 s.2.1 s.2.2.1 s.2.2.2.1 s.2.2.2.2.1 s.2.2.2.2.2) (regs,R,P,rs,ps,(k:Int))).bind fun x=>x.go (fun r=>some r) fun s=>b4a s.1 s.2.1 s.2.2.1 s.2.2.2.1 s.2.2.2.2)=some (S9 l prog f k regs rs ps):=by
 obtain ⟨hlen,hins⟩:=c2Z hp;have stop:∀(k:Nat) (regs:List Int) (rs:List r9) (ps:List p7),EI regs rs ps k->prog.length<=k->k<=prog.length+10->((o9 (fun s:(List Int)×(List r9)×(List p7)×(List r9)×(List p7)×Int=>a3E l prog s.1 s.2.1 s.2.2.1 s.2.2.2.1 s.2.2.2.2.1 s.2.2.2.2.2) (regs,R,P,rs,ps,(k:Int))).bind fun x=>x.go (fun r=>some r) fun s=>b4a s.1 s.2.1 s.2.2.1 s.2.2.2.1 s.2.2.2.2)=some ⟨rs,ps,J7 regs 0,0⟩:=by
  intro k regs rs ps he h1 h2;have h3:=he.rl;have h4:=he.pl;rw [C8 (b:=(R,P,regs,rs,ps))]
  ·simp only [f5Y,m5.go];unfold b4a;rw [b4z (by omega),f5Y,f2k (by omega),f5Y,L4 he.len (a:=0) (by omega),f5Y,v6 (by decide)]
  ·unfold a3E;rw [show decide ((k:Int)<(prog.length:Int))=false from by simp;omega];rfl
 intro f;induction f with
 | zero=>
  intro k regs rs ps he hf hk;exact stop k regs rs ps he (by omega) hk
 | succ f ih=>
  intro k regs rs ps he hf hk;by_cases hlt:k<prog.length
  ·have hi:=hins _ (f6c hlt);unfold S9;rw [f5Z hlt];simp only;by_cases h6:prog[k].a9=6
   ·obtain ⟨ha,hb,hn⟩:(0<=prog[k].A/\prog[k].A<=3)/\(0<=prog[k].B/\prog[k].B<=3)/\1<=prog[k].N/\prog[k].N<=10:=by
     rcases b1F hi with ⟨h,_⟩|⟨h,_⟩|⟨h,_⟩|⟨h,_⟩|⟨h,_⟩|⟨h,x⟩|⟨h,_⟩
     all_goals first|(exact x)|(exfalso;omega)
    have hrl:=he.rl;have hb1:a3E l prog regs R P rs ps (k:Int)=some (.nxt (regs,R,P,rs,ps,((bif decide (J7 regs prog[k].A<J7 regs prog[k].B) then k+prog[k].N.toNat+1 else k+1:Nat):Int))):=by
     have na:prog[k].A<4:=by omega
     have nb:prog[k].B<4:=by omega
     unfold a3E;rw [x7 _ k hlt,t9 hlt];simp only [f8v,f5Y,h6,show ((6:Int)==1)=false from rfl,show ((6:Int)==2)=false from rfl,show ((6:Int)==3)=false from rfl,show ((6:Int)==4)=false from rfl,show ((6:Int)==5)=false from rfl,show ((6:Int)==6)=true from rfl,f8w,L4 he.len ha,L4 he.len hb,v6 na,v6 nb];cases decide (J7 regs prog[k].A<J7 regs prog[k].B)
     ·simp only [f8w,f5Y,m5.go];unfold a9L b2r;rw [c4v he.len (by omega),he.rng,C5 (by omega) (by omega)];rfl
     ·simp only [f8v,f5Y,m5.go];unfold a9L b2r;rw [c4v he.len (by omega),he.rng,C5 (n:=(k:Int)+prog[k].N) (by omega) (by omega),C5 (by omega) (by omega),show ((k+prog[k].N.toNat+1:Nat):Int)=(k:Int)+prog[k].N+1 from by omega];rfl
    rw [D9 hb1,h6];simp only [show ((6:Int)==6)=true from rfl,f8v];refine ih _ _ _ _ ⟨he.len,he.rng,?_,?_⟩ ?_ ?_;all_goals
     have h1:=he.rl;have h2:=he.pl;cases decide (J7 regs prog[k].A<J7 regs prog[k].B)<;>simp only [f8v,f8w]<;>omega
   by_cases h7:prog[k].a9=7
   ·have hrl:=he.rl;have hb1:a3E l prog regs R P rs ps (k:Int)=some (.ret ⟨rs,[],0,1⟩):=by
     unfold a3E;rw [x7 _ k hlt,t9 hlt];simp only [f8v,f5Y,h7,show ((7:Int)==1)=false from rfl,show ((7:Int)==2)=false from rfl,show ((7:Int)==3)=false from rfl,show ((7:Int)==4)=false from rfl,show ((7:Int)==5)=false from rfl,show ((7:Int)==6)=false from rfl,show ((7:Int)==7)=true from rfl,f8w];rw [b4z (by omega)];rfl
    rw [X4 hb1,h7];rfl
   ·have hb1:=d9p hl he (by omega) hlt hlen R P hi h6 h7;rw [show (prog[k].a9==6)=false from by simpa using h6,show (prog[k].a9==7)=false from by simpa using h7,f8w,f8w];cases hall:(D7 l prog[k] regs rs ps).1.all H1
    ·rw [hall,f8w] at hb1;rw [X4 hb1];rfl
    ·rw [hall,f8v] at hb1;rw [D9 hb1,f8v];exact ih _ _ _ _ (he.next hall) (by omega) (by omega)
  ·rw [d4l l (by omega)];exact stop k regs rs ps he (by omega) hk
theorem d3R{l:List n8}{prog:List n9}(hl:t0 l)(hp:t0 prog):b4N l prog=some (C2 l prog):=by
 unfold b4N C2;rw [b2L hl,f5Y,b6u hp,f5Y];cases hb:D1 l
 ·rfl
 cases ho:E4 prog
 ·rfl
 rw [f6f,f8w,f8w];exact e1j hb ho [] [] (prog.length+1) 0 [0,0,0,0] [] [] ei0 (by omega) (by omega)
end
theorem d5s{l:List m6}(hl:l.length<=40)(he:l.all z5=true){k:Nat}(hk:k<=l.length):(told l (s5 l).2 k).length<=40:=by
 obtain ⟨_,hlen,hc⟩:=T2 hl he l.length (f6s _);rw [f6u] at hlen hc;have h1:=b83 hlen k hk;have h2:=c0s ((s5 l).2.take k) 0;rw [f6t] at h2;omega
theorem e1n(l:List m6):t0 (C3 l):=by
 unfold C3;cases hok:G6 l
 ·simp [t0]
 ·obtain ⟨hl,he⟩:=a07 hok;have:=d5s hl he (f6s _);show t0 (told l (s5 l).2 l.length)
  unfold t0;omega
def N9(l:List n8)(p:List n9):List n8×Int×Int:=bif (C2 l p).Code==3 then ([],0,3) else (a0P l (C2 l p).b6,(C2 l p).g7,(C2 l p).Code)
theorem e08{l:List n8}{i:n9}{regs:List Int}{rs:List r9}{ps:List p7}(hl:D1 l=true)(h4:regs.length=4)(hr:regs.all H1=true)(hi:P5 i=true)(h1:a3H rs=true)(h2:a14 ps=true):a3H (D7 l i regs rs ps).2.1=true/\a14 (D7 l i regs rs ps).2.2=true:=by
 unfold D7;cases k1:i.a9==1
 ·simp only [f8w];cases k2:i.a9==2
  ·simp only [f8w];cases i.a9==3
   ·cases i.a9==4
    ·cases i.a9==5<;>exact ⟨h1,h2⟩
    ·exact ⟨h1,h2⟩
   ·exact ⟨h1,h2⟩
  ·simp only [f8v];unfold P5 at hi;rw [k1,k2] at hi;simp only [f8v,f8w,f6d,H8] at hi;have hv:=a2p h4 hr hi.2.1;refine ⟨h1,?_⟩;cases hp:V8 ps i.A with
   | some k=>
    have hk:=b3A hp;simp only [f5Z hk];exact d8l h2 hk hv
   | none=>
    simp only;refine f1Z h2 ⟨hi.1.1,hi.1.2,hv⟩ ?_;unfold J8;rw [f6O];intro x hx;have:=f7Q.1 hp x hx;simpa using this
 ·simp only [f8v];unfold P5 at hi;rw [k1] at hi;simp only [f8v,f6d,H8] at hi;cases V8 ps i.B with
  | some k=>
   simp only;cases ps[k]?<;>exact ⟨h1,h2⟩
  | none=>
   simp only;cases hb:l[i.B.toNat]? with
   | none=>exact ⟨h1,h2⟩
   | some b=>
    simp only;cases hs:J2 rs i.B
    ·obtain ⟨b',b1,_,b3⟩:=a41 hl hi.2.1;unfold idx at b1;rw [if_pos hi.2.1.1,hb] at b1;injection b1 with b1;subst b1;rw [b2M] at b3;exact ⟨d9i h1 ⟨hi.2.1.1,hi.2.1.2,b3.1⟩ hs,h2⟩
    ·exact ⟨h1,h2⟩
theorem c5M{l:List n8}(hl:D1 l=true){prog:List n9}(hi:∀i∈prog,P5 i=true):∀(f k c:Nat) (regs:List Int) (rs:List r9) (ps:List p7),regs.length=4->regs.all H1=true->a3H rs=true->a14 ps=true->rs.length<=c->ps.length<=c->c+f<=40->Ran (S9 l prog f k regs rs ps)
 | 0,k,c,regs,rs,ps,h4,hr,h1,h2,h5,h6,h7=>by
  have w:Way ⟨rs,ps,0,0⟩ 40:=⟨rfl,h1,h2,by simp only;omega,by simp only;omega⟩
  exact b7Y w (by omega) (.inl rfl) (fun _=>a2p h4 hr (a:=0) ⟨by omega,by omega⟩)
 | f+1,k,c,regs,rs,ps,h4,hr,h1,h2,h5,h6,h7=>by
  have w:∀c,Way ⟨rs,ps,0,c⟩ 40:=fun c=>⟨rfl,h1,h2,by simp only;omega,by simp only;omega⟩
  unfold S9;cases hk:prog[k]? with
  | none=>exact b7Y (w 0) (by omega) (.inl rfl) (fun _=>a2p h4 hr (a:=0) ⟨by omega,by omega⟩)
  | some i=>
   have hin:=hi i (f6o hk);simp only;cases i.a9==6
   ·cases i.a9==7
    ·obtain ⟨a1,a2⟩:=e08 hl h4 hr hin h1 h2;have l4:=c1Z (l:=l) (i:=i) (rs:=rs) (ps:=ps) h4;have lr:=d31 (l:=l) (i:=i) (regs:=regs) (ps:=ps) h5;have lp:=d2n (l:=l) (i:=i) (regs:=regs) (rs:=rs) h6;simp only [f8w];cases ha:(D7 l i regs rs ps).1.all H1
     ·have w2:Way ⟨(D7 l i regs rs ps).2.1,(D7 l i regs rs ps).2.2,0,2⟩ 40:=⟨rfl,a1,a2,by simp only;omega,by simp only;omega⟩
      exact b7Y w2 (by omega) (.inr (.inr rfl)) (v:=0) (fun q=>absurd (show (2:Int)=0 from q) (by decide))
     ·exact c5M hl hi f (k+1) (c+1) _ _ _ l4 ha a1 a2 lr lp (by omega)
    ·exact b7Y (w 1) (by omega) (.inr (.inl rfl)) (v:=0) (fun q=>absurd (show (1:Int)=0 from q) (by decide))
   ·exact c5M hl hi f _ c _ _ _ h4 hr h1 h2 h5 h6 (by omega)
theorem c3m{l:List n8}{p:List n9}(hl:D1 l=true)(hp:t0 p):Ran (C2 l p):=by
 unfold C2;rw [hl,f6n];cases hpo:E4 p
 ·exact (⟨by decide,by simp,by simp⟩:Ran ⟨[],[],0,3⟩)
 unfold E4 at hpo;simp only [f6d,decide_eq_true_eq] at hpo;exact c5M hl (f6e.1 hpo.2) _ 0 0 _ [] [] rfl (by decide) rfl rfl (by simp) (by simp) (by omega)
theorem Ran.f{r:n6}(h:Ran r):a2f r:=by
 have h1:=h.rlen;have h2:=h.plen;exact ⟨⟨by omega,fun _ _=>trivial⟩,⟨by omega,fun _ _=>trivial⟩,trivial⟩
theorem Ran.puts{r:n6}(h:Ran r):∀p∈r.b6,a0q p:=by
 have:=h.ok;rw [a9K] at this;simp only [f6d] at this;exact (b1z.1 this.2.2.2.2.2).1
theorem e81{l:List n8}{p:List n9}(hl:D1 l=false):(C2 l p).Code=3:=by
 unfold C2;rw [hl];rfl
theorem f1l{l:List n8}{p:List n9}(hl:t0 l)(hp:t0 p):b9B l p=some (N9 l p):=by
 unfold b9B N9;rw [d3R hl hp,f5Y];cases hc:(C2 l p).Code==3
 ·have hb:D1 l=true:=by
   cases hb:D1 l
   ·rw [e81 hb] at hc;cases hc
   ·rfl
  have hr:=c3m hb hp;simp only [f8w,f5Y,d2C hb hr.f hr.ok]
 ·rfl
theorem c8d{l:List n8}{p:List n9}(hl:D1 l=true)(hp:t0 p)(h:((N9 l p).2.2==3)=false):D1 (N9 l p).1=true:=by
 have hr:=c3m hl hp;unfold N9 at h⊢;cases hc:(C2 l p).Code==3
 ·rw [f8w];exact b6Q hl hr.puts
 ·rw [hc,f8v] at h;cases h
def a3C:List (List n9)->List n8->List Int->List n8×List Int
 | [],b,vs=>(b,vs)
 | p::ps,b,vs=>bif (N9 b p).2.2==3 then ([],[]) else a3C ps (N9 b p).1 (vs++[(N9 b p).2.1])
def O1(l:List n8)(progs:List (List n9)):List n8×List Int:=bif D1 l&&decide (progs.length<=100) then a3C progs l [] else ([],[])
theorem e8k{l:List Int}(h:l.length<=1000):b7Z l=some l:=by
 unfold b7Z;cases hl:((l.length:Int)==0)
 ·rw [f8w,v6 (by constructor<;>omega),v6 (by simp)]
 ·simp only [beq_iff_eq] at hl;have:l=[]:=f6m (by omega);rw [this];rfl
theorem e0Y{progs:List (List n9)}(hp:∀p∈progs,t0 p)(hn:progs.length<=100):∀(m k:Nat) (b:List n8) (vs:List Int),k+m=progs.length->D1 b=true->vs.length=k->
  ((o9 (fun s:(List Int)×Int×List n8=>b0A progs s.1 s.2.1 s.2.2) (vs,(k:Int),b)).bind fun x=>x.go (fun r=>some r) fun s=>b6I s.1 s.2)=some (a3C (progs.drop k) b vs):=by
 intro m;induction m with
 | zero=>
  intro k b vs hk hb hv;have:k=progs.length:=by omega
  subst this;rw [List.drop_length,C8 (b:=(vs,b))]
  ·simp only [f5Y,m5.go];unfold b6I;rw [e8k (by omega)];rfl
  ·unfold b0A;simp only [z9];rfl
 | succ m ih=>
  intro k b vs hk hb hv;have hlt:k<progs.length:=by omega
  have hpk:=hp _ (f6c hlt);have n1:(vs.length+1)*8<=140737488355328:=by omega
  have hw:m8 ((k:Int)+1)=((k+1:Nat):Int):=by rw [C5 (by omega) (by omega)];rfl
  have hb1:b0A progs vs (k:Int) b=some (bif (N9 b progs[k]).2.2==3 then .ret ([],[]) else .nxt (vs++[(N9 b progs[k]).2.1],((k+1:Nat):Int),(N9 b progs[k]).1)):=by
   unfold b0A;simp only [x7 _ k hlt,t9 hlt,f8v,f5Y,f1l (a4z hb) hpk,v6 n1,hw];cases (N9 b progs[k]).2.2==3<;>rfl
  rw [f6w hlt];unfold a3C;cases hc:(N9 b progs[k]).2.2==3
  ·rw [hc,f8w] at hb1;rw [D9 hb1,f8w];exact ih (k+1) _ _ (by omega) (c8d hb hpk hc) (by simp;omega)
  ·rw [hc,f8v] at hb1;rw [X4 hb1];rfl
theorem e3b{l:List n8}{progs:List (List n9)}(hl:t0 l)(hp:∀p∈progs,t0 p):b8o l progs=some (O1 l progs):=by
 unfold b8o O1;rw [b2L hl,f5Y];cases hb:D1 l
 ·rfl
 rw [f6f,f8w,f6n];by_cases hn:progs.length<=100
 ·have h1:¬((progs.length:Int)>100):=by omega
  rw [decide_eq_false h1,f8w,decide_eq_true hn,f8v,c3D (by rw [a7K hb];decide),f5Y];have:=e0Y hp hn progs.length 0 l [] (by omega) hb rfl;rwa [f7t] at this
 ·have h1:(progs.length:Int)>100:=by omega
  rw [decide_eq_true h1,decide_eq_false hn];rfl
def b59(w:m4)(q:o7):Option x6:=w.d7.find? fun a=>(([a.a0.c8,a.a0.Seq]:List Int)==[q.c8,q.Seq])
def Z7(w:m4)(q:o7):List n9×Bool:=match b59 w q with
 | some a=>(a.i7,true)
 | none=>([],false)
theorem e2S{l:List n9}(h:l.length*32<=140737488351232):a9c l=some l:=by
 unfold a9c;cases hl:((l.length:Int)==0)
 ·rw [f8w,v6 (by constructor<;>omega),v6 (by simp)]
 ·simp only [beq_iff_eq] at hl;have:l=[]:=f6m (by omega);rw [this];rfl
theorem c9r{w:m4}(h:R2 w){a:x6}(ha:a∈w.d7):a.i7.length*32<=140737488351232:=(h.2.2.1.2 a ha).2.1
theorem d9D{w:m4}(h:R2 w)(q:o7):b7L w q=some (Z7 w q):=by
 have hf:t0 w.d7:=h.2.2.1.fits (by decide);unfold b7L Z7 b59;rw [b9f w.d7 hf (fun a=>(([a.a0.c8,a.a0.Seq]:List Int)==[q.c8,q.Seq])) (fun a=>(a.i7,true)) ()]
 ·cases w.d7.find? (fun a=>(([a.a0.c8,a.a0.Seq]:List Int)==[q.c8,q.Seq]))<;>rfl
 ·intro k hk;have:=c9r h (f6c hk);unfold b8U;rw [x7 _ k hk,t9 hk];simp only [f8v,f5Y,e2S this];cases (([w.d7[k].a0.c8,w.d7[k].a0.Seq]:List Int)==[q.c8,q.Seq])<;>rfl
 ·unfold b8U;rw [z9];rfl
theorem d7w{w:m4}(h:R2 w)(q:o7):t0 (Z7 w q).1:=by
 unfold Z7 b59;cases hf:w.d7.find? (fun a=>(([a.a0.c8,a.a0.Seq]:List Int)==[q.c8,q.Seq])) with
 | none=>simp [t0]
 | some a=>
  have:=c9r h (f8r hf);show a.i7.length<=_
  omega
def a3J(w:m4):List o7->List (List n9)->Option (List (List n9))
 | [],o=>some o
 | q::qs,o=>bif (Z7 w q).2 then a3J w qs (o++[(Z7 w q).1]) else none
theorem d6X{w:m4}(h:R2 w):∀{qs:List o7} {o ps:List (List n9)},a3J w qs o=some ps->(∀p∈o,t0 p)->∀p∈ps,t0 p
 | [],o,ps,hs,ho=>by
  injection hs with hs;subst hs;exact ho
 | q::qs,o,ps,hs,ho=>by
  unfold a3J at hs;cases hq:(Z7 w q).2
  ·rw [hq] at hs;cases hs
  ·rw [hq,f8v] at hs;refine d6X h hs fun p hp => ?_
   rcases f6b.1 hp with hp|hp
   ·exact ho p hp
   ·rw [f6h.1 hp];exact d7w h q
def a9Y(a b:List n8):Bool:=(a.length==b.length)&&(f6i a.length).all fun k=>match a[k]?,b[k]? with
 | some x,some y=>(([x.j5,x.g7]:List Int)==[y.j5,y.g7])
 | _,_=>false
theorem f3Z{a b:List n8}(h:t0 a):b9V a b=some (a9Y a b):=by
 unfold b9V c0o a9Y;rw [b6T];cases hl:a.length==b.length
 ·rfl
 have hl:a.length=b.length:=by simpa using hl
 rw [f6f,f8w,f6n,a2q a h (fun k=>match a[k]?,b[k]? with|some x,some y=>(([x.j5,x.g7]:List Int)==[y.j5,y.g7])|_,_=>false) false ()]
 ·cases (f6i a.length).all _<;>rfl
 ·intro k hk _;unfold b4V;rw [x7 _ k hk,t9 hk,t9 (hl▸hk),f5Z hk,f5Z (hl▸hk)];simp only [f8v,f5Y];cases (([a[k].j5,a[k].g7]:List Int)==[(b[k]'(hl▸hk)).j5,(b[k]'(hl▸hk)).g7])<;>rfl
 ·unfold b4V;rw [z9];rfl
theorem f1J{s:u7}{e:m6}(h:e.i8=true):(apply s e).2=5:=by
 unfold apply;rw [h];rfl
theorem c6n{l:List m6}(hl:l.length<=40)(he:l.all z5=true):∀k,k<=l.length->∀q∈told l (s5 l).2 k,∃e∈l,F4 q e=true
 | 0,_,q,hq=>by cases hq
 | k+1,hk,q,hq=>by
  have h1:k<l.length:=by omega
  have hlen:=(T2 hl he l.length (f6s _)).2.1;rw [f6u] at hlen;have h2:k<(s5 l).2.length:=by omega
  unfold told at hq;rcases f6b.1 hq with hq|hq
  ·exact c6n hl he k (by omega) q hq
  ·rw [b7y h1 h2] at hq;cases hc:(s5 l).2[k]==0
   ·rw [hc] at hq;cases hq
   ·rw [hc,f8v,f6h] at hq;refine ⟨l[k],f6c h1,?_⟩;have hco:=b4L hl he h1;rw [f5Z h2] at hco;have hco:=f7h hco;rw [hq];unfold F4;cases hn:l[k].i8
    ·simp
    ·rw [f1J hn] at hco;rw [hco] at hc;cases hc
theorem f1O{l:List m6}{q:o7}(hq:q∈C3 l):∃i,∃h:i<l.length,l.findIdx? (F4 q)=some i:=by
 unfold C3 at hq;cases hok:G6 l
 ·rw [hok] at hq;cases hq
 ·rw [hok,f8v] at hq;obtain ⟨hl,he⟩:=a07 hok;obtain ⟨e,h1,h2⟩:=c6n hl he _ (f6s _) q hq;cases hf:l.findIdx? (F4 q) with
  | none=>
   have:=(f7Q.1 hf) e h1;rw [h2] at this;cases this
  | some i=>exact ⟨i,(f6Y.1 hf).1,rfl⟩
def U2(l:List m6)(q:o7):Int:=match l.findIdx? (F4 q) with
 | some k=>(match l[k]? with|some e=>e.b8.g7|none=>0)
 | none=>0
def c4w(l:List m6)(done:List o7)(vals:List Int):Bool:=(f6i done.length).all fun i=>match vals[i]?,done[i]? with
 | some v,some q=>v==U2 l q
 | _,_=>false
def a1h:List n8:=f6a 4 ⟨0,0⟩
def c08(l:List m6)(ps:List (List n9)):Bool:=
 ((O1 a1h ps).2.length==(C3 l).length)&&(a9Y (O1 a1h ps).1 (s5 l).1.g9&&c4w l (C3 l) (O1 a1h ps).2)
def a7Z(w:m4):Bool:=B6 w&&match a3J w (C3 (z0 w)) [] with
 | some ps=>c08 (z0 w) ps
 | none=>false
theorem c3Y:D1 a1h=true:=by decide
theorem c6Y:∀{ps:List (List n9)} {b:List n8} {vs:List Int},D1 b=true->(∀p∈ps,t0 p)->t0 (a3C ps b vs).1
 | [],b,vs,hb,_=>a4z hb
 | p::ps,b,vs,hb,hp=>by
  unfold a3C;cases hc:(N9 b p).2.2==3
  ·rw [f8w];exact c6Y (c8d hb (hp p (by simp)) hc) fun q hq=>hp q (by simp [hq])
  ·simp [t0]
theorem d74{ps:List (List n9)}(hp:∀p∈ps,t0 p):t0 (O1 a1h ps).1:=by
 unfold O1;cases (D1 a1h&&decide (ps.length<=100))
 ·simp [t0]
 ·exact c6Y c3Y hp
theorem e5H{w:m4}(h:R2 w){lg:List m6}{l:List o7}(hl:l.length<=1000):∀(m k:Nat) (o:List (List n9)),k+m=l.length->o.length=k->
  ((o9 (fun s:(List (List n9))×Int=>a6n w l s.1 s.2) (o,(k:Int))).bind fun x=>x.go (fun r=>some r) fun s=>b2C lg l s)=(match a3J w (l.drop k) o with|some ps=>b2C lg l ps|none=>some false):=by
 intro m;induction m with
 | zero=>
  intro k o hk ho;have:k=l.length:=by omega
  subst this;rw [List.drop_length,C8 (b:=o)]
  ·rfl
  ·unfold a6n;simp only [z9];rfl
 | succ m ih=>
  intro k o hk ho;have hlt:k<l.length:=by omega
  have n1:(o.length+1)*24<=140737488355328:=by omega
  have hw:m8 ((k:Int)+1)=((k+1:Nat):Int):=by rw [C5 (by omega) (by omega)];rfl
  have hb1:a6n w l o (k:Int)=some (bif (Z7 w l[k]).2 then .nxt (o++[(Z7 w l[k]).1],((k+1:Nat):Int)) else .ret false):=by
   unfold a6n;simp only [x7 _ k hlt,t9 hlt,f8v,f5Y,d9D h,v6 n1,hw];cases (Z7 w l[k]).2<;>rfl
  rw [f6w hlt];unfold a3J;cases hc:(Z7 w l[k]).2
  ·rw [hc,f8w] at hb1;rw [X4 hb1];rfl
  ·rw [hc,f8v] at hb1;rw [D9 hb1,f8v];exact ih (k+1) _ (by omega) (by simp;omega)
theorem e6g:b4d=some a1h:=rfl
theorem f3o{w:m4}(h:R2 w):c0b w=some (a7Z w):=by
 unfold c0b a7Z;rw [a5q h,f5Y];cases hw:B6 w
 ·rfl
 obtain ⟨h0,hlo,hok⟩:=d0x h hw;have hi:=d5f h h0;obtain ⟨hl,he⟩:=a07 hok;have hf:=okEntries.f hlo;have hfl:t0 (z0 w):=hlo.fits (by decide);have hd:(C3 (z0 w)).length<=40:=by
  unfold C3;rw [hok];exact d5s hl he (f6s _)
 have hdf:t0 (C3 (z0 w)):=e1n _;simp only [f6f,f8w,hi,f5Y,f0n hf,f6n];have hpg:=e5H h (lg:=z0 w) (l:=C3 (z0 w)) (by omega) (C3 (z0 w)).length 0 [] (by omega) rfl;rw [f7t] at hpg;rw [show o9 (fun s:(List (List n9))×Int=>a6n w (C3 (z0 w)) s.1 s.2) ([],0)=o9 (fun s:(List (List n9))×Int=>a6n w (C3 (z0 w)) s.1 s.2) ([],((0:Nat):Int)) from rfl,hpg];cases hps:a3J w (C3 (z0 w)) [] with
 | none=>rfl
 | some ps=>
  have hpf:=d6X h hps (by simp);simp only;unfold b2C;simp only [e6g,f5Y,e3b (a4z c3Y) hpf,d0b hf,hok,f8v,f3Z (d74 hpf),b6T];unfold c08;cases a9Y (O1 a1h ps).1 (s5 (z0 w)).1.g9
  ·simp
  cases hle:(O1 a1h ps).2.length==(C3 (z0 w)).length
  ·rfl
  have hle:(O1 a1h ps).2.length=(C3 (z0 w)).length:=by simpa using hle
  simp only [f6f,f8w,f6n];unfold c4w;rw [a2q (C3 (z0 w)) hdf (fun i=>match (O1 a1h ps).2[i]?,(C3 (z0 w))[i]? with|some v,some q=>v==U2 (z0 w) q|_,_=>false) false ()]
  ·cases (f6i (C3 (z0 w)).length).all _<;>rfl
  ·intro k hk _;obtain ⟨i,hi,hfi⟩:=f1O (f6c hk);unfold b8P U2;rw [x7 _ k hk,t9 hk,t9 (hle▸hk),f5Z hk,f5Z (hle▸hk)];simp only [f8v,f5Y,b11 hfl,hfi,t9 hi,f5Z hi];rw [bne];cases ((O1 a1h ps).2[k]'(hle▸hk))==(z0 w)[i].b8.g7<;>rfl
  ·unfold b8P;rw [z9];rfl
theorem c8W{α β:Type}{a:List α}{b:List β}(h:t0 a):t0 (a.zip b):=by
 unfold t0 at h⊢;rw [List.length_zip];omega
theorem b6v{α β:Type}{a:List α}{b:List β}{k:Nat}(hk:k<(a.zip b).length):∃ (h1:k<a.length) (h2:k<b.length),(a.zip b)[k]=(a[k],b[k]):=by
 rw [List.length_zip] at hk;exact ⟨by omega,by omega,by simp⟩
theorem e7h{α β:Type}(a:List α)(b:List β):decide (((a.zip b).length:Int)<(a.length:Int))=true->decide (((a.zip b).length:Int)<(b.length:Int))=false:=by
 rw [List.length_zip];simp only [decide_eq_true_eq,decide_eq_false_iff_not];omega
theorem c6Q{α β R S:Type}(a:List α)(b:List β)(X:Option (l7 R S Unit)):(bif decide (((a.zip b).length:Int)<(a.length:Int)) then (bif decide (((a.zip b).length:Int)<(b.length:Int)) then X else some (.brk ())) else some (.brk ()))=some (.brk ()):=by
 cases h:decide (((a.zip b).length:Int)<(a.length:Int))
 ·rfl
 ·rw [e7h a b h];rfl
def beg(a b:List m6):Bool:=(a.zip b).all fun p=>M9 p.1 p.2
theorem e5K{x y:j7}(ha:A3 88 E9 x.a5):o9 (fun s:Int=>b1t x y s) 0=some (bif beg x.a5 y.a5 then .brk () else .ret false):=by
 rw [K9 (x.a5.zip y.a5) (c8W (ha.fits (by decide))) (fun p=>M9 p.1 p.2) false ()]
 ·rfl
 ·intro k hk;obtain ⟨h1,h2,e⟩:=b6v hk;unfold b1t;rw [x7 _ k h1,x7 _ k h2,t9 h1,t9 h2,e];simp only [f8v,f5Y,a6K (ha.2 _ (f6c h1))];cases M9 x.a5[k] y.a5[k]<;>rfl
 ·unfold b1t;exact c6Q _ _ _
theorem f0r{w:m4}(h:R2 w):b1N w=some (B6 w&&w.a6.all fun a=>w.a6.all fun b=>beg a.a5 b.a5):=by
 have hf:t0 w.a6:=h.1.fits (by decide);have hin:∀a:j7,P6 a->o9 (fun s:Int=>b3Y w a s) 0=some (bif w.a6.all (fun b=>beg a.a5 b.a5) then .brk () else .ret false):=by
  intro a ha;refine K9 w.a6 hf (fun b=>beg a.a5 b.a5) false () ?_ ?_
  ·intro k hk;unfold b3Y;rw [x7 _ k hk,t9 hk];simp only [f8v,f5Y];rw [e5K ha.2.2.1];cases beg a.a5 w.a6[k].a5<;>rfl
  ·unfold b3Y;rw [z9];rfl
 unfold b1N;rw [a5q h,f5Y];cases B6 w
 ·rfl
 ·simp only [f6f,f8w,f6n];rw [K9 w.a6 hf (fun a=>w.a6.all fun b=>beg a.a5 b.a5) false ()]
  ·cases w.a6.all (fun a=>w.a6.all fun b=>beg a.a5 b.a5)<;>rfl
  ·intro k hk;unfold b6p;rw [x7 _ k hk,t9 hk];simp only [f8v,f5Y];rw [hin _ (h.1.2 _ (f6c hk))];cases w.a6.all (fun b=>beg w.a6[k].a5 b.a5)<;>rfl
  ·unfold b6p;rw [z9];rfl
theorem f1D{a b:List m6}:beg a b=true ↔ ∀(i:Nat) (h1:i<a.length) (h2:i<b.length),a[i]=b[i]:=by
 unfold beg;rw [f6e];constructor
 ·intro h i h1 h2;have:=h (a[i],b[i]) (List.mem_iff_getElem.2 ⟨i,by rw [List.length_zip];omega,by simp⟩);exact (a1b _ _).1 this
 ·intro h p hp;obtain ⟨i,hi,rfl⟩:=f6Q hp;obtain ⟨h1,h2,e⟩:=b6v hi;rw [e];exact (a1b _ _).2 (h i h1 h2)
abbrev zV:m9:=⟨0,zE⟩
def S7(n:j7)(k:Nat):m9:=n.Acc.a7[k]?.getD zV
def f5U(a b:m9):Bool := !(decide (a.a8>0)&&((a.a8==b.a8) && !M9 a.i0 b.i0))
def a1E(a b:m9):Bool := !((a.a8 != 0)&&((a.a8==b.a8) && !M9 a.i0 b.i0))
theorem e0y{w:m4}(h:R2 w):b19 w=some (B6 w&&w.a6.all fun a=>w.a6.all fun b=>(a.Acc.a7.zip b.Acc.a7).all fun p=>a1E p.1 p.2):=by
 have hf:t0 w.a6:=h.1.fits (by decide);have hv:∀x y:j7,P6 x->o9 (fun s:Int=>b3x x y s) 0=some (bif (x.Acc.a7.zip y.Acc.a7).all (fun p=>a1E p.1 p.2) then .brk () else .ret false):=by
  intro x y hx;refine K9 (x.Acc.a7.zip y.Acc.a7) (c8W (hx.2.1.2.fits (by decide))) (fun p=>a1E p.1 p.2) false () ?_ ?_
  ·intro k hk;obtain ⟨h1,h2,e⟩:=b6v hk;unfold b3x c3t;rw [x7 _ k h1,x7 _ k h2,t9 h1,t9 h2,e];simp only [f8v,f5Y,a6K (hx.2.1.2.2 _ (f6c h1)).2];unfold a1E;cases (x.Acc.a7[k].a8 != 0)<;>cases (x.Acc.a7[k].a8==y.Acc.a7[k].a8)<;>cases M9 x.Acc.a7[k].i0 y.Acc.a7[k].i0<;>rfl
  ·unfold b3x;exact c6Q _ _ _
 have hin:∀a:j7,P6 a->o9 (fun s:Int=>b2F w a s) 0=some (bif w.a6.all (fun b=>(a.Acc.a7.zip b.Acc.a7).all fun p=>a1E p.1 p.2) then .brk () else .ret false):=by
  intro a ha;refine K9 w.a6 hf (fun b=>(a.Acc.a7.zip b.Acc.a7).all fun p=>a1E p.1 p.2) false () ?_ ?_
  ·intro k hk;unfold b2F c5g;rw [x7 _ k hk,t9 hk];simp only [f8v,f5Y];rw [hv a _ ha];cases (a.Acc.a7.zip w.a6[k].Acc.a7).all (fun p=>a1E p.1 p.2)<;>rfl
  ·unfold b2F;rw [z9];rfl
 unfold b19;rw [a5q h,f5Y];cases B6 w
 ·rfl
 ·simp only [f6f,f8w,f6n];rw [K9 w.a6 hf (fun a=>w.a6.all fun b=>(a.Acc.a7.zip b.Acc.a7).all fun p=>a1E p.1 p.2) false ()]
  ·cases w.a6.all (fun a=>w.a6.all fun b=>(a.Acc.a7.zip b.Acc.a7).all fun p=>a1E p.1 p.2)<;>rfl
  ·intro k hk;unfold b8f c5K;rw [x7 _ k hk,t9 hk];simp only [f8v,f5Y];rw [hin _ (h.1.2 _ (f6c hk))];cases w.a6.all (fun b=>(w.a6[k].Acc.a7.zip b.Acc.a7).all fun p=>a1E p.1 p.2)<;>rfl
  ·unfold b8f;rw [z9];rfl
theorem e9J{a b:m9}:a1E a b=true↔(a.a8≠0->a.a8=b.a8->a.i0=b.i0):=by
 unfold a1E;rw [f6J,<-f8m,f6d,f6d,f6J,<-f8m,a1b,bne_iff_ne,beq_iff_eq];constructor
 ·intro h h1 h2;exact f8q fun q=>h ⟨h1,h2,q⟩
 ·rintro h ⟨h1,h2,h3⟩
  exact h3 (h h1 h2)
def b8D(n:j7):Bool:=bif n.d8 != 3 then true else decide ((S7 n n.a5.length).a8>=n.a8)&&(decide ((S7 n n.a5.length).a8>n.a8)||M9 (S7 n n.a5.length).i0 n.d6)
def other(a b:j7):Bool := !(decide (a.a8>0)&&(a.a8==b.a8))
def a87(a b:j7):Bool := !((a.a8 != 0)&&(a.a8==b.a8))
def b0s(w:m4)(i:Nat):Bool:=match w.a6[i]? with
 | some n=>b8D n&&(w.a6.take i).all (other n)
 | none=>true
def a9g(n:j7):Bool:=bif n.d8 != 3 then true else bif decide ((n.a5.length:Int)>=(n.Acc.a7.length:Int)) then false else
 !decide ((S7 n n.a5.length).a8<n.a8) && !(((S7 n n.a5.length).a8==n.a8) && !M9 (S7 n n.a5.length).i0 n.d6)
def a7g(w:m4)(i:Nat):Bool:=match w.a6[i]? with
 | some n=>(w.a6.drop (i+1)).all (a87 n)&&a9g n
 | none=>true
theorem e04{w:m4}(h:R2 w):b4G w=some (B6 w&&(f6i w.a6.length).all (a7g w)):=by
 have hf:t0 w.a6:=h.1.fits (by decide);have hin:∀(i:Nat) (hi:i<w.a6.length) (a:j7),o9 (fun t:Int=>b1O w (i:Int) a t) 0=some (bif (w.a6.drop (i+1)).all (a87 a) then .brk () else .ret false):=by
  intro i hi a;have e:(m8 ((i:Int)+1)).toNat=i+1:=by rw [F6 hf hi];rfl
  have e2:((w.a6.drop (i+1)).take (w.a6.length-(i+1)))=w.a6.drop (i+1):=by rw [<-f7W,f6u]
  have hfd:t0 (w.a6.drop (i+1)):=by
   unfold t0 at hf⊢;rw [f7W];omega
  refine K9 (w.a6.drop (i+1)) hfd (a87 a) false () ?_ ?_
  ·intro k hk;unfold b1O c5h;rw [e,e2,x7 _ k hk,t9 hk];simp only [f8v,f5Y];unfold a87;cases (a.a8 != 0)<;>cases (a.a8==(w.a6.drop (i+1))[k].a8)<;>rfl
  ·unfold b1O;rw [e,e2,z9];rfl
 unfold b4G;rw [a5q h,f5Y];cases B6 w
 ·rfl
 ·simp only [f6f,f8w,f6n];rw [a2q w.a6 hf (a7g w) false ()]
  ·cases (f6i w.a6.length).all (a7g w)<;>rfl
  ·intro k hk _;have hok:=h.1.2 _ (f6c hk);have hk6:b64 (k:Int) w.a6[k]=some (bif a9g w.a6[k] then .nxt (m8 ((k:Int)+1)) else .ret false):=by
    unfold b64 c1t a9g;cases (w.a6[k].d8 != 3)
    ·simp only [f8w];by_cases hl:w.a6[k].a5.length<w.a6[k].Acc.a7.length
     ·rw [show decide ((w.a6[k].a5.length:Int)>=(w.a6[k].Acc.a7.length:Int))=false from by simpa using hl,t9 hl];have ev:S7 w.a6[k] w.a6[k].a5.length=w.a6[k].Acc.a7[w.a6[k].a5.length]:=by unfold S7;rw [f5Z hl];rfl
      rw [ev];simp only [f8w,f5Y,a6K (hok.2.1.2.2 _ (f6c hl)).2];cases decide (w.a6[k].Acc.a7[w.a6[k].a5.length].a8<w.a6[k].a8)<;>cases (w.a6[k].Acc.a7[w.a6[k].a5.length].a8==w.a6[k].a8)<;>cases M9 w.a6[k].Acc.a7[w.a6[k].a5.length].i0 w.a6[k].d6<;>rfl
     ·rw [show decide ((w.a6[k].a5.length:Int)>=(w.a6[k].Acc.a7.length:Int))=true from by simp;omega];rfl
    ·rfl
   unfold b61 a7g;rw [x7 _ k hk,t9 hk,f5Z hk];simp only [f8v,f5Y];rw [v6 (by rw [F6 hf hk];omega),hin k hk,hk6];cases (w.a6.drop (k+1)).all (a87 w.a6[k])<;>cases a9g w.a6[k]<;>rfl
  ·unfold b61;rw [z9];rfl
theorem c5b{a b:j7}:other a b=true ↔ ¬(0<a.a8/\a.a8=b.a8):=by
 unfold other;rw [f6J,<-f8m,f6d,decide_eq_true_eq,beq_iff_eq]
theorem d2k{a b:j7}:a87 a b=true ↔ ¬(a.a8≠0/\a.a8=b.a8):=by
 unfold a87;rw [f6J,<-f8m,f6d,bne_iff_ne,beq_iff_eq]
theorem c67{n:j7}(h:D6 n=true):a9g n=b8D n:=by
 unfold b8D a9g;cases hp:(n.d8 != 3)
 ·simp only [f8w];have hb:=(c7U (b34 h).1 (b34 h).2.2.2.1).2 (by simpa [bne] using hp);by_cases hl:n.a5.length<n.Acc.a7.length
  ·rw [show decide ((n.a5.length:Int)>=(n.Acc.a7.length:Int))=false from by simpa using hl,f8w];rw [f7A];generalize S7 n n.a5.length=v;cases M9 v.i0 n.d6
   ·simp<;>omega
   ·simp<;>omega
  ·rw [show decide ((n.a5.length:Int)>=(n.Acc.a7.length:Int))=true from by simp;omega,f8v];have:S7 n n.a5.length=zV:=by unfold S7;rw [f6z (by omega)];rfl
   rw [this,show decide ((zV.a8)>=n.a8)=false from by simp;omega];try rfl
 ·rfl
theorem d9E{w:m4}(hw:B6 w=true):((f6i w.a6.length).all (a7g w))=((f6i w.a6.length).all (b0s w)):=by
 rw [f7A];have hn:=(c7v hw).2;have hb:∀n∈w.a6,0<=n.a8:=fun n hm=>(c7U (b34 (hn n hm)).1 (b34 (hn n hm)).2.2.2.1).1
 simp only [f6e,f7m];constructor
 ·intro q i hi;have qi:=q i hi;unfold a7g at qi;unfold b0s;rw [f5Z hi] at qi⊢;simp only [f6d] at qi⊢;refine ⟨by rw [<-c67 (hn _ (f6c hi))];exact qi.2,?_⟩;rw [f6e];intro m hm;obtain ⟨k,hk,rfl⟩:=f6Q hm;rw [f6t] at hk;rw [List.getElem_take,c5b];have hkl:k<w.a6.length:=by omega
  have qk:=q k hkl;unfold a7g at qk;rw [f5Z hkl] at qk;simp only [f6d] at qk;have:=d2k.1 (f6e.1 qk.1 w.a6[i] (List.mem_iff_getElem.2 ⟨i-(k+1),by rw [f7W];omega,by simp only [List.getElem_drop];congr 1;omega⟩));rintro ⟨h1,h2⟩
  exact this ⟨by omega,h2.symm⟩
 ·intro q i hi;have qi:=q i hi;unfold b0s at qi;unfold a7g;rw [f5Z hi] at qi⊢;simp only [f6d] at qi⊢;refine ⟨?_,by rw [c67 (hn _ (f6c hi))];exact qi.1⟩;rw [f6e];intro m hm;obtain ⟨k,hk,rfl⟩:=f6Q hm;rw [f7W] at hk;rw [List.getElem_drop,d2k];have hkl:i+1+k<w.a6.length:=by omega
  have qk:=q (i+1+k) hkl;unfold b0s at qk;rw [f5Z hkl] at qk;simp only [f6d] at qk;have:=c5b.1 (f6e.1 qk.2 w.a6[i] (List.mem_iff_getElem.2 ⟨i,by rw [f6t];omega,by simp⟩));rintro ⟨h1,h2⟩
  have:=hb _ (f6c hi);omega
theorem e6K(a b:o7):(([a.c8,a.Seq]:List Int)==[b.c8,b.Seq])=(H5 a==H5 b):=rfl
def a6u(l:List n5)(i:Nat):Bool:=match l[i]? with
 | some t=>(f6i i).all fun k=>match l[k]? with
  | some s => !(H5 s.a0==H5 t.a0)
  | none=>true
 | none=>true
theorem d6g{l:List n5}{i:Nat}(h:i<l.length):a6u l i = !((l.take i).any fun s=>H5 s.a0==H5 l[i].a0):=by
 unfold a6u;rw [f5Z h];simp only;rw [f7A,f6e,f6J,f6O];constructor
 ·intro hh s hs;obtain ⟨k,hk,rfl⟩:=f6Q hs;rw [f6t] at hk;have:=hh k (by simp;omega);rw [f5Z (by omega)] at this;simpa using this
 ·intro hh k hk;have hk:k<i:=by simpa using hk
  rw [f5Z (show k<l.length by omega)];have:=hh l[k] (f7f.2 ⟨k,by omega,rfl⟩);simpa using this
def b8O(l:List n5):Bool:=(f6i l.length).all (a6u l)
theorem e2g{l:List o7}{y:o7}(h:(l.any fun x=>H5 y==H5 x)=false):a8S H5 l y=l++[y]:=by
 unfold a8S;rw [if_neg (by rw [h];simp)]
theorem d7H{w:m4}(h:R2 w):b3N w=some (B6 w&&b8O w.Told):=by
 have hf:t0 w.Told:=h.2.2.2.fits (by decide);unfold b3N;rw [a5q h,f5Y];cases B6 w
 ·rfl
 rw [f6f,f8w,f6n];have hc:=a5z (body:=fun s:(List o7)×Int=>b4r w s.1 s.2) (fun k=>((w.Told.take k).map (·.a0),(k:Int))) w.Told.length (a6u w.Told) (fun _=>false) () (by
  intro k hk _;unfold b4r;simp only [x7 _ k hk,f8v,t9 hk,f5Y,F6 hf hk];have he:(((w.Told.take k).map (·.a0)).any fun x=>H5 w.Told[k].a0==H5 x) = !a6u w.Told k:=by
   rw [d6g hk,f8t,List.any_map];congr 1
   funext s
   show (H5 w.Told[k].a0==H5 s.a0)=_
   rw [f7A,beq_iff_eq,beq_iff_eq];exact eq_comm
  rw [he];cases ho:a6u w.Told k
  ·rfl
  ·rw [ho] at he;rw [e2g he,f6C hk,f7q];rfl) (by
  intro _;unfold b4r;simp only [z9];rfl)
 rw [f6R,List.map_nil,show ((0:Nat):Int)=0 from rfl] at hc;unfold b8O;rcases hc with ⟨hc,hall⟩|⟨k,hk,ho,_,hc⟩
 ·rw [hc,show (f6i w.Told.length).all (a6u w.Told)=true from f6e.2 fun k hk=>hall k (by simpa using hk)];rfl
 ·rw [hc,show (f6i w.Told.length).all (a6u w.Told)=false from f7M.2 ⟨k,by simpa using hk,by rw [ho];simp⟩];rfl
theorem b9i{α:Type}{p q:α->Bool}(h:∀x,p x=true->q x=true):∀l:List α,(l.filter q).find? p=l.find? p
 | []=>rfl
 | x::l=>by
  cases hq:q x with
  | true=>
   rw [List.filter_cons_of_pos hq,f7K,f7K,b9i h l]
  | false=>
   have hp:p x=false:=by
    cases hp:p x with
    | false=>rfl
    | true=>rw [h x hp] at hq;cases hq
   rw [List.filter_cons_of_neg (by simp [hq]),f7K,hp,b9i h l]
theorem c38{α:Type}{p q:α->Bool}(h:∀x,p x=true->q x=false)(l:List α):(l.filter q).find? p=none:=by
 rw [f8s];intro x hx;have hq:=(f7g.1 hx).2;intro hp;rw [h x hp] at hq;cases hq
theorem c1j{l:List s7}(h:a3l l)(d:s7)(w:Int):(a0x l d).find? (fun x=>x.a0.c8==w)=bif d.a0.c8==w then some d else l.find? (fun x=>x.a0.c8==w):=by
 rw [b99 d h,List.find?_append,f7K];by_cases hw:d.a0.c8=w
 ·subst hw;rw [c38 (by intro x hx;simp at hx;simp;omega)];simp
 ·have hne:(d.a0.c8==w)=false:=by simpa using hw
  rw [hne];simp only [f8w];by_cases hlt:w<d.a0.c8
  ·rw [b9i (by intro x hx;simp at hx;simp;omega),c38 (by intro x hx;simp at hx;simp;omega),Option.or_none]
  ·rw [c38 (by intro x hx;simp at hx;simp;omega),b9i (by intro x hx;simp at hx;simp;omega),Option.none_or]
def a0w(s:u7)(w:Int):Option s7:=s.j4.find? (fun x=>x.a0.c8==w)
theorem d5c{s:u7}{k:Nat}{e:m6}(hs:Y0 s k)(w:Int):∃d,d.a0=e.a0/\a0w (O0 s e).1 w=bif e.a0.c8==w then some d else a0w s w:=by
 unfold O0 a0w;cases a0V s.g9 e.b8
 ·exact ⟨⟨e.a0,1,0⟩,rfl,c1j hs.sorted _ w⟩
 ·cases e.b8.Code==0
  ·exact ⟨⟨e.a0,2,0⟩,rfl,c1j hs.sorted _ w⟩
  ·exact ⟨⟨e.a0,0,e.b8.g7⟩,rfl,c1j hs.sorted _ w⟩
theorem e0w{s:u7}{k:Nat}{e:m6}(hs:Y0 s k)(hn:e.i8=false):∃d,a0w (apply s e).1 e.a0.c8=some d/\e.a0.Seq<=d.a0.Seq:=by
  obtain ⟨d,h1,h2⟩:=d5c (e:=e) hs e.a0.c8;rw [beq_self_eq_true,f8v] at h2;have hfr:∃d,a0w (O0 s e).1 e.a0.c8=some d/\e.a0.Seq<=d.a0.Seq:=⟨d,h2,by rw [h1];exact f6B _⟩
  unfold apply;rw [hn,f8w];cases hf:s.j4.find? fun d=>d.a0.c8==e.a0.c8 with
  | none=>exact hfr
  | some d=>
    simp only;cases h3:d.a0.Seq==e.a0.Seq
    · by_cases h4:d.a0.Seq>e.a0.Seq
      · simp only [h4,decide_true,f8v,f8w];exact ⟨d,hf,by omega⟩
      · simp only [h4,decide_false,f8w];exact hfr
    · exact ⟨d, hf, by have:d.a0.Seq=e.a0.Seq:=by simpa using h3
                       omega⟩
theorem f2J{s:u7}{k:Nat}{e:m6}(hs:Y0 s k){w:Int}{d:s7}(hd:a0w s w=some d):∃d',a0w (apply s e).1 w=some d'/\d.a0.Seq<=d'.a0.Seq:=by
 have same:∃d',a0w s w=some d'/\d.a0.Seq<=d'.a0.Seq:=⟨d,hd,f6B _⟩
 have hfr:(∀d',a0w s e.a0.c8=some d'->d'.a0.Seq<=e.a0.Seq)->∃d',a0w (O0 s e).1 w=some d'/\d.a0.Seq<=d'.a0.Seq:=by
  intro hle;obtain ⟨d2,h1,h2⟩:=d5c (e:=e) hs w;by_cases hw:e.a0.c8=w
  ·subst hw;rw [beq_self_eq_true,f8v] at h2;exact ⟨d2,h2,by rw [h1];exact hle d hd⟩
  ·have:(e.a0.c8==w)=false:=by simpa using hw
   rw [this,f8w] at h2;exact ⟨d,h2.trans hd,f6B _⟩
 unfold apply;cases hn:e.i8
 ·simp only [f8w];cases hf:s.j4.find? fun d=>d.a0.c8==e.a0.c8 with
  | none=>exact hfr fun d' h=>by unfold a0w at h;rw [hf] at h;cases h
  | some d0=>
   simp only;cases h3:d0.a0.Seq==e.a0.Seq
   ·by_cases h4:d0.a0.Seq>e.a0.Seq
    ·simp only [h4,decide_true,f8v,f8w];exact same
    ·simp only [h4,decide_false,f8w];refine hfr fun d' h => ?_
     unfold a0w at h;rw [hf] at h;injection h with h;subst h;omega
   ·exact same
 ·exact same
theorem e3L{s:u7}{e:m6}{d:s7}(hd:a0w s e.a0.c8=some d)(h:e.a0.Seq<=d.a0.Seq):(apply s e).2≠0:=by
 unfold a0w at hd;unfold apply;cases hn:e.i8
 ·simp only [f8w,hd];cases h3:d.a0.Seq==e.a0.Seq
  ·have hne:d.a0.Seq≠e.a0.Seq:=by simpa using h3
   have hgt:d.a0.Seq>e.a0.Seq:=by omega
   simp only [hgt,decide_true,f8v,f8w];decide
  ·exact show (3:Int)≠0 from by decide
 ·exact show (5:Int)≠0 from by decide
theorem d8j{l:List m6}(hl:l.length<=40)(he:l.all z5=true){i m:Nat}(him:i<m)(hm:m<l.length)(hn:(l[i]'(by omega)).i8=false)(hq:l[m].a0=(l[i]'(by omega)).a0):(s5 l).2[m]?≠some 0:=by
 have hi:i<l.length:=by omega
 have key:∀n,i<n->n<=l.length->∃d,a0w (s5 (l.take n)).1 l[i].a0.c8=some d/\l[i].a0.Seq<=d.a0.Seq:=by
  intro n;induction n with
  | zero=>intro h;omega
  | succ n ih=>
   intro h1 h2;have hin:=(T2 hl he n (by omega)).1;rw [a19 (show n<l.length by omega)];show ∃d,a0w (apply (s5 (l.take n)).1 l[n]).1 l[i].a0.c8=some d/\_
   by_cases hq:i=n
   ·subst hq;exact e0w hin hn
   ·obtain ⟨d,h3,h4⟩:=ih (by omega) (by omega);obtain ⟨d',h5,h6⟩:=f2J (e:=l[n]) hin h3;exact ⟨d',h5,by omega⟩
 obtain ⟨d,h1,h2⟩:=key m him (by omega);rw [b4L hl he hm];intro h;injection h with h;exact e3L (e:=l[m]) (by rw [hq];exact h1) (by rw [hq];exact h2) h
def eN:m6:=⟨true,⟨0,0⟩,⟨[],[],0,0⟩⟩
def v0:m9:=⟨0,zE⟩
def b0J(b:Int):Bool:=q8 b 1 3000
def I3(a:z4)(b:Int):Option z4:=bif b0J b&&decide (a.i4<=b) then some ⟨b,a.a7⟩ else none
def T5(vs:List m9)(n:Nat):List m9:=vs++f6a (n-vs.length) v0
def K3(a:z4)(b slot:Int)(e:m6):Option z4:=
 bif q8 slot 0 39&&z5 e then (I3 a b).map fun x=>⟨x.i4,(T5 x.a7 (slot.toNat+1)).set slot.toNat ⟨b,e⟩⟩ else none
def E1:List m9->List m9->List m9
 | [],b=>b
 | a,[]=>a
 | x::a,y::b=>(bif decide (y.a8>x.a8) then y else x)::E1 a b
def M7(b who:Int):Int:=
 bif decide (b+1<=3000)&&(f6D (b+1) 3==who) then b+1 else
 bif decide (b+2<=3000)&&(f6D (b+2) 3==who) then b+2 else
 bif decide (b+3<=3000)&&(f6D (b+3) 3==who) then b+3 else -1
def a3K(n:j7):j7:={n with d8:=0,a8:=0,c9:=[],i5:=[],d6:=zE,a7:=[]}
def a7f(n:j7):j7:={n with i9:=false,i7:=[],b7:=zE}
def N0(l:List m6)(q:o7):Bool:=l.any (F4 q)
def a1j(id:Int):List Bool:=(f6a 3 false).set id.toNat true
def N1(l:List Bool):Bool:=decide (2<=(l.filter (· == true)).length)
def I6(id:Int)(m:l9):List l9:=(([0,1,2]:List Int).filter (· != id)).map fun t=>{m with c9:=id,To:=t}
def L9(m out:l9):l9:={out with c9:=m.To,To:=m.c9}
def N3(n:j7)(b:Int):j7:=bif n.d8 != 0&&decide (b>n.a8) then a3K n else n
def R9(known:List m6):List m6->List m6×Option m6
 | []=>([],none)
 | e::q=>bif N0 known e.a0 then R9 known q else (q,some e)
def a48(n:j7):j7×Option m6:=
 bif (n.i5.drop n.a5.length).any (fun v=>decide (v.a8>0)) then (n,some eN)
 else bif n.i9 && !N0 n.a5 n.b7.a0 then (n,some n.b7)
 else ({n with d9:=(R9 n.a5 n.d9).1},(R9 n.a5 n.d9).2)
def a0O(n:j7):j7×Option m6:=match n.i5[n.a5.length]? with
 | some v=>bif decide (v.a8>0) then (n,some v.i0) else a48 n
 | none=>a48 n
def a5O(x:j7)(e:m6):j7×List l9:=match K3 x.Acc x.a8 (x.a5.length:Int) e with
 | some a=>({x with Acc:=a,d8:=3,d6:=e,a7:=a1j x.Id},I6 x.Id ⟨3,0,0,x.a8,(x.a5.length:Int),e,[]⟩)
 | none=>(a3K x,[])
def L3(n:j7):j7×List l9:=
 bif n.d8 != 2||decide (40<=n.a5.length) then (n,[]) else match a0O n with
  | (x,some e)=>a5O x e
  | (x,none)=>(x,[])
def U8(n:j7):j7×List n5:=
 bif n.i9 then (match n.a5.findIdx? (F4 n.b7.a0) with
  | some k=>(a7f n,[⟨n.Id,n.b7.a0,Q4 n.a5 k,bif Q4 n.a5 k==0 then U2 n.a5 n.b7.a0 else 0⟩])
  | none=>(n,[]))
 else (n,[])
def E2(n:j7)(e:m6):j7:=
 bif n.d8==3 then {n with a5:=n.a5++[e],d8:=2,d6:=zE,a7:=[]} else {n with a5:=n.a5++[e]}
def Y3(n:j7)(e:m6):j7×List l9×List n5:=
 ((L3 (U8 (E2 n e)).1).1,(L3 (U8 (E2 n e)).1).2,(U8 (E2 n e)).2)
def a15(n:j7)(m:l9):j7×List l9:=match I3 n.Acc m.a8 with
 | some a=>(N3 {n with Acc:=a} m.a8,[L9 m ⟨2,0,0,m.a8,m.g8,zE,a.a7.drop m.g8.toNat⟩])
 | none=>(n,[L9 m ⟨6,0,0,n.Acc.i4,0,zE,[]⟩])
def a1U(n:j7)(m:l9):j7×List l9:=match K3 n.Acc m.a8 m.g8 m.i0 with
 | some a=>(N3 {n with Acc:=a} m.a8,[L9 m ⟨4,0,0,m.a8,m.g8,zE,[]⟩])
 | none=>(n,[L9 m ⟨6,0,0,n.Acc.i4,0,zE,[]⟩])
def a1W(n:j7)(m:l9):j7×List l9:=
 bif n.d8 != 1||m.a8 != n.a8 then (n,[]) else
 bif N1 (n.c9.set m.c9.toNat true) then
  L3 {n with c9:=[],i5:=E1 n.i5 (f6a m.g8.toNat v0++m.a7),d8:=2}
 else ({n with c9:=n.c9.set m.c9.toNat true,i5:=E1 n.i5 (f6a m.g8.toNat v0++m.a7)},[])
def a2F(n:j7)(m:l9):j7×List l9×List n5:=
 bif n.d8 != 3||(m.a8 != n.a8||m.g8 != (n.a5.length:Int)) then (n,[],[]) else
 bif N1 (n.a7.set m.c9.toNat true) then
  ((Y3 {n with a7:=n.a7.set m.c9.toNat true} n.d6).1,I6 n.Id ⟨5,0,0,0,(n.a5.length:Int),n.d6,[]⟩++(Y3 {n with a7:=n.a7.set m.c9.toNat true} n.d6).2.1,(Y3 {n with a7:=n.a7.set m.c9.toNat true} n.d6).2.2)
 else ({n with a7:=n.a7.set m.c9.toNat true},[],[])
def a2M(n:j7)(m:l9):j7×List l9×List n5:=
 bif decide (m.g8<(n.a5.length:Int)) then (n,[],[]) else
 bif decide (m.g8>(n.a5.length:Int)) then (n,[L9 m ⟨8,0,0,0,(n.a5.length:Int),zE,[]⟩],[])
 else Y3 n m.i0
def a2b(n:j7)(m:l9):j7×List l9:=
 bif n.d8==0||(decide (4<=n.d9.length)||N0 n.a5 m.i0.a0) then (n,[]) else L3 {n with d9:=n.d9++[m.i0]}
def a1n(n:j7)(m:l9)(s:Nat):List l9:=match n.a5[s]? with
 | some e=>[L9 m ⟨5,0,0,0,(s:Int),e,[]⟩]
 | none=>[]
def a4n(n:j7)(m:l9):List l9:=((f6i (n.a5.length-m.g8.toNat)).map fun j=>a1n n m (m.g8.toNat+j)).flatten
def W2(n:j7)(m:l9):j7×List l9×List n5:=
 bif m.a9==1 then ((a15 n m).1,(a15 n m).2,[]) else
 bif m.a9==2 then ((a1W n m).1,(a1W n m).2,[]) else
 bif m.a9==3 then ((a1U n m).1,(a1U n m).2,[]) else
 bif m.a9==4 then a2F n m else
 bif m.a9==5 then a2M n m else
 bif m.a9==6 then (N3 {n with Acc:=(I3 n.Acc m.a8).getD n.Acc} m.a8,[],[]) else
 bif m.a9==7 then ((a2b n m).1,(a2b n m).2,[]) else
 bif m.a9==8 then (n,a4n n m,[]) else (n,[],[])
def K5(n:j7)(prog:List n9):j7×List l9:=
 bif n.i9||(n.Seq==1000||(C2 (s5 n.a5).1.g9 prog).Code==3) then (n,[]) else
 bif n.d8==2 then L3 {n with Seq:=n.Seq+1,i9:=true,i7:=prog,b7:=⟨false,⟨n.Id,n.Seq+1⟩,C2 (s5 n.a5).1.g9 prog⟩}
 else ({n with Seq:=n.Seq+1,i9:=true,i7:=prog,b7:=⟨false,⟨n.Id,n.Seq+1⟩,C2 (s5 n.a5).1.g9 prog⟩},
  bif n.d8==0 then I6 n.Id ⟨7,0,0,0,0,⟨false,⟨n.Id,n.Seq+1⟩,C2 (s5 n.a5).1.g9 prog⟩,[]⟩ else [])
def X5(n:j7):j7×List l9:=
 bif decide (M7 n.Acc.i4 n.Id<0) then (n,[]) else
 ({a3K n with Acc:=⟨M7 n.Acc.i4 n.Id,n.Acc.a7⟩,d8:=1,a8:=M7 n.Acc.i4 n.Id,c9:=a1j n.Id,i5:=n.Acc.a7},
  I6 n.Id ⟨1,0,0,M7 n.Acc.i4 n.Id,(n.a5.length:Int),zE,[]⟩)
def V6(n:j7):j7×List l9:=
 bif n.d8==1 then (n,I6 n.Id ⟨8,0,0,0,(n.a5.length:Int),zE,[]⟩++I6 n.Id ⟨1,0,0,n.a8,(n.a5.length:Int),zE,[]⟩) else
 bif n.d8==2 then ((L3 n).1,I6 n.Id ⟨8,0,0,0,(n.a5.length:Int),zE,[]⟩++(L3 n).2) else
 bif n.d8==3 then (n,I6 n.Id ⟨8,0,0,0,(n.a5.length:Int),zE,[]⟩++I6 n.Id ⟨3,0,0,n.a8,(n.a5.length:Int),n.d6,[]⟩) else
 bif n.i9 then (n,I6 n.Id ⟨8,0,0,0,(n.a5.length:Int),zE,[]⟩++I6 n.Id ⟨7,0,0,0,0,n.b7,[]⟩) else
 (n,I6 n.Id ⟨8,0,0,0,(n.a5.length:Int),zE,[]⟩)
def C6(id:Int):j7:=⟨id,⟨0,[]⟩,[],0,0,0,[],[],zE,[],false,[],zE,[]⟩
def a0l(n:j7):j7:={C6 n.Id with Acc:=n.Acc,a5:=n.a5,Seq:=n.Seq}
def M4:m4:=⟨[C6 0,C6 1,C6 2],[],[],[]⟩
def a0R(w:m4)(l:List l9):m4:={w with b9:=w.b9++l.take (40-w.b9.length)}
def a8q(w:m4)(l:List n5):m4:={w with Told:=w.Told++l.take (60-w.Told.length)}
def N5(w:m4)(i:Int)(n:j7):m4:={w with a6:=w.a6.set i.toNat n}
def a3c(w:m4)(i:Int):m4:={w with b9:=w.b9.take i.toNat++w.b9.drop (i.toNat+1)}
def G8(w:m4)(i:Int):j7:=w.a6.getD i.toNat (C6 0)
def a4g(w:m4)(i:Int)(prog:List n9):m4:=
 bif decide (60<=w.d7.length) then w else
 a0R (N5 (bif decide ((K5 (G8 w i) prog).1.Seq>(G8 w i).Seq) then {w with d7:=w.d7++[⟨(K5 (G8 w i) prog).1.b7.a0,prog⟩]} else w) i (K5 (G8 w i) prog).1) (K5 (G8 w i) prog).2
def a1d(w:m4)(e:q9):m4:=bif decide (0<=e.A) then (match w.b9[e.A.toNat]? with
 | some m=>bif e.a9==4 then a0R w [m] else bif e.a9==3 then a3c w e.A else
  a8q (a0R (N5 (a3c w e.A) m.To (W2 (G8 w m.To) m).1) (W2 (G8 w m.To) m).2.1) (W2 (G8 w m.To) m).2.2
 | none=>w) else w
def C0(w:m4)(e:q9):m4:=
 bif e.a9==2||(e.a9==3||e.a9==4) then a1d w e else
 bif !q8 e.A 0 2 then w else
 bif e.a9==1 then a4g w e.A e.i7 else
 bif e.a9==5 then a0R (N5 w e.A (X5 (G8 w e.A)).1) (X5 (G8 w e.A)).2 else
 bif e.a9==6 then a0R (N5 w e.A (V6 (G8 w e.A)).1) (V6 (G8 w e.A)).2 else
 bif e.a9==7 then N5 w e.A (a0l (G8 w e.A)) else w
def a0J(w:m4)(l:List q9):m4:=l.foldl C0 w
theorem a0p:I9 0:=⟨by decide,by decide⟩
theorem U7{α:Type}{b:Nat}{ok:α->Prop}:A3 b ok ([]:List α):=⟨by simp,fun x hx=>by cases hx⟩
theorem a1c:E9 zE:=⟨⟨a0p,a0p⟩,U7,U7,a0p,a0p⟩
theorem d2s:E9 eN:=⟨⟨a0p,a0p⟩,U7,U7,a0p,a0p⟩
theorem d58:S5 v0:=⟨a0p,a1c⟩
theorem a5X{α R B:Type}{body:List α×Int->Option (l7 R (List α×Int) B)}(l:List α)(hl:t0 l)(f:List α->B)(h1:∀(k:Nat) (h:k<l.length),body (l.take k,(k:Int))=some (.nxt (l.take k++[l[k]],m8 ((k:Int)+1))))(h2:body (l,(l.length:Int))=some (.brk (f l))):o9 body ([],0)=some (.brk (f l)):=by
 have h:=W7 (body:=body) (fun k=>(l.take k,(k:Int))) l.length (by
  intro k hk;rw [h1 k hk,F6 hl hk,f6C hk])
 rw [show ((0:Nat):Int)=0 from rfl,f6R] at h;rw [h,f6u];exact C8 h2
theorem b79{l:List m9}(h:A3 96 S5 l):a8Q l=some l:=by
 have hf:t0 l:=h.fits (by decide);have hb:=h.1;unfold a8Q;rw [a5X (body:=fun s:(List m9)×Int=>b2o l s.1 s.2) l hf (fun l=>l) (by
  intro k hk;unfold b2o;rw [x7 _ k hk,t9 hk];simp only [f8v,f5Y,a0Q (h.2 _ (f6c hk)).2];rw [v6 (by rw [f6t];omega)]) (by
  unfold b2o;rw [z9];rfl)]
 rfl
theorem d8c{l:List m9}(h:A3 96 S5 l):b9U l=some (l,l):=by
 have hf:t0 l:=h.fits (by decide);have hb:=h.1;unfold b9U;rw [a5X (body:=fun s:(List m9)×Int=>b17 l s.1 s.2) l hf (fun l=>l) (by
  intro k hk;unfold b17;rw [x7 _ k hk,t9 hk];simp only [f8v,f5Y,a0Q (h.2 _ (f6c hk)).2];rw [v6 (by rw [f6t];omega)]) (by
  unfold b17;rw [z9];rfl)]
 rfl
theorem e79{e:m6}(h:E9 e):b9Q e=some e:=by
 have h1:=h.2.1.1;have h2:=h.2.2.1.1;unfold b9Q c1I;rw [v6 (by simp;omega),v6 (by simp;omega)];rfl
theorem e1c{l:List m9}(h:A3 96 S5 l):b6e l=some l:=by
 have hf:t0 l:=h.fits (by decide);have hb:=h.1;unfold b6e;rw [a5X (body:=fun s:(List m9)×Int=>b13 l s.1 s.2) l hf (fun l=>l) (by
  intro k hk;unfold b13;rw [x7 _ k hk,t9 hk];simp only [f8v,f5Y,e79 (h.2 _ (f6c hk)).2];rw [v6 (by rw [f6t];omega)]) (by
  unfold b13;rw [z9];rfl)]
 rfl
theorem b7r{m:l9}(h:a0h m):a8k m=some m:=by
 unfold a8k;rw [a0Q h.2.2.2.2.2.1,f5Y,b79 h.2.2.2.2.2.2];rfl
theorem b3b{α:Type}{b:Nat}{ok:α->Prop}{l:List α}(h:A3 b ok l):(([]:List α).length+l.length)*b<=140737488355328:=by
 have:=h.1;simp only [f7L,f7i];omega
theorem b4b{n:j7}(h:P6 n):a6A n=some n:=by
 obtain ⟨h1,h2,h3,h4,h5,h6,h7,h8,h9,h10,h11,h12,h13⟩:=h;unfold a6A c0Z;rw [b79 h2.2,f5Y,f5Y,d05 h3,f5Y,v6 (b3b h7),b79 h8,f5Y,a0Q h9,f5Y,v6 (b3b h10),v6 (b3b h11),a0Q h12,f5Y,d05 h13];rfl
theorem c5W{a:z4}{b:Int}:b0e a b=match I3 a b with|some _=>none|none=>some (a,false):=by
 unfold b0e I3 b0J;rw [b0Q,f5Y];cases q8 b 1 3000
 ·rfl
 ·by_cases h:b<a.i4
  ·simp [h,show ¬a.i4<=b by omega]
  ·simp [h,show a.i4<=b by omega]
theorem b6S{a:z4}{b:Int}:a8j a b=some (match I3 a b with|some x=>(x,true)|none=>(a,false)):=by
 unfold a8j I3 b0J;rw [b0Q,f5Y];cases q8 b 1 3000
 ·rfl
 ·by_cases h:b<a.i4
  ·simp [h,show ¬a.i4<=b by omega]
  ·simp [h,show a.i4<=b by omega]
theorem d22{a:z4}{b s:Int}{e:m6}(he:E9 e):b3M a b s e=match K3 a b s e with|some _=>none|none=>some (a,false):=by
 unfold b3M K3;rw [a4a he.f,f5Y,c5W];by_cases h1:s<0
 ·simp [h1,q8,show ¬(0<=s/\s<=39) by omega]
 ·by_cases h2:s>=40
  ·simp [h1,h2,q8,show ¬(0<=s/\s<=39) by omega]
  ·simp only [h1,h2,decide_false,f8w,q8,show (0<=s/\s<=39) by omega,and_self,decide_true,f6n];cases z5 e
   ·rfl
   ·simp only [f6f,f8w,f8v];cases I3 a b<;>rfl
theorem d0j(slot:Nat)(hs:slot<40):∀(m:Nat) (vs:List m9),slot+1-vs.length=m->o9 (fun s:List m9=>a7T (slot:Int) s) vs=some (.brk (T5 vs (slot+1)))
 | 0,vs,h=>by
  refine C8 ?_;unfold a7T T5;rw [h,show decide ((vs.length:Int)<=(slot:Int))=false by simp;omega];simp
 | m+1,vs,h=>by
  have hb:a7T (slot:Int) vs=some (.nxt (vs++[v0])):=by
   unfold a7T;rw [show decide ((vs.length:Int)<=(slot:Int))=true by simp;omega,f8v,v6 (by omega)];rfl
  rw [D9 (body:=fun s:List m9=>a7T (slot:Int) s) hb,d0j slot hs m (vs++[v0]) (by simp;omega)];congr 2
  unfold T5;rw [h,f6l,show slot+1-(vs.length+[v0].length)=m by simp;omega,f6r];rfl
theorem b5l(vs:List m9)(n:Nat):(T5 vs n).length=max vs.length n:=by
 unfold T5;simp;omega
theorem c7X{a:z4}{b s:Int}{e:m6}(he:E9 e):b2B a b s e=some (match K3 a b s e with|some x=>(x,true)|none=>(a,false)):=by
 unfold b2B K3;rw [a4a he.f,f5Y,c5W,b6S,f5Y];by_cases h1:s<0
 ·simp [h1,q8,show ¬(0<=s/\s<=39) by omega]
 ·by_cases h2:s>=40
  ·simp [h1,h2,q8,show ¬(0<=s/\s<=39) by omega]
  ·simp only [h1,h2,decide_false,f8w,q8,show (0<=s/\s<=39) by omega,and_self,decide_true,f6n];cases z5 e
   ·rfl
   ·simp only [f6f,f8w,f8v];cases I3 a b with
    | none=>rfl
    | some x=>
     obtain ⟨k,rfl⟩:∃k:Nat,s=(k:Int):=⟨s.toNat,by omega⟩
     have hk:k<(T5 x.a7 (k+1)).length:=by rw [b5l];omega
     simp only [a43,f6f,f8w,d0j k (by omega) _ _ rfl,f5Y,m5.go,c4p,a0Q he,t9 hk,f7u,f6A]
theorem b5h{n:j7}{q:o7}(h:t0 n.a5):a7W n q=some (N0 n.a5 q):=by
  unfold a7W;rw [show o9 (fun s:Int=>b0o n q s) 0=_ from b9f (body:=fun s:Int=>b0o n q s) n.a5 h (F4 q) (fun _=>true) () (by
      intro k hk;unfold b0o c5c F4;rw [x7 _ k hk,t9 hk];simp only [f8v,f5Y];cases n.a5[k].i8<;>cases (([n.a5[k].a0.c8,n.a5[k].a0.Seq]:List Int)==[q.c8,q.Seq])<;>rfl) (by
      unfold b0o;rw [z9];rfl)]
  unfold N0;cases hf:n.a5.find? (F4 q) with
  | none=>
    have:n.a5.any (F4 q)=false:=by
      rw [f6O];intro x hx;exact f8s.1 hf x hx
    rw [this];rfl
  | some x=>
    have:n.a5.any (F4 q)=true:=f7B.2 ⟨x,f8r hf,List.find?_some hf⟩;rw [this];rfl
def a1x(id:Int)(m:l9)(o:List l9)(t:Int):List l9:=bif t != id then o++[{m with c9:=id,To:=t}] else o
theorem c9g(id:Int)(m:l9)(o:List l9)(t:Int):(a1x id m o t).length<=o.length+1:=by
 unfold a1x;cases t != id<;>simp
theorem a6Q{id:Int}(hid:0<=id/\id<=2){m:l9}(h:a0h m):a3s id m=some (I6 id m):=by
 have e:∀(o:List l9) (t:Int),o.length<=3->0<=t->t<3->a5f id m o t=some (.nxt (a1x id m o t,t+1)):=by
  intro o t ho ht0 ht;unfold a5f c39 a1x;rw [show decide (t<3)=true by simpa using ht,f8v,b7r h,f5Y,v6 (by omega),C5 (by omega) (by omega)];cases t != id<;>rfl
 have l1:=c9g id m [] 0;have l2:=c9g id m (a1x id m [] 0) (0+1);have h0:=D9 (body:=fun s:(List l9)×Int=>a5f id m s.1 s.2) (s:=([],0)) (e [] 0 (by simp) (by omega) (by omega));have h1:=D9 (body:=fun s:(List l9)×Int=>a5f id m s.1 s.2) (s:=(a1x id m [] 0,0+1)) (e (a1x id m [] 0) (0+1) (by simp at l1;omega) (by omega) (by omega));have h2:=D9 (body:=fun s:(List l9)×Int=>a5f id m s.1 s.2) (s:=(a1x id m (a1x id m [] 0) (0+1),0+1+1)) (e (a1x id m (a1x id m [] 0) (0+1)) (0+1+1) (by simp at l1;omega) (by omega) (by omega));have h3:=C8 (body:=fun s:(List l9)×Int=>a5f id m s.1 s.2) (s:=(a1x id m (a1x id m (a1x id m [] 0) (0+1)) (0+1+1),0+1+1+1)) (show a5f id m _ (0+1+1+1)=_ from rfl);unfold a3s;rw [h0,h1,h2,h3];obtain rfl|rfl|rfl:id=0\/id=1\/id=2:=by omega
 all_goals rfl
theorem d4E:∀(l:List Bool) (hl:t0 l) (m k:Nat) (c:Int),k+m=l.length->0<=c->c<=k->o9 (fun s:Int×Int=>a5l l s.1 s.2) (c,(k:Int))=some (.brk (c+(((l.drop k).filter (· == true)).length:Int)))
 | l,hl,0,k,c,hk,h0,h1=>by
  have:k=l.length:=by omega
  subst this;refine C8 ?_;show a5l l c (l.length:Int)=_
  unfold a5l;rw [z9];simp
 | l,hl,m+1,k,c,hk,h0,h1=>by
  have hlt:k<l.length:=by omega
  have hfl:(l.length:Int)<=140737488351232:=by have:=hl;unfold t0 at this;omega
  have hb:a5l l c (k:Int)=some (.nxt (c+(bif l[k] then 1 else 0),((k+1:Nat):Int))):=by
   unfold a5l c0J;rw [x7 _ k hlt,t9 hlt,f8v,f5Y,F6 hl hlt];cases l[k]<;>simp only [f8v,f8w,f5Y]<;>rw [C5 (by omega) (by omega)]
  rw [D9 (body:=fun s:Int×Int=>a5l l s.1 s.2) hb,d4E l hl m (k+1) _ (by omega) (by cases l[k]<;>simp<;>omega) (by cases l[k]<;>simp<;>omega),f6w hlt];cases l[k]<;>simp
  omega
theorem c7N{l:List Bool}(h:t0 l):b4J l=some (N1 l):=by
 unfold b4J;rw [show o9 (fun s:Int×Int=>a5l l s.1 s.2) (0,0)=_ from d4E l h l.length 0 0 (by omega) (by omega) (by omega)];simp only [f5Y,m5.go,c2O,N1,f7t];congr 1
 simp;omega
theorem e8x{l:List m9}{s:Int}(h:A3 96 S5 l)(hl:l.length<=40)(hs:0<=s/\s<=40):b9R l s=some (f6a s.toNat v0++l):=by
 unfold b9R;rw [v6 (by omega),b79 h,f5Y,v6 (by simp;omega)];rfl
theorem a8F:∀a b:List m9,(E1 a b).length=max a.length b.length
 | [],b=>by simp [E1]
 | x::a,[]=>by simp [E1]
 | x::a,y::b=>by simp only [E1,f7j,a8F a b];omega
theorem a9C:∀(a b:List m9) (k:Nat),(E1 a b)[k]?=match a[k]?,b[k]? with
  | some x,some y=>some (bif decide (y.a8>x.a8) then y else x)
  | some x,none=>some x
  | none,some y=>some y
  | none,none=>none
 | [],b,k=>by simp [E1];cases b[k]?<;>rfl
 | x::a,[],k=>by simp [E1];cases (x::a)[k]?<;>rfl
 | x::a,y::b,0=>by simp [E1]
 | x::a,y::b,k+1=>by simp only [E1,f7r];exact a9C a b k
theorem a9M{a b:List m9}{v:m9}(h:v∈E1 a b):v∈a\/v∈b:=by
 obtain ⟨k,hk⟩:=f7O h;rw [a9C] at hk;cases ha:a[k]? with
 | none=>
  cases hb:b[k]? with
  | none=>rw [ha,hb] at hk;cases hk
  | some y=>rw [ha,hb] at hk;injection hk with hk;subst hk;exact .inr (f6o hb)
 | some x=>
  cases hb:b[k]? with
  | none=>rw [ha,hb] at hk;injection hk with hk;subst hk;exact .inl (f6o ha)
  | some y=>
   rw [ha,hb] at hk;simp only at hk;cases hd:decide (y.a8>x.a8)
   ·rw [hd] at hk;injection hk with hk;subst hk;exact .inl (f6o ha)
   ·rw [hd] at hk;injection hk with hk;subst hk;exact .inr (f6o hb)
theorem e5f{a b:List m9}(ha:A3 96 S5 a)(hb:A3 96 S5 b)(hla:a.length<=80)(hlb:b.length<=80)(hz:∀v∈b,v.a8<=0->v=v0):b75 a b=some (E1 a b):=by
 have hlen:=a8F a b;unfold b75;rw [a5X (body:=fun s:(List m9)×Int=>a5Z a b s.1 s.2) (E1 a b) (by unfold t0;omega) (fun l=>l) (by
  intro k hk;have hget:=a9C a b k;rw [f5Z hk] at hget;have hent:∀v,v∈a\/v∈b->E9 v.i0:=fun v hv=>hv.elim (fun q=>(ha.2 v q).2) (fun q=>(hb.2 v q).2)
  have hj1:∀v:m9,E9 v.i0->b7D ((E1 a b).take k) (k:Int) v=some (.nxt ((E1 a b).take k++[v],m8 ((k:Int)+1))):=by
   intro v hv;unfold b7D;rw [a0Q hv,f5Y,v6 (by rw [f6t];omega)]
  show a5Z a b ((E1 a b).take k) (k:Int)=_
  have hkk:k<a.length\/k<b.length:=by omega
  have hstart:a5Z a b ((E1 a b).take k) (k:Int)=b7e a b ((E1 a b).take k) (k:Int):=by
   unfold a5Z;by_cases h1:k<a.length
   ·rw [x7 _ k h1];rfl
   ·rw [show decide ((k:Int)<(a.length:Int))=false by simp;omega,x7 _ k (by omega)];rfl
  rw [hstart];unfold b7e;by_cases h1:k<a.length
  ·rw [x7 _ k h1,t9 h1];simp only [f8v,f5Y,m5.go];unfold b5A;rw [f5Z h1] at hget;by_cases h2:k<b.length
   ·rw [x7 _ k h2,t9 h2];rw [f5Z h2] at hget;simp only [f8v,f5Y];injection hget with hget;rw [hget];cases decide (b[k].a8>a[k].a8)
    ·simp only [f8w,f5Y,m5.go];exact hj1 _ (hent _ (.inl (f6c h1)))
    ·simp only [f8v,f5Y,m5.go];exact hj1 _ (hent _ (.inr (f6c h2)))
   ·rw [show decide ((k:Int)<(b.length:Int))=false by simp;omega];rw [f6z (by omega)] at hget;injection hget with hget;rw [hget];simp only [f8w,f5Y,m5.go];exact hj1 _ (hent _ (.inl (f6c h1)))
  ·have h2:k<b.length:=by omega
   rw [show decide ((k:Int)<(a.length:Int))=false by simp;omega];simp only [f8w,f5Y,m5.go];unfold b5A;rw [x7 _ k h2,t9 h2];rw [f6z (by omega),f5Z h2] at hget;injection hget with hget;rw [hget];simp only [f8v,f5Y];by_cases h3:b[k].a8>0
   ·rw [show decide (b[k].a8>0)=true by simpa using h3];simp only [f8v,f5Y,m5.go];exact hj1 _ (hent _ (.inr (f6c h2)))
   ·have hv:=hz _ (f6c h2) (by omega);rw [show decide (b[k].a8>0)=false by simpa using h3];simp only [f8w,f5Y,m5.go];rw [hv];exact hj1 v0 a1c) (by
  show a5Z a b (E1 a b) ((E1 a b).length:Int)=_
  unfold a5Z;rw [show decide (((E1 a b).length:Int)<(a.length:Int))=false by simp;omega,show decide (((E1 a b).length:Int)<(b.length:Int))=false by simp;omega];rfl)]
 rfl
theorem e9A{b who:Int}(hb:0<=b/\b<=3000)(hw:0<=who/\who<=2):b7K b who=some (M7 b who):=by
 have e:∀i:Int,1<=i->i<=3->a3Z b who (b+i)=some (bif decide (b+i<=3000) then (bif f6D (b+i) 3==who then .ret (b+i) else .nxt (b+(i+1))) else .brk ()):=by
  intro i h1 h3;unfold a3Z;rw [C5 (by omega) (by omega),show decide (b+i<=b+3)=true by simp;omega,f8v,C5 (by omega) (by omega),Int.add_assoc];cases decide (b+i<=3000)
  ·rfl
  ·cases f6D (b+i) 3==who<;>rfl
 have e4:a3Z b who (b+4)=some (.brk ()):=by
  unfold a3Z;rw [C5 (by omega) (by omega),show decide (b+4<=b+3)=false by simp];rfl
 have e1:=e 1 (by omega) (by omega);have e2:=e 2 (by omega) (by omega);have e3:=e 3 (by omega) (by omega);unfold b7K M7;rw [show decide (b<0)=false by simp;omega,show decide (b>3000)=false by simp;omega,show decide (who<0)=false by simp;omega,show decide (who>=3)=false by simp;omega,C5 (by omega) (by omega)];simp only [f8w];have hb4:o9 (fun s:Int=>a3Z b who s) (b+4)=some (.brk ()):=C8 e4;have h3:o9 (fun s:Int=>a3Z b who s) (b+3)=some (bif decide (b+3<=3000)&&(f6D (b+3) 3==who) then .ret (b+3) else .brk ()):=by
  cases q:decide (b+3<=3000)
  ·rw [q] at e3;exact C8 e3
  ·rw [q] at e3;cases t:f6D (b+3) 3==who
   ·rw [t] at e3;rw [D9 e3];exact hb4
   ·rw [t] at e3;exact X4 e3
 have h2:o9 (fun s:Int=>a3Z b who s) (b+2)=some (bif decide (b+2<=3000)&&(f6D (b+2) 3==who) then .ret (b+2) else bif decide (b+3<=3000)&&(f6D (b+3) 3==who) then .ret (b+3) else .brk ()):=by
  cases q:decide (b+2<=3000)
  ·rw [q] at e2;rw [show decide (b+3<=3000)=false by simp at q⊢;omega];exact C8 e2
  ·rw [q] at e2;cases t:f6D (b+2) 3==who
   ·rw [t] at e2;rw [D9 e2];exact h3
   ·rw [t] at e2;exact X4 e2
 have h1:o9 (fun s:Int=>a3Z b who s) (b+1)=some (bif decide (b+1<=3000)&&(f6D (b+1) 3==who) then .ret (b+1) else bif decide (b+2<=3000)&&(f6D (b+2) 3==who) then .ret (b+2) else bif decide (b+3<=3000)&&(f6D (b+3) 3==who) then .ret (b+3) else .brk ()):=by
  cases q:decide (b+1<=3000)
  ·rw [q] at e1;rw [show decide (b+2<=3000)=false by simp at q⊢;omega,show decide (b+3<=3000)=false by simp at q⊢;omega];exact C8 e1
  ·rw [q] at e1;cases t:f6D (b+1) 3==who
   ·rw [t] at e1;rw [D9 e1];exact h2
   ·rw [t] at e1;exact X4 e1
 rw [h1];cases decide (b+1<=3000)&&(f6D (b+1) 3==who)<;>cases decide (b+2<=3000)&&(f6D (b+2) 3==who)<;>cases decide (b+3<=3000)&&(f6D (b+3) 3==who)<;>rfl
theorem A4{n:Int}(h:-1000000000<=n/\n<=1000000000):I9 n:=⟨by omega,by omega⟩
theorem a0B{α:Type}{b:Nat}{ok:α->Prop}{l:List α}(hl:l.length*b<=1000000000)(h:∀x∈l,ok x):A3 b ok l:=⟨by omega,h⟩
theorem f1W{α:Type}{b:Nat}{ok:α->Prop}{l l':List α}(h:A3 b ok l)(hl:l'.length<=l.length)(hs:∀x∈l',x∈l):A3 b ok l':=
 ⟨f6M (f6F _ hl) h.1,fun x hx=>h.2 x (hs x hx)⟩
theorem c2s{l:List m6}{q:o7}:N0 l q=(l.findIdx? (F4 q)).isSome:=by
 unfold N0;cases h:l.findIdx? (F4 q) with
 | none=>
  rw [f7Q] at h;rw [Option.isSome_none,f6O];intro x hx;rw [h x hx];simp
 | some k=>
  rw [f6Y] at h;obtain ⟨hk,h1,_⟩:=h;rw [Option.isSome_some];exact f7B.2 ⟨l[k],f6c hk,h1⟩
theorem e1B{n:j7}(h:A3 88 E9 n.a5)(hok:G6 n.a5=true):b9v n=some (U8 n):=by
 obtain ⟨hl,he⟩:=a07 hok;have hf:t0 n.a5:=h.fits (by decide);unfold b9v U8;rw [b5h hf,f5Y,c2s];cases n.i9
 ·rfl
 simp only [f6f,f8w,f8v];cases hfi:n.a5.findIdx? (F4 n.b7.a0) with
 | none=>rfl
 | some kk=>
 simp only [Option.isSome_some,f6f,f8w,d4Q,f5Y];have:=b7G (body:=fun s:(List n8)×Int×Int×List s7=>b0G n s.1 s.2.1 s.2.2.1 s.2.2.2) (fun k=>((s5 (n.a5.take k)).1.g9,(k:Int),(s5 (n.a5.take k)).1.At,(s5 (n.a5.take k)).1.j4)) n.a5 (F4 n.b7.a0) (fun k=>(a7f n,[⟨n.Id,n.b7.a0,Q4 n.a5 k,bif Q4 n.a5 k==0 then (match n.a5[k]? with|some e=>e.b8.g7|none=>0) else 0⟩])) () (by
   intro k hk;obtain ⟨h1,h2,h3⟩:=T2 hl he k (by omega);unfold b0G c2N F4 Q4;rw [x7 _ k hk,t9 hk,d7b hl he hk,a19 hk,<-F6 hf hk,f5Z hk];simp only [f8v,f5Y];rw [show (⟨(s5 (n.a5.take k)).1.At,(s5 (n.a5.take k)).1.g9,(s5 (n.a5.take k)).1.j4⟩:u7)=(s5 (n.a5.take k)).1 from rfl,d0O h1 (by omega) (f6e.1 he _ (f6c hk)) (h.2 _ (f6c hk)).f,f5Y];cases n.a5[k].i8<;>cases (([n.a5[k].a0.c8,n.a5[k].a0.Seq]:List Int)==[n.b7.a0.c8,n.b7.a0.Seq])<;>first|rfl|skip
   simp only [f8w,f6f,f6H,f6n,f8v,f7s];cases ((apply (s5 (n.a5.take k)).1 n.a5[k]).2==0)<;>rfl) (by
   unfold b0G;rw [z9];rfl)
 rw [f6R,hfi] at this;rw [show o9 (fun s:(List n8)×Int×Int×List s7=>b0G n s.1 s.2.1 s.2.2.1 s.2.2.2) (W3.g9,0,W3.At,W3.j4)=_ from this];simp only [f5Y,m5.go,U2,hfi];all_goals rfl
theorem e4x{l:List m9}(hf:t0 l)(k:Nat):b6z l (k:Int)=some ((l.drop k).any fun v=>decide (v.a8>0)):=by
 have key:∀(m k:Nat),l.length-k=m->o9 (fun s:Int=>a8w l s) (k:Int)=some (bif (l.drop k).any (fun v=>decide (v.a8>0)) then .ret true else .brk ()):=by
  intro m;induction m with
  | zero=>
   intro k hk;rw [f6y (by omega)];refine C8 ?_;unfold a8w;rw [show decide ((k:Int)<(l.length:Int))=false by simp;omega];rfl
  | succ m ih=>
   intro k hk;have hlt:k<l.length:=by omega
   rw [f6w hlt,f8o];cases hd:decide (l[k].a8>0)
   ·rw [D9 (body:=fun s:Int=>a8w l s) (t:=((k+1:Nat):Int)) (by
     unfold a8w;rw [x7 _ k hlt,t9 hlt,f8v,f5Y,hd,F6 hf hlt];rfl),ih (k+1) (by omega),f6N]
   ·refine X4 ?_;unfold a8w;rw [x7 _ k hlt,t9 hlt,f8v,f5Y,hd];rfl
 unfold b6z;rw [key _ k rfl];cases (l.drop k).any fun v=>decide (v.a8>0)<;>rfl
theorem d0t(n:j7)(hk:t0 n.a5):∀(q:List m6),A3 88 E9 q->o9 (fun s:List m6=>a9S n s) q=some (match R9 n.a5 q with
  | (q',some e)=>.ret ({n with d9:=q'},e,true)
  | (q',none)=>.brk q')
 | [],h=>C8 rfl
 | e::q,h=>by
  have hb:=h.1;rw [f7j,f7n] at hb;have h':A3 88 E9 q:=⟨by omega,fun x hx=>h.2 x (f8n _ hx)⟩
  have ht:(([]:List m6)++((e::q).drop (0+(1:Int).toNat)).take ((e::q).length-(1:Int).toNat))=q:=by
   simp
  have hs:a9S n (e::q)=some (bif N0 n.a5 e.a0 then .nxt q else .ret ({n with d9:=q},e,true)):=by
   unfold a9S;rw [show decide (((e::q).length:Int)>0)=true by simp,f8v,show idx (e::q) 0=some e from rfl,f5Y,v6 (by simp;omega),v6 (by simp;omega),ht,b5h (n:={n with d9:=q}) hk,f5Y];cases N0 n.a5 e.a0<;>rfl
  unfold R9;cases hd:N0 n.a5 e.a0
  ·rw [hd] at hs;exact X4 hs
  ·rw [hd] at hs;rw [D9 (body:=fun s:List m6=>a9S n s) hs];exact d0t n hk q h'
def b8S(x:j7×Option m6):j7×m6×Bool:=match x with
 | (n,some e)=>(n,e,true)
 | (n,none)=>(n,zE,false)
theorem d92{n:j7}(h:P6 n):b9n n=some (b8S (a0O n)):=by
 obtain ⟨h1,h2,h3,h4,h5,h6,h7,h8,h9,h10,h11,h12,h13⟩:=h;have hk:t0 n.a5:=h3.fits (by decide);have j1:b8Z n=some (b8S ({n with d9:=(R9 n.a5 n.d9).1},(R9 n.a5 n.d9).2)):=by
  unfold b8Z;rw [d0t n hk _ h13];obtain ⟨q,o⟩:=R9 n.a5 n.d9;cases o<;>rfl
 have j2:b65 n=some (b8S (a48 n)):=by
  unfold b65 a48;rw [e4x (h8.fits (by decide)),f5Y,b5h hk,a0Q h12];generalize (({n with d9:=(R9 n.a5 n.d9).1},(R9 n.a5 n.d9).2):j7×Option m6)=X at j1⊢;cases (n.i5.drop n.a5.length).any fun v=>decide (v.a8>0)
  ·simp only [f8w];cases n.i9
   ·exact j1
   ·cases N0 n.a5 n.b7.a0
    ·rfl
    ·exact j1
  ·rfl
 unfold b9n a0O;by_cases hl:n.a5.length<n.i5.length
 ·rw [x7 _ _ hl,t9 hl,f5Z hl];simp only [f8v,f5Y];cases decide (n.i5[n.a5.length].a8>0)
  ·exact j2
  ·simp only [f8v,a0Q (h8.2 _ (f6c hl)).2,f5Y,m5.go];rfl
 ·rw [show decide ((n.a5.length:Int)<(n.i5.length:Int))=false by simp;omega,f6z (by omega)];exact j2
theorem d4a(known:List m6):∀(q:List m6),(R9 known q).1.length<=q.length/\(∀x∈(R9 known q).1,x∈q)/\∀e,(R9 known q).2=some e->e∈q/\N0 known e.a0=false/\(R9 known q).1.length<q.length
 | []=>⟨f6s _,fun x hx=>hx,fun e he=>by cases he⟩
 | e::q=>by
  unfold R9;cases hk:N0 known e.a0
  ·refine ⟨by simp,fun x hx=>by simpa using .inr hx,fun e' he => ?_⟩;injection he with he;subst he;exact ⟨by simp,hk,by simp⟩
  ·obtain ⟨a,b,c⟩:=d4a known q;refine ⟨by simp only [f8v,f7j];omega,fun x hx=>f8n _ (b x hx),fun e' he => ?_⟩;obtain ⟨x,y,z⟩:=c e' he;exact ⟨f8n _ x,y,by simp only [f8v,f7j];omega⟩
inductive a2L (n:j7):m6->Prop
 | best (v) (h:n.i5[n.a5.length]?=some v) (hb:v.a8>0):a2L n v.i0
 | gap (v) (h:v∈n.i5.drop n.a5.length) (hb:v.a8>0) (hn:∀v,n.i5[n.a5.length]?=some v->¬v.a8>0):a2L n eN
 | want (h:n.i9=true) (hk:N0 n.a5 n.b7.a0=false) (hn:∀v∈n.i5.drop n.a5.length,¬v.a8>0):a2L n n.b7
 | queue (e) (h:e∈n.d9) (hk:N0 n.a5 e.a0=false) (hn:∀v∈n.i5.drop n.a5.length,¬v.a8>0):a2L n e
theorem a9w(n:j7):∃q:List m6,(a0O n).1={n with d9:=q}/\q.length<=n.d9.length/\(∀x∈q,x∈n.d9)/\∀e,(a0O n).2=some e->a2L n e:=by
 have rest:(∀v,n.i5[n.a5.length]?=some v->¬v.a8>0)->∃q:List m6,(a48 n).1={n with d9:=q}/\q.length<=n.d9.length/\(∀x∈q,x∈n.d9)/\∀e,(a48 n).2=some e->a2L n e:=by
  intro hn;unfold a48;cases ha:(n.i5.drop n.a5.length).any fun v=>decide (v.a8>0)
  ·have hnv:∀v∈n.i5.drop n.a5.length,¬v.a8>0:=fun v hv=>by simpa using f6O.1 ha v hv
   cases hb:n.i9 && !N0 n.a5 n.b7.a0
   ·obtain ⟨a,b,c⟩:=d4a n.a5 n.d9;exact ⟨_,rfl,a,b,fun e he=>.queue e (c e he).1 (c e he).2.1 hnv⟩
   ·simp only [f6d,f6J] at hb;refine ⟨n.d9,rfl,f6s _,fun _ h=>h,fun e he => ?_⟩;injection he with he;subst he;exact .want hb.1 hb.2 hnv
  ·obtain ⟨v,hv,hb⟩:=f7B.1 ha;refine ⟨n.d9,rfl,f6s _,fun _ h=>h,fun e he => ?_⟩;injection he with he;subst he;exact .gap v hv (by simpa using hb) hn
 unfold a0O;cases hg:n.i5[n.a5.length]? with
 | none=>exact rest (by rw [hg];simp)
 | some v=>
  simp only;cases hb:decide (v.a8>0)
  ·exact rest (by rw [hg];intro w hw;injection hw with hw;subst hw;simpa using hb)
  ·refine ⟨n.d9,rfl,f6s _,fun _ h=>h,fun e he => ?_⟩;injection he with he;subst he;exact .best v hg (by simpa using hb)
theorem a2L.ok{n:j7}(h:P6 n){e:m6}(hn:a2L n e):E9 e:=by
 cases hn with
 | best v hv hb=>exact (h.2.2.2.2.2.2.2.1.2 v (f6o hv)).2
 | gap=>exact d2s
 | want=>exact h.2.2.2.2.2.2.2.2.2.2.2.1
 | queue e hq=>exact h.2.2.2.2.2.2.2.2.2.2.2.2.2 e hq
theorem a8L{k b s:Int}{e:m6}{vs:List m9}(hk:I9 k)(hb:I9 b)(hs:I9 s)(he:E9 e)(hv:A3 96 S5 vs):a0h ⟨k,0,0,b,s,e,vs⟩:=⟨hk,a0p,a0p,hb,hs,he,hv⟩
theorem c2t{id:Int}(h:0<=id/\id<=2):∃y,idx (f6a (3:Int).toNat false) id=some y:=by
 obtain rfl|rfl|rfl:id=0\/id=1\/id=2:=by omega
 all_goals exact ⟨false,rfl⟩
theorem b3a{n:j7}(h:P6 n)(hid:0<=n.Id/\n.Id<=2):a7c n=some (L3 n):=by
 unfold a7c L3;rw [show decide ((n.a5.length:Int)>=40)=decide (40<=n.a5.length) by simp;omega];cases n.d8 != 2
 ·simp only [f8w,f6N];cases hlt:decide (40<=n.a5.length)
  ·simp only [f8w,d92 h,f5Y];obtain ⟨q,hq,hql,hqm,hqe⟩:=a9w n;cases hx:a0O n with
   | mk x o=>
   rw [hx] at hq hqe;have hq:x={n with d9:=q}:=hq;cases o with
   | none=>rfl
   | some e=>
    have he:=(hqe e rfl).ok h;have hlen:n.a5.length<40:=by simpa using hlt
    subst hq;simp only [b8S,f6f,f8w,d22 he,c7X he,a5O];cases K3 n.Acc n.a8 (n.a5.length:Int) e with
    | none=>rfl
    | some a=>
     obtain ⟨y,hy⟩:=c2t hid;simp only [a43,f5Y,f6f,f8w,a0Q he,hy];rw [v6 (by omega),a6Q hid (a8L (A4 (by omega)) h.2.2.2.2.2.1 (A4 (by omega)) he U7)];rfl
  ·rfl
 ·rfl
theorem e7W{n:j7}(h:P6 n):P6 (a7f n):=by
 obtain ⟨h1,h2,h3,h4,h5,h6,h7,h8,h9,h10,h11,h12,h13⟩:=h;exact ⟨h1,h2,h3,h4,h5,h6,h7,h8,h9,h10,U7,a1c,h13⟩
theorem e01{n:j7}(h:P6 n){e:m6}(he:E9 e)(hl:n.a5.length<=40):P6 (E2 n e):=by
 obtain ⟨h1,h2,h3,h4,h5,h6,h7,h8,h9,h10,h11,h12,h13⟩:=h;have hk:A3 88 E9 (n.a5++[e]):=a0B (by simp;omega) (by
  intro x hx;rcases f6b.1 hx with q|q
  ·exact h3.2 x q
  ·rw [f6h.1 q];exact he)
 unfold E2;cases n.d8==3
 ·exact ⟨h1,h2,hk,h4,h5,h6,h7,h8,h9,h10,h11,h12,h13⟩
 ·exact ⟨h1,h2,hk,h4,A4 (n:=2) (by omega),h6,h7,h8,a1c,U7,h11,h12,h13⟩
theorem a9p(n:j7):(U8 n=(n,[]))\/∃k,n.i9=true/\n.a5.findIdx? (F4 n.b7.a0)=some k/\U8 n=(a7f n,[⟨n.Id,n.b7.a0,Q4 n.a5 k,bif Q4 n.a5 k==0 then U2 n.a5 n.b7.a0 else 0⟩]):=by
 unfold U8;cases n.i9
 ·exact .inl rfl
 ·cases h:n.a5.findIdx? (F4 n.b7.a0) with
  | none=>exact .inl rfl
  | some k=>exact .inr ⟨k,rfl,rfl,rfl⟩
theorem e3E{n:j7}(h:P6 n):P6 (U8 n).1:=by
 rcases a9p n with q|⟨k,_,_,q⟩<;>rw [q]
 ·exact h
 ·exact e7W h
theorem c79(n:j7):(U8 n).1.Id=n.Id:=by
 rcases a9p n with q|⟨k,_,_,q⟩<;>rw [q];rfl
theorem b8G(n:j7)(e:m6):(E2 n e).Id=n.Id:=by
 unfold E2;cases n.d8==3<;>rfl
theorem c2F(n:j7)(e:m6):(E2 n e).a5=n.a5++[e]:=by
 unfold E2;cases n.d8==3<;>rfl
theorem d08{n:j7}(h:P6 n)(hid:0<=n.Id/\n.Id<=2)(hk:G6 n.a5=true)(hl:n.a5.length<40){e:m6}(he:E9 e)(hok:z5 e=true):b2A n e=some (Y3 n e):=by
 have hkn:=e01 h he (by omega);have hko:G6 (E2 n e).a5=true:=by
  rw [c2F];obtain ⟨a,b⟩:=a07 hk;unfold G6;simp only [f6l,f7k,List.all_append,List.all_cons,List.all_nil,b,hok,f7x,Bool.and_self,decide_eq_true_eq];omega
 have hj:∀(p:Int) (c:m6) (vs:List Bool),(⟨n.Id,n.Acc,n.a5++[e],n.Seq,p,n.a8,n.c9,n.i5,c,vs,n.i9,n.i7,n.b7,n.d9⟩:j7)=E2 n e->b50 n e vs c.a0.c8 c.a0.Seq c.b8.b5 c.b8.b6 c.b8.g7 c.b8.Code p c.i8=some (Y3 n e):=by
  intro p c vs hq;unfold b50;rw [show (j7.mk n.Id n.Acc (n.a5++[e]) n.Seq p n.a8 n.c9 n.i5 (m6.mk c.i8 (o7.mk c.a0.c8 c.a0.Seq) (n6.mk c.b8.b5 c.b8.b6 c.b8.g7 c.b8.Code)) vs n.i9 n.i7 n.b7 n.d9)=E2 n e from hq,e1B hkn.2.2.1 hko,f5Y,b3a (e3E hkn) (by rw [c79,b8G];exact hid),f5Y];rfl
 unfold b2A;rw [a0Q he,f5Y,v6 (by omega)];cases hp:n.d8==3
 ·exact hj n.d8 n.d6 n.a7 (by unfold E2;rw [hp];rfl)
 ·exact hj 2 zE [] (by unfold E2;rw [hp];rfl)
theorem f2i{r:n6}(h:U6 r=true):r.b5.length<=4:=by
 have h0:a3H r.b5=true:=by
  rw [a9K] at h;simp only [f6d] at h;exact h.2.2.2.2.1
 obtain ⟨h1,h2⟩:=d5F.1 h0;let ps:List p7:=r.b5.map fun x=>⟨x.i6,0⟩
 have hp:∀p∈ps,a0q p:=by
  intro p hp;obtain ⟨x,hx,rfl⟩:=f6G.1 hp;exact ⟨(h1 x hx).1,(h1 x hx).2.1,by simp,by simp⟩
 have hpw:ps.Pairwise fun p q=>p.i6≠q.i6:=List.pairwise_map.2 h2
 have hl:=c04 hp;have a:=a5V hpw 0;have b:=a5V hpw 1;have c:=a5V hpw 2;have d:=a5V hpw 3;have:ps.length=r.b5.length:=f6W ..;omega
theorem d90{r:n6}(h:a4m r ⟨[],[],0,0⟩=true):r=⟨[],[],0,0⟩:=(c3F _ _).1 h
theorem e9s{e:m6}(h:z5 e=true)(hn:e.i8=true):e=eN:=by
 unfold z5 at h;rw [hn] at h;simp only [f8v,f6d,beq_iff_eq,List.cons.injEq,and_true] at h;obtain ⟨⟨h1,h2⟩,h3⟩:=h;have h4:=d90 h3;clear h3;obtain ⟨n,⟨a,b⟩,r⟩:=e;simp only at hn h1 h2 h4;subst hn h1 h2 h4;rfl
theorem e6F{r:n6}(h:U6 r=true):b5F r:=by
 obtain ⟨h1,h2,_,h4,h5⟩:=a3r h;have r4:=f2i h;have p4:=e2i h;exact ⟨a0B (by omega) fun x hx=>by have:=h4 x hx;exact ⟨A4 (by omega),A4 (by omega)⟩,
  a0B (by omega) fun x hx=>by have:=h5 x hx;exact ⟨A4 (by omega),A4 (by omega)⟩,A4 (by omega),A4 (by omega)⟩
theorem a3k{e:m6}(h:z5 e=true):E9 e:=by
 cases hn:e.i8 with
 | true=>rw [e9s h hn];exact d2s
 | false=>
  obtain ⟨h1,h2,h3,_⟩:=a3Q h hn;exact ⟨⟨A4 (by omega),A4 (by omega)⟩,e6F h3⟩
theorem d5G{l:List m6}(hl:l.length<=1000)(h:∀e∈l,z5 e=true):A3 88 E9 l:=a0B (by omega) fun e he=>a3k (h e he)
def VI(v:m9):Prop:=v=v0\/(1<=v.a8/\v.a8<=3000/\z5 v.i0=true)
theorem d88{v:m9}:a0y v=true↔VI v:=by
 unfold a0y VI;by_cases hb:v.a8=0
 ·simp only [hb,beq_self_eq_true,f8v,a1b];constructor
  ·intro h;left;obtain ⟨b,e⟩:=v;simp only at hb h;subst hb h;rfl
  ·rintro (h|h)
   ·rw [h];rfl
   ·omega
 ·have:(v.a8==0)=false:=by simpa using hb
  simp only [this,f8w,f6d,H8];constructor
  ·intro h;exact .inr ⟨h.1.1,h.1.2,h.2⟩
  ·rintro (h|h)
   ·rw [h] at hb;exact absurd rfl hb
   ·exact ⟨⟨h.1,h.2.1⟩,h.2.2⟩
theorem VI.ok{v:m9}(h:VI v):S5 v:=by
 rcases h with rfl|⟨h1,h2,h3⟩
 ·exact d58
 ·exact ⟨A4 (by omega),a3k h3⟩
theorem VI.bal{v:m9}(h:VI v):0<=v.a8/\v.a8<=3000:=by
 rcases h with rfl|⟨h1,h2,h3⟩
 ·exact ⟨by decide,by decide⟩
 ·exact ⟨by omega,h2⟩
theorem VI.zero{v:m9}(h:VI v)(hb:v.a8<=0):v=v0:=by
 rcases h with rfl|⟨h1,_⟩
 ·rfl
 ·omega
theorem VI.pos{v:m9}(h:VI v)(hb:v.a8>0):z5 v.i0=true:=by
 rcases h with rfl|⟨_,_,h⟩
 ·exact absurd hb (by decide)
 ·exact h
theorem a37{l:List m9}(hl:l.length<=1000)(h:∀v∈l,VI v):A3 96 S5 l:=a0B (by omega) fun v hv=>(h v hv).ok
theorem a7i{l:List m9}:M6 l=true↔l.length<=40/\∀v∈l,VI v:=by
 unfold M6;simp only [f6d,decide_eq_true_eq,f6e,d88]
structure e8L(id bal pr:Int)(best:List m9):Prop where
 b1:1<=bal
 b2:bal<=3000
 mod:f6D bal 3=id
 pr:bal<=pr
 bl:best.length<=40
 bs:∀v∈best,VI v
abbrev Own(n:j7):Prop:=e8L n.Id n.a8 n.Acc.i4 n.i5
def a0I(n:j7):Prop:=
 (n.d8=0/\n.a8=0/\n.c9=[]/\n.i5=[]/\n.d6=zE/\n.a7=[])\/
 (n.d8=1/\Own n/\n.c9.length=3/\n.c9[n.Id.toNat]?=some true/\n.d6=zE/\n.a7=[])\/
 (n.d8=2/\Own n/\n.c9=[]/\n.d6=zE/\n.a7=[])\/
 (n.d8=3/\Own n/\n.c9=[]/\z5 n.d6=true/\n.a7.length=3/\n.a7[n.Id.toNat]?=some true/\n.a5.length<40)
def c0D(n:j7):Prop:=
 (n.i9=true/\E4 n.i7=true/\z5 n.b7=true/\n.b7.i8=false/\n.b7.a0=⟨n.Id,n.Seq⟩)\/(n.i9=false/\n.i7=[]/\n.b7=zE)
structure NI(n:j7):Prop where
 id:0<=n.Id/\n.Id<=2
 pr:0<=n.Acc.i4/\n.Acc.i4<=3000
 vl:n.Acc.a7.length<=40
 vs:∀v∈n.Acc.a7,VI v/\v.a8<=n.Acc.i4
 kl:n.a5.length<=40
 ks:∀e∈n.a5,z5 e=true
 sq:0<=n.Seq/\n.Seq<=1000
 ql:n.d9.length<=4
 qs:∀e∈n.d9,z5 e=true/\e.i8=false
 ld:a0I n
 wt:c0D n
theorem b4k{α:Type}{l:List α}:((l.length:Int)==0)=true↔l=[]:=by
 rw [beq_iff_eq];constructor
 ·intro h;exact f6m (by omega)
 ·rintro rfl;rfl
theorem d7J{α:Type}{l:List α}:((l.length:Int)=0)↔l=[]:=by rw [<-b4k,beq_iff_eq]
theorem c6R{l:List Bool}{id:Int}(h:0<=id/\id<=2):a44 l id=true↔l.length=3/\l[id.toNat]?=some true:=by
 unfold a44 b6b;have e:idx l id=l[id.toNat]?:=by unfold idx;rw [if_pos h.1]
 rw [e,f6d,beq_iff_eq];constructor
 ·rintro ⟨h1,h2⟩
  refine ⟨by omega,?_⟩;cases hq:l[id.toNat]? with
  | none=>rw [hq] at h2;cases h2
  | some b=>rw [hq] at h2;simp at h2;rw [h2]
 ·rintro ⟨h1,h2⟩
  exact ⟨by omega,by rw [h2];rfl⟩
theorem c5x{n:j7}:a36 n=true↔n.d6=zE/\n.a7=[]:=by
 unfold a36;rw [f6d,a1b,b4k]
theorem d2A{n:j7}(hid:0<=n.Id/\n.Id<=2):a0t n=true↔a0I n:=by
 have hown:(a0a n.a8==n.Id)=true/\n.a8<=n.Acc.i4/\M6 n.i5=true↔Own n:=by
  rw [a7i];constructor
  ·rintro ⟨h1,h2,h3⟩
   have hb:=H8.1 (c2k (H8.2 hid) h1);unfold a0a at h1;rw [H8.2 hb] at h1;exact ⟨hb.1,hb.2,by simpa using h1,h2,h3.1,h3.2⟩
  ·intro h;refine ⟨?_,h.pr,h.bl,h.bs⟩;unfold a0a;rw [H8.2 ⟨h.b1,h.b2⟩];simpa using h.mod
 unfold a0t a0I;by_cases p0:n.d8=0
 ·simp only [p0,beq_self_eq_true,f8v,f6d,c5x,beq_iff_eq,d7J];constructor
  ·rintro ⟨a,b,c,d,e⟩;exact .inl ⟨trivial,a,b,c,d,e⟩
  ·rintro (h|h|h|h)
   ·exact ⟨h.2.1,h.2.2.1,h.2.2.2.1,h.2.2.2.2.1,h.2.2.2.2.2⟩
   all_goals exact absurd h.1 (by omega)
 ·have q0:(n.d8==0)=false:=by simpa using p0
  simp only [q0,f8w,f6d,decide_eq_true_eq];rw [<-and_assoc,<-and_assoc,and_assoc (a:=(a0a n.a8==n.Id)=true),hown];by_cases p1:n.d8=1
  ·simp only [p1,beq_self_eq_true,f8v,f6d,c6R hid,c5x];constructor
   ·rintro ⟨a,⟨b,c⟩,d,e⟩;exact .inr (.inl ⟨trivial,a,b,c,d,e⟩)
   ·rintro (h|h|h|h)
    ·exact absurd h.1 (by omega)
    ·exact ⟨h.2.1,⟨h.2.2.1,h.2.2.2.1⟩,h.2.2.2.2.1,h.2.2.2.2.2⟩
    all_goals exact absurd h.1 (by omega)
  ·have q1:(n.d8==1)=false:=by simpa using p1
   by_cases p2:n.d8=2
   ·have q2:(n.d8==2)=true:=by simpa using p2
    simp only [q1,q2,f8v,f8w,f6d,b4k,c5x];constructor
    ·rintro ⟨a,b,c,d⟩;exact .inr (.inr (.inl ⟨p2,a,b,c,d⟩))
    ·rintro (h|h|h|h)
     ·exact absurd h.1 (by omega)
     ·exact absurd h.1 (by omega)
     ·exact ⟨h.2.1,h.2.2.1,h.2.2.2.1,h.2.2.2.2⟩
     ·exact absurd h.1 (by omega)
   ·have q2:(n.d8==2)=false:=by simpa using p2
    by_cases p3:n.d8=3
    ·have q3:(n.d8==3)=true:=by simpa using p3
     simp only [q1,q2,q3,f8v,f8w,f6d,b4k,c6R hid,decide_eq_true_eq];constructor
     ·rintro ⟨a,b,c,⟨d,e⟩,f⟩;exact .inr (.inr (.inr ⟨p3,a,b,c,d,e,by omega⟩))
     ·rintro (h|h|h|h)
      ·exact absurd h.1 (by omega)
      ·exact absurd h.1 (by omega)
      ·exact absurd h.1 (by omega)
      ·exact ⟨h.2.1,h.2.2.1,h.2.2.2.1,⟨h.2.2.2.2.1,h.2.2.2.2.2.1⟩,by omega⟩
    ·have q3:(n.d8==3)=false:=by simpa using p3
     simp only [q1,q2,q3,f8w,f7v,and_false,false_iff];rintro (h|h|h|h)<;>omega
theorem b1k{a b:o7}:(([a.c8,a.Seq]:List Int)==[b.c8,b.Seq])=true↔a=b:=by
 obtain ⟨a1,a2⟩:=a;obtain ⟨b1,b2⟩:=b;simp
theorem c8K{n:j7}:a35 n=true↔c0D n:=by
 unfold a35 c0D;cases n.i9
 ·simp only [f8w,f6d,b4k,a1b,f7v,false_and,false_or,true_and]
 ·simp only [f8v,f6d,f6J,Bool.true_eq_false,false_and,or_false,true_and];rw [show (([n.b7.a0.c8,n.b7.a0.Seq]:List Int)==[n.Id,n.Seq])=true↔n.b7.a0=⟨n.Id,n.Seq⟩ from b1k (b:=⟨n.Id,n.Seq⟩)]
theorem a1i{n:j7}:D6 n=true↔NI n:=by
 unfold D6 P9 G6 b9k;simp only [f6d,H8,a7i,f6e,decide_eq_true_eq,f6J,decide_eq_false_iff_not];constructor
 ·rintro ⟨h1,⟨h2,h3,h4⟩,⟨h5,h6⟩,h7,h8,h9,h10,h11⟩
  exact ⟨h1,h2,h3.1,fun v hv=>⟨h3.2 v hv,by have:=h4 v hv;omega⟩,h5,h6,h7,by omega,h11,(d2A h1).1 h9,c8K.1 h10⟩
 ·intro h;exact ⟨h.id,⟨h.pr,⟨h.vl,fun v hv=>(h.vs v hv).1⟩,fun v hv=>by have:=(h.vs v hv).2;omega⟩,⟨h.kl,h.ks⟩,h.sq,by have:=h.ql;omega,(d2A h.id).2 h.ld,c8K.2 h.wt,h.qs⟩
theorem f4D{i:n9}(h:P5 i=true):b4O i:=by
 unfold P5 at h;by_cases k1:i.a9=1
 ·simp [k1,q8] at h;exact ⟨A4 (by omega),A4 (by omega),A4 (by omega),A4 (by omega)⟩
 by_cases k2:i.a9=2
 ·simp [k2,q8] at h;exact ⟨A4 (by omega),A4 (by omega),A4 (by omega),A4 (by omega)⟩
 by_cases k3:i.a9=3
 ·simp [k3,q8] at h;exact ⟨A4 (by omega),A4 (by omega),A4 (by omega),A4 (by omega)⟩
 by_cases k4:i.a9=4
 ·simp [k4,q8] at h;exact ⟨A4 (by omega),A4 (by omega),A4 (by omega),A4 (by omega)⟩
 by_cases k5:i.a9=5
 ·simp [k5,q8] at h;exact ⟨A4 (by omega),A4 (by omega),A4 (by omega),A4 (by omega)⟩
 by_cases k6:i.a9=6
 ·simp [k6,q8] at h;exact ⟨A4 (by omega),A4 (by omega),A4 (by omega),A4 (by omega)⟩
 by_cases k7:i.a9=7
 ·simp [k7] at h;exact ⟨A4 (by omega),A4 (by omega),A4 (by omega),A4 (by omega)⟩
 ·simp [k1,k2,k3,k4,k5,k6,k7] at h
theorem d2v{l:List n9}(h:E4 l=true):A3 32 b4O l:=by
 obtain ⟨h1,h2⟩:=c2Z h;exact a0B (by omega) fun i hi=>f4D (h2 i hi)
theorem a0I.phase{n:j7}(h:a0I n):0<=n.d8/\n.d8<=3:=by
 rcases h with h|h|h|h<;>omega
theorem a0I.bal{n:j7}(h:a0I n):0<=n.a8/\n.a8<=3000:=by
 rcases h with h|h|h|h
 ·omega
 all_goals exact ⟨by have:=h.2.1.b1;omega,h.2.1.b2⟩
theorem a0I.best{n:j7}(h:a0I n):n.i5.length<=40/\∀v∈n.i5,VI v:=by
 rcases h with h|h|h|h
 ·rw [h.2.2.2.1];exact ⟨by simp,by simp⟩
 all_goals exact ⟨h.2.1.bl,h.2.1.bs⟩
theorem a0I.from3{n:j7}(h:a0I n):n.c9.length<=3/\n.a7.length<=3/\E9 n.d6:=by
 rcases h with h|h|h|h
 ·rw [h.2.2.1,h.2.2.2.2.2,h.2.2.2.2.1];exact ⟨by simp,by simp,a1c⟩
 ·rw [h.2.2.2.2.2,h.2.2.2.2.1];exact ⟨by omega,by simp,a1c⟩
 ·rw [h.2.2.1,h.2.2.2.1,h.2.2.2.2];exact ⟨by simp,by simp,a1c⟩
 ·rw [h.2.2.1];exact ⟨by simp,by omega,a3k h.2.2.2.1⟩
theorem NI.ok{n:j7}(h:NI n):P6 n:=by
 have hf:=h.ld.from3;have hb:=h.ld.best;have hw:E9 n.b7/\A3 32 b4O n.i7:=by
  rcases h.wt with q|q
  ·exact ⟨a3k q.2.2.1,d2v q.2.1⟩
  ·rw [q.2.1,q.2.2];exact ⟨a1c,U7⟩
 have hph:=h.ld.phase;have hbl:=h.ld.bal;have h1:=h.id;have h2:=h.pr;have h3:=h.sq;have h4:=h.vl;have h5:=h.kl;have h6:=h.ql;exact ⟨A4 (by omega),⟨A4 (by omega),a37 (by omega) fun v hv=>(h.vs v hv).1⟩,d5G (by omega) h.ks,A4 (by omega),A4 (by omega),A4 (by omega),
  a0B (by omega) (fun _ _=>trivial),a37 (by omega) hb.2,hf.2.2,a0B (by omega) (fun _ _=>trivial),hw.2,hw.1,d5G (by omega) fun e he=>(h.qs e he).1⟩
theorem NI.list{n:j7}(h:NI n):G6 n.a5=true:=by
 unfold G6;simp only [f6d,decide_eq_true_eq,f6e];exact ⟨h.kl,h.ks⟩
def U4(m:l9):Prop:=
 ((m.a9=1\/m.a9=4)/\(1<=m.a8/\m.a8<=3000)/\m.i0=zE/\m.a7=[])\/
 (m.a9=2/\(1<=m.a8/\m.a8<=3000)/\m.i0=zE/\(m.a7.length<=40/\∀v∈m.a7,VI v)/\m.g8+m.a7.length<=40)\/
 (m.a9=3/\(1<=m.a8/\m.a8<=3000)/\m.g8<40/\z5 m.i0=true/\m.a7=[])\/
 (m.a9=5/\m.a8=0/\m.g8<40/\z5 m.i0=true/\m.a7=[])\/
 (m.a9=6/\(1<=m.a8/\m.a8<=3000)/\m.g8=0/\m.i0=zE/\m.a7=[])\/
 (m.a9=7/\m.a8=0/\m.g8=0/\z5 m.i0=true/\m.i0.i8=false/\m.a7=[])\/
 (m.a9=8/\m.a8=0/\m.i0=zE/\m.a7=[])
structure MI(m:l9):Prop where
 fr:0<=m.c9/\m.c9<=2
 to:0<=m.To/\m.To<=2
 ne:m.c9≠m.To
 sl:0<=m.g8/\m.g8<=40
 kd:U4 m
theorem c96{m:l9}:Q5 m=true↔MI m:=by
 have hk:(0<=m.g8/\m.g8<=40)->(a6R m=true↔U4 m):=by
  intro hs;have hw:M6 m.a7=true->m8 (m.g8+(m.a7.length:Int))=m.g8+(m.a7.length:Int):=by
   intro hv;have:=(a7i.1 hv).1;exact C5 (by omega) (by omega)
  unfold a6R U4;simp only [Bool.cond_eq_ite];by_cases k1:m.a9=1
  ·simp [k1,H8,a1b]
  by_cases k4:m.a9=4
  ·simp [k4,H8,a1b]
  by_cases k2:m.a9=2
  ·simp only [k2,H8,a1b,beq_self_eq_true,if_true,f6d,decide_eq_true_eq];simp only [show ((2:Int)==1)=false from rfl,show ((2:Int)==4)=false from rfl,f7v,if_false,f6d,H8,a1b,decide_eq_true_eq];constructor
   ·rintro ⟨a,b,c,d⟩
    rw [hw c] at d;exact .inr (.inl ⟨trivial,a,b,a7i.1 c,d⟩)
   ·rintro (h|h|h|h|h|h|h)
    ·omega
    ·have c:=a7i.2 h.2.2.2.1;exact ⟨h.2.1,h.2.2.1,c,by rw [hw c];exact h.2.2.2.2⟩
    all_goals exact absurd h.1 (by omega)
  by_cases k3:m.a9=3
  ·simp [k3,H8]
  by_cases k5:m.a9=5
  ·simp [k5]
  by_cases k6:m.a9=6
  ·simp [k6,H8,a1b]
  by_cases k7:m.a9=7
  ·simp [k7]
  by_cases k8:m.a9=8
  ·simp [k8,a1b]
  ·simp [k1,k2,k3,k4,k5,k6,k7,k8]
 unfold Q5;simp only [f6d,H8,f6J,beq_eq_false_iff_ne];constructor
 ·rintro ⟨a,b,c,d,e⟩;exact ⟨a,b,c,d,(hk d).1 e⟩
 ·intro h;exact ⟨h.fr,h.to,h.ne,h.sl,(hk h.sl).2 h.kd⟩
theorem MI.ok{m:l9}(h:MI m):a0h m:=by
 have hf:=h.fr;have ht:=h.to;have hs:=h.sl;have hk:I9 m.a9/\I9 m.a8/\E9 m.i0/\A3 96 S5 m.a7:=by
  rcases h.kd with q|q|q|q|q|q|q
  ·rw [q.2.2.1,q.2.2.2];exact ⟨A4 (by omega),A4 (by omega),a1c,U7⟩
  ·rw [q.2.2.1];exact ⟨A4 (by omega),A4 (by omega),a1c,a37 (by omega) q.2.2.2.1.2⟩
  ·rw [q.2.2.2.2];exact ⟨A4 (by omega),A4 (by omega),a3k q.2.2.2.1,U7⟩
  ·rw [q.2.2.2.2];exact ⟨A4 (by omega),A4 (by omega),a3k q.2.2.2.1,U7⟩
  ·rw [q.2.2.2.2,q.2.2.2.1];exact ⟨A4 (by omega),A4 (by omega),a1c,U7⟩
  ·rw [q.2.2.2.2.2];exact ⟨A4 (by omega),A4 (by omega),a3k q.2.2.2.1,U7⟩
  ·rw [q.2.2.1,q.2.2.2];exact ⟨A4 (by omega),A4 (by omega),a1c,U7⟩
 exact ⟨hk.1,A4 (by omega),A4 (by omega),hk.2.1,A4 (by omega),hk.2.2.1,hk.2.2.2⟩
structure WI(w:m4):Prop where
 nl:w.a6.length=3
 ns:∀(i:Nat) (n:j7),w.a6[i]?=some n->n.Id=(i:Int)/\NI n
 ml:w.b9.length<=40
 ms:∀m∈w.b9,MI m
 al:w.d7.length<=60
 aq:∀a∈w.d7,Z2 a=true
 tl:w.Told.length<=60
 ts:∀t∈w.Told,T0 t=true
theorem a0v{w:m4}:B6 w=true↔WI w:=by
 unfold B6;simp only [f6d,beq_iff_eq,decide_eq_true_eq,f6e,f7m,c96];constructor
 ·rintro ⟨h1,h2,h3,h4,h5,h6,h7,h8⟩
  refine ⟨by omega,?_,by omega,h6,by omega,h7,by omega,h8⟩;intro i n hn;have hi:=(f6g.1 hn).1;have:=h5 i hi;unfold a34 at this;rw [hn] at this;simp only [f6d,beq_iff_eq,a1i] at this;exact this
 ·intro h;have h2:=h.ml;have h3:=h.al;have h4:=h.tl;refine ⟨by have:=h.nl;omega,by omega,by omega,by omega,?_,h.ms,h.aq,h.ts⟩;intro i hi;unfold a34;rw [f5Z hi];simp only [f6d,beq_iff_eq,a1i];exact h.ns i _ (f5Z hi)
theorem e3G{a:x6}(h:Z2 a=true):d3o a:=by
 unfold Z2 at h;simp only [f6d,H8] at h;exact ⟨⟨A4 (by omega),A4 (by omega)⟩,d2v h.2⟩
theorem e9H{t:n5}(h:T0 t=true):d1B t:=by
 unfold T0 at h;simp only [f6d,H8] at h;exact ⟨A4 (by omega),⟨A4 (by omega),A4 (by omega)⟩,A4 (by omega),A4 (by omega)⟩
theorem WI.ok{w:m4}(h:WI w):R2 w:=by
 have h1:=h.nl;have h2:=h.ml;have h3:=h.al;have h4:=h.tl;refine ⟨a0B (by omega) ?_,a0B (by omega) fun m hm=>(h.ms m hm).ok,a0B (by omega) fun a ha=>e3G (h.aq a ha),a0B (by omega) fun t ht=>e9H (h.ts t ht)⟩;intro n hn;obtain ⟨i,hi⟩:=f7O hn;exact (h.ns i n hi).2.ok
theorem b91(m o:l9):a4w m o=some [L9 m o]:=rfl
theorem d7e(n:j7)(b:Int):b2e n b=some (N3 n b):=by
 unfold b2e N3;cases n.d8 != 0
 ·rfl
 ·simp only [f8v,f6n];cases decide (b>n.a8)<;>rfl
theorem f5d(n:j7)(b:Int):b1K n b=some (N3 n b):=by
 unfold b1K N3;cases n.d8 != 0
 ·rfl
 ·simp only [f8v,f6n];cases decide (b>n.a8)<;>rfl
theorem d3z(n:j7)(b:Int):(N3 n b).Acc=n.Acc:=by
 unfold N3;cases n.d8 != 0&&decide (b>n.a8)<;>rfl
theorem a3L{a x:z4}{b:Int}(h:I3 a b=some x):x=⟨b,a.a7⟩/\1<=b/\b<=3000/\a.i4<=b:=by
 unfold I3 b0J at h;cases hq:q8 b 1 3000&&decide (a.i4<=b)
 ·rw [hq] at h;cases h
 ·rw [hq] at h;simp only [f6d,H8,decide_eq_true_eq] at hq;injection h with h;exact ⟨h.symm,hq.1.1,hq.1.2,hq.2⟩
theorem c4n{α:Type}(l:List α)(k:Nat):(l.drop k).take (l.length-k)=l.drop k:=by
 rw [f6S];simp
theorem e3i{n:j7}(h:P6 n){m:l9}(hs:0<=m.g8):b84 n m=some (a15 n m):=by
 unfold b84 a15;rw [c5W,b6S];cases hp:I3 n.Acc m.a8 with
 | none=>rfl
 | some a=>
  obtain ⟨rfl,_⟩:=a3L hp;simp only [a43,f5Y,f6f,f8w,f5d];have ha:=d3z {n with Acc:=⟨m.a8,n.Acc.a7⟩} m.a8;have hy:∀y:j7,y.Acc=⟨m.a8,n.Acc.a7⟩->(j7.mk y.Id (z4.mk y.Acc.i4 n.Acc.a7) y.a5 y.Seq y.d8 y.a8 y.c9 y.i5 y.d6 y.a7 y.i9 y.i7 y.b7 y.d9)=y:=by
   intro y hy;obtain ⟨y1,y2,y3,y4,y5,y6,y7,y8,y9,y10,y11,y12,y13,y14⟩:=y;simp only at hy;subst hy;rfl
  rw [hy _ ha];obtain ⟨k,hk⟩:∃k:Nat,m.g8=(k:Int):=⟨m.g8.toNat,by omega⟩
  rw [hk,f6A,c4n];cases hd:decide ((k:Int)<(n.Acc.a7.length:Int))
  ·simp only [f8w,b91,f5Y];rw [f6y (by simp at hd;omega)]
  ·simp only [f8v];rw [v6 (by simp at hd;omega),e1c (f1W h.2.1.2 (by simp) fun x hx=>f7d hx),f5Y,b91,f5Y]
theorem f4t{n:j7}{m:l9}(hm:a0h m):b7i n m=some (a1U n m):=by
 have he:E9 m.i0:=hm.2.2.2.2.2.1;unfold b7i a1U;rw [d22 he,c7X he];cases K3 n.Acc m.a8 m.g8 m.i0 with
 | none=>rfl
 | some a=>simp only [a43,f5Y,f6f,f8w,d7e,b91]
theorem b96{l:List Bool}(h:l.length<=3):t0 l:=by unfold t0;omega
theorem e6c{n:j7}(h:NI n){m:l9}(hm:MI m)(hk:m.a9=2):b8y n m=some (a1W n m):=by
 have hkd:(m.a7.length<=40/\∀v∈m.a7,VI v)/\m.g8+m.a7.length<=40:=by
  rcases hm.kd with q|q|q|q|q|q|q
  ·omega
  ·exact ⟨q.2.2.2.1,q.2.2.2.2⟩
  all_goals exact absurd q.1 (by omega)
 have hs:=hm.sl;have hf:=hm.fr;unfold b8y a1W;by_cases p1:n.d8=1
 ·rw [show (n.d8 != 1)=false by simp [p1],f6N];simp only [f8w];cases hb:m.a8 != n.a8
  ·simp only [f8w];have hl:n.c9.length=3/\Own n:=by
    rcases h.ld with q|q|q|q
    ·omega
    ·exact ⟨q.2.2.1,q.2.1⟩
    all_goals exact absurd q.1 (by omega)
   obtain ⟨f,hff⟩:∃f:Nat,m.c9=(f:Int):=⟨m.c9.toNat,by omega⟩
   have hvo:A3 96 S5 (f6a m.g8.toNat v0++m.a7):=a37 (by simp;omega) (by
    intro v hv;rcases f6b.1 hv with q|q
    ·rw [(f6X.1 q).2];exact .inl rfl
    ·exact hkd.1.2 v q)
   have hz:∀v∈f6a m.g8.toNat v0++m.a7,v.a8<=0->v=v0:=by
    intro v hv hb;rcases f6b.1 hv with q|q
    ·exact (f6X.1 q).2
    ·exact (hkd.1.2 v q).zero hb
   rw [hff,t9 (show f<n.c9.length by omega),f5Y,e8x (a37 (by omega) hkd.1.2) hkd.1.1 hs,f5Y,e5f (a37 (by have:=hl.2.bl;omega) hl.2.bs) hvo (by have:=hl.2.bl;omega) (by simp;omega) hz,f5Y,c7N (b96 (by simp;omega)),f5Y];cases htw:N1 (n.c9.set (f:Int).toNat true)
   ·simp only [f6H,f8v,f8w]
   ·simp only [f6f,f8w,f8v];have hbl:=a8F n.i5 (f6a m.g8.toNat v0++m.a7);have hob:=hl.2.bl;have hlen:(f6a m.g8.toNat v0++m.a7).length<=40:=by simp;omega
    obtain ⟨h1,h2,h3,h4,h5,h6,h7,h8,h9,h10,h11,h12,h13⟩:=h.ok;rw [b3a (n:=⟨n.Id,n.Acc,n.a5,n.Seq,2,n.a8,[],E1 n.i5 (f6a m.g8.toNat v0++m.a7),n.d6,n.a7,n.i9,n.i7,n.b7,n.d9⟩) ⟨h1,h2,h3,h4,A4 (n:=2) (by omega),h6,U7,a37 (by show (E1 n.i5 (f6a m.g8.toNat v0++m.a7)).length<=1000;omega) (fun v hv=>(a9M hv).elim (fun q=>hl.2.bs v q) (fun q=>(f6b.1 q).elim (fun q=>by rw [(f6X.1 q).2];exact .inl rfl) (hkd.1.2 v))),h9,h10,h11,h12,h13⟩ h.id,f5Y]
  ·rfl
 ·rw [show (n.d8 != 1)=true by simpa using p1];rfl
theorem a04(id:Int)(m:l9):(I6 id m).length<=3:=by
 unfold I6;rw [f6W];exact List.length_filter_le _ _
theorem a8I(n:j7):(L3 n).2.length<=3:=by
 unfold L3 a5O;cases n.d8 != 2||decide (40<=n.a5.length)
 ·simp only [f8w];cases a0O n with
  | mk x o=>
   cases o with
   | none=>simp
   | some e=>
    simp only;cases K3 x.Acc x.a8 (x.a5.length:Int) e with
    | none=>simp
    | some a=>exact a04 _ _
 ·simp
theorem f4M{n:j7}(h:NI n){m:l9}(hm:MI m):b8a n m=some (a2F n m):=by
 have hf:=hm.fr;unfold b8a a2F;by_cases p3:n.d8=3
 ·rw [show (n.d8 != 3)=false by simp [p3],f6N];simp only [f8w];cases hb:m.a8 != n.a8
  ·simp only [f8w,f6N];cases hs:m.g8 != (n.a5.length:Int)
   ·simp only [f8w];have hl:n.a7.length=3/\z5 n.d6=true/\n.a5.length<40:=by
     rcases h.ld with q|q|q|q
     ·omega
     ·omega
     ·omega
     ·exact ⟨q.2.2.2.2.1,q.2.2.2.1,q.2.2.2.2.2.2⟩
    obtain ⟨f,hff⟩:∃f:Nat,m.c9=(f:Int):=⟨m.c9.toNat,by omega⟩
    have hcur:=a3k hl.2.1;rw [hff,t9 (show f<n.a7.length by omega),f5Y,c7N (b96 (by simp;omega)),f5Y];cases htw:N1 (n.a7.set (f:Int).toNat true)
    ·simp only [f6H,f8v,f8w]
    ·simp only [f6f,f8w,f8v];obtain ⟨h1,h2,h3,h4,h5,h6,h7,h8,h9,h10,h11,h12,h13⟩:=h.ok;rw [a0Q hcur,f5Y,a6Q h.id (a8L (A4 (by omega)) a0p (A4 (by omega)) hcur U7),f5Y,
      d08 (n:={n with a7:=n.a7.set (f:Int).toNat true}) ⟨h1,h2,h3,h4,h5,h6,h7,h8,h9,a0B (by simp;omega) (fun _ _=>trivial),h11,h12,h13⟩ h.id h.list hl.2.2 hcur hl.2.1,f5Y,v6]
     have e1:=a04 n.Id ⟨5,0,0,0,(n.a5.length:Int),n.d6,[]⟩;have e2:=a8I (U8 (E2 {n with a7:=n.a7.set (f:Int).toNat true} n.d6)).1;have e3:(Y3 {n with a7:=n.a7.set (f:Int).toNat true} n.d6).2.1.length<=3:=e2;omega
   ·rfl
  ·rfl
 ·rw [show (n.d8 != 3)=true by simpa using p3];rfl
theorem f0Y{n:j7}(h:NI n){m:l9}(hm:MI m)(hk:m.a9=5):b7J n m=some (a2M n m):=by
 have hkd:m.g8<40/\z5 m.i0=true:=by
  rcases hm.kd with q|q|q|q|q|q|q
  ·omega
  ·omega
  ·omega
  ·exact ⟨q.2.2.1,q.2.2.2.1⟩
  all_goals exact absurd q.1 (by omega)
 unfold b7J a2M;cases h1:decide (m.g8<(n.a5.length:Int))
 ·cases h2:decide (m.g8>(n.a5.length:Int))
  ·simp only [f8w];have hl:n.a5.length<40:=by simp at h1 h2;omega
   rw [d08 h.ok h.id h.list hl (a3k hkd.2) hkd.2,f5Y]
  ·rfl
 ·rfl
theorem e7Y{n:j7}(h:NI n){m:l9}(hm:MI m):b6t n m=some (a2b n m):=by
 have he:E9 m.i0:=hm.ok.2.2.2.2.2.1;have hql:=h.ql;unfold b6t a2b;rw [show decide ((n.d9.length:Int)>=4)=decide (4<=n.d9.length) by simp;omega,b5h (h.ok.2.2.1.fits (by decide)),a0Q he];cases n.d8==0
 ·simp only [f8w,f6N];cases decide (4<=n.d9.length)
  ·simp only [f8w,f6N,f5Y];cases N0 n.a5 m.i0.a0
   ·obtain ⟨h1,h2,h3,h4,h5,h6,h7,h8,h9,h10,h11,h12,h13⟩:=h.ok;simp only [f8w];rw [v6 (by omega),b3a (n:={n with d9:=n.d9++[m.i0]}) ⟨h1,h2,h3,h4,h5,h6,h7,h8,h9,h10,h11,h12,a0B (by simp;omega) (by
     intro x hx;rcases f6b.1 hx with q|q
     ·exact h13.2 x q
     ·rw [f6h.1 q];exact he)⟩ h.id,f5Y]
   ·rfl
  ·rfl
 ·rfl
theorem b9w{n:j7}(m:l9){k:Nat}(hk:k<n.a5.length):a1n n m k=[L9 m ⟨5,0,0,0,(k:Int),n.a5[k],[]⟩]:=by
 unfold a1n;rw [f5Z hk]
theorem d5i{n:j7}(h:NI n)(m:l9):∀(d k:Nat) (o:List l9),n.a5.length-k=d->o.length<=k->o9 (fun s:(List l9)×Int=>a6G n m s.1 s.2) (o,(k:Int))=some (.brk (o++((f6i d).map fun j=>a1n n m (k+j)).flatten))
 | 0,k,o,hd,ho=>by
  have hkl:=h.kl;refine (C8 (b:=o) ?_).trans (by simp);show a6G n m o (k:Int)=_
  unfold a6G;rw [show decide ((k:Int)<(n.a5.length:Int))=false by simp;omega];rfl
 | d+1,k,o,hd,ho=>by
  have hkl:=h.kl;have hlt:k<n.a5.length:=by omega
  have hb:a6G n m o (k:Int)=some (.nxt (o++a1n n m k,((k+1:Nat):Int))):=by
   unfold a6G;rw [x7 _ k hlt,t9 hlt,f8v,f5Y,a0Q (a3k (h.ks _ (f6c hlt))),f5Y,b91,f5Y,v6 (by simp;omega),b9w m hlt,F6 (h.ok.2.2.1.fits (by decide)) hlt]
  rw [D9 (body:=fun s:(List l9)×Int=>a6G n m s.1 s.2) (s:=(o,(k:Int))) hb,d5i h m d (k+1) _ (by omega) (by rw [b9w m hlt];simp;omega)];rw [List.range_succ_eq_map,f6L,f6E,f6r,f8e];simp only [f7J,Function.comp_def,Nat.succ_eq_add_one,Nat.add_assoc,Nat.add_comm 1]
theorem f1j{n:j7}(h:NI n){m:l9}(hs:0<=m.g8):b5M n m=some (a4n n m,n):=by
 unfold b5M a4n;obtain ⟨k,hk⟩:∃k:Nat,m.g8=(k:Int):=⟨m.g8.toNat,by omega⟩
 rw [hk];have:=d5i h m (n.a5.length-k) k [] rfl (by simp);rw [this];rfl
theorem e95{n:j7}(h:NI n){m:l9}(hm:MI m):b9L n m=some (W2 n m):=by
 unfold b9L W2;rw [e3i h.ok hm.sl.1,f4t hm.ok,f4M h hm,e7Y h hm,f1j h hm.sl.1,b6S];by_cases k1:m.a9=1
 ·simp [k1];rfl
 rw [show (m.a9==1)=false by simpa using k1];by_cases k2:m.a9=2
 ·rw [e6c h hm k2];simp [k2];rfl
 rw [show (m.a9==2)=false by simpa using k2];by_cases k3:m.a9=3
 ·simp [k3];rfl
 rw [show (m.a9==3)=false by simpa using k3];by_cases k4:m.a9=4
 ·simp [k4];rfl
 rw [show (m.a9==4)=false by simpa using k4];by_cases k5:m.a9=5
 ·rw [f0Y h hm k5];simp [k5];rfl
 rw [show (m.a9==5)=false by simpa using k5];by_cases k6:m.a9=6
 ·rw [show (m.a9==6)=true by simpa using k6];simp only [f8v,f8w,f5Y];cases I3 n.Acc m.a8<;>simp only [d7e,f5Y,Option.getD_none,f7s]<;>rfl
 rw [show (m.a9==6)=false by simpa using k6];by_cases k7:m.a9=7
 ·simp [k7];rfl
 rw [show (m.a9==7)=false by simpa using k7];cases m.a9==8
 ·rfl
 ·simp only [f8v,f8w,f5Y];rw [v6 trivial,v6 trivial,v6 trivial,v6 trivial,v6 trivial];rfl
theorem b5B{a x:z4}{b s:Int}{e:m6}(h:K3 a b s e=some x):∃k:Nat,s=(k:Int)/\k<40/\z5 e=true/\1<=b/\b<=3000/\a.i4<=b/\x=⟨b,(T5 a.a7 (k+1)).set k ⟨b,e⟩⟩:=by
 unfold K3 at h;cases hq:q8 s 0 39&&z5 e
 ·rw [hq] at h;cases h
 ·rw [hq,f8v] at h;simp only [f6d,H8] at hq;cases hp:I3 a b with
  | none=>rw [hp] at h;cases h
  | some y=>
   rw [hp] at h;obtain ⟨rfl,h1,h2,h3⟩:=a3L hp;injection h with h;refine ⟨s.toNat,by omega,by omega,hq.2,h1,h2,h3,h.symm⟩
theorem b70{a:z4}{b:Int}(h1:1<=b)(h2:b<=3000)(h3:a.i4<=b):I3 a b=some ⟨b,a.a7⟩:=by
 unfold I3 b0J;rw [H8.2 ⟨h1,h2⟩,show decide (a.i4<=b)=true by simpa using h3];rfl
theorem f0v{a:z4}{b:Int}{k:Nat}{e:m6}(hk:k<40)(he:z5 e=true)(h1:1<=b)(h2:b<=3000)(h3:a.i4<=b):K3 a b (k:Int) e=some ⟨b,(T5 a.a7 (k+1)).set k ⟨b,e⟩⟩:=by
 unfold K3;rw [H8.2 (show 0<=(k:Int)/\(k:Int)<=39 by omega),he,b70 h1 h2 h3];rfl
theorem c4t{vs:List m9}{n:Nat}{v:m9}(h:v∈T5 vs n):v∈vs\/v=v0:=by
 rcases f6b.1 h with q|q
 ·exact .inl q
 ·exact .inr (f6X.1 q).2
theorem d3b{α:Type}{l:List α}{k:Nat}{x v:α}(h:v∈l.set k x):v∈l\/v=x:=f6K h
theorem NI.queue{n:j7}(h:NI n){q:List m6}(hl:q.length<=4)(hm:∀e∈q,z5 e=true/\e.i8=false):NI {n with d9:=q}:=
 ⟨h.id,h.pr,h.vl,h.vs,h.kl,h.ks,h.sq,hl,hm,h.ld,h.wt⟩
theorem NI.down{n:j7}(h:NI n):NI (a3K n):=
 ⟨h.id,h.pr,h.vl,h.vs,h.kl,h.ks,h.sq,h.ql,h.qs,.inl ⟨rfl,rfl,rfl,rfl,rfl,rfl⟩,h.wt⟩
theorem NI.freeN{n:j7}(h:NI n):NI (a7f n):=
 ⟨h.id,h.pr,h.vl,h.vs,h.kl,h.ks,h.sq,h.ql,h.qs,h.ld,.inr ⟨rfl,rfl,rfl⟩⟩
theorem NI.acc{n:j7}(h:NI n){a:z4}(h1:0<=a.i4/\a.i4<=3000)(h2:a.a7.length<=40)(h3:∀v∈a.a7,VI v/\v.a8<=a.i4)(h4:n.Acc.i4<=a.i4):NI {n with Acc:=a}:=by
 have ho:Own n->Own {n with Acc:=a}:=fun o=>⟨o.b1,o.b2,o.mod,f6Z o.pr h4,o.bl,o.bs⟩
 refine ⟨h.id,h1,h2,h3,h.kl,h.ks,h.sq,h.ql,h.qs,?_,h.wt⟩;rcases h.ld with q|q|q|q
 ·exact .inl q
 ·exact .inr (.inl ⟨q.1,ho q.2.1,q.2.2⟩)
 ·exact .inr (.inr (.inl ⟨q.1,ho q.2.1,q.2.2⟩))
 ·exact .inr (.inr (.inr ⟨q.1,ho q.2.1,q.2.2⟩))
theorem NI.promise{n:j7}(h:NI n){b:Int}{x:z4}(hp:I3 n.Acc b=some x):NI {n with Acc:=x}:=by
 obtain ⟨rfl,h1,h2,h3⟩:=a3L hp;exact h.acc ⟨by simp only;omega,h2⟩ h.vl (fun v hv=>⟨(h.vs v hv).1,f6Z (h.vs v hv).2 h3⟩) h3
theorem f3e{vs:List m9}{p b:Int}{k:Nat}{e:m6}(hk:k<40)(hl:vs.length<=40)(hv:∀v∈vs,VI v/\v.a8<=p)(he:z5 e=true)(h1:1<=b)(h2:b<=3000)(h3:p<=b) :
  ((T5 vs (k+1)).set k ⟨b,e⟩).length<=40/\∀v∈(T5 vs (k+1)).set k ⟨b,e⟩,VI v/\v.a8<=b:=by
 refine ⟨by rw [f7y,b5l];omega,fun v hm => ?_⟩;rcases d3b hm with q|q
 ·rcases c4t q with q|q
  ·exact ⟨(hv v q).1,f6Z (hv v q).2 h3⟩
  ·rw [q];exact ⟨.inl rfl,by show (0:Int)<=b;omega⟩
 ·rw [q];exact ⟨.inr ⟨h1,h2,he⟩,f6B _⟩
theorem NI.cast{n:j7}(h:NI n){b s:Int}{e:m6}{x:z4}(hc:K3 n.Acc b s e=some x):NI {n with Acc:=x}:=by
 obtain ⟨k,rfl,hk,he,h1,h2,h3,rfl⟩:=b5B hc;obtain ⟨a,b'⟩:=f3e hk h.vl h.vs he h1 h2 h3;exact h.acc ⟨by simp only;omega,h2⟩ a b' h3
theorem NI.yield{n:j7}(h:NI n)(b:Int):NI (N3 n b):=by
 unfold N3;cases n.d8 != 0&&decide (b>n.a8)
 ·exact h
 ·exact h.down
theorem c1l{id:Int}(h:0<=id/\id<=2):(a1j id).length=3/\(a1j id)[id.toNat]?=some true:=by
 unfold a1j;refine ⟨by simp,?_⟩;rw [f7p (by simp;omega)]
theorem a2L.right{n:j7}(h:NI n){e:m6}(hn:a2L n e):z5 e=true:=by
 cases hn with
 | best v hv hb=>exact (h.ld.best.2 v (f6o hv)).pos hb
 | gap=>rfl
 | want hb=>
  rcases h.wt with q|q
  ·exact q.2.2.1
  ·rw [hb] at q;cases q.1
 | queue e hq=>exact (h.qs e hq).1
theorem a32{id:Int}{m x:l9}(hid:0<=id/\id<=2)(h:x∈I6 id m):∃t:Int,0<=t/\t<=2/\t≠id/\x={m with c9:=id,To:=t}:=by
 unfold I6 at h;obtain ⟨t,ht,rfl⟩:=f6G.1 h;obtain ⟨h1,h2⟩:=f7g.1 ht;refine ⟨t,?_,?_,by simpa using h2,rfl⟩;all_goals simp at h1;omega
theorem a6x{id:Int}{m:l9}(hid:0<=id/\id<=2)(hk:U4 m)(hs:0<=m.g8/\m.g8<=40):∀x∈I6 id m,MI x:=by
 intro x hx;obtain ⟨t,h1,h2,h3,rfl⟩:=a32 hid hx;exact ⟨hid,⟨h1,h2⟩,fun q=>h3 q.symm,hs,hk⟩
theorem b0I{m o:l9}(hm:MI m)(hk:U4 o)(hs:0<=o.g8/\o.g8<=40):MI (L9 m o):=⟨hm.to,hm.fr,fun q=>hm.ne q.symm,hs,hk⟩
theorem U4.one{k b s:Int}(hk:k=1\/k=4)(hb:1<=b/\b<=3000):U4 ⟨k,0,0,b,s,zE,[]⟩:=.inl ⟨hk,hb,rfl,rfl⟩
theorem U4.accept{b s:Int}{e:m6}(hb:1<=b/\b<=3000)(hs:s<40)(he:z5 e=true):U4 ⟨3,0,0,b,s,e,[]⟩:=.inr (.inr (.inl ⟨rfl,hb,hs,he,rfl⟩))
theorem U4.chosen{s:Int}{e:m6}(hs:s<40)(he:z5 e=true):U4 ⟨5,0,0,0,s,e,[]⟩:=.inr (.inr (.inr (.inl ⟨rfl,rfl,hs,he,rfl⟩)))
theorem U4.refuse{b:Int}(hb:1<=b/\b<=3000):U4 ⟨6,0,0,b,0,zE,[]⟩:=.inr (.inr (.inr (.inr (.inl ⟨rfl,hb,rfl,rfl,rfl⟩))))
theorem U4.ask{e:m6}(he:z5 e=true)(hn:e.i8=false):U4 ⟨7,0,0,0,0,e,[]⟩:=.inr (.inr (.inr (.inr (.inr (.inl ⟨rfl,rfl,rfl,he,hn,rfl⟩)))))
theorem U4.need{s:Int}:U4 ⟨8,0,0,0,s,zE,[]⟩:=.inr (.inr (.inr (.inr (.inr (.inr ⟨rfl,rfl,rfl,rfl⟩)))))
structure T8(n:j7)(x:j7×List l9):Prop where
 ni:NI x.1
 id:x.1.Id=n.Id
 ms:∀m∈x.2,MI m
theorem T8.same{n:j7}(h:NI n):T8 n (n,[]):=⟨h,rfl,by simp⟩
theorem T8.to{n n':j7}(hi:n'.Id=n.Id){x:j7×List l9}(h:T8 n' x):T8 n x:=⟨h.ni,h.id.trans hi,h.ms⟩
theorem b0t{n:j7}(h:NI n):T8 n (L3 n):=by
 unfold L3;cases hc:n.d8 != 2||decide (40<=n.a5.length)
 ·simp only [f8w];simp only [f7o,bne_eq_false_iff_eq,decide_eq_false_iff_not] at hc;obtain ⟨q,hq,hql,hqm,hqe⟩:=a9w n;cases hx:a0O n with
  | mk x o=>
  rw [hx] at hq hqe;have hq:x={n with d9:=q}:=hq;have hn:NI {n with d9:=q}:=h.queue (by have:=h.ql;omega) fun e he=>h.qs e (hqm e he)
  subst hq;cases o with
  | none=>exact ⟨hn,rfl,by simp⟩
  | some e=>
   have he:=(hqe e rfl).right h;simp only [a5O];have ho:Own n:=by
    rcases h.ld with q|q|q|q
    ·omega
    ·omega
    ·exact q.2.1
    ·omega
   cases hcs:K3 n.Acc n.a8 (n.a5.length:Int) e with
   | none=>exact ⟨hn.down,rfl,by simp⟩
   | some a=>
    have hac:=hn.cast (b:=n.a8) (s:=(n.a5.length:Int)) (e:=e) hcs;obtain ⟨k,hk,hk40,_,h1,h2,h3,rfl⟩:=b5B hcs;refine ⟨⟨h.id,hac.pr,hac.vl,hac.vs,h.kl,h.ks,h.sq,hn.ql,hn.qs,?_,h.wt⟩,rfl,a6x h.id (.accept ⟨h1,h2⟩ (by omega) he) (by simp only;omega)⟩;refine .inr (.inr (.inr ⟨rfl,⟨ho.b1,ho.b2,ho.mod,f6B _,ho.bl,ho.bs⟩,?_,he,(c1l h.id).1,(c1l h.id).2,by simp only;omega⟩));rcases h.ld with q|q|q|q
    ·omega
    ·omega
    ·exact q.2.2.1
    ·omega
 ·exact .same h
theorem NI.know{n:j7}(h:NI n){e:m6}(he:z5 e=true)(hl:n.a5.length<40):NI (E2 n e):=by
 have hks:∀x∈n.a5++[e],z5 x=true:=by
  intro x hx;rcases f6b.1 hx with q|q
  ·exact h.ks x q
  ·rw [f6h.1 q];exact he
 have hkl:(n.a5++[e]).length<=40:=by simp;omega
 unfold E2;by_cases p3:n.d8=3
 ·rw [show (n.d8==3)=true by simpa using p3];refine ⟨h.id,h.pr,h.vl,h.vs,hkl,hks,h.sq,h.ql,h.qs,?_,h.wt⟩;rcases h.ld with q|q|q|q
  ·omega
  ·omega
  ·omega
  ·exact .inr (.inr (.inl ⟨rfl,⟨q.2.1.b1,q.2.1.b2,q.2.1.mod,q.2.1.pr,q.2.1.bl,q.2.1.bs⟩,q.2.2.1,rfl,rfl⟩))
 ·rw [show (n.d8==3)=false by simpa using p3];refine ⟨h.id,h.pr,h.vl,h.vs,hkl,hks,h.sq,h.ql,h.qs,?_,h.wt⟩;rcases h.ld with q|q|q|q
  ·exact .inl q
  ·exact .inr (.inl ⟨q.1,⟨q.2.1.b1,q.2.1.b2,q.2.1.mod,q.2.1.pr,q.2.1.bl,q.2.1.bs⟩,q.2.2⟩)
  ·exact .inr (.inr (.inl ⟨q.1,⟨q.2.1.b1,q.2.1.b2,q.2.1.mod,q.2.1.pr,q.2.1.bl,q.2.1.bs⟩,q.2.2⟩))
  ·exact absurd q.1 p3
theorem f4L{s:u7}{e:m6}(hn:e.i8=false):0<=(apply s e).2/\(apply s e).2<=4:=by
 have hf:0<=(O0 s e).2/\(O0 s e).2<=4:=by
  unfold O0;cases a0V s.g9 e.b8
  ·exact ⟨by simp,by simp⟩
  ·cases e.b8.Code==0<;>exact ⟨by simp,by simp⟩
 unfold apply;rw [hn];simp only [f8w];cases s.j4.find? fun d=>d.a0.c8==e.a0.c8 with
 | none=>exact hf
 | some d=>
  simp only;cases d.a0.Seq==e.a0.Seq
  ·cases decide (d.a0.Seq>e.a0.Seq)
   ·exact hf
   ·exact ⟨by simp,by simp⟩
  ·exact ⟨by simp,by simp⟩
theorem b2U{l:List m6}{q:o7}{k:Nat}(h:l.findIdx? (F4 q)=some k):∃hk:k<l.length,l[k].i8=false/\l[k].a0=q:=by
 rw [f6Y] at h;obtain ⟨hk,h1,_⟩:=h;unfold F4 at h1;simp only [f6d,f6J] at h1;exact ⟨hk,h1.1,b1k.1 h1.2⟩
theorem c2m{l:List m6}(h:G6 l=true){k:Nat}(hk:k<l.length):Q4 l k=(apply (s5 (l.take k)).1 l[k]).2:=by
 obtain ⟨a,b⟩:=a07 h;unfold Q4;rw [d7b a b hk];rfl
theorem e5t{l:List m6}(h:∀e∈l,z5 e=true)(q:o7):-1000000<=U2 l q/\U2 l q<=1000000:=by
 unfold U2;cases hf:l.findIdx? (F4 q) with
 | none=>exact ⟨by simp,by simp⟩
 | some k=>
  obtain ⟨hk,h1,h2⟩:=b2U hf;simp only [f5Z hk];exact (a3r (a3Q (h _ (f6c hk)) h1).2.2.1).2.1
theorem d8d{n:j7}(h:NI n):NI (U8 n).1/\∀t∈(U8 n).2,T0 t=true:=by
 rcases a9p n with q|⟨k,hb,hk,q⟩<;>rw [q]
 ·exact ⟨h,by simp⟩
 ·refine ⟨h.freeN,fun t ht => ?_⟩;obtain ⟨hkl,h1,h2⟩:=b2U hk;have ht:=f6h.1 ht;subst ht;have hw:n.b7.a0=⟨n.Id,n.Seq⟩/\z5 n.b7=true/\n.b7.i8=false:=by
   rcases h.wt with q|q
   ·exact ⟨q.2.2.2.2,q.2.2.1,q.2.2.2.1⟩
   ·rw [hb] at q;cases q.1
  obtain ⟨w1,w2,_⟩:=a3Q hw.2.1 hw.2.2;have hc:=f4L (s:=(s5 (n.a5.take k)).1) h1;rw [<-c2m h.list hkl] at hc;have hv:=e5t h.ks n.b7.a0;unfold T0;simp only [f6d,H8,beq_iff_eq];refine ⟨h.id,⟨w1,w2⟩,by rw [hw.1],hc,?_⟩;cases Q4 n.a5 k==0
  ·exact ⟨by simp,by simp⟩
  ·exact hv
structure a5Y(n:j7)(x:j7×List l9×List n5):Prop where
 ni:NI x.1
 id:x.1.Id=n.Id
 ms:∀m∈x.2.1,MI m
 ts:∀t∈x.2.2,T0 t=true
theorem T8.three{n:j7}{x:j7×List l9}(h:T8 n x):a5Y n (x.1,x.2,[]):=⟨h.ni,h.id,h.ms,by simp⟩
theorem a5Y.same{n:j7}(h:NI n):a5Y n (n,[],[]):=⟨h,rfl,by simp,by simp⟩
theorem d6M{n:j7}(h:NI n){e:m6}(he:z5 e=true)(hl:n.a5.length<40):a5Y n (Y3 n e):=by
 have h1:=h.know he hl;obtain ⟨h2,h3⟩:=d8d h1;have h4:=b0t h2;exact ⟨h4.ni,h4.id.trans ((c79 _).trans (b8G _ _)),h4.ms,h3⟩
theorem e9O{a:z4}{b:Int}(h:I3 a b=none)(hb:1<=b/\b<=3000):b<a.i4:=by
 by_cases q:a.i4<=b
 ·rw [b70 hb.1 hb.2 q] at h;cases h
 ·omega
theorem d3j{n:j7}(h:NI n){m:l9}(hm:MI m)(hk:m.a9=1):T8 n (a15 n m):=by
 have hb:1<=m.a8/\m.a8<=3000:=by
  rcases hm.kd with q|q|q|q|q|q|q
  ·exact q.2.1
  all_goals exact absurd q.1 (by omega)
 have hs:=hm.sl;unfold a15;cases hp:I3 n.Acc m.a8 with
 | none=>
  have:=e9O hp hb;refine ⟨h,rfl,fun x hx => ?_⟩;rw [f6h.1 hx];exact b0I hm (.refuse (by have:=h.pr;omega)) (by simp)
 | some a=>
  have hn:=(h.promise hp).yield m.a8;obtain ⟨rfl,_⟩:=a3L hp;refine ⟨hn,?_,fun x hx => ?_⟩
  ·simp only [N3];cases n.d8 != 0&&decide (m.a8>n.a8)<;>rfl
  ·rw [f6h.1 hx];have hvl:=h.vl;refine b0I hm (.inr (.inl ⟨rfl,hb,rfl,⟨by simp;omega,fun v hv=>(h.vs v (f7d hv)).1⟩,by simp;omega⟩)) hs
theorem a6T(n:j7)(b:Int):(N3 n b).Id=n.Id:=by
 unfold N3;cases n.d8 != 0&&decide (b>n.a8)<;>rfl
theorem f4c{a:z4}{b:Int}{k:Nat}{e:m6}(h:K3 a b (k:Int) e=none)(hk:k<40)(he:z5 e=true)(hb:1<=b/\b<=3000):b<a.i4:=by
 by_cases q:a.i4<=b
 ·rw [f0v hk he hb.1 hb.2 q] at h;cases h
 ·omega
theorem d6i{n:j7}(h:NI n){m:l9}(hm:MI m)(hk:m.a9=3):T8 n (a1U n m):=by
 have hb:(1<=m.a8/\m.a8<=3000)/\m.g8<40/\z5 m.i0=true:=by
  rcases hm.kd with q|q|q|q|q|q|q
  ·omega
  ·omega
  ·exact ⟨q.2.1,q.2.2.1,q.2.2.2.1⟩
  all_goals exact absurd q.1 (by omega)
 have hs:=hm.sl;obtain ⟨k,hsk⟩:∃k:Nat,m.g8=(k:Int):=⟨m.g8.toNat,by omega⟩
 unfold a1U;cases hp:K3 n.Acc m.a8 m.g8 m.i0 with
 | none=>
  rw [hsk] at hp;have:=f4c hp (by omega) hb.2.2 hb.1;refine ⟨h,rfl,fun x hx => ?_⟩;rw [f6h.1 hx];exact b0I hm (.refuse (by have:=h.pr;omega)) (by simp)
 | some a=>
  refine ⟨(h.cast hp).yield m.a8,a6T _ _,fun x hx => ?_⟩;rw [f6h.1 hx];exact b0I hm (.one (.inr rfl) hb.1) hs
theorem c1b{n:j7}(h:NI n){m:l9}(hm:MI m)(hk:m.a9=2):T8 n (a1W n m):=by
 have hkd:(m.a7.length<=40/\∀v∈m.a7,VI v)/\m.g8+m.a7.length<=40:=by
  rcases hm.kd with q|q|q|q|q|q|q
  ·omega
  ·exact ⟨q.2.2.2.1,q.2.2.2.2⟩
  all_goals exact absurd q.1 (by omega)
 have hs:=hm.sl;have hf:=hm.fr;unfold a1W;cases hc:n.d8 != 1||m.a8 != n.a8
 ·simp only [f7o,bne_eq_false_iff_eq] at hc;simp only [f8w];have hl:Own n/\n.c9.length=3/\n.c9[n.Id.toNat]?=some true/\n.d6=zE/\n.a7=[]:=by
   rcases h.ld with q|q|q|q
   ·omega
   ·exact q.2
   all_goals exact absurd q.1 (by omega)
  have hbl:=a8F n.i5 (f6a m.g8.toNat v0++m.a7);have hob:=hl.1.bl;have hlen:(f6a m.g8.toNat v0++m.a7).length<=40:=by simp;omega
  have hbs:∀v∈E1 n.i5 (f6a m.g8.toNat v0++m.a7),VI v:=fun v hv=>(a9M hv).elim (fun q=>hl.1.bs v q) (fun q=>(f6b.1 q).elim (fun q=>by rw [(f6X.1 q).2];exact .inl rfl) (hkd.1.2 v))
  cases N1 (n.c9.set m.c9.toNat true)
  ·simp only [f8w];refine ⟨⟨h.id,h.pr,h.vl,h.vs,h.kl,h.ks,h.sq,h.ql,h.qs,.inr (.inl ⟨hc.1,⟨hl.1.b1,hl.1.b2,hl.1.mod,hl.1.pr,by show (E1 _ _).length<=40;omega,hbs⟩,by simp [hl.2.1],?_,hl.2.2.2.1,hl.2.2.2.2⟩),h.wt⟩,rfl,by simp⟩;show (n.c9.set m.c9.toNat true)[n.Id.toNat]?=some true
   by_cases q:m.c9.toNat=n.Id.toNat
   ·rw [q,f7p (by have:=h.id;omega)]
   ·rw [f6v q];exact hl.2.2.1
  ·simp only [f8v];refine T8.to (n:=n) (n':={n with c9:=[],i5:=E1 n.i5 (f6a m.g8.toNat v0++m.a7),d8:=2}) rfl (b0t ?_);exact ⟨h.id,h.pr,h.vl,h.vs,h.kl,h.ks,h.sq,h.ql,h.qs,.inr (.inr (.inl ⟨rfl,⟨hl.1.b1,hl.1.b2,hl.1.mod,hl.1.pr,by show (E1 _ _).length<=40;omega,hbs⟩,rfl,hl.2.2.2.1,hl.2.2.2.2⟩)),h.wt⟩
 ·exact .same h
theorem d4s{n:j7}(h:NI n){m:l9}(hm:MI m):a5Y n (a2F n m):=by
 have hf:=hm.fr;unfold a2F;cases hc:n.d8 != 3||(m.a8 != n.a8||m.g8 != (n.a5.length:Int))
 ·simp only [f7o,bne_eq_false_iff_eq] at hc;simp only [f8w];have hl:Own n/\n.c9=[]/\z5 n.d6=true/\n.a7.length=3/\n.a7[n.Id.toNat]?=some true/\n.a5.length<40:=by
   rcases h.ld with q|q|q|q
   ·omega
   ·omega
   ·omega
   ·exact q.2
  have hn:NI {n with a7:=n.a7.set m.c9.toNat true}:=by
   refine ⟨h.id,h.pr,h.vl,h.vs,h.kl,h.ks,h.sq,h.ql,h.qs,.inr (.inr (.inr ⟨hc.1,⟨hl.1.b1,hl.1.b2,hl.1.mod,hl.1.pr,hl.1.bl,hl.1.bs⟩,hl.2.1,hl.2.2.1,by simp [hl.2.2.2.1],?_,hl.2.2.2.2.2⟩)),h.wt⟩;show (n.a7.set m.c9.toNat true)[n.Id.toNat]?=some true
   by_cases q:m.c9.toNat=n.Id.toNat
   ·rw [q,f7p (by have:=h.id;omega)]
   ·rw [f6v q];exact hl.2.2.2.2.1
  cases N1 (n.a7.set m.c9.toNat true)
  ·exact ⟨hn,rfl,by simp,by simp⟩
  ·simp only [f8v];have hr:=d6M hn hl.2.2.1 hl.2.2.2.2.2;refine ⟨hr.ni,hr.id,fun x hx => ?_,hr.ts⟩;rcases f6b.1 hx with q|q
   ·exact a6x h.id (.chosen (by omega) hl.2.2.1) (by simp only;omega) x q
   ·exact hr.ms x q
 ·exact .same h
theorem c9e{n:j7}(h:NI n){m:l9}(hm:MI m)(hk:m.a9=5):a5Y n (a2M n m):=by
 have hkd:m.g8<40/\z5 m.i0=true:=by
  rcases hm.kd with q|q|q|q|q|q|q
  ·omega
  ·omega
  ·omega
  ·exact ⟨q.2.2.1,q.2.2.2.1⟩
  all_goals exact absurd q.1 (by omega)
 have hkl:=h.kl;unfold a2M;cases h1:decide (m.g8<(n.a5.length:Int))
 ·cases h2:decide (m.g8>(n.a5.length:Int))
  ·simp only [decide_eq_false_iff_not] at h1 h2;exact d6M h hkd.2 (by omega)
  ·refine ⟨h,rfl,fun x hx => ?_,by simp⟩;rw [f6h.1 hx];exact b0I hm .need (by simp only;omega)
 ·exact .same h
theorem d9F{n:j7}(h:NI n){m:l9}(hm:MI m)(hk:m.a9=7):T8 n (a2b n m):=by
 have hkd:z5 m.i0=true/\m.i0.i8=false:=by
  rcases hm.kd with q|q|q|q|q|q|q
  ·omega
  ·omega
  ·omega
  ·omega
  ·omega
  ·exact ⟨q.2.2.2.1,q.2.2.2.2.1⟩
  ·omega
 unfold a2b;cases hc:n.d8==0||(decide (4<=n.d9.length)||N0 n.a5 m.i0.a0)
 ·simp only [f8w];simp only [f7o,decide_eq_false_iff_not] at hc;refine T8.to (n:=n) (n':={n with d9:=n.d9++[m.i0]}) rfl (b0t (h.queue (by simp;omega) ?_));intro e he;rcases f6b.1 he with q|q
  ·exact h.qs e q
  ·rw [f6h.1 q];exact hkd
 ·exact .same h
theorem c6b{n:j7}(h:NI n){m:l9}(hm:MI m):∀x∈a4n n m,MI x:=by
 intro x hx;unfold a4n at hx;obtain ⟨l,hl,hx⟩:=f7b.1 hx;obtain ⟨j,hj,rfl⟩:=f6G.1 hl;have hkl:=h.kl;unfold a1n at hx;cases hg:n.a5[m.g8.toNat+j]? with
 | none=>rw [hg] at hx;cases hx
 | some e=>
  rw [hg] at hx;have hlt:=(f6g.1 hg).1;rw [f6h.1 hx];exact b0I hm (.chosen (by omega) (h.ks e (f6o hg))) (by simp only;omega)
theorem b4t{n:j7}(h:NI n){m:l9}(hm:MI m):a5Y n (W2 n m):=by
 unfold W2;by_cases k1:m.a9=1
 ·rw [show (m.a9==1)=true by simpa using k1];exact (d3j h hm k1).three
 rw [show (m.a9==1)=false by simpa using k1];by_cases k2:m.a9=2
 ·rw [show (m.a9==2)=true by simpa using k2];exact (c1b h hm k2).three
 rw [show (m.a9==2)=false by simpa using k2];by_cases k3:m.a9=3
 ·rw [show (m.a9==3)=true by simpa using k3];exact (d6i h hm k3).three
 rw [show (m.a9==3)=false by simpa using k3];by_cases k4:m.a9=4
 ·rw [show (m.a9==4)=true by simpa using k4];exact d4s h hm
 rw [show (m.a9==4)=false by simpa using k4];by_cases k5:m.a9=5
 ·rw [show (m.a9==5)=true by simpa using k5];exact c9e h hm k5
 rw [show (m.a9==5)=false by simpa using k5];by_cases k6:m.a9=6
 ·rw [show (m.a9==6)=true by simpa using k6];simp only [f8v,f8w];cases hp:I3 n.Acc m.a8 with
  | none=>exact ⟨h.yield _,a6T _ _,by simp,by simp⟩
  | some a=>exact ⟨(h.promise hp).yield _,a6T _ _,by simp,by simp⟩
 rw [show (m.a9==6)=false by simpa using k6];by_cases k7:m.a9=7
 ·rw [show (m.a9==7)=true by simpa using k7];exact (d9F h hm k7).three
 rw [show (m.a9==7)=false by simpa using k7];cases m.a9==8
 ·exact .same h
 ·exact ⟨h,rfl,c6b h hm,by simp⟩
structure e9Q(n x:j7):Prop where
 id:x.Id=n.Id
 known:x.a5=n.a5
 seq:x.Seq=n.Seq
 busy:x.i9=n.i9
 prog:x.i7=n.i7
 want:x.b7=n.b7
theorem b73(n:j7):e9Q n (L3 n).1:=by
 unfold L3;cases n.d8 != 2||decide (40<=n.a5.length)
 ·simp only [f8w];obtain ⟨q,hq,_⟩:=a9w n;cases hx:a0O n with
  | mk x o=>
  rw [hx] at hq;have hq:x={n with d9:=q}:=hq;subst hq;cases o with
  | none=>exact ⟨rfl,rfl,rfl,rfl,rfl,rfl⟩
  | some e=>
   simp only [a5O];cases K3 n.Acc n.a8 (n.a5.length:Int) e<;>exact ⟨rfl,rfl,rfl,rfl,rfl,rfl⟩
 ·exact ⟨rfl,rfl,rfl,rfl,rfl,rfl⟩
def a2w(n:j7):List n8:=(s5 n.a5).1.g9
theorem b6J{n:j7}(h:NI n):D1 (a2w n)=true:=by
 obtain ⟨a,b⟩:=a07 h.list;have:=(T2 a b n.a5.length (f6s _)).1.boxes;rwa [f6u] at this
theorem f2H{n:j7}(h:NI n):b80 n=some (s5 n.a5).1:=by
 unfold b80;rw [b04 h.ok,f5Y,a1i.2 h];simp only [f6f,f8w];rw [d8b (okEntries.f h.ok.2.2.1) h.list];rfl
theorem f3L{l:List n8}{p:List n9}(h:(C2 l p).Code≠3):E4 p=true:=by
 unfold C2 at h;cases hp:E4 p
 ·rw [hp,Bool.and_false] at h;exact absurd rfl h
 ·rfl
def Q0(n:j7)(prog:List n9):j7:={n with Seq:=n.Seq+1,i9:=true,i7:=prog,b7:=⟨false,⟨n.Id,n.Seq+1⟩,C2 (a2w n) prog⟩}
def K7(n:j7)(prog:List n9):Bool := !(n.i9||(n.Seq==1000||(C2 (a2w n) prog).Code==3))
theorem b6s{n:j7}{prog:List n9}:K7 n prog=true↔n.i9=false/\n.Seq≠1000/\(C2 (a2w n) prog).Code≠3:=by
 unfold K7;simp
theorem b22{n:j7}(h:NI n){prog:List n9}(hp:t0 prog)(hc:K7 n prog=true):z5 (Q0 n prog).b7=true/\E4 prog=true:=by
 obtain ⟨h1,h2,h3⟩:=b6s.1 hc;have hr:=(c3m (b6J h) hp).ok;have hs:=h.sq;have hid:=h.id;refine ⟨?_,f3L h3⟩;unfold z5 Q0;simp only [f8w,f6d,H8,hr,true_and,bne_iff_ne,ne_eq];exact ⟨⟨hid,by omega⟩,h3⟩
theorem NI.asked{n:j7}(h:NI n){prog:List n9}(hp:t0 prog)(hc:K7 n prog=true):NI (Q0 n prog):=by
 obtain ⟨h1,h2,h3⟩:=b6s.1 hc;obtain ⟨h4,h5⟩:=b22 h hp hc;have hs:=h.sq;exact ⟨h.id,h.pr,h.vl,h.vs,h.kl,h.ks,by show 0<=n.Seq+1/\n.Seq+1<=1000;omega,h.ql,h.qs,h.ld,.inl ⟨rfl,h5,h4,rfl,rfl⟩⟩
theorem a2k(n:j7)(prog:List n9):K5 n prog=bif K7 n prog then (bif n.d8==2 then L3 (Q0 n prog) else (Q0 n prog,bif n.d8==0 then I6 n.Id ⟨7,0,0,0,0,(Q0 n prog).b7,[]⟩ else [])) else (n,[]):=by
 unfold K5 K7 Q0 a2w;cases n.i9||(n.Seq==1000||(C2 (s5 n.a5).1.g9 prog).Code==3)<;>rfl
theorem e1y{n:j7}(h:NI n){prog:List n9}(hp:A3 32 okT prog):b8Y n prog=some ((K5 n prog).1,(K5 n prog).2,[]):=by
 have hf:t0 prog:=hp.fits (by decide);have hs:=h.sq;unfold b8Y;rw [b04 h.ok,f5Y,a1i.2 h,b4b h.ok,f2H h,a2k];simp only [f6f,f8w,f5Y];rw [show (s5 n.a5).1.g9=a2w n from rfl,e5V (a4z (b6J h)) hf,f5Y];cases hb:n.i9
 ·cases hq:n.Seq==1000
  ·cases hc:(C2 (a2w n) prog).Code==3
   ·have hca:K7 n prog=true:=by unfold K7;rw [hb,hq,hc];rfl
    have hn:=h.asked hf hca;rw [hca];simp only [f8v,f8w];rw [v6 (by have:=hp.1;simp;omega),C5 (by omega) (by omega)];cases h2:n.d8==2
    ·cases h0:n.d8==0
     ·rfl
     ·simp only [f8w,f8v];rw [a6Q h.id (show a0h ⟨7,0,0,0,0,⟨false,⟨n.Id,n.Seq+1⟩,C2 (a2w n) prog⟩,[]⟩ from a8L (A4 (by omega)) a0p a0p (a3k (b22 h hf hca).1) U7)];rfl
    ·simp only [f8v];rw [show (⟨n.Id,n.Acc,n.a5,n.Seq+1,n.d8,n.a8,n.c9,n.i5,n.d6,n.a7,true,[]++prog,⟨false,⟨n.Id,n.Seq+1⟩,C2 (a2w n) prog⟩,n.d9⟩:j7)=Q0 n prog from rfl,b3a hn.ok hn.id,f5Y]
   ·have hca:K7 n prog=false:=by unfold K7;rw [hb,hq,hc];rfl
    rw [hca];rfl
  ·have hca:K7 n prog=false:=by unfold K7;rw [hb,hq];rfl
   rw [hca];rfl
 ·have hca:K7 n prog=false:=by unfold K7;rw [hb];rfl
  rw [hca];rfl
theorem b0w{n:j7}(h:NI n){prog:List n9}(hp:t0 prog):T8 n (K5 n prog):=by
 rw [a2k];cases hc:K7 n prog
 ·exact .same h
 ·have hn:=h.asked hp hc;simp only [f8v];cases n.d8==2
  ·refine ⟨hn,rfl,fun x hx => ?_⟩;simp only [f8w] at hx;cases h0:n.d8==0
   ·rw [h0] at hx;cases hx
   ·rw [h0] at hx;exact a6x h.id (.ask (b22 h hp hc).1 rfl) (by simp) x hx
  ·exact T8.to (n:=n) (n':=Q0 n prog) rfl (b0t hn)
theorem b48{b who:Int}(hb:0<=b/\b<=3000)(hw:0<=who/\who<=2):M7 b who=-1\/(b<M7 b who/\M7 b who<=b+3/\M7 b who<=3000/\f6D (M7 b who) 3=who):=by
 unfold M7;cases h1:decide (b+1<=3000)&&(f6D (b+1) 3==who)
 ·cases h2:decide (b+2<=3000)&&(f6D (b+2) 3==who)
  ·cases h3:decide (b+3<=3000)&&(f6D (b+3) 3==who)
   ·exact .inl rfl
   ·simp only [f6d,decide_eq_true_eq,beq_iff_eq] at h3;exact .inr ⟨by simp only [f8v,f8w];omega,by simp only [f8v,f8w];omega,h3.1,h3.2⟩
  ·simp only [f6d,decide_eq_true_eq,beq_iff_eq] at h2;exact .inr ⟨by simp only [f8v,f8w];omega,by simp only [f8v,f8w];omega,h2.1,h2.2⟩
 ·simp only [f6d,decide_eq_true_eq,beq_iff_eq] at h1;exact .inr ⟨by simp only [f8v,f8w];omega,by simp only [f8v,f8w];omega,h1.1,h1.2⟩
theorem f2g{n:j7}(h:NI n):b49 n=some (X5 n):=by
 unfold b49 X5;rw [b04 h.ok,f5Y,a1i.2 h,b4b h.ok];simp only [f6f,f8w,f5Y];rw [e9A h.pr h.id,f5Y];cases hd:decide (M7 n.Acc.i4 n.Id<0)
 ·simp only [decide_eq_false_iff_not] at hd;rcases b48 h.pr h.id with q|⟨q1,q2,q3,q4⟩
  ·omega
  ·have hpr:=h.pr;have hkl:=h.kl;obtain ⟨y,hy⟩:=c2t h.id;simp only [f8w,b3d,f5Y,b6S,b70 (a:=n.Acc) (show 1<=M7 n.Acc.i4 n.Id by omega) q3 (by omega),hy,d8c h.ok.2.1.2];rw [v6 (by omega),v6 trivial,a6Q h.id (a8L (A4 (by omega)) (A4 (by omega)) (A4 (by omega)) a1c U7)];rfl
 ·rfl
theorem b0Z{n:j7}(h:NI n):T8 n (X5 n):=by
 unfold X5;cases hd:decide (M7 n.Acc.i4 n.Id<0)
 ·simp only [decide_eq_false_iff_not] at hd;have hpr:=h.pr;have hkl:=h.kl;rcases b48 h.pr h.id with q|⟨q1,q2,q3,q4⟩
  ·omega
  ·obtain ⟨m1,m2⟩:=c1l h.id;refine ⟨⟨h.id,⟨by simp only [f8w];omega,q3⟩,h.vl,fun v hv=>⟨(h.vs v hv).1,f6Z (h.vs v hv).2 (Int.le_of_lt q1)⟩,h.kl,h.ks,h.sq,h.ql,h.qs,.inr (.inl ⟨rfl,⟨by simp only [f8w];omega,q3,q4,f6B _,h.vl,fun v hv=>(h.vs v hv).1⟩,m1,m2,rfl,rfl⟩),h.wt⟩,rfl,?_⟩;exact a6x h.id (.one (.inl rfl) ⟨by omega,q3⟩) (by simp only;omega)
 ·exact .same h
theorem c9M{k b s:Int}(hk:0<=k/\k<=8)(hb:0<=b/\b<=3000)(hs:0<=s/\s<=40):a0h ⟨k,0,0,b,s,zE,[]⟩:=a8L (A4 (by omega)) (A4 (by omega)) (A4 (by omega)) a1c U7
theorem d97{n:j7}(h:NI n):b6d n=some ((V6 n).1,(V6 n).2,[]):=by
 have hkl:=h.kl;have hb:=h.ld.bal;have l1:=a04 n.Id ⟨8,0,0,0,(n.a5.length:Int),zE,[]⟩;unfold b6d V6;rw [b04 h.ok,f5Y,a1i.2 h,b4b h.ok];simp only [f6f,f8w,f5Y];rw [a6Q h.id (c9M (by omega) (by omega) (by omega)),f5Y];cases h1:n.d8==1
 ·cases h2:n.d8==2
  ·cases h3:n.d8==3
   ·cases hbz:n.i9
    ·rfl
    ·simp only [f8v,f8w];have l2:=a04 n.Id ⟨7,0,0,0,0,n.b7,[]⟩;have hw:E9 n.b7:=h.ok.2.2.2.2.2.2.2.2.2.2.2.1;rw [a6Q h.id (a8L (A4 (by omega)) a0p a0p hw U7),f5Y,v6 (by omega)];rfl
   ·simp only [f8v,f8w];have l2:=a04 n.Id ⟨3,0,0,n.a8,(n.a5.length:Int),n.d6,[]⟩;rw [a6Q h.id (a8L (A4 (by omega)) (A4 (by omega)) (A4 (by omega)) h.ld.from3.2.2 U7),f5Y,v6 (by omega)];rfl
  ·simp only [f8v,f8w];have l2:=a8I n;rw [b3a h.ok h.id,f5Y,v6 (by omega)];rfl
 ·simp only [f8v,f8w];have l2:=a04 n.Id ⟨1,0,0,n.a8,(n.a5.length:Int),zE,[]⟩;rw [a6Q h.id (c9M (by omega) (by omega) (by omega)),f5Y,v6 (by omega)];rfl
theorem a9u{n:j7}(h:NI n):T8 n (V6 n):=by
 have hkl:=h.kl;have hb:=h.ld.bal;have a1:∀x∈I6 n.Id ⟨8,0,0,0,(n.a5.length:Int),zE,[]⟩,MI x:=a6x h.id .need (by simp only;omega)
 have N1:∀{l:List l9},(∀x∈l,MI x)->∀x∈I6 n.Id ⟨8,0,0,0,(n.a5.length:Int),zE,[]⟩++l,MI x:=by
  intro l hl x hx;rcases f6b.1 hx with q|q
  ·exact a1 x q
  ·exact hl x q
 unfold V6;by_cases h1:n.d8=1
 ·rw [show (n.d8==1)=true by simpa using h1];refine ⟨h,rfl,N1 (a6x h.id (.one (.inl rfl) ?_) (by simp only;omega))⟩;rcases h.ld with q|q|q|q
  ·omega
  ·exact ⟨q.2.1.b1,q.2.1.b2⟩
  all_goals exact absurd q.1 (by omega)
 rw [show (n.d8==1)=false by simpa using h1];by_cases h2:n.d8=2
 ·rw [show (n.d8==2)=true by simpa using h2];have:=b0t h;exact ⟨this.ni,this.id,N1 this.ms⟩
 rw [show (n.d8==2)=false by simpa using h2];by_cases h3:n.d8=3
 ·rw [show (n.d8==3)=true by simpa using h3];rcases h.ld with q|q|q|q
  ·omega
  ·omega
  ·omega
  ·exact ⟨h,rfl,N1 (a6x h.id (.accept ⟨q.2.1.b1,q.2.1.b2⟩ (by omega) q.2.2.2.1) (by simp only;omega))⟩
 rw [show (n.d8==3)=false by simpa using h3];cases hbz:n.i9
 ·exact ⟨h,rfl,a1⟩
 ·rcases h.wt with q|q
  ·exact ⟨h,rfl,N1 (a6x h.id (.ask q.2.2.1 q.2.2.2.1) (by simp))⟩
  ·rw [hbz] at q;cases q.1
theorem d7n{n:j7}(h:NI n):c0e n=some (a0l n):=by
 unfold c0e;rw [b04 h.ok,f5Y,a1i.2 h,b4b h.ok];rfl
theorem NI.open{id:Int}(h:0<=id/\id<=2):NI (C6 id):=
 ⟨h,⟨by simp [C6],by simp [C6]⟩,by simp [C6],by simp [C6],by simp [C6],by simp [C6],⟨by simp [C6],by simp [C6]⟩,by simp [C6],by simp [C6],.inl ⟨rfl,rfl,rfl,rfl,rfl,rfl⟩,.inr ⟨rfl,rfl,rfl⟩⟩
theorem NI.fall{n:j7}(h:NI n):NI (a0l n):=
 ⟨h.id,h.pr,h.vl,h.vs,h.kl,h.ks,h.sq,by simp [a0l,C6],by simp [a0l,C6],.inl ⟨rfl,rfl,rfl,rfl,rfl,rfl⟩,.inr ⟨rfl,rfl,rfl⟩⟩
theorem d6k{l:List l9}(hl:t0 l)(ho:∀m∈l,a0h m):∀(d k:Nat) (net:List l9),l.length-k=d->o9 (fun s:(List l9)×Int=>a2S l s.1 s.2) (net,(k:Int))=some (.brk (net++(l.drop k).take (40-net.length)))
 | 0,k,net,hd=>by
  rw [f6y (by omega)];refine (C8 (b:=net) ?_).trans (by simp);show a2S l net (k:Int)=_
  unfold a2S;rw [show decide ((k:Int)<(l.length:Int))=false by simp;omega];rfl
 | d+1,k,net,hd=>by
  have hlt:k<l.length:=by omega
  by_cases hn:net.length<40
  ·have hb:a2S l net (k:Int)=some (.nxt (net++[l[k]],((k+1:Nat):Int))):=by
    unfold a2S;rw [x7 _ k hlt,show decide ((net.length:Int)<40)=true by simp;omega,f8v,f8v,t9 hlt,f5Y,b7r (ho _ (f6c hlt)),f5Y,v6 (by omega),F6 hl hlt]
   rw [D9 (body:=fun s:(List l9)×Int=>a2S l s.1 s.2) (s:=(net,(k:Int))) hb,d6k hl ho d (k+1) _ (by omega),f6w hlt];rw [show 40-net.length=(40-(net++[l[k]]).length)+1 by simp;omega,f7Y,f6r];rfl
  ·refine (C8 (b:=net) ?_).trans (by rw [show 40-net.length=0 by omega];simp);show a2S l net (k:Int)=_
   unfold a2S;rw [x7 _ k hlt,show decide ((net.length:Int)<40)=false by simp;omega];rfl
theorem a5H(w:m4){l:List l9}(hl:t0 l)(ho:∀m∈l,a0h m):a3q w l=some (a0R w l):=by
 unfold a3q;rw [show o9 (fun s:(List l9)×Int=>a2S l s.1 s.2) (w.b9,0)=_ from d6k hl ho l.length 0 w.b9 rfl];rfl
theorem d3y{l:List n5}(hl:t0 l):∀(d k:Nat) (o:List n5),l.length-k=d->o9 (fun s:(List n5)×Int=>a3w l s.1 s.2) (o,(k:Int))=some (.brk (o++(l.drop k).take (60-o.length)))
 | 0,k,o,hd=>by
  rw [f6y (by omega)];refine (C8 (b:=o) ?_).trans (by simp);show a3w l o (k:Int)=_
  unfold a3w;rw [show decide ((k:Int)<(l.length:Int))=false by simp;omega];rfl
 | d+1,k,o,hd=>by
  have hlt:k<l.length:=by omega
  by_cases hn:o.length<60
  ·have hb:a3w l o (k:Int)=some (.nxt (o++[l[k]],((k+1:Nat):Int))):=by
    unfold a3w;rw [x7 _ k hlt,show decide ((o.length:Int)<60)=true by simp;omega,f8v,f8v,t9 hlt,f5Y,v6 (by omega),F6 hl hlt]
   rw [D9 (body:=fun s:(List n5)×Int=>a3w l s.1 s.2) (s:=(o,(k:Int))) hb,d3y hl d (k+1) _ (by omega),f6w hlt];rw [show 60-o.length=(60-(o++[l[k]]).length)+1 by simp;omega,f7Y,f6r];rfl
  ·refine (C8 (b:=o) ?_).trans (by rw [show 60-o.length=0 by omega];simp);show a3w l o (k:Int)=_
   unfold a3w;rw [x7 _ k hlt,show decide ((o.length:Int)<60)=false by simp;omega];rfl
theorem a7S(w:m4){l:List n5}(hl:t0 l):a3S w l=some (a8q w l):=by
 unfold a3S;rw [show o9 (fun s:(List n5)×Int=>a3w l s.1 s.2) (w.Told,0)=_ from d3y hl l.length 0 w.Told rfl];rfl
theorem a28(w:m4):a8q w []=w:=by
 unfold a8q;simp
theorem c0E(w:m4):a0R w []=w:=by
 unfold a0R;simp
theorem e4w{w:m4}{k:Nat}(hk:k<w.b9.length)(hl:w.b9.length<=40):b2T w (k:Int)=some (a3c w (k:Int)):=by
 unfold b2T a3c;rw [v6 (by omega),v6 (by simp;omega),C5 (by omega) (by omega),v6 (by omega),v6 (by simp;omega)];simp only [f6V,f7J,f7t,Nat.sub_zero,f6A,f7i,show ((k:Int)+1).toNat=k+1 by omega];rw [f6S (l:=w.b9.drop (k+1)) (by simp)]
theorem a4o{w:m4}(h:WI w){i:Nat}(hi:i<3):∃n,w.a6[i]?=some n/\G8 w (i:Int)=n/\n.Id=(i:Int)/\NI n/\i<w.a6.length:=by
 have hl:=h.nl;have hg:=f5Z (l:=w.a6) (i:=i) (by omega);obtain ⟨h1,h2⟩:=h.ns i _ hg;refine ⟨_,hg,?_,h1,h2,by omega⟩;unfold G8;rw [f6A,f6p,hg];rfl
theorem WI.put{w:m4}(h:WI w){i:Nat}{n:j7}(hid:n.Id=(i:Int))(hn:NI n):WI (N5 w (i:Int) n):=by
 refine ⟨by simp [N5,h.nl],?_,h.ml,h.ms,h.al,h.aq,h.tl,h.ts⟩;intro j m hm;simp only [N5,f6A] at hm;by_cases q:i=j
 ·subst q;have hlt:=(f6g.1 hm).1;rw [f7y] at hlt;rw [f7p hlt] at hm;injection hm with hm;subst hm;exact ⟨hid,hn⟩
 ·rw [f6v q] at hm;exact h.ns j m hm
theorem WI.send{w:m4}(h:WI w){l:List l9}(hl:∀m∈l,MI m):WI (a0R w l):=by
 have:=h.ml;refine ⟨h.nl,h.ns,by simp only [a0R,f6l,f6t];omega,?_,h.al,h.aq,h.tl,h.ts⟩;intro m hm;rcases f6b.1 hm with q|q
 ·exact h.ms m q
 ·exact hl m (f7e q)
theorem WI.tell{w:m4}(h:WI w){l:List n5}(hl:∀t∈l,T0 t=true):WI (a8q w l):=by
 have:=h.tl;refine ⟨h.nl,h.ns,h.ml,h.ms,h.al,h.aq,by simp only [a8q,f6l,f6t];omega,?_⟩;intro m hm;rcases f6b.1 hm with q|q
 ·exact h.ts m q
 ·exact hl m (f7e q)
theorem WI.off{w:m4}(h:WI w)(i:Int):WI (a3c w i):=by
 have:=h.ml;refine ⟨h.nl,h.ns,by simp only [a3c,f6l,f6t,f7W];omega,?_,h.al,h.aq,h.tl,h.ts⟩;intro m hm;rcases f6b.1 hm with q|q
 ·exact h.ms m (f7e q)
 ·exact h.ms m (f7d q)
theorem b0c{l:List l9}(h:l.length<=100):t0 l:=by unfold t0;omega
theorem c0P(n:j7)(p:List n9):(K5 n p).2.length<=3:=by
 rw [a2k];cases K7 n p
 ·simp
 ·cases n.d8==2
  ·cases n.d8==0
   ·simp
   ·exact a04 _ _
  ·exact a8I _
theorem MI.okl{l:List l9}(h:∀m∈l,MI m):∀m∈l,a0h m:=fun m hm=>(h m hm).ok
theorem c3G(n:j7)(p:List n9):decide ((K5 n p).1.Seq>n.Seq)=K7 n p:=by
 rw [a2k];cases K7 n p
 ·simp
 ·simp only [f8v];cases n.d8==2
  ·simp [Q0];omega
  ·have:=(b73 (Q0 n p)).seq;simp only [f8v,this];simp [Q0];omega
theorem b41{n:j7}{p:List n9}(h:K7 n p=true):(K5 n p).1.b7=(Q0 n p).b7:=by
 rw [a2k,h];simp only [f8v];cases n.d8==2
 ·rfl
 ·exact (b73 (Q0 n p)).want
def f5e(w:m4)(a:x6):m4:={w with d7:=w.d7++[a]}
theorem WI.addAsked{w:m4}(h:WI w){a:x6}(hl:w.d7.length<60)(ha:Z2 a=true):WI (f5e w a):=by
 refine ⟨h.nl,h.ns,h.ml,h.ms,by simp only [f5e,f6l,f7k];omega,?_,h.tl,h.ts⟩;intro x hx;rcases f6b.1 hx with q|q
 ·exact h.aq x q
 ·rw [f6h.1 q];exact ha
theorem f2L{w:m4}(h:WI w){i:Nat}(hi:i<3){p:List n9}(hp:A3 32 okT p):b7W w (i:Int) p=some (a4g w (i:Int) p)/\WI (a4g w (i:Int) p):=by
 obtain ⟨n,hg,hn,hid,hni,hlt⟩:=a4o h hi;have hf:t0 p:=hp.fits (by decide);have hr:=b0w hni hf;have hln:=c0P n p;have hms:=MI.okl hr.ms;have hal:=h.al;unfold b7W a4g;rw [hn,show decide ((w.d7.length:Int)>=60)=decide (60<=w.d7.length) by simp;omega,a7y,hg,f5Y,e1y hni hp,f5Y];cases hd:decide (60<=w.d7.length)
 ·simp only [f8w];simp only [decide_eq_false_iff_not] at hd;rw [c3G];cases hc:K7 n p
  ·simp only [f8w];rw [a5H _ (b0c (by omega)) hms,f5Y,a7S _ (by simp [t0]),a28];exact ⟨rfl,(h.put (hr.id.trans hid) hr.ni).send hr.ms⟩
  ·simp only [f8v];rw [v6 (by have:=hp.1;simp;omega),v6 (by omega),a5H _ (b0c (by omega)) hms,f5Y,a7S _ (by simp [t0]),a28];refine ⟨rfl,WI.send (w:=N5 (f5e w ⟨(K5 n p).1.b7.a0,p⟩) (i:Int) (K5 n p).1) (WI.put (w:=f5e w ⟨(K5 n p).1.b7.a0,p⟩) (h.addAsked (by omega) ?_) (hr.id.trans hid) hr.ni) hr.ms⟩;rw [b41 hc];obtain ⟨w1,w2⟩:=b22 hni hf hc;obtain ⟨c1,c2,c3⟩:=b6s.1 hc;unfold Z2;have:=hni.id;have:=hni.sq;simp only [f6d,H8,w2,and_true];show (0<=n.Id/\n.Id<=2)/\1<=n.Seq+1/\n.Seq+1<=1000
   omega
 ·exact ⟨rfl,h⟩
theorem b69{n:j7}(h:NI n)(m:l9):(W2 n m).2.1.length<=60/\(W2 n m).2.2.length<=1:=by
 have hkl:=h.kl;have al:∀n:j7,(U8 n).2.length<=1:=fun n=>by
  rcases a9p n with q|⟨k,_,_,q⟩<;>rw [q]<;>simp
 have ll:∀(n:j7) (e:m6),(Y3 n e).2.1.length<=3/\(Y3 n e).2.2.length<=1:=fun n e=>⟨a8I _,al _⟩
 have nl:(a4n n m).length<=40:=by
  unfold a4n;have:∀d k:Nat,((f6i d).map fun j=>a1n n m (k+j)).flatten.length<=d:=by
   intro d k;rw [List.length_flatten,f8e];have hs:∀(l:List Nat),((l.map (List.length ∘ fun j=>a1n n m (k+j))).sum)<=l.length:=by
    intro l;induction l with
    | nil=>simp
    | cons x l ih=>
     simp only [f6L,List.sum_cons,f7j,Function.comp];have:(a1n n m (k+x)).length<=1:=by
      unfold a1n;cases n.a5[k+x]?<;>simp
     omega
   have:=hs (f6i d);rwa [List.length_range] at this
  have:=this (n.a5.length-m.g8.toNat) m.g8.toNat;omega
 unfold W2;cases m.a9==1
 ·cases m.a9==2
  ·cases m.a9==3
   ·cases m.a9==4
    ·cases m.a9==5
     ·cases m.a9==6
      ·cases m.a9==7
       ·cases m.a9==8
        ·exact ⟨by simp,by simp⟩
        ·exact ⟨by simp only [f8v,f8w];omega,by simp⟩
       ·refine ⟨?_,by simp⟩;simp only [f8v,f8w,a2b];cases n.d8==0||(decide (4<=n.d9.length)||N0 n.a5 m.i0.a0)
        ·exact f6M (a8I _) (by omega)
        ·simp
      ·exact ⟨by simp,by simp⟩
     ·simp only [f8v,f8w,a2M];cases decide (m.g8<(n.a5.length:Int))
      ·cases decide (m.g8>(n.a5.length:Int))
       ·have:=ll n m.i0;exact ⟨by simp only [f8w];omega,by simp only [f8w];omega⟩
       ·exact ⟨by simp,by simp⟩
      ·exact ⟨by simp,by simp⟩
    ·simp only [f8v,f8w,a2F];cases n.d8 != 3||(m.a8 != n.a8||m.g8 != (n.a5.length:Int))
     ·cases N1 (n.a7.set m.c9.toNat true)
      ·exact ⟨by simp,by simp⟩
      ·have h1:=ll {n with a7:=n.a7.set m.c9.toNat true} n.d6;have h2:=a04 n.Id ⟨5,0,0,0,(n.a5.length:Int),n.d6,[]⟩;exact ⟨by simp only [f8v,f8w,f6l];omega,by simp only [f8v,f8w];omega⟩
     ·exact ⟨by simp,by simp⟩
   ·refine ⟨?_,by simp⟩;simp only [f8v,f8w,a1U];cases K3 n.Acc m.a8 m.g8 m.i0<;>simp
  ·refine ⟨?_,by simp⟩;simp only [f8v,f8w,a1W];cases n.d8 != 1||m.a8 != n.a8
   ·cases N1 (n.c9.set m.c9.toNat true)
    ·simp
    ·exact f6M (a8I _) (by omega)
   ·simp
 ·refine ⟨?_,by simp⟩;simp only [f8v,a15];cases I3 n.Acc m.a8<;>simp
theorem f4x{w:m4}(h:WI w)(e:q9):b0B w e=some (a1d w e)/\WI (a1d w e):=by
 have hml:=h.ml;unfold b0B a1d;by_cases h0:e.A<0
 ·rw [show decide (e.A<0)=true by simpa using h0,show decide (0<=e.A)=false by simp;omega];exact ⟨rfl,h⟩
 ·obtain ⟨k,hk⟩:∃k:Nat,e.A=(k:Int):=⟨e.A.toNat,by omega⟩
  rw [hk,show decide ((k:Int)<0)=false by simp,show decide (0<=(k:Int))=true by simp,f6A];simp only [f8v,f8w];by_cases hl:k<w.b9.length
  ·rw [show decide ((k:Int)>=(w.b9.length:Int))=false by simp;omega,t9 hl,f5Z hl];have hm:=h.ms _ (f6c hl);generalize w.b9[k]=m at hm;simp only [f8w,f5Y,b7r hm.ok];cases e.a9==4
   ·simp only [f8w];rw [e4w hl hml];cases e.a9==3
    ·simp only [f8w,f5Y];have ho:=h.off (k:Int);have ht:=hm.to;obtain ⟨t,htt⟩:∃t:Nat,m.To=(t:Int):=⟨m.To.toNat,by omega⟩
     obtain ⟨n,hg,hn,hid,hni,hlt⟩:=a4o ho (i:=t) (by omega);have hn':G8 w (t:Int)=n:=hn;have hr:=b4t hni hm;obtain ⟨l1,l2⟩:=b69 hni m;rw [htt,a7y,hg,f5Y,e95 hni hm,f5Y,hn'];rw [a5H _ (b0c (by omega)) (MI.okl hr.ms),f5Y,a7S _ (by unfold t0;omega)];exact ⟨rfl,((ho.put (hr.id.trans hid) hr.ni).send hr.ms).tell hr.ts⟩
    ·exact ⟨rfl,h.off _⟩
   ·simp only [f8v];have hs:∀x∈[m],MI x:=fun x hx=>by rw [f6h.1 hx];exact hm
    rw [a5H _ (b0c (by simp)) (MI.okl hs)];exact ⟨rfl,h.send hs⟩
  ·rw [show decide ((k:Int)>=(w.b9.length:Int))=true by simp;omega,f6z (by omega)];exact ⟨rfl,h⟩
def K0(e:q9):Prop:=A3 32 okT e.i7
theorem c3C(n:j7):(V6 n).2.length<=6:=by
 have l0:=a04 n.Id ⟨8,0,0,0,(n.a5.length:Int),zE,[]⟩;unfold V6;cases n.d8==1
 ·cases n.d8==2
  ·cases n.d8==3
   ·cases n.i9
    ·simp only [f8w];omega
    ·have:=a04 n.Id ⟨7,0,0,0,0,n.b7,[]⟩;simp only [f8v,f8w,f6l];omega
   ·have:=a04 n.Id ⟨3,0,0,n.a8,(n.a5.length:Int),n.d6,[]⟩;simp only [f8v,f8w,f6l];omega
  ·have:=a8I n;simp only [f8v,f8w,f6l];omega
 ·have:=a04 n.Id ⟨1,0,0,n.a8,(n.a5.length:Int),zE,[]⟩;simp only [f8v,f6l];omega
theorem b5z(n:j7):(X5 n).2.length<=3:=by
 unfold X5;cases decide (M7 n.Acc.i4 n.Id<0)
 ·exact a04 _ _
 ·simp
theorem c1u{w:m4}{i:Nat}{n:j7}(h:w.a6[i]?=some n):N5 w (i:Int) n=w:=by
 unfold N5;rw [f6A];obtain ⟨hi,rfl⟩:=f6g.1 h;rw [f8g]
theorem e8s{w:m4}(h:WI w){i:Nat}(hi:i<3){p:List n9}(hp:A3 32 okT p):WI (a4g w (i:Int) p):=by
 obtain ⟨n,hg,hn,hid,hni,hlt⟩:=a4o h hi;have hf:t0 p:=hp.fits (by decide);have hr:=b0w hni hf;unfold a4g;rw [hn];cases hd:decide (60<=w.d7.length)
 ·simp only [f8w];simp only [decide_eq_false_iff_not] at hd;rw [c3G];cases hc:K7 n p
  ·simp only [f8w];exact (h.put (hr.id.trans hid) hr.ni).send hr.ms
  ·simp only [f8v];refine WI.send (w:=N5 (f5e w ⟨(K5 n p).1.b7.a0,p⟩) (i:Int) (K5 n p).1) (WI.put (w:=f5e w ⟨(K5 n p).1.b7.a0,p⟩) (h.addAsked (by omega) ?_) (hr.id.trans hid) hr.ni) hr.ms;rw [b41 hc];obtain ⟨w1,w2⟩:=b22 hni hf hc;obtain ⟨c1,c2,c3⟩:=b6s.1 hc;unfold Z2;have:=hni.id;have:=hni.sq;simp only [f6d,H8,w2,and_true];show (0<=n.Id/\n.Id<=2)/\1<=n.Seq+1/\n.Seq+1<=1000
   omega
 ·exact h
theorem d8w{w:m4}(h:WI w)(e:q9):WI (a1d w e):=by
 unfold a1d;by_cases h0:e.A<0
 ·rw [show decide (0<=e.A)=false by simp;omega];exact h
 ·obtain ⟨k,hk⟩:∃k:Nat,e.A=(k:Int):=⟨e.A.toNat,by omega⟩
  rw [hk,show decide (0<=(k:Int))=true by simp,f6A];simp only [f8v];by_cases hl:k<w.b9.length
  ·rw [f5Z hl];have hm:=h.ms _ (f6c hl);generalize w.b9[k]=m at hm;simp only;cases e.a9==4
   ·simp only [f8w];cases e.a9==3
    ·simp only [f8w];have ho:=h.off (k:Int);have ht:=hm.to;obtain ⟨t,htt⟩:∃t:Nat,m.To=(t:Int):=⟨m.To.toNat,by omega⟩
     obtain ⟨n,hg,hn,hid,hni,hlt⟩:=a4o ho (i:=t) (by omega);have hn':G8 w (t:Int)=n:=hn;have hr:=b4t hni hm;rw [htt,hn'];exact ((ho.put (hr.id.trans hid) hr.ni).send hr.ms).tell hr.ts
    ·exact h.off _
   ·simp only [f8v];have hs:∀x∈[m],MI x:=fun x hx=>by rw [f6h.1 hx];exact hm
    exact h.send hs
  ·rw [f6z (by omega)];exact h
theorem b51{w:m4}(h:WI w){e:q9}(he:A3 32 okT e.i7):WI (C0 w e):=by
 have n2:=d8w h e;unfold C0;cases e.a9==2||(e.a9==3||e.a9==4)
 ·simp only [f8w];cases hA:q8 e.A 0 2
  ·exact h
  rw [H8] at hA;obtain ⟨i,hi⟩:∃i:Nat,e.A=(i:Int):=⟨e.A.toNat,by omega⟩
  obtain ⟨n,hg,hn,hid,hni,hlt⟩:=a4o h (i:=i) (by omega);rw [hi,hn];simp only [f6f,f8w];cases e.a9==1
  ·cases e.a9==5
   ·cases e.a9==6
    ·cases e.a9==7
     ·exact h
     ·exact h.put hid hni.fall
    ·have hr:=a9u hni;exact (h.put (hr.id.trans hid) hr.ni).send hr.ms
   ·have hr:=b0Z hni;exact (h.put (hr.id.trans hid) hr.ni).send hr.ms
  ·exact e8s h (by omega) he
 ·exact n2
theorem c2j{w:m4}(h:WI w){e:q9}(he:K0 e):b03 w e=some (C0 w e)/\WI (C0 w e):=by
 obtain ⟨n1,n2⟩:=f4x h e;unfold b03 C0;rw [n1];cases e.a9==2
 ·cases e.a9==3
  ·cases e.a9==4
   ·simp only [f8w,Bool.or_self];by_cases h0:e.A<0
    ·rw [show decide (e.A<0)=true by simpa using h0,show q8 e.A 0 2=false by unfold q8;simp;omega];exact ⟨rfl,h⟩
    ·by_cases h3:e.A>=3
     ·rw [show decide (e.A<0)=false by simpa using h0,show decide (e.A>=3)=true by simpa using h3,show q8 e.A 0 2=false by unfold q8;simp;omega];exact ⟨rfl,h⟩
     ·obtain ⟨i,hi⟩:∃i:Nat,e.A=(i:Int):=⟨e.A.toNat,by omega⟩
      rw [show decide (e.A<0)=false by simpa using h0,show decide (e.A>=3)=false by simpa using h3,show q8 e.A 0 2=true by unfold q8;simp;omega,hi];simp only [f8w,f6f];obtain ⟨n,hg,hn,hid,hni,hlt⟩:=a4o h (i:=i) (by omega);rw [a7y,hg,f5Y,hn];cases e.a9==1
      ·simp only [f8w];cases e.a9==5
       ·simp only [f8w];cases e.a9==6
        ·simp only [f8w];cases e.a9==7
         ·simp only [f8w];rw [a5H _ (by simp [t0]) (by simp),f5Y,a7S _ (by simp [t0]),a28,c0E];exact ⟨congrArg some (c1u hg),h⟩
         ·simp only [f8v];rw [d7n hni,f5Y,a5H _ (by simp [t0]) (by simp),f5Y,a7S _ (by simp [t0]),a28,c0E];exact ⟨rfl,h.put hid hni.fall⟩
        ·simp only [f8v];have hr:=a9u hni;have hl:=c3C n;rw [d97 hni,f5Y,a5H _ (b0c (by omega)) (MI.okl hr.ms),f5Y,a7S _ (by simp [t0]),a28];exact ⟨rfl,(h.put (hr.id.trans hid) hr.ni).send hr.ms⟩
       ·simp only [f8v];have hr:=b0Z hni;have hl:=b5z n;rw [f2g hni,f5Y,a5H _ (b0c (by omega)) (MI.okl hr.ms),f5Y,a7S _ (by simp [t0]),a28];exact ⟨rfl,(h.put (hr.id.trans hid) hr.ni).send hr.ms⟩
      ·simp only [f8v];obtain ⟨a1,a2⟩:=f2L h (i:=i) (by omega) he;unfold c05;rw [hi,show (⟨w.a6.set (i:Int).toNat n,w.b9,w.d7,w.Told⟩:m4)=w from c1u hg,a1];exact ⟨rfl,a2⟩
   ·exact ⟨rfl,n2⟩
  ·exact ⟨rfl,n2⟩
 ·exact ⟨rfl,n2⟩
theorem WI.open:WI M4:=by
 refine ⟨rfl,?_,by simp [M4],by simp [M4],by simp [M4],by simp [M4],by simp [M4],by simp [M4]⟩;intro i n hn;match i,hn with
 | 0,hn=>injection hn with hn;subst hn;exact ⟨rfl,.open (by omega)⟩
 | 1,hn=>injection hn with hn;subst hn;exact ⟨rfl,.open (by omega)⟩
 | 2,hn=>injection hn with hn;subst hn;exact ⟨rfl,.open (by omega)⟩
 | i+3,hn=>simp [M4] at hn
theorem c9C:b3q=some M4:=by
 have e:∀(ns:List j7) (i:Nat),i<3->ns.length<=3->a4u ns (i:Int)=some (.nxt (ns++[C6 (i:Int)],((i+1:Nat):Int))):=by
  intro ns i hi hn;unfold a4u c5Q;rw [show decide ((i:Int)<3)=true by simp;omega,show decide ((i:Int)<0)=false by simp,show decide ((i:Int)>=3)=false by simp;omega];simp only [f8v,f8w,f5Y];rw [v6 (by omega),C5 (by omega) (by omega)];rfl
 have h0:=D9 (body:=fun s:(List j7)×Int=>a4u s.1 s.2) (s:=([],((0:Nat):Int))) (e [] 0 (by omega) (by simp));have h1:=D9 (body:=fun s:(List j7)×Int=>a4u s.1 s.2) (s:=([C6 0],((1:Nat):Int))) (e [C6 0] 1 (by omega) (by simp));have h2:=D9 (body:=fun s:(List j7)×Int=>a4u s.1 s.2) (s:=([C6 0,C6 1],((2:Nat):Int))) (e [C6 0,C6 1] 2 (by omega) (by simp));have h3:=C8 (body:=fun s:(List j7)×Int=>a4u s.1 s.2) (s:=([C6 0,C6 1,C6 2],((3:Nat):Int))) (show a4u [C6 0,C6 1,C6 2] 3=_ from rfl);unfold b3q;rw [show o9 (fun s:(List j7)×Int=>a4u s.1 s.2) ([],0)=_ from h0.trans (h1.trans (h2.trans h3))];rfl
theorem d4J{w:m4}(h:WI w):∀{l:List q9},(∀e∈l,K0 e)->WI (a0J w l)
 | [],_=>h
 | e::l,he=>d4J (w:=C0 w e) (b51 h (he e (by simp))) (l:=l) fun x hx=>he x (by simp [hx])
theorem c9T{w:m4}(h:R2 w):b1T w=some w:=by
 obtain ⟨h1,h2,h3,h4⟩:=h;have b1:=h1.1;have b2:=h2.1;have b3:=h3.1;unfold b1T;rw [v6 (b3b h4),a5X (body:=fun s:(List j7)×Int=>b1r w s.1 s.2) w.a6 (h1.fits (by decide)) (fun l=>l) (by
  intro k hk;have hn:((w.a6.take k).length+1)*392<=140737488355328:=f6M (f6F 392 (show (w.a6.take k).length+1<=w.a6.length by rw [f6t];omega)) (f6M b1 (by decide));unfold b1r;rw [x7 _ k hk,t9 hk];simp only [f8v,f5Y,b4b (h1.2 _ (f6c hk)),v6 hn]) (by
  unfold b1r;rw [z9];rfl)]
 simp only [f5Y,m5.go];unfold c03;rw [a5X (body:=fun s:(List l9)×Int=>b4o w s.1 s.2) w.b9 (h2.fits (by decide)) (fun l=>l) (by
  intro k hk;have hn:((w.b9.take k).length+1)*152<=140737488355328:=f6M (f6F 152 (show (w.b9.take k).length+1<=w.b9.length by rw [f6t];omega)) (f6M b2 (by decide));unfold b4o;rw [x7 _ k hk,t9 hk];simp only [f8v,f5Y,b7r (h2.2 _ (f6c hk)),v6 hn]) (by
  unfold b4o;rw [z9];rfl)]
 simp only [f5Y,m5.go];unfold c37;rw [a5X (body:=fun s:(List x6)×Int=>b1o w s.1 s.2) w.d7 (h3.fits (by decide)) (fun l=>l) (by
  intro k hk;unfold b1o;have hp:=(h3.2 _ (f6c hk)).2;have hn:((w.d7.take k).length+1)*40<=140737488355328:=f6M (f6F 40 (show (w.d7.take k).length+1<=w.d7.length by rw [f6t];omega)) (f6M b3 (by decide));rw [x7 _ k hk,t9 hk];simp only [f8v,f5Y,v6 (b3b hp),v6 hn,f6V]) (by
  unfold b1o;rw [z9];rfl)]
 rfl
theorem d68{l:List q9}(hl:t0 l)(he:∀e∈l,K0 e):∀(d k:Nat) (w:m4),WI w->l.length-k=d->o9 (fun s:(List j7)×(List l9)×(List x6)×(List n5)×Int=>a5b l s.1 s.2.1 s.2.2.1 s.2.2.2.1 s.2.2.2.2) (w.a6,w.b9,w.d7,w.Told,(k:Int))=some (.brk ((a0J w (l.drop k)).a6,(a0J w (l.drop k)).b9,(a0J w (l.drop k)).d7,(a0J w (l.drop k)).Told))
 | 0,k,w,h,hd=>by
  rw [f6y (by omega)];refine C8 ?_;show a5b l w.a6 w.b9 w.d7 w.Told (k:Int)=_
  unfold a5b;rw [show decide ((k:Int)<(l.length:Int))=false by simp;omega];rfl
 | d+1,k,w,h,hd=>by
  have hlt:k<l.length:=by omega
  obtain ⟨h1,h2⟩:=c2j h (he _ (f6c hlt));have hb:a5b l w.a6 w.b9 w.d7 w.Told (k:Int)=some (.nxt ((C0 w l[k]).a6,(C0 w l[k]).b9,(C0 w l[k]).d7,(C0 w l[k]).Told,((k+1:Nat):Int))):=by
   unfold a5b;rw [x7 _ k hlt,t9 hlt,f8v,f5Y,show (⟨w.a6,w.b9,w.d7,w.Told⟩:m4)=w from rfl,h1,f5Y,F6 hl hlt]
  rw [D9 (body:=fun s:(List j7)×(List l9)×(List x6)×(List n5)×Int=>a5b l s.1 s.2.1 s.2.2.1 s.2.2.2.1 s.2.2.2.2) (s:=(w.a6,w.b9,w.d7,w.Told,(k:Int))) hb,d68 hl he d (k+1) _ h2 (by omega),f6w hlt];rfl
def noW:m4:=⟨[],[],[],[]⟩
theorem d7Z{w:m4}(h:R2 w){l:List q9}(hl:t0 l)(he:∀e∈l,K0 e):b3i w l=some (bif B6 w&&decide (l.length<=400) then a0J w l else noW):=by
 unfold b3i;rw [c7T h,f5Y,c9T h,show decide ((l.length:Int)>400) = !decide (l.length<=400) from b05 l 400];cases hw:B6 w
 ·rfl
 ·cases decide (l.length<=400)
  ·rfl
  ·simp only [f6f,f8w,f5Y,Bool.and_self,f8v];rw [show o9 (fun s:(List j7)×(List l9)×(List x6)×(List n5)×Int=>a5b l s.1 s.2.1 s.2.2.1 s.2.2.2.1 s.2.2.2.2) (w.a6,w.b9,w.d7,w.Told,0)=_ from d68 hl he l.length 0 w (a0v.1 hw) rfl];rfl
theorem X2{k a:Int}{p:List n9}(h:p.length<=10):K0 ⟨k,a,p⟩:=⟨by show p.length*32<=_;omega,fun _ _=>trivial⟩
theorem f2p(n:Int):∃v,b7u 1 n=some v:=by
 unfold b7u;cases decide ((1:Int)>n)<;>exact ⟨_,rfl⟩
theorem d81{r:t8}{m:Nat}(h:Rd r m)(hm:m<=1000000)(w:m4):∃e r',b8j r w=some (e,r',w)/\Rd r' (m+210)/\K0 e:=by
 obtain ⟨v,hv⟩:=f2p (w.b9.length:Int);obtain ⟨a,r1,e1,h1,_⟩:=I5 h (by omega) v;obtain ⟨b,r2,e2,h2,_⟩:=I5 h1 (by omega) 24;have ask:∃e r',((F5 r2 3).bind fun p=>(a4L p.2).bind fun q=>some (q9.mk 1 p.1 q.1,q.2,w))=some (e,r',w)/\Rd r' (m+210)/\K0 e:=by
  obtain ⟨c,r3,e3,h3,_⟩:=I5 h2 (by omega) 3;obtain ⟨p,r4,e4,h4,hp⟩:=c1O h3 (by omega);rw [e3,f5Y,e4,f5Y];exact ⟨_,_,rfl,h4.mono (by omega),X2 hp⟩
 obtain ⟨c3,r3,e3,h3,_⟩:=I5 h2 (by omega) 3;obtain ⟨c4,r4,e4,h4,_⟩:=I5 h2 (by omega) 2;obtain ⟨c5,r5,e5,h5,_⟩:=I5 h4 (by omega) 3;obtain ⟨c6,r6,e6,h6,_⟩:=I5 h3 (by omega) 10;obtain ⟨c7,r7,e7,h7,_⟩:=I5 h6 (by omega) 5;obtain ⟨p,r8,e8,h8,hp⟩:=c1O h3 (by omega);have z:∀(k x:Int) (r:t8) (j:Nat),Rd r j->j<=m+210->∃e r',(some (q9.mk k x [],r,w):Option (q9×t8×m4))=some (e,r',w)/\Rd r' (m+210)/\K0 e:=fun k x r j hr hj=>⟨_,_,rfl,hr.mono hj,X2 (by simp)⟩
 unfold b8j;rw [hv,f5Y,e1,f5Y,e2,f5Y];simp only [e3,e4,e5,e6,e7,e8,f5Y];cases b==0
 ·cases b==1
  ·cases b==2
   ·cases b==3
    ·cases b==4
     ·cases b==5
      ·cases b==6
       ·cases b==7
        ·cases b==8
         ·cases b==9
          ·cases b==10
           ·exact z _ _ _ _ h2 (by omega)
           ·cases c3==0
            ·exact z _ _ _ _ h3 (by omega)
            ·exact z _ _ _ _ h7 (by omega)
          ·exact z _ _ _ _ h2 (by omega)
         ·exact z _ _ _ _ h2 (by omega)
        ·cases c4==0
         ·exact z _ _ _ _ h4 (by omega)
         ·exact z _ _ _ _ h5 (by omega)
       ·exact z _ _ _ _ h3 (by omega)
      ·exact z _ _ _ _ h3 (by omega)
     ·exact z _ _ _ _ h3 (by omega)
    ·exact ⟨_,_,rfl,h8.mono (by omega),X2 hp⟩
   ·exact ⟨_,_,rfl,h8.mono (by omega),X2 hp⟩
  ·exact ⟨_,_,rfl,h8.mono (by omega),X2 hp⟩
 ·exact ⟨_,_,rfl,h8.mono (by omega),X2 hp⟩
structure U3(w:m4)(out:List q9)(b:Nat):Prop where
 w:WI w
 e:∀x∈out,K0 x
 l:out.length<=b
theorem d0J{out:List q9}{e:q9}(h:∀x∈out,K0 x)(he:K0 e):∀x∈out++[e],K0 x:=by
 intro x hx;rcases f6b.1 hx with q|q
 ·exact h x q
 ·rw [f6h.1 q];exact he
theorem a2J{w:m4}{out:List q9}{b:Nat}(h:U3 w out b)(hb:b<=1000){e:q9}(he:K0 e):a1f w out e=some (C0 w e,out++[e])/\U3 (C0 w e) (out++[e]) (b+1):=by
 obtain ⟨h1,h2⟩:=c2j h.w he;have hl:=h.l;unfold a1f;rw [h1,f5Y,v6 (by omega)];exact ⟨rfl,h2,d0J h.e he,by simp;omega⟩
theorem d9s{r:t8}{m:Nat}(h:Rd r m)(hm:m<=1000){w:m4}(hw:WI w){n:Nat}(hn:n<=90):∃l r',b7F r w (n:Int)=some (l,r')/\(∀e∈l,K0 e)/\l.length<=90/\Rd r' 1000000:=by
 have hloop:=c4K (body:=fun s:t8×(List q9)×(List n5)×(List x6)×(List l9)×(List j7)×Int=>b6X (n:Int) s.1 s.2.1 s.2.2.1 s.2.2.2.1 s.2.2.2.2.1 s.2.2.2.2.2.1 s.2.2.2.2.2.2)
  (fun k s=>k<=n/\s.2.2.2.2.2.2=((n-k:Nat):Int)/\WI ⟨s.2.2.2.2.2.1,s.2.2.2.2.1,s.2.2.2.1,s.2.2.1⟩/\(∀e∈s.2.1,K0 e)/\s.2.1.length=n-k/\Rd s.1 (m+210*(n-k)))
  (fun x => ∃ (r':t8) (l:List q9),x=.brk (r',l)/\(∀e∈l,K0 e)/\l.length<=90/\Rd r' 1000000) (by
   rintro k ⟨r1,out,told,asked,net,nodes,i⟩ ⟨hk,hi,hw,he,hl,hr⟩
   simp only at hi hw he hl hr;unfold b6X;rw [hi];cases k with
   | zero=>
    rw [show decide (((n-0:Nat):Int)<(n:Int))=false by simp];exact ⟨_,rfl,_,_,rfl,he,by simp only;omega,hr.mono (by omega)⟩
   | succ k=>
    rw [show decide (((n-(k+1):Nat):Int)<(n:Int))=true by simp;omega];obtain ⟨e,r2,ee,hr2,hee⟩:=d81 hr (by omega) ⟨nodes,net,asked,told⟩;obtain ⟨d1,d2⟩:=c2j hw hee;simp only [f8v,ee,f5Y];rw [v6 trivial,v6 trivial,v6 trivial,v6 trivial,v6 (by omega),c7T hw.ok,a0v.2 hw,c9T hw.ok];simp only [f5Y,f8v,d1,m5.go,c28];refine ⟨_,rfl,k,by omega,by omega,?_,d2,d0J he hee,by simp;omega,hr2.mono (by omega)⟩;rw [C5 (by omega) (by omega)];simp only;omega) (k:=n) (s:=(r,[],w.Told,w.d7,w.b9,w.a6,0)) ⟨f6s _,by simp,hw,by simp,by simp,by simpa using h⟩
 obtain ⟨x,hx,r',l,rfl,h1,h2⟩:=hloop;unfold b7F;rw [hx];exact ⟨l,r',rfl,h1,h2⟩
theorem c6y{w:m4}(h:0<w.b9.length):C0 w ⟨3,0,[]⟩=a3c w 0:=by
 unfold C0 a1d;simp only [show ((3:Int)==2)=false from rfl,show ((3:Int)==3)=true from rfl,show ((3:Int)==4)=false from rfl,Bool.or_false,f6N,f8v,f8w,show decide ((0:Int)<=0)=true from rfl,Int.toNat_zero];rw [f5Z h]
theorem e0D(w:m4)(a:Int)(p:List n9):(C0 w ⟨5,a,p⟩).b9.length<=w.b9.length+3:=by
 unfold C0;simp only [show ((5:Int)==2)=false from rfl,show ((5:Int)==3)=false from rfl,show ((5:Int)==4)=false from rfl,show ((5:Int)==1)=false from rfl,show ((5:Int)==5)=true from rfl,Bool.or_false,f8v,f8w];cases !q8 a 0 2
 ·have:=b5z (G8 w a);simp only [f8w,a0R,N5,f6l,f6t];omega
 ·simp
theorem d0e{b:Nat}:∀(d:Nat) (w:m4) (out:List q9),w.b9.length=d->U3 w out b->b+d<=1000->∃w' out',o9 (fun s:(List q9)×(List j7)×(List l9)×(List x6)×List n5=>a7b s.1 s.2.1 s.2.2.1 s.2.2.2.1 s.2.2.2.2) (out,w.a6,w.b9,w.d7,w.Told)=some (.brk (out',w'.a6,w'.b9,w'.d7,w'.Told))/\w'.b9=[]/\U3 w' out' (b+d)
 | 0,w,out,hd,h,hb=>by
  refine ⟨w,out,C8 ?_,f6m hd,h⟩;show a7b out w.a6 w.b9 w.d7 w.Told=_
  unfold a7b;rw [show decide ((w.b9.length:Int)>0)=false from decide_eq_false (by omega)];rfl
 | d+1,w,out,hd,h,hb=>by
  obtain ⟨t1,t2⟩:=a2J h (by omega) (e:=⟨3,0,[]⟩) (X2 (by simp));have hs:a7b out w.a6 w.b9 w.d7 w.Told=some (.nxt (out++[⟨3,0,[]⟩],(C0 w ⟨3,0,[]⟩).a6,(C0 w ⟨3,0,[]⟩).b9,(C0 w ⟨3,0,[]⟩).d7,(C0 w ⟨3,0,[]⟩).Told)):=by
   unfold a7b;rw [show decide ((w.b9.length:Int)>0)=true from decide_eq_true (by omega),f8v,show (⟨w.a6,w.b9,w.d7,w.Told⟩:m4)=w from rfl,t1];rfl
  rw [D9 (body:=fun s:(List q9)×(List j7)×(List l9)×(List x6)×List n5=>a7b s.1 s.2.1 s.2.2.1 s.2.2.2.1 s.2.2.2.2) (s:=(out,w.a6,w.b9,w.d7,w.Told)) hs];obtain ⟨w',out',e1,e2,e3⟩:=d0e (b:=b+1) d (C0 w ⟨3,0,[]⟩) _ (by rw [c6y (by omega)];simp [a3c];omega) t2 (by omega);exact ⟨w',out',e1,e2,⟨e3.w,e3.e,by have:=e3.l;omega⟩⟩
theorem d6P{p:Int×t8}{B:Nat}(hB:B<=900):∀(i:Nat) (w:m4) (out:List q9) (b:Nat),U3 w out b->b+w.b9.length+4*i<=B->i<=100->∃w' out',o9 (fun s:(List n5)×(List x6)×(List l9)×(List j7)×(List q9)×Int=>b1g p s.1 s.2.1 s.2.2.1 s.2.2.2.1 s.2.2.2.2.1 s.2.2.2.2.2) (w.Told,w.d7,w.b9,w.a6,out,(i:Int))=some (.brk (out',w'.a6,w'.b9,w'.d7,w'.Told))/\U3 w' out' B
 | 0,w,out,b,h,hb,hi=>by
  refine ⟨w,out,C8 ?_,h.w,h.e,by have:=h.l;omega⟩;rfl
 | i+1,w,out,b,h,hb,hi=>by
  obtain ⟨w1,out1,e1,e2,e3⟩:=d0e (b:=b) w.b9.length w out rfl h (by omega);obtain ⟨t1,t2⟩:=a2J e3 (by omega) (e:=⟨5,p.1,[]⟩) (X2 (by simp));have hs:b1g p w.Told w.d7 w.b9 w.a6 out ((i+1:Nat):Int)=some (.nxt ((C0 w1 ⟨5,p.1,[]⟩).Told,(C0 w1 ⟨5,p.1,[]⟩).d7,(C0 w1 ⟨5,p.1,[]⟩).b9,(C0 w1 ⟨5,p.1,[]⟩).a6,out1++[⟨5,p.1,[]⟩],(i:Int))):=by
   unfold b1g;rw [show decide (((i+1:Nat):Int)>0)=true from decide_eq_true (by omega),f8v,e1];simp only [f5Y,m5.go,c0C];rw [show (⟨w1.a6,w1.b9,w1.d7,w1.Told⟩:m4)=w1 from rfl,t1,f5Y,C5 (by omega) (by omega),show ((i+1:Nat):Int)-1=(i:Int) by omega]
  rw [D9 (body:=fun s:(List n5)×(List x6)×(List l9)×(List j7)×(List q9)×Int=>b1g p s.1 s.2.1 s.2.2.1 s.2.2.2.1 s.2.2.2.2.1 s.2.2.2.2.2) (s:=(w.Told,w.d7,w.b9,w.a6,out,((i+1:Nat):Int))) hs];have hn:=e0D w1 p.1 [];rw [e2] at hn;simp only [f7L,f7i] at hn;exact d6P hB i _ _ _ t2 (by omega) (by omega)
theorem e0X{r:t8}{m:Nat}(h:Rd r m)(hm:m<=1000){w:m4}{out:List q9}(hw:U3 w out 1):∃w' out' r',b9P r w out=some (w',out',r')/\U3 w' out' 130/\Rd r' (m+3):=by
 obtain ⟨a,r1,e1,h1,_⟩:=I5 h (by omega) 3;obtain ⟨v,r2,e2,h2,hv⟩:=b2a h1 (by omega) [3,8,20] (by simp) (by simp);obtain ⟨i,hi,hi20⟩:∃i:Nat,v=(i:Int)/\i<=20:=by
  simp at hv;rcases hv with rfl|rfl|rfl
  ·exact ⟨3,rfl,by omega⟩
  ·exact ⟨8,rfl,by omega⟩
  ·exact ⟨20,rfl,by omega⟩
 have hml:=hw.w.ml;obtain ⟨w',out',e3,e4⟩:=d6P (p:=(a,r1)) (B:=125) (by omega) i w out 1 hw (by omega) (by omega);have e4':U3 w' out' 125:=e4;unfold b9P;rw [e1,f5Y,e2,f5Y,hi,e3];simp only [f5Y,m5.go,c4c];cases decide ((w'.b9.length:Int)>0)
 ·simp only [f8w,f5Y,m5.go,b6f];obtain ⟨t1,t2⟩:=a2J e4' (by omega) (e:=⟨7,a,[]⟩) (X2 (by simp));rw [show (⟨w'.a6,w'.b9,w'.d7,w'.Told⟩:m4)=w' from rfl,t1];exact ⟨_,_,_,rfl,⟨t2.w,t2.e,by have:=t2.l;simp only;omega⟩,h2.mono (by omega)⟩
 ·obtain ⟨c,r3,e5,h5,_⟩:=I5 h2 (by omega) (w'.b9.length:Int);obtain ⟨t1,t2⟩:=a2J e4' (by omega) (e:=⟨2,c,[]⟩) (X2 (by simp));obtain ⟨u1,u2⟩:=a2J t2 (by omega) (e:=⟨7,a,[]⟩) (X2 (by simp));simp only [f8v,e5,f5Y];rw [show (⟨w'.a6,w'.b9,w'.d7,w'.Told⟩:m4)=w' from rfl,t1];simp only [f5Y,m5.go,b6f];rw [show (⟨(C0 w' ⟨2,c,[]⟩).a6,(C0 w' ⟨2,c,[]⟩).b9,(C0 w' ⟨2,c,[]⟩).d7,(C0 w' ⟨2,c,[]⟩).Told⟩:m4)=C0 w' ⟨2,c,[]⟩ from rfl,u1];exact ⟨_,_,_,rfl,⟨u2.w,u2.e,by have:=u2.l;simp only;omega⟩,h5.mono (by omega)⟩
theorem e8a{M:Nat}(hM:M<=100000){r:t8}{w:m4}{out:List q9}(h:U3 w out 290)(hr:Rd r (M+10*out.length)):∃w' out' r',o9 (fun s:t8×(List j7)×(List l9)×(List x6)×(List n5)×List q9=>b1B s.1 s.2.1 s.2.2.1 s.2.2.2.1 s.2.2.2.2.1 s.2.2.2.2.2) (r,w.a6,w.b9,w.d7,w.Told,out)=some (.brk (r',w'.a6,w'.b9,w'.d7,w'.Told,out'))/\U3 w' out' (max out.length 201)/\Rd r' (M+10*out'.length+2):=by
 have hloop:=c4K (body:=fun s:t8×(List j7)×(List l9)×(List x6)×(List n5)×List q9=>b1B s.1 s.2.1 s.2.2.1 s.2.2.2.1 s.2.2.2.2.1 s.2.2.2.2.2)
  (fun k s => ∃w:m4,s.2=(w.a6,w.b9,w.d7,w.Told,s.2.2.2.2.2)/\U3 w s.2.2.2.2.2 (max out.length 201)/\k=300-s.2.2.2.2.2.length/\Rd s.1 (M+10*s.2.2.2.2.2.length))
  (fun x => ∃ (w':m4) (out':List q9) (r':t8),x=.brk (r',w'.a6,w'.b9,w'.d7,w'.Told,out')/\U3 w' out' (max out.length 201)/\Rd r' (M+10*out'.length+2)) (by
   rintro k ⟨r1,s⟩ ⟨w1,hs,hf,hk,hr1⟩
   simp only at hs hf hk hr1;obtain ⟨nodes,net,asked,told,o⟩:=s;simp only at hs hf hk hr1;injection hs with e1 e2;injection e2 with e2 e3;injection e3 with e3 e4;injection e4 with e4 e5;subst e1;subst e2;subst e3;subst e4;have hl:=hf.l;have hol:=h.l;unfold b1B;cases decide ((w1.b9.length:Int)>0)
   ·exact ⟨_,rfl,w1,o,r1,rfl,hf,hr1.mono (by omega)⟩
   ·obtain ⟨a,r2,p1,p2,_⟩:=I5 hr1 (by omega) 9;simp only [f8v,p1,f5Y];cases decide (a>0)
    ·exact ⟨_,rfl,w1,o,r2,rfl,hf,p2.mono (by omega)⟩
    ·simp only [f8v];by_cases h200:o.length<200
     ·rw [show decide ((o.length:Int)<200)=true from decide_eq_true (by omega)];obtain ⟨b,r3,q1,q2,_⟩:=I5 p2 (by omega) 8;have go:∀(w2:m4) (o2:List q9) (r4:t8) (j:Nat),U3 w2 o2 (max out.length 201)->o2.length<=200->Rd r4 j->j<=M+10*o2.length+4->o.length<=o2.length->∃st,b8t r4 w2.a6 w2.b9 w2.d7 w2.Told o2=some st/\match st with
        | .ret _=>False
        | .brk _=>False
        | .nxt t => ∃k',k'<k/\∃w:m4,t.2=(w.a6,w.b9,w.d7,w.Told,t.2.2.2.2.2)/\U3 w t.2.2.2.2.2 (max out.length 201)/\k'=300-t.2.2.2.2.2.length/\Rd t.1 (M+10*t.2.2.2.2.2.length):=by
       intro w2 o2 r4 j hf2 ho2 hr4 hj hle;obtain ⟨c,r5,x1,x2,_⟩:=I5 hr4 (by omega) (w2.b9.length:Int);obtain ⟨d,r6,y1,y2,_⟩:=b2a x2 (by omega) [0,0,c] (by simp) (by simp);obtain ⟨t1,t2⟩:=a2J (b:=200) ⟨hf2.w,hf2.e,ho2⟩ (by omega) (e:=⟨2,d,[]⟩) (X2 (by simp));unfold b8t;rw [x1,f5Y,y1,f5Y,show (⟨w2.a6,w2.b9,w2.d7,w2.Told⟩:m4)=w2 from rfl,t1];refine ⟨_,rfl,300-(o2++[(⟨2,d,[]⟩:q9)]).length,by simp;omega,C0 w2 ⟨2,d,[]⟩,rfl,⟨t2.w,t2.e,by simp;omega⟩,rfl,y2.mono (by simp;omega)⟩
      simp only [f8v,q1,f5Y];cases b==0
      ·obtain ⟨st,g1,g2⟩:=go w1 o r3 _ hf (by omega) q2 (by omega) (f6s _);refine ⟨st,g1,?_⟩;cases st with
       | ret _=>exact g2.elim
       | brk _=>exact g2.elim
       | nxt t=>exact g2
      ·obtain ⟨c,r4,x1,x2,_⟩:=I5 q2 (by omega) (w1.b9.length:Int);obtain ⟨t1,t2⟩:=a2J (b:=199) ⟨hf.w,hf.e,by omega⟩ (by omega) (e:=⟨4,c,[]⟩) (X2 (by simp));simp only [f8v,x1,f5Y];rw [show (⟨w1.a6,w1.b9,w1.d7,w1.Told⟩:m4)=w1 from rfl,t1];simp only [f5Y,m5.go];have hl2:(o++[(⟨4,c,[]⟩:q9)]).length=o.length+1:=by simp
       obtain ⟨st,g1,g2⟩:=go (C0 w1 ⟨4,c,[]⟩) (o++[⟨4,c,[]⟩]) r4 _ ⟨t2.w,t2.e,by omega⟩ (by omega) x2 (by omega) (by omega);refine ⟨st,g1,?_⟩;cases st with
       | ret _=>exact g2.elim
       | brk _=>exact g2.elim
       | nxt t=>exact g2
     ·rw [show decide ((o.length:Int)<200)=false from decide_eq_false (by omega)];exact ⟨_,rfl,w1,o,r2,rfl,hf,p2.mono (by omega)⟩) (k:=300-out.length) (s:=(r,w.a6,w.b9,w.d7,w.Told,out)) ⟨w,rfl,⟨h.w,h.e,by simp only;omega⟩,rfl,hr⟩
 obtain ⟨x,hx,w',out',r',rfl,h1,h2⟩:=hloop;exact ⟨w',out',r',hx,h1,h2⟩
theorem d3p:∀(i:Nat) (r:t8) (w:m4) (out:List q9),i<=6->U3 w out (201+3*(6-i))->Rd r (10000-1000*i+10*out.length)->∃r' out',o9 (fun s:t8×(List j7)×(List l9)×(List x6)×(List n5)×(List q9)×Int=>a93 s.1 s.2.1 s.2.2.1 s.2.2.2.1 s.2.2.2.2.1 s.2.2.2.2.2.1 s.2.2.2.2.2.2) (r,w.a6,w.b9,w.d7,w.Told,out,(i:Int))=some (.brk (r',out'))/\(∀e∈out',K0 e)/\out'.length<=300/\Rd r' 1000000
 | 0,r,w,out,hi,h,hr=>⟨r,out,C8 rfl,h.e,by have:=h.l;omega,hr.mono (by have:=h.l;omega)⟩
 | i+1,r,w,out,hi,h,hr=>by
  have hl:=h.l;obtain ⟨a,r1,p1,p2,_⟩:=I5 hr (by omega) 3;obtain ⟨pr,r2,q1,q2,q3⟩:=c1O p2 (by omega);obtain ⟨t1,t2⟩:=a2J h (by omega) (e:=⟨1,a,pr⟩) (X2 q3);have hlen:(out++[(⟨1,a,pr⟩:q9)]).length=out.length+1:=by simp
  obtain ⟨w3,o3,r3,x1,x2,x3⟩:=e8a (M:=10000-1000*(i+1)+201) (by omega) (w:=C0 w ⟨1,a,pr⟩) (out:=out++[⟨1,a,pr⟩]) (r:=r2) ⟨t2.w,t2.e,by omega⟩ (q2.mono (by omega));have x2l:=x2.l;obtain ⟨b,r4,y1,y2,_⟩:=I5 x3 (by omega) 4;have fin:∀(w4:m4) (o4:List q9) (r5:t8) (j:Nat),U3 w4 o4 (201+3*(6-(i+1))+2)->Rd r5 j->j<=10000-1000*(i+1)+300+10*o4.length->∃w5 o5 r6,b52 ((i+1:Nat):Int) r5 w4.a6 w4.b9 w4.d7 w4.Told o4=some (.nxt (r6,w5.a6,w5.b9,w5.d7,w5.Told,o5,(i:Int)))/\U3 w5 o5 (201+3*(6-i))/\Rd r6 (10000-1000*i+10*o5.length):=by
   intro w4 o4 r5 j hf hr5 hj;have hfl:=hf.l;obtain ⟨c,r6,z1,z2,_⟩:=I5 hr5 (by omega) 3;obtain ⟨u1,u2⟩:=a2J hf (by omega) (e:=⟨6,c,[]⟩) (X2 (by simp));refine ⟨C0 w4 ⟨6,c,[]⟩,o4++[⟨6,c,[]⟩],r6,?_,⟨u2.w,u2.e,by have:=u2.l;omega⟩,z2.mono (by simp;omega)⟩;unfold b52;rw [z1,f5Y,show (⟨w4.a6,w4.b9,w4.d7,w4.Told⟩:m4)=w4 from rfl,u1,f5Y,C5 (by omega) (by omega),show ((i+1:Nat):Int)-1=(i:Int) by omega]
  have hstep:∃w5 o5 r6,a93 r w.a6 w.b9 w.d7 w.Told out ((i+1:Nat):Int)=some (.nxt (r6,w5.a6,w5.b9,w5.d7,w5.Told,o5,(i:Int)))/\U3 w5 o5 (201+3*(6-i))/\Rd r6 (10000-1000*i+10*o5.length):=by
   unfold a93;rw [show decide (((i+1:Nat):Int)>0)=true from decide_eq_true (by omega),f8v,p1,f5Y,q1,f5Y,show (⟨w.a6,w.b9,w.d7,w.Told⟩:m4)=w from rfl,t1,f5Y,x1];simp only [f5Y,m5.go];unfold c0r;rw [y1,f5Y];cases b==0
   ·cases b==1
    ·simp only [f8w,f5Y,m5.go];exact fin w3 o3 r4 _ ⟨x2.w,x2.e,by omega⟩ y2 (by omega)
    ·obtain ⟨c,r5,z1,z2,_⟩:=I5 y2 (by omega) 3;obtain ⟨u1,u2⟩:=a2J x2 (by omega) (e:=⟨5,c,[]⟩) (X2 (by simp));simp only [f8w,f8v,z1,f5Y];rw [show (⟨w3.a6,w3.b9,w3.d7,w3.Told⟩:m4)=w3 from rfl,u1];simp only [f5Y,m5.go];exact fin (C0 w3 ⟨5,c,[]⟩) _ r5 _ ⟨u2.w,u2.e,by have:=u2.l;omega⟩ z2 (by simp;omega)
   ·obtain ⟨c,r5,z1,z2,_⟩:=I5 y2 (by omega) 3;obtain ⟨u1,u2⟩:=a2J x2 (by omega) (e:=⟨7,c,[]⟩) (X2 (by simp));simp only [f8v,z1,f5Y];rw [show (⟨w3.a6,w3.b9,w3.d7,w3.Told⟩:m4)=w3 from rfl,u1];simp only [f5Y,m5.go];exact fin (C0 w3 ⟨7,c,[]⟩) _ r5 _ ⟨u2.w,u2.e,by have:=u2.l;omega⟩ z2 (by simp;omega)
  obtain ⟨w5,o5,r6,s1,s2,s3⟩:=hstep;rw [D9 (body:=fun s:t8×(List j7)×(List l9)×(List x6)×(List n5)×(List q9)×Int=>a93 s.1 s.2.1 s.2.2.1 s.2.2.2.1 s.2.2.2.2.1 s.2.2.2.2.2.1 s.2.2.2.2.2.2) (s:=(r,w.a6,w.b9,w.d7,w.Told,out,((i+1:Nat):Int))) s1];exact d3p i r6 w5 o5 (by omega) s2 s3
theorem e21{r:t8}{m:Nat}(h:Rd r m)(hm:m<=100):∃l r',b60 r=some (l,r')/\(∀e∈l,K0 e)/\l.length<=300/\Rd r' 1000000:=by
 obtain ⟨a,r1,p1,p2,_⟩:=I5 h (by omega) 3;obtain ⟨t1,t2⟩:=a2J (w:=M4) (out:=[]) (b:=0) ⟨WI.open,by simp,by simp⟩ (by omega) (e:=⟨5,a,[]⟩) (X2 (by simp));obtain ⟨b,r2,q1,q2,_⟩:=I5 p2 (by omega) 3;unfold b60;rw [c9C,f5Y,p1,f5Y,t1,f5Y,q1,f5Y];have tail:∀(w:m4) (out:List q9) (r3:t8) (j:Nat),U3 w out 130->Rd r3 j->j<=200->∃l r',b8T r3 w.a6 w.b9 w.d7 w.Told out=some (l,r')/\(∀e∈l,K0 e)/\l.length<=300/\Rd r' 1000000:=by
  intro w out r3 j hf hr3 hj;obtain ⟨c,r4,x1,x2,x3,x4⟩:=I5 hr3 (by omega) 3;obtain ⟨i,hi,hi6⟩:∃i:Nat,m8 (3+c)=(i:Int)/\i<=6:=⟨(3+c).toNat,by rw [C5 (by omega) (by omega)];omega,by omega⟩
  obtain ⟨r',out',e1,e2,e3⟩:=d3p i r4 w out hi6 ⟨hf.w,hf.e,by have:=hf.l;omega⟩ (x2.mono (by omega));unfold b8T;rw [x1,f5Y,hi,e1];exact ⟨out',r',rfl,e2,e3⟩
 have tf:U3 (C0 M4 ⟨5,a,[]⟩) ([]++[(⟨5,a,[]⟩:q9)]) 1:=t2;cases decide (b>0)
 ·obtain ⟨c,r3,x1,x2,_⟩:=I5 q2 (by omega) 5;simp only [f8w,x1,f5Y];cases c==0
  ·exact tail _ _ r3 _ ⟨tf.w,tf.e,by simp⟩ x2 (by omega)
  ·obtain ⟨w',o',r',y1,y2,y3⟩:=e0X x2 (by omega) tf;simp only [f8v];rw [y1];exact tail w' o' r' _ y2 y3 (by omega)
 ·obtain ⟨v,r3,x1,x2,x3⟩:=b2a q2 (by omega) [10,30,60,90] (by simp) (by simp);obtain ⟨n,hn,hn90⟩:∃n:Nat,v=(n:Int)/\n<=90:=by
   simp at x3;rcases x3 with rfl|rfl|rfl|rfl
   ·exact ⟨10,rfl,by omega⟩
   ·exact ⟨30,rfl,by omega⟩
   ·exact ⟨60,rfl,by omega⟩
   ·exact ⟨90,rfl,by omega⟩
  obtain ⟨l,r4,y1,y2,y3,y4⟩:=d9s x2 (by omega) tf.w hn90;simp only [f8v,x1,f5Y];rw [hn,y1,f5Y,v6 (by simp;omega)];refine ⟨_,_,rfl,?_,by simp;omega,y4⟩;intro e he;rcases f6b.1 he with q|q
  ·exact tf.e e q
  ·exact y2 e q
theorem e5D{code:List Int}(h:∀x∈code,a6z x):∃l,b4w code=some l/\(∀e∈l,K0 e)/\l.length<=300:=by
 obtain ⟨r,h1,h2⟩:=d8m h;obtain ⟨l,r',e1,e2,e3,_⟩:=e21 h2 (by omega);unfold b4w;rw [h1,f5Y,e1];exact ⟨l,rfl,e2,e3⟩
def a8X(e:m6)(v:m9):Bool:=decide (v.a8>0)&&M9 v.i0 e
def a0S(l:List j7)(s:Nat)(e:m6):Nat:=(l.filter fun n=>a8X e (S7 n s)).length
theorem f3s{l:List j7}(s:Nat)(e:m6){k:Nat}(hk:k<l.length):a0S (l.take (k+1)) s e=a0S (l.take k) s e+(bif a8X e (S7 l[k] s) then 1 else 0):=by
 unfold a0S;rw [f6C hk,List.filter_append,f6l,List.filter_cons,List.filter_nil];cases a8X e (S7 l[k] s)<;>rfl
theorem e32(l:List j7)(s:Nat)(e:m6)(k:Nat):a0S (l.take k) s e<=k:=by
 unfold a0S;refine f6M (List.length_filter_le _ _) ?_;rw [f6t];omega
theorem e7C{w:m4}(h:R2 w)(hw:WI w)(s:Nat)(e:m6):b9N w (s:Int) e=some ((a0S w.a6 s e:Nat):Int):=by
 have hf:t0 w.a6:=h.1.fits (by decide);have hloop:=W7 (body:=fun t:Int×Int=>b0y w (s:Int) e t.1 t.2) (fun k=>((k:Int),((a0S (w.a6.take k) s e:Nat):Int))) w.a6.length (by
  intro k hk;have hb:=e32 w.a6 s e k;have hle:=hf;unfold t0 at hle;have hn:m8 (((a0S (w.a6.take k) s e:Nat):Int)+1)=((a0S (w.a6.take k) s e+1:Nat):Int):=by rw [C5 (by omega) (by omega)];omega
  have hni:=(hw.ns k w.a6[k] (f5Z hk)).2;simp only;unfold b0y c48;rw [x7 _ k hk,t9 hk,F6 hf hk];simp only [f8v,f5Y,f3s s e hk];by_cases hs:s<w.a6[k].Acc.a7.length
  ·have hva:S7 w.a6[k] s=w.a6[k].Acc.a7[s]:=by unfold S7;rw [f5Z hs];rfl
   have hvi:=(hni.vs _ (f6c hs)).1;have hpos:(w.a6[k].Acc.a7[s].a8 != 0)=decide (w.a6[k].Acc.a7[s].a8>0):=by
    have h0:0<=w.a6[k].Acc.a7[s].a8:=hvi.bal.1;by_cases hz:w.a6[k].Acc.a7[s].a8=0
    ·rw [hz];rfl
    ·rw [decide_eq_true (show w.a6[k].Acc.a7[s].a8>0 by omega)];simpa using hz
   rw [hva,x7 _ s hs,t9 hs];simp only [f8v,f5Y,hpos];unfold a8X;cases decide (w.a6[k].Acc.a7[s].a8>0)
   ·rfl
   ·simp only [f8v,a6K ((h.1.2 _ (f6c hk)).2.1.2.2 _ (f6c hs)).2,f5Y,hn];cases M9 w.a6[k].Acc.a7[s].i0 e<;>rfl
  ·have hva:S7 w.a6[k] s=zV:=by unfold S7;rw [f6z (by omega)];rfl
   rw [hva,decide_eq_false (show ¬((s:Int)<(w.a6[k].Acc.a7.length:Int)) by omega)];rfl)
 rw [f6u,show ((0:Nat):Int)=0 from rfl] at hloop;unfold b9N;rw [show o9 (fun t:Int×Int=>b0y w (s:Int) e t.1 t.2) (0,0)=_ from hloop,C8 (b:=((a0S w.a6 s e:Nat):Int))]
 ·rfl
 ·unfold b0y;rw [z9];rfl
def b9g(w:m4)(n:j7)(k:Nat):Bool:=match n.a5[k]? with
 | some e => !decide (((a0S w.a6 k e:Nat):Int)<2)
 | none=>true
def a8N(w:m4)(n:j7):Bool:=(f6i n.a5.length).all (b9g w n)
theorem c66{w:m4}{n:j7}{k:Nat}(hk:k<n.a5.length):b9g w n k = !decide (((a0S w.a6 k n.a5[k]:Nat):Int)<2):=by
 unfold b9g;rw [f5Z hk]
theorem e4S{w:m4}(h:R2 w):b3k w=some (B6 w&&w.a6.all (a8N w)):=by
 have hf:t0 w.a6:=h.1.fits (by decide);unfold b3k;rw [a5q h,f5Y];cases hwo:B6 w
 ·rfl
 have hw:WI w:=a0v.1 hwo;have hin:∀(i:Nat) (hi:i<w.a6.length),o9 (fun t:Int=>b3n w w.a6[i] t) 0=some (bif a8N w w.a6[i] then .brk () else .ret false):=by
  intro i hi;have hk0:t0 w.a6[i].a5:=(h.1.2 _ (f6c hi)).2.2.1.fits (by decide);refine a2q w.a6[i].a5 hk0 (b9g w w.a6[i]) false () ?_ ?_
  ·intro k hk _;unfold b3n;rw [x7 _ k hk,t9 hk,c66 hk];simp only [f8v,f5Y,e7C h hw];cases decide (((a0S w.a6 k w.a6[i].a5[k]:Nat):Int)<2)<;>rfl
  ·unfold b3n;rw [z9];rfl
 simp only [f6f,f8w,f6n];rw [K9 w.a6 hf (a8N w) false ()]
 ·cases w.a6.all (a8N w)<;>rfl
 ·intro k hk;unfold b8z c1T;rw [x7 _ k hk,t9 hk];simp only [f8v,f5Y,hin k hk];cases a8N w w.a6[k]<;>rfl
 ·unfold b8z;rw [z9];rfl
theorem a7M{α:Type}{l:List α}(z:α)(b:Nat)(h:l.length*b<=140737488351232):(bif ((l.length:Int)==0) then some [] else t5 (0<=(l.length:Int)/\(l.length:Int)*(b:Int)<=140737488355328) (t5 (l.length=(f6a (l.length:Int).toNat z).length) (some l)))=some l:=by
 cases hl:((l.length:Int)==0)
 ·have:(l.length:Int)*(b:Int)=((l.length*b:Nat):Int):=by rw [Int.natCast_mul]
  rw [f8w,v6 ⟨by omega,by omega⟩,v6 (by simp)]
 ·simp only [beq_iff_eq] at hl;rw [f6m (by omega:l.length=0)];rfl
theorem b5P{α R:Type}{body:List α×Int->Option (l7 R (List α×Int) (List α))}(l:List α)(hl:t0 l)(h1:∀(k:Nat) (hk:k<l.length),body (l,(k:Int))=some (.nxt (l.set k l[k],m8 ((k:Int)+1))))(h2:body (l,(l.length:Int))=some (.brk l)):o9 body (l,0)=some (.brk l):=by
 have:=W7 (body:=body) (fun k=>(l,(k:Int))) l.length fun k hk=>by rw [h1 k hk,F6 hl hk,f8g]
 exact this.trans (C8 h2)
theorem a5F{α:Type}{body:Int->Option (l7 Bool Int Unit)}(l:List α)(hl:t0 l)(h1:∀(k:Nat) (hk:k<l.length),body (k:Int)=some (.nxt (m8 ((k:Int)+1))))(h2:body (l.length:Int)=some (.brk ())):o9 body 0=some (.brk ()):=by
 have:=W7 (body:=body) (fun k=>(k:Int)) l.length fun k hk=>by rw [h1 k hk,F6 hl hk]
 exact this.trans (C8 h2)
theorem b74{l:List m9}(h:A3 96 S5 l):a7O l=some l:=by
 unfold a7O;rw [show c3o l=some l from a7M _ 96 h.1,f5Y,b5P l (h.fits (by decide))]
 ·rfl
 ·intro k hk;unfold b8n;rw [x7 _ k hk,f8v,t9 hk,f5Y,b3P (h.2 _ (f6c hk)).2];rfl
 ·unfold b8n;rw [z9];rfl
theorem b5w{x:z4}(h:a5J x):a4A x=some x:=by
 unfold a4A;rw [b74 h.2];rfl
theorem d32{l:List Bool}(h:A3 1 okT l):b9l l=some l:=a7M _ 1 h.1
theorem d1t{l:List n9}(h:l.length*32<=140737488351232):a9c l=some l:=a7M _ 32 h
theorem d6I{l:List n5}(h:l.length*40<=140737488351232):b8c l=some l:=a7M _ 40 h
theorem b8L{n:j7}(h:P6 n):a7X n=some n:=by
 obtain ⟨h1,h2,h3,h4,h5,h6,h7,h8,h9,h10,h11,h12,h13⟩:=h;unfold a7X;rw [b5w h2,f5Y,c2M h3,f5Y,d32 h7,f5Y,b74 h8,f5Y,b3P h9,f5Y,d32 h10,f5Y,d1t h11.1,f5Y,b3P h12,f5Y,c2M h13];rfl
theorem f5h{m:l9}(h:a0h m):b8F m=some m:=by
 unfold b8F;rw [b3P h.2.2.2.2.2.1,f5Y,b74 h.2.2.2.2.2.2];rfl
theorem c9Q{l:List l9}(h:A3 152 a0h l):b3u l=some l:=by
 unfold b3u;rw [show c5F l=some l from a7M _ 152 h.1,f5Y,b5P l (h.fits (by decide))]
 ·rfl
 ·intro k hk;unfold b6A;rw [x7 _ k hk,f8v,t9 hk,f5Y,f5h (h.2 _ (f6c hk))];rfl
 ·unfold b6A;rw [z9];rfl
theorem b7v{w:m4}(h:R2 w):a1S w=some w:=by
 obtain ⟨h1,h2,h3,h4⟩:=h;unfold a1S c1z;rw [show c5f w.a6=some w.a6 from a7M _ 392 h1.1,f5Y,c9Q h2,f5Y,show c3Z w.d7=some w.d7 from a7M _ 40 h3.1,f5Y,d6I h4.1,f5Y,b5P w.a6 (h1.fits (by decide))]
 ·simp only [f5Y,m5.go];rw [b5P w.d7 (h3.fits (by decide))]
  ·rfl
  ·intro k hk;unfold b4Y;rw [x7 _ k hk,f8v,t9 hk,f5Y,d1t (h3.2 _ (f6c hk)).2.1];rfl
  ·unfold b4Y;rw [z9];rfl
 ·intro k hk;unfold b8R;rw [x7 _ k hk,f8v,t9 hk,f5Y,b8L (h1.2 _ (f6c hk))];rfl
 ·unfold b8R;rw [z9];rfl
theorem d8W:b6P=some M4:=by
 unfold b6P;have e:∀i:Int,0<=i->i<=2->b6l i=some (C6 i):=fun i h1 h2=>by
  unfold b6l;rw [N2,f5Y,q8,decide_eq_true ⟨h1,h2⟩];rfl
 rw [D9 (t:=([C6 0],1)) (by unfold b0L;rw [e 0 (by omega) (by omega)];rfl),D9 (t:=([C6 0,C6 1],2)) (by unfold b0L;rw [e 1 (by omega) (by omega)];rfl),D9 (t:=([C6 0,C6 1,C6 2],3)) (by unfold b0L;rw [e 2 (by omega) (by omega)];rfl),C8 (b:=[C6 0,C6 1,C6 2]) (by unfold b0L;rfl)];show (a1S M4).bind _=_
 rw [b7v WI.open.ok];rfl
theorem b3E{e:m6}(h:E9 e):W0 e e=some true:=by
 unfold W0;have:a4m e.b8 e.b8=true:=(c3F _ _).2 rfl;simp only [beq_self_eq_true,f8v,c0H h.2.f,this,f5Y]
theorem c2B{l:List m9}(h:A3 96 S5 l):a9U l l=some true:=by
 unfold a9U;rw [bne_self_eq_false,f8w,a5F l (h.fits (by decide))]
 ·rfl
 ·intro k hk;unfold b9a;simp only [x7 _ k hk,f8v,t9 hk,f5Y,bne_self_eq_false,f8w,b3E (h.2 _ (f6c hk)).2,f6f]
 ·unfold b9a;rw [z9];rfl
theorem d43{l:List m6}(h:A3 88 E9 l):b2y l l=some true:=by
 unfold b2y;rw [bne_self_eq_false,f8w,a5F l (h.fits (by decide))]
 ·rfl
 ·intro k hk;unfold b9O;simp only [x7 _ k hk,f8v,t9 hk,f5Y,f8w,b3E (h.2 _ (f6c hk)),f6f]
 ·unfold b9O;rw [z9];rfl
theorem d5X{l:List Bool}(h:t0 l):b3I l l=some true:=by
 unfold b3I;rw [bne_self_eq_false,f8w,a5F l h]
 ·rfl
 ·intro k hk;unfold b5L;simp only [x7 _ k hk,f8v,t9 hk,f5Y,beq_self_eq_true,f8w,f6f]
 ·unfold b5L;rw [z9];rfl
theorem d0S{l:List n9}(h:t0 l):b3v l l=some true:=by
 unfold b3v c2D;rw [bne_self_eq_false,f8w,a5F l h]
 ·rfl
 ·intro k hk;unfold b7l;simp only [x7 _ k hk,f8v,t9 hk,f5Y,beq_self_eq_true,f8w,f6f]
 ·unfold b7l;rw [z9];rfl
theorem e1V{l:List n5}(h:t0 l):b9e l l=some true:=by
 unfold b9e;rw [bne_self_eq_false,f8w,a5F l h]
 ·rfl
 ·intro k hk;unfold c0j;simp only [x7 _ k hk,f8v,t9 hk,f5Y,beq_self_eq_true,f8w,f6f]
 ·unfold c0j;rw [z9];rfl
theorem e6e{n:j7}(h:P6 n):b5d n n=some true:=by
 obtain ⟨h1,h2,h3,h4,h5,h6,h7,h8,h9,h10,h11,h12,h13⟩:=h;unfold b5d c49;simp only [beq_self_eq_true,f8v,c2B h2.2,d43 h3,d5X (h7.fits (by decide)),c2B h8,b3E h9,d5X (h10.fits (by decide)),d0S (h11.fits (by decide)),b3E h12,d43 h13,f5Y]
theorem d7R{w:m4}(h:R2 w):b6M w w=some true:=by
 obtain ⟨h1,h2,h3,h4⟩:=h;unfold b6M c1k c54;simp only [bne_self_eq_false,f8w,e1V (h4.fits (by decide)),f5Y,f6f];rw [a5F w.a6 (h1.fits (by decide)) (fun k hk=>by
  unfold b6m;simp only [x7 _ k hk,f8v,t9 hk,f5Y,e6e (h1.2 _ (f6c hk)),f8w,f6f]) (by unfold b6m;rw [z9];rfl)]
 simp only [f5Y,m5.go];rw [a5F w.b9 (h2.fits (by decide)) (fun k hk=>by
  have:=h2.2 _ (f6c hk);unfold b9G c0N;simp only [x7 _ k hk,f8v,t9 hk,f5Y,beq_self_eq_true,b3E this.2.2.2.2.2.1,c2B this.2.2.2.2.2.2,f8w,f6f]) (by unfold b9G;rw [z9];rfl)]
 simp only [f5Y,m5.go];rw [a5F w.d7 (h3.fits (by decide)) (fun k hk=>by
  unfold b9S;simp only [x7 _ k hk,f8v,t9 hk,f5Y,beq_self_eq_true,d0S ((h3.2 _ (f6c hk)).2.fits (by decide)),f8w,f6f]) (by unfold b9S;rw [z9];rfl)]
 rfl
theorem c6H{a:p6}(h:t0 a.n.a5)(q:o7):b2Z a q=some (N0 a.n.a5 q,a):=by
 unfold b2Z;rw [b11 h,f5Y,c2s];cases a.n.a5.findIdx? (F4 q) with
 | none=>rfl
 | some k=>simp
theorem f3U{a:p6}(h:t0 a.n.a5)(q:o7):b9j a q=some (N0 a.n.a5 q,a):=by
 unfold b9j;rw [b11 h,f5Y,c2s];cases a.n.a5.findIdx? (F4 q) with
 | none=>rfl
 | some k=>simp
def qA(a:p6)(q:List m6):p6:=⟨{a.n with d9:=q},a.out,a.told⟩
theorem e3U{a:p6}{q:List m6}(h:a.n.d9=q):qA a q=a:=by
 subst h;rfl
theorem d06{known:List m6}(hk:t0 known):∀(q:List m6) (a:p6),a.n.a5=known->A3 88 E9 q->a.n.d9=q->o9 (fun s:p6=>a4K s) a=some (match R9 known q with
  | (q',some e)=>.ret (e,true,qA a q')
  | (q',none)=>.brk (qA a q'))
 | [],a,h1,_,h2=>by
  rw [C8 (body:=fun s:p6=>a4K s) (b:=a) (by unfold a4K;rw [h2];rfl)];show _=some (m5.brk (qA a []))
  rw [e3U h2]
 | e::q,a,h1,hq,h2=>by
  have hl:(e::q).length*88<=140737488351232:=hq.1;rw [f7j] at hl;have hb:a4K a=some (bif N0 known e.a0 then .nxt (qA a q) else .ret (e,true,qA a q)):=by
   unfold a4K;rw [h2,show idx (e::q) 0=some e from rfl,show decide ((((e::q).length:Nat):Int)>0)=true by simp,f8v,f5Y,v6 (by simp;omega),show ((e::q).drop (1:Int).toNat).take ((e::q).length-(1:Int).toNat)=q by simp];rw [show (⟨⟨a.n.Id,a.n.Acc,a.n.a5,a.n.Seq,a.n.d8,a.n.a8,a.n.c9,a.n.i5,a.n.d6,a.n.a7,a.n.i9,a.n.i7,a.n.b7,q⟩,a.out,a.told⟩:p6)=qA a q from rfl,c6H (a:=qA a q) (by show t0 a.n.a5;rw [h1];exact hk),f5Y,show (qA a q).n.a5=known from h1];cases N0 known e.a0<;>rfl
  unfold R9;cases hkn:N0 known e.a0
  ·rw [X4 (body:=fun s:p6=>a4K s) (r:=(e,true,qA a q)) (by rw [hb,hkn];rfl)];rfl
  ·rw [D9 (body:=fun s:p6=>a4K s) (t:=qA a q) (by rw [hb,hkn];rfl),d06 hk q (qA a q) h1 ⟨by omega,fun x hx=>hq.2 x (f8n _ hx)⟩ rfl];rfl
def b24(a:p6)(x:j7×Option m6):m6×Bool×p6:=match x with
 | (n,some e)=>(e,true,⟨n,a.out,a.told⟩)
 | (n,none)=>(zE,false,⟨n,a.out,a.told⟩)
theorem e3V{a:p6}(hf:t0 a.n.i5)(hv:∀v∈a.n.i5,0<=v.a8):∀(m k:Nat),a.n.i5.length-k=m->o9 (fun s:Int=>a4Q a s) (k:Int)=some (bif (a.n.i5.drop k).any (fun v=>decide (v.a8>0)) then .ret (eN,true,a) else .brk ()):=by
 intro m;induction m with
 | zero=>
  intro k hk;rw [C8 (body:=fun s:Int=>a4Q a s) (b:=()) (by unfold a4Q;rw [show decide ((k:Int)<(a.n.i5.length:Int))=false by simp;omega];rfl),f6y (by omega)];rfl
 | succ m ih=>
  intro k hk;have hlt:k<a.n.i5.length:=by omega
  have hb:a4Q a (k:Int)=some (bif decide (a.n.i5[k].a8>0) then .ret (eN,true,a) else .nxt ((k+1:Nat):Int)):=by
   have h0:=hv _ (f6c hlt);unfold a4Q;rw [x7 _ k hlt,f8v,t9 hlt,f5Y,F6 hf hlt,show (a.n.i5[k].a8 != 0)=decide (a.n.i5[k].a8>0) by
    rw [f7A];simp;omega]
   cases decide (a.n.i5[k].a8>0)<;>rfl
  rw [f6w hlt,f8o];cases hd:decide (a.n.i5[k].a8>0)
  ·rw [hd] at hb;rw [D9 (body:=fun s:Int=>a4Q a s) hb,ih (k+1) (by omega),f6N]
  ·rw [hd] at hb;rw [X4 (body:=fun s:Int=>a4Q a s) hb,f8h];rfl
theorem d8s{a:p6}(h:P6 a.n)(hv:∀v∈a.n.i5,0<=v.a8):b9T a=some (b24 a (a0O a.n)):=by
 obtain ⟨h1,h2,h3,h4,h5,h6,h7,h8,h9,h10,h11,h12,h13⟩:=h;have hk:t0 a.n.a5:=h3.fits (by decide);have hbf:t0 a.n.i5:=h8.fits (by decide);have j1:b9Z a=some (b24 a ({a.n with d9:=(R9 a.n.a5 a.n.d9).1},(R9 a.n.a5 a.n.d9).2)):=by
  unfold b9Z;rw [d06 hk _ a rfl h13 rfl];obtain ⟨q,o⟩:=R9 a.n.a5 a.n.d9;cases o<;>rfl
 have j2:(∀v,a.n.i5[a.n.a5.length]?=some v->¬v.a8>0)->b8C a=some (b24 a (a48 a.n)):=by
  intro hn;have hd:(a.n.i5.drop (a.n.a5.length+1)).any (fun v=>decide (v.a8>0))=(a.n.i5.drop a.n.a5.length).any (fun v=>decide (v.a8>0)):=by
   by_cases hl:a.n.a5.length<a.n.i5.length
   ·rw [f6w hl,f8o,show decide (a.n.i5[a.n.a5.length].a8>0)=false by
     simpa using hn _ (f5Z hl),f6N]
   ·rw [f6y (by omega),f6y (by omega)]
  unfold b8C a48;rw [C5 (by omega) (by have:=h3.1;omega),show ((a.n.a5.length:Int)+1)=((a.n.a5.length+1:Nat):Int) from rfl,e3V hbf hv _ _ rfl,hd];generalize (({a.n with d9:=(R9 a.n.a5 a.n.d9).1},(R9 a.n.a5 a.n.d9).2):j7×Option m6)=X at j1⊢;cases (a.n.i5.drop a.n.a5.length).any fun v=>decide (v.a8>0)
  ·simp only [f8w,f5Y,m5.go];unfold c5j;cases a.n.i9
   ·exact j1
   ·simp only [f8v,c6H hk,f5Y,f6n];cases N0 a.n.a5 a.n.b7.a0
    ·rfl
    ·exact j1
  ·rfl
 unfold b9T a0O;by_cases hl:a.n.a5.length<a.n.i5.length
 ·rw [x7 _ _ hl,t9 hl,f5Z hl];have h0:=hv _ (f6c hl);rw [f8v,f5Y,show (a.n.i5[a.n.a5.length].a8 != 0)=decide (a.n.i5[a.n.a5.length].a8>0) by rw [f7A];simp;omega];simp only;cases hd:decide (a.n.i5[a.n.a5.length].a8>0)
  ·exact j2 (by rw [f5Z hl];intro v hv;injection hv with hv;subst hv;simpa using hd)
  ·rfl
 ·rw [show decide ((a.n.a5.length:Int)<(a.n.i5.length:Int))=false by simp;omega,f6z (by omega)];exact j2 (by rw [f6z (by omega)];simp)
theorem NI.accOk{n:j7}(h:NI n):P9 n.Acc=true/\a5J n.Acc:=by
 have:=a1i.2 h;unfold D6 at this;simp only [f6d] at this;exact ⟨by simp_all,h.ok.2.1⟩
theorem b4Z{a:z4}(h:P9 a=true)(ho:a5J a)(b:Int):b0X a b=some (match I3 a b with|some x=>(x,true)|none=>(a,false)):=by
 unfold b0X I3 b0J;rw [d0T ho,f5Y,h,b5w ho,N2];simp only [f6f,f8w,f5Y];cases q8 b 1 3000
 ·rfl
 ·cases hd:decide (b<a.i4)
  ·rw [show decide (a.i4<=b)=true by simp at hd⊢;omega];rfl
  ·rw [show decide (a.i4<=b)=false by simp at hd⊢;omega];rfl
theorem e1G{a:z4}(h:P9 a=true)(ho:a5J a)(b:Int):c0k a b=some (match I3 a b with|some x=>(x,true)|none=>(a,false)):=b4Z h ho b
theorem d6A(slot:Nat)(hs:slot<40):∀(m:Nat) (vs:List m9),slot+1-vs.length=m->o9 (fun s:List m9=>a8o (slot:Int) s) vs=some (.brk (T5 vs (slot+1)))
 | 0,vs,hm=>by
  rw [C8 (body:=fun s:List m9=>a8o (slot:Int) s) (b:=vs) (by unfold a8o;rw [show decide ((vs.length:Int)<=(slot:Int))=false by simp;omega];rfl)];unfold T5;rw [hm];simp
 | m+1,vs,hm=>by
  rw [D9 (body:=fun s:List m9=>a8o (slot:Int) s) (t:=vs++[v0]) (by unfold a8o;rw [show decide ((vs.length:Int)<=(slot:Int))=true by simp;omega,f8v,v6 (by omega)];rfl),d6A slot hs m _ (by simp;omega)];unfold T5;rw [f6l,f7k,show slot+1-vs.length=(slot+1-(vs.length+1))+1 by omega,f7Z,f6r];rfl
theorem c93{a:z4}(h:P9 a=true)(ho:a5J a)(hl:a.a7.length<=40){b s:Int}(hb:I9 b){e:m6}(he:E9 e):b1I a b s e=some (match K3 a b s e with|some x=>(x,true)|none=>(a,false)):=by
 unfold b1I K3;rw [e1G h ho,f5Y,N2,a6M he.f,b5w ho];cases hp:I3 a b with
 | none=>cases q8 s 0 39&&z5 e<;>rfl
 | some x=>
  obtain ⟨rfl,hb1,hb2,hb3⟩:=a3L hp;simp only [f6f,f8w,f5Y];cases hs:q8 s 0 39
  ·rfl
  cases z5 e
  ·rfl
  obtain ⟨k,rfl⟩:∃k:Nat,s=(k:Int):=⟨s.toNat,by rw [H8] at hs;omega⟩
  rw [H8] at hs;have hlen:=b5l a.a7 (k+1);have hk:k<(T5 a.a7 (k+1)).length:=by rw [hlen];omega
  simp only [f6f,Bool.and_self,f8w,f8v,f5Y,f7u,f6A];rw [d6A k (by omega) _ _ rfl];simp only [f5Y,m5.go,c3V];rw [t9 hk,f5Y,f6A,b5w (x:=⟨b,(T5 a.a7 (k+1)).set k ⟨b,e⟩⟩) ⟨hb,a0B (by rw [f7y,hlen];omega) (by
   intro v hv;rcases f6K hv with q|q
   ·rcases c4t q with q|q
    ·exact ho.2.2 v q
    ·rw [q];exact d58
   ·rw [q];exact ⟨hb,he⟩)⟩]
  rfl
theorem a7q{a:p6}(h:a.out.length<=1000)(to:Int)(m:l9):a4v a to m=some ⟨a.n,a.out++[{m with c9:=a.n.Id,To:=to}],a.told⟩:=by
 unfold a4v;rw [v6 (by omega)]
def a0M(m:l9)(a:p6)(t:Int):p6:=bif t != a.n.Id then ⟨a.n,a.out++[{m with c9:=a.n.Id,To:=t}],a.told⟩ else a
theorem d1W(m:l9)(a:p6)(t:Int):(a0M m a t).out.length<=a.out.length+1:=by
 unfold a0M;cases t != a.n.Id<;>simp
theorem a6v{a:p6}(hid:0<=a.n.Id/\a.n.Id<=2)(h:a.out.length<=900)(m:l9):a3u a m=some ⟨a.n,a.out++I6 a.n.Id m,a.told⟩:=by
 have e:∀(a:p6) (t:Int),a.out.length<=1000->0<=t->t<3->a4D m t a=some (.nxt (t+1,a0M m a t)):=by
  intro a t ho h0 h1;unfold a4D c1w a0M;rw [show decide (t<3)=true by simpa using h1,f8v,a7q ho,C5 (by omega) (by omega)];cases t != a.n.Id<;>rfl
 have l1:=d1W m a 0;have l2:=d1W m (a0M m a 0) (0+1);have h0:=D9 (body:=fun s:Int×p6=>a4D m s.1 s.2) (s:=(0,a)) (e a 0 (by omega) (by omega) (by omega));have h1:=D9 (body:=fun s:Int×p6=>a4D m s.1 s.2) (s:=(0+1,a0M m a 0)) (e (a0M m a 0) (0+1) (by omega) (by omega) (by omega));have h2:=D9 (body:=fun s:Int×p6=>a4D m s.1 s.2) (s:=(0+1+1,a0M m (a0M m a 0) (0+1))) (e (a0M m (a0M m a 0) (0+1)) (0+1+1) (by omega) (by omega) (by omega));have h3:=X4 (body:=fun s:Int×p6=>a4D m s.1 s.2) (s:=(0+1+1+1,a0M m (a0M m (a0M m a 0) (0+1)) (0+1+1))) (show a4D m (0+1+1+1) _=_ from rfl);unfold a3u;rw [h0,h1,h2,h3];obtain ⟨n,o,t⟩:=a;simp only [f5Y,m5.go];have hid':n.Id=0\/n.Id=1\/n.Id=2:=by have:=hid.1;have:=hid.2;simp only at *;omega
 rcases hid' with q|q|q<;>simp [a0M,I6,q]
theorem c7g{a:p6}(h:0<=a.n.Id/\a.n.Id<=2):b1G a=some (a1j a.n.Id,a):=by
 obtain ⟨y,hy⟩:=c2t h;unfold b1G;rw [v6 (by decide),hy];rfl
theorem c0G(a:p6):b4I a=some ⟨a3K a.n,a.out,a.told⟩:=rfl
theorem b6x(a:p6)(b:Int):b0v a b=some ⟨N3 a.n b,a.out,a.told⟩:=by
 unfold b0v N3;rw [c0G];cases a.n.d8 != 0
 ·rfl
 ·cases decide (b>a.n.a8)<;>rfl
theorem a0I.bal0{n:j7}(h:a0I n):∀v∈n.i5,0<=v.a8:=fun v hv=>(h.best.2 v hv).bal.1
def a0d(a:p6)(x:j7×List l9):p6:=⟨x.1,a.out++x.2,a.told⟩
theorem a76(a:p6):a0d a (a.n,[])=a:=by
 unfold a0d;rw [f6P]
theorem b4c{a:p6}(h:NI a.n)(ho:a.out.length<=900):a6k a=some (a0d a (L3 a.n)):=by
 unfold a6k L3;rw [show decide ((a.n.a5.length:Int)>=40)=decide (40<=a.n.a5.length) by simp;omega];cases a.n.d8 != 2
 ·simp only [f8w,f6N];cases hlt:decide (40<=a.n.a5.length)
  ·simp only [f8w,d8s h.ok h.ld.bal0,f5Y];obtain ⟨q,hq,hql,hqm,hqe⟩:=a9w a.n;cases hx:a0O a.n with
   | mk x o=>
   rw [hx] at hq hqe;have hq:x={a.n with d9:=q}:=hq;subst hq;cases o with
   | none=>
    simp only [b24,f6H,f8v,a0d];rw [f6P]
   | some e=>
    have he:=(hqe e rfl).ok h.ok;obtain ⟨c1,c2⟩:=h.accOk;simp only [b24,f6f,f8w];rw [c93 (a:=a.n.Acc) c1 c2 h.vl h.ok.2.2.2.2.2.1 he,f5Y];simp only [a5O];cases hc:K3 a.n.Acc a.n.a8 (a.n.a5.length:Int) e with
    | none=>
     simp only [f6H,f8v,c0G,f5Y,a0d];rw [f6P]
    | some x=>
     simp only [f6f,f8w];rw [c7g (by exact h.id),f5Y];simp only;rw [a6v (by exact h.id) (by exact ho)];rfl
  ·simp only [f8v];rw [a76]
 ·simp only [f8v,f8h];rw [a76]
def a25(a:p6)(x:j7×List l9×List n5):p6:=⟨x.1,a.out++x.2.1,a.told++x.2.2⟩
theorem b97(a:p6):a25 a (a.n,[],[])=a:=by
 unfold a25;rw [f6P,f6P]
theorem d8H{a:p6}(h:NI a.n)(ho:a.out.length<=900)(ht:a.told.length<=900):b43 a=some (a25 a ((L3 (U8 a.n).1).1,(L3 (U8 a.n).1).2,(U8 a.n).2)):=by
 have hk:t0 a.n.a5:=h.ok.2.2.1.fits (by decide);obtain ⟨hl,he⟩:=a07 h.list;have j1:∀b:p6,NI b.n->b.out.length<=900->b7E b=some (a0d b (L3 b.n)):=by
  intro b hb hbo;unfold b7E;rw [b4c hb hbo];rfl
 unfold b43 U8;rw [b11 hk,f5Y];cases hb:a.n.i9
 ·simp only [f8w,f5Y,m5.go];rw [j1 a h ho];simp only [a0d,a25,f6P]
 ·cases hf:a.n.a5.findIdx? (F4 a.n.b7.a0) with
  | none=>
   simp only [f8v];rw [show decide ((-1:Int)>=0)=false from rfl];simp only [f8w,f5Y,m5.go];rw [j1 a h ho];simp only [a0d,a25,f6P]
  | some k=>
   obtain ⟨hkl,h1,h2⟩:=b2U hf;have hlen:(s5 a.n.a5).2.length=a.n.a5.length:=by
    have:=(T2 hl he a.n.a5.length (f6s _)).2.1;rwa [f6u] at this
   have hc:idx (s5 a.n.a5).2 (k:Int)=some (Q4 a.n.a5 k):=by
    rw [t9 (by omega)];unfold Q4;rw [f5Z (by omega)];rfl
   have hj2:∀v:Int,b5D a (Q4 a.n.a5 k) v=some (.brk ⟨a7f a.n,a.out,a.told++[⟨a.n.Id,a.n.b7.a0,Q4 a.n.a5 k,v⟩]⟩):=by
    intro v;unfold b5D;rw [v6 (by omega)];rfl
   have hv:U2 a.n.a5 a.n.b7.a0=a.n.a5[k].b8.g7:=by
    unfold U2;rw [hf];simp only [f5Z hkl]
   simp only [f8v];rw [show decide ((k:Int)>=0)=true by simp];simp only [f8v];rw [b8m (okEntries.f h.ok.2.2.1) hl he,f5Y,hc,f5Y,t9 hkl,hv];cases Q4 a.n.a5 k==0
   ·simp only [f8w,f5Y,m5.go,hj2];exact j1 ⟨a7f a.n,a.out,_⟩ h.freeN ho
   ·simp only [f8v,f5Y,m5.go,hj2];exact j1 ⟨a7f a.n,a.out,_⟩ h.freeN ho
theorem d4j{a:p6}(h:NI a.n)(hl:a.n.a5.length<40){e:m6}(he:z5 e=true)(ho:a.out.length<=900)(ht:a.told.length<=900):b2Q a e=some (a25 a (Y3 a.n e)):=by
 have hk:=d8H (a:=⟨E2 a.n e,a.out,a.told⟩) (h.know he hl) ho ht;unfold b2Q;rw [v6 (by omega)];unfold E2 at hk;cases hp:a.n.d8==3
 ·rw [hp] at hk;simp only [f8w,f5Y,m5.go] at hk⊢;refine hk.trans ?_;unfold Y3 E2;rw [hp];rfl
 ·rw [hp] at hk;simp only [f8v,f5Y,m5.go] at hk⊢;refine hk.trans ?_;unfold Y3 E2;rw [hp];rfl
theorem U4.two{m:l9}(h:U4 m)(hk:m.a9=2):(m.a7.length<=40/\∀v∈m.a7,VI v)/\m.g8+m.a7.length<=40:=by
 rcases h with q|q|q|q|q|q|q
 ·omega
 ·exact ⟨q.2.2.2.1,q.2.2.2.2⟩
 all_goals exact absurd q.1 (by omega)
theorem U4.five{m:l9}(h:U4 m)(hk:m.a9=5):m.g8<40/\z5 m.i0=true:=by
 rcases h with q|q|q|q|q|q|q
 ·omega
 ·omega
 ·omega
 ·exact ⟨q.2.2.1,q.2.2.2.1⟩
 all_goals exact absurd q.1 (by omega)
theorem f3G{a:p6}(h:NI a.n){m:l9}(hm:MI m)(ho:a.out.length<=900)(hto:m.To=a.n.Id):b7n a m=some (a0d a (a15 a.n m)):=by
 obtain ⟨c1,c2⟩:=h.accOk;have hs:=hm.sl;unfold b7n a15;rw [b4Z c1 c2,f5Y];cases hp:I3 a.n.Acc m.a8 with
 | none=>
  simp only [f6H,f8v];rw [a7q (by omega)];simp only [f5Y,a0d,L9,hto]
 | some x=>
  obtain ⟨rfl,_⟩:=a3L hp;simp only [f6f,f8w,b6x,f5Y];have hy:∀(n:j7) (vs:List m9),n.Id=a.n.Id->b4W m ⟨n,a.out,a.told⟩ vs=some ⟨n,a.out++[L9 m ⟨2,0,0,m.a8,m.g8,zE,vs⟩],a.told⟩:=by
   intro n vs hn;unfold b4W;rw [a7q (a:=⟨n,a.out,a.told⟩) (by exact f6M ho (by decide))];simp only [f5Y,L9,hto,hn]
  have hid:(N3 (⟨a.n.Id,⟨m.a8,a.n.Acc.a7⟩,a.n.a5,a.n.Seq,a.n.d8,a.n.a8,a.n.c9,a.n.i5,a.n.d6,a.n.a7,a.n.i9,a.n.i7,a.n.b7,a.n.d9⟩) m.a8).Id=a.n.Id:=a6T _ _;obtain ⟨k,hk⟩:∃k:Nat,m.g8=(k:Int):=⟨m.g8.toNat,by omega⟩
  cases hd:decide (m.g8<(a.n.Acc.a7.length:Int))
  ·simp only [f8w,f5Y,m5.go];rw [hy _ _ hid,f6y (by simp at hd;omega)];rfl
  ·simp only [f8v];rw [v6 (by simp at hd;omega)];simp only [f5Y,m5.go];rw [hy _ _ hid,c4n];rfl
theorem e5A{a:p6}(h:NI a.n){m:l9}(hm:MI m)(ho:a.out.length<=900)(hto:m.To=a.n.Id):b9K a m=some (a0d a (a1U a.n m)):=by
 obtain ⟨c1,c2⟩:=h.accOk;unfold b9K a1U;rw [c93 c1 c2 h.vl hm.ok.2.2.2.1 hm.ok.2.2.2.2.2.1,f5Y];cases K3 a.n.Acc m.a8 m.g8 m.i0 with
 | none=>
  simp only [f6H,f8v];rw [a7q (by omega)];simp only [f5Y,a0d,L9,hto]
 | some x=>
  simp only [f6f,f8w,b6x,f5Y];rw [a7q (by simp only;omega)];simp only [f5Y,a0d,L9,hto,a6T]
theorem d33:∀(l:List Bool) (hl:t0 l) (m k:Nat) (c:Int),k+m=l.length->0<=c->c<=k->o9 (fun s:Int×Int=>a5a l s.1 s.2) (c,(k:Int))=some (.brk (c+(((l.drop k).filter (· == true)).length:Int)))
 | l,hl,0,k,c,hk,h0,h1=>by
  have:k=l.length:=by omega
  subst this;rw [C8 (body:=fun s:Int×Int=>a5a l s.1 s.2) (b:=c) (by unfold a5a;rw [z9];rfl)];simp
 | l,hl,m+1,k,c,hk,h0,h1=>by
  have hlt:k<l.length:=by omega
  have hf:=hl;unfold t0 at hf;have hb:a5a l c (k:Int)=some (.nxt (bif l[k] then c+1 else c,((k+1:Nat):Int))):=by
   unfold a5a c0X;rw [x7 _ k hlt,f8v,t9 hlt,f5Y,F6 hl hlt,C5 (by omega) (by omega)];cases l[k]<;>rfl
  rw [D9 (body:=fun s:Int×Int=>a5a l s.1 s.2) hb,d33 l hl m (k+1) _ (by omega) (by cases l[k]<;>simp<;>omega) (by cases l[k]<;>simp<;>omega),f6w hlt];cases l[k]<;>simp<;>omega
theorem c8V{l:List Bool}(h:t0 l):∃c,b3V l=some c/\decide (c>=2)=N1 l:=by
 unfold b3V;rw [show o9 (fun s:Int×Int=>a5a l s.1 s.2) (0,0)=_ from d33 l h l.length 0 0 (by omega) (by omega) (by omega)];refine ⟨_,rfl,?_⟩;unfold N1;rw [f7A];simp only [f7t,decide_eq_true_eq];omega
theorem f4i{a b:List m9}(ha:a.length<=40/\∀v∈a,VI v)(hb:b.length<=40/\∀v∈b,VI v):b4S a b=some (E1 a b):=by
 have oa:=a37 (by omega) ha.2;have ob:=a37 (by omega) hb.2;have hlen:=a8F a b;have hok:A3 96 S5 (E1 a b):=a37 (by omega) fun v hv=>(a9M hv).elim (ha.2 v) (hb.2 v)
 unfold b4S;rw [b21 oa,f5Y,a7i.2 ha,b21 ob,f5Y,a7i.2 hb];simp only [f6f,f8w];rw [a5X (body:=fun s:(List m9)×Int=>a51 a b s.1 s.2) (E1 a b) (by unfold t0;omega) (fun l=>l) (by
  intro k hk;have hget:=a9C a b k;rw [f5Z hk] at hget;have hj1:∀l:List m9,c3U (k:Int) l=some (.nxt (l,m8 ((k:Int)+1))):=fun _=>rfl
  have htl:(((E1 a b).take k).length+1)*96<=140737488355328:=by rw [f6t];omega
  show a51 a b ((E1 a b).take k) (k:Int)=_
  have hstart:a51 a b ((E1 a b).take k) (k:Int)=b5O a b ((E1 a b).take k) (k:Int):=by
   unfold a51;by_cases h1:k<a.length
   ·rw [x7 _ k h1];rfl
   ·rw [show decide ((k:Int)<(a.length:Int))=false by simp;omega,x7 _ k (by omega)];rfl
  rw [hstart];unfold b5O;by_cases h1:k<a.length
  ·rw [show decide ((k:Int)>=(a.length:Int))=false by simp;omega,t9 h1];rw [f5Z h1] at hget;by_cases h2:k<b.length
   ·rw [show decide ((k:Int)>=(b.length:Int))=false by simp;omega,t9 h2];rw [f5Z h2] at hget;injection hget with hget;simp only [f8w,f5Y,v6 htl];rw [hget,show decide (a[k].a8>=b[k].a8) = !decide (b[k].a8>a[k].a8) by rw [f7A];simp];cases decide (b[k].a8>a[k].a8)<;>rfl
   ·rw [show decide ((k:Int)>=(b.length:Int))=true by simp;omega];rw [f6z (by omega)] at hget;injection hget with hget;simp only [f8w,f8v,f5Y,v6 htl];rw [hget];rfl
  ·have h2:k<b.length:=by omega
   rw [show decide ((k:Int)>=(a.length:Int))=true by simp;omega,t9 h2];rw [f6z (by omega),f5Z h2] at hget;injection hget with hget;simp only [f8v,f5Y,v6 htl];rw [hget];rfl) (by
  show a51 a b (E1 a b) ((E1 a b).length:Int)=_
  unfold a51;rw [show decide (((E1 a b).length:Int)<(a.length:Int))=false by simp;omega,show decide (((E1 a b).length:Int)<(b.length:Int))=false by simp;omega];rfl)]
 simp only [f5Y,m5.go,c2d,b74 hok]
theorem f02{a:p6}(h:NI a.n){m:l9}(hm:MI m)(hk:m.a9=2)(ho:a.out.length<=900):b8k a m=some (a0d a (a1W a.n m)):=by
 have hkd:=hm.kd.two hk;have hs:=hm.sl;have hf:=hm.fr;have hright:=c1b h hm hk;unfold b8k;unfold a1W at hright⊢;by_cases p1:a.n.d8=1
 ·rw [show (a.n.d8 != 1)=false by simp [p1],f6N] at hright;rw [show (a.n.d8 != 1)=false by simp [p1],f6N];cases hb:m.a8 != a.n.a8
  ·rw [hb] at hright;simp only [f8w] at hright⊢;have hl:a.n.c9.length=3/\Own a.n:=by
    rcases h.ld with q|q|q|q
    ·omega
    ·exact ⟨q.2.2.1,q.2.1⟩
    all_goals exact absurd q.1 (by omega)
   obtain ⟨f,hff⟩:∃f:Nat,m.c9=(f:Int):=⟨m.c9.toNat,by omega⟩
   have hvo:(f6a m.g8.toNat v0++m.a7).length<=40/\∀v∈f6a m.g8.toNat v0++m.a7,VI v:=⟨by simp;omega,fun v hv=>(f6b.1 hv).elim (fun q=>by rw [(f6X.1 q).2];exact .inl rfl) (hkd.1.2 v)⟩
   obtain ⟨c,c1,c2⟩:=c8V (l:=a.n.c9.set (f:Int).toNat true) (b96 (by simp;omega));rw [hff] at hright;rw [hff,t9 (show f<a.n.c9.length by omega),f5Y,v6 (by omega),v6 (by simp;omega),show (⟨0,⟨false,⟨0,0⟩,⟨[],[],0,0⟩⟩⟩:m9)=v0 from rfl,f4i ⟨hl.2.bl,hl.2.bs⟩ hvo,f5Y,c1,f5Y,c2];cases htw:N1 (a.n.c9.set (f:Int).toNat true)
   ·simp only [f8w,a0d];rw [f6P]
   ·rw [htw] at hright;simp only [f8v] at hright⊢;have hni:NI ⟨a.n.Id,a.n.Acc,a.n.a5,a.n.Seq,2,a.n.a8,[],E1 a.n.i5 (f6a m.g8.toNat v0++m.a7),a.n.d6,a.n.a7,a.n.i9,a.n.i7,a.n.b7,a.n.d9⟩:=by
     rcases h.ld with q|q|q|q
     ·omega
     ·exact ⟨h.id,h.pr,h.vl,h.vs,h.kl,h.ks,h.sq,h.ql,h.qs,.inr (.inr (.inl ⟨rfl,⟨q.2.1.b1,q.2.1.b2,q.2.1.mod,q.2.1.pr,by have:=a8F a.n.i5 (f6a m.g8.toNat v0++m.a7);have:=hl.2.bl;have:=hvo.1;simp only at *;omega,fun v hv=>(a9M hv).elim (hl.2.bs v) (hvo.2 v)⟩,rfl,q.2.2.2.2.1,q.2.2.2.2.2⟩)),h.wt⟩
     all_goals exact absurd q.1 (by omega)
    rw [b4c (a:=⟨⟨a.n.Id,a.n.Acc,a.n.a5,a.n.Seq,2,a.n.a8,[],E1 a.n.i5 (f6a m.g8.toNat v0++m.a7),a.n.d6,a.n.a7,a.n.i9,a.n.i7,a.n.b7,a.n.d9⟩,a.out,a.told⟩) hni ho];rfl
  ·simp only [f8v,f8w];rw [a76]
 ·rw [show (a.n.d8 != 1)=true by simpa using p1];simp only [f8v,f8h];rw [a76]
theorem f1Y{a:p6}(h:NI a.n){m:l9}(hm:MI m)(ho:a.out.length<=800)(ht:a.told.length<=800):b9d a m=some (a25 a (a2F a.n m)):=by
 have hf:=hm.fr;unfold b9d a2F;by_cases p3:a.n.d8=3
 ·rw [show (a.n.d8 != 3)=false by simp [p3],f6N];cases hb:m.a8 != a.n.a8
  ·simp only [f8w,f6N];cases hs:m.g8 != (a.n.a5.length:Int)
   ·simp only [f8w];have hsl:m.g8=(a.n.a5.length:Int):=by simpa using hs
    obtain ⟨q1,q2,q3,q4,q5,q6,q7⟩:a.n.d8=3/\Own a.n/\a.n.c9=[]/\z5 a.n.d6=true/\a.n.a7.length=3/\a.n.a7[a.n.Id.toNat]?=some true/\a.n.a5.length<40:=by
     rcases h.ld with q|q|q|q
     ·omega
     ·omega
     ·omega
     ·exact q
    obtain ⟨f,hff⟩:∃f:Nat,m.c9=(f:Int):=⟨m.c9.toNat,by omega⟩
    obtain ⟨c,c1,c2⟩:=c8V (l:=a.n.a7.set (f:Int).toNat true) (b96 (by simp;omega));rw [hff,t9 (show f<a.n.a7.length by omega),f5Y,c1,f5Y,c2];cases htw:N1 (a.n.a7.set (f:Int).toNat true)
    ·simp only [f8w,a25,f6P]
    ·simp only [f8v];have hid:=h.id;have hni:NI ⟨a.n.Id,a.n.Acc,a.n.a5,a.n.Seq,a.n.d8,a.n.a8,a.n.c9,a.n.i5,a.n.d6,a.n.a7.set (f:Int).toNat true,a.n.i9,a.n.i7,a.n.b7,a.n.d9⟩:=
      ⟨h.id,h.pr,h.vl,h.vs,h.kl,h.ks,h.sq,h.ql,h.qs,.inr (.inr (.inr ⟨q1,q2,q3,q4,by simpa using q5,by
       show (a.n.a7.set f true)[a.n.Id.toNat]?=some true
       rw [f7E];split
       ·rw [if_pos (by omega)]
       ·exact q6,q7⟩)),h.wt⟩
     have l1:=a04 a.n.Id ⟨5,0,0,0,m.g8,a.n.d6,[]⟩;rw [a6v (by exact hid) (by simp only;omega),f5Y];simp only;rw [d4j (a:=⟨⟨a.n.Id,a.n.Acc,a.n.a5,a.n.Seq,a.n.d8,a.n.a8,a.n.c9,a.n.i5,a.n.d6,a.n.a7.set (f:Int).toNat true,a.n.i9,a.n.i7,a.n.b7,a.n.d9⟩,a.out++I6 a.n.Id ⟨5,0,0,0,m.g8,a.n.d6,[]⟩,a.told⟩) hni q7 q4 (by simp only [f6l];omega) (by simp only;omega),f5Y,hsl];simp only [a25,f6r]
   ·simp only [f8v];rw [b97]
  ·simp only [f8v,f8w,f8h];rw [b97]
 ·rw [show (a.n.d8 != 3)=true by simpa using p3];simp only [f8v,f8h];rw [b97]
theorem e2N{a:p6}(h:NI a.n){m:l9}(hm:MI m)(hk:m.a9=5)(ho:a.out.length<=800)(ht:a.told.length<=800)(hto:m.To=a.n.Id):b7d a m=some (a25 a (a2M a.n m)):=by
 have hkd:=hm.kd.five hk;unfold b7d a2M;cases h1:decide (m.g8<(a.n.a5.length:Int))
 ·cases h2:decide (m.g8>(a.n.a5.length:Int))
  ·simp only [f8w];have hl:a.n.a5.length<40:=by simp at h1 h2;omega
   rw [d4j h hl hkd.2 (by omega) (by omega)];rfl
  ·simp only [f8w,f8v];rw [a7q (by omega)];simp only [f5Y,a25,L9,hto,f6P]
 ·simp only [f8v];rw [b97]
theorem e65{a:p6}(h:NI a.n){m:l9}(hm:MI m)(hk:m.a9=7)(ho:a.out.length<=800):b7P a m=some (a0d a (a2b a.n m)):=by
 have hql:=h.ql;obtain ⟨e1,e2⟩:z5 m.i0=true/\m.i0.i8=false:=by
  rcases hm.kd with q|q|q|q|q|q|q
  ·omega
  ·omega
  ·omega
  ·omega
  ·omega
  ·exact ⟨q.2.2.2.1,q.2.2.2.2.1⟩
  ·omega
 unfold b7P a2b;rw [show decide ((a.n.d9.length:Int)>=4)=decide (4<=a.n.d9.length) by simp;omega,f3U (h.ok.2.2.1.fits (by decide))];cases a.n.d8==0
 ·simp only [f8w,f6N];cases h4:decide (4<=a.n.d9.length)
  ·simp only [f8w,f6N,f5Y];cases N0 a.n.a5 m.i0.a0
   ·simp only [f8w];have hni:NI {a.n with d9:=a.n.d9++[m.i0]}:=h.queue (by simp at h4⊢;omega) (by
     intro e he;rcases f6b.1 he with q|q
     ·exact h.qs e q
     ·rw [f6h.1 q];exact ⟨e1,e2⟩)
    rw [v6 (by omega),b4c (a:=⟨{a.n with d9:=a.n.d9++[m.i0]},a.out,a.told⟩) hni (by simp only;omega)];rfl
   ·simp only [f8v];rw [a76]
  ·simp only [f8v,f8h];rw [a76]
 ·simp only [f8v,f8h];rw [a76]
theorem b8x{n:j7}(h:NI n):a7N n=some ⟨n,[],[]⟩:=by
 unfold a7N;rw [b8L h.ok];rfl
theorem e9o{l:List l9}(hl:l.length<=1000)(h:∀m∈l,MI m):A3 152 a0h l:=a0B (by omega) fun m hm=>(h m hm).ok
theorem c1n{a:p6}(h:NI a.n)(ho:a.out.length<=1000)(hm:∀m∈a.out,MI m)(ht:a.told.length<=1000):a1X a=some (a.n,a.out,a.told,a):=by
 unfold a1X;rw [b8L h.ok,f5Y,c9Q (e9o ho hm),f5Y,d6I (by omega)];rfl
theorem c3h{n:j7}{x:j7×List l9}(h:T8 n x)(hl:x.2.length<=1000):a1X ⟨x.1,x.2,[]⟩=some (x.1,x.2,[],⟨x.1,x.2,[]⟩):=c1n h.ni hl h.ms (by simp)
theorem c2w(l:List n8)(prog:List n9):∀(f k:Nat) (regs:List Int) (rs:List r9) (ps:List p7),(S9 l prog f k regs rs ps).Code≠3
 | 0,_,_,_,_=>by simp [S9]
 | f+1,k,regs,rs,ps=>by
  unfold S9;cases prog[k]? with
  | none=>simp
  | some i=>
   simp only;cases i.a9==6
   ·cases i.a9==7
    ·cases (D7 l i regs rs ps).1.all H1
     ·simp
     ·exact c2w l prog f _ _ _ _
    ·simp
   ·exact c2w l prog f _ _ _ _
theorem e7K{l:List n8}(hb:D1 l=true)(p:List n9):((C2 l p).Code==3) = !E4 p:=by
 unfold C2;rw [hb,f6n];cases E4 p
 ·rfl
 ·simpa using c2w l p _ _ _ _ _
theorem e2R{n:j7}(h:NI n):b5V n=some (s5 n.a5).1:=by
 unfold b5V;rw [a8B h.ok,f5Y,a1i.2 h];simp only [f6f,f8w];rw [d0b (okEntries.f h.ok.2.2.1),h.list];rfl
theorem c7c{prog:List n9}(h:A3 32 okT prog):t0 prog:=h.fits (by decide)
theorem f4w{n:j7}(h:NI n){prog:List n9}(hp:A3 32 okT prog):b5i n prog=some ((K5 n prog).1,(K5 n prog).2,[]):=by
 have hf:=c7c hp;have hs:=h.sq;have hr:=b0w h hf;have hlen:=c0P n prog;have e0:=c1n (a:=⟨n,[],[]⟩) h (by simp) (by simp) (by simp);rw [a2k] at hr hlen;unfold b5i;rw [a8B h.ok,f5Y,a1i.2 h,b8x h,a2k,b6u hf,e2R h];simp only [f6f,f8w,f5Y];have hc:((C2 (a2w n) prog).Code==3) = !E4 prog:=e7K (b6J h) prog;rw [show (s5 n.a5).1.g9=a2w n from rfl,d3R (a4z (b6J h)) hf];unfold K7 at hr hlen⊢;rw [hc] at hr hlen⊢;cases hb:n.i9
 ·cases hq:n.Seq==1000
  ·cases hpo:E4 prog
   ·simp only [f6H,f8v,f8w,e0,f5Y];rfl
   ·rw [hb,hq,hpo] at hr hlen;have hca:K7 n prog=true:=by unfold K7;rw [hc,hb,hq,hpo];rfl
    have hn:=h.asked hf hca;simp only [f6f,f6H,Bool.or_false,f8v,f8w,f5Y] at hr hlen⊢;rw [C5 (by omega) (by omega)];have ha:(⟨⟨n.Id,n.Acc,n.a5,n.Seq+1,n.d8,n.a8,n.c9,n.i5,n.d6,n.a7,true,prog,⟨false,⟨n.Id,n.Seq+1⟩,C2 (a2w n) prog⟩,n.d9⟩,[],[]⟩:p6)=⟨Q0 n prog,[],[]⟩:=rfl;have hj:∀x:j7×List l9,T8 n x->x.2.length<=3->b9y ⟨x.1,x.2,[]⟩=some (x.1,x.2,[]):=by
     intro x hx hl;unfold b9y;rw [c3h hx (by omega)];rfl
    rw [ha];cases h2:n.d8==2
    ·rw [h2] at hr hlen;cases h0:n.d8==0
     ·rw [h0] at hr hlen;simp only [f8w,f5Y,m5.go] at hr hlen⊢;exact hj _ hr hlen
     ·rw [h0] at hr hlen;simp only [f8w,f8v] at hr hlen⊢;rw [a6v (a:=⟨Q0 n prog,[],[]⟩) (by exact h.id) (by simp)];simp only [f5Y,m5.go,f6V];exact hj (Q0 n prog,_) hr hlen
    ·rw [h2] at hr hlen;simp only [f8v] at hr hlen⊢;rw [b4c (a:=⟨Q0 n prog,[],[]⟩) hn (by simp)];simp only [f5Y,m5.go,a0d,f6V];exact hj _ hr hlen
  ·simp only [f8v,f8w,e0,f5Y];rfl
 ·simp only [f8v,e0,f5Y];rfl
theorem e26{b who:Int}(hb:0<=b/\b<=3000)(hw:0<=who/\who<=2):b7p b who=some (M7 b who):=by
 have e:∀i:Int,1<=i->i<=4->a2v who (b+i)=some (bif decide (b+i<=3000) then (bif f6D (b+i) 3==who then .ret (b+i) else .nxt (b+(i+1))) else .brk ()):=by
  intro i h1 h3;unfold a2v;rw [show decide (b+i>0)=true by simp;omega,d4f,C5 (by omega) (by omega),Int.add_assoc];cases hd:decide (b+i<=3000)
  ·rfl
  ·rw [show a0a (b+i)=f6D (b+i) 3 by
    unfold a0a;rw [H8.2 ⟨by omega,by simpa using hd⟩];rfl]
   simp only [f8v,f5Y];cases f6D (b+i) 3==who<;>rfl
 have hmod:∀i:Int,1<=i->f6D (b+i) 3=(b+i) % 3:=fun i hi=>Int.tmod_eq_emod_of_nonneg (by omega)
 have e1:=e 1 (by omega) (by omega);have e2:=e 2 (by omega) (by omega);have e3:=e 3 (by omega) (by omega);have m1:=hmod 1 (by omega);have m2:=hmod 2 (by omega);have m3:=hmod 3 (by omega);unfold b7p M7;rw [show decide (b<0)=false by simp;omega,N2,show q8 who 0 2=true from H8.2 hw,C5 (by omega) (by omega)];simp only [f8w,f5Y,f6f];cases q1:decide (b+1<=3000)
 ·rw [q1] at e1;rw [C8 (body:=fun s:Int=>a2v who s) e1,show decide (b+2<=3000)=false by simp at q1⊢;omega,show decide (b+3<=3000)=false by simp at q1⊢;omega];rfl
 rw [q1] at e1;cases t1:f6D (b+1) 3==who;case true=>rw [t1] at e1;rw [X4 (body:=fun s:Int=>a2v who s) e1];rfl
 rw [t1] at e1;rw [D9 (body:=fun s:Int=>a2v who s) e1];cases q2:decide (b+2<=3000)
 ·rw [show (1:Int)+1=2 from rfl];rw [q2] at e2;rw [C8 (body:=fun s:Int=>a2v who s) e2,show decide (b+3<=3000)=false by simp at q2⊢;omega];rfl
 rw [q2] at e2;rw [show (1:Int)+1=2 from rfl];cases t2:f6D (b+2) 3==who;case true=>rw [t2] at e2;rw [X4 (body:=fun s:Int=>a2v who s) e2];rfl
 rw [t2] at e2;rw [D9 (body:=fun s:Int=>a2v who s) e2,show (2:Int)+1=3 from rfl];cases q3:decide (b+3<=3000)
 ·rw [q3] at e3;rw [C8 (body:=fun s:Int=>a2v who s) e3];rfl
 rw [q3] at e3;have t3:(f6D (b+3) 3==who)=true:=by
  simp only [beq_eq_false_iff_ne,beq_iff_eq] at t1 t2⊢;omega
 rw [t3] at e3;rw [X4 (body:=fun s:Int=>a2v who s) e3,t3];rfl
theorem e36{n:j7}(h:NI n):b53 n=some (X5 n):=by
 have hr:=b0Z h;have hl:=b5z n;have hj:∀x:j7×List l9,T8 n x->x.2.length<=3->b35 ⟨x.1,x.2,[]⟩=some x:=by
  intro x hx hl;unfold b35;rw [c3h hx (by omega)];rfl
 unfold b53;unfold X5 at hr hl⊢;rw [a8B h.ok,f5Y,a1i.2 h,b8x h,e26 h.pr h.id];simp only [f6f,f8w,f5Y];cases hd:decide (M7 n.Acc.i4 n.Id<0)
 ·rw [hd] at hr hl;simp only [decide_eq_false_iff_not] at hd;obtain ⟨c1,c2⟩:=h.accOk;rcases b48 h.pr h.id with q|⟨q1,q2,q3,q4⟩
  ·omega
  ·have hpr:=h.pr;rw [show decide (M7 n.Acc.i4 n.Id>=0)=true by simp;omega];simp only [f8v,f8w,c0G,f5Y] at hr hl⊢;rw [b4Z (a:=(a3K n).Acc) c1 c2,show I3 (a3K n).Acc (M7 n.Acc.i4 n.Id)=some ⟨M7 n.Acc.i4 n.Id,n.Acc.a7⟩ from b70 (a:=n.Acc) (by omega) q3 (by omega),f5Y,c7g (by exact h.id),f5Y];simp only;have ha:=a6v (a:=⟨⟨n.Id,⟨M7 n.Acc.i4 n.Id,n.Acc.a7⟩,n.a5,n.Seq,1,M7 n.Acc.i4 n.Id,a1j n.Id,n.Acc.a7,zE,[],n.i9,n.i7,n.b7,n.d9⟩,[],[]⟩) h.id (by simp) ⟨1,0,0,M7 n.Acc.i4 n.Id,(n.a5.length:Int),zE,[]⟩;refine (congrArg (fun x:Option p6=>((x.bind fun all=>some (m5.brk all)).bind fun x:m5 (j7×List l9) p6=>x.go some fun j=>b35 j)) ha).trans ?_;simp only [f5Y,m5.go,f6V];have e:=hj _ hr hl;exact e
 ·rw [hd] at hr hl;rw [show decide (M7 n.Acc.i4 n.Id>=0)=false by simp at hd⊢;omega];simp only [f8w,f8v,f5Y,m5.go] at hr hl⊢;exact hj (n,[]) hr hl
theorem e67{n:j7}(h:NI n):b7U n=some ((V6 n).1,(V6 n).2,[]):=by
 have hr:=a9u h;have hl:=c3C n;have hj:∀x:j7×List l9,T8 n x->x.2.length<=6->b90 ⟨x.1,x.2,[]⟩=some (x.1,x.2,[]):=by
  intro x hx hl;unfold b90;rw [c3h hx (by omega)];rfl
 have l0:=a04 n.Id ⟨8,0,0,0,(n.a5.length:Int),zE,[]⟩;unfold b7U;unfold V6 at hr hl⊢;rw [a8B h.ok,f5Y,a1i.2 h,b8x h];simp only [f6f,f8w,f5Y];rw [a6v (a:=⟨n,[],[]⟩) (by exact h.id) (by simp)];simp only [f5Y,f6V];have l1:(I6 n.Id ⟨8,0,0,0,(n.a5.length:Int),⟨false,⟨0,0⟩,⟨[],[],0,0⟩⟩,[]⟩).length<=3:=l0;cases h1:n.d8==1
 ·cases h2:n.d8==2
  ·cases h3:n.d8==3
   ·cases hbz:n.i9
    ·rw [h1,h2,h3,hbz] at hr hl;simp only [f8w,f5Y,m5.go] at hr hl⊢;have e:=hj _ hr hl;exact e
    ·rw [h1,h2,h3,hbz] at hr hl;simp only [f8w,f8v] at hr hl⊢;rw [a6v (by exact h.id) (by simp only;omega)];simp only [f5Y,m5.go];have e:=hj _ hr hl;exact e
   ·rw [h1,h2,h3] at hr hl;simp only [f8w,f8v] at hr hl⊢;rw [a6v (by exact h.id) (by simp only;omega)];simp only [f5Y,m5.go];have e:=hj _ hr hl;exact e
  ·rw [h1,h2] at hr hl;simp only [f8w,f8v] at hr hl⊢;rw [b4c (by exact h) (by simp only;omega)];simp only [f5Y,m5.go];have e:=hj _ hr hl;exact e
 ·rw [h1] at hr hl;simp only [f8v] at hr hl⊢;rw [a6v (by exact h.id) (by simp only;omega)];simp only [f5Y,m5.go];have e:=hj _ hr hl;exact e
theorem f5i{n:j7}(h:NI n):b8E n=some (a0l n):=by
 unfold b8E;rw [a8B h.ok,f5Y,a1i.2 h];simp only [f6f,f8w];rw [show (⟨n.Id,n.Acc,n.a5,n.Seq,0,0,[],[],⟨false,⟨0,0⟩,⟨[],[],0,0⟩⟩,[],false,[],⟨false,⟨0,0⟩,⟨[],[],0,0⟩⟩,[]⟩:j7)=a0l n from rfl,b8L h.fall.ok];rfl
theorem c7a{n:j7}(h:NI n){m:l9}(hto:m.To=n.Id):∀(d k:Nat) (o:List l9),n.a5.length-k=d->o.length<=k->o9 (fun s:Int×p6=>a6U m s.1 s.2) ((k:Int),⟨n,o,[]⟩)=some (.brk ⟨n,o++((f6i d).map fun j=>a1n n m (k+j)).flatten,[]⟩)
 | 0,k,o,hd,ho=>by
  have hkl:=h.kl;refine (C8 (body:=fun s:Int×p6=>a6U m s.1 s.2) (b:=⟨n,o,[]⟩) ?_).trans (by simp);unfold a6U;rw [show decide ((k:Int)<(n.a5.length:Int))=false by simp;omega];rfl
 | d+1,k,o,hd,ho=>by
  have hkl:=h.kl;have hlt:k<n.a5.length:=by omega
  have hb:a6U m (k:Int) ⟨n,o,[]⟩=some (.nxt (((k+1:Nat):Int),⟨n,o++a1n n m k,[]⟩)):=by
   unfold a6U;rw [x7 _ k hlt,f8v];simp only;rw [t9 hlt,f5Y,a7q (by simp only;omega),b9w m hlt,F6 (h.ok.2.2.1.fits (by decide)) hlt];simp only [f5Y,L9,hto]
  rw [D9 (body:=fun s:Int×p6=>a6U m s.1 s.2) (s:=((k:Int),⟨n,o,[]⟩)) hb,c7a h hto d (k+1) _ (by omega) (by rw [b9w m hlt];simp;omega)];rw [List.range_succ_eq_map,f6L,f6E,f6r,f8e];simp only [f7J,Function.comp_def,Nat.succ_eq_add_one,Nat.add_assoc,Nat.add_comm 1]
theorem f3X{n:j7}(h:NI n){m:l9}(hm:MI m)(hto:m.To=n.Id):b5g n m=some (W2 n m):=by
 have hr:=b4t h hm;have hl:=b69 h m;have hj:∀x:j7×List l9×List n5,a5Y n x->x.2.1.length<=60->x.2.2.length<=1->b7C ⟨x.1,x.2.1,x.2.2⟩=some x:=by
  intro x hx h1 h2;unfold b7C;rw [c1n hx.ni (by simp only;omega) hx.ms (by simp only;omega)];rfl
 have hz:NI (⟨n,[],[]⟩:p6).n:=h;unfold b5g;unfold W2 at hr hl⊢;rw [a8B h.ok,f5Y,a1i.2 h,b8x h,d2D hm.ok,c96.2 hm,show (m.To != n.Id)=false by simpa using hto];simp only [f6f,f8w,f5Y];by_cases k1:m.a9=1
 ·rw [show (m.a9==1)=true by simpa using k1] at hr hl⊢;simp only [f8v] at hr hl⊢;rw [f3G (a:=⟨n,[],[]⟩) h hm (by simp) hto];have e:=hj _ hr hl.1 hl.2;exact e
 rw [show (m.a9==1)=false by simpa using k1] at hr hl⊢;by_cases k2:m.a9=2
 ·rw [show (m.a9==2)=true by simpa using k2] at hr hl⊢;simp only [f8v,f8w] at hr hl⊢;rw [f02 (a:=⟨n,[],[]⟩) h hm k2 (by simp)];have e:=hj _ hr hl.1 hl.2;exact e
 rw [show (m.a9==2)=false by simpa using k2] at hr hl⊢;by_cases k3:m.a9=3
 ·rw [show (m.a9==3)=true by simpa using k3] at hr hl⊢;simp only [f8v,f8w] at hr hl⊢;rw [e5A (a:=⟨n,[],[]⟩) h hm (by simp) hto];have e:=hj _ hr hl.1 hl.2;exact e
 rw [show (m.a9==3)=false by simpa using k3] at hr hl⊢;by_cases k4:m.a9=4
 ·rw [show (m.a9==4)=true by simpa using k4] at hr hl⊢;simp only [f8v,f8w] at hr hl⊢;rw [f1Y (a:=⟨n,[],[]⟩) h hm (by simp) (by simp)];have e:=hj _ hr hl.1 hl.2;exact e
 rw [show (m.a9==4)=false by simpa using k4] at hr hl⊢;by_cases k5:m.a9=5
 ·rw [show (m.a9==5)=true by simpa using k5] at hr hl⊢;simp only [f8v,f8w] at hr hl⊢;rw [e2N (a:=⟨n,[],[]⟩) h hm k5 (by simp) (by simp) hto];have e:=hj _ hr hl.1 hl.2;exact e
 rw [show (m.a9==5)=false by simpa using k5] at hr hl⊢;by_cases k6:m.a9=6
 ·rw [show (m.a9==6)=true by simpa using k6] at hr hl⊢;obtain ⟨c1,c2⟩:=h.accOk;simp only [f8v,f8w] at hr hl⊢;rw [b4Z c1 c2];cases hp:I3 n.Acc m.a8
  ·rw [hp] at hr;simp only [f5Y,b6x,m5.go];have e:=hj _ hr hl.1 hl.2;exact e
  ·rw [hp] at hr;simp only [f5Y,b6x,m5.go];have e:=hj _ hr hl.1 hl.2;exact e
 rw [show (m.a9==6)=false by simpa using k6] at hr hl⊢;by_cases k7:m.a9=7
 ·rw [show (m.a9==7)=true by simpa using k7] at hr hl⊢;simp only [f8v,f8w] at hr hl⊢;rw [e65 (a:=⟨n,[],[]⟩) h hm k7 (by simp)];have e:=hj _ hr hl.1 hl.2;exact e
 rw [show (m.a9==7)=false by simpa using k7] at hr hl⊢;cases k8:m.a9==8
 ·rw [k8] at hr hl;simp only [f8w,f5Y,m5.go] at hr hl⊢;have e:=hj _ hr hl.1 hl.2;exact e
 ·rw [k8] at hr hl;have hs:=hm.sl;obtain ⟨k,hk⟩:∃k:Nat,m.g8=(k:Int):=⟨m.g8.toNat,by omega⟩
  simp only [f8w,f8v] at hr hl⊢;unfold a4n at hr hl⊢;rw [hk] at hr hl⊢;rw [f6A] at hr hl⊢;rw [c7a h hto (n.a5.length-k) k [] rfl (by simp)];have e:=hj _ hr hl.1 hl.2;exact e
theorem c2a{l:List l9}(hl:t0 l):∀(d k:Nat) (net:List l9),net.length<=40->l.length-k=d->o9 (fun s:(List l9)×Int=>a4l l s.1 s.2) (net,(k:Int))=some (.brk (net++(l.drop k).take (40-net.length)))
 | 0,k,net,hn,hd=>by
  refine (C8 (body:=fun s:(List l9)×Int=>a4l l s.1 s.2) (b:=net) ?_).trans (by rw [f6y (by omega)];simp);unfold a4l;rw [show decide ((k:Int)<(l.length:Int))=false by simp;omega];rfl
 | d+1,k,net,hn,hd=>by
  have hlt:k<l.length:=by omega
  rw [f6w hlt];by_cases h40:net.length<40
  ·rw [D9 (body:=fun s:(List l9)×Int=>a4l l s.1 s.2) (t:=(net++[l[k]],((k+1:Nat):Int))) (by
    unfold a4l b7h;rw [x7 _ k hlt,f8v,t9 hlt,f5Y,show decide ((net.length:Int)<40)=true by simp;omega,f8v,v6 (by simp only;omega),F6 hl hlt];rfl),c2a hl d (k+1) _ (by simp;omega) (by omega),f6l,f7k,show 40-net.length=(40-(net.length+1))+1 by omega,f7Y,f6r]
   rfl
  ·rw [D9 (body:=fun s:(List l9)×Int=>a4l l s.1 s.2) (t:=(net,((k+1:Nat):Int))) (by
    unfold a4l b7h;rw [x7 _ k hlt,f8v,t9 hlt,f5Y,show decide ((net.length:Int)<40)=false by simp;omega,f8w,F6 hl hlt];rfl),c2a hl d (k+1) _ hn (by omega),show 40-net.length=0 by omega,f6R,f6R]
theorem c4B{l:List n5}(hl:t0 l):∀(d k:Nat) (net:List n5),net.length<=60->l.length-k=d->o9 (fun s:(List n5)×Int=>a3U l s.1 s.2) (net,(k:Int))=some (.brk (net++(l.drop k).take (60-net.length)))
 | 0,k,net,hn,hd=>by
  refine (C8 (body:=fun s:(List n5)×Int=>a3U l s.1 s.2) (b:=net) ?_).trans (by rw [f6y (by omega)];simp);unfold a3U;rw [show decide ((k:Int)<(l.length:Int))=false by simp;omega];rfl
 | d+1,k,net,hn,hd=>by
  have hlt:k<l.length:=by omega
  rw [f6w hlt];by_cases h40:net.length<60
  ·rw [D9 (body:=fun s:(List n5)×Int=>a3U l s.1 s.2) (t:=(net++[l[k]],((k+1:Nat):Int))) (by
    unfold a3U b8X;rw [x7 _ k hlt,f8v,t9 hlt,f5Y,show decide ((net.length:Int)<60)=true by simp;omega,f8v,v6 (by simp only;omega),F6 hl hlt];rfl),c4B hl d (k+1) _ (by simp;omega) (by omega),f6l,f7k,show 60-net.length=(60-(net.length+1))+1 by omega,f7Y,f6r]
   rfl
  ·rw [D9 (body:=fun s:(List n5)×Int=>a3U l s.1 s.2) (t:=(net,((k+1:Nat):Int))) (by
    unfold a3U b8X;rw [x7 _ k hlt,f8v,t9 hlt,f5Y,show decide ((net.length:Int)<60)=false by simp;omega,f8w,F6 hl hlt];rfl),c4B hl d (k+1) _ hn (by omega),show 60-net.length=0 by omega,f6R,f6R]
theorem a9O{w:m4}(hn:w.a6.length=3)(f1V:w.b9.length<=40)(htl:w.Told.length<=60){n:j7}(hid:0<=n.Id/\n.Id<=2){l:List l9}(hl:l.length<=100){t:List n5}(ht:t.length<=100):a4F w n l t=some (a8q (a0R (N5 w n.Id n) l) t):=by
 obtain ⟨k,hk⟩:∃k:Nat,n.Id=(k:Int):=⟨n.Id.toNat,by omega⟩
 unfold a4F;rw [hk,t9 (show k<w.a6.length by omega),f5Y];rw [show o9 (fun s:(List l9)×Int=>a4l l s.1 s.2) (w.b9,0)=_ from c2a (by unfold t0;omega) l.length 0 w.b9 f1V (by omega)];simp only [f5Y,m5.go,c5P];rw [show o9 (fun s:(List n5)×Int=>a3U t s.1 s.2) (w.Told,0)=_ from c4B (by unfold t0;omega) t.length 0 w.Told htl (by omega)];simp only [f5Y,m5.go,c4I,f7t,hk];rfl
theorem e2P{l:List l9}{k:Nat}(hk:k<l.length)(hl:l.length<=100):b4E l (k:Int)=some (l.take k++l.drop (k+1)):=by
 unfold b4E;rw [C5 (by omega) (by omega)];have e1:((k:Int)+1).toNat=k+1:=by omega
 have l1:((l.drop 0).take ((k:Int).toNat-0)).length<=100:=by simp;omega
 have l2:((l.drop (k+1)).take (l.length-(k+1))).length<=100:=by simp;omega
 rw [v6 (by omega),v6 (by simp only [f7L];omega),v6 (by omega),e1,v6 (by simp only [f6l,f7L];omega)];rw [c4n];simp
theorem e9c(n:j7)(p:List n9):(K7 n p=true/\(K5 n p).1.Seq=n.Seq+1/\(K5 n p).1.b7.a0=⟨n.Id,n.Seq+1⟩)\/(K7 n p=false/\K5 n p=(n,[])):=by
 cases hc:K7 n p
 ·right
  rw [a2k,hc];exact ⟨rfl,rfl⟩
 ·left
  refine ⟨rfl,?_,?_⟩
  ·rw [a2k,hc];simp only [f8v];cases n.d8==2
   ·rfl
   ·exact (b73 (Q0 n p)).seq
  ·rw [b41 hc];rfl
def onN(w:m4)(e:q9):m4:=
 bif e.a9==1 then a4g w e.A e.i7 else
 bif e.a9==5 then a0R (N5 w e.A (X5 (G8 w e.A)).1) (X5 (G8 w e.A)).2 else
 bif e.a9==6 then a0R (N5 w e.A (V6 (G8 w e.A)).1) (V6 (G8 w e.A)).2 else
 bif e.a9==7 then N5 w e.A (a0l (G8 w e.A)) else w
theorem c1C(w:m4)(e:q9):C0 w e=bif e.a9==2||(e.a9==3||e.a9==4) then a1d w e else bif q8 e.A 0 2 then onN w e else w:=by
 unfold C0 onN;cases e.a9==2||(e.a9==3||e.a9==4)
 ·cases q8 e.A 0 2<;>rfl
 ·rfl
theorem e9F{w:m4}(h:WI w){e:q9}(he:K0 e)(hi:q8 e.A 0 2=true):a6l w e=some (onN w e):=by
 rw [H8] at hi;obtain ⟨i,hA⟩:∃i:Nat,e.A=(i:Int):=⟨e.A.toNat,by omega⟩
 obtain ⟨n,hg,hn,hid,hni,hlt⟩:=a4o h (i:=i) (by omega);have hal:=h.al;unfold a6l onN;rw [hA,a7y,hg,f5Y,hn];cases e.a9==1
 ·cases e.a9==5
  ·cases e.a9==6
   ·cases e.a9==7
    ·rfl
    ·simp only [f8v,f8w];rw [f5i hni,f5Y,a9O h.nl h.ml h.tl (by exact hni.id) (by simp) (by simp),f5Y,a28,c0E];simp only [f5Y,m5.go,b8b];rw [show (a0l n).Id=(i:Int) from hid]
   ·simp only [f8v,f8w];have hr:=a9u hni;have hl:=c3C n;rw [e67 hni,f5Y];simp only;rw [a9O h.nl h.ml h.tl (by rw [hr.id];exact hni.id) (by omega) (by simp),f5Y,a28,hr.id,hid];rfl
  ·simp only [f8v,f8w];have hr:=b0Z hni;have hl:=b5z n;rw [e36 hni,f5Y,a9O h.nl h.ml h.tl (by rw [hr.id];exact hni.id) (by omega) (by simp),f5Y,a28,hr.id,hid];rfl
 ·simp only [f8v];unfold a4g;rw [show decide ((w.d7.length:Int)>=60)=decide (60<=w.d7.length) by simp;omega];cases decide (60<=w.d7.length)
  ·simp only [f8w];have hr:=b0w hni (c7c he);have hl:=c0P n e.i7;rw [f4w hni he,f5Y];simp only;rw [a9O h.nl h.ml h.tl (by rw [hr.id];exact hni.id) (by omega) (by simp),f5Y,a28,hr.id,hid,hn];rcases e9c n e.i7 with ⟨c1,c2,c3⟩|⟨c1,c2⟩
   ·rw [show ((K5 n e.i7).1.Seq != n.Seq)=true by rw [c2];simp;omega,show decide ((K5 n e.i7).1.Seq>n.Seq)=true by rw [c2];simp;omega];simp only [f8v];rw [v6 (by show (w.d7.length+1)*40<=_;omega)];simp only [f5Y,m5.go,b8b];rw [c3,c2,hid];rfl
   ·rw [c2,show (n.Seq != n.Seq)=false by simp,show decide (n.Seq>n.Seq)=false by simp];rfl
  ·rfl
theorem e9q{w:m4}(h:WI w){e:q9}{k:Nat}(hA:e.A=(k:Int))(hk:k<w.b9.length)(hkd:(e.a9==2||(e.a9==3||e.a9==4))=true):a7I w e=some (a1d w e):=by
 have hml:=h.ml;unfold a7I a1d;rw [hA,t9 hk,f5Y,show decide (0<=(k:Int))=true by simp,f6A,f5Z hk];have hm:=h.ms _ (f6c hk);generalize w.b9[k]=m at hm;have hof:=e2P hk (by omega);have ht:=hm.to;obtain ⟨t,htt⟩:∃t:Nat,m.To=(t:Int):=⟨m.To.toNat,by omega⟩
 simp only [f8v];by_cases k2:e.a9=2
 ·rw [show (e.a9==2)=true by simpa using k2,show (e.a9==4)=false by simp [k2],show (e.a9==3)=false by simp [k2]];simp only [f8v,f8w];have ho:=h.off (k:Int);obtain ⟨n,hg,hn,hid,hni,hlt⟩:=a4o ho (i:=t) (by omega);have hn':G8 w (t:Int)=n:=hn;have hg':w.a6[t]?=some n:=hg;have hr:=b4t hni hm;obtain ⟨l1,l2⟩:=b69 hni m;rw [hof,f5Y,htt,a7y,hg',f5Y,f3X hni hm (htt.trans hid.symm),f5Y,a9O (w:=⟨w.a6,w.b9.take k++w.b9.drop (k+1),w.d7,w.Told⟩) h.nl ho.ml h.tl (by rw [hr.id];exact hni.id) (by omega) (by omega),f5Y,hn',hr.id,hid];rfl
 ·rw [show (e.a9==2)=false by simpa using k2];cases k3:e.a9==3
  ·rw [show (e.a9==4)=true by rw [show (e.a9==2)=false by simpa using k2,k3] at hkd;simpa using hkd];simp only [f8v,f8w];obtain ⟨n,hg,hn,hid,hni,hlt⟩:=a4o h (i:=t) (by omega);rw [htt,a7y,hg,f5Y,a9O h.nl h.ml h.tl hni.id (by simp) (by simp),f5Y,a28,hid,c1u hg];rfl
  ·rw [show (e.a9==4)=false by simp only [beq_iff_eq] at k3;simp [k3]];simp only [f8v,f8w];rw [hof];rfl
theorem d4w{w:m4}(h:WI w){e:q9}(he:K0 e):b2W w e=some (C0 w e):=by
 have hd:=b51 h he;have hml:=h.ml;have hcp:a1S w=some w:=b7v h.ok;have hcd:a1S (C0 w e)=some (C0 w e):=b7v hd.ok;have hin:m8 ((w.a6.length:Int)-1)=2:=by rw [h.nl];rfl
 have hnode:(e.a9==2||(e.a9==3||e.a9==4))=false->((D8 e.A 0 2).bind fun in_=>bif in_ then (a6l w e).bind fun o=>some (m5.brk o) else some (m5.brk w):Option (m5 m4 m4))=some (.brk (C0 w e)):=by
  intro hk;rw [N2,f5Y,c1C,hk];cases hi:q8 e.A 0 2
  ·rfl
  ·simp only [f8v,f8w];rw [e9F h he hi];rfl
 have hmsg:(e.a9==2||(e.a9==3||e.a9==4))=true->((D8 e.A 0 (m8 ((w.b9.length:Int)-1))).bind fun in_=>bif in_ then (a7I w e).bind fun o=>some (m5.brk o) else some (m5.brk w):Option (m5 m4 m4))=some (.brk (C0 w e)):=by
  intro hk;rw [C5 (by omega) (by omega),N2,f5Y,c1C,hk];cases hi:q8 e.A 0 ((w.b9.length:Int)-1)
  ·simp only [f8v,f8w];rw [show a1d w e=w by
    unfold a1d;cases h0:decide (0<=e.A)
    ·rfl
    ·have:¬(0<=e.A/\e.A<=(w.b9.length:Int)-1):=fun q=>by rw [H8.2 q] at hi;cases hi
     have h0':0<=e.A:=of_decide_eq_true h0;rw [f6z (by omega)];rfl]
  ·rw [H8] at hi;simp only [f8v];rw [e9q h (k:=e.A.toNat) (by omega) (by omega) hk];rfl
 unfold b2W;rw [hcp,f5Y,hin];by_cases k1:e.a9=1
 ·have hf:(e.a9==2||(e.a9==3||e.a9==4))=false:=by simp [k1]
  rw [show (e.a9==1)=true by simpa using k1];simp only [f8v];rw [hnode hf];simp only [f5Y,m5.go,c51,hcd]
 rw [show (e.a9==1)=false by simpa using k1];by_cases k5:e.a9=5
 ·have hf:(e.a9==2||(e.a9==3||e.a9==4))=false:=by simp [k5]
  rw [show (e.a9==5)=true by simpa using k5];simp only [f8v,f8w];rw [hnode hf];simp only [f5Y,m5.go,c3Q,hcd]
 rw [show (e.a9==5)=false by simpa using k5];by_cases k6:e.a9=6
 ·have hf:(e.a9==2||(e.a9==3||e.a9==4))=false:=by simp [k6]
  rw [show (e.a9==6)=true by simpa using k6];simp only [f8v,f8w];rw [hnode hf];simp only [f5Y,m5.go,c2Y,hcd]
 rw [show (e.a9==6)=false by simpa using k6];simp only [f8w];have fin:∀X:Option (m5 m4 m4),X=some (.brk (C0 w e))->(X.bind fun x=>x.go some fun j=>b9I j)=some (C0 w e):=by
  intro X hX;rw [hX];simp only [f5Y,m5.go,b9I,hcd]
 refine fin _ ?_;by_cases k7:e.a9=7
 ·rw [show (e.a9==7)=true by simpa using k7];exact hnode (by simp [k7])
 rw [show (e.a9==7)=false by simpa using k7];by_cases k2:e.a9=2
 ·rw [show (e.a9==2)=true by simpa using k2];exact hmsg (by simp [k2])
 by_cases k3:e.a9=3
 ·rw [show (e.a9==2)=false by simpa using k2,show (e.a9==3)=true by simpa using k3];exact hmsg (by simp [k3])
 by_cases k4:e.a9=4
 ·rw [show (e.a9==2)=false by simpa using k2,show (e.a9==3)=false by simpa using k3,show (e.a9==4)=true by simpa using k4];exact hmsg (by simp [k4])
 have e2:(e.a9==2)=false:=by simpa using k2
 have e3:(e.a9==3)=false:=by simpa using k3
 have e4:(e.a9==4)=false:=by simpa using k4
 rw [e2,e3,e4,c1C,e2,e3,e4];have:onN w e=w:=by
  unfold onN;rw [show (e.a9==1)=false by simpa using k1,show (e.a9==5)=false by simpa using k5,show (e.a9==6)=false by simpa using k6,show (e.a9==7)=false by simpa using k7];rfl
 rw [this];cases q8 e.A 0 2<;>rfl
theorem d1F{w:m4}(h:WI w){e:q9}(he:K0 e):b2Y w e=some (C0 w e):=by
 unfold b2Y;rw [a5q h.ok,f5Y,a0v.2 h];simp only [f6f,f8w];rw [d4w h he];rfl
theorem d41{l:List q9}(hl:t0 l)(he:∀e∈l,K0 e):∀(d k:Nat) (w:m4),WI w->l.length-k=d->o9 (fun s:Int×m4=>a53 l s.1 s.2) ((k:Int),w)=some (.brk (a0J w (l.drop k)))
 | 0,k,w,h,hd=>by
  rw [f6y (by omega)];refine C8 (body:=fun s:Int×m4=>a53 l s.1 s.2) (b:=w) ?_;unfold a53;rw [show decide ((k:Int)<(l.length:Int))=false by simp;omega];rfl
 | d+1,k,w,h,hd=>by
  have hlt:k<l.length:=by omega
  have hek:=he _ (f6c hlt);rw [D9 (body:=fun s:Int×m4=>a53 l s.1 s.2) (t:=(((k+1:Nat):Int),C0 w l[k])) (by
   unfold a53;rw [x7 _ k hlt,t9 hlt,f8v,f5Y,d4w h hek,f5Y,F6 hl hlt]),d41 hl he d (k+1) _ (b51 h hek) (by omega),f6w hlt]
  rfl
theorem d6N{w:m4}(h:R2 w){l:List q9}(hl:t0 l)(he:∀e∈l,K0 e):b1b w l=some (bif B6 w&&decide (l.length<=400) then a0J w l else noW):=by
 unfold b1b;rw [a5q h,f5Y,show decide ((l.length:Int)>400) = !decide (l.length<=400) from b05 l 400];cases hw:B6 w
 ·rfl
 ·cases decide (l.length<=400)
  ·rfl
  ·simp only [f6f,f8w,Bool.and_self,f8v];rw [b7v h,f5Y,show o9 (fun s:Int×m4=>a53 l s.1 s.2) (0,w)=_ from d41 hl he l.length 0 w (a0v.1 hw) rfl];rfl
theorem f5P{l:List q9}(he:∀e∈l,K0 e)(hl:l.length<=300):b1b M4 l=some (a0J M4 l):=by
 have hf:t0 l:=by unfold t0;omega
 have h:=WI.open;rw [d6N h.ok hf he,a0v.2 h,decide_eq_true (by omega)];rfl
theorem e6H{l:List q9}(he:∀e∈l,K0 e)(hl:l.length<=300):b1b M4 l=some (a0J M4 l)/\b3i M4 l=some (a0J M4 l)/\WI (a0J M4 l):=by
 have hf:t0 l:=by unfold t0;omega
 have h:=WI.open;refine ⟨?_,?_,d4J h he⟩
 ·rw [d6N h.ok hf he,a0v.2 h,decide_eq_true (by omega)];rfl
 ·rw [d7Z h.ok hf he,a0v.2 h,decide_eq_true (by omega)];rfl
def D3(i:Int):Prop:=0<=i/\i<=2
abbrev VR:=Int->Nat->Int->m6->Prop
abbrev PR:=Int->Nat->m6->Prop
abbrev MS:=l9->Prop
def a1I(V:VR)(s:Nat)(e:m6):Prop := ∃b p q,D3 p/\D3 q/\p≠q/\V p s b e/\V q s b e
structure Cov(N:Int->j7)(V:VR)(n:j7)(q:Int):Prop where
 pr:n.a8<=(N q).Acc.i4
 cv:∀s b e,n.a5.length<=s->b<n.a8->V q s b e->∃v,n.i5[s]?=some v/\b<=v.a8
def Quo(p:Int->Prop):Prop := ∃a b,D3 a/\D3 b/\a≠b/\p a/\p b
structure LD(N:Int->j7)(V:VR)(P:PR)(n:j7):Prop where
 bs:n.d8≠0->∀s v,n.i5[s]?=some v->v.a8>0->v.a8<n.a8/\∃q,V q s v.a8 v.i0
 l1:n.d8=1->(∀s e,¬P n.a8 s e)/\∀q,D3 q->n.c9[q.toNat]?=some true->Cov N V n q
 l2:n.d8=2->(∀s e,P n.a8 s e->s<n.a5.length)/\Quo (Cov N V n)
 l3:n.d8=3->P n.a8 n.a5.length n.d6/\(∀s e,P n.a8 s e->s<=n.a5.length)/\Quo (Cov N V n)/\∀q,D3 q->n.a7[q.toNat]?=some true->V q n.a5.length n.a8 n.d6
structure MV(N:Int->j7)(V:VR)(P:PR)(m:l9):Prop where
 k1:m.a9=1->f6D m.a8 3=m.c9/\m.g8<=(N m.c9).a5.length
 k2:m.a9=2->m.g8<=(N m.To).a5.length/\m.a8<=(N m.c9).Acc.i4/\(∀s b e,m.g8.toNat<=s->b<m.a8->V m.c9 s b e->∃v,m.a7[s-m.g8.toNat]?=some v/\b<=v.a8)/\∀k v,m.a7[k]?=some v->v.a8>0->v.a8<=m.a8/\V m.c9 (m.g8.toNat+k) v.a8 v.i0
 k3:m.a9=3->P m.a8 m.g8.toNat m.i0
 k4:m.a9=4->∃e,V m.c9 m.g8.toNat m.a8 e
 k5:m.a9=5->a1I V m.g8.toNat m.i0
def Sf(N:Int->j7)(V:VR)(b:Int)(s:Nat)(e:m6)(q:Int):Prop:=
 b<=(N q).Acc.i4/\∀b' e',b'<b->V q s b' e'->∃b1 q1,b'<=b1/\b1<b/\V q1 s b1 e
structure PX(N:Int->j7)(V:VR)(P:PR)(M:MS):Prop where
 ni:∀i,D3 i->NI (N i)/\(N i).Id=i
 vp:∀i s b e,V i s b e->D3 i/\P b s e/\1<=b/\b<=(N i).Acc.i4
 cur:∀i s v,D3 i->(N i).Acc.a7[s]?=some v->v.a8>0->V i s v.a8 v.i0
 max:∀i s b e,V i s b e->∃v,(N i).Acc.a7[s]?=some v/\b<=v.a8
 pu:∀b s e e',P b s e->P b s e'->e=e'
 po:∀b s e,P b s e->1<=b/\b<=(N (f6D b 3)).Acc.i4
 safe:∀b s e,P b s e->Quo (Sf N V b s e)
 ld:∀i,D3 i->LD N V P (N i)
 kn:∀i s e,D3 i->(N i).a5[s]?=some e->a1I V s e
 ms:∀m,M m->MI m/\MV N V P m
theorem e4l{p q:Int->Prop}(hp:Quo p)(hq:Quo q):∃a,D3 a/\p a/\q a:=by
 obtain ⟨a,b,ha,hb,hab,pa,pb⟩:=hp;obtain ⟨c,d,hc,hd,hcd,qc,qd⟩:=hq;unfold D3 at *;by_cases h1:a=c
 ·exact ⟨a,ha,pa,h1▸qc⟩
 by_cases h2:a=d
 ·exact ⟨a,ha,pa,h2▸qd⟩
 by_cases h3:b=c
 ·exact ⟨b,hb,pb,h3▸qc⟩
 by_cases h4:b=d
 ·exact ⟨b,hb,pb,h4▸qd⟩
 omega
section
variable {N:Int->j7} {V:VR} {P:PR} {M:MS}
theorem PX.later(h:PX N V P M){s:Nat}{b0:Int}{e0:m6}(hc:Quo fun q=>V q s b0 e0):∀(k:Nat) (b:Int) (e:m6),b.toNat=k->b0<=b->P b s e->e=e0:=by
 have h0:P b0 s e0:=by obtain ⟨p,q,_,_,_,v,_⟩:=hc;exact (h.vp _ _ _ _ v).2.1
 intro k;induction k using Nat.strongRecOn with
 | _ k ih=>
  intro b e hb hle hp;by_cases hq:b0=b
  ·subst hq;exact h.pu _ _ _ _ hp h0
  ·obtain ⟨a,ha,v,s1,s2⟩:=e4l hc (h.safe b s e hp);obtain ⟨b1,q1,h1,h2,h3⟩:=s2 b0 e0 (by omega) v;obtain ⟨_,p1,p2,_⟩:=h.vp _ _ _ _ h3;exact ih b1.toNat (by omega) b1 e rfl h1 p1
theorem PX.one(h:PX N V P M){s:Nat}{e e':m6}(h1:a1I V s e)(h2:a1I V s e'):e=e':=by
 obtain ⟨b,p,q,hp,hq,hpq,v1,v2⟩:=h1;obtain ⟨b',p',q',hp',hq',hpq',w1,w2⟩:=h2;have c1:Quo fun q=>V q s b e:=⟨p,q,hp,hq,hpq,v1,v2⟩
 have c2:Quo fun q=>V q s b' e':=⟨p',q',hp',hq',hpq',w1,w2⟩
 rcases Int.le_total b b' with hl|hl
 ·exact (h.later c1 _ b' e' rfl hl (h.vp _ _ _ _ w1).2.1).symm
 ·exact h.later c2 _ b e rfl hl (h.vp _ _ _ _ v1).2.1
theorem PX.still(h:PX N V P M){s:Nat}{e:m6}(hc:a1I V s e):Quo fun q => ∃v,(N q).Acc.a7[s]?=some v/\v.a8>0/\v.i0=e:=by
 obtain ⟨b,p,q,hp,hq,hpq,v1,v2⟩:=hc;have c1:Quo fun q=>V q s b e:=⟨p,q,hp,hq,hpq,v1,v2⟩
 have key:∀a,D3 a->V a s b e->∃v,(N a).Acc.a7[s]?=some v/\v.a8>0/\v.i0=e:=by
  intro a ha va;obtain ⟨v,x1,x2⟩:=h.max _ _ _ _ va;have hb:=(h.vp _ _ _ _ va).2.2.1;have vv:=h.cur a s v ha x1 (by omega);exact ⟨v,x1,by omega,h.later c1 _ v.a8 v.i0 rfl x2 (h.vp _ _ _ _ vv).2.1⟩
 exact ⟨p,q,hp,hq,hpq,key p hp v1,key q hq v2⟩
end
def upd(N:Int->j7)(i:Int)(n:j7):Int->j7:=fun j=>if j=i then n else N j
theorem T6(N:Int->j7)(i:Int)(n:j7):upd N i n i=n:=if_pos rfl
theorem b1i{N:Int->j7}{i j:Int}(n:j7)(h:j≠i):upd N i n j=N j:=if_neg h
theorem a24(N:Int->j7)(i:Int)(a b:j7):upd (upd N i a) i b=upd N i b:=by
 funext j;unfold upd;split<;>rfl
theorem a8E(N:Int->j7)(i:Int):upd N i (N i)=N:=by
 funext j;unfold upd;split
 ·rename_i h;rw [h]
 ·rfl
theorem a0I.own{n:j7}(h:a0I n)(hp:n.d8≠0):Own n:=by
 rcases h with q|q|q|q
 ·exact absurd q.1 hp
 ·exact q.2.1
 ·exact q.2.1
 ·exact q.2.1
structure Chg(N:Int->j7)(V:VR)(P:PR)(M:MS)(i:Int)(n':j7)(V':VR)(P':PR)(M':MS):Prop where
 ni:NI n'
 id:n'.Id=i
 pr:(N i).Acc.i4<=n'.Acc.i4
 kl:(N i).a5.length<=n'.a5.length
 v1:∀q s b e,V q s b e->V' q s b e
 v2:∀q s b e,V' q s b e->V q s b e\/(q=i/\(N i).Acc.i4<=b/\1<=b/\b<=n'.Acc.i4/\P' b s e)
 p1:∀b s e,P b s e->P' b s e
 p2:∀b s e,P' b s e->P b s e\/(b=n'.a8/\n'.d8=3/\(∀e',P' b s e'->e'=e)/\Quo (Sf (upd N i n') V' b s e))
 cur:∀s v,n'.Acc.a7[s]?=some v->v.a8>0->V' i s v.a8 v.i0
 max:∀s b e,V' i s b e->∃v,n'.Acc.a7[s]?=some v/\b<=v.a8
 ld:LD (upd N i n') V' P' n'
 kn:∀s e,n'.a5[s]?=some e->a1I V' s e
 ms:∀m,M' m->M m\/(MI m/\MV (upd N i n') V' P' m)
section
variable {N:Int->j7} {V:VR} {P:PR} {M:MS} {i:Int} {n':j7} {V':VR} {P':PR} {M':MS}
theorem Chg.prm(c:Chg N V P M i n' V' P' M')(q:Int):(N q).Acc.i4<=(upd N i n' q).Acc.i4:=by
 unfold upd;split
 ·rename_i h;rw [h];exact c.pr
 ·exact f6B _
theorem Chg.len(c:Chg N V P M i n' V' P' M')(q:Int):(N q).a5.length<=(upd N i n' q).a5.length:=by
 unfold upd;split
 ·rename_i h;rw [h];exact c.kl
 ·exact f6s _
theorem Chg.old(c:Chg N V P M i n' V' P' M'){q:Int}{s:Nat}{b x:Int}{e:m6}(hx:x<=(N q).Acc.i4)(hb:b<x)(v:V' q s b e):V q s b e:=by
 rcases c.v2 q s b e v with v|⟨rfl,v1,_⟩
 ·exact v
 ·omega
theorem Chg.cov(c:Chg N V P M i n' V' P' M'){n:j7}{q:Int}(h:Cov N V n q):Cov (upd N i n') V' n q:=
 ⟨f6Z h.pr (c.prm q),fun s b e hs hb v=>h.cv s b e hs hb (c.old h.pr hb v)⟩
theorem Quo.imp{p q:Int->Prop}(h:Quo p)(hi:∀a,D3 a->p a->q a):Quo q:=by
 obtain ⟨a,b,ha,hb,hab,pa,pb⟩:=h;exact ⟨a,b,ha,hb,hab,hi a ha pa,hi b hb pb⟩
theorem Chg.sf(c:Chg N V P M i n' V' P' M'){b:Int}{s:Nat}{e:m6}{q:Int}(h:Sf N V b s e q):Sf (upd N i n') V' b s e q:=
 ⟨f6Z h.1 (c.prm q),fun b' e' hb v=>by
  obtain ⟨b1,q1,x1,x2,x3⟩:=h.2 b' e' hb (c.old h.1 hb v);exact ⟨b1,q1,x1,x2,c.v1 _ _ _ _ x3⟩⟩
theorem a1I.mono(h:∀q s b e,V q s b e->V' q s b e){s:Nat}{e:m6}(hc:a1I V s e):a1I V' s e:=by
 obtain ⟨b,p,q,hp,hq,hpq,v1,v2⟩:=hc;exact ⟨b,p,q,hp,hq,hpq,h _ _ _ _ v1,h _ _ _ _ v2⟩
theorem Chg.ldo(c:Chg N V P M i n' V' P' M')(hi:D3 i){n:j7}(hn:NI n)(hne:n.Id≠i)(h:LD N V P n):LD (upd N i n') V' P' n:=by
 have hp:n.d8≠0->∀s e,P' n.a8 s e->P n.a8 s e:=by
  intro h0 s e hp;rcases c.p2 _ _ _ hp with q|⟨hb,h3,_⟩
  ·exact q
  ·exfalso
   have o1:=(hn.ld.own h0).mod;have o2:=(c.ni.ld.own (by omega)).mod;rw [<-hb,o1,c.id] at o2;exact hne o2
 refine ⟨fun h0 s v hs hv => ?_,fun h1 => ?_,fun h2 => ?_,fun h3 => ?_⟩
 ·obtain ⟨x1,q,x2⟩:=h.bs h0 s v hs hv;exact ⟨x1,q,c.v1 _ _ _ _ x2⟩
 ·obtain ⟨x1,x2⟩:=h.l1 h1;exact ⟨fun s e q=>x1 s e (hp (by omega) s e q),fun q hq hf=>c.cov (x2 q hq hf)⟩
 ·obtain ⟨x1,x2⟩:=h.l2 h2;exact ⟨fun s e q=>x1 s e (hp (by omega) s e q),x2.imp fun a _=>c.cov⟩
 ·obtain ⟨x1,x2,x3,x4⟩:=h.l3 h3;exact ⟨c.p1 _ _ _ x1,fun s e q=>x2 s e (hp (by omega) s e q),x3.imp fun a _=>c.cov,fun q hq hv=>c.v1 _ _ _ _ (x4 q hq hv)⟩
theorem Chg.msg(c:Chg N V P M i n' V' P' M'){m:l9}(h:MV N V P m):MV (upd N i n') V' P' m:=by
 refine ⟨fun k => ?_,fun k => ?_,fun k=>c.p1 _ _ _ (h.k3 k),fun k => ?_,fun k=>(h.k5 k).mono c.v1⟩
 ·obtain ⟨x1,x2⟩:=h.k1 k;have:=c.len m.c9;exact ⟨x1,by omega⟩
 ·obtain ⟨x1,x2,x3,x4⟩:=h.k2 k;have:=c.len m.To;refine ⟨by omega,f6Z x2 (c.prm _),fun s b e hs hb v=>x3 s b e hs hb (c.old x2 hb v),fun k v hk hv => ?_⟩;obtain ⟨y1,y2⟩:=x4 k v hk hv;exact ⟨y1,c.v1 _ _ _ _ y2⟩
 ·obtain ⟨e,x⟩:=h.k4 k;exact ⟨e,c.v1 _ _ _ _ x⟩
theorem PX.step(h:PX N V P M)(hi:D3 i)(c:Chg N V P M i n' V' P' M'):PX (upd N i n') V' P' M':=by
 have hpo:∀b s e,P' b s e->1<=b/\b<=(upd N i n' (f6D b 3)).Acc.i4:=by
  intro b s e hp;rcases c.p2 _ _ _ hp with q|⟨rfl,h3,_⟩
  ·obtain ⟨x1,x2⟩:=h.po _ _ _ q;exact ⟨x1,f6Z x2 (c.prm _)⟩
  ·have o:=c.ni.ld.own (by omega);have ho:=o.mod;rw [c.id] at ho;rw [ho,T6];exact ⟨o.b1,o.pr⟩
 refine ⟨fun j hj => ?_,fun j s b e v => ?_,fun j s v hj hs hv => ?_,fun j s b e v => ?_,fun b s e e' p p' => ?_,hpo,fun b s e p => ?_,fun j hj => ?_,fun j s e hj hk => ?_,fun m hm => ?_⟩
 ·by_cases q:j=i
  ·subst q;rw [T6];exact ⟨c.ni,c.id⟩
  ·rw [b1i _ q];exact h.ni j hj
 ·rcases c.v2 _ _ _ _ v with v|⟨rfl,x1,x2,x3,x4⟩
  ·obtain ⟨x1,x2,x3,x4⟩:=h.vp _ _ _ _ v;exact ⟨x1,c.p1 _ _ _ x2,x3,f6Z x4 (c.prm _)⟩
  ·rw [T6];exact ⟨hi,x4,x2,x3⟩
 ·by_cases q:j=i
  ·subst q;rw [T6] at hs;exact c.cur s v hs hv
  ·rw [b1i _ q] at hs;exact c.v1 _ _ _ _ (h.cur j s v hj hs hv)
 ·by_cases q:j=i
  ·subst q;rw [T6];exact c.max s b e v
  ·rw [b1i _ q];rcases c.v2 _ _ _ _ v with v|⟨x,_⟩
   ·exact h.max _ _ _ _ v
   ·exact absurd x q
 ·rcases c.p2 _ _ _ p with p|⟨_,_,x,_⟩
  ·rcases c.p2 _ _ _ p' with p'|⟨_,_,x,_⟩
   ·exact h.pu _ _ _ _ p p'
   ·exact x e (c.p1 _ _ _ p)
  ·exact (x e' p').symm
 ·rcases c.p2 _ _ _ p with p|⟨_,_,_,x⟩
  ·exact (h.safe _ _ _ p).imp fun a _=>c.sf
  ·exact x
 ·by_cases q:j=i
  ·subst q;rw [T6];exact c.ld
  ·rw [b1i _ q];exact c.ldo hi (h.ni j hj).1 (by rw [(h.ni j hj).2];exact q) (h.ld j hj)
 ·by_cases q:j=i
  ·subst q;rw [T6] at hk;exact c.kn s e hk
  ·rw [b1i _ q] at hk;exact (h.kn j s e hj hk).mono c.v1
 ·rcases c.ms m hm with q|q
  ·exact ⟨(h.ms m q).1,c.msg (h.ms m q).2⟩
  ·exact q
end
def snd(M:MS)(l:List l9):MS:=fun m=>M m\/m∈l
def M8(N:Int->j7)(M:MS)(i:Int)(n':j7)(l:List l9):Prop := ∃V' P',PX (upd N i n') V' P' (snd M l)
section
variable {N N':Int->j7} {V V':VR} {P P':PR} {M:MS} {i:Int} {n n':j7}
theorem PX.send(h:PX N V P M){l:List l9}(hl:∀m∈l,MI m/\MV N V P m):PX N V P (snd M l):=
 {h with ms:=fun m hm=>hm.elim (h.ms m) (hl m)}
theorem a7R(M:MS):snd M []=M:=by
 funext m;unfold snd;simp
theorem c9o(M:MS)(a b:List l9):snd (snd M a) b=snd M (a++b):=by
 funext m;unfold snd;simp [or_assoc]
theorem M8.same(h:PX N V P M):M8 N M i (N i) []:=⟨V,P,by rw [a8E,a7R];exact h⟩
theorem LD.same(h:LD N V P n)(hpr:∀q,(N q).Acc.i4<=(N' q).Acc.i4)(hV:∀q s b e,V q s b e->V' q s b e)(hold:∀q s b x e,x<=(N q).Acc.i4->b<x->V' q s b e->V q s b e)(hP:∀b s e,P b s e->P' b s e)(hP':∀s e,P' n.a8 s e->P n.a8 s e)(e1:n'.d8=n.d8)(e2:n'.a8=n.a8)(e3:n'.i5=n.i5)(e4:n'.a5=n.a5)(e5:n'.c9=n.c9)(e6:n'.d6=n.d6)(e7:n'.a7=n.a7):LD N' V' P' n':=by
 have hc:∀q,Cov N V n q->Cov N' V' n' q:=fun q c=>by
  refine ⟨by rw [e2];exact f6Z c.pr (hpr q),?_⟩;rw [e2,e3,e4];exact fun s b e hs hb v=>c.cv s b e hs hb (hold _ _ _ _ _ c.pr hb v)
 refine ⟨?_,?_,?_,?_⟩
 ·rw [e1,e2,e3];intro h0 s v hs hv;obtain ⟨x1,q,x2⟩:=h.bs h0 s v hs hv;exact ⟨x1,q,hV _ _ _ _ x2⟩
 ·rw [e1,e2,e5];intro h1;obtain ⟨x1,x2⟩:=h.l1 h1;exact ⟨fun s e p=>x1 s e (hP' s e p),fun q hq hf=>hc q (x2 q hq hf)⟩
 ·rw [e1,e2,e4];intro h2;obtain ⟨x1,x2⟩:=h.l2 h2;exact ⟨fun s e p=>x1 s e (hP' s e p),x2.imp fun q _=>hc q⟩
 ·rw [e1,e2,e4,e6,e7];intro h3;obtain ⟨x1,x2,x3,x4⟩:=h.l3 h3;exact ⟨hP _ _ _ x1,fun s e p=>x2 s e (hP' s e p),x3.imp fun q _=>hc q,fun q hq hv=>hV _ _ _ _ (x4 q hq hv)⟩
theorem LD.none(h:n.d8=0):LD N V P n:=⟨fun q=>absurd h q,fun q=>by omega,fun q=>by omega,fun q=>by omega⟩
theorem a81(hpr:(N i).Acc.i4<=n'.Acc.i4)(q:Int):(N q).Acc.i4<=(upd N i n' q).Acc.i4:=by
 unfold upd;split
 ·rename_i h;rw [h];exact hpr
 ·exact f6B _
theorem PX.quiet(h:PX N V P M)(hi:D3 i)(hni:NI n')(hid:n'.Id=i)(hpr:(N i).Acc.i4<=n'.Acc.i4)(hvt:n'.Acc.a7=(N i).Acc.a7)(hk:n'.a5=(N i).a5)(hld:LD (upd N i n') V P n'):PX (upd N i n') V P M:=
 h.step hi ⟨hni,hid,hpr,by rw [hk];exact f6s _,fun _ _ _ _ v=>v,fun _ _ _ _ v=>.inl v,fun _ _ _ p=>p,fun _ _ _ p=>.inl p,by rw [hvt];exact fun s v=>h.cur i s v hi,by rw [hvt];exact fun s b e=>h.max i s b e,hld,by rw [hk];exact fun s e=>h.kn i s e hi,fun m hm=>.inl hm⟩
theorem PX.keep(h:PX N V P M)(hi:D3 i)(hni:NI n')(hid:n'.Id=i)(hpr:(N i).Acc.i4<=n'.Acc.i4)(hvt:n'.Acc.a7=(N i).Acc.a7)(hk:n'.a5=(N i).a5)(e1:n'.d8=(N i).d8)(e2:n'.a8=(N i).a8)(e3:n'.i5=(N i).i5)(e5:n'.c9=(N i).c9)(e6:n'.d6=(N i).d6)(e7:n'.a7=(N i).a7):PX (upd N i n') V P M:=
 h.quiet hi hni hid hpr hvt hk ((h.ld i hi).same (a81 hpr) (fun _ _ _ _ v=>v) (fun _ _ _ _ _ _ _ v=>v) (fun _ _ _ p=>p) (fun _ _ p=>p) e1 e2 e3 hk e5 e6 e7)
theorem PX.down(h:PX N V P M)(hi:D3 i):PX (upd N i (a3K (N i))) V P M:=
 h.quiet hi (h.ni i hi).1.down (h.ni i hi).2 (f6B _) rfl rfl (.none rfl)
theorem PX.promise(h:PX N V P M)(hi:D3 i){b:Int}{x:z4}(hp:I3 (N i).Acc b=some x):PX (upd N i {N i with Acc:=x}) V P M:=by
 obtain ⟨rfl,h1,h2,h3⟩:=a3L hp;exact h.keep hi ((h.ni i hi).1.promise hp) (h.ni i hi).2 h3 rfl rfl rfl rfl rfl rfl rfl rfl
theorem PX.yield(h:PX N V P M)(hi:D3 i)(b:Int):PX (upd N i (N3 (N i) b)) V P M:=by
 unfold N3;cases (N i).d8 != 0&&decide (b>(N i).a8)
 ·simp only [f8w];rw [a8E];exact h
 ·exact h.down hi
theorem PX.free(h:PX N V P M)(hi:D3 i):PX (upd N i (U8 (N i)).1) V P M:=by
 rcases a9p (N i) with q|⟨k,_,_,q⟩<;>rw [q]
 ·rw [a8E];exact h
 ·exact h.keep hi (h.ni i hi).1.freeN (h.ni i hi).2 (f6B _) rfl rfl rfl rfl rfl rfl rfl rfl
theorem e9p{vs:List m9}{n s:Nat}{v:m9}(h:(T5 vs n)[s]?=some v):vs[s]?=some v\/v=v0:=by
 unfold T5 at h;rw [f8j] at h;split at h
 ·exact .inl h
 ·rw [List.getElem?_replicate] at h;split at h
  ·injection h with h;exact .inr h.symm
  ·cases h
theorem e8D{vs:List m9}{s:Nat}{v:m9}(n:Nat)(h:vs[s]?=some v):(T5 vs n)[s]?=some v:=by
 unfold T5;rw [f6x (f6g.1 h).1];exact h
def a7U(V:VR)(i:Int)(k:Nat)(b:Int)(e:m6):VR:=fun q s c f=>V q s c f\/(q=i/\s=k/\c=b/\f=e)
theorem d1M(h:PX N V P M)(hi:D3 i){b s:Int}{e:m6}{x:z4}(hc:K3 (N i).Acc b s e=some x):∃k:Nat,s=(k:Int)/\k<40/\1<=b/\b<=3000/\(N i).Acc.i4<=b/\x.i4=b/\z5 e=true/\
  (∀s v,x.a7[s]?=some v->v.a8>0->a7U V i k b e i s v.a8 v.i0)/\(∀s c f,a7U V i k b e i s c f->∃v,x.a7[s]?=some v/\c<=v.a8):=by
 obtain ⟨k,rfl,hk,he,h1,h2,h3,rfl⟩:=b5B hc;have hlen:k<(T5 (N i).Acc.a7 (k+1)).length:=by rw [b5l];omega
 refine ⟨k,rfl,hk,h1,h2,h3,rfl,he,fun s v hs hv => ?_,fun s c f v => ?_⟩
 ·simp only [f7E] at hs;split at hs
  ·rename_i hq;injection hs with hs;subst hs;exact .inr ⟨rfl,hq.symm,rfl,rfl⟩
  ·rcases e9p hs with q|q
   ·exact .inl (h.cur i s v hi q hv)
   ·rw [q] at hv;exact absurd hv (by decide)
 ·simp only [f7E];by_cases hq:k=s
  ·subst hq;rw [if_pos rfl,if_pos hlen];refine ⟨_,rfl,?_⟩;rcases v with v|⟨_,_,rfl,_⟩
   ·have:=(h.vp _ _ _ _ v).2.2.2;simp only;omega
   ·exact f6B _
  ·rw [if_neg hq];rcases v with v|⟨_,x,_⟩
   ·obtain ⟨v',y1,y2⟩:=h.max _ _ _ _ v;exact ⟨v',e8D _ y1,y2⟩
   ·exact absurd x.symm hq
theorem c3g{k:Nat}{b:Int}{e:m6}(hb:(N i).Acc.i4<=b){q:Int}{s:Nat}{c x:Int}{f:m6}(hx:x<=(N q).Acc.i4)(hc:c<x)(v:a7U V i k b e q s c f):V q s c f:=by
 rcases v with v|⟨rfl,_,rfl,_⟩
 ·exact v
 ·omega
theorem PX.vote(h:PX N V P M)(hi:D3 i){b s:Int}{e:m6}{x:z4}(hc:K3 (N i).Acc b s e=some x)(hp:P b s.toNat e):PX (upd N i {N i with Acc:=x}) (a7U V i s.toNat b e) P M:=by
 obtain ⟨k,rfl,hk,h1,h2,h3,h4,he,c1,c2⟩:=d1M h hi hc;rw [f6A] at hp⊢;have hpr:(N i).Acc.i4<=({N i with Acc:=x}:j7).Acc.i4:=by show _<=x.i4;rw [h4];exact h3
 refine h.step hi ⟨(h.ni i hi).1.cast hc,(h.ni i hi).2,hpr,f6s _,fun _ _ _ _ v=>.inl v,fun q s c f v => ?_,fun _ _ _ p=>p,fun _ _ _ p=>.inl p,c1,c2,?_,fun s e hk=>(h.kn i s e hi hk).mono fun _ _ _ _ v=>.inl v,fun m hm=>.inl hm⟩
 ·rcases v with v|⟨rfl,rfl,rfl,rfl⟩
  ·exact .inl v
  ·exact .inr ⟨rfl,h3,h1,by show _<=x.i4;rw [h4];exact f6B _,hp⟩
 ·exact (h.ld i hi).same (a81 hpr) (fun _ _ _ _ v=>.inl v) (fun q s c x f hx hc v=>c3g h3 hx hc v) (fun _ _ _ p=>p) (fun _ _ p=>p) rfl rfl rfl rfl rfl rfl rfl
theorem PX.know(h:PX N V P M)(hi:D3 i){e:m6}(he:z5 e=true)(hl:(N i).a5.length<40)(hc:a1I V (N i).a5.length e):PX (upd N i (E2 (N i) e)) V P M:=by
 have hk:=c2F (N i) e;have hacc:(E2 (N i) e).Acc=(N i).Acc:=by unfold E2;cases (N i).d8==3<;>rfl
 have hb:(E2 (N i) e).a8=(N i).a8:=by unfold E2;cases (N i).d8==3<;>rfl
 have hbe:(E2 (N i) e).i5=(N i).i5:=by unfold E2;cases (N i).d8==3<;>rfl
 have hpr:(N i).Acc.i4<=(E2 (N i) e).Acc.i4:=by rw [hacc];exact f6B _
 have hcov:∀q,Cov N V (N i) q->Cov (upd N i (E2 (N i) e)) V (E2 (N i) e) q:=fun q c=>by
  refine ⟨by rw [hb];exact f6Z c.pr (a81 hpr q),?_⟩;rw [hb,hbe,hk,f6l];exact fun s b e hs hb v=>c.cv s b e (by omega) hb v
 refine h.step hi ⟨(h.ni i hi).1.know he hl,(b8G _ _).trans (h.ni i hi).2,hpr,by rw [hk];simp,fun _ _ _ _ v=>v,fun _ _ _ _ v=>.inl v,fun _ _ _ p=>p,fun _ _ _ p=>.inl p,by rw [hacc];exact fun s v=>h.cur i s v hi,by rw [hacc];exact fun s b e=>h.max i s b e,?_,fun s f hs => ?_,fun m hm=>.inl hm⟩
 ·have hld:=h.ld i hi;refine ⟨?_,?_,?_,?_⟩
  ·intro h0;rw [hb,hbe];refine hld.bs ?_;intro q;apply h0;unfold E2;rw [show ((N i).d8==3)=false by simp [q]];exact q
  ·intro h1;have h1':(N i).d8=1:=by
    by_cases q:(N i).d8=3
    ·unfold E2 at h1;rw [show ((N i).d8==3)=true by simpa using q] at h1;cases h1
    ·unfold E2 at h1;rw [show ((N i).d8==3)=false by simpa using q] at h1;exact h1
   have hf:(E2 (N i) e).c9=(N i).c9:=by unfold E2;cases (N i).d8==3<;>rfl
   rw [hb,hf];exact ⟨(hld.l1 h1').1,fun q hq hf=>hcov q ((hld.l1 h1').2 q hq hf)⟩
  ·intro h2;rw [hb,hk,f6l,f7k];by_cases q:(N i).d8=3
   ·obtain ⟨x1,x2,x3,x4⟩:=hld.l3 q;exact ⟨fun s f p=>by have:=x2 s f p;omega,x3.imp fun q _=>hcov q⟩
   ·have h2':(N i).d8=2:=by
     unfold E2 at h2;rw [show ((N i).d8==3)=false by simpa using q] at h2;exact h2
    obtain ⟨x1,x2⟩:=hld.l2 h2';exact ⟨fun s f p=>by have:=x1 s f p;omega,x2.imp fun q _=>hcov q⟩
  ·intro h3;exfalso
   by_cases q:(N i).d8=3
   ·unfold E2 at h3;rw [show ((N i).d8==3)=true by simpa using q] at h3;cases h3
   ·unfold E2 at h3;rw [show ((N i).d8==3)=false by simpa using q] at h3;exact q h3
 ·rw [hk,f8j] at hs;split at hs
  ·exact h.kn i s f hi hs
  ·rename_i hge;rw [List.getElem?_singleton] at hs;split at hs
   ·injection hs with hs;subst hs;rw [show s=(N i).a5.length by omega];exact hc
   ·cases hs
end
section
variable {N:Int->j7} {V:VR} {P:PR} {M:MS} {i:Int}
theorem MV.other{m:l9}(h:m.a9=6\/m.a9=7\/m.a9=8):MV N V P m:=⟨fun k=>by omega,fun k=>by omega,fun k=>by omega,fun k=>by omega,fun k=>by omega⟩
theorem MV.c1{m:l9}(h:m.a9=1)(x:f6D m.a8 3=m.c9/\m.g8<=(N m.c9).a5.length):MV N V P m:=⟨fun _=>x,fun k=>by omega,fun k=>by omega,fun k=>by omega,fun k=>by omega⟩
theorem MV.c2{m:l9}(h:m.a9=2)(x:m.g8<=(N m.To).a5.length/\m.a8<=(N m.c9).Acc.i4/\(∀s b e,m.g8.toNat<=s->b<m.a8->V m.c9 s b e->∃v,m.a7[s-m.g8.toNat]?=some v/\b<=v.a8)/\∀k v,m.a7[k]?=some v->v.a8>0->v.a8<=m.a8/\V m.c9 (m.g8.toNat+k) v.a8 v.i0):MV N V P m:=⟨fun k=>by omega,fun _=>x,fun k=>by omega,fun k=>by omega,fun k=>by omega⟩
theorem MV.c3{m:l9}(h:m.a9=3)(x:P m.a8 m.g8.toNat m.i0):MV N V P m:=⟨fun k=>by omega,fun k=>by omega,fun _=>x,fun k=>by omega,fun k=>by omega⟩
theorem MV.c4{m:l9}(h:m.a9=4)(x:∃e,V m.c9 m.g8.toNat m.a8 e):MV N V P m:=⟨fun k=>by omega,fun k=>by omega,fun k=>by omega,fun _=>x,fun k=>by omega⟩
theorem MV.c5{m:l9}(h:m.a9=5)(x:a1I V m.g8.toNat m.i0):MV N V P m:=⟨fun k=>by omega,fun k=>by omega,fun k=>by omega,fun k=>by omega,fun _=>x⟩
def f5u(P:PR)(b:Int)(k:Nat)(e:m6):PR:=fun c s f=>P c s f\/(c=b/\s=k/\f=e)
theorem d5l{id q:Int}(hid:D3 id)(hq:D3 q)(h:(a1j id)[q.toNat]?=some true):q=id:=by
 unfold D3 at hid hq;obtain rfl|rfl|rfl:id=0\/id=1\/id=2:=by omega
 all_goals obtain rfl|rfl|rfl:q=0\/q=1\/q=2:=by omega
 all_goals first|rfl|(exact absurd h (by decide))
theorem PX.put(h:PX N V P M)(hi:D3 i)(hph:(N i).d8=2){q:List m6}{e:m6}(hn:a2L (N i) e){a:z4}(hc:K3 (N i).Acc (N i).a8 ((N i).a5.length:Int) e=some a)(hni:NI {N i with d9:=q,Acc:=a,d8:=3,d6:=e,a7:=a1j (N i).Id}):PX (upd N i {N i with d9:=q,Acc:=a,d8:=3,d6:=e,a7:=a1j (N i).Id}) (a7U V i (N i).a5.length (N i).a8 e) (f5u P (N i).a8 (N i).a5.length e) M:=by
 obtain ⟨k,hk0,hk,h1,h2,h3,h4,he,c1,c2⟩:=d1M h hi hc;obtain rfl:k=(N i).a5.length:=by omega
 obtain ⟨l1,l2⟩:=(h.ld i hi).l2 hph;have hown:=(h.ni i hi).1.ld.own (by omega);have hid:=(h.ni i hi).2;have hbs:=(h.ld i hi).bs (by omega);generalize hn':({N i with d9:=q,Acc:=a,d8:=3,d6:=e,a7:=a1j (N i).Id}:j7)=n' at hni⊢;have f1:n'.Acc=a:=by rw [<-hn']
 have f2:n'.a5=(N i).a5:=by rw [<-hn']
 have f3:n'.a8=(N i).a8:=by rw [<-hn']
 have f4:n'.i5=(N i).i5:=by rw [<-hn']
 have f5:n'.d8=3:=by rw [<-hn']
 have f6:n'.d6=e:=by rw [<-hn']
 have f7:n'.a7=a1j i:=by rw [<-hn'];exact congrArg a1j hid
 have f8:n'.Id=i:=by rw [<-hn'];exact hid
 have hpr:(N i).Acc.i4<=n'.Acc.i4:=by rw [f1,h4];exact h3
 have hcov:∀a,Cov N V (N i) a->Cov (upd N i n') (a7U V i (N i).a5.length (N i).a8 e) n' a:=fun a c=>by
  refine ⟨by rw [f3];exact f6Z c.pr (a81 hpr a),?_⟩;rw [f2,f3,f4];exact fun s b f hs hb v=>c.cv s b f hs hb (c3g h3 c.pr hb v)
 have hsf:∀a,Cov N V (N i) a->Sf (upd N i n') (a7U V i (N i).a5.length (N i).a8 e) (N i).a8 (N i).a5.length e a:=fun a c=>by
  refine ⟨f6Z c.pr (a81 hpr a),fun b' e' hb v => ?_⟩;have v:=c3g h3 c.pr hb v;obtain ⟨w,w1,w2⟩:=c.cv _ _ _ (f6s _) hb v;have hb1:=(h.vp _ _ _ _ v).2.2.1;have hw:w.a8>0:=by omega
  have hno:∀{p:Prop},(∀v∈(N i).i5.drop (N i).a5.length,¬v.a8>0)->p:=fun hn=>by
   refine absurd hw (hn w ?_);exact f6o (i:=0) (by rw [f7H];exact w1)
  cases hn with
  | best u hu hub=>
   rw [w1] at hu;injection hu with hu;subst hu;obtain ⟨y1,q1,y2⟩:=hbs _ _ w1 hw;exact ⟨w.a8,q1,w2,y1,.inl y2⟩
  | gap u hu hub hn=>exact absurd hw (hn w w1)
  | want hb hk hn=>exact hno hn
  | queue e he hk hn=>exact hno hn
 refine h.step hi ⟨hni,f8,hpr,by rw [f2];exact f6s _,fun _ _ _ _ v=>.inl v,fun q s c f v => ?_,fun _ _ _ p=>.inl p,fun b s f p => ?_,by rw [f1];exact c1,by rw [f1];exact c2,?_,by rw [f2];exact fun s e hk=>(h.kn i s e hi hk).mono fun _ _ _ _ v=>.inl v,fun m hm=>.inl hm⟩
 ·rcases v with v|⟨rfl,rfl,rfl,rfl⟩
  ·exact .inl v
  ·exact .inr ⟨rfl,h3,h1,by rw [f1,h4];exact f6B _,.inr ⟨rfl,rfl,rfl⟩⟩
 ·rcases p with p|⟨rfl,rfl,rfl⟩
  ·exact .inl p
  ·refine .inr ⟨f3.symm,f5,fun e' p' => ?_,l2.imp fun a _=>hsf a⟩;rcases p' with p'|⟨_,_,x⟩
   ·exact absurd (l1 _ _ p') (by omega)
   ·exact x
 ·refine ⟨fun _ => ?_,fun q=>by omega,fun q=>by omega,fun _ => ?_⟩
  ·rw [f3,f4];intro s v hs hv;obtain ⟨x1,q1,x2⟩:=hbs s v hs hv;exact ⟨x1,q1,.inl x2⟩
  ·rw [f2,f3,f6,f7];refine ⟨.inr ⟨rfl,rfl,rfl⟩,fun s f p => ?_,l2.imp fun a _=>hcov a,fun q hq hm => ?_⟩
   ·rcases p with p|⟨_,rfl,_⟩
    ·exact Nat.le_of_lt (l1 _ _ p)
    ·exact f6s _
   ·rw [d5l hi hq hm];exact .inr ⟨rfl,rfl,rfl,rfl⟩
theorem PX.queue(h:PX N V P M)(hi:D3 i){q:List m6}(hl:q.length<=4)(hm:∀e∈q,z5 e=true/\e.i8=false):PX (upd N i {N i with d9:=q}) V P M:=
 h.keep hi ((h.ni i hi).1.queue hl hm) (h.ni i hi).2 (f6B _) rfl rfl rfl rfl rfl rfl rfl rfl
theorem PX.propose(h:PX N V P M)(hi:D3 i):M8 N M i (L3 (N i)).1 (L3 (N i)).2:=by
 have hr:=b0t (h.ni i hi).1;unfold L3 at hr⊢;cases hc:(N i).d8 != 2||decide (40<=(N i).a5.length)
 case true=>exact .same h
 rw [hc] at hr;simp only [f8w] at hr⊢;simp only [f7o,bne_eq_false_iff_eq,decide_eq_false_iff_not] at hc;obtain ⟨q,hq,hql,hqm,hqe⟩:=a9w (N i);cases hx:a0O (N i) with
 | mk x o=>
 rw [hx] at hr hq hqe;have hq:x={N i with d9:=q}:=hq;subst hq;have hQ:PX (upd N i {N i with d9:=q}) V P M:=h.queue hi (by have:=(h.ni i hi).1.ql;omega) fun e he=>(h.ni i hi).1.qs e (hqm e he)
 cases o with
 | none=>exact ⟨V,P,by rw [a7R];exact hQ⟩
 | some e=>
  simp only [a5O] at hr⊢;cases hcs:K3 (N i).Acc (N i).a8 ((N i).a5.length:Int) e with
  | none=>
   have:=hQ.down hi;rw [T6,a24] at this;exact ⟨V,P,by rw [a7R];exact this⟩
  | some a=>
   rw [hcs] at hr;have hid:=(h.ni i hi).2;refine ⟨_,_,PX.send (h.put hi hc.1 (hqe e rfl) hcs hr.ni) fun m hm=>⟨hr.ms m hm,?_⟩⟩;obtain ⟨t,_,_,_,rfl⟩:=a32 (h.ni i hi).1.id hm;exact .c3 rfl (.inr ⟨rfl,rfl,rfl⟩)
theorem M8.then{n1 n2:j7}{l1 l2:List l9}(h1:M8 N M i n1 l1)(h2:∀V P,PX (upd N i n1) V P (snd M l1)->M8 (upd N i n1) (snd M l1) i n2 l2):M8 N M i n2 (l1++l2):=by
 obtain ⟨V1,P1,h1⟩:=h1;obtain ⟨V2,P2,h2⟩:=h2 V1 P1 h1;rw [a24,c9o] at h2;exact ⟨V2,P2,h2⟩
theorem PX.learn(h:PX N V P M)(hi:D3 i){e:m6}(he:z5 e=true)(hl:(N i).a5.length<40)(hc:a1I V (N i).a5.length e):M8 N M i (Y3 (N i) e).1 (Y3 (N i) e).2.1:=by
 have h1:=h.know hi he hl hc;have h2:=h1.free hi;rw [T6,a24] at h2;have h3:=h2.propose hi;rw [T6] at h3;obtain ⟨V',P',h3⟩:=h3;rw [a24] at h3;exact ⟨V',P',h3⟩
theorem PX.rise(h:PX N V P M)(hi:D3 i):M8 N M i (X5 (N i)).1 (X5 (N i)).2:=by
 have hni:=(h.ni i hi).1;have hid:=(h.ni i hi).2;have hr:=b0Z hni;unfold X5 at hr⊢;cases hd:decide (M7 (N i).Acc.i4 (N i).Id<0);case true=>exact .same h
 rw [hd] at hr;simp only [f8w] at hr⊢;simp only [decide_eq_false_iff_not] at hd;rcases b48 hni.pr hni.id with q|⟨q1,q2,q3,q4⟩
 ·omega
 generalize M7 (N i).Acc.i4 (N i).Id=b at *;have hld:∀(n':j7),n'.d8=1->n'.a8=b->n'.a5=(N i).a5->n'.i5=(N i).Acc.a7->n'.c9=a1j i->n'.Acc.i4=b->LD (upd N i n') V P n':=by
  intro n' e1 e2 e3 e4 e5 e6;refine ⟨fun _ => ?_,fun _=>⟨?_,?_⟩,fun q=>by omega,fun q=>by omega⟩
  ·rw [e2,e4];intro s v hs hv;have hv':=h.cur i s v hi hs hv;exact ⟨by have:=(h.vp _ _ _ _ hv').2.2.2;omega,i,hv'⟩
  ·rw [e2];intro s e p;have:=(h.po _ _ _ p).2;rw [q4,hid] at this;omega
  ·rw [e5];intro q hq hm;rw [d5l hi hq hm];refine ⟨by rw [e2,T6,e6];exact f6B _,?_⟩;rw [e4];exact fun s b e _ _ v=>h.max i s b e v
 refine ⟨V,P,PX.send (h.quiet hi hr.ni (hr.id.trans hid) (Int.le_of_lt q1) rfl rfl (hld _ rfl rfl rfl rfl (by rw [hid]) rfl)) fun m hm=>⟨hr.ms m hm,?_⟩⟩;obtain ⟨t,_,_,_,rfl⟩:=a32 hni.id hm;refine .c1 rfl ⟨q4,?_⟩;simp only [hid,T6];exact f6B _
theorem c8X{l:List Bool}(hl:l.length=3)(h:N1 l=true):Quo fun q=>l[q.toNat]?=some true:=by
 match l,hl with
 | [a,b,c],_=>
  cases a<;>cases b<;>cases c<;>first|(exact absurd h (by decide))|exact ⟨0,1,by unfold D3;omega,by unfold D3;omega,by decide,rfl,rfl⟩|exact ⟨0,2,by unfold D3;omega,by unfold D3;omega,by decide,rfl,rfl⟩|exact ⟨1,2,by unfold D3;omega,by unfold D3;omega,by decide,rfl,rfl⟩
theorem d3J{l:List Bool}{f q:Int}(hf:D3 f)(hq:D3 q)(h:(l.set f.toNat true)[q.toNat]?=some true):q=f\/l[q.toNat]?=some true:=by
 unfold D3 at hf hq;rw [f7E] at h;split at h
 ·left;omega
 ·exact .inr h
end
section
variable {N:Int->j7} {V:VR} {P:PR} {M:MS} {i:Int} {m:l9}
theorem M8.reply(h:PX N V P M){r:l9}(h1:MI r)(h2:r.a9=6\/r.a9=7\/r.a9=8):M8 N M i (N i) [r]:=
 ⟨V,P,by rw [a8E];exact h.send fun x hx=>by rw [f6h.1 hx];exact ⟨h1,.other h2⟩⟩
theorem PX.tPrepare(h:PX N V P M)(hi:D3 i)(hm:M m)(hto:m.To=i)(hk:m.a9=1):M8 N M i (a15 (N i) m).1 (a15 (N i) m).2:=by
 obtain ⟨mi,mv⟩:=h.ms m hm;obtain ⟨hni,hid⟩:=h.ni i hi;have hr:=d3j hni mi hk;unfold a15 at hr⊢;cases hp:I3 (N i).Acc m.a8 with
 | none=>
  rw [hp] at hr;exact .reply h (hr.ms _ (f6h.2 rfl)) (.inl rfl)
 | some x=>
  rw [hp] at hr;have h1:=(h.promise hi hp).yield hi m.a8;rw [T6,a24] at h1;obtain ⟨rfl,b1,b2,b3⟩:=a3L hp;refine ⟨V,P,h1.send fun r hr'=>⟨hr.ms r hr',?_⟩⟩;rw [f6h.1 hr'];obtain ⟨s1,s2⟩:=mv.k1 hk;have hacc:(N3 {N i with Acc:=⟨m.a8,(N i).Acc.a7⟩} m.a8).Acc=⟨m.a8,(N i).Acc.a7⟩:=d3z _ _;have hne:m.c9≠i:=fun q=>mi.ne (by rw [q,hto])
  have hsl:=mi.sl;refine .c2 rfl ⟨?_,?_,?_,?_⟩
  ·show m.g8<=((upd N i _ m.c9).a5.length:Int)
   rw [b1i _ hne];exact s2
  ·show m.a8<=(upd N i _ m.To).Acc.i4
   rw [hto,T6,hacc];exact f6B _
  ·show ∀s b e,m.g8.toNat<=s->b<m.a8->V m.To s b e->∃v,((N i).Acc.a7.drop m.g8.toNat)[s-m.g8.toNat]?=some v/\b<=v.a8
   rw [hto];intro s b e hs _ v;obtain ⟨w,w1,w2⟩:=h.max _ _ _ _ v;exact ⟨w,by rw [f7H,show m.g8.toNat+(s-m.g8.toNat)=s by omega];exact w1,w2⟩
  ·show ∀k v,((N i).Acc.a7.drop m.g8.toNat)[k]?=some v->v.a8>0->v.a8<=m.a8/\V m.To (m.g8.toNat+k) v.a8 v.i0
   rw [hto];intro k v hk hv;rw [f7H] at hk;have hv':=h.cur i _ v hi hk hv;exact ⟨f6Z (h.vp _ _ _ _ hv').2.2.2 b3,hv'⟩
theorem PX.tAccept(h:PX N V P M)(hi:D3 i)(hm:M m)(hto:m.To=i)(hk:m.a9=3):M8 N M i (a1U (N i) m).1 (a1U (N i) m).2:=by
 obtain ⟨mi,mv⟩:=h.ms m hm;obtain ⟨hni,hid⟩:=h.ni i hi;have hr:=d6i hni mi hk;unfold a1U at hr⊢;cases hp:K3 (N i).Acc m.a8 m.g8 m.i0 with
 | none=>
  rw [hp] at hr;exact .reply h (hr.ms _ (f6h.2 rfl)) (.inl rfl)
 | some x=>
  rw [hp] at hr;have h1:=(h.vote hi hp (mv.k3 hk)).yield hi m.a8;rw [T6,a24] at h1;refine ⟨_,P,h1.send fun r hr'=>⟨hr.ms r hr',?_⟩⟩;rw [f6h.1 hr'];refine .c4 rfl ⟨m.i0,.inr ⟨hto,rfl,rfl,rfl⟩⟩
theorem d4U{a b:List m9}{s:Nat}{v:m9}(h:a[s]?=some v\/b[s]?=some v):∃w,(E1 a b)[s]?=some w/\v.a8<=w.a8:=by
 rw [a9C];cases ha:a[s]? with
 | none=>
  rw [ha] at h;rcases h with h|h
  ·cases h
  ·rw [h];exact ⟨v,rfl,f6B _⟩
 | some x=>
  cases hb:b[s]? with
  | none=>
   rw [ha,hb] at h;rcases h with h|h
   ·injection h with h;subst h;exact ⟨x,rfl,f6B _⟩
   ·cases h
  | some y=>
   rw [ha,hb] at h;simp only;cases hd:decide (y.a8>x.a8)
   ·refine ⟨x,rfl,?_⟩;simp only [decide_eq_false_iff_not] at hd;rcases h with h|h
    ·injection h with h;subst h;exact f6B _
    ·injection h with h;subst h;omega
   ·refine ⟨y,rfl,?_⟩;simp only [decide_eq_true_eq] at hd;rcases h with h|h
    ·injection h with h;subst h;omega
    ·injection h with h;subst h;exact f6B _
theorem e22{a b:List m9}{s:Nat}{w:m9}(h:(E1 a b)[s]?=some w):a[s]?=some w\/b[s]?=some w:=by
 rw [a9C] at h;cases ha:a[s]? with
 | none=>
  rw [ha] at h;cases hb:b[s]? with
  | none=>rw [hb] at h;cases h
  | some y=>rw [hb] at h;exact .inr h
 | some x=>
  rw [ha] at h;cases hb:b[s]? with
  | none=>rw [hb] at h;exact .inl h
  | some y=>
   rw [hb] at h;simp only at h;cases hd:decide (y.a8>x.a8)
   ·rw [hd] at h;exact .inl h
   ·rw [hd] at h;exact .inr h
theorem f1m{vs:List m9}{k s:Nat}{v:m9}(h:(f6a k v0++vs)[s]?=some v)(hv:v.a8>0):k<=s/\vs[s-k]?=some v:=by
 rw [f8j] at h;split at h
 ·rw [List.getElem?_replicate] at h;split at h
  ·injection h with h;subst h;exact absurd hv (by decide)
  ·cases h
 ·rename_i hge;rw [f8i] at h hge;exact ⟨by omega,h⟩
theorem PX.tPromise(h:PX N V P M)(hi:D3 i)(hm:M m)(hto:m.To=i)(hk:m.a9=2):M8 N M i (a1W (N i) m).1 (a1W (N i) m).2:=by
 obtain ⟨mi,mv⟩:=h.ms m hm;obtain ⟨hni,hid⟩:=h.ni i hi;have hr:=c1b hni mi hk;have hsl:=mi.sl;have hfr:D3 m.c9:=mi.fr;obtain ⟨s1,s2,s3,s4⟩:=mv.k2 hk;rw [hto] at s1;unfold a1W at hr⊢;cases hc:(N i).d8 != 1||m.a8 != (N i).a8
 case true=>exact .same h
 rw [hc] at hr;simp only [f8w] at hr⊢;simp only [f7o,bne_eq_false_iff_eq] at hc;obtain ⟨hp1,hbal⟩:=hc;have hld:=h.ld i hi;obtain ⟨l1,l2⟩:=hld.l1 hp1;have hfl:(N i).c9.length=3:=by
  rcases hni.ld with q|q|q|q
  ·omega
  ·exact q.2.2.1
  all_goals exact absurd q.1 (by omega)
 have hkl:m.g8.toNat<=(N i).a5.length:=by omega
 have hbs:∀s v,(E1 (N i).i5 (f6a m.g8.toNat v0++m.a7))[s]?=some v->v.a8>0->v.a8<(N i).a8/\∃q,V q s v.a8 v.i0:=by
  intro s v hs hv;rcases e22 hs with q|q
  ·exact hld.bs (by omega) s v q hv
  ·obtain ⟨g1,g2⟩:=f1m q hv;obtain ⟨g3,g4⟩:=s4 _ v g2 hv;rw [show m.g8.toNat+(s-m.g8.toNat)=s by omega] at g4;refine ⟨?_,_,g4⟩;have hpp:=(h.vp _ _ _ _ g4).2.1;rcases Int.lt_or_le v.a8 (N i).a8 with q|q
   ·exact q
   ·exact absurd (show P (N i).a8 s v.i0 by rw [show (N i).a8=v.a8 by omega];exact hpp) (l1 _ _)
 have hcov:∀(n':j7),n'.Acc=(N i).Acc->n'.a8=(N i).a8->n'.a5=(N i).a5->n'.i5=E1 (N i).i5 (f6a m.g8.toNat v0++m.a7)->∀q,D3 q->((N i).c9.set m.c9.toNat true)[q.toNat]?=some true->Cov (upd N i n') V n' q:=by
  intro n' e0 e1 e2 e3 q hq hf;have hpr:∀q,(N q).Acc.i4<=(upd N i n' q).Acc.i4:=a81 (by rw [e0];exact f6B _)
  rcases d3J hfr hq hf with rfl|hf
  ·refine ⟨by rw [e1,<-hbal];exact f6Z s2 (hpr _),?_⟩;rw [e1,e2,e3];intro s b e hs hb v;obtain ⟨w,w1,w2⟩:=s3 s b e (by omega) (by rw [hbal];exact hb) v;have hw:(f6a m.g8.toNat v0++m.a7)[s]?=some w:=by
    rw [f6q (by rw [f8i];omega),f8i];exact w1
   obtain ⟨u,u1,u2⟩:=d4U (a:=(N i).i5) (.inr hw);exact ⟨u,u1,by omega⟩
  ·have c:=l2 q hq hf;refine ⟨by rw [e1];exact f6Z c.pr (hpr _),?_⟩;rw [e1,e2,e3];intro s b e hs hb v;obtain ⟨w,w1,w2⟩:=c.cv s b e hs hb v;obtain ⟨u,u1,u2⟩:=d4U (b:=f6a m.g8.toNat v0++m.a7) (.inl w1);exact ⟨u,u1,by omega⟩
 cases htw:N1 ((N i).c9.set m.c9.toNat true)
 ·rw [htw] at hr;simp only [f8w] at hr⊢;refine ⟨V,P,by rw [a7R];exact h.quiet hi hr.ni hid (f6B _) rfl rfl ⟨fun _=>hbs,fun _=>⟨l1,fun q hq hf=>hcov _ (by rfl) (by rfl) (by rfl) (by rfl) q hq hf⟩,fun q=>absurd (hp1.symm.trans q) (by decide),fun q=>absurd (hp1.symm.trans q) (by decide)⟩⟩
 ·simp only [f8v];have hq:=c8X (by rw [f7y];exact hfl) htw;have hown:=hni.ld.own (by omega);have hmv:m.a7.length<=40/\(∀v∈m.a7,VI v)/\m.g8+m.a7.length<=40:=by
   rcases mi.kd with q|q|q|q|q|q|q
   ·omega
   ·exact ⟨q.2.2.2.1.1,q.2.2.2.1.2,q.2.2.2.2⟩
   all_goals exact absurd q.1 (by omega)
  have hquiet:(N i).d6=zE/\(N i).a7=[]:=by
   rcases hni.ld with q|q|q|q
   ·omega
   ·exact ⟨q.2.2.2.2.1,q.2.2.2.2.2⟩
   all_goals exact absurd q.1 (by omega)
  have hni2:NI {N i with c9:=[],i5:=E1 (N i).i5 (f6a m.g8.toNat v0++m.a7),d8:=2}:=by
   refine ⟨hni.id,hni.pr,hni.vl,hni.vs,hni.kl,hni.ks,hni.sq,hni.ql,hni.qs,.inr (.inr (.inl ⟨rfl,⟨hown.b1,hown.b2,hown.mod,hown.pr,?_,?_⟩,rfl,hquiet.1,hquiet.2⟩)),hni.wt⟩
   ·have hbl:=hown.bl;show (E1 _ _).length<=40
    rw [a8F,f6l,f8i];omega
   ·intro v hv;rcases a9M hv with q|q
    ·exact hown.bs v q
    ·rcases f6b.1 q with q|q
     ·rw [(f6X.1 q).2];exact .inl rfl
     ·exact hmv.2.1 v q
  have h2:PX (upd N i {N i with c9:=[],i5:=E1 (N i).i5 (f6a m.g8.toNat v0++m.a7),d8:=2}) V P M:=
   h.quiet hi hni2 hid (f6B _) rfl rfl ⟨fun _=>hbs,fun q=>absurd (show (2:Int)=1 from q) (by decide),fun _=>⟨fun s e p=>absurd p (l1 s e),hq.imp fun q hq hf=>hcov _ (by rfl) (by rfl) (by rfl) (by rfl) q hq hf⟩,fun q=>absurd (show (2:Int)=3 from q) (by decide)⟩
  have h3:=h2.propose hi;rw [T6] at h3;obtain ⟨V',P',h3⟩:=h3;rw [a24] at h3;exact ⟨V',P',h3⟩
theorem PX.tAccepted(h:PX N V P M)(hi:D3 i)(hm:M m)(hto:m.To=i)(hk:m.a9=4):M8 N M i (a2F (N i) m).1 (a2F (N i) m).2.1:=by
 obtain ⟨mi,mv⟩:=h.ms m hm;obtain ⟨hni,hid⟩:=h.ni i hi;have hr:=d4s hni mi;have hfr:D3 m.c9:=mi.fr;obtain ⟨e',ve⟩:=mv.k4 hk;unfold a2F at hr⊢;cases hc:(N i).d8 != 3||(m.a8 != (N i).a8||m.g8 != ((N i).a5.length:Int))
 case true=>exact .same h
 rw [hc] at hr;simp only [f8w] at hr⊢;simp only [f7o,bne_eq_false_iff_eq] at hc;obtain ⟨hp3,hbal,hsl⟩:=hc;rw [hsl,hbal,f6A] at ve;have hld:=h.ld i hi;obtain ⟨l1,l2,l3,l4⟩:=hld.l3 hp3;have he':e'=(N i).d6:=h.pu _ _ _ _ (h.vp _ _ _ _ ve).2.1 l1;subst he';have hlead:Own (N i)/\(N i).c9=[]/\z5 (N i).d6=true/\(N i).a7.length=3/\(N i).a7[(N i).Id.toNat]?=some true/\(N i).a5.length<40:=by
  rcases hni.ld with q|q|q|q
  ·omega
  ·omega
  ·omega
  ·exact q.2
 obtain ⟨o1,o2,o3,o4,o5,o6⟩:=hlead;have hmk:∀q,D3 q->((N i).a7.set m.c9.toNat true)[q.toNat]?=some true->V q (N i).a5.length (N i).a8 (N i).d6:=by
  intro q hq hf;rcases d3J hfr hq hf with rfl|hf
  ·exact ve
  ·exact l4 q hq hf
 have hni2:NI {N i with a7:=(N i).a7.set m.c9.toNat true}:=
  ⟨hni.id,hni.pr,hni.vl,hni.vs,hni.kl,hni.ks,hni.sq,hni.ql,hni.qs,.inr (.inr (.inr ⟨hp3,o1,o2,o3,by simpa using o4,by
   show ((N i).a7.set m.c9.toNat true)[(N i).Id.toNat]?=some true
   rw [f7E];split
   ·rename_i hq;have:=hni.id;rw [if_pos (by omega)]
   ·exact o5,o6⟩)),hni.wt⟩
 have h2:PX (upd N i {N i with a7:=(N i).a7.set m.c9.toNat true}) V P M:=by
  refine h.quiet hi hni2 hid (f6B _) rfl rfl ⟨fun h0=>hld.bs h0,fun q=>absurd (hp3.symm.trans q) (by decide),fun q=>absurd (hp3.symm.trans q) (by decide),fun _=>⟨l1,l2,l3.imp fun a _ c=>⟨f6Z c.pr (a81 (n':={N i with a7:=(N i).a7.set m.c9.toNat true}) (f6B _) a),c.cv⟩,hmk⟩⟩
 cases htw:N1 ((N i).a7.set m.c9.toNat true)
 ·simp only [f8w];exact ⟨V,P,by rw [a7R];exact h2⟩
 ·rw [htw] at hr;simp only [f8v] at hr⊢;have hq:=c8X (by rw [f7y];exact o4) htw;have hch:a1I V (N i).a5.length (N i).d6:=by
   obtain ⟨a,b,ha,hb,hab,x,y⟩:=hq;exact ⟨(N i).a8,a,b,ha,hb,hab,hmk a ha x,hmk b hb y⟩
  refine M8.then (n1:={N i with a7:=(N i).a7.set m.c9.toNat true}) ⟨V,P,h2.send fun x hx=>⟨hr.ms x (f7D _ hx),?_⟩⟩ fun V2 P2 hp => ?_
  ·obtain ⟨t,_,_,_,rfl⟩:=a32 hni.id hx;exact .c5 rfl hch
  ·have h3:PX (upd N i {N i with a7:=(N i).a7.set m.c9.toNat true}) V P (snd M (I6 (N i).Id ⟨5,0,0,0,((N i).a5.length:Int),(N i).d6,[]⟩)):=h2.send fun x hx=>⟨hr.ms x (f7D _ hx),by
    obtain ⟨t,_,_,_,rfl⟩:=a32 hni.id hx;exact .c5 rfl hch⟩
   have h4:=h3.learn hi (e:=(N i).d6) o3 (by rw [T6];exact o6) (by rw [T6];exact hch);rw [T6] at h4;exact h4
theorem PX.tChosen(h:PX N V P M)(hi:D3 i)(hm:M m)(hto:m.To=i)(hk:m.a9=5):M8 N M i (a2M (N i) m).1 (a2M (N i) m).2.1:=by
 obtain ⟨mi,mv⟩:=h.ms m hm;obtain ⟨hni,hid⟩:=h.ni i hi;have hr:=c9e hni mi hk;have hch:=mv.k5 hk;have hsl:=mi.sl;have hkd:m.g8<40/\z5 m.i0=true:=by
  rcases mi.kd with q|q|q|q|q|q|q
  ·omega
  ·omega
  ·omega
  ·exact ⟨q.2.2.1,q.2.2.2.1⟩
  all_goals exact absurd q.1 (by omega)
 unfold a2M at hr⊢;cases h1:decide (m.g8<((N i).a5.length:Int));case true=>exact .same h
 rw [h1] at hr;cases h2:decide (m.g8>((N i).a5.length:Int))
 ·simp only [f8w];simp only [decide_eq_false_iff_not] at h1 h2;refine h.learn hi hkd.2 (by omega) ?_;rw [show (N i).a5.length=m.g8.toNat by omega];exact hch
 ·rw [h2] at hr;simp only [f8w,f8v] at hr⊢;exact .reply h (hr.ms _ (f6h.2 rfl)) (.inr (.inr rfl))
theorem PX.tAsk(h:PX N V P M)(hi:D3 i)(hm:M m)(hto:m.To=i)(hk:m.a9=7):M8 N M i (a2b (N i) m).1 (a2b (N i) m).2:=by
 obtain ⟨mi,mv⟩:=h.ms m hm;obtain ⟨hni,hid⟩:=h.ni i hi;obtain ⟨e1,e2⟩:z5 m.i0=true/\m.i0.i8=false:=by
  rcases mi.kd with q|q|q|q|q|q|q
  ·omega
  ·omega
  ·omega
  ·omega
  ·omega
  ·exact ⟨q.2.2.2.1,q.2.2.2.2.1⟩
  ·omega
 unfold a2b;cases hc:(N i).d8==0||(decide (4<=(N i).d9.length)||N0 (N i).a5 m.i0.a0)
 case true=>exact .same h
 simp only [f8w];simp only [f7o,decide_eq_false_iff_not] at hc;have h1:=h.queue hi (q:=(N i).d9++[m.i0]) (by rw [f6l,f7k];omega) (by
  intro e he;rcases f6b.1 he with q|q
  ·exact hni.qs e q
  ·rw [f6h.1 q];exact ⟨e1,e2⟩)
 have h2:=h1.propose hi;rw [T6] at h2;obtain ⟨V',P',h2⟩:=h2;rw [a24] at h2;exact ⟨V',P',h2⟩
theorem PX.tNeed(h:PX N V P M)(hi:D3 i)(hm:M m):M8 N M i (N i) (a4n (N i) m):=by
 obtain ⟨mi,mv⟩:=h.ms m hm;obtain ⟨hni,hid⟩:=h.ni i hi;have hr:=c6b hni mi;refine ⟨V,P,?_⟩;rw [a8E];refine h.send fun x hx=>⟨hr x hx,?_⟩
 unfold a4n at hx;obtain ⟨l,hl,hx⟩:=f7b.1 hx;obtain ⟨j,hj,rfl⟩:=f6G.1 hl;unfold a1n at hx;cases hk:(N i).a5[m.g8.toNat+j]? with
 | none=>rw [hk] at hx;cases hx
 | some e=>
  rw [hk] at hx;rw [f6h.1 hx];refine .c5 rfl ?_;exact h.kn i _ e hi hk
theorem PX.tRefuse(h:PX N V P M)(hi:D3 i)(b:Int):M8 N M i (N3 {N i with Acc:=(I3 (N i).Acc b).getD (N i).Acc} b) []:=by
 refine ⟨V,P,?_⟩;rw [a7R];cases hp:I3 (N i).Acc b with
 | none=>exact h.yield hi b
 | some x=>
  have h1:=(h.promise hi hp).yield hi b;rw [T6,a24] at h1;exact h1
theorem PX.take(h:PX N V P M)(hi:D3 i)(hm:M m)(hto:m.To=i):M8 N M i (W2 (N i) m).1 (W2 (N i) m).2.1:=by
 unfold W2;by_cases k1:m.a9=1
 ·rw [show (m.a9==1)=true by simpa using k1];exact h.tPrepare hi hm hto k1
 rw [show (m.a9==1)=false by simpa using k1];by_cases k2:m.a9=2
 ·rw [show (m.a9==2)=true by simpa using k2];exact h.tPromise hi hm hto k2
 rw [show (m.a9==2)=false by simpa using k2];by_cases k3:m.a9=3
 ·rw [show (m.a9==3)=true by simpa using k3];exact h.tAccept hi hm hto k3
 rw [show (m.a9==3)=false by simpa using k3];by_cases k4:m.a9=4
 ·rw [show (m.a9==4)=true by simpa using k4];exact h.tAccepted hi hm hto k4
 rw [show (m.a9==4)=false by simpa using k4];by_cases k5:m.a9=5
 ·rw [show (m.a9==5)=true by simpa using k5];exact h.tChosen hi hm hto k5
 rw [show (m.a9==5)=false by simpa using k5];by_cases k6:m.a9=6
 ·rw [show (m.a9==6)=true by simpa using k6];exact h.tRefuse hi m.a8
 rw [show (m.a9==6)=false by simpa using k6];by_cases k7:m.a9=7
 ·rw [show (m.a9==7)=true by simpa using k7];exact h.tAsk hi hm hto k7
 rw [show (m.a9==7)=false by simpa using k7];cases m.a9==8
 ·exact .same h
 ·exact h.tNeed hi hm
end
section
variable {N:Int->j7} {V:VR} {P:PR} {M:MS} {i:Int}
theorem M8.to{n1 n2:j7}{l:List l9}(h1:PX (upd N i n1) V P M)(h2:M8 (upd N i n1) M i n2 l):M8 N M i n2 l:=by
 obtain ⟨V',P',h2⟩:=h2;rw [a24] at h2;exact ⟨V',P',h2⟩
theorem PX.ask(h:PX N V P M)(hi:D3 i){p:List n9}(hp:t0 p):M8 N M i (K5 (N i) p).1 (K5 (N i) p).2:=by
 obtain ⟨hni,hid⟩:=h.ni i hi;have hr:=b0w hni hp;rw [a2k] at hr⊢;cases hc:K7 (N i) p;case false=>exact .same h
 rw [hc] at hr;have hn:=hni.asked hp hc;have h1:PX (upd N i (Q0 (N i) p)) V P M:=h.keep hi hn hid (f6B _) rfl rfl rfl rfl rfl rfl rfl rfl;simp only [f8v] at hr⊢;cases h2:(N i).d8==2
 ·rw [h2] at hr;simp only [f8w] at hr⊢;refine .to h1 ⟨V,P,?_⟩;rw [a24];refine h1.send fun x hx=>⟨hr.ms x hx,?_⟩
  cases h0:(N i).d8==0
  ·rw [h0] at hx;cases hx
  ·rw [h0] at hx;obtain ⟨t,_,_,_,rfl⟩:=a32 hni.id hx;exact .other (.inr (.inl rfl))
 ·simp only [f8v];have h3:=h1.propose hi;rw [T6] at h3;exact .to h1 h3
theorem PX.retry(h:PX N V P M)(hi:D3 i):M8 N M i (V6 (N i)).1 (V6 (N i)).2:=by
 obtain ⟨hni,hid⟩:=h.ni i hi;have hr:=a9u hni;have hneed:∀x∈I6 (N i).Id ⟨8,0,0,0,((N i).a5.length:Int),zE,[]⟩,MV N V P x:=fun x hx=>by
  obtain ⟨t,_,_,_,rfl⟩:=a32 hni.id hx;exact .other (.inr (.inr rfl))
 have go:∀{l:List l9},(∀x∈I6 (N i).Id ⟨8,0,0,0,((N i).a5.length:Int),zE,[]⟩++l,MI x)->(∀x∈l,MV N V P x)->M8 N M i (N i) (I6 (N i).Id ⟨8,0,0,0,((N i).a5.length:Int),zE,[]⟩++l):=fun {l} hm hv=>
  ⟨V,P,by rw [a8E];exact h.send fun x hx=>⟨hm x hx,(f6b.1 hx).elim (hneed x) (hv x)⟩⟩
 unfold V6 at hr⊢;by_cases h1:(N i).d8=1
 ·rw [show ((N i).d8==1)=true by simpa using h1] at hr⊢;refine go hr.ms fun x hx => ?_
  obtain ⟨t,_,_,_,rfl⟩:=a32 hni.id hx;exact .c1 rfl ⟨(hni.ld.own (by omega)).mod,by show _<=((N (N i).Id).a5.length:Int);rw [hid];exact f6B _⟩
 rw [show ((N i).d8==1)=false by simpa using h1] at hr⊢;by_cases h2:(N i).d8=2
 ·rw [show ((N i).d8==2)=true by simpa using h2] at hr⊢;simp only [f8v,f8w] at hr⊢;have hs:PX N V P (snd M (I6 (N i).Id ⟨8,0,0,0,((N i).a5.length:Int),zE,[]⟩)):=h.send fun x hx=>⟨hr.ms x (f7D _ hx),hneed x hx⟩
  obtain ⟨V',P',h3⟩:=hs.propose hi;rw [c9o] at h3;exact ⟨V',P',h3⟩
 rw [show ((N i).d8==2)=false by simpa using h2] at hr⊢;by_cases h3:(N i).d8=3
 ·rw [show ((N i).d8==3)=true by simpa using h3] at hr⊢;refine go hr.ms fun x hx => ?_
  obtain ⟨t,_,_,_,rfl⟩:=a32 hni.id hx;exact .c3 rfl ((h.ld i hi).l3 h3).1
 rw [show ((N i).d8==3)=false by simpa using h3] at hr⊢;cases hb:(N i).i9
 ·rw [hb] at hr;refine ⟨V,P,?_⟩;show PX (upd N i (N i)) V P _
  rw [a8E];exact h.send fun x hx=>⟨hr.ms x hx,hneed x hx⟩
 ·rw [hb] at hr;refine go hr.ms fun x hx => ?_
  obtain ⟨t,_,_,_,rfl⟩:=a32 hni.id hx;exact .other (.inr (.inl rfl))
theorem PX.fall(h:PX N V P M)(hi:D3 i):M8 N M i (a0l (N i)) []:=
 ⟨V,P,by rw [a7R];exact h.quiet hi (h.ni i hi).1.fall (h.ni i hi).2 (f6B _) rfl rfl (.none rfl)⟩
end
def u5(w:m4)(j:Int):j7:=if 0<=j/\j<=2 then G8 w j else C6 0
def PW(w:m4):Prop := ∃V P M,PX (u5 w) V P M/\∀m∈w.b9,M m
theorem a17{w:m4}{j:Int}(h:D3 j):u5 w j=G8 w j:=if_pos h
theorem e0F{w w':m4}(h:w'.a6=w.a6):u5 w'=u5 w:=by
 funext j;unfold u5 G8;rw [h]
theorem e9L{w:m4}(h:WI w){i:Nat}(hi:i<3)(n:j7){w':m4}(hw:w'.a6=w.a6.set i n):u5 w'=upd (u5 w) (i:Int) n:=by
 have hl:=h.nl;funext j
 unfold u5 upd G8;rw [hw];show _=if j=(i:Int) then n else if 0<=j/\j<=2 then w.a6.getD j.toNat (C6 0) else C6 0
 by_cases hj:0<=j/\j<=2
 ·rw [if_pos hj,if_pos hj];by_cases q:j=(i:Int)
  ·subst q;rw [if_pos rfl,f6A,f6p,f7p (by omega)];rfl
  ·rw [if_neg q,f6p,f6v (by omega),<-f6p]
 ·rw [if_neg hj,if_neg hj,if_neg (by omega)]
theorem PW.put{w w':m4}(h:WI w){i:Nat}(hi:i<3){n':j7}{l:List l9}{V:VR}{P:PR}{M:MS}(hM:∀m∈w.b9,M m)(hg:M8 (u5 w) M (i:Int) n' l)(hn:w'.a6=w.a6.set i n')(hm:∀m∈w'.b9,m∈w.b9\/m∈l):PW w':=by
 obtain ⟨V',P',h'⟩:=hg;refine ⟨V',P',_,by rw [e9L h hi n' hn];exact h',fun m hm' => ?_⟩;exact (hm m hm').imp (hM m) id
theorem PW.less{w w':m4}(h:PW w)(hn:w'.a6=w.a6)(hm:∀m∈w'.b9,m∈w.b9):PW w':=by
 obtain ⟨V,P,M,h1,h2⟩:=h;exact ⟨V,P,M,by rw [e0F hn];exact h1,fun m q=>h2 m (hm m q)⟩
theorem a2B{w:m4}{l:List l9}{m:l9}(h:m∈(a0R w l).b9):m∈w.b9\/m∈l:=
 (f6b.1 h).imp id f7e
theorem b78{w:m4}{i:Int}{m:l9}(h:m∈(a3c w i).b9):m∈w.b9:=
 (f6b.1 h).elim f7e f7d
theorem e4C{w:m4}(h:WI w)(hp:PW w){e:q9}(he:K0 e):PW (C0 w e):=by
 obtain ⟨V,P,M,h1,hM⟩:=hp;have hp:PW w:=⟨V,P,M,h1,hM⟩
 unfold C0;cases hk:e.a9==2||(e.a9==3||e.a9==4)
 ·simp only [f8w];cases hA:q8 e.A 0 2
  ·exact hp
  simp only [f6f,f8w];rw [H8] at hA;obtain ⟨i,hi⟩:∃i:Nat,e.A=(i:Int):=⟨e.A.toNat,by omega⟩
  have hi3:i<3:=by omega
  have hD:D3 (i:Int):=by unfold D3;omega
  rw [hi];have hN:u5 w (i:Int)=G8 w (i:Int):=a17 hD;cases e.a9==1
  ·cases e.a9==5
   ·cases e.a9==6
    ·cases e.a9==7
     ·exact hp
     ·have hg:=h1.fall hD;rw [hN] at hg;exact PW.put (V:=V) (P:=P) h hi3 hM hg rfl fun m hm=>.inl hm
    ·have hg:=h1.retry hD;rw [hN] at hg;exact PW.put (V:=V) (P:=P) h hi3 hM hg rfl fun m hm=>a2B (w:=N5 w _ _) hm
   ·have hg:=h1.rise hD;rw [hN] at hg;exact PW.put (V:=V) (P:=P) h hi3 hM hg rfl fun m hm=>a2B (w:=N5 w _ _) hm
  ·simp only [f8v];unfold a4g;cases decide (60<=w.d7.length)
   ·have hg:=h1.ask hD (A3.fits he (by decide));rw [hN] at hg;simp only [f8w];cases decide ((K5 (G8 w (i:Int)) e.i7).1.Seq>(G8 w (i:Int)).Seq)
    ·exact PW.put (V:=V) (P:=P) h hi3 hM hg rfl fun m hm=>a2B (w:=N5 w _ _) hm
    ·exact PW.put (V:=V) (P:=P) h hi3 hM hg rfl fun m hm=>a2B (w:=N5 {w with d7:=w.d7++[_]} _ _) hm
   ·exact hp
 ·simp only [f8v];unfold a1d;cases hA:decide (0<=e.A)
  ·exact hp
  simp only [f8v];cases hm:w.b9[e.A.toNat]? with
  | none=>exact hp
  | some m=>
   have hmem:=f6o hm;simp only;cases e.a9==4
   ·cases e.a9==3
    ·simp only [f8w];have hmi:=(h1.ms m (hM m hmem)).1;have hto:=hmi.to;obtain ⟨t,htt⟩:∃t:Nat,m.To=(t:Int):=⟨m.To.toNat,by omega⟩
     have hD:D3 (t:Int):=by unfold D3;omega
     have hN:u5 w (t:Int)=G8 w (t:Int):=a17 hD;have hg:=h1.take hD (hM m hmem) htt;rw [hN] at hg;rw [htt];exact PW.put (V:=V) (P:=P) h (show t<3 by omega) hM hg rfl fun x hx=>(a2B (w:=N5 (a3c w e.A) _ _) hx).imp (fun q=>b78 q) id
    ·exact hp.less rfl fun x hx=>b78 hx
   ·exact hp.less rfl fun x hx=>(a2B hx).elim id fun q=>by rw [f6h.1 q];exact hmem
theorem f2F:PW M4:=by
 have hn:∀j,D3 j->u5 M4 j=C6 j:=fun j hj=>by
  rw [a17 hj];unfold D3 at hj;obtain rfl|rfl|rfl:j=0\/j=1\/j=2:=by omega
  all_goals rfl
 refine ⟨fun _ _ _ _=>False,fun _ _ _=>False,fun _=>False,⟨fun i hi => ?_,fun _ _ _ _ v=>v.elim,fun i s v hi hs _ => ?_,fun _ _ _ _ v=>v.elim,fun _ _ _ _ p=>p.elim,fun _ _ _ p=>p.elim,fun _ _ _ p=>p.elim,fun i hi => ?_,fun i s e hi hk => ?_,fun _ hm=>hm.elim⟩,fun m hm=>by cases hm⟩
 ·rw [hn i hi];exact ⟨NI.open hi,rfl⟩
 ·rw [hn i hi] at hs;simp [C6] at hs
 ·rw [hn i hi];exact .none rfl
 ·rw [hn i hi] at hk;simp [C6] at hk
structure ND(L:m6->Prop)(n:j7):Prop where
 kn:∀e∈n.a5,L e
 av:∀v∈n.Acc.a7,v.a8>0->L v.i0
 bv:∀v∈n.i5,v.a8>0->L v.i0
 cu:n.d8=3->L n.d6
 wt:n.i9=true->L n.b7
 qu:∀e∈n.d9,L e
structure ML(L:m6->Prop)(m:l9):Prop where
 en:m.a9=3\/m.a9=5\/m.a9=7->L m.i0
 vs:∀v∈m.a7,v.a8>0->L v.i0
def TO(n x:j7)(ts:List n5):Prop:=ts=[]\/(n.i9=true/\x.i9=false/\∃k,x.a5.findIdx? (F4 n.b7.a0)=some k/\ts=[⟨n.Id,n.b7.a0,Q4 x.a5 k,bif Q4 x.a5 k==0 then U2 x.a5 n.b7.a0 else 0⟩])
structure Act(L:m6->Prop)(n x:j7)(l:List l9)(ts:List n5):Prop where
 id:x.Id=n.Id
 sq:x.Seq=n.Seq
 kn:∃t,x.a5=n.a5++t
 bw:(x.i9=n.i9/\x.b7=n.b7)\/x.i9=false
 nd:ND L x
 ml:∀m∈l,ML L m
 to:TO n x ts
end
end Go.Proofs.YtijjifellblecaaGreat
